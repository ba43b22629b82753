/- Contracts of the reference's draws of beacons: l15Draw, DrawBeaconCount, DrawRunBeaconRound. The given slice holds bytes. -/
import Derived.Test.YtijdlogcbnebcaaGreatD31
import Derived.Test.YtijdlogcbnebcaaGreatL15b
import Derived.Test.YtijdlogcbnebcaaGreatL15h
import Derived.Test.YtijdlogcbnebcaaGreatP31
namespace Go.Proofs.YtijdlogcbnebcaaGreat
open Go.RowKit
set_option linter.unusedVariables false
theorem BeaconingO.d {lo hi g : Nat} {w w' : World} {v : Value} {x : DBeaconing} (h : BeaconingO lo hi w v x) (hd : D g w w') (hg : g < lo) : BeaconingO lo hi w' v x := h.keep fun k h1 _ h3 => hd.block h3 (by omega)
theorem BeaconingO.dUp {lo g : Nat} {w w' : World} {v : Value} {x : DBeaconing} (h : BeaconingO lo w.heap.size w v x) (hd : D g w w') (hg : g < lo) : BeaconingO lo w'.heap.size w' v x := (h.d hd hg).more (Nat.le_refl _) hd.size
theorem BeaconingO.kp {lo hi m : Nat} {a b : World} {v : Value} {x : DBeaconing} (h : BeaconingO lo hi a v x) (hk : Kp m a b) (hm : m ≤ lo) (hh : hi ≤ a.heap.size) : BeaconingV b.heap.size b v x :=
  BeaconingO_rd ((h.keep fun k h1 _ _ => hk.same k (by omega)).more (Nat.le_refl _) (by rw [hk.size]; exact hh)) (Nat.le_refl _)
theorem PolicySO.kp {lo hi m : Nat} {a b : World} {v : Value} {t : List DPolicy} (h : PolicySO lo hi a v t) (hk : Kp m a b) (hm : m ≤ lo) (hh : hi ≤ a.heap.size) : PolicyS b.heap.size b v t :=
  PolicySO_rd (Own.more (lo' := lo) (hi' := b.heap.size) (h.keep fun k h1 _ _ => hk.same k (by omega)) (Nat.le_refl _) (by rw [hk.size]; exact hh))
/-- Beacons of one's own, few and short. -/
def BeacF (lo : Nat) (v : Value) (W : World) : Prop := ∃ b, BeaconingO lo W.heap.size W v b ∧ Small b.stores
theorem BeacF.d {lo g : Nat} {v : Value} {W W' : World} (h : BeacF lo v W) (hd : D g W W') (hg : g < lo) : BeacF lo v W' := by
  obtain ⟨x, ho, hx⟩ := h
  exact ⟨x, ho.dUp hd hg, hx⟩
theorem BeacF.vals {lo : Nat} {v : Value} {W : World} (h : BeacF lo v W) : ∃ (ts : Int) (A : Option Addr) (n c : Nat), v = .agg #[I ts, .slice A n c] := by
  obtain ⟨x, ho, -⟩ := h
  obtain ⟨A, n, c, e⟩ := ho.shape
  exact ⟨_, _, _, _, e⟩
set_option maxRecDepth 100000 in
set_option maxHeartbeats 4000000 in
theorem spec_l15Draw (g : Nat) (w : World) (hc : Cur w g) : Calls Tryz.prog 15 #[.pointer (some ⟨g, 0, none⟩)] w fun e w' => (∃ vt vl vx, e = .returned (.tuple #[vt, vl, vx]) ∧ ∃ t l b, TopologyO w.heap.size w'.heap.size w' vt t ∧ DrawnTopo t ∧ PolicySO w.heap.size w'.heap.size w' vl l ∧ l.length = t.ases.length ∧ BeaconingO w.heap.size w'.heap.size w' vx b ∧ Small b.stores) ∧ D g w w' := by
  have HC := Lib.hid hc
  have hgw := hc.lt
  clear hc
  go_enter Tryz.func15, Tryz.ntmps15
  go_wp2_with fail
  refine name_calls (fun W => D g w W ∧ W.heap.size = w.heap.size + 1 + 1 ∧ Blk W w.heap.size 27 [.slice none 0 0, .slice none 0 0] ∧ Blk W (w.heap.size + 1) 31 [I 0, .slice none 0 0]) ⟨xd, by simp only [World.size_alloc], xb, xb⟩ ?_
  rintro wa ⟨da, za_, br0, br1⟩
  obtain ⟨za, za'⟩ := le_both za_
  clear za_
  have B0 := Lib.hid br0; have B1 := Lib.hid br1; clear br0 br1
  have HCA := Lib.hid (da.cur HC.out)
  refine (spec_l5Draw g wa HCA.out).mono ?_
  rintro e w2 ⟨v1, rfl, ⟨t, ot, hdt⟩, d2⟩
  have z2 := d2.size
  obtain ⟨At_0, nt_0, ct_0, At_1, nt_1, ct_1, rfl, st_0, st_1⟩ := ot.v
  obtain ⟨lt_0, kt_0, mt_0⟩ := st_0.len
  subst lt_0
  have OT := Lib.hid ot; have HDT := Lib.hid hdt; clear ot st_0 st_1
  have ht8 : t.ases.length ≤ 8 := hdt.2.1
  clear hdt
  go_wp2_with fail
  refine name_calls (fun W => Ext w2 W ∧ W.heap.size = w2.heap.size + 1 ∧ Blk W w2.heap.size 27 [.slice At_0 t.ases.length ct_0, .slice At_1 nt_1 ct_1]) ⟨xe, by simp only [World.size_alloc], xb⟩ ?_
  rintro wx ⟨ex, zx_, b5⟩
  obtain ⟨zx, zx'⟩ := le_both zx_
  clear zx_
  have BTX := Lib.hid b5; clear b5
  have dax : D g wa wx := D.trans d2 (D.of_ext ex (by omega))
  have OTX := Lib.hid (OT.out.ext ex (Nat.le_refl _))
  refine (spec_l12List g t.ases.length wx (dax.cur HCA.out) (by omega)).mono ?_
  rintro e w3 ⟨v3, rfl, ⟨l, ol, hll⟩, d3⟩
  obtain ⟨Al, nl, cl, rfl⟩ := ol.slice
  have OL := Lib.hid ol; clear ol
  have z3 := d3.size
  have da3 : D g wa w3 := D.trans dax d3
  have BT3 := Lib.hid (BTX.out.d d3 (by omega))
  have OT3 := Lib.hid (OTX.out.d d3 (by omega))
  have HC3 := Lib.hid (da3.cur HCA.out)
  have hg3 : g < w3.heap.size := by omega
  have nb0 : ¬ w2.heap.size = g := by omega
  have b4_ := BT3.out.ext (w' := w3) xe
  have lb4_ := b4_.lt
  obtain ⟨qb4__0, qb4__1⟩ := blk2 b4_
  have fb4__0 := b4_.frozen 0
  have fb4__1 := b4_.frozen 1
  clear b4_
  go_wp2_with fail
  refine wp_region_LT 5 (E := D g) (w0 := w3) (G := fun τ => match τ with | 7 => some (fun v W => Zero1 31 w3.heap.size [I 0, .slice none 0 0] v W) | 18 => some (fun v W => ∃ x : Int, v = I x) | 19 => some (fun v W => BeacF w3.heap.size v W) | _ => none) (D.refl g) (fun h k => D.trans h k) (by kernel_rfl) (by kernel_rfl) (by kernel_rfl) (by kernel_rfl) (by kernel_rfl) (by kernel_rfl) (by intro t φ hG; split at hG; all_goals first | (cases hG; done) | (cases Option.some.inj hG; intro v W W' hE hv; first | exact hv | exact hv.d hE (by omega) | (obtain ⟨y, hy⟩ := hv; exact ⟨y, Fresh1.d hy hE (by omega)⟩))) (D.drew (by exact D.refl _ _)) ?_
  simp only [List.take_succ_cons, List.take_zero]
  repeat' (first
    | ((with_reducible refine wpL_skip ?_ ?_ ?_)
       · rfl
       · rfl
       simp only [Act.put, List.setIfInBounds_toArray, List.set_cons_zero, List.set_cons_succ])
    | ((with_reducible refine wpL_quiet ?_ ?_ ?_ ?_)
       · rfl
       · rfl
       · rfl
       apply Exists.intro
       refine ⟨fun W hW hS => ?_, ?_⟩
       · have hC := (D.facts hW).1
         go_simp
         first | done | (with_reducible rfl) | (rw [if_neg (by omega)]; exact ⟨rfl, rfl⟩) | rfl
       first | (with_reducible refine wpL_boolT ?_) | (with_reducible refine wpL_boolF ?_) | (with_reducible refine wpL_bool (fun hB => ?_) (fun hB => ?_)) | skip
       all_goals simp only [Act.put, List.setIfInBounds_toArray, List.set_cons_zero, List.set_cons_succ])
    | ((refine wpL_grow ?_ rfl rfl ?_ ?_)
       · rfl
       · intro W hW hS
         have hC := (D.facts hW).1
         unfold growAt
         go_simp
         simp only [growUpon]
         first | (exact ⟨D.of_ext ((Ext.refl _).alloc _) (Nat.lt_of_lt_of_le hg3 hW.size), ⟨_, rfl, hW.size, Blk.new _ _ _⟩⟩) | (go_at_call 35; (with_reducible refine Calls.mono (spec_l1Below g 30 _ (hW.cur HC3.out) (by omega)) ?_); rintro e w9 ⟨x, rfl, hx, d9⟩; exact ⟨_, rfl, d9, ⟨x, rfl⟩⟩) | (go_at_call 34; (with_reducible refine Calls.mono (spec_NewBeaconing _ x18 t _ (by exact TopologyO_rd (OT3.out.d hW (by omega)) (by have h5 := D.size hW; omega))) ?_); rintro e w9_ ⟨v9, rfl, o9, e9⟩; exact ⟨_, rfl, D.of_ext e9 (by have h5 := D.size hW; omega), ⟨_, BeaconingO.more o9 (D.size hW) (Nat.le_refl _), newBeac_small t x18⟩⟩)
       intro v W' hW' hv
       first | ((with_reducible refine intro_at 7 _ ?_); obtain ⟨g7, rfl, hg7, hb7⟩ := hv) | ((with_reducible refine intro_at 18 _ ?_); obtain ⟨x18, rfl⟩ := hv) | (obtain ⟨ts4, A4, n4, c4, rfl⟩ := BeacF.vals hv) | (obtain ⟨A5, n5, c5, rfl, -⟩ := id hv; clear hv) | (obtain ⟨A5, n5, c5, rfl⟩ := NO.slice hv) | skip
       all_goals simp only [Act.put, List.setIfInBounds_toArray, List.set_cons_zero, List.set_cons_succ]))
  refine wpL_nil (fun w4 e4 hL => ?_)
  obtain ⟨b0, ob0, sb0⟩ : BeacF w3.heap.size (.agg #[I ts4, .slice A4 n4 c4]) w4 := hL 19
  obtain ⟨gb, hvb, hgb, hbb⟩ : Zero1 31 w3.heap.size [I 0, .slice none 0 0] _ w4 := hL 7
  cases hvb
  clear hL lb4_ qb4__0 qb4__1 fb4__0 fb4__1
  have OB := Lib.hid ob0; have SB := Lib.hid sb0; have HBB := Lib.hid hbb; clear ob0 sb0 hbb
  have z4 := e4.size
  have gb4 := HBB.out.lt
  have b7_ := HBB.out.ext (w' := w4) xe
  have lb7_ := b7_.lt
  obtain ⟨qb7__0, qb7__1⟩ := blk2 b7_
  have fb7__0 := b7_.frozen 0
  have fb7__1 := b7_.frozen 1
  clear b7_
  simp only [List.drop_succ_cons, List.drop_zero]
  go_wp2_with fail
  refine name_calls (fun W => D g w3 W ∧ W.heap.size = w4.heap.size ∧ Blk W g7 31 [I ts4, .slice A4 n4 c4] ∧ BeaconingO w3.heap.size w4.heap.size W (.agg #[I ts4, .slice A4 n4 c4]) b0) ⟨D.setNew (D.setNew e4 hg3 (by dsimp only; omega) _) hg3 (by dsimp only; omega) _, by simp only [World.size_setCell], by simpa using (HBB.out.set_ 0 (I ts4)).set_ 1 (.slice A4 n4 c4), BeaconingO.setT (BeaconingO.setT OB.out HBB.out 0 _) (HBB.out.set_ 0 _) 1 _⟩ ?_
  clear lb7_ qb7__0 qb7__1 fb7__0 fb7__1
  rintro w5 ⟨d35, z5_, b7, ob5⟩
  obtain ⟨z5, z5'⟩ := le_both z5_
  clear z5_
  have B7 := Lib.hid b7; have OB5 := Lib.hid ob5; clear b7 ob5
  refine (spec_l1Below g 4 w5 (d35.cur HC3.out) (by omega)).mono ?_
  rintro e w6 ⟨x6, rfl, ⟨x6a, x6b, -⟩, d6⟩
  have x6b := x6b (by omega)
  obtain ⟨c6, rfl⟩ : ∃ c : Nat, x6 = (c : Int) := ⟨x6.toNat, by omega⟩
  have z6 := d6.size
  have nb1 : ¬ g7 = g := by omega
  go_wp2_with fail
  go_loopw [8] (fun i wr => ∃ (k : Nat) (y : DBeaconing) (yt : Int) (yA : Option Addr) (yn yc : Nat), k ≤ 3 ∧ i = I k ∧ Blk wr g7 31 [I yt, .slice yA yn yc] ∧ BeaconingO w3.heap.size wr.heap.size wr (.agg #[I yt, .slice yA yn yc]) y ∧ Small y.stores ∧ D g w3 wr) (fun i _ => (intOf i).toNat)
  case atStart => exact ⟨c6, b0, ts4, A4, n4, c4, by omega, rfl, B7.out.d d6 (by omega), (OB5.out.d d6 (by omega)).more (Nat.le_refl _) (by omega), SB.out, D.trans d35 d6⟩
  case round =>
    obtain ⟨k, y, yt, yA, yn, yc, hk, rfl, hb, hy, hs, hd⟩ := hrel
    have HB7 := Lib.hid hb; have HY := Lib.hid hy; have HS := Lib.hid hs; clear hb hy hs
    have zr := hd.size
    have d3r : D g w3 wr := hd
    have BTr := Lib.hid (BT3.out.d d3r (by omega)); have OTr := Lib.hid (OT3.out.d d3r (by omega)); have OLr := Lib.hid (Own.dUp OL.out d3r (by omega))
    have b4_ := BTr.out.ext (w' := wr) xe
    have lb4_ := b4_.lt
    obtain ⟨qb4__0, qb4__1⟩ := blk2 b4_
    have fb4__0 := b4_.frozen 0
    have fb4__1 := b4_.frozen 1
    clear b4_
    have b7_ := HB7.out.ext (w' := wr) xe
    have lb7_ := b7_.lt
    obtain ⟨qb7__0, qb7__1⟩ := blk2 b7_
    have fb7__0 := b7_.frozen 0
    have fb7__1 := b7_.frozen 1
    clear b7_
    by_cases hk0 : 0 < k
    · obtain ⟨km, rfl⟩ : ∃ km : Nat, k = km + 1 := ⟨k - 1, by omega⟩
      have i2 : (0 : Int) < ((km + 1 : Nat) : Int) := by omega
      have hst := small_tot HS.out
      have HSR := Lib.hid (runRound_small (t := t) (l := l) HS.out)
      go_wp2_with fail
      refine (spec_RunBeaconRound _ _ _ t l y wr (by exact TopologyO_rd OTr.out (by omega)) (by exact PolicySO_rd OLr.out) (by exact BeaconingO_rd HY.out (Nat.le_refl _)) (by omega)).mono ?_
      rintro e w7 ⟨v7, rfl, o7, e7⟩
      generalize runRound t l y = y7 at *
      obtain ⟨A7, n7, c7, hv7⟩ := o7.shape
      subst hv7
      have O7 := Lib.hid o7; clear o7
      have z7 := e7.size
      have HB8 := Lib.hid (HB7.out.ext e7)
      clear lb4_ qb4__0 qb4__1 fb4__0 fb4__1 lb7_ qb7__0 qb7__1 fb7__0 fb7__1
      have b7_ := HB8.out.ext (w' := w7) xe
      have lb7_ := b7_.lt
      obtain ⟨qb7__0, qb7__1⟩ := blk2 b7_
      have fb7__0 := b7_.frozen 0
      have fb7__1 := b7_.frozen 1
      clear b7_
      go_wp2_with fail
      go_roundw
      case rel =>
        exact ⟨km, y7, y7.ts, A7, n7, c7, by omega, by go_num, by simpa using (HB8.out.set_ 0 (I y7.ts)).set_ 1 (.slice A7 n7 c7), by simp only [World.size_setCell]; exact BeaconingO.setT (BeaconingO.setT (BeaconingO.more O7.out (by omega) (Nat.le_refl _)) HB8.out 0 (I y7.ts)) (HB8.out.set_ 0 (I y7.ts)) 1 (.slice A7 n7 c7), HSR.out, D.setNew (D.setNew (D.trans hd (D.of_ext e7 (by omega))) (by omega) (by dsimp only; omega) _) (by omega) (by dsimp only; omega) _⟩
      case measure => first | (simp [intOf]; done) | (simp [intOf]; omega)
    · obtain rfl : k = 0 := by omega
      have i2 : ¬ (0 : Int) < ((0 : Nat) : Int) := by omega
      have dar : D g wa wr := D.trans da3 d3r
      have B0r := Lib.hid (B0.out.d dar (by omega)); have B1r := Lib.hid (B1.out.d dar (by omega))
      have nb2 : ¬ w2.heap.size = w.heap.size := by omega
      have nb3 : ¬ w.heap.size = w2.heap.size := by omega
      have nb4 : ¬ w2.heap.size = w.heap.size + 1 := by omega
      have nb5 : ¬ w.heap.size + 1 = w2.heap.size := by omega
      have nb6 : ¬ g7 = w.heap.size := by omega
      have nb7 : ¬ w.heap.size = g7 := by omega
      have nb8 : ¬ g7 = w.heap.size + 1 := by omega
      have nb9 : ¬ w.heap.size + 1 = g7 := by omega
      have c0_ := B0r.out.ext (w' := wr) xe
      have lc0_ := c0_.lt
      obtain ⟨qc0__0, qc0__1⟩ := blk2 c0_
      have fc0__0 := c0_.frozen 0
      have fc0__1 := c0_.frozen 1
      clear c0_
      have c1_ := B1r.out.ext (w' := wr) xe
      have lc1_ := c1_.lt
      obtain ⟨qc1__0, qc1__1⟩ := blk2 c1_
      have fc1__0 := c1_.frozen 0
      have fc1__1 := c1_.frozen 1
      clear c1_
      go_wp2_with fail
      go_region
      all_goals
        go_wp2_with fail
        refine bodyPost_ret (v := .tuple #[.agg #[.slice At_0 t.ases.length ct_0, .slice At_1 nt_1 ct_1], .slice Al nl cl, .agg #[I yt, .slice yA yn yc]]) (by simp [results, Tryz.results15, go_sem, *]) rfl ⟨⟨_, _, _, rfl, t, l, y, ?_, HDT.out, ?_, hll, ?_, HS.out⟩, ?_⟩
        · exact TopologyO.more (OTr.out.keep fun k h1 _ _ => (kp (lo := wa.heap.size)).same k h1) (by omega) (Nat.le_trans (by omega) (Nat.le_of_eq (kp (lo := wa.heap.size) (a := wr)).size.symm))
        · exact Own.more (OLr.out.keep fun k h1 _ _ => (kp (lo := wa.heap.size)).same k (by omega)) (by omega) (Nat.le_of_eq (kp (lo := wa.heap.size) (a := wr)).size.symm)
        · exact BeaconingO.more (HY.out.keep fun k h1 _ _ => (kp (lo := wa.heap.size)).same k (by omega)) (by omega) (Nat.le_of_eq (kp (lo := wa.heap.size) (a := wr)).size.symm)
        · have dwr : D g w wr := D.trans da dar
          exact xd
set_option maxRecDepth 100000 in
set_option maxHeartbeats 1000000 in
theorem spec_DrawBeaconCount (vb : Value) (bs : List Nat) (w : World) (hb : ByteS w.heap.size w vb bs) (hn : bs.length ≤ 1048576) : Calls Tryz.prog 7 #[vb] w fun e w' => (∃ vx, e = .returned vx ∧ ∃ b, BeaconingV w'.heap.size w' vx b ∧ Small b.stores) ∧ Ext w w' := by
  have HB := Lib.hid hb; clear hb
  go_enter Tryz.func7, Tryz.ntmps7
  go_wp2_with fail
  refine name_calls (fun W => Ext w W ∧ W.heap.size = w.heap.size + 1 ∧ Blk W (w.heap.size) 31 [I 0, .slice none 0 0]) ⟨xe, by simp only [World.size_alloc], xb⟩ ?_
  rintro wa ⟨ea, za_, br0⟩
  obtain ⟨za, za'⟩ := le_both za_
  clear za_
  have B0 := Lib.hid br0; clear br0
  refine (spec_l1NewB vb bs w.heap.size wa (HB.out.keep ByteAt.keeps (Nat.le_refl _) fun k hk => ea.same k hk) (by omega) hn).mono ?_
  rintro e w1 ⟨g, rfl, hg, hcur, e1⟩
  have HCB := Lib.hid hcur
  have HC := Lib.hid hcur.cur
  have hg1 := hcur.lt
  clear hcur
  have z1 := e1.size
  go_wp2_with fail
  refine (spec_l15Draw g w1 HC.out).mono ?_
  rintro e w2 ⟨⟨v1, v2, v3, rfl, t, l, b, ot, hdt, ol, hll, ob, hsb⟩, d2⟩
  have z2 := d2.size
  have e2 : Ext wa w2 := d2.ext e1 hg
  have ot := ot.l (Nat.le_refl _)
  obtain ⟨A0, c0, A1, c1, rfl⟩ := ot.shape
  obtain ⟨Al, nl, cl, rfl⟩ := ol.slice
  obtain ⟨A7, n77, c7, rfl⟩ := ob.shape
  have OT := Lib.hid ot; have OL := Lib.hid ol; have OB := Lib.hid ob; have HSB := Lib.hid hsb; clear ot ol ob hsb hdt
  have ew2 : Ext w w2 := Ext.trans ea e2
  have B02 := Lib.hid (B0.out.ext e2)
  have c0_ := B02.out.ext (w' := w2) xe
  have lc0_ := c0_.lt
  obtain ⟨qc0__0, qc0__1⟩ := blk2 c0_
  have fc0__0 := c0_.frozen 0
  have fc0__1 := c0_.frozen 1
  clear c0_
  go_wp2_with fail
  refine bodyPost_ret (v := .agg #[I b.ts, .slice A7 n77 c7]) (by simp [results, Tryz.results7, go_sem, *]) rfl ⟨⟨_, rfl, b, ?_, HSB.out⟩, ?_⟩
  · exact BeaconingV.ext (BeaconingO.kp (m := wa.heap.size) (b := (w2.setCell ⟨w.heap.size, 0, none⟩ (I b.ts)).setCell ⟨w.heap.size, 1, none⟩ (.slice A7 n77 c7)) OB.out kp (by omega) (by omega)) xe
  · exact Ext.alloc (Ext.alloc xset _) _
set_option maxRecDepth 100000 in
set_option maxHeartbeats 1000000 in
theorem spec_DrawRunBeaconRound (vb : Value) (bs : List Nat) (w : World) (hb : ByteS w.heap.size w vb bs) (hn : bs.length ≤ 1048576) : Calls Tryz.prog 5 #[vb] w fun e w' => (∃ vt vl vx, e = .returned (.tuple #[vt, vl, vx]) ∧ ∃ t l b, TopologyV w'.heap.size w' vt t ∧ PolicyS w'.heap.size w' vl l ∧ BeaconingV w'.heap.size w' vx b ∧ Small b.stores) ∧ Ext w w' := by
  have HB := Lib.hid hb; clear hb
  go_enter Tryz.func5, Tryz.ntmps5
  go_wp2_with fail
  refine name_calls (fun W => Ext w W ∧ W.heap.size = w.heap.size + 1 + 1 ∧ Blk W (w.heap.size) 27 [.slice none 0 0, .slice none 0 0] ∧ Blk W (w.heap.size + 1) 31 [I 0, .slice none 0 0]) ⟨xe, by simp only [World.size_alloc], xb, xb⟩ ?_
  rintro wa ⟨ea, za_, br0, br1⟩
  obtain ⟨za, za'⟩ := le_both za_
  clear za_
  have B0 := Lib.hid br0; have B1 := Lib.hid br1; clear br0 br1
  refine (spec_l1NewB vb bs w.heap.size wa (HB.out.keep ByteAt.keeps (Nat.le_refl _) fun k hk => ea.same k hk) (by omega) hn).mono ?_
  rintro e w1 ⟨g, rfl, hg, hcur, e1⟩
  have HCB := Lib.hid hcur
  have HC := Lib.hid hcur.cur
  have hg1 := hcur.lt
  clear hcur
  have z1 := e1.size
  go_wp2_with fail
  refine (spec_l15Draw g w1 HC.out).mono ?_
  rintro e w2 ⟨⟨v1, v2, v3, rfl, t, l, b, ot, hdt, ol, hll, ob, hsb⟩, d2⟩
  have z2 := d2.size
  have e2 : Ext wa w2 := d2.ext e1 hg
  have ot := ot.l (Nat.le_refl _)
  obtain ⟨A0, c0, A1, c1, rfl⟩ := ot.shape
  obtain ⟨Al, nl, cl, rfl⟩ := ol.slice
  obtain ⟨A7, n77, c7, rfl⟩ := ob.shape
  have OT := Lib.hid ot; have OL := Lib.hid ol; have OB := Lib.hid ob; have HSB := Lib.hid hsb; clear ot ol ob hsb hdt
  go_wp2_with fail
  refine name_calls (fun W => Ext w2 W ∧ W.heap.size = w2.heap.size + 1 + 1 ∧ Blk W w2.heap.size 27 [.slice A0 t.ases.length c0, .slice A1 t.links.length c1] ∧ Blk W (w2.heap.size + 1) 31 [I b.ts, .slice A7 n77 c7]) ⟨xe, by simp only [World.size_alloc], xb, xb⟩ ?_
  rintro w3 ⟨e3, z3_, b5, b6⟩
  obtain ⟨z3, z3'⟩ := le_both z3_
  clear z3_
  have BT := Lib.hid b5; have BX := Lib.hid b6; clear b5 b6
  have ea3 : Ext wa w3 := Ext.trans e2 e3
  have ew3 : Ext w w3 := Ext.trans ea ea3
  have d3 : D g w2 w3 := D.of_ext e3 (by omega)
  have OT3 := Lib.hid (OT.out.d d3 (by omega)); have OL3 := Lib.hid (OL.out.d d3 (by omega)); have OB3 := Lib.hid (OB.out.d d3 (by omega))
  have HCB3 := Lib.hid (d3.cur (d2.cur HCB.out))
  have hg3 : g < w3.heap.size := by omega
  have d13 : D g w1 w3 := D.trans d2 d3
  refine (spec_l1Once g 10 w3 (d13.cur HC.out) (by omega)).mono ?_
  rintro e w4 ⟨b4, rfl, d4⟩
  have z4 := d4.size
  have BT4 := Lib.hid (BT.out.d d4 (by omega)); have BX4 := Lib.hid (BX.out.d d4 (by omega))
  have OT4 := Lib.hid (OT3.out.d d4 (by omega)); have OL4 := Lib.hid (OL3.out.d d4 (by omega)); have OB4 := Lib.hid (OB3.out.d d4 (by omega))
  have d14 : D g w1 w4 := D.trans d13 d4
  have HC4 := Lib.hid (d14.cur HC.out)
  have nbx : ¬ w2.heap.size + 1 = w2.heap.size := by omega
  cases b4
  case' true =>
    go_wp2_with fail
    refine (spec_l5Any g w4 HC4.out).mono ?_
    rintro e w5 ⟨v5, rfl, ⟨t5, ot5, -, -⟩, d5⟩
    obtain ⟨B0_, q0, B1_, q1, rfl⟩ := ot5.shape
    have z5 := d5.size
    have OT5 := Lib.hid ot5; clear ot5
    have BT5 := Lib.hid (BT4.out.d d5 (by omega)); have BX5 := Lib.hid (BX4.out.d d5 (by omega)); have OL5 := Lib.hid (OL4.out.d d5 (by omega)); have OB5 := Lib.hid (OB4.out.d d5 (by omega))
    have b4_ := BT5.out.ext (w' := w5) xe
    have lb4_ := b4_.lt
    obtain ⟨qb4__0, qb4__1⟩ := blk2 b4_
    have fb4__0 := b4_.frozen 0
    have fb4__1 := b4_.frozen 1
    clear b4_
    go_wp2_with fail
    clear lb4_ qb4__0 qb4__1 fb4__0 fb4__1
    refine name_wp (fun W => D g w1 W ∧ (∃ t' A0 c0 A1 c1, Blk W w2.heap.size 27 [.slice A0 t'.ases.length c0, .slice A1 t'.links.length c1] ∧ TopoL wa.heap.size W (.agg #[.slice A0 t'.ases.length c0, .slice A1 t'.links.length c1]) t') ∧ Blk W (w2.heap.size + 1) 31 [I b.ts, .slice A7 n77 c7] ∧ PolicySO w1.heap.size w2.heap.size W (.slice Al nl cl) l ∧ BeaconingO w1.heap.size w2.heap.size W (.agg #[I b.ts, .slice A7 n77 c7]) b) ⟨D.setNew (D.setNew (D.trans d14 d5) hg1 (by dsimp only; omega) _) hg1 (by dsimp only; omega) _, ⟨t5, B0_, q0, B1_, q1, by simpa using (BT5.out.set_ 0 (.slice B0_ t5.ases.length q0)).set_ 1 (.slice B1_ t5.links.length q1), (TopoL.far (TopoL.far OT5.out (by dsimp only; omega) _) (by dsimp only; omega) _).less (by omega)⟩, (BX5.out.far (by dsimp only; omega) _).far (by dsimp only; omega) _, Own.setCell (Own.setCell OL5.out (.inr (by dsimp only; omega)) _) (.inr (by dsimp only; omega)) _, OB5.out.keep fun k h1 h2 _ => by rw [Below.heap_setCell _ _ _ _ (by dsimp only; omega), Below.heap_setCell _ _ _ _ (by dsimp only; omega)]⟩ ?_
  case' false =>
    go_wp2_with fail
    refine name_wp (fun W => D g w1 W ∧ (∃ t' A0 c0 A1 c1, Blk W w2.heap.size 27 [.slice A0 t'.ases.length c0, .slice A1 t'.links.length c1] ∧ TopoL wa.heap.size W (.agg #[.slice A0 t'.ases.length c0, .slice A1 t'.links.length c1]) t') ∧ Blk W (w2.heap.size + 1) 31 [I b.ts, .slice A7 n77 c7] ∧ PolicySO w1.heap.size w2.heap.size W (.slice Al nl cl) l ∧ BeaconingO w1.heap.size w2.heap.size W (.agg #[I b.ts, .slice A7 n77 c7]) b) ⟨d14, ⟨t, A0, c0, A1, c1, BT4.out, OT4.out.less (by omega)⟩, BX4.out, OL4.out, OB4.out⟩ ?_
  all_goals
    rintro w6 ⟨d6, ⟨t6, D0, p0, D1, p1, bt6, ot6⟩, bx6, ol6, ob6⟩
    have BT6 := Lib.hid bt6; have OT6 := Lib.hid ot6; have BX6 := Lib.hid bx6; have OL6 := Lib.hid ol6; have OB6 := Lib.hid ob6; clear bt6 ot6 bx6 ol6 ob6
    have z6 := d6.size
    have ea6 : Ext wa w6 := d6.ext e1 hg
    have ew6 : Ext w w6 := Ext.trans ea ea6
    have B06 := Lib.hid (B0.out.ext ea6); have B16 := Lib.hid (B1.out.ext ea6)
    have n1 : ¬ w2.heap.size = w.heap.size := by omega
    have n2 : ¬ w.heap.size = w2.heap.size := by omega
    have n3 : ¬ w2.heap.size = w.heap.size + 1 := by omega
    have n4 : ¬ w.heap.size + 1 = w2.heap.size := by omega
    have n5 : ¬ w2.heap.size + 1 = w.heap.size := by omega
    have n6 : ¬ w.heap.size = w2.heap.size + 1 := by omega
    have n7 : ¬ w2.heap.size + 1 = w.heap.size + 1 := by omega
    have n8 : ¬ w.heap.size + 1 = w2.heap.size + 1 := by omega
    have b4_ := BT6.out.ext (w' := w6) xe
    have lb4_ := b4_.lt
    obtain ⟨qb4__0, qb4__1⟩ := blk2 b4_
    have fb4__0 := b4_.frozen 0
    have fb4__1 := b4_.frozen 1
    clear b4_
    have b6_ := BX6.out.ext (w' := w6) xe
    have lb6_ := b6_.lt
    obtain ⟨qb6__0, qb6__1⟩ := blk2 b6_
    have fb6__0 := b6_.frozen 0
    have fb6__1 := b6_.frozen 1
    clear b6_
    have c0_ := B06.out.ext (w' := w6) xe
    have lc0_ := c0_.lt
    obtain ⟨qc0__0, qc0__1⟩ := blk2 c0_
    have fc0__0 := c0_.frozen 0
    have fc0__1 := c0_.frozen 1
    clear c0_
    have c1_ := B16.out.ext (w' := w6) xe
    have lc1_ := c1_.lt
    obtain ⟨qc1__0, qc1__1⟩ := blk2 c1_
    have fc1__0 := c1_.frozen 0
    have fc1__1 := c1_.frozen 1
    clear c1_
    go_region
    all_goals
      go_wp2_with fail
      refine bodyPost_ret (v := .tuple #[.agg #[.slice D0 t6.ases.length p0, .slice D1 t6.links.length p1], .slice Al nl cl, .agg #[I b.ts, .slice A7 n77 c7]]) (by simp [results, Tryz.results5, go_sem, *]) rfl ⟨⟨_, _, _, rfl, t6, l, b, ?_, ?_, ?_, HSB.out⟩, ?_⟩
      · exact (TopoL.kp (m := wa.heap.size) OT6.out kp (Nat.le_refl _)).rd
      · exact PolicySO.kp (m := wa.heap.size) OL6.out kp (by omega) (by omega)
      · exact BeaconingO.kp (m := wa.heap.size) OB6.out kp (by omega) (by omega)
      · exact xset
end Go.Proofs.YtijdlogcbnebcaaGreat
