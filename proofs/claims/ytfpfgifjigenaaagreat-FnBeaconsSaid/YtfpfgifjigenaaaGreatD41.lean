/- The contract of the reference's draw of beacons to deliver: DrawDeliverBeacons. The given slice holds bytes. -/
import Derived.Test.YtfpfgifjigenaaaGreatGD31
import Derived.Test.YtfpfgifjigenaaaGreatD21
import Derived.Test.YtfpfgifjigenaaaGreatD38
import Derived.Test.YtfpfgifjigenaaaGreatD40
import Derived.Test.YtfpfgifjigenaaaGreatNestN
import Derived.Test.YtfpfgifjigenaaaGreatL15e
import Derived.Test.YtfpfgifjigenaaaGreatL15h
import Derived.Test.YtfpfgifjigenaaaGreatP39
namespace Go.Proofs.YtfpfgifjigenaaaGreat
open Go.RowKit
set_option linter.unusedVariables false
theorem BeaconMessageSO.dd {lo hi g : Nat} {w w' : World} {v : Value} {l : List DBeaconMessage} (h : BeaconMessageSO lo hi w v l) (hd : D g w w') (hg : g < lo) : BeaconMessageSO lo hi w' v l := NO.keep BeaconMessageOC.keeps h fun k h1 _ h3 => hd.block h3 (by omega)
theorem BeaconMessageSO.kp {lo hi m : Nat} {a b : World} {v : Value} {t : List DBeaconMessage} (h : BeaconMessageSO lo hi a v t) (hk : Kp m a b) (hm : m ≤ lo) (hh : hi ≤ a.heap.size) : BeaconMessageS b.heap.size b v t :=
 BeaconMessageSO_rd (NO.more (NO.keep BeaconMessageOC.keeps h fun k h1 _ _ => hk.same k (by omega)) (Nat.le_refl _) (by rw [hk.size]; exact hh)) (Nat.le_refl _)
theorem set_mid3 {α : Type} (pre post : List α) (a b c d e x y z : α) (p : Nat) (hp : pre.length = p) : (((pre ++ a :: b :: c :: d :: e :: post).set (p + 2) x).set (p + 3) y).set (p + 4) z = pre ++ a :: b :: x :: y :: z :: post := by
 subst hp;simp
def FewM (l : List DBeaconMessage) : Prop := l.length ≤ 1000000 ∧ ∀ m ∈ l, m.beacon.seg.hops.length ≤ 8
set_option maxRecDepth 100000 in
set_option maxHeartbeats 1000000 in
theorem spec_DrawDeliverBeacons (vb : Value) (bs : List Nat) (w : World) (hb : ByteS w.heap.size w vb bs) (hn : bs.length ≤ 1048576) : Calls Tryz.prog 9 #[vb] w fun e w' => (∃ vt vb vs, e = .returned (.tuple #[vt, vb, vs]) ∧ ∃ t b sent, TopologyV w'.heap.size w' vt t ∧ BeaconingV w'.heap.size w' vb b ∧ Small b.stores ∧ BeaconMessageS w'.heap.size w' vs sent ∧ FewM sent) ∧ Ext w w' := by
 have HB := Lib.hid hb; clear hb
 go_enter Tryz.func9, Tryz.ntmps9
 go_wp2_with fail
 refine name_calls (fun W => Ext w W ∧ W.heap.size = w.heap.size + 1 + 1 ∧ Blk W (w.heap.size) 27 [.slice none 0 0, .slice none 0 0] ∧ Blk W (w.heap.size + 1) 39 [I 0, .slice none 0 0]) ⟨xe, by simp only [World.size_alloc], xb, xb⟩ ?_;rintro wa ⟨ea, za_, br0, br1⟩;obtain ⟨za, za'⟩ := le_both za_;clear za_;have B0 := Lib.hid br0; have B1 := Lib.hid br1; clear br0 br1;refine (spec_l1NewB vb bs w.heap.size wa (HB.out.keep ByteAt.keeps (Nat.le_refl _) fun k hk => ea.same k hk) (by omega) hn).mono ?_;rintro e w1 ⟨g, rfl, hg, hcur, e1⟩;have HCB := Lib.hid hcur;have HC := Lib.hid hcur.cur;have hg1 := hcur.lt;clear hcur;have z1 := e1.size;go_wp2_with fail
 refine (spec_l15Draw g w1 HC.out).mono ?_;rintro e w2 ⟨⟨v1, v2, v3, rfl, t, l, b, ot, hdt, ol, hll, ob, hsb⟩, d2⟩;have z2 := d2.size;have e2 : Ext wa w2 := d2.ext e1 hg;have hb2 : BeaconingV w2.heap.size w2 v3 b := BeaconingO_rd ob (Nat.le_refl _);obtain ⟨A7, n7, c7, rfl, sb7⟩ := hb2;obtain ⟨lb7, kb7, mb7⟩ := sb7.len;subst lb7;clear sb7;have ot := ot.l (Nat.le_refl _);obtain ⟨A0, c0, A1, c1, rfl⟩ := ot.shape;obtain ⟨Al, nl, cl, rfl⟩ := ol.slice;have OT := Lib.hid ot; have OL := Lib.hid ol; have OB := Lib.hid ob; have HSB := Lib.hid hsb; clear ot ol ob hdt;have hst := small_tot hsb;clear hsb;go_wp2_with fail
 refine name_wp (fun W => ∃ wb, Ext w2 wb ∧ wb.heap.size = w2.heap.size + 1 + 1 ∧ Blk wb w2.heap.size 27 [.slice A0 t.ases.length c0, .slice A1 t.links.length c1] ∧ Blk wb (w2.heap.size + 1) 39 [I b.ts, .slice A7 b.stores.length c7] ∧ Ext wb W ∧ BeaconMessageSO (w2.heap.size + 1 + 1) W.heap.size W (.slice (some ⟨w2.heap.size + 1 + 1, 0, none⟩) 0 0) []) ⟨_, xe, by simp only [World.size_alloc], xb, xb, (Ext.refl _).alloc _, NO.zero _ _ _ _ _ _ (by simp only [World.size_alloc]) (by simp only [World.size_alloc]; exact Nat.le_refl _)⟩ ?_;rintro w3 ⟨wb, eb, zb_, b4, b6, ebw, hls⟩;obtain ⟨zb, zb'⟩ := le_both zb_;clear zb_;have BT := Lib.hid b4; have BX := Lib.hid b6; have HLS := Lib.hid hls; clear b4 b6 hls;have d2b : D g w2 wb := D.of_ext eb (by omega);have OTb := Lib.hid (OT.out.d d2b (by omega)); have OLb := Lib.hid (OL.out.d d2b (by omega)); have OBb := Lib.hid (OB.out.d d2b (by omega));have RTb := Lib.hid OTb.out.rd;have RLb := Lib.hid (PolicySO_rd OLb.out);have RBb := Lib.hid (BeaconingO_rd OBb.out (by omega));obtain ⟨A7_, n7_, c7_, e7_, SB⟩ := id RBb.out;have e74 : [I b.ts, Value.slice A7 b.stores.length c7] = [I b.ts, .slice A7_ n7_ c7_] := congrArg Array.toList (Value.agg.inj e7_);simp only [List.cons.injEq, Value.slice.injEq, and_true, true_and] at e74;obtain ⟨rfl, rfl, rfl⟩ := e74;clear e7_;have SBB := Lib.hid SB; clear SB;have z3 := ebw.size
 go_loopw [9, 10] (fun v i wr => ∃ (k : Nat) (ds : List DBeaconMessage), k ≤ b.stores.length ∧ i = I k ∧ BeaconMessageSO (w2.heap.size + 1 + 1) wr.heap.size wr v ds ∧ ds.length ≤ 60000 * k ∧ (∀ m ∈ ds, m.beacon.seg.hops.length ≤ 8) ∧ Ext wb wr) (fun _ i _ => b.stores.length - (intOf i).toNat)
 case atStart => exact ⟨0, [], by omega, rfl, HLS.out, by simp, fun m hm => by simp at hm, ebw⟩
 case round =>
  clear HLS;obtain ⟨k, ds, hk, rfl, hno, hdl, hdh, he⟩ := hrel;have HNO := Lib.hid hno; have HDH := Lib.hid hdh; clear hno hdh;have hb8 := HSB.out.1;obtain ⟨av, nv, cv, hvv⟩ := NO.slice HNO.out;subst hvv;have zr := he.size;have BTr := Lib.hid (BT.out.ext he); have BXr := Lib.hid (BX.out.ext he);have b4_ := BTr.out.ext (w' := wr) xe;have lb4_ := b4_.lt;obtain ⟨qb4__0, qb4__1⟩ := blk2 b4_;have fb4__0 := b4_.frozen 0;have fb4__1 := b4_.frozen 1;clear b4_;have b6_ := BXr.out.ext (w' := wr) xe;have lb6_ := b6_.lt;obtain ⟨qb6__0, qb6__1⟩ := blk2 b6_;have fb6__0 := b6_.frozen 0;have fb6__1 := b6_.frozen 1;clear b6_;by_cases hlt : k < b.stores.length
  · have i0 : (0 : Int) ≤ (k : Int) := by omega
    have i1 : (k : Int) < (b.stores.length : Int) := by omega
    obtain ⟨bb, off, hA, hb, hkl, hc⟩ := (BeaconStoreS.ext SBB.out he).at_ hlt;have hyl : bcnTot b.stores[k].beacons ≤ stTot b.stores := totS_get (fun y : DBeaconStore => bcnTot y.beacons) b.stores k hkl
    generalize b.stores[k] = u at *
    subst hA;obtain ⟨Au_0, nu_0, cu_0, hu_0, su_0⟩ := hc;obtain ⟨lu_0, ku_0, mu_0⟩ := su_0.len;subst lu_0;unfold maxLen at mu_0
    have Ru : Hid (BeaconStoreV wr.heap.size wr (.agg #[.slice Au_0 u.beacons.length cu_0]) u) := ⟨_, _, _, rfl, su_0⟩
    have Su_0 := Lib.hid su_0; clear su_0;go_wp2_with fail
    refine wp_region_LT 11 (E := Ext) (w0 := wr) (G := fun τ => match τ with | 39 => some (fun v W => BeaconMessageSO wr.heap.size W.heap.size W v (propMsgs t l (k : Int) u.beacons)) | _ => none) Ext.refl (fun h k => Ext.trans h k) (by kernel_rfl) (by kernel_rfl) (by kernel_rfl) (by kernel_rfl) (by kernel_rfl) (by kernel_rfl) xg (Ext.drew (by exact Ext.refl _)) ?_;simp only [List.take_succ_cons, List.take_zero]
    repeat' (first
     | ((with_reducible refine wpL_skip ?_ ?_ ?_)
        · rfl
        · rfl
        simp only [Act.put, List.setIfInBounds_toArray, List.set_cons_zero, List.set_cons_succ])
     | ((with_reducible refine wpL_quiet ?_ ?_ ?_ ?_)
        · rfl
        · rfl
        · rfl
        apply Exists.intro
        refine ⟨fun W hW hS => ?_, ?_⟩
        · have hC := (Ext.facts hW).1
          go_simp
          first | done | (with_reducible rfl) | (rw [if_neg (by omega)]; exact ⟨rfl, rfl⟩) | rfl
        first | (with_reducible refine wpL_boolT ?_) | (with_reducible refine wpL_boolF ?_) | (with_reducible refine wpL_bool (fun hB => ?_) (fun hB => ?_)) | skip
        all_goals simp only [Act.put, List.setIfInBounds_toArray, List.set_cons_zero, List.set_cons_succ])
     | ((refine wpL_grow ?_ rfl rfl ?_ ?_)
        · rfl
        · intro W hW hS
          have hC := (Ext.facts hW).1;unfold growAt
          go_simp
          simp only [growUpon]
          first | (go_at_call 12; (with_reducible refine Calls.mono (spec_Propagated _ _ (k : Int) _ t l u.beacons _ (by exact RTb.out.ext xe) (by exact PolicyS.ext RLb.out xe) (by exact BeaconS.ext Su_0.out xe) (by omega)) ?_); rintro e w9 ⟨v9, rfl, o9, e9⟩; exact ⟨_, rfl, e9, NO.more o9 (Ext.size hW) (Nat.le_refl _)⟩)
        intro v W' hW' hv
        first | (obtain ⟨A9, n9, c9, rfl⟩ := NO.slice hv) | (obtain ⟨A5, n5, c5, rfl, -⟩ := id hv; clear hv) | (obtain ⟨A5, n5, c5, rfl⟩ := NO.slice hv) | skip
        all_goals simp only [Act.put, List.setIfInBounds_toArray, List.set_cons_zero, List.set_cons_succ]))
    refine wpL_nil (fun w7 e7 hL => ?_);have n39 : BeaconMessageSO wr.heap.size w7.heap.size w7 (.slice A9 n9 c9) (propMsgs t l (k : Int) u.beacons) := hL 39;have O7 := Lib.hid n39; clear hL n39 hu_0 lb4_ qb4__0 qb4__1 fb4__0 fb4__1 lb6_ qb6__0 qb6__1 fb6__0 fb6__1;have z7 := e7.size;have hpl := prop_len t l (k : Int) u.beacons
    have hph : ∀ m ∈ propMsgs t l (k : Int) u.beacons, m.beacon.seg.hops.length ≤ 8 := fun m hm =>
     (canExt_parts (prop_law t l (k : Int) u.beacons m hm).1).2.1.len
    have HPH := Lib.hid hph; clear hph
    generalize propMsgs t l (k : Int) u.beacons = d7 at *
    simp only [List.drop_succ_cons, List.drop_zero];go_wp2_with (at_builtin; refine hold ?_)
    refine unhold (wpList_pushN rfl (w2.heap.size + 1 + 1) BeaconMessageOC.keeps BeaconMessageOC.one (.tmp 29) (.tmp 39) _ rfl 55 _ 5 56 Tryz.underlying32 info_BeaconMessage rfl (by omega) _ ds d7 wr.heap.size wr.heap.size w7.heap.size rfl _ _ _ rfl (by exact NO.at' BeaconMessageOC.keeps HNO.out e7) (by exact O7.out) (Nat.le_refl _) (by omega) (by omega) (Nat.le_refl _) (by omega) (by omega) (by omega) ?_);intro v8 w8 no8 hg8;have E8 := Lib.hid (Ext.grownN (a := wb) (w := w7) (Ext.trans he e7) (NO.at' BeaconMessageOC.keeps HNO.out (w' := w7) e7) hg8 (by omega));have N8 := Lib.hid no8; clear no8 hg8;go_wp2_with (at_builtin; refine hold ?_)
    go_roundw
    case rel => exact ⟨k + 1, ds ++ d7, by omega, by go_num, N8.out, by (rw [List.length_append]; omega), fun m hm => (List.mem_append.1 hm).elim (fun h => HDH.out m h) (fun h => HPH.out m h), E8.out⟩
    case measure => simp [intOf]; omega
  · obtain rfl : k = b.stores.length := by omega
    have i1 : ¬ (b.stores.length : Int) < (b.stores.length : Int) := by omega
    obtain ⟨w20, hw20⟩ : ∃ w20, w20 = wr := ⟨_, rfl⟩
    subst hw20;obtain ⟨cs_, fp_, ho_, -⟩ := id HNO.out;obtain rfl : nv = ds.length := (NO.row ho_).1;clear ho_ cs_ fp_;have dbr : D g wb w20 := D.of_ext he (by omega);have HCr := Lib.hid ((D.trans (D.trans d2 d2b) dbr).cur HC.out)
    have nb4 : ¬ w2.heap.size = g := by omega
    have nb6 : ¬ w2.heap.size + 1 = g := by omega
    by_cases h0 : ds.length = 0
    · have i5 : ¬ (0 : Int) < (ds.length : Int) := by omega
      have HN9 := Lib.hid HNO.out;clear lb4_ qb4__0 qb4__1 fb4__0 fb4__1 lb6_ qb6__0 qb6__1 fb6__0 fb6__1;have z_ := (dbr).size;have eaw : Ext wa w20 := D.ext (D.trans (D.trans d2 d2b) (dbr)) e1 hg;have ew9_ : Ext w w20 := Ext.trans ea eaw;have B0w := Lib.hid (B0.out.ext eaw); have B1w := Lib.hid (B1.out.ext eaw)
      have n1_ : ¬ w2.heap.size = w.heap.size := by omega
      have n2_ : ¬ w.heap.size = w2.heap.size := by omega
      have n3_ : ¬ w2.heap.size = w.heap.size + 1 := by omega
      have n4_ : ¬ w.heap.size + 1 = w2.heap.size := by omega
      have n5_ : ¬ w2.heap.size + 1 = w.heap.size := by omega
      have n6_ : ¬ w.heap.size = w2.heap.size + 1 := by omega
      have n7_ : ¬ w2.heap.size + 1 = w.heap.size + 1 := by omega
      have n8_ : ¬ w.heap.size + 1 = w2.heap.size + 1 := by omega
      have B4w := Lib.hid (BT.out.d (dbr) nb4); have B6w := Lib.hid (BX.out.d (dbr) nb6);have OTw := Lib.hid (OTb.out.d (dbr) (by omega)); have OBw := Lib.hid (OBb.out.d (dbr) (by omega));have b4_ := B4w.out.ext (w' := w20) xe;have lb4_ := b4_.lt;obtain ⟨qb4__0, qb4__1⟩ := blk2 b4_;have fb4__0 := b4_.frozen 0;have fb4__1 := b4_.frozen 1;clear b4_;have b6_ := B6w.out.ext (w' := w20) xe;have lb6_ := b6_.lt;obtain ⟨qb6__0, qb6__1⟩ := blk2 b6_;have fb6__0 := b6_.frozen 0;have fb6__1 := b6_.frozen 1;clear b6_;have c0_ := B0w.out.ext (w' := w20) xe;have lc0_ := c0_.lt;obtain ⟨qc0__0, qc0__1⟩ := blk2 c0_;have fc0__0 := c0_.frozen 0;have fc0__1 := c0_.frozen 1;clear c0_;have c1_ := B1w.out.ext (w' := w20) xe;have lc1_ := c1_.lt;obtain ⟨qc1__0, qc1__1⟩ := blk2 c1_;have fc1__0 := c1_.frozen 0;have fc1__1 := c1_.frozen 1;clear c1_;go_wp2_with fail
      go_region
      all_goals
       go_wp2_with fail
       refine bodyPost_ret (v := .tuple #[.agg #[.slice A0 t.ases.length c0, .slice A1 t.links.length c1], .agg #[I b.ts, .slice A7 b.stores.length c7], .slice av ds.length cv]) (by simp [results, Tryz.results9, go_sem, *]) rfl ⟨⟨_, _, _, rfl, t, b, ds, ?_, ?_, HSB.out, ?_, ⟨by omega, fun m hm => HDH.out m hm⟩⟩, ?_⟩
       · exact (TopoL.kp (m := wa.heap.size) OTw.out kp (by omega)).rd
       · exact BeaconingO.kp (m := wa.heap.size) OBw.out kp (by omega) (by omega)
       · exact BeaconMessageSO.kp (m := wa.heap.size) (HN9.out) kp (by omega) (Nat.le_refl _)
       · exact xset
    · have i5 : (0 : Int) < (ds.length : Int) := by omega
      clear h0;go_wp2_with fail
      clear lb4_ qb4__0 qb4__1 fb4__0 fb4__1 lb6_ qb6__0 qb6__1 fb6__0 fb6__1;refine (spec_l1Below g (ds.length : Int) w20 HCr.out (by omega)).mono ?_;rintro e w4 ⟨x4, rfl, ⟨x4a, x4b, -⟩, d4⟩;have x4b := x4b (by omega)
      obtain ⟨kk, rfl⟩ : ∃ c : Nat, x4 = (c : Int) := ⟨x4.toNat, by omega⟩
      have hkk : kk < ds.length := by omega
      have db4 : D g wb w4 := D.trans dbr d4;have z4 := d4.size;go_wp2_with fail
      refine (spec_l1Below g 4 w4 (d4.cur HCr.out) (by omega)).mono ?_;rintro e w5 ⟨x5, rfl, -, d5⟩;have db5 : D g wb w5 := D.trans db4 d5;have z5 := d5.size;have HN5 := Lib.hid (NO.more (BeaconMessageSO.dd (g := g) HNO.out (D.trans d4 d5) (by omega)) (Nat.le_refl _) (show w20.heap.size ≤ w5.heap.size by omega))
      have k0 : (0 : Int) ≤ (kk : Int) := by omega
      have k1 : (kk : Int) < (ds.length : Int) := by omega
      by_cases h0 : x5 = 0
      · subst h0
        go_wp2_with fail
        refine (spec_l1Below g 9 w5 (d5.cur (d4.cur HCr.out)) (by omega)).mono ?_;rintro e w6 ⟨x6, rfl, -, d6⟩;have db6 : D g wb w6 := D.trans db5 d6;have z6 := d6.size;have HN6 := Lib.hid (NO.more (BeaconMessageSO.dd (g := g) HN5.out d6 (by omega)) (Nat.le_refl _) (show w5.heap.size ≤ w6.heap.size by omega));obtain ⟨gs, s1_, s0_, s3_, f0, hA, -, hlo, hhi, hblk, hl1, hl0, hoc, hf0, hnd0, hset⟩ := NO.setN BeaconMessageOC.keeps (HN6.out) hkk;have HX9 := Lib.hid (HDH.out _ (List.getElem_mem hkk))
        obtain ⟨m9, hm9⟩ : ∃ m, ds[kk] = m := ⟨_, rfl⟩
        rw [hm9] at hoc HX9;obtain ⟨u4, rfl, ow4, ef0⟩ := hoc;subst hA;have HF4 : Hid (∀ b ∈ u4.ownBlock.toList, w2.heap.size + 1 + 1 ≤ b ∧ b < (w6).heap.size ∧ b ≠ gs) := fun b hb => hf0 b (by rw [ef0]; exact hb);have HSET := Lib.hid hset; have HBLK := Lib.hid hblk; have OW4 := Lib.hid ow4; have HEF := Lib.hid ef0; have HL1 := Lib.hid hl1; have HND := Lib.hid hnd0; clear hset ow4 hf0 hm9 ef0 hnd0 hl0;have lgs := hblk.lt
        have ngs : ¬ gs = g := by omega
        have q0_ : w6.cell? ⟨gs, kk * 5, none⟩ = some (I m9.to) := by rw [hblk.cell]; exact get_at s1_ _ _ _ hl1
        have f0_ := hblk.frozen (kk * 5);clear hblk hl1;go_wp2_with fail
        refine name_wp (fun W => D g wb W ∧ W.heap.size = w6.heap.size ∧ BeaconMessageSO (w2.heap.size + 1 + 1) W.heap.size W (.slice (some ⟨gs, 0, none⟩) ds.length cv) (ds.set kk ⟨x6, m9.beacon⟩)) ⟨D.setNew db6 (by omega) (by dsimp only; omega) _, by simp only [World.size_setCell], ?sn⟩ ?_
        case sn =>
         simp only [World.size_setCell];refine HSET.out _ [I x6, I m9.beacon.ing, I m9.beacon.seg.ts, I m9.beacon.seg.beta, u4] f0 ⟨x6, m9.beacon⟩ w6.heap.size (Nat.le_refl _) rfl ?_ (fun b hb _ _ => Below.heap_setCell _ _ _ _ hb) ⟨u4, rfl, ownsRow_keep OW4.out (fun b hb _ => Below.heap_setCell _ _ _ _ (HF4.out b hb).2.2), HEF.out⟩ HND.out (.inr fun b hb => hb);have h9 := HBLK.out.set_ (kk * 5) (I x6);rw [List.cons_append, set_at _ _ _ _ _ HL1.out] at h9;exact h9
        rintro w7 ⟨d7, z7_, n7⟩;obtain ⟨z7, z7'⟩ := le_both z7_;have HN9 := Lib.hid n7; clear n7 z7_ q0_ f0_;clear HSET HBLK OW4;have z_ := (d7).size;have eaw : Ext wa w7 := D.ext (D.trans (D.trans d2 d2b) (d7)) e1 hg;have ew9_ : Ext w w7 := Ext.trans ea eaw;have B0w := Lib.hid (B0.out.ext eaw); have B1w := Lib.hid (B1.out.ext eaw)
        have n1_ : ¬ w2.heap.size = w.heap.size := by omega
        have n2_ : ¬ w.heap.size = w2.heap.size := by omega
        have n3_ : ¬ w2.heap.size = w.heap.size + 1 := by omega
        have n4_ : ¬ w.heap.size + 1 = w2.heap.size := by omega
        have n5_ : ¬ w2.heap.size + 1 = w.heap.size := by omega
        have n6_ : ¬ w.heap.size = w2.heap.size + 1 := by omega
        have n7_ : ¬ w2.heap.size + 1 = w.heap.size + 1 := by omega
        have n8_ : ¬ w.heap.size + 1 = w2.heap.size + 1 := by omega
        have B4w := Lib.hid (BT.out.d (d7) nb4); have B6w := Lib.hid (BX.out.d (d7) nb6);have OTw := Lib.hid (OTb.out.d (d7) (by omega)); have OBw := Lib.hid (OBb.out.d (d7) (by omega));have b4_ := B4w.out.ext (w' := w7) xe;have lb4_ := b4_.lt;obtain ⟨qb4__0, qb4__1⟩ := blk2 b4_;have fb4__0 := b4_.frozen 0;have fb4__1 := b4_.frozen 1;clear b4_;have b6_ := B6w.out.ext (w' := w7) xe;have lb6_ := b6_.lt;obtain ⟨qb6__0, qb6__1⟩ := blk2 b6_;have fb6__0 := b6_.frozen 0;have fb6__1 := b6_.frozen 1;clear b6_;have c0_ := B0w.out.ext (w' := w7) xe;have lc0_ := c0_.lt;obtain ⟨qc0__0, qc0__1⟩ := blk2 c0_;have fc0__0 := c0_.frozen 0;have fc0__1 := c0_.frozen 1;clear c0_;have c1_ := B1w.out.ext (w' := w7) xe;have lc1_ := c1_.lt;obtain ⟨qc1__0, qc1__1⟩ := blk2 c1_;have fc1__0 := c1_.frozen 0;have fc1__1 := c1_.frozen 1;clear c1_;go_wp2_with fail
        go_region
        all_goals
         go_wp2_with fail
         refine bodyPost_ret (v := .tuple #[.agg #[.slice A0 t.ases.length c0, .slice A1 t.links.length c1], .agg #[I b.ts, .slice A7 b.stores.length c7], .slice (some ⟨gs, 0, none⟩) ds.length cv]) (by simp [results, Tryz.results9, go_sem, *]) rfl ⟨⟨_, _, _, rfl, t, b, (ds.set kk ⟨x6, m9.beacon⟩), ?_, ?_, HSB.out, ?_, ⟨by rw [List.length_set]; omega, fun m hm => by (rcases List.mem_or_eq_of_mem_set hm with h9 | rfl; exact HDH.out m h9; exact HX9.out)⟩⟩, ?_⟩
         · exact (TopoL.kp (m := wa.heap.size) OTw.out kp (by omega)).rd
         · exact BeaconingO.kp (m := wa.heap.size) OBw.out kp (by omega) (by omega)
         · exact BeaconMessageSO.kp (m := wa.heap.size) (HN9.out) kp (by omega) (Nat.le_refl _)
         · exact xset
      · have q0 : (x5 == 0) = false := beq_eq_false_iff_ne.2 h0
        by_cases h1 : x5 = 1
        · subst h1
          obtain ⟨gs, s1_, s0_, s3_, f0, hA, -, hlo, hhi, hblk, hl1, hl0, hoc, hf0, hnd0, hset⟩ := NO.setN BeaconMessageOC.keeps (HN5.out) hkk;have HX9 := Lib.hid (HDH.out _ (List.getElem_mem hkk))
          obtain ⟨m9, hm9⟩ : ∃ m, ds[kk] = m := ⟨_, rfl⟩
          rw [hm9] at hoc HX9;obtain ⟨u4, rfl, ow4, ef0⟩ := hoc;subst hA;have HF4 : Hid (∀ b ∈ u4.ownBlock.toList, w2.heap.size + 1 + 1 ≤ b ∧ b < (w5).heap.size ∧ b ≠ gs) := fun b hb => hf0 b (by rw [ef0]; exact hb);have HSET := Lib.hid hset; have HBLK := Lib.hid hblk; have OW4 := Lib.hid ow4; have HEF := Lib.hid ef0; have HL1 := Lib.hid hl1; have HND := Lib.hid hnd0; clear hset ow4 hf0 hm9 ef0 hnd0 hl0;have lgs := hblk.lt
          have ngs : ¬ gs = g := by omega
          have h9 : w5.cell? ⟨gs, kk * 5 + 2, none⟩ = some (I m9.beacon.seg.ts) ∧ w5.cell? ⟨gs, kk * 5 + 3, none⟩ = some (I m9.beacon.seg.beta) ∧ w5.cell? ⟨gs, kk * 5 + 4, none⟩ = some u4 := (cells_at5 HBLK.out hl1).2.2;obtain ⟨q2_, q3_, q4_⟩ := h9;have OH : Hid (HopSO (w2.heap.size + 1 + 1) w5.heap.size w5 u4 m9.beacon.seg.hops) := Own.of_row OW4.out (fun b hb => ⟨(HF4.out b hb).1, (HF4.out b hb).2.1⟩);obtain ⟨A4, n4, c4, hu4⟩ := OH.out.slice;subst hu4;clear hblk hl1;go_wp2_with fail
          refine (spec_l9Spoil g _ m9.beacon.seg w5 (d5.cur (d4.cur HCr.out)) (by exact segV (HopSO_rd OH.out)) (by have := HX9.out; omega)).mono ?_;rintro e w6 ⟨vu, rfl, ⟨s9, o9, hs9⟩, d6⟩;obtain ⟨A9, c9, rfl, -⟩ := SegmentO.front o9;have O9 := Lib.hid o9; clear o9 q2_ q3_ q4_;have z6 := d6.size;have db6 : D g wb w6 := D.trans db5 d6;have HB6 := Lib.hid (HBLK.out.d d6 ngs);have h9 : w6.cell? ⟨gs, kk * 5 + 2, none⟩ = some (I m9.beacon.seg.ts) ∧ w6.cell? ⟨gs, kk * 5 + 3, none⟩ = some (I m9.beacon.seg.beta) ∧ w6.cell? ⟨gs, kk * 5 + 4, none⟩ = some (.slice A4 n4 c4) := (cells_at5 HB6.out HL1.out).2.2;obtain ⟨q2_, q3_, q4_⟩ := h9;have lg6 := HB6.out.lt;have f2_ := HB6.out.frozen (kk * 5 + 2); have f3_ := HB6.out.frozen (kk * 5 + 3); have f4_ := HB6.out.frozen (kk * 5 + 4);go_wp2_with fail
          clear q2_ q3_ q4_ f2_ f3_ f4_
          have o2 : HopSO w5.heap.size w6.heap.size w6 (.slice A9 s9.hops.length c9) s9.hops := by
           obtain ⟨u2, e2_, o2, -⟩ := id O9.out;have e4 : [I s9.ts, I s9.beta, Value.slice A9 s9.hops.length c9] = [I s9.ts, I s9.beta, u2] := congrArg Array.toList (Value.agg.inj e2_);simp only [List.cons.injEq, and_true, true_and] at e4;rw [e4];exact o2
          have O2 := Lib.hid o2; clear o2;refine name_wp (fun W => D g wb W ∧ W.heap.size = w6.heap.size + 1 ∧ BeaconMessageSO (w2.heap.size + 1 + 1) W.heap.size W (.slice (some ⟨gs, 0, none⟩) ds.length cv) (ds.set kk ⟨m9.to, ⟨m9.beacon.ing, s9⟩⟩)) ⟨D.alloc (D.setNew (D.setNew (D.setNew db6 (by omega) (by dsimp only; omega) _) (by omega) (by dsimp only; omega) _) (by omega) (by dsimp only; omega) _) (by omega) _, by simp only [World.size_alloc, World.size_setCell], ?sn⟩ ?_
          case sn =>
           simp only [World.size_alloc, World.size_setCell];refine HSET.out _ [I m9.to, I m9.beacon.ing, I s9.ts, I s9.beta, .slice A9 s9.hops.length c9] (Value.slice A9 s9.hops.length c9).ownBlock.toList ⟨m9.to, ⟨m9.beacon.ing, s9⟩⟩ (w6.heap.size + 1) (by omega) rfl ?_ (fun b hb hlo' hlt => ?_) ⟨_, rfl, (Own.more (Own.keep O2.out fun k h1 h2 h3 => ?_) (Nat.zero_le _) (Nat.le_refl _)).1, rfl⟩ (by cases (Value.slice A9 s9.hops.length c9).ownBlock <;> simp) (.inl fun b hb => ?_)
           · have h9 := ((HB6.out.set_ (kk * 5 + 2) (I s9.ts)).set_ (kk * 5 + 3) (I s9.beta)).set_ (kk * 5 + 4) (.slice A9 s9.hops.length c9)
             simp only [List.cons_append, List.nil_append] at h9;rw [set_mid3 _ _ _ _ _ _ _ _ _ _ _ HL1.out] at h9;exact h9.alloc _
           · rw [Below.heap_alloc _ _ _ (by simp only [World.size_setCell]; omega), Below.heap_setCell _ _ _ _ hb, Below.heap_setCell _ _ _ _ hb, Below.heap_setCell _ _ _ _ hb]
             exact d6.block hlt (by omega)
           · have hb : k ≠ gs := by omega
             rw [Below.heap_alloc _ _ _ (by simp only [World.size_setCell]; omega), Below.heap_setCell _ _ _ _ hb, Below.heap_setCell _ _ _ _ hb, Below.heap_setCell _ _ _ _ hb]
           · have hb : (Value.slice A9 s9.hops.length c9).ownBlock = some b := by simpa using hb
             have h1 := (O2.out.1.lt b hb).1;have h2 := O2.out.2 b hb;omega
          rintro w7 ⟨d7, z7_, n7⟩;obtain ⟨z7, z7'⟩ := le_both z7_;have HN9 := Lib.hid n7; clear n7 z7_;clear HSET HBLK OW4 HB6 O2 O9 OH;have z_ := (d7).size;have eaw : Ext wa w7 := D.ext (D.trans (D.trans d2 d2b) (d7)) e1 hg;have ew9_ : Ext w w7 := Ext.trans ea eaw;have B0w := Lib.hid (B0.out.ext eaw); have B1w := Lib.hid (B1.out.ext eaw)
          have n1_ : ¬ w2.heap.size = w.heap.size := by omega
          have n2_ : ¬ w.heap.size = w2.heap.size := by omega
          have n3_ : ¬ w2.heap.size = w.heap.size + 1 := by omega
          have n4_ : ¬ w.heap.size + 1 = w2.heap.size := by omega
          have n5_ : ¬ w2.heap.size + 1 = w.heap.size := by omega
          have n6_ : ¬ w.heap.size = w2.heap.size + 1 := by omega
          have n7_ : ¬ w2.heap.size + 1 = w.heap.size + 1 := by omega
          have n8_ : ¬ w.heap.size + 1 = w2.heap.size + 1 := by omega
          have B4w := Lib.hid (BT.out.d (d7) nb4); have B6w := Lib.hid (BX.out.d (d7) nb6);have OTw := Lib.hid (OTb.out.d (d7) (by omega)); have OBw := Lib.hid (OBb.out.d (d7) (by omega));have b4_ := B4w.out.ext (w' := w7) xe;have lb4_ := b4_.lt;obtain ⟨qb4__0, qb4__1⟩ := blk2 b4_;have fb4__0 := b4_.frozen 0;have fb4__1 := b4_.frozen 1;clear b4_;have b6_ := B6w.out.ext (w' := w7) xe;have lb6_ := b6_.lt;obtain ⟨qb6__0, qb6__1⟩ := blk2 b6_;have fb6__0 := b6_.frozen 0;have fb6__1 := b6_.frozen 1;clear b6_;have c0_ := B0w.out.ext (w' := w7) xe;have lc0_ := c0_.lt;obtain ⟨qc0__0, qc0__1⟩ := blk2 c0_;have fc0__0 := c0_.frozen 0;have fc0__1 := c0_.frozen 1;clear c0_;have c1_ := B1w.out.ext (w' := w7) xe;have lc1_ := c1_.lt;obtain ⟨qc1__0, qc1__1⟩ := blk2 c1_;have fc1__0 := c1_.frozen 0;have fc1__1 := c1_.frozen 1;clear c1_;go_wp2_with fail
          go_region
          all_goals
           go_wp2_with fail
           refine bodyPost_ret (v := .tuple #[.agg #[.slice A0 t.ases.length c0, .slice A1 t.links.length c1], .agg #[I b.ts, .slice A7 b.stores.length c7], .slice (some ⟨gs, 0, none⟩) ds.length cv]) (by simp [results, Tryz.results9, go_sem, *]) rfl ⟨⟨_, _, _, rfl, t, b, (ds.set kk ⟨m9.to, ⟨m9.beacon.ing, s9⟩⟩), ?_, ?_, HSB.out, ?_, ⟨by rw [List.length_set]; omega, fun m hm => by (rcases List.mem_or_eq_of_mem_set hm with h9 | rfl; exact HDH.out m h9; (have h8 := HX9.out; show s9.hops.length ≤ 8; omega))⟩⟩, ?_⟩
           · exact (TopoL.kp (m := wa.heap.size) OTw.out kp (by omega)).rd
           · exact BeaconingO.kp (m := wa.heap.size) OBw.out kp (by omega) (by omega)
           · exact BeaconMessageSO.kp (m := wa.heap.size) (HN9.out) kp (by omega) (Nat.le_refl _)
           · exact xset
        · have q1 : (x5 == 1) = false := beq_eq_false_iff_ne.2 h1
          have HN9 := Lib.hid HN5.out;have z_ := (db5).size;have eaw : Ext wa w5 := D.ext (D.trans (D.trans d2 d2b) (db5)) e1 hg;have ew9_ : Ext w w5 := Ext.trans ea eaw;have B0w := Lib.hid (B0.out.ext eaw); have B1w := Lib.hid (B1.out.ext eaw)
          have n1_ : ¬ w2.heap.size = w.heap.size := by omega
          have n2_ : ¬ w.heap.size = w2.heap.size := by omega
          have n3_ : ¬ w2.heap.size = w.heap.size + 1 := by omega
          have n4_ : ¬ w.heap.size + 1 = w2.heap.size := by omega
          have n5_ : ¬ w2.heap.size + 1 = w.heap.size := by omega
          have n6_ : ¬ w.heap.size = w2.heap.size + 1 := by omega
          have n7_ : ¬ w2.heap.size + 1 = w.heap.size + 1 := by omega
          have n8_ : ¬ w.heap.size + 1 = w2.heap.size + 1 := by omega
          have B4w := Lib.hid (BT.out.d (db5) nb4); have B6w := Lib.hid (BX.out.d (db5) nb6);have OTw := Lib.hid (OTb.out.d (db5) (by omega)); have OBw := Lib.hid (OBb.out.d (db5) (by omega));have b4_ := B4w.out.ext (w' := w5) xe;have lb4_ := b4_.lt;obtain ⟨qb4__0, qb4__1⟩ := blk2 b4_;have fb4__0 := b4_.frozen 0;have fb4__1 := b4_.frozen 1;clear b4_;have b6_ := B6w.out.ext (w' := w5) xe;have lb6_ := b6_.lt;obtain ⟨qb6__0, qb6__1⟩ := blk2 b6_;have fb6__0 := b6_.frozen 0;have fb6__1 := b6_.frozen 1;clear b6_;have c0_ := B0w.out.ext (w' := w5) xe;have lc0_ := c0_.lt;obtain ⟨qc0__0, qc0__1⟩ := blk2 c0_;have fc0__0 := c0_.frozen 0;have fc0__1 := c0_.frozen 1;clear c0_;have c1_ := B1w.out.ext (w' := w5) xe;have lc1_ := c1_.lt;obtain ⟨qc1__0, qc1__1⟩ := blk2 c1_;have fc1__0 := c1_.frozen 0;have fc1__1 := c1_.frozen 1;clear c1_;go_wp2_with fail
          go_region
          all_goals
           go_wp2_with fail
           refine bodyPost_ret (v := .tuple #[.agg #[.slice A0 t.ases.length c0, .slice A1 t.links.length c1], .agg #[I b.ts, .slice A7 b.stores.length c7], .slice av ds.length cv]) (by simp [results, Tryz.results9, go_sem, *]) rfl ⟨⟨_, _, _, rfl, t, b, ds, ?_, ?_, HSB.out, ?_, ⟨by omega, fun m hm => HDH.out m hm⟩⟩, ?_⟩
           · exact (TopoL.kp (m := wa.heap.size) OTw.out kp (by omega)).rd
           · exact BeaconingO.kp (m := wa.heap.size) OBw.out kp (by omega) (by omega)
           · exact BeaconMessageSO.kp (m := wa.heap.size) (HN9.out) kp (by omega) (Nat.le_refl _)
           · exact xset
end Go.Proofs.YtfpfgifjigenaaaGreat
