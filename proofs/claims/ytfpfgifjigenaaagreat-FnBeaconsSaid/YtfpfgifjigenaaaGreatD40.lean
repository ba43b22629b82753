/- Contracts of the reference's draws of times, of beacons with one put twice, and of what the law FnBeacons asks: l8Time, l14Any, DrawPropagated, DrawOriginated, DrawNewBeaconing. No conditions but that the given slice holds bytes. -/
import Derived.Test.YtfpfgifjigenaaaGreatD39
import Derived.Test.YtfpfgifjigenaaaGreatGD31
import Derived.Test.YtfpfgifjigenaaaGreatGHS
namespace Go.Proofs.YtfpfgifjigenaaaGreat
open Go.RowKit
set_option linter.unusedVariables false
set_option maxRecDepth 100000 in
set_option maxHeartbeats 1000000 in
theorem spec_l8Time (g : Nat) (w : World) (hc : Cur w g) : Calls Tryz.prog 32 #[.pointer (some ⟨g, 0, none⟩)] w fun e w' => ∃ x : Int, e = .returned (I x) ∧ D g w w' := by
 have HC := Lib.hid hc;have hgw := hc.lt;clear hc
 go_enter Tryz.func32, Tryz.ntmps32
 go_wp2_with fail
 refine (spec_l1Once g 10 w HC.out (by omega)).mono ?_;rintro e w1 ⟨b, rfl, d1⟩;have z1 := d1.size;cases b
 · go_wp2_with fail
   refine (spec_l1Below g 200 w1 (d1.cur HC.out) (by omega)).mono ?_;rintro e w2 ⟨x, rfl, -, d2⟩;go_wp2_with fail
   go_ret
   exact ⟨_, rfl, D.trans d1 d2⟩
 · go_wp2_with fail
   refine name_calls (fun W => D g w W ∧ IntSO (g + 1) W.heap.size W (.slice (some ⟨w1.heap.size, 0, none⟩) 3 3) [-1, 1000000, 1000001]) ⟨xd, own_newN w1 3 1 3 (g + 1) w1.heap.size [I (-1), I 1000000, I 1000001] rfl rfl (by unfold maxLen; omega) (by omega)⟩ ?_;rintro w2 ⟨d2, hl2⟩;refine (spec_l1Int g _ [-1, 1000000, 1000001] w2 (d2.cur HC.out) hl2 (by simp) (by simp)).mono ?_;rintro e w3 ⟨x, rfl, -, d3⟩;go_wp2_with fail
   go_ret
   exact ⟨_, rfl, D.trans d2 d3⟩
def BeaconsR (lo hi : Nat) (w : World) (v : Value) (l : List DBeacon) : Prop := ∃ cs fp, Own 53 4 lo hi w v l.length cs ∧ OL BeaconOC 4 w l fp cs ∧ ∀ b ∈ fp, lo ≤ b ∧ b < hi
section
variable {lo hi g : Nat} {w w' : World} {v : Value} {l : List DBeacon}
theorem BeaconsR.of (h : BeaconSO lo hi w v l) : BeaconsR lo hi w v l := by
 obtain ⟨cs, fp, ho, hl, -, hb⟩ := h;exact ⟨cs, fp, ho, hl, hb⟩
theorem BeaconsR.keep (h : BeaconsR lo hi w v l) (hk : ∀ k, lo ≤ k → k < hi → k < w.heap.size → w'.heap[k]? = w.heap[k]?) : BeaconsR lo hi w' v l := by
 obtain ⟨cs, fp, ho, hl, hb⟩ := h;exact ⟨cs, fp, ho.keep hk, hl.keep BeaconOC.keeps (fun b hm hs => hk b (hb b hm).1 (hb b hm).2 hs), hb⟩
theorem BeaconsR.less {lo' hi' : Nat} (h : BeaconsR lo hi w v l) (h1 : lo' ≤ lo) (h2 : hi ≤ hi') : BeaconsR lo' hi' w v l := by
 obtain ⟨cs, fp, ho, hl, hb⟩ := h;exact ⟨cs, fp, ho.more h1 h2, hl, fun b hm => ⟨by have := (hb b hm).1; omega, by have := (hb b hm).2; omega⟩⟩
theorem BeaconsR.d (h : BeaconsR lo hi w v l) (hd : D g w w') (hg : g < lo) : BeaconsR lo hi w' v l := h.keep fun k h1 _ h3 => hd.block h3 (by omega)
theorem BeaconsR.rd (h : BeaconsR lo hi w v l) (hh : hi ≤ w.heap.size) : BeaconS w.heap.size w v l := by
 obtain ⟨cs, fp, ho, hl, hb⟩ := h;refine sl_of_OL (At := BeaconAt) (ho.more (Nat.zero_le _) (Nat.le_refl _)).1 hl (fun b hm => ?_) (fun _ => rfl) BeaconOC.at_
 rcases hm with hm | hm
 · have := ho.2 b hm; omega
 · have := (hb b hm).2; omega
end
theorem own_ne {E E' sz sz' lo hi lo' hi' n m : Nat} {w : World} {v u : Value} {cs ds : List Value} (h : Own E sz lo hi w v n cs) (k : Own E' sz' lo' hi' w u m ds) (hne : E ≠ E') (b : Nat) (hb : v.ownBlock = some b) : u.ownBlock ≠ some b := by
 intro hu
 rcases k.cases with ⟨e3, _, _⟩ | ⟨g3, cap3, rest3, e3, -, -, hb3, -⟩
 · rw [e3] at hu; simp [Value.ownBlock] at hu
 · rw [e3] at hu
   have hg : b = g3 := by simpa [Value.ownBlock] using hu.symm
   subst hg
   rcases h.cases with ⟨e2, _, _⟩ | ⟨g2, cap2, rest2, e2, -, -, hb2, -⟩
   · rw [e2] at hb; simp [Value.ownBlock] at hb
   · rw [e2] at hb
     have hg2 : b = g2 := by simpa [Value.ownBlock] using hb.symm
     subst hg2;have h9 := Option.some.inj (hb2.symm.trans hb3);exact hne (Obj.cells.inj h9).2.1
set_option maxRecDepth 100000 in
set_option maxHeartbeats 8000000 in
theorem spec_l14Any (g : Nat) (w : World) (hc : Cur w g) : Calls Tryz.prog 23 #[.pointer (some ⟨g, 0, none⟩)] w fun e w' => (∃ vt r vl vg, e = .returned (.tuple #[vt, I r, vl, vg]) ∧ ∃ (t : DTopology) (l : List DBeacon) (G : DBeacon) (AG : Option Addr) (cG : Nat), TopologyO w.heap.size w'.heap.size w' vt t ∧ DrawnTopo t ∧ BeaconsR w.heap.size w'.heap.size w' vl l ∧ bcnTot l ≤ 3000 ∧ vg = .agg #[I G.ing, I G.seg.ts, I G.seg.beta, .slice AG G.seg.hops.length cG]) ∧ D g w w' := by
 have HC := Lib.hid hc;have hgw := hc.lt;clear hc
 go_enter Tryz.func23, Tryz.ntmps23
 go_wp2_with fail
 refine name_calls (fun W => D g w W ∧ W.heap.size = w.heap.size + 1 + 1 ∧ Blk W w.heap.size 27 [.slice none 0 0, .slice none 0 0] ∧ Blk W (w.heap.size + 1) 53 [I 0, I 0, I 0, .slice none 0 0]) ⟨xd, by simp only [World.size_alloc], xb, xb⟩ ?_;rintro wa ⟨da, za_, br0, br1⟩;obtain ⟨za, za'⟩ := le_both za_;clear za_;have B0 := Lib.hid br0; have B1 := Lib.hid br1; clear br0 br1;have HCA := Lib.hid (da.cur HC.out);refine (spec_l14Draw g wa HCA.out).mono ?_;rintro e w2 ⟨⟨v1, r, vl, vg, rfl, t, l, G, AG, cG, m, ot, ⟨hm1, hm2⟩, hdt, ol, hsm, rfl, sg, hg5⟩, d2⟩;have z2 := d2.size;obtain ⟨A0, n0, c0, A1, n1, c1, rfl⟩ := TopologyO.shape ot;obtain ⟨Al, nl, cl, rfl⟩ := NO.slice ol;obtain ⟨cs_, fp_, ho_, -⟩ := id ol;obtain rfl : nl = l.length := (NO.row ho_).1;clear ho_ cs_ fp_;have OT := Lib.hid ot; have OL := Lib.hid ol; have SG := Lib.hid sg; have HDT := Lib.hid hdt; have HSM := Lib.hid hsm; clear ot ol sg hdt hsm;go_wp2_with fail
 refine name_calls (fun W => Ext w2 W ∧ W.heap.size = w2.heap.size + 1 + 1 ∧ Blk W w2.heap.size 27 [.slice A0 n0 c0, .slice A1 n1 c1] ∧ Blk W (w2.heap.size + 1) 53 [I G.ing, I G.seg.ts, I G.seg.beta, .slice AG G.seg.hops.length cG]) ⟨xe, by simp only [World.size_alloc], xb, xb⟩ ?_;rintro wx ⟨ex, zx_, b6, b9⟩;obtain ⟨zx, zx'⟩ := le_both zx_;clear zx_;have dax : D g wa wx := D.trans d2 (D.of_ext ex (by omega));have B6 := Lib.hid b6; have B9 := Lib.hid b9; clear b6 b9;refine (spec_l1Below g 8 wx (dax.cur HCA.out) (by omega)).mono ?_;rintro e wt ⟨x, rfl, ⟨hx0, -, -⟩, dt⟩;have zt := dt.size;have d2t : D g w2 wt := D.trans (D.of_ext ex (by omega)) dt;have dat : D g wa wt := D.trans dax dt;have OTt := Lib.hid (OT.out.d d2t (by omega)); have OLt := Lib.hid (OL.out.dd d2t (by omega)); have SGt := Lib.hid (SG.out.dd d2t (by omega));have B6t := Lib.hid (B6.out.d dt (by omega)); have B9t := Lib.hid (B9.out.d dt (by omega));clear OT OL SG B6 B9;have hbt := bcnTot_small HSM.out;have hl12 := HSM.out.1
 have n1_ : ¬ w2.heap.size = w.heap.size := by omega
 have n2_ : ¬ w.heap.size = w2.heap.size := by omega
 have n3_ : ¬ w2.heap.size = w.heap.size + 1 := by omega
 have n4_ : ¬ w.heap.size + 1 = w2.heap.size := by omega
 have n5_ : ¬ w2.heap.size + 1 = w.heap.size := by omega
 have n6_ : ¬ w.heap.size = w2.heap.size + 1 := by omega
 have n7_ : ¬ w2.heap.size + 1 = w.heap.size + 1 := by omega
 have n8_ : ¬ w.heap.size + 1 = w2.heap.size + 1 := by omega
 by_cases h0 : x = 0
 · subst h0
   have b9_ := B9t.out.ext (w' := wt) xe;have lb9_ := b9_.lt;obtain ⟨qb9__0, qb9__1, qb9__2, qb9__3⟩ := blk4 b9_;have fb9__0 := b9_.frozen 0;have fb9__1 := b9_.frozen 1;have fb9__2 := b9_.frozen 2;have fb9__3 := b9_.frozen 3;clear b9_;go_wp2_with (at_builtin; refine hold ?_)
   refine unhold (name_wpl (fun W => Ext wt W ∧ W.heap.size = wt.heap.size + 1 ∧ Blk W wt.heap.size 53 [I G.ing, I G.seg.ts, I G.seg.beta, .slice AG G.seg.hops.length cG]) ⟨xe, by simp only [World.size_alloc], xb⟩ ?_);clear lb9_ qb9__0 qb9__1 qb9__2 qb9__3 fb9__0 fb9__1 fb9__2 fb9__3;rintro w4 ⟨e4, z4_, b4⟩;have d4 : D g wt w4 := D.of_ext e4 (by omega);have z4 := d4.size;obtain ⟨cs, fp, ho, hl, hnd, hb⟩ := OLt.out.dd d4 (by omega);obtain ⟨ug, eg, og, -⟩ := SGt.out.dd d4 (by omega)
   have eg2 : ug = .slice AG G.seg.hops.length cG := by
    have e5 : [I G.seg.ts, I G.seg.beta, Value.slice AG G.seg.hops.length cG] = [I G.seg.ts, I G.seg.beta, ug] := congrArg Array.toList (Value.agg.inj eg);simp only [List.cons.injEq, and_true, true_and] at e5;exact e5.symm
   subst eg2;clear eg;have hn1 := List.nodup_append.1 hnd
   have hfo : ∀ b ∈ (Value.slice AG G.seg.hops.length cG).ownBlock.toList, wa.heap.size ≤ b ∧ b < w2.heap.size := fun b hm => by
    have hm : (Value.slice AG G.seg.hops.length cG).ownBlock = some b := by simpa using hm
    exact ⟨(og.1.lt b hm).1, og.2 b hm⟩
   refine wpList_pushX rfl m BeaconOC.keeps BeaconOC.one (.tmp 21) (.tmp 23) _ rfl 53 _ 4 _ Tryz.underlying29 info_Beacon rfl (by omega) (.slice Al l.length cl) l [G] cs [I G.ing, I G.seg.ts, I G.seg.beta, .slice AG G.seg.hops.length cG] fp (Value.slice AG G.seg.hops.length cG).ownBlock.toList rfl _ _ _ rfl (ho.more (Nat.le_refl _) (by omega)) hl (fun b hm e5 => hn1.2.2 b (Option.mem_toList.2 e5) b hm rfl) (row_blk b4 rfl) ⟨_, [], [I G.ing, I G.seg.ts, I G.seg.beta, .slice AG G.seg.hops.length cG], [], (List.append_nil _).symm, rfl, rfl, ⟨_, rfl, (og.more (Nat.zero_le _) (Nat.le_refl _)).1, rfl⟩, ⟨rfl, rfl⟩⟩ (fun b hm => ?hne) (by omega) (by simp only [List.length_singleton]; omega) (by omega) ?_
   case hne =>
    have hm : (Value.slice AG G.seg.hops.length cG).ownBlock = some b := by simpa using hm
    exact own_ne og ho (by decide) b hm
   intro v8 w8 o8 l8 hg8 hbl8
   have hob : ∀ j, (Value.slice Al l.length cl).ownBlock = some j → m ≤ j ∧ j < w2.heap.size := fun j hj => ⟨(ho.1.lt j hj).1, ho.2 j hj⟩
   have z8 := hg8.size;have hkp : ∀ k, k < w4.heap.size → (k < m ∨ w2.heap.size ≤ k) → w8.heap[k]? = w4.heap[k]? := fun k hk h9 => hg8.block k hk (fun e5 => by have := hob k e5.symm; omega);have OTw := Lib.hid ((OTt.out.d d4 (by omega)).keep (w' := w8) fun k h1 h2 h3 => hkp k h3 (.inl h2));have B6w := Lib.hid ((B6t.out.d d4 (by omega)).grown hg8 (fun e5 => by have := hob _ e5; omega));have B9w := Lib.hid ((B9t.out.d d4 (by omega)).grown hg8 (fun e5 => by have := hob _ e5; omega));have daw : D g wa w8 := D.grown (D.trans dat d4) (by omega) hg8 (fun j hj => by have := hob j hj; omega)
   have OLw : Hid (BeaconsR wa.heap.size w8.heap.size w8 v8 (l ++ [G])) := ⟨_, _, o8.more (by omega) (Nat.le_refl _), l8, fun b hm => by
    rcases List.mem_append.1 hm with hm | hm
    · have := hb b hm; omega
    · have := hfo b hm; omega⟩
   have HBT : Hid (bcnTot (l ++ [G]) ≤ 3000) := by
    have h9 := totS_append (fun u : DBeacon => u.seg.hops.length) l [G]
    have h8 : totS (fun u : DBeacon => u.seg.hops.length) [G] = 1 + G.seg.hops.length := by simp [totS]
    unfold Hid;show totS (fun u : DBeacon => u.seg.hops.length) (l ++ [G]) ≤ 3000;have h7 : totS (fun u : DBeacon => u.seg.hops.length) l ≤ 1000 := hbt;omega
   clear o8 l8 hg8 hbl8 hb hfo hn1 hnd hl ho og b4 hob hkp;go_wp2_with (at_builtin; refine hold ?_)
   have zw := daw.size;have dww : D g w w8 := D.trans da daw;have B0w := Lib.hid (B0.out.d daw (by omega)); have B1w := Lib.hid (B1.out.d daw (by omega));have b6_ := B6w.out.ext (w' := w8) xe;have lb6_ := b6_.lt;obtain ⟨qb6__0, qb6__1⟩ := blk2 b6_;have fb6__0 := b6_.frozen 0;have fb6__1 := b6_.frozen 1;clear b6_;have b9_ := B9w.out.ext (w' := w8) xe;have lb9_ := b9_.lt;obtain ⟨qb9__0, qb9__1, qb9__2, qb9__3⟩ := blk4 b9_;have fb9__0 := b9_.frozen 0;have fb9__1 := b9_.frozen 1;have fb9__2 := b9_.frozen 2;have fb9__3 := b9_.frozen 3;clear b9_;have c0_ := B0w.out.ext (w' := w8) xe;have lc0_ := c0_.lt;obtain ⟨qc0__0, qc0__1⟩ := blk2 c0_;have fc0__0 := c0_.frozen 0;have fc0__1 := c0_.frozen 1;clear c0_;have c1_ := B1w.out.ext (w' := w8) xe;have lc1_ := c1_.lt;obtain ⟨qc1__0, qc1__1, qc1__2, qc1__3⟩ := blk4 c1_;have fc1__0 := c1_.frozen 0;have fc1__1 := c1_.frozen 1;have fc1__2 := c1_.frozen 2;have fc1__3 := c1_.frozen 3;clear c1_;go_region
   all_goals
    go_wp2_with fail
    refine bodyPost_ret (v := .tuple #[.agg #[.slice A0 n0 c0, .slice A1 n1 c1], I r, v8, .agg #[I G.ing, I G.seg.ts, I G.seg.beta, .slice AG G.seg.hops.length cG]]) (by simp [results, Tryz.results23, go_sem, *]) rfl ⟨⟨_, _, _, _, rfl, t, (l ++ [G]), G, AG, cG, ?_, HDT.out, ?_, HBT.out, rfl⟩, ?_⟩
    · exact TopologyO.more (OTw.out.keep fun k h1 _ _ => (kp (lo := wa.heap.size)).same k h1) (by omega) (by first | (simp only [World.size_setCell]; omega) | exact Nat.le_trans (show m ≤ w8.heap.size by omega) (Nat.le_of_eq (kp (lo := wa.heap.size)).size.symm))
    · exact BeaconsR.less (OLw.out.keep fun k h1 _ _ => (kp (lo := wa.heap.size)).same k (by omega)) (by omega) (by first | exact Nat.le_of_eq (kp (lo := wa.heap.size)).size.symm | (simp only [World.size_setCell]; first | exact Nat.le_refl _ | omega))
    · exact xd
 · by_cases h1 : x = 1
   · subst h1
     obtain ⟨cs, fp, ho, hl, hnd, hb⟩ := OLt.out;have hn1 := List.nodup_append.1 hnd;have dtt : D g wt wt := D.refl _ _
     have q0 : ((1 : Int) == 0) = false := by decide
     go_wp2_with (at_builtin; refine hold ?_)
     refine unhold (wpList_pushX rfl m BeaconOC.keeps BeaconOC.one (.tmp 27) (.tmp 28) _ rfl 53 _ 4 _ Tryz.underlying29 info_Beacon rfl (by omega) (.slice Al l.length cl) l l cs cs fp fp rfl _ _ _ rfl (ho.more (Nat.le_refl _) (by omega)) hl (fun b hm e5 => hn1.2.2 b (Option.mem_toList.2 e5) b hm rfl) (NO.row ho).2 hl (fun b hm e5 => hn1.2.2 b (Option.mem_toList.2 e5) b hm rfl) (by omega) (by omega) (by omega) ?_);intro v8 w8 o8 l8 hg8 hbl8
     have hob : ∀ j, (Value.slice Al l.length cl).ownBlock = some j → m ≤ j ∧ j < w2.heap.size := fun j hj => ⟨(ho.1.lt j hj).1, ho.2 j hj⟩
     have z8 := hg8.size;have hkp : ∀ k, k < wt.heap.size → (k < m ∨ w2.heap.size ≤ k) → w8.heap[k]? = wt.heap[k]? := fun k hk h9 => hg8.block k hk (fun e5 => by have := hob k e5.symm; omega);have OTw := Lib.hid ((OTt.out.d dtt (by omega)).keep (w' := w8) fun k h1 h2 h3 => hkp k h3 (.inl h2));have B6w := Lib.hid ((B6t.out.d dtt (by omega)).grown hg8 (fun e5 => by have := hob _ e5; omega));have B9w := Lib.hid ((B9t.out.d dtt (by omega)).grown hg8 (fun e5 => by have := hob _ e5; omega));have daw : D g wa w8 := D.grown (D.trans dat dtt) (by omega) hg8 (fun j hj => by have := hob j hj; omega)
     have OLw : Hid (BeaconsR wa.heap.size w8.heap.size w8 v8 (l ++ l)) := ⟨_, _, o8.more (by omega) (Nat.le_refl _), l8, fun b hm => by
      rcases List.mem_append.1 hm with hm | hm
      · have := hb b hm; omega
      · have := hb b hm; omega⟩
     have HBT : Hid (bcnTot (l ++ l) ≤ 3000) := by
      have h9 := totS_append (fun u : DBeacon => u.seg.hops.length) l l;unfold Hid;show totS (fun u : DBeacon => u.seg.hops.length) (l ++ l) ≤ 3000;have h7 : totS (fun u : DBeacon => u.seg.hops.length) l ≤ 1000 := hbt;omega
     clear o8 l8 hg8 hbl8 hb hn1 hnd hl ho hob hkp;go_wp2_with (at_builtin; refine hold ?_)
     have zw := daw.size;have dww : D g w w8 := D.trans da daw;have B0w := Lib.hid (B0.out.d daw (by omega)); have B1w := Lib.hid (B1.out.d daw (by omega));have b6_ := B6w.out.ext (w' := w8) xe;have lb6_ := b6_.lt;obtain ⟨qb6__0, qb6__1⟩ := blk2 b6_;have fb6__0 := b6_.frozen 0;have fb6__1 := b6_.frozen 1;clear b6_;have b9_ := B9w.out.ext (w' := w8) xe;have lb9_ := b9_.lt;obtain ⟨qb9__0, qb9__1, qb9__2, qb9__3⟩ := blk4 b9_;have fb9__0 := b9_.frozen 0;have fb9__1 := b9_.frozen 1;have fb9__2 := b9_.frozen 2;have fb9__3 := b9_.frozen 3;clear b9_;have c0_ := B0w.out.ext (w' := w8) xe;have lc0_ := c0_.lt;obtain ⟨qc0__0, qc0__1⟩ := blk2 c0_;have fc0__0 := c0_.frozen 0;have fc0__1 := c0_.frozen 1;clear c0_;have c1_ := B1w.out.ext (w' := w8) xe;have lc1_ := c1_.lt;obtain ⟨qc1__0, qc1__1, qc1__2, qc1__3⟩ := blk4 c1_;have fc1__0 := c1_.frozen 0;have fc1__1 := c1_.frozen 1;have fc1__2 := c1_.frozen 2;have fc1__3 := c1_.frozen 3;clear c1_;go_region
     all_goals
      go_wp2_with fail
      refine bodyPost_ret (v := .tuple #[.agg #[.slice A0 n0 c0, .slice A1 n1 c1], I r, v8, .agg #[I G.ing, I G.seg.ts, I G.seg.beta, .slice AG G.seg.hops.length cG]]) (by simp [results, Tryz.results23, go_sem, *]) rfl ⟨⟨_, _, _, _, rfl, t, (l ++ l), G, AG, cG, ?_, HDT.out, ?_, HBT.out, rfl⟩, ?_⟩
      · exact TopologyO.more (OTw.out.keep fun k h1 _ _ => (kp (lo := wa.heap.size)).same k h1) (by omega) (by first | (simp only [World.size_setCell]; omega) | exact Nat.le_trans (show m ≤ w8.heap.size by omega) (Nat.le_of_eq (kp (lo := wa.heap.size)).size.symm))
      · exact BeaconsR.less (OLw.out.keep fun k h1 _ _ => (kp (lo := wa.heap.size)).same k (by omega)) (by omega) (by first | exact Nat.le_of_eq (kp (lo := wa.heap.size)).size.symm | (simp only [World.size_setCell]; first | exact Nat.le_refl _ | omega))
      · exact xd
   · have q0 : (x == 0) = false := beq_eq_false_iff_ne.2 h0
     have q1 : (x == 1) = false := beq_eq_false_iff_ne.2 h1;have OTw := Lib.hid OTt.out; have B6w := Lib.hid B6t.out; have B9w := Lib.hid B9t.out;have daw : D g wa wt := dat;have OLw : Hid (BeaconsR wa.heap.size wt.heap.size wt (.slice Al l.length cl) l) := BeaconsR.less (BeaconsR.of OLt.out) (by omega) (by omega)
     have HBT : Hid (bcnTot l ≤ 3000) := by unfold Hid; omega
     go_wp2_with fail
     have zw := daw.size;have dww : D g w wt := D.trans da daw;have B0w := Lib.hid (B0.out.d daw (by omega)); have B1w := Lib.hid (B1.out.d daw (by omega));have b6_ := B6w.out.ext (w' := wt) xe;have lb6_ := b6_.lt;obtain ⟨qb6__0, qb6__1⟩ := blk2 b6_;have fb6__0 := b6_.frozen 0;have fb6__1 := b6_.frozen 1;clear b6_;have b9_ := B9w.out.ext (w' := wt) xe;have lb9_ := b9_.lt;obtain ⟨qb9__0, qb9__1, qb9__2, qb9__3⟩ := blk4 b9_;have fb9__0 := b9_.frozen 0;have fb9__1 := b9_.frozen 1;have fb9__2 := b9_.frozen 2;have fb9__3 := b9_.frozen 3;clear b9_;have c0_ := B0w.out.ext (w' := wt) xe;have lc0_ := c0_.lt;obtain ⟨qc0__0, qc0__1⟩ := blk2 c0_;have fc0__0 := c0_.frozen 0;have fc0__1 := c0_.frozen 1;clear c0_;have c1_ := B1w.out.ext (w' := wt) xe;have lc1_ := c1_.lt;obtain ⟨qc1__0, qc1__1, qc1__2, qc1__3⟩ := blk4 c1_;have fc1__0 := c1_.frozen 0;have fc1__1 := c1_.frozen 1;have fc1__2 := c1_.frozen 2;have fc1__3 := c1_.frozen 3;clear c1_;go_region
     all_goals
      go_wp2_with fail
      refine bodyPost_ret (v := .tuple #[.agg #[.slice A0 n0 c0, .slice A1 n1 c1], I r, .slice Al l.length cl, .agg #[I G.ing, I G.seg.ts, I G.seg.beta, .slice AG G.seg.hops.length cG]]) (by simp [results, Tryz.results23, go_sem, *]) rfl ⟨⟨_, _, _, _, rfl, t, l, G, AG, cG, ?_, HDT.out, ?_, HBT.out, rfl⟩, ?_⟩
      · exact TopologyO.more (OTw.out.keep fun k h1 _ _ => (kp (lo := wa.heap.size)).same k h1) (by omega) (by first | (simp only [World.size_setCell]; omega) | exact Nat.le_trans (show m ≤ wt.heap.size by omega) (Nat.le_of_eq (kp (lo := wa.heap.size)).size.symm))
      · exact BeaconsR.less (OLw.out.keep fun k h1 _ _ => (kp (lo := wa.heap.size)).same k (by omega)) (by omega) (by first | exact Nat.le_of_eq (kp (lo := wa.heap.size)).size.symm | (simp only [World.size_setCell]; first | exact Nat.le_refl _ | omega))
      · exact xd
set_option maxRecDepth 100000 in
set_option maxHeartbeats 1000000 in
theorem spec_DrawPropagated (vb : Value) (bs : List Nat) (w : World) (hb : ByteS w.heap.size w vb bs) (hn : bs.length ≤ 1048576) : Calls Tryz.prog 5 #[vb] w fun e w' => (∃ vt vl r vg, e = .returned (.tuple #[vt, vl, I r, vg]) ∧ ∃ t l got, TopologyV w'.heap.size w' vt t ∧ PolicyS w'.heap.size w' vl l ∧ BeaconS w'.heap.size w' vg got ∧ bcnTot got ≤ 3000) ∧ Ext w w' := by
 have HB := Lib.hid hb; clear hb
 go_enter Tryz.func5, Tryz.ntmps5
 go_wp2_with fail
 refine name_calls (fun W => Ext w W ∧ W.heap.size = w.heap.size + 1 ∧ Blk W (w.heap.size) 27 [.slice none 0 0, .slice none 0 0]) ⟨xe, by simp only [World.size_alloc], xb⟩ ?_;rintro wa ⟨ea, za_, br0⟩;obtain ⟨za, za'⟩ := le_both za_;clear za_;have B0 := Lib.hid br0; clear br0;refine (spec_l1NewB vb bs w.heap.size wa (HB.out.keep ByteAt.keeps (Nat.le_refl _) fun k hk => ea.same k hk) (by omega) hn).mono ?_;rintro e w1 ⟨g, rfl, hg, hcur, e1⟩;have HCB := Lib.hid hcur;have HC := Lib.hid hcur.cur;have hg1 := hcur.lt;clear hcur;have z1 := e1.size;go_wp2_with fail
 refine (spec_l14Any g w1 HC.out).mono ?_;rintro e w2 ⟨⟨v1, r, vl, vg, rfl, t, got, G, AG, cG, ot, hdt, ol, hbt, rfl⟩, d2⟩;have z2 := d2.size;have e2 : Ext wa w2 := d2.ext e1 hg;obtain ⟨A0, n0, c0, A1, n1, c1, rfl, st_0, st_1⟩ := ot.v;obtain ⟨lt_0, kt_0, mt_0⟩ := st_0.len;subst lt_0;have OT := Lib.hid ot; have OL := Lib.hid ol; clear ot ol st_0 st_1;have ht8 : t.ases.length ≤ 8 := hdt.2.1;clear hdt;go_wp2_with fail
 refine name_wp (fun W => Ext w2 W ∧ W.heap.size = w2.heap.size + 1 + 1 ∧ Blk W w2.heap.size 27 [.slice A0 t.ases.length c0, .slice A1 n1 c1]) ⟨xe, by simp only [World.size_alloc], xb⟩ ?_;rintro w3 ⟨e3, z3_, b5⟩;obtain ⟨z3, z3'⟩ := le_both z3_;clear z3_;have d3 : D g w2 w3 := D.of_ext e3 (by omega);have d13 : D g w1 w3 := D.trans d2 d3;have ea3 : Ext wa w3 := Ext.trans e2 e3;have BT3 := Lib.hid b5; have OT3 := Lib.hid (OT.out.ext e3 (Nat.le_refl _)); have OL3 := Lib.hid (OL.out.d d3 (by omega)); clear b5;have HC3 := Lib.hid (d13.cur HC.out)
 have nb0 : ¬ w2.heap.size = g := by omega
 have nb1 : ¬ w.heap.size = g := by omega
 have n1_ : ¬ w2.heap.size = w.heap.size := by omega
 have n2_ : ¬ w.heap.size = w2.heap.size := by omega
 have dd : D g w3 w3.drew := D.drew (D.refl _ _);have HCD := Lib.hid (dd.cur HC3.out);have B03 := Lib.hid (B0.out.ext ea3);have b4_ := BT3.out.ext (w' := w3) xe;have lb4_ := b4_.lt;obtain ⟨qb4__0, qb4__1⟩ := blk2 b4_;have fb4__0 := b4_.frozen 0;have fb4__1 := b4_.frozen 1;clear b4_;have c0_ := B03.out.ext (w' := w3) xe;have lc0_ := c0_.lt;obtain ⟨qc0__0, qc0__1⟩ := blk2 c0_;have fc0__0 := c0_.frozen 0;have fc0__1 := c0_.frozen 1;clear c0_;go_region_with (go_at_call 24; go_loud (refine (spec_l12List g t.ases.length w3.drew (by exact HCD.out) (by omega)).mono ?_; rintro e w7 ⟨v7, rfl, ⟨l, ol, hll⟩, d7⟩; have dn7 : D g w3 w7 := D.trans dd d7; have OP := Lib.hid (show PolicySO w3.heap.size _ _ _ _ from ol); clear ol; have z7 := dn7.size; obtain ⟨hc7, hf7, hz7⟩ := dn7.facts))
 all_goals
  have ew7 : Ext w w7 := Ext.trans ea (D.ext (D.trans d13 dn7) e1 hg);go_wp2_with fail
  refine bodyPost_ret (v := .tuple #[.agg #[.slice A0 t.ases.length c0, .slice A1 n1 c1], v7, I r, vl]) (by simp [results, Tryz.results5, go_sem, *]) rfl ⟨⟨_, _, _, _, rfl, t, l, got, ?_, ?_, ?_, hbt⟩, ?_⟩
  · exact TopologyO.kp (m := wa.heap.size) (OT3.out.d dn7 (by omega)) kp (by omega) (by omega)
  · exact PolicySO.kp (m := wa.heap.size) OP.out kp (by omega) (by omega)
  · exact BeaconsR.rd ((OL3.out.d dn7 (by omega)).keep fun k h1 _ _ => (kp (lo := wa.heap.size)).same k (by omega)) (by simp only [World.size_setCell]; omega)
  · exact xset
set_option maxRecDepth 100000 in
set_option maxHeartbeats 1000000 in
theorem spec_DrawOriginated (vb : Value) (bs : List Nat) (w : World) (hb : ByteS w.heap.size w vb bs) (hn : bs.length ≤ 1048576) : Calls Tryz.prog 7 #[vb] w fun e w' => (∃ vt vl r ts, e = .returned (.tuple #[vt, vl, I r, I ts]) ∧ ∃ t l, TopologyV w'.heap.size w' vt t ∧ PolicyS w'.heap.size w' vl l) ∧ Ext w w' := by
 have HB := Lib.hid hb; clear hb
 go_enter Tryz.func7, Tryz.ntmps7
 go_wp2_with fail
 refine name_calls (fun W => Ext w W ∧ W.heap.size = w.heap.size + 1 ∧ Blk W (w.heap.size) 27 [.slice none 0 0, .slice none 0 0]) ⟨xe, by simp only [World.size_alloc], xb⟩ ?_;rintro wa ⟨ea, za_, br0⟩;obtain ⟨za, za'⟩ := le_both za_;clear za_;have B0 := Lib.hid br0; clear br0;refine (spec_l1NewB vb bs w.heap.size wa (HB.out.keep ByteAt.keeps (Nat.le_refl _) fun k hk => ea.same k hk) (by omega) hn).mono ?_;rintro e w1 ⟨g, rfl, hg, hcur, e1⟩;have HCB := Lib.hid hcur;have HC := Lib.hid hcur.cur;have hg1 := hcur.lt;clear hcur;have z1 := e1.size;go_wp2_with fail
 refine (spec_l5Any g w1 HC.out).mono ?_;rintro e w2 ⟨v1, rfl, ⟨t, ot, ht8, -⟩, d2⟩;have z2 := d2.size;have e2 : Ext wa w2 := d2.ext e1 hg;obtain ⟨A0, c0, A1, c1, rfl⟩ := ot.shape;have OT := Lib.hid ot; clear ot;go_wp2_with fail
 refine name_calls (fun W => Ext w2 W ∧ W.heap.size = w2.heap.size + 1 ∧ Blk W w2.heap.size 27 [.slice A0 t.ases.length c0, .slice A1 t.links.length c1]) ⟨xe, by simp only [World.size_alloc], xb⟩ ?_;rintro wx ⟨ex, zx_, b5⟩;obtain ⟨zx, zx'⟩ := le_both zx_;clear zx_;have dx2 : D g w2 wx := D.of_ext ex (by omega);have dx : D g w1 wx := D.trans d2 dx2;have BTX := Lib.hid b5; have OTX := Lib.hid (OT.out.d dx2 (by omega)); clear b5;refine (spec_l12List g t.ases.length wx (dx.cur HC.out) (by omega)).mono ?_;rintro e w3 ⟨v3, rfl, ⟨l, ol, hll⟩, d3⟩;have OL := Lib.hid ol; clear ol;have z3 := d3.size;have d13 : D g w1 w3 := D.trans dx d3;have ea3 : Ext wa w3 := d13.ext e1 hg;have BT3 := Lib.hid (BTX.out.d d3 (by omega)); have OT3 := Lib.hid (OTX.out.d d3 (by omega));have HC3 := Lib.hid (d13.cur HC.out)
 have nb0 : ¬ w2.heap.size = g := by omega
 have nb1 : ¬ w.heap.size = g := by omega
 have n1_ : ¬ w2.heap.size = w.heap.size := by omega
 have n2_ : ¬ w.heap.size = w2.heap.size := by omega
 have dd : D g w3 w3.drew := D.drew (D.refl _ _);have HCD := Lib.hid (dd.cur HC3.out);have B03 := Lib.hid (B0.out.ext ea3);go_wp2_with fail
 have b4_ := BT3.out.ext (w' := w3) xe;have lb4_ := b4_.lt;obtain ⟨qb4__0, qb4__1⟩ := blk2 b4_;have fb4__0 := b4_.frozen 0;have fb4__1 := b4_.frozen 1;clear b4_;have c0_ := B03.out.ext (w' := w3) xe;have lc0_ := c0_.lt;obtain ⟨qc0__0, qc0__1⟩ := blk2 c0_;have fc0__0 := c0_.frozen 0;have fc0__1 := c0_.frozen 1;clear c0_
 go_region_with (first
  | (go_at_call 32; go_loud (refine (spec_l8Time g _ (by exact hcn.out)).mono ?_; rintro e w9 ⟨x9, rfl, d9⟩; have dn9 : D g w3 w9 := D.trans dn7 d9; have z9 := d9.size; clear hc7 hf7 hz7; obtain ⟨hc9, hf9, hz9⟩ := dn9.facts))
  | (go_at_call 31; go_loud (refine (spec_l1Below g 8 w3.drew (by exact HCD.out) (by omega)).mono ?_; rintro e w7 ⟨x7, rfl, -, d7⟩; have hcn := Lib.hid (d7.cur HCD.out); have dn7 : D g w3 w7 := D.trans dd d7; have z7 := d7.size; obtain ⟨hc7, hf7, hz7⟩ := dn7.facts)))
 all_goals
  have ew9 : Ext w w9 := Ext.trans ea (D.ext (D.trans d13 dn9) e1 hg);go_wp2_with fail
  refine bodyPost_ret (v := .tuple #[.agg #[.slice A0 t.ases.length c0, .slice A1 t.links.length c1], v3, I x7, I x9]) (by simp [results, Tryz.results7, go_sem, *]) rfl ⟨⟨_, _, _, _, rfl, t, l, ?_, ?_⟩, ?_⟩
  · exact (TopoL.kp (m := wa.heap.size) (OT3.out.d dn9 (by omega)) kp (by omega)).rd
  · exact PolicySO.kp (m := wa.heap.size) (OL.out.d dn9 (by omega)) kp (by omega) (by omega)
  · exact xset
set_option maxRecDepth 100000 in
set_option maxHeartbeats 1000000 in
theorem spec_DrawNewBeaconing (vb : Value) (bs : List Nat) (w : World) (hb : ByteS w.heap.size w vb bs) (hn : bs.length ≤ 1048576) : Calls Tryz.prog 10 #[vb] w fun e w' => (∃ vt ts, e = .returned (.tuple #[vt, I ts]) ∧ ∃ t, TopologyV w'.heap.size w' vt t) ∧ Ext w w' := by
 have HB := Lib.hid hb; clear hb
 go_enter Tryz.func10, Tryz.ntmps10
 go_wp2_with fail
 refine name_calls (fun W => Ext w W ∧ W.heap.size = w.heap.size + 1 ∧ Blk W (w.heap.size) 27 [.slice none 0 0, .slice none 0 0]) ⟨xe, by simp only [World.size_alloc], xb⟩ ?_;rintro wa ⟨ea, za_, br0⟩;obtain ⟨za, za'⟩ := le_both za_;clear za_;have B0 := Lib.hid br0; clear br0;refine (spec_l1NewB vb bs w.heap.size wa (HB.out.keep ByteAt.keeps (Nat.le_refl _) fun k hk => ea.same k hk) (by omega) hn).mono ?_;rintro e w1 ⟨g, rfl, hg, hcur, e1⟩;have HCB := Lib.hid hcur;have HC := Lib.hid hcur.cur;have hg1 := hcur.lt;clear hcur;have z1 := e1.size;go_wp2_with fail
 refine (spec_l5Any g w1 HC.out).mono ?_;rintro e w2 ⟨v1, rfl, ⟨t, ot, ht8, -⟩, d2⟩;have z2 := d2.size;have e2 : Ext wa w2 := d2.ext e1 hg;obtain ⟨A0, c0, A1, c1, rfl⟩ := ot.shape;have OT := Lib.hid ot; clear ot;go_wp2_with fail
 refine name_wp (fun W => Ext w2 W ∧ W.heap.size = w2.heap.size + 1 ∧ Blk W w2.heap.size 27 [.slice A0 t.ases.length c0, .slice A1 t.links.length c1]) ⟨xe, by simp only [World.size_alloc], xb⟩ ?_;rintro w3 ⟨e3, z3_, b5⟩;obtain ⟨z3, z3'⟩ := le_both z3_;clear z3_;have dx2 : D g w2 w3 := D.of_ext e3 (by omega);have d13 : D g w1 w3 := D.trans d2 dx2;have BT3 := Lib.hid b5; have OT3 := Lib.hid (OT.out.d dx2 (by omega)); clear b5;have HC3 := Lib.hid (d13.cur HC.out);have ea3 : Ext wa w3 := d13.ext e1 hg
 have nb0 : ¬ w2.heap.size = g := by omega
 have nb1 : ¬ w.heap.size = g := by omega
 have n1_ : ¬ w2.heap.size = w.heap.size := by omega
 have n2_ : ¬ w.heap.size = w2.heap.size := by omega
 have dd : D g w3 w3.drew := D.drew (D.refl _ _);have HCD := Lib.hid (dd.cur HC3.out);have B03 := Lib.hid (B0.out.ext ea3);have b4_ := BT3.out.ext (w' := w3) xe;have lb4_ := b4_.lt;obtain ⟨qb4__0, qb4__1⟩ := blk2 b4_;have fb4__0 := b4_.frozen 0;have fb4__1 := b4_.frozen 1;clear b4_;have c0_ := B03.out.ext (w' := w3) xe;have lc0_ := c0_.lt;obtain ⟨qc0__0, qc0__1⟩ := blk2 c0_;have fc0__0 := c0_.frozen 0;have fc0__1 := c0_.frozen 1;clear c0_;go_region_with (go_at_call 32; go_loud (refine (spec_l8Time g _ (by exact HCD.out)).mono ?_; rintro e w9 ⟨x9, rfl, d9⟩; have dn9 : D g w3 w9 := D.trans dd d9; have z9 := d9.size; obtain ⟨hc9, hf9, hz9⟩ := dn9.facts))
 all_goals
  have ew9 : Ext w w9 := Ext.trans ea (D.ext (D.trans d13 dn9) e1 hg);go_wp2_with fail
  refine bodyPost_ret (v := .tuple #[.agg #[.slice A0 t.ases.length c0, .slice A1 t.links.length c1], I x9]) (by simp [results, Tryz.results10, go_sem, *]) rfl ⟨⟨_, _, rfl, t, ?_⟩, ?_⟩
  · exact (TopoL.kp (m := wa.heap.size) (OT3.out.d dn9 (by omega)) kp (by omega)).rd
  · exact xset
end Go.Proofs.YtfpfgifjigenaaaGreat
