/- Contracts of the draws of the law FnBooks. The given slice holds bytes. -/
import Derived.Test.YtmopmgaeiokfjaaGreatD43h
set_option maxRecDepth 100000
set_option maxHeartbeats 8000000
namespace Go.Proofs.YtmopmgaeiokfjaaGreat
open Go.RowKit
set_option linter.unusedVariables false
theorem spec_DrawHasSegment (vb : Value) (bs : List Nat) (w : World) (hb : ByteS w.heap.size w vb bs) (hn : bs.length ≤ 1048576) : Calls Tryz.prog 11 #[vb] w fun e w' => (∃ vx vs, e = .returned (.tuple #[vx, vs]) ∧ ∃ x s, SegmentDatabaseV w'.heap.size w' vx x ∧ FewB 7 x ∧ SegmentV w'.heap.size w' vs s ∧ s.hops.length ≤ 5) ∧ Ext w w' := by
 have HB := Lib.hid hb; clear hb
 go_enter Tryz.func11, Tryz.ntmps11
 go_wp2_with fail
 refine name_calls (fun W => Ext w W ∧ W.heap.size = w.heap.size + 1 + 1 ∧ Blk W (w.heap.size) 30 [.slice none 0 0, .slice none 0 0] ∧ Blk W (w.heap.size + 1) 33 [I 0, I 0, .slice none 0 0]) ⟨xe, by simp only [World.size_alloc], xb, xb⟩ ?_;rintro wa ⟨ea, za_, br0, br1⟩;obtain ⟨za, za'⟩ := le_both za_;clear za_;have B0 := Lib.hid br0; have B1 := Lib.hid br1; clear br0 br1;refine (spec_l1NewB vb bs w.heap.size wa (HB.out.keep ByteAt.keeps (Nat.le_refl _) fun k hk => ea.same k hk) (by omega) hn).mono ?_;rintro e w1 ⟨g, rfl, hg, hcur, e1⟩;have HCB := Lib.hid hcur;have HC := Lib.hid hcur.cur;have hg1 := hcur.lt;clear hcur;have z1 := e1.size;go_wp2_with fail
 refine (spec_l16Any g w1 HC.out).mono ?_;rintro e w2 ⟨⟨v1, v2, rfl, t, x, ot, hdt, hok, oq, hfb⟩, d2⟩;have z2 := d2.size;have e2 : Ext wa w2 := d2.ext e1 hg;obtain ⟨A0, n0, c0, A1, n1, c1, rfl, st_0, st_1⟩ := ot.v;obtain ⟨lt_0, kt_0, mt_0⟩ := st_0.len;subst lt_0;obtain ⟨A7, n7, c7, A8, n8, c8, rfl, sq_0, sq_1⟩ := oq.toV;obtain ⟨lq_0, kq_0, mq_0⟩ := sq_0.len;subst lq_0;obtain ⟨lq_1, kq_1, mq_1⟩ := sq_1.len;subst lq_1;have OT := Lib.hid ot; have OQ := Lib.hid oq; have HFB := Lib.hid hfb; have HDT := Lib.hid hdt; have HOK := Lib.hid hok; clear ot oq hdt hok hfb st_0 st_1 sq_0 sq_1;by_cases h0 : x.down.length = 0
 case' pos =>
  have i5 : ¬ (0 : Int) < (x.down.length : Int) := by omega
  clear h0;go_wp2_with fail
  refine name_wp (fun W => Ext w2 W ∧ W.heap.size = w2.heap.size + 1 + 1 ∧ Blk W w2.heap.size 27 [.slice A0 t.ases.length c0, .slice A1 n1 c1] ∧ Blk W (w2.heap.size + 1) 30 [.slice A7 x.down.length c7, .slice A8 x.core.length c8]) ⟨xe, by simp only [World.size_alloc], xb, xb⟩ ?_;rintro w3 ⟨e3, z3_, b5, b6⟩;obtain ⟨z3, z3'⟩ := le_both z3_;clear z3_;have d23 : D g w2 w3 := D.of_ext e3 (by omega);have d13 : D g w1 w3 := D.trans d2 d23;have ea3 : Ext wa w3 := Ext.trans e2 e3;have BT3 := Lib.hid b5; have BK3 := Lib.hid b6; have OT3 := Lib.hid (OT.out.ext e3 (Nat.le_refl _)); have OQ3 := Lib.hid (OQ.out.ext e3 (Nat.le_refl _)); clear b5 b6 OT OQ;have HC3 := Lib.hid (d13.cur HC.out)
  have nb0 : ¬ w2.heap.size = g := by omega
  have nb1 : ¬ w2.heap.size + 1 = g := by omega
  have nb2 : ¬ w.heap.size = g := by omega
  have nb3 : ¬ w.heap.size + 1 = g := by omega
  have n0_ : ¬ w2.heap.size = w.heap.size := by omega
  have n1_ : ¬ w.heap.size = w2.heap.size := by omega
  have n2_ : ¬ w2.heap.size = w.heap.size + 1 := by omega
  have n3_ : ¬ w.heap.size + 1 = w2.heap.size := by omega
  have n4_ : ¬ w2.heap.size + 1 = w.heap.size := by omega
  have n5_ : ¬ w.heap.size = w2.heap.size + 1 := by omega
  have n6_ : ¬ w2.heap.size + 1 = w.heap.size + 1 := by omega
  have n7_ : ¬ w.heap.size + 1 = w2.heap.size + 1 := by omega
  refine name_wp (fun W => D g w3 W) (D.refl _ _) ?_
 case' neg =>
  have i5 : (0 : Int) < (x.down.length : Int) := by omega
  have hp : 0 < x.down.length := by omega
  have hl7 : x.down.length + x.core.length ≤ 7 := HFB.out.1;go_wp2_with fail
  refine name_calls (fun W => Ext w2 W ∧ W.heap.size = w2.heap.size + 1 + 1 ∧ Blk W w2.heap.size 27 [.slice A0 t.ases.length c0, .slice A1 n1 c1] ∧ Blk W (w2.heap.size + 1) 30 [.slice A7 x.down.length c7, .slice A8 x.core.length c8]) ⟨xe, by simp only [World.size_alloc], xb, xb⟩ ?_;rintro w3 ⟨e3, z3_, b5, b6⟩;obtain ⟨z3, z3'⟩ := le_both z3_;clear z3_;have d23 : D g w2 w3 := D.of_ext e3 (by omega);have d13 : D g w1 w3 := D.trans d2 d23;have ea3 : Ext wa w3 := Ext.trans e2 e3;have BT3 := Lib.hid b5; have BK3 := Lib.hid b6; have OT3 := Lib.hid (OT.out.ext e3 (Nat.le_refl _)); have OQ3 := Lib.hid (OQ.out.ext e3 (Nat.le_refl _)); clear b5 b6 OT OQ;have HC3 := Lib.hid (d13.cur HC.out)
  have nb0 : ¬ w2.heap.size = g := by omega
  have nb1 : ¬ w2.heap.size + 1 = g := by omega
  have nb2 : ¬ w.heap.size = g := by omega
  have nb3 : ¬ w.heap.size + 1 = g := by omega
  have n0_ : ¬ w2.heap.size = w.heap.size := by omega
  have n1_ : ¬ w.heap.size = w2.heap.size := by omega
  have n2_ : ¬ w2.heap.size = w.heap.size + 1 := by omega
  have n3_ : ¬ w.heap.size + 1 = w2.heap.size := by omega
  have n4_ : ¬ w2.heap.size + 1 = w.heap.size := by omega
  have n5_ : ¬ w.heap.size = w2.heap.size + 1 := by omega
  have n6_ : ¬ w2.heap.size + 1 = w.heap.size + 1 := by omega
  have n7_ : ¬ w.heap.size + 1 = w2.heap.size + 1 := by omega
  refine (spec_l1Once g 2 w3 HC3.out (by omega)).mono ?_;rintro e w5 ⟨bo, rfl, d5⟩;have z5 := d5.size;cases bo
  case' false =>
   go_wp2_with fail
   refine name_wp (fun W => D g w3 W) d5 ?_
  case' true =>
   have OQ5 := Lib.hid (OQ3.out.d d5 (by omega));obtain ⟨gs, cs, eu, hlo, hhi, hel⟩ := SegmentDatabaseQ.elAll OQ5.out hp;simp only [Value.slice.injEq, true_and] at eu;obtain ⟨rfl, rfl⟩ := eu;have HEL := Lib.hid hel; clear hel
   have lgs : gs < w5.heap.size := by omega
   have ngs : ¬ gs = g := by omega
   have ngw : ¬ gs = w.heap.size := by omega
   have ngv : ¬ gs = w.heap.size + 1 := by omega
   have ngx : ¬ w.heap.size = gs := by omega
   have ngy : ¬ w.heap.size + 1 = gs := by omega
   have BK5 := Lib.hid (BK3.out.d d5 nb1);have ea5 : Ext wa w5 := D.ext (D.trans d13 d5) e1 hg;have B05 := Lib.hid (B0.out.ext ea5); have B15 := Lib.hid (B1.out.ext ea5);have dd : D g w5 w5.drew := D.drew (D.refl _ _);have HCD := Lib.hid (dd.cur (d5.cur HC3.out));go_wp2_with fail
   have b6_ := BK5.out.ext (w' := w5) xe;have lb6_ := b6_.lt;obtain ⟨qb6__0, qb6__1⟩ := blk2 b6_;have fb6__0 := b6_.frozen 0;have fb6__1 := b6_.frozen 1;clear b6_;have c0_ := B05.out.ext (w' := w5) xe;have lc0_ := c0_.lt;obtain ⟨qc0__0, qc0__1⟩ := blk2 c0_;have fc0__0 := c0_.frozen 0;have fc0__1 := c0_.frozen 1;clear c0_;have c1_ := B15.out.ext (w' := w5) xe;have lc1_ := c1_.lt;obtain ⟨qc1__0, qc1__1, qc1__2⟩ := blk3 c1_;have fc1__0 := c1_.frozen 0;have fc1__1 := c1_.frozen 1;have fc1__2 := c1_.frozen 2;clear c1_;go_region_with (go_at_call 38; go_loud (refine (spec_l1Below g (x.down.length : Int) w5.drew (by exact HCD.out) (by omega)).mono ?_; rintro e w7 ⟨x7, rfl, ⟨hx7, hx8, -⟩, d7⟩; have hx8 := hx8 (by omega); obtain ⟨kk, rfl⟩ : ∃ c : Nat, x7 = (c : Int) := ⟨x7.toNat, by omega⟩; have hkk : kk < x.down.length := (by omega); have dn7 : D g w5 w7 := D.trans dd d7; have z7 := d7.size; obtain ⟨hc7, hf7, hz7⟩ := dn7.facts; obtain ⟨A4, c4, ⟨q0_, q1_, q2_⟩, oe⟩ := HEL.out kk hkk; have hs5 := HFB.out.2.1 _ (List.getElem_mem hkk); generalize x.down[kk] = s0 at *; have OE := Lib.hid oe; clear oe; have r0_ := (hc7 gs (kk * 3) lgs ngs).trans q0_; have r1_ := (hc7 gs (kk * 3 + 1) lgs ngs).trans q1_; have r2_ := (hc7 gs (kk * 3 + 2) lgs ngs).trans q2_))
   all_goals
    have ew9 : Ext w w7 := Ext.trans ea (D.ext (D.trans (D.trans d13 d5) dn7) e1 hg);go_wp2_with fail
    refine bodyPost_ret (v := .tuple #[.agg #[.slice (some ⟨gs, 0, none⟩) x.down.length c7, .slice A8 x.core.length c8], .agg #[I s0.ts, I s0.beta, .slice A4 s0.hops.length c4]]) (by simp [results, Tryz.results11, go_sem, *]) rfl ⟨⟨_, _, rfl, x, s0, ?_, HFB.out, ?_, hs5⟩, ?_⟩
    · exact SegmentDatabaseQ.kp (m := wa.heap.size) (OQ5.out.d dn7 (by omega)) kp (by omega) (by omega)
    · exact SegmentO.kpB (m := wa.heap.size) (SegmentO.dB OE.out dn7 (by omega)) kp (by omega) (by omega)
    · exact xset
 all_goals
  rintro w5 d5;have z5 := d5.size;have ea5 : Ext wa w5 := D.ext (D.trans d13 d5) e1 hg;have BT5 := Lib.hid (BT3.out.d d5 nb0); have BK5 := Lib.hid (BK3.out.d d5 nb1); have OT5 := Lib.hid (OT3.out.d d5 (by omega)); have OQ5 := Lib.hid (OQ3.out.d d5 (by omega));have B05 := Lib.hid (B0.out.ext ea5); have B15 := Lib.hid (B1.out.ext ea5);have dd : D g w5 w5.drew := D.drew (D.refl _ _);have HCD := Lib.hid (dd.cur (d5.cur HC3.out));have b4_ := BT5.out.ext (w' := w5) xe;have lb4_ := b4_.lt;obtain ⟨qb4__0, qb4__1⟩ := blk2 b4_;have fb4__0 := b4_.frozen 0;have fb4__1 := b4_.frozen 1;clear b4_;have b6_ := BK5.out.ext (w' := w5) xe;have lb6_ := b6_.lt;obtain ⟨qb6__0, qb6__1⟩ := blk2 b6_;have fb6__0 := b6_.frozen 0;have fb6__1 := b6_.frozen 1;clear b6_;have c0_ := B05.out.ext (w' := w5) xe;have lc0_ := c0_.lt;obtain ⟨qc0__0, qc0__1⟩ := blk2 c0_;have fc0__0 := c0_.frozen 0;have fc0__1 := c0_.frozen 1;clear c0_;have c1_ := B15.out.ext (w' := w5) xe;have lc1_ := c1_.lt;obtain ⟨qc1__0, qc1__1, qc1__2⟩ := blk3 c1_;have fc1__0 := c1_.frozen 0;have fc1__1 := c1_.frozen 1;have fc1__2 := c1_.frozen 2;clear c1_;go_region_with (go_at_call 32; go_loud (refine (spec_l9Grow g _ 2 t _ _ w5.drew (by exact HCD.out) (by exact TopologyO.drew OT5.out) (by omega) (by show _ ≤ w5.heap.size; omega) HDT.out HOK.out).mono ?_; rintro e w7 ⟨v7, rfl, ⟨s, os, hgs⟩, d7⟩; obtain ⟨A, c, rfl, -⟩ := seg_front os; have OS := Lib.hid os; clear os; have hs5 : s.hops.length ≤ 5 := hgs.1; clear hgs; have dn7 : D g w5 w7 := D.trans dd d7; have z7 := dn7.size; obtain ⟨hc7, hf7, hz7⟩ := dn7.facts))
  all_goals
   have ew9 : Ext w w7 := Ext.trans ea (D.ext (D.trans (D.trans d13 d5) dn7) e1 hg);go_wp2_with fail
   refine bodyPost_ret (v := .tuple #[.agg #[.slice A7 x.down.length c7, .slice A8 x.core.length c8], .agg #[I s.ts, I s.beta, .slice A s.hops.length c]]) (by simp [results, Tryz.results11, go_sem, *]) rfl ⟨⟨_, _, rfl, x, s, ?_, HFB.out, ?_, hs5⟩, ?_⟩
   · exact SegmentDatabaseQ.kp (m := wa.heap.size) (OQ5.out.d dn7 (by omega)) kp (by omega) (by omega)
   · exact SegmentO.kpB (m := wa.heap.size) OS.out kp (show wa.heap.size ≤ w5.heap.size by omega) (Nat.le_refl _)
   · exact xset
end Go.Proofs.YtmopmgaeiokfjaaGreat
