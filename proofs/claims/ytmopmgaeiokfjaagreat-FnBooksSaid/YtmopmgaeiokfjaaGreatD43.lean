/- Contracts of the draws of the law FnBooks. The given slice holds bytes. -/
import Derived.Test.YtmopmgaeiokfjaaGreatD43h
set_option maxRecDepth 100000
set_option maxHeartbeats 8000000
namespace Go.Proofs.YtmopmgaeiokfjaaGreat
open Go.RowKit
set_option linter.unusedVariables false
theorem spec_DrawBuildDatabase (vb : Value) (bs : List Nat) (w : World) (hb : ByteS w.heap.size w vb bs) (hn : bs.length ≤ 1048576) : Calls Tryz.prog 7 #[vb] w fun e w' => (∃ vt vl vx, e = .returned (.tuple #[vt, vl, vx]) ∧ ∃ t l b, TopologyV w'.heap.size w' vt t ∧ PolicyS w'.heap.size w' vl l ∧ BeaconingV w'.heap.size w' vx b ∧ Small b.stores) ∧ Ext w w' := by
 have HB := Lib.hid hb; clear hb
 go_enter Tryz.func7, Tryz.ntmps7
 go_wp2_with fail
 refine name_calls (fun W => Ext w W ∧ W.heap.size = w.heap.size + 1 + 1 ∧ Blk W (w.heap.size) 27 [.slice none 0 0, .slice none 0 0] ∧ Blk W (w.heap.size + 1) 40 [I 0, .slice none 0 0]) ⟨xe, by simp only [World.size_alloc], xb, xb⟩ ?_;rintro wa ⟨ea, za_, br0, br1⟩;obtain ⟨za, za'⟩ := le_both za_;clear za_;have B0 := Lib.hid br0; have B1 := Lib.hid br1; clear br0 br1;refine (spec_l1NewB vb bs w.heap.size wa (HB.out.keep ByteAt.keeps (Nat.le_refl _) fun k hk => ea.same k hk) (by omega) hn).mono ?_;rintro e w1 ⟨g, rfl, hg, hcur, e1⟩;have HCB := Lib.hid hcur;have HC := Lib.hid hcur.cur;have hg1 := hcur.lt;clear hcur;have z1 := e1.size;go_wp2_with fail
 refine (spec_l15Draw g w1 HC.out).mono ?_;rintro e w2 ⟨⟨v1, v2, v3, rfl, t, l, b, ot, hdt, ol, hll, ob, hsb⟩, d2⟩;have z2 := d2.size;have e2 : Ext wa w2 := d2.ext e1 hg;obtain ⟨A0, n0, c0, A1, n1, c1, rfl⟩ := TopologyO.shape ot;obtain ⟨Al, nl, cl, rfl⟩ := ol.slice;obtain ⟨A7, n7, c7, rfl⟩ := ob.shape;have OT := Lib.hid ot; have OL := Lib.hid ol; have OB := Lib.hid ob; have HSB := Lib.hid hsb; clear ot ol ob hdt hsb;have B02 := Lib.hid (B0.out.ext e2); have B12 := Lib.hid (B1.out.ext e2);have ew2 : Ext w w2 := Ext.trans ea e2;have c0_ := B02.out.ext (w' := w2) xe;have lc0_ := c0_.lt;obtain ⟨qc0__0, qc0__1⟩ := blk2 c0_;have fc0__0 := c0_.frozen 0;have fc0__1 := c0_.frozen 1;clear c0_;have c1_ := B12.out.ext (w' := w2) xe;have lc1_ := c1_.lt;obtain ⟨qc1__0, qc1__1⟩ := blk2 c1_;have fc1__0 := c1_.frozen 0;have fc1__1 := c1_.frozen 1;clear c1_;go_wp2_with fail
 refine bodyPost_ret (v := .tuple #[.agg #[.slice A0 n0 c0, .slice A1 n1 c1], .slice Al nl cl, .agg #[I b.ts, .slice A7 n7 c7]]) (by simp [results, Tryz.results7, go_sem, *]) rfl ⟨⟨_, _, _, rfl, t, l, b, ?_, ?_, ?_, HSB.out⟩, ?_⟩
 · exact TopologyO.kp (m := wa.heap.size) OT.out kp (by omega) (by omega)
 · exact PolicySO.kp (m := wa.heap.size) OL.out kp (by omega) (by omega)
 · exact BeaconingO.kp (m := wa.heap.size) OB.out kp (by omega) (by omega)
 · exact xset
theorem spec_DrawDownSegments (vb : Value) (bs : List Nat) (w : World) (hb : ByteS w.heap.size w vb bs) (hn : bs.length ≤ 1048576) : Calls Tryz.prog 8 #[vb] w fun e w' => (∃ vx r, e = .returned (.tuple #[vx, I r]) ∧ ∃ x, SegmentDatabaseV w'.heap.size w' vx x ∧ FewB 7 x) ∧ Ext w w' := by
 have HB := Lib.hid hb; clear hb
 go_enter Tryz.func8, Tryz.ntmps8
 go_wp2_with fail
 refine name_calls (fun W => Ext w W ∧ W.heap.size = w.heap.size + 1 ∧ Blk W (w.heap.size) 30 [.slice none 0 0, .slice none 0 0]) ⟨xe, by simp only [World.size_alloc], xb⟩ ?_;rintro wa ⟨ea, za_, br0⟩;obtain ⟨za, za'⟩ := le_both za_;clear za_;have B0 := Lib.hid br0; clear br0;refine (spec_l1NewB vb bs w.heap.size wa (HB.out.keep ByteAt.keeps (Nat.le_refl _) fun k hk => ea.same k hk) (by omega) hn).mono ?_;rintro e w1 ⟨g, rfl, hg, hcur, e1⟩;have HCB := Lib.hid hcur;have HC := Lib.hid hcur.cur;have hg1 := hcur.lt;clear hcur;have z1 := e1.size;go_wp2_with fail
 refine (spec_l16Any g w1 HC.out).mono ?_;rintro e w2 ⟨⟨v1, v2, rfl, t, x, ot, hdt, hok, oq, hfb⟩, d2⟩;have z2 := d2.size;have e2 : Ext wa w2 := d2.ext e1 hg;obtain ⟨A0, n0, c0, A1, n1, c1, rfl, st_0, st_1⟩ := ot.v;obtain ⟨lt_0, kt_0, mt_0⟩ := st_0.len;subst lt_0;obtain ⟨A7, n7, c7, A8, n8, c8, rfl, sq_0, sq_1⟩ := oq.toV;obtain ⟨lq_0, kq_0, mq_0⟩ := sq_0.len;subst lq_0;obtain ⟨lq_1, kq_1, mq_1⟩ := sq_1.len;subst lq_1;have OT := Lib.hid ot; have OQ := Lib.hid oq; have HFB := Lib.hid hfb; have HDT := Lib.hid hdt; have HOK := Lib.hid hok; clear ot oq hdt hok hfb st_0 st_1 sq_0 sq_1;go_wp2_with fail
 refine name_wp (fun W => Ext w2 W ∧ W.heap.size = w2.heap.size + 1 + 1 ∧ Blk W w2.heap.size 27 [.slice A0 t.ases.length c0, .slice A1 n1 c1] ∧ Blk W (w2.heap.size + 1) 30 [.slice A7 x.down.length c7, .slice A8 x.core.length c8]) ⟨xe, by simp only [World.size_alloc], xb, xb⟩ ?_;rintro w3 ⟨e3, z3_, b5, b6⟩;obtain ⟨z3, z3'⟩ := le_both z3_;clear z3_;have d23 : D g w2 w3 := D.of_ext e3 (by omega);have d13 : D g w1 w3 := D.trans d2 d23;have ea3 : Ext wa w3 := Ext.trans e2 e3;have BT3 := Lib.hid b5; have BK3 := Lib.hid b6; have OT3 := Lib.hid (OT.out.ext e3 (Nat.le_refl _)); have OQ3 := Lib.hid (OQ.out.ext e3 (Nat.le_refl _)); clear b5 b6 OT OQ;have HC3 := Lib.hid (d13.cur HC.out)
 have nb0 : ¬ w2.heap.size = g := by omega
 have nb1 : ¬ w2.heap.size + 1 = g := by omega
 have nb2 : ¬ w.heap.size = g := by omega
 have n0_ : ¬ w2.heap.size = w.heap.size := by omega
 have n1_ : ¬ w.heap.size = w2.heap.size := by omega
 have n2_ : ¬ w2.heap.size + 1 = w.heap.size := by omega
 have n3_ : ¬ w.heap.size = w2.heap.size + 1 := by omega
 have dd : D g w3 w3.drew := D.drew (D.refl _ _);have HCD := Lib.hid (dd.cur HC3.out);have B03 := Lib.hid (B0.out.ext ea3);have b4_ := BT3.out.ext (w' := w3) xe;have lb4_ := b4_.lt;obtain ⟨qb4__0, qb4__1⟩ := blk2 b4_;have fb4__0 := b4_.frozen 0;have fb4__1 := b4_.frozen 1;clear b4_;have b6_ := BK3.out.ext (w' := w3) xe;have lb6_ := b6_.lt;obtain ⟨qb6__0, qb6__1⟩ := blk2 b6_;have fb6__0 := b6_.frozen 0;have fb6__1 := b6_.frozen 1;clear b6_;have c0_ := B03.out.ext (w' := w3) xe;have lc0_ := c0_.lt;obtain ⟨qc0__0, qc0__1⟩ := blk2 c0_;have fc0__0 := c0_.frozen 0;have fc0__1 := c0_.frozen 1;clear c0_;go_region_with (go_at_call 38; go_loud (refine (spec_l1Below g 9 w3.drew (by exact HCD.out) (by omega)).mono ?_; rintro e w7 ⟨x7, rfl, hx7, d7⟩; have hcn := Lib.hid (d7.cur HCD.out); have dn7 : D g w3 w7 := D.trans dd d7; have z7 := d7.size; obtain ⟨hc7, hf7, hz7⟩ := dn7.facts))
 all_goals
  have ew9 : Ext w w7 := Ext.trans ea (D.ext (D.trans d13 dn7) e1 hg);go_wp2_with fail
  refine bodyPost_ret (v := .tuple #[.agg #[.slice A7 x.down.length c7, .slice A8 x.core.length c8], I (IntKind.i64.wrap (x7 - 1))]) (by simp [results, Tryz.results8, go_sem, *]) rfl ⟨⟨_, _, rfl, x, ?_, HFB.out⟩, ?_⟩
  · exact SegmentDatabaseQ.kp (m := wa.heap.size) (OQ3.out.d dn7 (by omega)) kp (by omega) (by omega)
  · exact xset
theorem spec_DrawCoreSegments (vb : Value) (bs : List Nat) (w : World) (hb : ByteS w.heap.size w vb bs) (hn : bs.length ≤ 1048576) : Calls Tryz.prog 9 #[vb] w fun e w' => (∃ vx p q, e = .returned (.tuple #[vx, I p, I q]) ∧ ∃ x, SegmentDatabaseV w'.heap.size w' vx x ∧ FewB 7 x) ∧ Ext w w' := by
 have HB := Lib.hid hb; clear hb
 go_enter Tryz.func9, Tryz.ntmps9
 go_wp2_with fail
 refine name_calls (fun W => Ext w W ∧ W.heap.size = w.heap.size + 1 ∧ Blk W (w.heap.size) 30 [.slice none 0 0, .slice none 0 0]) ⟨xe, by simp only [World.size_alloc], xb⟩ ?_;rintro wa ⟨ea, za_, br0⟩;obtain ⟨za, za'⟩ := le_both za_;clear za_;have B0 := Lib.hid br0; clear br0;refine (spec_l1NewB vb bs w.heap.size wa (HB.out.keep ByteAt.keeps (Nat.le_refl _) fun k hk => ea.same k hk) (by omega) hn).mono ?_;rintro e w1 ⟨g, rfl, hg, hcur, e1⟩;have HCB := Lib.hid hcur;have HC := Lib.hid hcur.cur;have hg1 := hcur.lt;clear hcur;have z1 := e1.size;go_wp2_with fail
 refine (spec_l16Any g w1 HC.out).mono ?_;rintro e w2 ⟨⟨v1, v2, rfl, t, x, ot, hdt, hok, oq, hfb⟩, d2⟩;have z2 := d2.size;have e2 : Ext wa w2 := d2.ext e1 hg;obtain ⟨A0, n0, c0, A1, n1, c1, rfl, st_0, st_1⟩ := ot.v;obtain ⟨lt_0, kt_0, mt_0⟩ := st_0.len;subst lt_0;obtain ⟨A7, n7, c7, A8, n8, c8, rfl, sq_0, sq_1⟩ := oq.toV;obtain ⟨lq_0, kq_0, mq_0⟩ := sq_0.len;subst lq_0;obtain ⟨lq_1, kq_1, mq_1⟩ := sq_1.len;subst lq_1;have OT := Lib.hid ot; have OQ := Lib.hid oq; have HFB := Lib.hid hfb; have HDT := Lib.hid hdt; have HOK := Lib.hid hok; clear ot oq hdt hok hfb st_0 st_1 sq_0 sq_1;go_wp2_with fail
 refine name_wp (fun W => Ext w2 W ∧ W.heap.size = w2.heap.size + 1 + 1 ∧ Blk W w2.heap.size 27 [.slice A0 t.ases.length c0, .slice A1 n1 c1] ∧ Blk W (w2.heap.size + 1) 30 [.slice A7 x.down.length c7, .slice A8 x.core.length c8]) ⟨xe, by simp only [World.size_alloc], xb, xb⟩ ?_;rintro w3 ⟨e3, z3_, b5, b6⟩;obtain ⟨z3, z3'⟩ := le_both z3_;clear z3_;have d23 : D g w2 w3 := D.of_ext e3 (by omega);have d13 : D g w1 w3 := D.trans d2 d23;have ea3 : Ext wa w3 := Ext.trans e2 e3;have BT3 := Lib.hid b5; have BK3 := Lib.hid b6; have OT3 := Lib.hid (OT.out.ext e3 (Nat.le_refl _)); have OQ3 := Lib.hid (OQ.out.ext e3 (Nat.le_refl _)); clear b5 b6 OT OQ;have HC3 := Lib.hid (d13.cur HC.out)
 have nb0 : ¬ w2.heap.size = g := by omega
 have nb1 : ¬ w2.heap.size + 1 = g := by omega
 have nb2 : ¬ w.heap.size = g := by omega
 have n0_ : ¬ w2.heap.size = w.heap.size := by omega
 have n1_ : ¬ w.heap.size = w2.heap.size := by omega
 have n2_ : ¬ w2.heap.size + 1 = w.heap.size := by omega
 have n3_ : ¬ w.heap.size = w2.heap.size + 1 := by omega
 have dd : D g w3 w3.drew := D.drew (D.refl _ _);have HCD := Lib.hid (dd.cur HC3.out);have B03 := Lib.hid (B0.out.ext ea3);have b4_ := BT3.out.ext (w' := w3) xe;have lb4_ := b4_.lt;obtain ⟨qb4__0, qb4__1⟩ := blk2 b4_;have fb4__0 := b4_.frozen 0;have fb4__1 := b4_.frozen 1;clear b4_;have b6_ := BK3.out.ext (w' := w3) xe;have lb6_ := b6_.lt;obtain ⟨qb6__0, qb6__1⟩ := blk2 b6_;have fb6__0 := b6_.frozen 0;have fb6__1 := b6_.frozen 1;clear b6_;have c0_ := B03.out.ext (w' := w3) xe;have lc0_ := c0_.lt;obtain ⟨qc0__0, qc0__1⟩ := blk2 c0_;have fc0__0 := c0_.frozen 0;have fc0__1 := c0_.frozen 1;clear c0_
 go_region_with (first
  | (go_at_call 38; go_loud (refine (spec_l1Below g 3 _ (by exact hcn.out) (by omega)).mono ?_; rintro e w9 ⟨x9, rfl, hx9, d9⟩; have dn9 : D g w3 w9 := D.trans dn7 d9; have z9 := d9.size; clear hc7 hf7 hz7; obtain ⟨hc9, hf9, hz9⟩ := dn9.facts))
  | (go_at_call 38; go_loud (refine (spec_l1Below g 3 w3.drew (by exact HCD.out) (by omega)).mono ?_; rintro e w7 ⟨x7, rfl, hx7, d7⟩; have hcn := Lib.hid (d7.cur HCD.out); have dn7 : D g w3 w7 := D.trans dd d7; have z7 := d7.size; obtain ⟨hc7, hf7, hz7⟩ := dn7.facts)))
 all_goals
  have ew9 : Ext w w9 := Ext.trans ea (D.ext (D.trans d13 dn9) e1 hg);go_wp2_with fail
  refine bodyPost_ret (v := .tuple #[.agg #[.slice A7 x.down.length c7, .slice A8 x.core.length c8], I x7, I x9]) (by simp [results, Tryz.results9, go_sem, *]) rfl ⟨⟨_, _, _, rfl, x, ?_, HFB.out⟩, ?_⟩
  · exact SegmentDatabaseQ.kp (m := wa.heap.size) (OQ3.out.d dn9 (by omega)) kp (by omega) (by omega)
  · exact xset
theorem spec_DrawDatabaseUsable (vb : Value) (bs : List Nat) (w : World) (hb : ByteS w.heap.size w vb bs) (hn : bs.length ≤ 1048576) : Calls Tryz.prog 10 #[vb] w fun e w' => (∃ vt vx now, e = .returned (.tuple #[vt, vx, I now]) ∧ ∃ t x, TopologyV w'.heap.size w' vt t ∧ SegmentDatabaseV w'.heap.size w' vx x ∧ FewB 7 x) ∧ Ext w w' := by
 have HB := Lib.hid hb; clear hb
 go_enter Tryz.func10, Tryz.ntmps10
 go_wp2_with fail
 refine name_calls (fun W => Ext w W ∧ W.heap.size = w.heap.size + 1 + 1 ∧ Blk W (w.heap.size) 27 [.slice none 0 0, .slice none 0 0] ∧ Blk W (w.heap.size + 1) 30 [.slice none 0 0, .slice none 0 0]) ⟨xe, by simp only [World.size_alloc], xb, xb⟩ ?_;rintro wa ⟨ea, za_, br0, br1⟩;obtain ⟨za, za'⟩ := le_both za_;clear za_;have B0 := Lib.hid br0; have B1 := Lib.hid br1; clear br0 br1;refine (spec_l1NewB vb bs w.heap.size wa (HB.out.keep ByteAt.keeps (Nat.le_refl _) fun k hk => ea.same k hk) (by omega) hn).mono ?_;rintro e w1 ⟨g, rfl, hg, hcur, e1⟩;have HCB := Lib.hid hcur;have HC := Lib.hid hcur.cur;have hg1 := hcur.lt;clear hcur;have z1 := e1.size;go_wp2_with fail
 refine (spec_l16Any g w1 HC.out).mono ?_;rintro e w2 ⟨⟨v1, v2, rfl, t, x, ot, hdt, hok, oq, hfb⟩, d2⟩;have z2 := d2.size;have e2 : Ext wa w2 := d2.ext e1 hg;obtain ⟨A0, n0, c0, A1, n1, c1, rfl, st_0, st_1⟩ := ot.v;obtain ⟨lt_0, kt_0, mt_0⟩ := st_0.len;subst lt_0;obtain ⟨A7, n7, c7, A8, n8, c8, rfl, sq_0, sq_1⟩ := oq.toV;obtain ⟨lq_0, kq_0, mq_0⟩ := sq_0.len;subst lq_0;obtain ⟨lq_1, kq_1, mq_1⟩ := sq_1.len;subst lq_1;have OT := Lib.hid ot; have OQ := Lib.hid oq; have HFB := Lib.hid hfb; have HDT := Lib.hid hdt; have HOK := Lib.hid hok; clear ot oq hdt hok hfb st_0 st_1 sq_0 sq_1;go_wp2_with fail
 refine name_wp (fun W => Ext w2 W ∧ W.heap.size = w2.heap.size + 1 + 1 ∧ Blk W w2.heap.size 27 [.slice A0 t.ases.length c0, .slice A1 n1 c1] ∧ Blk W (w2.heap.size + 1) 30 [.slice A7 x.down.length c7, .slice A8 x.core.length c8]) ⟨xe, by simp only [World.size_alloc], xb, xb⟩ ?_;rintro w3 ⟨e3, z3_, b5, b6⟩;obtain ⟨z3, z3'⟩ := le_both z3_;clear z3_;have d23 : D g w2 w3 := D.of_ext e3 (by omega);have d13 : D g w1 w3 := D.trans d2 d23;have ea3 : Ext wa w3 := Ext.trans e2 e3;have BT3 := Lib.hid b5; have BK3 := Lib.hid b6; have OT3 := Lib.hid (OT.out.ext e3 (Nat.le_refl _)); have OQ3 := Lib.hid (OQ.out.ext e3 (Nat.le_refl _)); clear b5 b6 OT OQ;have HC3 := Lib.hid (d13.cur HC.out)
 have nb0 : ¬ w2.heap.size = g := by omega
 have nb1 : ¬ w2.heap.size + 1 = g := by omega
 have nb2 : ¬ w.heap.size = g := by omega
 have nb3 : ¬ w.heap.size + 1 = g := by omega
 have n0_ : ¬ w2.heap.size = w.heap.size := by omega
 have n1_ : ¬ w.heap.size = w2.heap.size := by omega
 have n2_ : ¬ w2.heap.size = w.heap.size + 1 := by omega
 have n3_ : ¬ w.heap.size + 1 = w2.heap.size := by omega
 have n4_ : ¬ w2.heap.size + 1 = w.heap.size := by omega
 have n5_ : ¬ w.heap.size = w2.heap.size + 1 := by omega
 have n6_ : ¬ w2.heap.size + 1 = w.heap.size + 1 := by omega
 have n7_ : ¬ w.heap.size + 1 = w2.heap.size + 1 := by omega
 have dd : D g w3 w3.drew := D.drew (D.refl _ _);have HCD := Lib.hid (dd.cur HC3.out);have B03 := Lib.hid (B0.out.ext ea3);have B13 := Lib.hid (B1.out.ext ea3);have b4_ := BT3.out.ext (w' := w3) xe;have lb4_ := b4_.lt;obtain ⟨qb4__0, qb4__1⟩ := blk2 b4_;have fb4__0 := b4_.frozen 0;have fb4__1 := b4_.frozen 1;clear b4_;have b6_ := BK3.out.ext (w' := w3) xe;have lb6_ := b6_.lt;obtain ⟨qb6__0, qb6__1⟩ := blk2 b6_;have fb6__0 := b6_.frozen 0;have fb6__1 := b6_.frozen 1;clear b6_;have c0_ := B03.out.ext (w' := w3) xe;have lc0_ := c0_.lt;obtain ⟨qc0__0, qc0__1⟩ := blk2 c0_;have fc0__0 := c0_.frozen 0;have fc0__1 := c0_.frozen 1;clear c0_;have c1_ := B13.out.ext (w' := w3) xe;have lc1_ := c1_.lt;obtain ⟨qc1__0, qc1__1⟩ := blk2 c1_;have fc1__0 := c1_.frozen 0;have fc1__1 := c1_.frozen 1;clear c1_;go_region_with (go_at_call 38; go_loud (refine (spec_l1Below g 30 w3.drew (by exact HCD.out) (by omega)).mono ?_; rintro e w7 ⟨x7, rfl, hx7, d7⟩; have hcn := Lib.hid (d7.cur HCD.out); have dn7 : D g w3 w7 := D.trans dd d7; have z7 := d7.size; obtain ⟨hc7, hf7, hz7⟩ := dn7.facts))
 all_goals
  have ew9 : Ext w w7 := Ext.trans ea (D.ext (D.trans d13 dn7) e1 hg);go_wp2_with fail
  refine bodyPost_ret (v := .tuple #[.agg #[.slice A0 t.ases.length c0, .slice A1 n1 c1], .agg #[.slice A7 x.down.length c7, .slice A8 x.core.length c8], I (IntKind.i64.wrap (45 + x7))]) (by simp [results, Tryz.results10, go_sem, *]) rfl ⟨⟨_, _, _, rfl, t, x, ?_, ?_, HFB.out⟩, ?_⟩
  · exact TopologyO.kp (m := wa.heap.size) (OT3.out.d dn7 (by omega)) kp (by omega) (by omega)
  · exact SegmentDatabaseQ.kp (m := wa.heap.size) (OQ3.out.d dn7 (by omega)) kp (by omega) (by omega)
  · exact xset
theorem spec_DrawAddSegment (vb : Value) (bs : List Nat) (w : World) (hb : ByteS w.heap.size w vb bs) (hn : bs.length ≤ 1048576) : Calls Tryz.prog 5 #[vb] w fun e w' => (∃ vt vx vs, e = .returned (.tuple #[vt, vx, vs]) ∧ ∃ t x s, TopologyV w'.heap.size w' vt t ∧ SegmentDatabaseV w'.heap.size w' vx x ∧ FewB 7 x ∧ SegmentV w'.heap.size w' vs s ∧ s.hops.length ≤ 5) ∧ Ext w w' := by
 have HB := Lib.hid hb; clear hb
 go_enter Tryz.func5, Tryz.ntmps5
 go_wp2_with fail
 refine name_calls (fun W => Ext w W ∧ W.heap.size = w.heap.size + 1 + 1 + 1 ∧ Blk W (w.heap.size) 27 [.slice none 0 0, .slice none 0 0] ∧ Blk W (w.heap.size + 1) 30 [.slice none 0 0, .slice none 0 0] ∧ Blk W (w.heap.size + 1 + 1) 33 [I 0, I 0, .slice none 0 0]) ⟨xe, by simp only [World.size_alloc], xb, xb, xb⟩ ?_;rintro wa ⟨ea, za_, br0, br1, br2⟩;obtain ⟨za, za'⟩ := le_both za_;clear za_;have B0 := Lib.hid br0; have B1 := Lib.hid br1; have B2 := Lib.hid br2; clear br0 br1 br2;refine (spec_l1NewB vb bs w.heap.size wa (HB.out.keep ByteAt.keeps (Nat.le_refl _) fun k hk => ea.same k hk) (by omega) hn).mono ?_;rintro e w1 ⟨g, rfl, hg, hcur, e1⟩;have HCB := Lib.hid hcur;have HC := Lib.hid hcur.cur;have hg1 := hcur.lt;clear hcur;have z1 := e1.size;go_wp2_with fail
 refine (spec_l16Any g w1 HC.out).mono ?_;rintro e w2 ⟨⟨v1, v2, rfl, t, x, ot, hdt, hok, oq, hfb⟩, d2⟩;have z2 := d2.size;have e2 : Ext wa w2 := d2.ext e1 hg;obtain ⟨A0, n0, c0, A1, n1, c1, rfl, st_0, st_1⟩ := ot.v;obtain ⟨lt_0, kt_0, mt_0⟩ := st_0.len;subst lt_0;obtain ⟨A7, n7, c7, A8, n8, c8, rfl, sq_0, sq_1⟩ := oq.toV;obtain ⟨lq_0, kq_0, mq_0⟩ := sq_0.len;subst lq_0;obtain ⟨lq_1, kq_1, mq_1⟩ := sq_1.len;subst lq_1;have OT := Lib.hid ot; have OQ := Lib.hid oq; have HFB := Lib.hid hfb; have HDT := Lib.hid hdt; have HOK := Lib.hid hok; clear ot oq hdt hok hfb st_0 st_1 sq_0 sq_1;go_wp2_with fail
 refine name_calls (fun W => Ext w2 W ∧ W.heap.size = w2.heap.size + 1 + 1 ∧ Blk W w2.heap.size 27 [.slice A0 t.ases.length c0, .slice A1 n1 c1] ∧ Blk W (w2.heap.size + 1) 30 [.slice A7 x.down.length c7, .slice A8 x.core.length c8]) ⟨xe, by simp only [World.size_alloc], xb, xb⟩ ?_;rintro w3 ⟨e3, z3_, b5, b6⟩;obtain ⟨z3, z3'⟩ := le_both z3_;clear z3_;have d23 : D g w2 w3 := D.of_ext e3 (by omega);have d13 : D g w1 w3 := D.trans d2 d23;have ea3 : Ext wa w3 := Ext.trans e2 e3;have BT3 := Lib.hid b5; have BK3 := Lib.hid b6; have OT3 := Lib.hid (OT.out.ext e3 (Nat.le_refl _)); have OQ3 := Lib.hid (OQ.out.ext e3 (Nat.le_refl _)); clear b5 b6 OT OQ;have HC3 := Lib.hid (d13.cur HC.out)
 have nb0 : ¬ w2.heap.size = g := by omega
 have nb1 : ¬ w2.heap.size + 1 = g := by omega
 have nb2 : ¬ w.heap.size = g := by omega
 have nb3 : ¬ w.heap.size + 1 = g := by omega
 have nb4 : ¬ w.heap.size + 1 + 1 = g := by omega
 have n0_ : ¬ w2.heap.size = w.heap.size := by omega
 have n1_ : ¬ w.heap.size = w2.heap.size := by omega
 have n2_ : ¬ w2.heap.size = w.heap.size + 1 := by omega
 have n3_ : ¬ w.heap.size + 1 = w2.heap.size := by omega
 have n4_ : ¬ w2.heap.size = w.heap.size + 1 + 1 := by omega
 have n5_ : ¬ w.heap.size + 1 + 1 = w2.heap.size := by omega
 have n6_ : ¬ w2.heap.size + 1 = w.heap.size := by omega
 have n7_ : ¬ w.heap.size = w2.heap.size + 1 := by omega
 have n8_ : ¬ w2.heap.size + 1 = w.heap.size + 1 := by omega
 have n9_ : ¬ w.heap.size + 1 = w2.heap.size + 1 := by omega
 have n10_ : ¬ w2.heap.size + 1 = w.heap.size + 1 + 1 := by omega
 have n11_ : ¬ w.heap.size + 1 + 1 = w2.heap.size + 1 := by omega
 refine (spec_l9Grow g _ 2 t _ _ w3 HC3.out (by exact OT3.out) (by omega) (by omega) HDT.out HOK.out).mono ?_;rintro e w5 ⟨v5, rfl, ⟨s, os, hgs⟩, d5⟩;obtain ⟨A, c, rfl, -⟩ := seg_front os;have OS := Lib.hid os; clear os;have hs5 : s.hops.length ≤ 5 := hgs.1;clear hgs;have z5 := d5.size;have d35 : D g w3 w5 := d5;have BK5 := Lib.hid (BK3.out.d d5 nb1); have OQ5 := Lib.hid (OQ3.out.d d5 (by omega));have b6_ := BK5.out.ext (w' := w5) xe;have lb6_ := b6_.lt;obtain ⟨qb6__0, qb6__1⟩ := blk2 b6_;have fb6__0 := b6_.frozen 0;have fb6__1 := b6_.frozen 1;clear b6_;by_cases h0 : x.core.length = 0
 case' pos =>
  have i5 : ¬ (0 : Int) < (x.core.length : Int) := by omega
  go_wp2_with fail
  clear lb6_ qb6__0 qb6__1 fb6__0 fb6__1;refine name_wp (fun W => ∃ (s : DSegment) (A : Option Addr) (c : Nat) (B9 : Option Addr) (c9 : Nat), Blk W (w2.heap.size + 1) 30 [.slice A7 x.down.length c7, .slice B9 x.core.length c9] ∧ SegmentDatabaseQ wa.heap.size W.heap.size W (.agg #[.slice A7 x.down.length c7, .slice B9 x.core.length c9]) x ∧ Blk W w5.heap.size 33 [I s.ts, I s.beta, .slice A s.hops.length c] ∧ SegmentO wa.heap.size W.heap.size W (.agg #[I s.ts, I s.beta, .slice A s.hops.length c]) s ∧ s.hops.length ≤ 5 ∧ D g w3 W) ⟨s, A, c, _, _, BK5.out.alloc _, (OQ5.out.more (by omega) (by omega)).ext ((Ext.refl _).alloc _) (Nat.le_refl _) |>.more (Nat.le_refl _) (by simp only [World.size_alloc]; omega), xb, (OS.out.up xe).more (by omega) (Nat.le_refl _), hs5, xd⟩ ?_
 case' neg =>
  have i5 : (0 : Int) < (x.core.length : Int) := by omega
  have hp : 0 < x.core.length := by omega
  go_wp2_with fail
  refine name_calls (fun W => Ext w5 W ∧ W.heap.size = w5.heap.size + 1 ∧ Blk W w5.heap.size 33 [I s.ts, I s.beta, .slice A s.hops.length c]) ⟨xe, by simp only [World.size_alloc], xb⟩ ?_;clear lb6_ qb6__0 qb6__1 fb6__0 fb6__1;rintro w6 ⟨e6, z6_, bs⟩;obtain ⟨z6, z6'⟩ := le_both z6_;clear z6_;have d36 : D g w3 w6 := D.trans d35 (D.of_ext e6 (by omega));have BS6 := Lib.hid bs; clear bs;refine (spec_l1Once g 4 w6 (d36.cur HC3.out) (by omega)).mono ?_;rintro e w7 ⟨bo, rfl, d7⟩;have z7 := d7.size;have d37 : D g w3 w7 := D.trans d36 d7;have BS7 := Lib.hid (BS6.out.d d7 (by omega)); have OS7 := Lib.hid ((SegmentO.dB (OS.out.up e6) d7 (by omega)).more (Nat.le_refl _) z7);have BK7 := Lib.hid (BK3.out.d d37 nb1); have OQ7 := Lib.hid (OQ3.out.d d37 (by omega));cases bo
  case' false =>
   go_wp2_with fail
   refine name_wp (fun W => ∃ (s : DSegment) (A : Option Addr) (c : Nat) (B9 : Option Addr) (c9 : Nat), Blk W (w2.heap.size + 1) 30 [.slice A7 x.down.length c7, .slice B9 x.core.length c9] ∧ SegmentDatabaseQ wa.heap.size W.heap.size W (.agg #[.slice A7 x.down.length c7, .slice B9 x.core.length c9]) x ∧ Blk W w5.heap.size 33 [I s.ts, I s.beta, .slice A s.hops.length c] ∧ SegmentO wa.heap.size W.heap.size W (.agg #[I s.ts, I s.beta, .slice A s.hops.length c]) s ∧ s.hops.length ≤ 5 ∧ D g w3 W) ⟨s, A, c, _, _, BK7.out, OQ7.out.more (by omega) (by omega), BS7.out, OS7.out.more (by omega) (Nat.le_refl _), hs5, d37⟩ ?_
  case' true =>
   obtain ⟨gs, cs, v2, eu, hlo, hhi, ⟨q0_, q1_, q2_⟩, oe⟩ := SegmentDatabaseQ.elC OQ7.out hp;have he5 := HFB.out.2.2 _ (List.getElem_mem hp)
   generalize x.core[0] = s0 at *
   simp only [Value.slice.injEq, true_and] at eu;obtain ⟨rfl, rfl⟩ := eu;obtain ⟨A4, c4, e4, -⟩ := seg_front oe;have e4 : [I s0.ts, I s0.beta, v2] = [I s0.ts, I s0.beta, .slice A4 s0.hops.length c4] := congrArg Array.toList (Value.agg.inj e4);simp only [List.cons.injEq, and_true, true_and] at e4;subst e4;have OE := Lib.hid oe; clear oe;simp only [Nat.zero_mul, Nat.zero_add] at q0_ q1_ q2_
   have lgs : gs < w7.heap.size := by omega
   have b6_ := BK7.out.ext (w' := w7) xe;have lb6_ := b6_.lt;obtain ⟨qb6__0, qb6__1⟩ := blk2 b6_;have fb6__0 := b6_.frozen 0;have fb6__1 := b6_.frozen 1;clear b6_;have bs_ := BS7.out.ext (w' := w7) xe;have lbs_ := bs_.lt;obtain ⟨qbs__0, qbs__1, qbs__2⟩ := blk3 bs_;have fbs__0 := bs_.frozen 0;have fbs__1 := bs_.frozen 1;have fbs__2 := bs_.frozen 2;clear bs_;go_wp2_with fail
   clear lb6_ qb6__0 qb6__1 fb6__0 fb6__1 lbs_ qbs__0 qbs__1 qbs__2 fbs__0 fbs__1 fbs__2;refine name_wp (fun W => ∃ (s : DSegment) (A : Option Addr) (c : Nat) (B9 : Option Addr) (c9 : Nat), Blk W (w2.heap.size + 1) 30 [.slice A7 x.down.length c7, .slice B9 x.core.length c9] ∧ SegmentDatabaseQ wa.heap.size W.heap.size W (.agg #[.slice A7 x.down.length c7, .slice B9 x.core.length c9]) x ∧ Blk W w5.heap.size 33 [I s.ts, I s.beta, .slice A s.hops.length c] ∧ SegmentO wa.heap.size W.heap.size W (.agg #[I s.ts, I s.beta, .slice A s.hops.length c]) s ∧ s.hops.length ≤ 5 ∧ D g w3 W) ⟨s0, A4, c4, _, _, ((BK7.out.far (by first | omega | (dsimp only; omega)) _).far (by first | omega | (dsimp only; omega)) _).far (by first | omega | (dsimp only; omega)) _, (SegmentDatabaseQ.more (OQ7.out.keep fun k h1 h2 _ => by (rw [Below.heap_setCell _ _ _ _ (by dsimp only; omega), Below.heap_setCell _ _ _ _ (by dsimp only; omega), Below.heap_setCell _ _ _ _ (by dsimp only; omega)])) (by omega) (by simp only [World.size_setCell]; omega)), by simpa using ((BS7.out.set_ 0 (I s0.ts)).set_ 1 (I s0.beta)).set_ 2 (.slice A4 s0.hops.length c4), by simp only [World.size_setCell]; exact (SegmentO.more (OE.out.keep fun k h1 h2 _ => by (rw [Below.heap_setCell _ _ _ _ (by dsimp only; omega), Below.heap_setCell _ _ _ _ (by dsimp only; omega), Below.heap_setCell _ _ _ _ (by dsimp only; omega)])) (by omega) (by omega)), he5, D.setNew (D.setNew (D.setNew d37 (by omega) (by dsimp only; omega) _) (by omega) (by dsimp only; omega) _) (by omega) (by dsimp only; omega) _⟩ ?_
 all_goals
  clear hs5;rintro w9 ⟨s, A, c, B9, c9, bk, oq, bs, os, hs5, d9⟩;have BK9 := Lib.hid bk; have OQ9 := Lib.hid oq; clear bk oq;have z9 := d9.size;have ea9 : Ext wa w9 := D.ext (D.trans d13 d9) e1 hg;have BS9 := Lib.hid bs; have OS9 := Lib.hid os; clear bs os;have BT9 := Lib.hid (BT3.out.d d9 nb0);have B09 := Lib.hid (B0.out.ext ea9); have B19 := Lib.hid (B1.out.ext ea9); have B29 := Lib.hid (B2.out.ext ea9)
  have m0_ : ¬ w5.heap.size = w.heap.size := by omega
  have m1_ : ¬ w.heap.size = w5.heap.size := by omega
  have m2_ : ¬ w5.heap.size = w.heap.size + 1 := by omega
  have m3_ : ¬ w.heap.size + 1 = w5.heap.size := by omega
  have m4_ : ¬ w5.heap.size = w.heap.size + 1 + 1 := by omega
  have m5_ : ¬ w.heap.size + 1 + 1 = w5.heap.size := by omega
  have b4_ := BT9.out.ext (w' := w9) xe;have lb4_ := b4_.lt;obtain ⟨qb4__0, qb4__1⟩ := blk2 b4_;have fb4__0 := b4_.frozen 0;have fb4__1 := b4_.frozen 1;clear b4_;have b6_ := BK9.out.ext (w' := w9) xe;have lb6_ := b6_.lt;obtain ⟨qb6__0, qb6__1⟩ := blk2 b6_;have fb6__0 := b6_.frozen 0;have fb6__1 := b6_.frozen 1;clear b6_;have b8_ := BS9.out.ext (w' := w9) xe;have lb8_ := b8_.lt;obtain ⟨qb8__0, qb8__1, qb8__2⟩ := blk3 b8_;have fb8__0 := b8_.frozen 0;have fb8__1 := b8_.frozen 1;have fb8__2 := b8_.frozen 2;clear b8_;have c0_ := B09.out.ext (w' := w9) xe;have lc0_ := c0_.lt;obtain ⟨qc0__0, qc0__1⟩ := blk2 c0_;have fc0__0 := c0_.frozen 0;have fc0__1 := c0_.frozen 1;clear c0_;have c1_ := B19.out.ext (w' := w9) xe;have lc1_ := c1_.lt;obtain ⟨qc1__0, qc1__1⟩ := blk2 c1_;have fc1__0 := c1_.frozen 0;have fc1__1 := c1_.frozen 1;clear c1_;have c2_ := B29.out.ext (w' := w9) xe;have lc2_ := c2_.lt;obtain ⟨qc2__0, qc2__1, qc2__2⟩ := blk3 c2_;have fc2__0 := c2_.frozen 0;have fc2__1 := c2_.frozen 1;have fc2__2 := c2_.frozen 2;clear c2_;have ew9 : Ext w w9 := Ext.trans ea ea9;go_region
  all_goals
   go_wp2_with fail
   refine bodyPost_ret (v := .tuple #[.agg #[.slice A0 t.ases.length c0, .slice A1 n1 c1], .agg #[.slice A7 x.down.length c7, .slice B9 x.core.length c9], .agg #[I s.ts, I s.beta, .slice A s.hops.length c]]) (by simp [results, Tryz.results5, go_sem, *]) rfl ⟨⟨_, _, _, rfl, t, x, s, ?_, ?_, HFB.out, ?_, hs5⟩, ?_⟩
   · exact TopologyO.kp (m := wa.heap.size) (OT3.out.d d9 (by omega)) kp (by omega) (by omega)
   · exact SegmentDatabaseQ.kp (m := wa.heap.size) OQ9.out kp (by omega) (Nat.le_refl _)
   · exact SegmentO.kpB (m := wa.heap.size) OS9.out kp (Nat.le_refl _) (Nat.le_refl _)
   · exact xset
end Go.Proofs.YtmopmgaeiokfjaaGreat
