/- Contracts of the reference's draws of a segment: DrawSegment, DrawSignSegment, DrawSignedData. The given slice holds bytes. -/
import Derived.Test.YtmlfnfflpacchaaD21
namespace Go.Proofs.Ytmlfnfflpacchaa
open Go.RowKit
set_option linter.unusedVariables false
theorem SegmentO.kp {lo hi m : Nat} {a b : World} {v : Value} {t : DSegment} (h : SegmentO lo hi a v t) (hk : Kp m a b) (hm : m ≤ lo) (hh : hi ≤ a.heap.size) : SegmentV b.heap.size b v t :=
  SegmentO_rd (h.keep fun k h1 _ _ => hk.same k (by omega)) (by rw [hk.size]; exact hh)
theorem SegmentO.dw {lo hi g l m : Nat} {w w' : World} {v : Value} {t : DSegment} (h : SegmentO lo hi w v t) (hd : DW g l m w w') (hg : g < lo) (hm : m ≤ lo) : SegmentO lo hi w' v t := h.keep fun k h1 _ h3 => hd.block k h3 (by omega) (.inr (by omega))
theorem SegmentO.d {lo hi g : Nat} {w w' : World} {v : Value} {t : DSegment} (h : SegmentO lo hi w v t) (hd : D g w w') (hg : g < lo) : SegmentO lo hi w' v t := h.keep fun k h1 _ h3 => hd.block h3 (by omega)
theorem len3 {cs : List Value} (h : cs.length = 3) : ∃ x y z, cs = [x, y, z] := by
  rcases cs with _ | ⟨x, _ | ⟨y, _ | ⟨z, _ | ⟨u, cs⟩⟩⟩⟩ <;> simp at h
  exact ⟨x, y, z, rfl⟩
set_option maxRecDepth 100000 in
set_option maxHeartbeats 1000000 in
theorem spec_DrawSegment (vb : Value) (bs : List Nat) (w : World) (hb : ByteS w.heap.size w vb bs) (hn : bs.length ≤ 1048576) : Calls Try.prog 75 #[vb] w fun e w' => (∃ vt vs, e = .returned (.tuple #[vt, vs]) ∧ ∃ t s, TopologyV w'.heap.size w' vt t ∧ SegmentV w'.heap.size w' vs s ∧ GrownSeg t s ∧ DrawnTopo t) ∧ Ext w w' := by
  have HB := Lib.hid hb; clear hb
  go_enter Try.func75, Try.ntmps75
  go_wp2_with fail
  refine name_calls (fun W => Ext w W ∧ W.heap.size = w.heap.size + 1 + 1 ∧ Blk W (w.heap.size) 27 [.slice none 0 0, .slice none 0 0] ∧ Blk W (w.heap.size + 1) 55 [I 0, I 0, .slice none 0 0]) ⟨xe, by simp only [World.size_alloc], xb, xb⟩ ?_
  rintro wa ⟨ea, za_, br0, br1⟩
  obtain ⟨za, za'⟩ := le_both za_
  clear za_
  have B0 := Lib.hid br0; have B1 := Lib.hid br1; clear br0 br1
  refine (spec_l1NewB vb bs w.heap.size wa (HB.out.keep ByteAt.keeps (Nat.le_refl _) fun k hk => ea.same k hk) (by omega) hn).mono ?_
  rintro e w1 ⟨g, rfl, hg, hcur, e1⟩
  have HCB := Lib.hid hcur
  have HC := Lib.hid hcur.cur
  have hg1 := hcur.lt
  clear hcur
  have z1 := e1.size
  go_wp2_with fail
  refine (spec_l9Draw g w1 HC.out).mono ?_
  rintro e w2 ⟨⟨v1, v2, rfl, t, s, ot, hdt, hlk, os, hgs⟩, d2⟩
  have HGS := Lib.hid hgs; have HDT := Lib.hid hdt; clear hgs hdt hlk
  have z2 := d2.size
  have e2 : Ext wa w2 := d2.ext e1 hg
  obtain ⟨At_0, nt_0, ct_0, At_1, nt_1, ct_1, rfl⟩ := TopologyO.shape ot
  obtain ⟨As, ns, cs, rfl⟩ := os.shape
  have OT := Lib.hid ot; have OS := Lib.hid os; clear ot os
  have ew2 : Ext w w2 := Ext.trans ea e2
  have B02 := Lib.hid (B0.out.ext e2); have B12 := Lib.hid (B1.out.ext e2)
  have c0_ := B02.out.ext (w' := w2) xe
  have lc0_ := c0_.lt
  obtain ⟨qc0__0, qc0__1⟩ := blk2 c0_
  have fc0__0 := c0_.frozen 0
  have fc0__1 := c0_.frozen 1
  clear c0_
  have c1_ := B12.out.ext (w' := w2) xe
  have lc1_ := c1_.lt
  obtain ⟨qc1__0, qc1__1, qc1__2⟩ := blk3 c1_
  have fc1__0 := c1_.frozen 0
  have fc1__1 := c1_.frozen 1
  have fc1__2 := c1_.frozen 2
  clear c1_
  have lt0 : w.heap.size < wa.heap.size := by omega
  have lt1 : w.heap.size + 1 < wa.heap.size := by omega
  go_wp2_with fail
  refine bodyPost_ret (v := .tuple #[.agg #[.slice At_0 nt_0 ct_0, .slice At_1 nt_1 ct_1], .agg #[I s.ts, I s.beta, .slice As ns cs]]) (by simp [results, Try.results75, go_sem, *]) rfl ⟨⟨_, _, rfl, t, s, ?_, ?_, HGS.out, HDT.out⟩, ?_⟩
  · exact TopologyO.kp (m := wa.heap.size) OT.out kp (by omega) (by omega)
  · exact SegmentO.kp (m := wa.heap.size) OS.out kp (by omega) (by omega)
  · exact xset
set_option maxRecDepth 100000 in
set_option maxHeartbeats 1000000 in
theorem spec_DrawSignSegment (vb : Value) (bs : List Nat) (w : World) (hb : ByteS w.heap.size w vb bs) (hn : bs.length ≤ 1048576) : Calls Try.prog 78 #[vb] w fun e w' => (∃ vt vs, e = .returned (.tuple #[vt, vs]) ∧ ∃ t s, TopologyV w'.heap.size w' vt t ∧ SegmentV w'.heap.size w' vs s ∧ s.hops.length ≤ 5 ∧ DrawnTopo t) ∧ Ext w w' := by
  have HB := Lib.hid hb; clear hb
  go_enter Try.func78, Try.ntmps78
  go_wp2_with fail
  refine name_calls (fun W => Ext w W ∧ W.heap.size = w.heap.size + 1 + 1 ∧ Blk W (w.heap.size) 27 [.slice none 0 0, .slice none 0 0] ∧ Blk W (w.heap.size + 1) 55 [I 0, I 0, .slice none 0 0]) ⟨xe, by simp only [World.size_alloc], xb, xb⟩ ?_
  rintro wa ⟨ea, za_, br0, br1⟩
  obtain ⟨za, za'⟩ := le_both za_
  clear za_
  have B0 := Lib.hid br0; have B1 := Lib.hid br1; clear br0 br1
  refine (spec_l1NewB vb bs w.heap.size wa (HB.out.keep ByteAt.keeps (Nat.le_refl _) fun k hk => ea.same k hk) (by omega) hn).mono ?_
  rintro e w1 ⟨g, rfl, hg, hcur, e1⟩
  have HCB := Lib.hid hcur
  have HC := Lib.hid hcur.cur
  have hg1 := hcur.lt
  clear hcur
  have z1 := e1.size
  go_wp2_with fail
  refine (spec_l9Any g w1 HC.out).mono ?_
  rintro e w2 ⟨⟨v1, v2, rfl, t, s, ot, hdt, -, os, hgs⟩, d2⟩
  have HGS := Lib.hid hgs; have HDT := Lib.hid hdt; clear hgs hdt
  have z2 := d2.size
  have e2 : Ext wa w2 := d2.ext e1 hg
  obtain ⟨At_0, nt_0, ct_0, At_1, nt_1, ct_1, rfl⟩ := TopologyO.shape ot
  obtain ⟨As, ns, cs, rfl⟩ := os.shape
  have OT := Lib.hid ot; have OS := Lib.hid os; clear ot os
  have ew2 : Ext w w2 := Ext.trans ea e2
  have B02 := Lib.hid (B0.out.ext e2); have B12 := Lib.hid (B1.out.ext e2)
  have c0_ := B02.out.ext (w' := w2) xe
  have lc0_ := c0_.lt
  obtain ⟨qc0__0, qc0__1⟩ := blk2 c0_
  have fc0__0 := c0_.frozen 0
  have fc0__1 := c0_.frozen 1
  clear c0_
  have c1_ := B12.out.ext (w' := w2) xe
  have lc1_ := c1_.lt
  obtain ⟨qc1__0, qc1__1, qc1__2⟩ := blk3 c1_
  have fc1__0 := c1_.frozen 0
  have fc1__1 := c1_.frozen 1
  have fc1__2 := c1_.frozen 2
  clear c1_
  have lt0 : w.heap.size < wa.heap.size := by omega
  have lt1 : w.heap.size + 1 < wa.heap.size := by omega
  go_wp2_with fail
  refine bodyPost_ret (v := .tuple #[.agg #[.slice At_0 nt_0 ct_0, .slice At_1 nt_1 ct_1], .agg #[I s.ts, I s.beta, .slice As ns cs]]) (by simp [results, Try.results78, go_sem, *]) rfl ⟨⟨_, _, rfl, t, s, ?_, ?_, HGS.out, HDT.out⟩, ?_⟩
  · exact TopologyO.kp (m := wa.heap.size) OT.out kp (by omega) (by omega)
  · exact SegmentO.kp (m := wa.heap.size) OS.out kp (by omega) (by omega)
  · exact xset
set_option maxRecDepth 100000 in
set_option maxHeartbeats 1000000 in
theorem spec_DrawSignedData (vb : Value) (bs : List Nat) (w : World) (hb : ByteS w.heap.size w vb bs) (hn : bs.length ≤ 1048576) : Calls Try.prog 22 #[vb] w fun e w' => (∃ vs i, e = .returned (.tuple #[vs, I i]) ∧ ∃ s, SegmentV w'.heap.size w' vs s ∧ s.hops.length ≤ 5) ∧ Ext w w' := by
  have HB := Lib.hid hb; clear hb
  go_enter Try.func22, Try.ntmps22
  go_wp2_with fail
  refine name_calls (fun W => Ext w W ∧ W.heap.size = w.heap.size + 1 ∧ Blk W (w.heap.size) 55 [I 0, I 0, .slice none 0 0]) ⟨xe, by simp only [World.size_alloc], xb⟩ ?_
  rintro wa ⟨ea, za_, br0⟩
  obtain ⟨za, za'⟩ := le_both za_
  clear za_
  have B0 := Lib.hid br0; clear br0
  refine (spec_l1NewB vb bs w.heap.size wa (HB.out.keep ByteAt.keeps (Nat.le_refl _) fun k hk => ea.same k hk) (by omega) hn).mono ?_
  rintro e w1 ⟨g, rfl, hg, hcur, e1⟩
  have HCB := Lib.hid hcur
  have HC := Lib.hid hcur.cur
  have hg1 := hcur.lt
  clear hcur
  have z1 := e1.size
  go_wp2_with fail
  refine (spec_l9Any g w1 HC.out).mono ?_
  rintro e w2 ⟨⟨v1, v2, rfl, t, s, ot, -, -, os, hgs⟩, d2⟩
  have z2 := d2.size
  have e2 : Ext wa w2 := d2.ext e1 hg
  obtain ⟨At_0, nt_0, ct_0, At_1, nt_1, ct_1, rfl⟩ := TopologyO.shape ot
  obtain ⟨As, ns, cs, rfl⟩ := os.shape
  have OT := Lib.hid ot; have OS := Lib.hid os; clear ot os
  go_wp2_with fail
  refine name_wp (fun W => Ext w2 W ∧ W.heap.size = w2.heap.size + 1 + 1 ∧ Blk W (w2.heap.size + 1) 55 [I s.ts, I s.beta, .slice As ns cs]) ⟨xe, by simp only [World.size_alloc], xb⟩ ?_
  rintro w3 ⟨e3, z3_, b5⟩
  obtain ⟨z3, z3'⟩ := le_both z3_
  clear z3_
  have BT := Lib.hid b5; clear b5
  have ea3 : Ext wa w3 := Ext.trans e2 e3
  have ew3 : Ext w w3 := Ext.trans ea ea3
  have OS3 := Lib.hid (OS.out.ext e3 (Nat.le_refl _))
  have HCB3 := Lib.hid ((D.of_ext e3 (by omega : g < w2.heap.size)).cur (d2.cur HCB.out))
  have hg3 : g < w3.heap.size := by omega
  have nb0 : ¬ w2.heap.size + 1 = g := by omega
  have mb0 : wa.heap.size ≤ w2.heap.size + 1 := by omega
  have b4_ := BT.out.ext (w' := w3) xe
  have lb4_ := b4_.lt
  obtain ⟨qb4__0, qb4__1, qb4__2⟩ := blk3 b4_
  have fb4__0 := b4_.frozen 0
  have fb4__1 := b4_.frozen 1
  have fb4__2 := b4_.frozen 2
  clear b4_
  refine wp_region_LV 4 5 [3] _ (E := DW g w.heap.size wa.heap.size) (w0 := w3) (G := fun τ => match τ with | 16 => some (fun v W => ∃ x : Int, v = I x ∧ 0 ≤ x) | _ => none)  (DW.refl _ _ _) (fun h k => DW.trans h k) (by kernel_rfl) (by kernel_rfl) rfl rfl (by kernel_rfl) (by kernel_rfl) (by kernel_rfl) (by kernel_rfl) (by kernel_rfl) (by kernel_rfl) (by kernel_rfl) (by kernel_rfl) (by kernel_rfl) (by intro i hi oi hoi; simp only [List.mem_cons, List.not_mem_nil, or_false] at hi; rcases hi with rfl; obtain rfl := Option.some.inj hoi <;> exact ⟨rfl, rfl, by kernel_rfl⟩) (by intro t φ hG; split at hG; all_goals first | (cases hG; done) | (cases Option.some.inj hG; intro v W W' hE hv; first | exact hv | exact hv.dw hE (by omega) (by omega))) (DW.drew (by exact DW.refl _ _ _ _)) ?_
  simp only [List.take_succ_cons, List.take_zero, List.drop_succ_cons, List.drop_zero, List.cons_append, List.nil_append]
  repeat' (first
    | ((with_reducible refine wpL_skip ?_ ?_ ?_)
       · rfl
       · rfl
       simp only [Act.put, List.setIfInBounds_toArray, List.set_cons_zero, List.set_cons_succ])
    | ((with_reducible refine wpL_quiet ?_ ?_ ?_ ?_)
       · rfl
       · rfl
       · rfl
       apply Exists.intro
       refine ⟨fun W hW hS => ?_, ?_⟩
       · have hC := (DW.facts hW).1
         go_simp
         first | done | (with_reducible rfl) | (rw [if_neg (by omega)]; exact ⟨rfl, rfl⟩) | rfl
       first | (with_reducible refine wpL_boolT ?_) | (with_reducible refine wpL_boolF ?_) | (with_reducible refine wpL_bool (fun hB => ?_) (fun hB => ?_)) | skip
       all_goals simp only [Act.put, List.setIfInBounds_toArray, List.set_cons_zero, List.set_cons_succ])
    | ((refine wpL_grow ?_ rfl rfl ?_ ?_)
       · rfl
       · intro W hW hS
         have hC := (DW.facts hW).1
         unfold growAt
         go_simp
         simp only [growUpon]
         first | (go_at_call 96; (with_reducible refine Calls.mono (spec_l1Below g _ _ ((hW.cur (Nat.le_refl _) hg HCB3.out).cur) (by omega)) ?_); rintro e w9 ⟨x, rfl, hx, d9⟩; exact ⟨_, rfl, DW.of_d d9, ⟨x, rfl, hx.1⟩⟩)
       intro v W' hW' hv
       first | ((with_reducible refine intro_at 16 _ ?_); obtain ⟨x16, rfl, h16⟩ := hv) | (obtain ⟨A5, n5, c5, rfl, -⟩ := id hv; clear hv) | (obtain ⟨A5, n5, c5, rfl⟩ := NO.slice hv) | skip
       all_goals simp only [Act.put, List.setIfInBounds_toArray, List.set_cons_zero, List.set_cons_succ]))
  refine wpL_nil (fun w4 e4 hL => ?_)
  clear hL
  obtain ⟨s0, hs0, bs0⟩ := e4.shape hg _ _ _ (by omega) (by omega) (B0.out.ext ea3)
  obtain ⟨s0_0, s0_1, s0_2, rfl⟩ := len3 hs0
  have BS0 := Lib.hid bs0; clear bs0
  have z4 := e4.size
  have ew4 : Ext w w4 := DW.ext e4 ew3 (by omega) (Nat.le_refl _)
  have d0_ := BS0.out.ext (w' := w4) xe
  have ld0_ := d0_.lt
  obtain ⟨qd0__0, qd0__1, qd0__2⟩ := blk3 d0_
  have fd0__0 := d0_.frozen 0
  have fd0__1 := d0_.frozen 1
  have fd0__2 := d0_.frozen 2
  clear d0_
  refine ⟨undef, ((w4.setCell ⟨w.heap.size, 0, none⟩ (I s.ts)).setCell ⟨w.heap.size, 1, none⟩ (I s.beta)).setCell ⟨w.heap.size, 2, none⟩ (.slice As ns cs), .skip, .inr ⟨rfl, rfl⟩, ?run, ?_⟩
  case run =>
    go_simp
    first | done | rfl
  refine ⟨DW.set (DW.set (DW.set (DW.refl _ _ _ _) (Nat.le_refl _) (by omega) _) (Nat.le_refl _) (by omega) _) (Nat.le_refl _) (by omega) _, ?_⟩
  refine name_wpl (fun W => Ext w W ∧ Kp wa.heap.size w4 W ∧ Blk W w.heap.size 55 [I s.ts, I s.beta, .slice As ns cs]) ⟨xset, kp, by simpa using ((BS0.out.set_ 0 (I s.ts)).set_ 1 (I s.beta)).set_ 2 (.slice As ns cs)⟩ ?_
  clear ld0_ qd0__0 qd0__1 qd0__2 fd0__0 fd0__1 fd0__2
  rintro w5 ⟨e5, kp5, b0⟩
  have V0 := Lib.hid b0; clear b0
  have d0_ := V0.out.ext (w' := w5) xe
  have ld0_ := d0_.lt
  obtain ⟨qd0__0, qd0__1, qd0__2⟩ := blk3 d0_
  have fd0__0 := d0_.frozen 0
  have fd0__1 := d0_.frozen 1
  have fd0__2 := d0_.frozen 2
  clear d0_
  try simp only [List.drop_succ_cons, List.drop_zero]
  go_wp2_with fail
  refine bodyPost_ret (v := .tuple #[.agg #[I s.ts, I s.beta, .slice As ns cs], I _]) (by simp [results, Try.results22, go_sem, *]; rfl) rfl ⟨⟨_, _, rfl, s, ?_, hgs⟩, ?_⟩
  · exact SegmentO.kp (m := wa.heap.size) (OS3.out.dw e4 (by omega) (by omega)) (kp5.trans kp) (by omega) (by omega)
  · exact xset
end Go.Proofs.Ytmlfnfflpacchaa
