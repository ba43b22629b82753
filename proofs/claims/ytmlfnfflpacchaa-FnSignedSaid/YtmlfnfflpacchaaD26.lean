/- Contracts of the reference's draws of a signed segment: DrawFirstBadSignature, DrawTruncateSigned. The given slice holds bytes. -/
import Derived.Test.YtmlfnfflpacchaaD25
namespace Go.Proofs.Ytmlfnfflpacchaa
open Go.RowKit
set_option linter.unusedVariables false
theorem SignedL.dw {lo g l m : Nat} {W W' : World} {v : Value} {x : DSignedSegment} (h : SignedL lo W v x) (hd : DW g l m W W') (hg : g < lo) (hm : m ≤ lo) : SignedL lo W' v x := by
  obtain ⟨A2, c2, A3, c3, e, o2, o3⟩ := h
  exact ⟨A2, c2, A3, c3, e, Own.dwUp o2 hd hg hm, Own.dwUp o3 hd hg hm⟩
theorem len4 {cs : List Value} (h : cs.length = 4) : ∃ x y z u, cs = [x, y, z, u] := by
  rcases cs with _ | ⟨x, _ | ⟨y, _ | ⟨z, _ | ⟨u, _ | ⟨v, cs⟩⟩⟩⟩⟩ <;> simp at h
  exact ⟨x, y, z, u, rfl⟩
set_option maxRecDepth 100000 in
set_option maxHeartbeats 1000000 in
theorem spec_DrawFirstBadSignature (vb : Value) (bs : List Nat) (w : World) (hb : ByteS w.heap.size w vb bs) (hn : bs.length ≤ 1048576) : Calls Try.prog 77 #[vb] w fun e w' => (∃ vt vx, e = .returned (.tuple #[vt, vx]) ∧ ∃ t x, TopologyV w'.heap.size w' vt t ∧ SignedSegmentV w'.heap.size w' vx x ∧ x.seg.hops.length ≤ 5 ∧ x.sigs.length ≤ 5) ∧ Ext w w' := by
  have HB := Lib.hid hb; clear hb
  go_enter Try.func77, Try.ntmps77
  go_wp2_with fail
  refine name_calls (fun W => Ext w W ∧ W.heap.size = w.heap.size + 1 + 1 ∧ Blk W (w.heap.size) 27 [.slice none 0 0, .slice none 0 0] ∧ Blk W (w.heap.size + 1) 106 [I 0, I 0, .slice none 0 0, .slice none 0 0]) ⟨xe, by simp only [World.size_alloc], xb, xb⟩ ?_
  rintro wa ⟨ea, za_, br0, br1⟩
  obtain ⟨za, za'⟩ := le_both za_
  clear za_
  have B0 := Lib.hid br0; have B1 := Lib.hid br1; clear br0 br1
  refine (spec_l1NewB vb bs w.heap.size wa (HB.out.keep ByteAt.keeps (Nat.le_refl _) fun k hk => ea.same k hk) (by omega) hn).mono ?_
  rintro e w1 ⟨g, rfl, hg, hcur, e1⟩
  have HCB := Lib.hid hcur
  have HC := Lib.hid hcur.cur
  have hg1 := hcur.lt
  clear hcur
  have z1 := e1.size
  go_wp2_with fail
  refine (spec_l20Draw g w1 HC.out).mono ?_
  rintro e w2 ⟨⟨v1, v2, v3, v4, rfl, t, l, m, x, ot, hdt, ol, hdr, om, hm8, hx, hx1, hx2⟩, d2⟩
  have z2 := d2.size
  have e2 : Ext wa w2 := d2.ext e1 hg
  obtain ⟨At_0, nt_0, ct_0, At_1, nt_1, ct_1, rfl⟩ := TopologyO.shape ot
  obtain ⟨A2, c2, A3, c3, rfl, -⟩ := id hx
  have OT := Lib.hid ot; have OL := Lib.hid ol; have OM := Lib.hid om; have OX := Lib.hid hx; have HDT := Lib.hid hdt; have HDR := Lib.hid hdr; clear ot ol om hx hdt hdr
  go_wp2_with fail
  refine name_wp (fun W => Ext w2 W ∧ W.heap.size = w2.heap.size + 1 + 1 ∧ Blk W w2.heap.size 27 [.slice At_0 nt_0 ct_0, .slice At_1 nt_1 ct_1] ∧ Blk W (w2.heap.size + 1) 106 [I x.seg.ts, I x.seg.beta, .slice A2 x.seg.hops.length c2, .slice A3 x.sigs.length c3]) ⟨xe, by simp only [World.size_alloc], xb, xb⟩ ?_
  rintro w3 ⟨e3, z3_, b5, b6⟩
  obtain ⟨z3, z3'⟩ := le_both z3_
  clear z3_
  have BT := Lib.hid b5; have BX := Lib.hid b6; clear b5 b6
  have ea3 : Ext wa w3 := Ext.trans e2 e3
  have ew3 : Ext w w3 := Ext.trans ea ea3
  have d3 : D g w2 w3 := D.of_ext e3 (by omega)
  have OT3 := Lib.hid (OT.out.ext e3 (Nat.le_refl _)); have OX3 := Lib.hid (OX.out.d d3 (by omega))
  have HCB3 := Lib.hid (d3.cur (d2.cur HCB.out))
  have hg3 : g < w3.heap.size := by omega
  have B03 := Lib.hid (B0.out.ext ea3); have B13 := Lib.hid (B1.out.ext ea3)
  have n1 : ¬ w2.heap.size = w.heap.size := by omega
  have n2 : ¬ w.heap.size = w2.heap.size := by omega
  have n3 : ¬ w2.heap.size = w.heap.size + 1 := by omega
  have n4 : ¬ w.heap.size + 1 = w2.heap.size := by omega
  have n5 : ¬ w2.heap.size + 1 = w.heap.size := by omega
  have n6 : ¬ w.heap.size = w2.heap.size + 1 := by omega
  have n7 : ¬ w2.heap.size + 1 = w.heap.size + 1 := by omega
  have n8 : ¬ w.heap.size + 1 = w2.heap.size + 1 := by omega
  have lt0 : w.heap.size < wa.heap.size := by omega
  have lt1 : w.heap.size + 1 < wa.heap.size := by omega
  have b4_ := BT.out.ext (w' := w3) xe
  have lb4_ := b4_.lt
  obtain ⟨qb4__0, qb4__1⟩ := blk2 b4_
  have fb4__0 := b4_.frozen 0
  have fb4__1 := b4_.frozen 1
  clear b4_
  have b6_ := BX.out.ext (w' := w3) xe
  have lb6_ := b6_.lt
  obtain ⟨qb6__0, qb6__1, qb6__2, qb6__3⟩ := blk4 b6_
  have fb6__0 := b6_.frozen 0
  have fb6__1 := b6_.frozen 1
  have fb6__2 := b6_.frozen 2
  have fb6__3 := b6_.frozen 3
  clear b6_
  have c0_ := B03.out.ext (w' := w3) xe
  have lc0_ := c0_.lt
  obtain ⟨qc0__0, qc0__1⟩ := blk2 c0_
  have fc0__0 := c0_.frozen 0
  have fc0__1 := c0_.frozen 1
  clear c0_
  have c1_ := B13.out.ext (w' := w3) xe
  have lc1_ := c1_.lt
  obtain ⟨qc1__0, qc1__1, qc1__2, qc1__3⟩ := blk4 c1_
  have fc1__0 := c1_.frozen 0
  have fc1__1 := c1_.frozen 1
  have fc1__2 := c1_.frozen 2
  have fc1__3 := c1_.frozen 3
  clear c1_
  go_region
  all_goals
    go_wp2_with fail
    refine bodyPost_ret (v := .tuple #[.agg #[.slice At_0 nt_0 ct_0, .slice At_1 nt_1 ct_1], .agg #[I x.seg.ts, I x.seg.beta, .slice A2 x.seg.hops.length c2, .slice A3 x.sigs.length c3]]) (by simp [results, Try.results77, go_sem, *]) rfl ⟨⟨_, _, rfl, t, x, ?_, ?_, hx1, hx2⟩, ?_⟩
    · exact TopologyO.kp (m := wa.heap.size) OT3.out kp (by omega) (by omega)
    · exact (SignedL.kp (m := wa.heap.size) OX3.out kp (by omega)).rd
    · exact xset
set_option maxRecDepth 100000 in
set_option maxHeartbeats 1000000 in
theorem spec_DrawTruncateSigned (vb : Value) (bs : List Nat) (w : World) (hb : ByteS w.heap.size w vb bs) (hn : bs.length ≤ 1048576) : Calls Try.prog 79 #[vb] w fun e w' => (∃ vx i, e = .returned (.tuple #[vx, I i]) ∧ ∃ x, SignedSegmentV w'.heap.size w' vx x ∧ x.seg.hops.length ≤ 5 ∧ x.sigs.length ≤ 5) ∧ Ext w w' := by
  have HB := Lib.hid hb; clear hb
  go_enter Try.func79, Try.ntmps79
  go_wp2_with fail
  refine name_calls (fun W => Ext w W ∧ W.heap.size = w.heap.size + 1 ∧ Blk W (w.heap.size) 106 [I 0, I 0, .slice none 0 0, .slice none 0 0]) ⟨xe, by simp only [World.size_alloc], xb⟩ ?_
  rintro wa ⟨ea, za_, br0⟩
  obtain ⟨za, za'⟩ := le_both za_
  clear za_
  have B0 := Lib.hid br0; clear br0
  refine (spec_l1NewB vb bs w.heap.size wa (HB.out.keep ByteAt.keeps (Nat.le_refl _) fun k hk => ea.same k hk) (by omega) hn).mono ?_
  rintro e w1 ⟨g, rfl, hg, hcur, e1⟩
  have HCB := Lib.hid hcur
  have HC := Lib.hid hcur.cur
  have hg1 := hcur.lt
  clear hcur
  have z1 := e1.size
  go_wp2_with fail
  refine (spec_l20Draw g w1 HC.out).mono ?_
  rintro e w2 ⟨⟨v1, v2, v3, v4, rfl, t, l, m, x, ot, hdt, ol, hdr, om, hm8, hx, hx1, hx2⟩, d2⟩
  have z2 := d2.size
  have e2 : Ext wa w2 := d2.ext e1 hg
  obtain ⟨At_0, nt_0, ct_0, At_1, nt_1, ct_1, rfl⟩ := TopologyO.shape ot
  obtain ⟨A2, c2, A3, c3, rfl, -⟩ := id hx
  have OT := Lib.hid ot; have OL := Lib.hid ol; have OM := Lib.hid om; have OX := Lib.hid hx; have HDT := Lib.hid hdt; have HDR := Lib.hid hdr; clear ot ol om hx hdt hdr
  go_wp2_with fail
  refine name_wp (fun W => Ext w2 W ∧ W.heap.size = w2.heap.size + 1 + 1 ∧ Blk W w2.heap.size 27 [.slice At_0 nt_0 ct_0, .slice At_1 nt_1 ct_1] ∧ Blk W (w2.heap.size + 1) 106 [I x.seg.ts, I x.seg.beta, .slice A2 x.seg.hops.length c2, .slice A3 x.sigs.length c3]) ⟨xe, by simp only [World.size_alloc], xb, xb⟩ ?_
  rintro w3 ⟨e3, z3_, b5, b6⟩
  obtain ⟨z3, z3'⟩ := le_both z3_
  clear z3_
  have BT := Lib.hid b5; have BX := Lib.hid b6; clear b5 b6
  have ea3 : Ext wa w3 := Ext.trans e2 e3
  have ew3 : Ext w w3 := Ext.trans ea ea3
  have d3 : D g w2 w3 := D.of_ext e3 (by omega)
  have OT3 := Lib.hid (OT.out.ext e3 (Nat.le_refl _)); have OX3 := Lib.hid (OX.out.d d3 (by omega))
  have HCB3 := Lib.hid (d3.cur (d2.cur HCB.out))
  have hg3 : g < w3.heap.size := by omega
  have nb0 : ¬ w2.heap.size + 1 = g := by omega
  have mb0 : wa.heap.size ≤ w2.heap.size + 1 := by omega
  have b4_ := BX.out.ext (w' := w3) xe
  have lb4_ := b4_.lt
  obtain ⟨qb4__0, qb4__1, qb4__2, qb4__3⟩ := blk4 b4_
  have fb4__0 := b4_.frozen 0
  have fb4__1 := b4_.frozen 1
  have fb4__2 := b4_.frozen 2
  have fb4__3 := b4_.frozen 3
  clear b4_
  refine wp_region_LV 4 5 [3] _ (E := DW g w.heap.size wa.heap.size) (w0 := w3) (G := fun τ => match τ with | 20 => some (fun v W => ∃ x : Int, v = I x ∧ 0 ≤ x) | _ => none)  (DW.refl _ _ _) (fun h k => DW.trans h k) (by kernel_rfl) (by kernel_rfl) rfl rfl (by kernel_rfl) (by kernel_rfl) (by kernel_rfl) (by kernel_rfl) (by kernel_rfl) (by kernel_rfl) (by kernel_rfl) (by kernel_rfl) (by kernel_rfl) (by intro i hi oi hoi; simp only [List.mem_cons, List.not_mem_nil, or_false] at hi; rcases hi with rfl; obtain rfl := Option.some.inj hoi <;> exact ⟨rfl, rfl, by kernel_rfl⟩) (by intro t φ hG; split at hG; all_goals first | (cases hG; done) | (cases Option.some.inj hG; intro v W W' hE hv; first | exact hv | exact hv.dw hE (by omega) (by omega))) (DW.drew (by exact DW.refl _ _ _ _)) ?_
  simp only [List.take_succ_cons, List.take_zero, List.drop_succ_cons, List.drop_zero, List.cons_append, List.nil_append]
  repeat' (first
    | ((with_reducible refine wpL_skip ?_ ?_ ?_)
       · rfl
       · rfl
       simp only [Act.put, List.setIfInBounds_toArray, List.set_cons_zero, List.set_cons_succ])
    | ((with_reducible refine wpL_quiet ?_ ?_ ?_ ?_)
       · rfl
       · rfl
       · rfl
       apply Exists.intro
       refine ⟨fun W hW hS => ?_, ?_⟩
       · have hC := (DW.facts hW).1
         go_simp
         first | done | (with_reducible rfl) | (rw [if_neg (by omega)]; exact ⟨rfl, rfl⟩) | rfl
       first | (with_reducible refine wpL_boolT ?_) | (with_reducible refine wpL_boolF ?_) | (with_reducible refine wpL_bool (fun hB => ?_) (fun hB => ?_)) | skip
       all_goals simp only [Act.put, List.setIfInBounds_toArray, List.set_cons_zero, List.set_cons_succ])
    | ((refine wpL_grow ?_ rfl rfl ?_ ?_)
       · rfl
       · intro W hW hS
         have hC := (DW.facts hW).1
         unfold growAt
         go_simp
         simp only [growUpon]
         first | (go_at_call 96; (with_reducible refine Calls.mono (spec_l1Below g _ _ ((hW.cur (Nat.le_refl _) hg HCB3.out).cur) (by omega)) ?_); rintro e w9 ⟨x, rfl, hx, d9⟩; exact ⟨_, rfl, DW.of_d d9, ⟨x, rfl, hx.1⟩⟩)
       intro v W' hW' hv
       first | ((with_reducible refine intro_at 20 _ ?_); obtain ⟨x20, rfl, h20⟩ := hv) | (obtain ⟨A5, n5, c5, rfl, -⟩ := id hv; clear hv) | (obtain ⟨A5, n5, c5, rfl⟩ := NO.slice hv) | skip
       all_goals simp only [Act.put, List.setIfInBounds_toArray, List.set_cons_zero, List.set_cons_succ]))
  refine wpL_nil (fun w4 e4 hL => ?_)
  clear hL
  obtain ⟨s0, hs0, bs0⟩ := e4.shape hg _ _ _ (by omega) (by omega) (B0.out.ext ea3)
  obtain ⟨s0_0, s0_1, s0_2, s0_3, rfl⟩ := len4 hs0
  have BS0 := Lib.hid bs0; clear bs0
  have z4 := e4.size
  have ew4 : Ext w w4 := DW.ext e4 ew3 (by omega) (Nat.le_refl _)
  have d0_ := BS0.out.ext (w' := w4) xe
  have ld0_ := d0_.lt
  obtain ⟨qd0__0, qd0__1, qd0__2, qd0__3⟩ := blk4 d0_
  have fd0__0 := d0_.frozen 0
  have fd0__1 := d0_.frozen 1
  have fd0__2 := d0_.frozen 2
  have fd0__3 := d0_.frozen 3
  clear d0_
  refine ⟨undef, (((w4.setCell ⟨w.heap.size, 0, none⟩ (I x.seg.ts)).setCell ⟨w.heap.size, 1, none⟩ (I x.seg.beta)).setCell ⟨w.heap.size, 2, none⟩ (.slice A2 x.seg.hops.length c2)).setCell ⟨w.heap.size, 3, none⟩ (.slice A3 x.sigs.length c3), .skip, .inr ⟨rfl, rfl⟩, ?run, ?_⟩
  case run =>
    go_simp
    first | done | rfl
  refine ⟨DW.set (DW.set (DW.set (DW.set (DW.refl _ _ _ _) (Nat.le_refl _) (by omega) _) (Nat.le_refl _) (by omega) _) (Nat.le_refl _) (by omega) _) (Nat.le_refl _) (by omega) _, ?_⟩
  refine name_wpl (fun W => Ext w W ∧ Kp wa.heap.size w4 W ∧ Blk W w.heap.size 106 [I x.seg.ts, I x.seg.beta, .slice A2 x.seg.hops.length c2, .slice A3 x.sigs.length c3]) ⟨xset, kp, by simpa using (((BS0.out.set_ 0 (I x.seg.ts)).set_ 1 (I x.seg.beta)).set_ 2 (.slice A2 x.seg.hops.length c2)).set_ 3 (.slice A3 x.sigs.length c3)⟩ ?_
  clear ld0_ qd0__0 qd0__1 qd0__2 qd0__3 fd0__0 fd0__1 fd0__2 fd0__3
  rintro w5 ⟨e5, kp5, b0⟩
  have V0 := Lib.hid b0; clear b0
  have d0_ := V0.out.ext (w' := w5) xe
  have ld0_ := d0_.lt
  obtain ⟨qd0__0, qd0__1, qd0__2, qd0__3⟩ := blk4 d0_
  have fd0__0 := d0_.frozen 0
  have fd0__1 := d0_.frozen 1
  have fd0__2 := d0_.frozen 2
  have fd0__3 := d0_.frozen 3
  clear d0_
  try simp only [List.drop_succ_cons, List.drop_zero]
  go_wp2_with fail
  refine bodyPost_ret (v := .tuple #[.agg #[I x.seg.ts, I x.seg.beta, .slice A2 x.seg.hops.length c2, .slice A3 x.sigs.length c3], I _]) (by simp [results, Try.results79, go_sem, *]; rfl) rfl ⟨⟨_, _, rfl, x, ?_, hx1, hx2⟩, ?_⟩
  · exact (SignedL.kp (m := wa.heap.size) (OX3.out.dw e4 (by omega) (by omega)) (kp5.trans kp) (by omega)).rd
  · exact xset
end Go.Proofs.Ytmlfnfflpacchaa
