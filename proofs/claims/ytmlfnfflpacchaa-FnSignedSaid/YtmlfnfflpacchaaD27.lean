/- The walk of the law FnSigned. No conditions. -/
import Derived.Test.YtmlfnfflpacchaaD8
import Derived.Test.YtmlfnfflpacchaaD11
import Derived.Test.YtmlfnfflpacchaaD26
import Derived.Test.YtmlfnfflpacchaaP20
import Derived.Test.YtmlfnfflpacchaaGL20
import Derived.Test.YtmlfnfflpacchaaL20d
namespace Go.Proofs.Ytmlfnfflpacchaa
open Go.RowKit
set_option linter.unusedVariables false
theorem Own.blk_typed {E sz lo hi n c g T : Nat} {w : World} {o : Nat} {cs cs' : List Value} (h : Own E sz lo hi w (.slice (some ⟨g, o, none⟩) n c) n cs) (hb : Blk w g T cs') : E = T := by
  rcases h.cases with ⟨e, _, _⟩ | ⟨g2, cap, rest, e, _, _, hb2, _⟩
  · cases e
  · simp only [Value.slice.injEq, Option.some.injEq, Addr.mk.injEq] at e
    obtain ⟨⟨rfl, -⟩, -⟩ := e
    have h9 := Option.some.inj (hb2.symm.trans hb)
    exact (Obj.cells.inj h9).2.1
theorem ss_sigs {B n c n3 c3 : Nat} {w : World} {A A3 : Option Addr} {ts be : Int} {x : DSignedSegment} (h : SignedSegmentV B w (.agg #[I ts, I be, .slice A n c, .slice A3 n3 c3]) x) : IntS B w (.slice A3 n3 c3) x.sigs := by
  obtain ⟨_, _, _, _, _, _, e, -, s0⟩ := h
  cases e
  exact s0
theorem trunc_len {x : DSignedSegment} {i : Int} {n : Nat} (h : x.seg.hops.length ≤ n) : (truncSigned x i).seg.hops.length ≤ n := by
  unfold truncSigned
  split
  · dsimp only
    rw [List.length_take]
    omega
  · exact h
theorem seg_hops {B n c : Nat} {w : World} {A : Option Addr} {ts be : Int} {s : DSegment} (h : SegmentV B w (.agg #[I ts, I be, .slice A n c]) s) : HopS B w (.slice A n c) s.hops := by
  obtain ⟨_, _, _, e, s0⟩ := h
  cases e
  exact s0
/-- v is u. -/
inductive IsV (u : Value) : Value → Prop where
  | mk : IsV u u
set_option maxRecDepth 100000 in
set_option maxHeartbeats 40000000 in
theorem signed_walk (vb : Value) (bs : List Nat) (w : World) (hb : ByteS w.heap.size w vb bs) : Calls Try.prog 7 #[vb] w fun e w' => e = .returned (.bool true) ∧ Ext w w' := by
  have HB := Lib.hid hb; clear hb
  go_enter Try.func7, Try.ntmps7
  go_wp2_with fail
  refine (laws_big vb bs w HB.out).mono ?_
  rintro e u0 ⟨rfl, e0⟩
  by_cases hn : 1048576 < bs.length
  · rw [show decide (1048576 < bs.length) = true by simpa using hn]
    go_wp2_with fail
    go_ret
    exact ⟨rfl, xe⟩
  rw [show decide (1048576 < bs.length) = false by simpa using hn]
  go_wp2_with fail
  refine (spec_DrawSegment vb bs u0 (Sl.ext ByteAt.keeps HB.out xe) (by omega)).mono ?_
  rintro e w1 ⟨⟨vt1, vs1, rfl, t1, s1, ht1, hs1, hgs1, -⟩, e1⟩
  obtain ⟨At1_0, nt1_0, ct1_0, At1_1, nt1_1, ct1_1, rfl, st1_0, st1_1⟩ := id ht1
  obtain ⟨lt1_0, kt1_0, mt1_0⟩ := st1_0.len
  subst lt1_0
  unfold maxLen at mt1_0
  obtain ⟨lt1_1, kt1_1, mt1_1⟩ := st1_1.len
  subst lt1_1
  unfold maxLen at mt1_1
  have Rt1 := Lib.hid ht1; clear ht1
  have St1_0 := Lib.hid st1_0; clear st1_0
  have St1_1 := Lib.hid st1_1; clear st1_1
  obtain ⟨As1_2, ns1_2, cs1_2, rfl, ss1_2⟩ := id hs1
  obtain ⟨ls1_2, ks1_2, ms1_2⟩ := ss1_2.len
  subst ls1_2
  unfold maxLen at ms1_2
  have Rs1 := Lib.hid hs1; clear hs1
  have Ss1_2 := Lib.hid ss1_2; clear ss1_2
  go_wp2_with fail
  refine name_calls (fun W => Ext w1 W ∧ W.heap.size = w1.heap.size + 1 + 1 ∧ Blk W (w1.heap.size) 27 [.slice At1_0 t1.ases.length ct1_0, .slice At1_1 t1.links.length ct1_1] ∧ Blk W (w1.heap.size + 1) 55 [I s1.ts, I s1.beta, .slice As1_2 s1.hops.length cs1_2]) ⟨xe, by first | rfl | simp only [World.size_alloc], xb, xb⟩ ?_
  rintro u1 ⟨f1, z1, bt1, bs1⟩
  have Kt1 := Lib.hid bt1; have Ks1 := Lib.hid bs1; clear bt1 bs1
  have eu1 : Ext u0 u1 := Ext.trans e1 f1
  refine (impl_SignSegment _ _ t1 s1 u1 (by exact Rt1.out.ext xe) (by exact Rs1.out.ext xe) (by have := hgs1.1; omega)).mono ?_
  rintro e w2 ⟨vx2, rfl, ox2, e2⟩
  obtain ⟨x2, hx2e⟩ : ∃ x, x = signSeg t1 s1 := ⟨_, rfl⟩
  rw [← hx2e] at ox2
  have hx2 : SignedSegmentV w2.heap.size w2 vx2 x2 := SignedSegmentO_rd ox2 (Nat.le_refl _)
  have HX2 := Lib.hid hx2e; clear ox2 hx2e
  obtain ⟨Ax2_2, nx2_2, cx2_2, Ax2_3, nx2_3, cx2_3, rfl, sx2_2, sx2_3⟩ := id hx2
  obtain ⟨lx2_2, kx2_2, mx2_2⟩ := sx2_2.len
  subst lx2_2
  unfold maxLen at mx2_2
  obtain ⟨lx2_3, kx2_3, mx2_3⟩ := sx2_3.len
  subst lx2_3
  unfold maxLen at mx2_3
  have Rx2 := Lib.hid hx2; clear hx2
  have Sx2_2 := Lib.hid sx2_2; clear sx2_2
  have Sx2_3 := Lib.hid sx2_3; clear sx2_3
  go_wp2_with fail
  refine name_calls (fun W => Ext w2 W ∧ W.heap.size = w2.heap.size + 1 ∧ Blk W (w2.heap.size) 106 [I x2.seg.ts, I x2.seg.beta, .slice Ax2_2 x2.seg.hops.length cx2_2, .slice Ax2_3 x2.sigs.length cx2_3]) ⟨xe, by first | rfl | simp only [World.size_alloc], xb⟩ ?_
  rintro u2 ⟨f2, z2, bx2⟩
  have Kx2 := Lib.hid bx2; clear bx2
  have eu2 : Ext u0 u2 := Ext.trans eu1 (Ext.trans e2 f2)
  refine (spec_DrawFirstBadSignature vb bs u2 (Sl.ext ByteAt.keeps HB.out xe) (by omega)).mono ?_
  rintro e w3 ⟨⟨vt3, vx3, rfl, t3, x3, ht3, hx3, h31, h32⟩, e3⟩
  obtain ⟨At3_0, nt3_0, ct3_0, At3_1, nt3_1, ct3_1, rfl, st3_0, st3_1⟩ := id ht3
  obtain ⟨lt3_0, kt3_0, mt3_0⟩ := st3_0.len
  subst lt3_0
  unfold maxLen at mt3_0
  obtain ⟨lt3_1, kt3_1, mt3_1⟩ := st3_1.len
  subst lt3_1
  unfold maxLen at mt3_1
  have Rt3 := Lib.hid ht3; clear ht3
  have St3_0 := Lib.hid st3_0; clear st3_0
  have St3_1 := Lib.hid st3_1; clear st3_1
  obtain ⟨Ax3_2, nx3_2, cx3_2, Ax3_3, nx3_3, cx3_3, rfl, sx3_2, sx3_3⟩ := id hx3
  obtain ⟨lx3_2, kx3_2, mx3_2⟩ := sx3_2.len
  subst lx3_2
  unfold maxLen at mx3_2
  obtain ⟨lx3_3, kx3_3, mx3_3⟩ := sx3_3.len
  subst lx3_3
  unfold maxLen at mx3_3
  have Rx3 := Lib.hid hx3; clear hx3
  have Sx3_2 := Lib.hid sx3_2; clear sx3_2
  have Sx3_3 := Lib.hid sx3_3; clear sx3_3
  go_wp2_with fail
  refine name_calls (fun W => Ext w3 W ∧ W.heap.size = w3.heap.size + 1 + 1 ∧ Blk W (w3.heap.size) 27 [.slice At3_0 t3.ases.length ct3_0, .slice At3_1 t3.links.length ct3_1] ∧ Blk W (w3.heap.size + 1) 106 [I x3.seg.ts, I x3.seg.beta, .slice Ax3_2 x3.seg.hops.length cx3_2, .slice Ax3_3 x3.sigs.length cx3_3]) ⟨xe, by first | rfl | simp only [World.size_alloc], xb, xb⟩ ?_
  rintro u3 ⟨f3, z3, bt3, bx3⟩
  have Kt3 := Lib.hid bt3; have Kx3 := Lib.hid bx3; clear bt3 bx3
  have eu3 : Ext u0 u3 := Ext.trans eu2 (Ext.trans e3 f3)
  refine (spec_DrawSignSegment vb bs u3 (Sl.ext ByteAt.keeps HB.out xe) (by omega)).mono ?_
  rintro e w4 ⟨⟨vt4, vs4, rfl, t4, s4, ht4, hs4, hs4n, -⟩, e4⟩
  obtain ⟨At4_0, nt4_0, ct4_0, At4_1, nt4_1, ct4_1, rfl, st4_0, st4_1⟩ := id ht4
  obtain ⟨lt4_0, kt4_0, mt4_0⟩ := st4_0.len
  subst lt4_0
  unfold maxLen at mt4_0
  obtain ⟨lt4_1, kt4_1, mt4_1⟩ := st4_1.len
  subst lt4_1
  unfold maxLen at mt4_1
  have Rt4 := Lib.hid ht4; clear ht4
  have St4_0 := Lib.hid st4_0; clear st4_0
  have St4_1 := Lib.hid st4_1; clear st4_1
  obtain ⟨As4_2, ns4_2, cs4_2, rfl, ss4_2⟩ := id hs4
  obtain ⟨ls4_2, ks4_2, ms4_2⟩ := ss4_2.len
  subst ls4_2
  unfold maxLen at ms4_2
  have Rs4 := Lib.hid hs4; clear hs4
  have Ss4_2 := Lib.hid ss4_2; clear ss4_2
  go_wp2_with fail
  refine name_calls (fun W => Ext w4 W ∧ W.heap.size = w4.heap.size + 1 + 1 ∧ Blk W (w4.heap.size) 27 [.slice At4_0 t4.ases.length ct4_0, .slice At4_1 t4.links.length ct4_1] ∧ Blk W (w4.heap.size + 1) 55 [I s4.ts, I s4.beta, .slice As4_2 s4.hops.length cs4_2]) ⟨xe, by first | rfl | simp only [World.size_alloc], xb, xb⟩ ?_
  rintro u4 ⟨f4, z4, bt4, bs4⟩
  have Kt4 := Lib.hid bt4; have Ks4 := Lib.hid bs4; clear bt4 bs4
  have eu4 : Ext u0 u4 := Ext.trans eu3 (Ext.trans e4 f4)
  refine (spec_DrawTruncateSigned vb bs u4 (Sl.ext ByteAt.keeps HB.out xe) (by omega)).mono ?_
  rintro e w5 ⟨⟨vx5, i5, rfl, x5, hx5, h51, h52⟩, e5⟩
  obtain ⟨Ax5_2, nx5_2, cx5_2, Ax5_3, nx5_3, cx5_3, rfl, sx5_2, sx5_3⟩ := id hx5
  obtain ⟨lx5_2, kx5_2, mx5_2⟩ := sx5_2.len
  subst lx5_2
  unfold maxLen at mx5_2
  obtain ⟨lx5_3, kx5_3, mx5_3⟩ := sx5_3.len
  subst lx5_3
  unfold maxLen at mx5_3
  have Rx5 := Lib.hid hx5; clear hx5
  have Sx5_2 := Lib.hid sx5_2; clear sx5_2
  have Sx5_3 := Lib.hid sx5_3; clear sx5_3
  go_wp2_with fail
  refine name_wp (fun W => Ext w5 W ∧ W.heap.size = w5.heap.size + 1 ∧ Blk W (w5.heap.size) 106 [I x5.seg.ts, I x5.seg.beta, .slice Ax5_2 x5.seg.hops.length cx5_2, .slice Ax5_3 x5.sigs.length cx5_3]) ⟨xe, by first | rfl | simp only [World.size_alloc], xb⟩ ?_
  rintro u5 ⟨f5, z5, bx5⟩
  have Kx5 := Lib.hid bx5; clear bx5
  have eu5 : Ext u0 u5 := Ext.trans eu4 (Ext.trans e5 f5)
  have g5 : Ext w5 u5 := f5
  have g4 : Ext w4 u5 := Ext.trans f4 (Ext.trans e5 g5)
  have g3 : Ext w3 u5 := Ext.trans f3 (Ext.trans e4 g4)
  have g2 : Ext w2 u5 := Ext.trans f2 (Ext.trans e3 g3)
  have g1 : Ext w1 u5 := Ext.trans f1 (Ext.trans e2 g2)
  have Jt1 := Lib.hid (Kt1.out.ext (w' := u5) (Ext.trans e2 g2))
  have Js1 := Lib.hid (Ks1.out.ext (w' := u5) (Ext.trans e2 g2))
  have Jx2 := Lib.hid (Kx2.out.ext (w' := u5) (Ext.trans e3 g3))
  have Jt3 := Lib.hid (Kt3.out.ext (w' := u5) (Ext.trans e4 g4))
  have Jx3 := Lib.hid (Kx3.out.ext (w' := u5) (Ext.trans e4 g4))
  have Jt4 := Lib.hid (Kt4.out.ext (w' := u5) (Ext.trans e5 g5))
  have Js4 := Lib.hid (Ks4.out.ext (w' := u5) (Ext.trans e5 g5))
  have Jx5 := Lib.hid (Kx5.out.ext (w' := u5) (Ext.refl _))
  have St1 := Lib.hid (Rt1.out.ext g1); clear Rt1
  have Ss1 := Lib.hid (Rs1.out.ext g1); clear Rs1
  have Sx2 := Lib.hid (Rx2.out.ext g2); clear Rx2
  have St3 := Lib.hid (Rt3.out.ext g3); clear Rt3
  have Sx3 := Lib.hid (Rx3.out.ext g3); clear Rx3
  have St4 := Lib.hid (Rt4.out.ext g4); clear Rt4
  have Ss4 := Lib.hid (Rs4.out.ext g4); clear Rs4
  have Sx5 := Lib.hid (Rx5.out.ext g5); clear Rx5
  have bt1_ := Jt1.out.ext (w' := u5) xe
  have lbt1_ := bt1_.lt
  obtain ⟨qbt1__0, qbt1__1⟩ := blk2 bt1_
  have fbt1__0 := bt1_.frozen 0
  have fbt1__1 := bt1_.frozen 1
  clear bt1_
  have bs1_ := Js1.out.ext (w' := u5) xe
  have lbs1_ := bs1_.lt
  obtain ⟨qbs1__0, qbs1__1, qbs1__2⟩ := blk3 bs1_
  have fbs1__0 := bs1_.frozen 0
  have fbs1__1 := bs1_.frozen 1
  have fbs1__2 := bs1_.frozen 2
  clear bs1_
  have bx2_ := Jx2.out.ext (w' := u5) xe
  have lbx2_ := bx2_.lt
  obtain ⟨qbx2__0, qbx2__1, qbx2__2, qbx2__3⟩ := blk4 bx2_
  have fbx2__0 := bx2_.frozen 0
  have fbx2__1 := bx2_.frozen 1
  have fbx2__2 := bx2_.frozen 2
  have fbx2__3 := bx2_.frozen 3
  clear bx2_
  have bt3_ := Jt3.out.ext (w' := u5) xe
  have lbt3_ := bt3_.lt
  obtain ⟨qbt3__0, qbt3__1⟩ := blk2 bt3_
  have fbt3__0 := bt3_.frozen 0
  have fbt3__1 := bt3_.frozen 1
  clear bt3_
  have bx3_ := Jx3.out.ext (w' := u5) xe
  have lbx3_ := bx3_.lt
  obtain ⟨qbx3__0, qbx3__1, qbx3__2, qbx3__3⟩ := blk4 bx3_
  have fbx3__0 := bx3_.frozen 0
  have fbx3__1 := bx3_.frozen 1
  have fbx3__2 := bx3_.frozen 2
  have fbx3__3 := bx3_.frozen 3
  clear bx3_
  have bt4_ := Jt4.out.ext (w' := u5) xe
  have lbt4_ := bt4_.lt
  obtain ⟨qbt4__0, qbt4__1⟩ := blk2 bt4_
  have fbt4__0 := bt4_.frozen 0
  have fbt4__1 := bt4_.frozen 1
  clear bt4_
  have bs4_ := Js4.out.ext (w' := u5) xe
  have lbs4_ := bs4_.lt
  obtain ⟨qbs4__0, qbs4__1, qbs4__2⟩ := blk3 bs4_
  have fbs4__0 := bs4_.frozen 0
  have fbs4__1 := bs4_.frozen 1
  have fbs4__2 := bs4_.frozen 2
  clear bs4_
  have bx5_ := Jx5.out.ext (w' := u5) xe
  have lbx5_ := bx5_.lt
  obtain ⟨qbx5__0, qbx5__1, qbx5__2, qbx5__3⟩ := blk4 bx5_
  have fbx5__0 := bx5_.frozen 0
  have fbx5__1 := bx5_.frozen 1
  have fbx5__2 := bx5_.frozen 2
  have fbx5__3 := bx5_.frozen 3
  clear bx5_
  clear z1 z2 z3 z4 z5
  have HGS := Lib.hid hgs1; clear hgs1
  have nb9 : ∀ b : Bool, (b != b) = false := fun b => by cases b <;> rfl
  have ni9 : ∀ i : Int, (i != i) = false := fun i => by simp
  refine wp_region_L (E := Ext) (w0 := u5) (G := fun τ => match τ with | 42 => some (fun v W => IsV (I (firstBad t3 x3)) v) | 45 => some (fun v W => IsV (I (firstBad t3 x3)) v) | 64 => some (fun v W => IsV (.bool true) v) | 50 => some (fun v W => SignedSegmentV W.heap.size W v (signSeg t4 s4)) | 53 => some (fun v W => SignedSegmentV W.heap.size W v (signSeg t4 s4)) | 54 => some (fun v W => IsV (.bool true) v) | 60 => some (fun v W => SignedSegmentV W.heap.size W v (truncSigned x5 i5)) | 63 => some (fun v W => SignedSegmentV W.heap.size W v (truncSigned x5 i5)) | 69 => some (fun v W => IsV (I (signedSize x5)) v) | 71 => some (fun v W => IsV (I (signedSize x5)) v) | _ => none) Ext.refl (fun h k => Ext.trans h k) (by kernel_rfl) (by kernel_rfl) xg (Ext.drew (by exact Ext.refl _)) ?_
  repeat' (first
    | ((with_reducible refine wpL_skip ?_ ?_ ?_)
       · rfl
       · rfl
       simp only [Act.put, List.setIfInBounds_toArray, List.set_cons_zero, List.set_cons_succ])
    | ((with_reducible refine wpL_quiet ?_ ?_ ?_ ?_)
       · rfl
       · rfl
       · rfl
       apply Exists.intro
       refine ⟨fun W hW hS => ?_, ?_⟩
       · have hC := (Ext.facts hW).1
         go_simp
         first | done | (with_reducible rfl) | (rw [if_neg (by omega)]; exact ⟨rfl, rfl⟩) | rfl
       first | (with_reducible refine wpL_boolT ?_) | (with_reducible refine wpL_boolF ?_) | (with_reducible refine wpL_bool (fun hB => ?_) (fun hB => ?_)) | skip
       all_goals simp only [Act.put, List.setIfInBounds_toArray, List.set_cons_zero, List.set_cons_succ])
    | ((refine wpL_grow ?_ rfl rfl ?_ ?_)
       · rfl
       · intro W hW hS
         have hC := (Ext.facts hW).1
         unfold growAt
         go_simp
         simp only [growUpon]
         first | (go_at_call 80; (with_reducible refine Calls.mono (impl_FirstBadSignature _ _ t3 x3 _ (by exact St3.out.ext xe) (by exact Sx3.out.ext xe) (by omega)) ?_); rintro e w9_ ⟨rfl, e9⟩; exact ⟨_, rfl, e9, IsV.mk⟩) | (go_at_call 81; (with_reducible refine Calls.mono (spec_FirstBadSignature _ _ t3 x3 _ (by exact St3.out.ext xe) (by exact Sx3.out.ext xe) (by omega)) ?_); rintro e w9_ ⟨rfl, e9⟩; exact ⟨_, rfl, e9, IsV.mk⟩) | (have ha : SignedSegmentV W.heap.size W _ (truncSigned x5 i5) := hS 60 (by decide); have hb : SignedSegmentV W.heap.size W _ (truncSigned x5 i5) := hS 63 (by decide); go_at_call 82; (with_reducible refine Calls.mono (laws_sameSigned _ _ (truncSigned x5 i5) _ ha hb) ?_); rintro e w9_ ⟨rfl, e9⟩; exact ⟨_, rfl, e9, IsV.mk⟩) | (go_at_call 76; (with_reducible refine Calls.mono (impl_SignSegment _ _ t4 s4 _ (by exact St4.out.ext xe) (by exact Ss4.out.ext xe) (by omega)) ?_); rintro e w9_ ⟨v9, rfl, o9, e9⟩; exact ⟨_, rfl, e9, SignedSegmentO_rd o9 (Nat.le_refl _)⟩) | (go_at_call 83; (with_reducible refine Calls.mono (spec_SignSegment _ _ t4 s4 _ (by exact St4.out.ext xe) (by exact Ss4.out.ext xe) (by omega)) ?_); rintro e w9_ ⟨v9, rfl, o9, e9⟩; exact ⟨_, rfl, e9, SignedSegmentO_rd o9 (Nat.le_refl _)⟩) | (have ha : SignedSegmentV W.heap.size W _ (signSeg t4 s4) := hS 50 (by decide); have hb : SignedSegmentV W.heap.size W _ (signSeg t4 s4) := hS 53 (by decide); go_at_call 82; (with_reducible refine Calls.mono (laws_sameSigned _ _ (signSeg t4 s4) _ ha hb) ?_); rintro e w9_ ⟨rfl, e9⟩; exact ⟨_, rfl, e9, IsV.mk⟩) | (go_at_call 84; (with_reducible refine Calls.mono (impl_TruncateSigned _ i5 x5 _ (by exact Sx5.out.ext xe) (by omega)) ?_); rintro e w9_ ⟨v9, rfl, o9, e9⟩; exact ⟨_, rfl, e9, SignedSegmentO_rd o9 (Nat.le_refl _)⟩) | (go_at_call 85; (with_reducible refine Calls.mono (spec_TruncateSigned _ i5 x5 _ (by exact Sx5.out.ext xe) (by omega)) ?_); rintro e w9_ ⟨v9, rfl, o9, e9⟩; exact ⟨_, rfl, e9, o9⟩) | (go_at_call 86; (with_reducible refine Calls.mono (impl_SignedDataSize _ x5 _ (by exact Sx5.out.ext xe) (by omega)) ?_); rintro e w9_ ⟨rfl, e9⟩; exact ⟨_, rfl, e9, IsV.mk⟩) | (go_at_call 87; (with_reducible refine Calls.mono (spec_SignedDataSize _ x5 _ (by exact Sx5.out.ext xe) (by omega)) ?_); rintro e w9_ ⟨rfl, e9⟩; exact ⟨_, rfl, e9, IsV.mk⟩)
       intro v W' hW' hv
       first | ((with_reducible refine intro_at 42 _ ?_); cases hv) | ((with_reducible refine intro_at 45 _ ?_); cases hv) | ((with_reducible refine intro_at 64 _ ?_); cases hv) | ((with_reducible refine intro_at 50 _ ?_); skip) | ((with_reducible refine intro_at 53 _ ?_); skip) | ((with_reducible refine intro_at 54 _ ?_); cases hv) | ((with_reducible refine intro_at 60 _ ?_); skip) | ((with_reducible refine intro_at 63 _ ?_); skip) | ((with_reducible refine intro_at 69 _ ?_); cases hv) | ((with_reducible refine intro_at 71 _ ?_); cases hv) | (obtain ⟨A5, n5, c5, rfl, -⟩ := id hv; clear hv) | (obtain ⟨A5, n5, c5, rfl⟩ := NO.slice hv) | skip
       all_goals simp only [Act.put, List.setIfInBounds_toArray, List.set_cons_zero, List.set_cons_succ]))
  refine wpL_nil (fun w10 e10 hL => ?_)
  clear hL
  clear lbt1_ qbt1__0 fbt1__0 qbt1__1 fbt1__1 lbs1_ qbs1__0 fbs1__0 qbs1__1 fbs1__1 qbs1__2 fbs1__2 lbx2_ qbx2__0 fbx2__0 qbx2__1 fbx2__1 qbx2__2 fbx2__2 qbx2__3 fbx2__3 lbt3_ qbt3__0 fbt3__0 qbt3__1 fbt3__1 lbx3_ qbx3__0 fbx3__0 qbx3__1 fbx3__1 qbx3__2 fbx3__2 qbx3__3 fbx3__3 lbt4_ qbt4__0 fbt4__0 qbt4__1 fbt4__1 lbs4_ qbs4__0 fbs4__0 qbs4__1 fbs4__1 qbs4__2 fbs4__2 lbx5_ qbx5__0 fbx5__0 qbx5__1 fbx5__1 qbx5__2 fbx5__2 qbx5__3 fbx5__3
  have z10 := e10.size
  have Jt1 := Lib.hid (Jt1.out.ext (w' := w10) e10)
  have St1 := Lib.hid (St1.out.ext (w' := w10) e10)
  have Js1 := Lib.hid (Js1.out.ext (w' := w10) e10)
  have Ss1 := Lib.hid (Ss1.out.ext (w' := w10) e10)
  have Jx2 := Lib.hid (Jx2.out.ext (w' := w10) e10)
  have Sx2 := Lib.hid (Sx2.out.ext (w' := w10) e10)
  have eu10 : Ext u0 w10 := Ext.trans eu5 e10
  have hl1 : s1.hops.length ≤ 5 := HGS.out.1
  go_wp2_with fail
  go_loopw [12] (fun i wr => ∃ k : Nat, k ≤ s1.hops.length ∧ i = I k ∧ Ext w10 wr) (fun i _ => s1.hops.length - (intOf i).toNat)
  case atStart => exact ⟨0, by omega, rfl, Ext.refl _⟩
  case round =>
    obtain ⟨k, hk, rfl, he⟩ := hrel
    have zr := he.size
    have eur : Ext u0 wr := Ext.trans eu10 he
    have Jt1r := Lib.hid (Jt1.out.ext (w' := wr) he); have St1r := Lib.hid (St1.out.ext (w' := wr) he)
    have Js1r := Lib.hid (Js1.out.ext (w' := wr) he); have Ss1r := Lib.hid (Ss1.out.ext (w' := wr) he)
    have Jx2r := Lib.hid (Jx2.out.ext (w' := wr) he); have Sx2r := Lib.hid (Sx2.out.ext (w' := wr) he)
    by_cases hlt : k < s1.hops.length
    · have i1 : (k : Int) < (s1.hops.length : Int) := by omega
      have i0 : (0 : Int) ≤ (k : Int) := by omega
      have SHr := Lib.hid (seg_hops Ss1r.out)
      have err : Ext wr wr := Ext.refl wr
      have bs1_ := Js1r.out.ext (w' := wr) xe
      have lbs1_ := bs1_.lt
      obtain ⟨qbs1__0, qbs1__1, qbs1__2⟩ := blk3 bs1_
      have fbs1__0 := bs1_.frozen 0
      have fbs1__1 := bs1_.frozen 1
      have fbs1__2 := bs1_.frozen 2
      clear bs1_
      have bx2_ := Jx2r.out.ext (w' := wr) xe
      have lbx2_ := bx2_.lt
      obtain ⟨qbx2__0, qbx2__1, qbx2__2, qbx2__3⟩ := blk4 bx2_
      have fbx2__0 := bx2_.frozen 0
      have fbx2__1 := bx2_.frozen 1
      have fbx2__2 := bx2_.frozen 2
      have fbx2__3 := bx2_.frozen 3
      clear bx2_
      go_wp2_with fail
      refine wp_region_LT 13 (E := Ext) (w0 := wr) (G := fun τ => match τ with | 85 => some (fun v W => Fresh0 117 wr.heap.size v W) | 88 => some (fun v W => HopSO wr.heap.size W.heap.size W v (s1.hops)) | 13 => some (fun v W => Zero1 106 wr.heap.size [I 0, I 0, .slice none 0 0, .slice none 0 0] v W) | _ => none) Ext.refl (fun h k => Ext.trans h k) (by kernel_rfl) (by kernel_rfl) (by kernel_rfl) (by kernel_rfl) (by kernel_rfl) (by kernel_rfl) xg (Ext.drew (by exact Ext.refl _)) ?_
      simp only [List.take_succ_cons, List.take_zero]
      repeat' (first
        | ((with_reducible refine wpL_skip ?_ ?_ ?_)
           · rfl
           · rfl
           simp only [Act.put, List.setIfInBounds_toArray, List.set_cons_zero, List.set_cons_succ])
        | ((with_reducible refine wpL_quiet ?_ ?_ ?_ ?_)
           · rfl
           · rfl
           · rfl
           apply Exists.intro
           refine ⟨fun W hW hS => ?_, ?_⟩
           · have hC := (Ext.facts hW).1
             go_simp
             first | done | (with_reducible rfl) | (rw [if_neg (by omega)]; exact ⟨rfl, rfl⟩) | rfl
           first | (with_reducible refine wpL_boolT ?_) | (with_reducible refine wpL_boolF ?_) | (with_reducible refine wpL_bool (fun hB => ?_) (fun hB => ?_)) | skip
           all_goals simp only [Act.put, List.setIfInBounds_toArray, List.set_cons_zero, List.set_cons_succ])
        | ((refine wpL_grow ?_ rfl rfl ?_ ?_)
           · rfl
           · intro W hW hS
             first | (exact grow_app0 (.tmp 85) (.tmp 87) _ rfl 117 _ 5 40 Try.underlying53 info_Hop rfl (by omega) wr.heap.size _ rfl (hS 85 (by decide)) _ _ _ _ rfl (by exact row_Hop (SHr.out.ext (Ext.trans (by assumption) hW))) (one_Hop _) (by unfold maxLen; omega) (by omega) (fun v1 w1 o1 => o1)) | skip
             all_goals have hC := (Ext.facts hW).1
             all_goals unfold growAt
             all_goals go_simp
             all_goals simp only [growUpon]
             all_goals first | (exact ⟨xe, Fresh0.new _ 117 _ _ rfl (Ext.size (by assumption))⟩) | (exact ⟨xe, _, rfl, Ext.size (by assumption), Blk.new _ _ _⟩)
           intro v W' hW' hv
           first | (obtain ⟨g5, rfl, -⟩ := hv) | (obtain ⟨A5, n5, c5, rfl⟩ := Own.slice hv) | (obtain ⟨g5, rfl, -⟩ := hv) | (obtain ⟨A5, n5, c5, rfl, -⟩ := id hv; clear hv) | (obtain ⟨A5, n5, c5, rfl⟩ := NO.slice hv) | skip
           all_goals simp only [Act.put, List.setIfInBounds_toArray, List.set_cons_zero, List.set_cons_succ]))
      refine wpL_nil (fun w21 e21 hL => ?_)
      have o1 : HopSO wr.heap.size w21.heap.size w21 _ s1.hops := hL 88
      obtain ⟨A6, n6, c6, hv6⟩ := Own.slice o1
      obtain ⟨gz, hvz, hgz, hbz⟩ : Zero1 106 wr.heap.size [I 0, I 0, .slice none 0 0, .slice none 0 0] _ w21 := hL 13
      cases hvz
      cases hv6
      obtain ⟨hn6, -⟩ := NO.row o1
      subst hn6
      have z21 := e21.size
      have O1 := Lib.hid o1; have HBZ := Lib.hid hbz; clear o1 hbz hL
      clear lbs1_ qbs1__0 fbs1__0 qbs1__1 fbs1__1 qbs1__2 fbs1__2 lbx2_ qbx2__0 fbx2__0 qbx2__1 fbx2__1 qbx2__2 fbx2__2 qbx2__3 fbx2__3
      have bz_ := HBZ.out.ext (w' := w21) xe
      have lbz_ := bz_.lt
      obtain ⟨qbz__0, qbz__1, qbz__2, qbz__3⟩ := blk4 bz_
      have fbz__0 := bz_.frozen 0
      have fbz__1 := bz_.frozen 1
      have fbz__2 := bz_.frozen 2
      have fbz__3 := bz_.frozen 3
      clear bz_
      simp only [List.drop_succ_cons, List.drop_zero]
      go_upto_region 14 with (fail)
      have bz1 := HBZ.out.set_ 0 (I s1.ts)
      have bz2 := bz1.set_ 1 (I s1.beta)
      have bz3 := bz2.set_ 2 (.slice A5 s1.hops.length c5)
      refine name_wp (fun W => Ext wr W ∧ W.heap.size = w21.heap.size ∧ Blk W g5 106 [I s1.ts, I s1.beta, .slice A5 s1.hops.length c5, .slice Ax2_3 x2.sigs.length cx2_3] ∧ HopSO wr.heap.size W.heap.size W (.slice A5 s1.hops.length c5) s1.hops) ⟨xe, by simp only [World.size_setCell], bz3.set_ 3 _, by (simp only [World.size_setCell]; exact Own.setT (Own.setT (Own.setT (Own.setT O1.out HBZ.out (by decide) _ _) bz1 (by decide) _ _) bz2 (by decide) _ _) bz3 (by decide) _ _)⟩ ?_
      clear lbz_ qbz__0 fbz__0 qbz__1 fbz__1 qbz__2 fbz__2 qbz__3 fbz__3
      rintro w22 ⟨e22, z22, bz, oh⟩
      have BZ := Lib.hid bz; have OH := Lib.hid oh; clear bz oh bz1 bz2 bz3 HBZ O1
      obtain ⟨z22a, z22b⟩ := le_both z22
      clear z22
      obtain ⟨b6, o6, hA6, hb6, hk6, hc6⟩ := (HopSO_rd OH.out).at_ hlt
      have hch := changed_bad (t := t1) (s := s1) (fun h hh => (HGS.out.2 h hh).1) k hlt (wrap64 (s1.hops[k].exp + 1)) (wrap_next _ (by have := HGS.out.2 _ (List.getElem_mem hlt); omega))
      have HGO : Hid (∀ y : DHop, ∃ g, A5 = some ⟨g, 0, none⟩ ∧ wr.heap.size ≤ g ∧ g < w22.heap.size ∧ g < w22.heap.size ∧ (∀ j, w22.frozen? ⟨g, j, none⟩ = false) ∧ (∀ j, j < 5 → ∃ u, w22.cell? ⟨g, k * 5 + j, none⟩ = some u) ∧ True) := fun y => by
        obtain ⟨g, h1, h2, h3, h4, h5, h6, h7⟩ := HopSO.setAt OH.out hlt y
        exact ⟨g, h1, h2, h3, h4, h5, h6, trivial⟩
      generalize s1.hops[k] = hp at *
      obtain ⟨gg, hgg, hg1, hg2, -, hgf, -, -⟩ := HGO.out hp
      subst hA6
      obtain ⟨rfl, rfl⟩ : b6 = gg ∧ o6 = 0 := by simpa using hgg
      clear hgg HGO
      obtain ⟨y, hy⟩ : ∃ y, wrap64 (hp.exp + 1) = y := ⟨_, rfl⟩
      rw [hy] at hch
      have hwa : IntKind.i64.wrap (hp.exp + 1) = y := (IntWalk.i64_left _).trans hy
      have HCH := Lib.hid hch; clear hch
      obtain ⟨p0, p1, p2, p3, p4⟩ := hc6
      obtain ⟨f0, f1, f2, f3, f4⟩ := And.intro (hgf (k * 5)) (And.intro (hgf (k * 5 + 1)) (And.intro (hgf (k * 5 + 2)) (And.intro (hgf (k * 5 + 3)) (hgf (k * 5 + 4)))))
      rw [Nat.zero_add] at p0 p1 p2 p3 p4
      clear hgf
      have n1 : ¬ b6 = g5 := fun e => by subst e; exact absurd (Own.blk_typed OH.out BZ.out) (by decide)
      have bz_ := BZ.out.ext (w' := w22) xe
      have lbz_ := bz_.lt
      obtain ⟨qbz__0, qbz__1, qbz__2, qbz__3⟩ := blk4 bz_
      have fbz__0 := bz_.frozen 0
      have fbz__1 := bz_.frozen 1
      have fbz__2 := bz_.frozen 2
      have fbz__3 := bz_.frozen 3
      clear bz_
      go_upto_region 16 with (fail)
      refine name_wp (fun W => Ext w22 W ∧ W.heap.size = w22.heap.size + 1 ∧ Blk W w22.heap.size 117 [I hp.asn, I hp.ing, I hp.egr, I y, I hp.mac]) ⟨xe, by first | simp only [World.size_alloc] | simp only [World.size_setCell, World.size_alloc], by first | exact Blk.new _ _ _ | exact (Blk.new w22 117 [I hp.asn, I hp.ing, I hp.egr, I hp.exp, I hp.mac]).set_ 3 (I y)⟩ ?_
      clear lbz_ qbz__0 fbz__0 qbz__1 fbz__1 qbz__2 fbz__2 qbz__3 fbz__3
      rintro w23 ⟨e23, z23, bh⟩
      obtain ⟨z23a, z23b⟩ := le_both z23
      clear z23 p0 p1 p2 p3 p4 f0 f1 f2 f3 f4 hwa hy
      have BH := Lib.hid bh; clear bh
      have er23 : Ext wr w23 := Ext.trans e22 e23
      have BZ23 := Lib.hid (BZ.out.ext e23)
      have OH23 := Lib.hid (show HopSO wr.heap.size w23.heap.size w23 (.slice (some ⟨b6, 0, none⟩) s1.hops.length c5) s1.hops from Own.more (Own.ext OH.out e23 (Nat.le_refl _)) (Nat.le_refl _) e23.size)
      obtain ⟨g9, hA9, h91, h92, h93, hf9, hc9, ho9⟩ := HopSO.setAt OH23.out hlt ⟨hp.asn, hp.ing, hp.egr, y, hp.mac⟩
      obtain rfl : b6 = g9 := by simpa using hA9
      have HO9 := Lib.hid ho9; clear ho9 hA9
      obtain ⟨f0, f1, f2, f3, f4⟩ := And.intro (hf9 (k * 5)) (And.intro (hf9 (k * 5 + 1)) (And.intro (hf9 (k * 5 + 2)) (And.intro (hf9 (k * 5 + 3)) (hf9 (k * 5 + 4)))))
      obtain ⟨⟨y0, c0⟩, ⟨y1, c1⟩, ⟨y2, c2⟩, ⟨y3, c3⟩, ⟨y4, c4⟩⟩ := And.intro (hc9 0 (by omega)) (And.intro (hc9 1 (by omega)) (And.intro (hc9 2 (by omega)) (And.intro (hc9 3 (by omega)) (hc9 4 (by omega)))))
      have c0 : w23.cell? ⟨b6, k * 5, none⟩ = some y0 := c0
      clear hf9 hc9
      have n2 : ¬ g5 = b6 := fun e => n1 e.symm
      have n3 : ¬ b6 = w22.heap.size := by omega
      have n4 : ¬ w22.heap.size = b6 := by omega
      have bz_ := BZ23.out.ext (w' := w23) xe
      have lbz_ := bz_.lt
      obtain ⟨qbz__0, qbz__1, qbz__2, qbz__3⟩ := blk4 bz_
      have fbz__0 := bz_.frozen 0
      have fbz__1 := bz_.frozen 1
      have fbz__2 := bz_.frozen 2
      have fbz__3 := bz_.frozen 3
      clear bz_
      have bh_ := BH.out.ext (w' := w23) xe
      have lbh_ := bh_.lt
      obtain ⟨qbh__0, qbh__1, qbh__2, qbh__3, qbh__4⟩ := blk5 bh_
      have fbh__0 := bh_.frozen 0
      have fbh__1 := bh_.frozen 1
      have fbh__2 := bh_.frozen 2
      have fbh__3 := bh_.frozen 3
      have fbh__4 := bh_.frozen 4
      clear bh_
      go_wp2_with fail
      refine name_wp (fun W => Ext wr W ∧ W.heap.size = w23.heap.size ∧ Blk W g5 106 [I s1.ts, I s1.beta, .slice (some ⟨b6, 0, none⟩) s1.hops.length c5, .slice Ax2_3 x2.sigs.length cx2_3] ∧ HopSO wr.heap.size W.heap.size W (.slice (some ⟨b6, 0, none⟩) s1.hops.length c5) (s1.hops.set k ⟨hp.asn, hp.ing, hp.egr, y, hp.mac⟩)) ⟨xe, by simp only [World.size_setCell], ((((BZ23.out.far (by dsimp only; omega) _).far (by dsimp only; omega) _).far (by dsimp only; omega) _).far (by dsimp only; omega) _).far (by dsimp only; omega) _, (by simp only [World.size_setCell]; exact HO9.out)⟩ ?_
      clear f0 f1 f2 f3 f4 c0 c1 c2 c3 c4 lbh_ qbh__0 qbh__1 qbh__2 qbh__3 qbh__4 fbh__0 fbh__1 fbh__2 fbh__3 fbh__4
      clear lbz_ qbz__0 fbz__0 qbz__1 fbz__1 qbz__2 fbz__2 qbz__3 fbz__3
      rintro w24 ⟨e24, z24, bz, oh⟩
      have BZ24 := Lib.hid bz; have OH24 := Lib.hid oh; clear bz oh
      obtain ⟨z24a, z24b⟩ := le_both z24
      clear z24
      have Jt1q := Lib.hid (Jt1r.out.ext e24); have Jx2q := Lib.hid (Jx2r.out.ext e24); have Jzq := Lib.hid BZ24.out
      have St1q := Lib.hid (St1r.out.ext e24); have Sx2q := Lib.hid (Sx2r.out.ext e24)
      have HSV := Lib.hid (show SignedSegmentV w24.heap.size w24 (.agg #[I s1.ts, I s1.beta, .slice (some ⟨b6, 0, none⟩) s1.hops.length c5, .slice Ax2_3 x2.sigs.length cx2_3]) ⟨⟨s1.ts, s1.beta, s1.hops.set k ⟨hp.asn, hp.ing, hp.egr, y, hp.mac⟩⟩, x2.sigs⟩ from ⟨_, _, _, _, _, _, rfl, HopSO_rd OH24.out, ss_sigs (x := x2) Sx2q.out⟩)
      have HCH2 : Hid (firstBad t1 ⟨⟨s1.ts, s1.beta, s1.hops.set k ⟨hp.asn, hp.ing, hp.egr, y, hp.mac⟩⟩, x2.sigs⟩ = (k : Int)) := by unfold Hid; rw [HX2.out]; exact HCH.out
      have HTR : Hid (firstBad t1 (truncSigned x2 (k : Int)) = -1) := by unfold Hid; rw [HX2.out]; exact trunc_ok (fun h hh => (HGS.out.2 h hh).1) k hlt
      have h2l : x2.seg.hops.length ≤ 5 := by rw [HX2.out]; exact hl1
      have h2s : x2.sigs.length ≤ 5 := by rw [HX2.out]; simpa [signSeg] using hl1
      have htl : (truncSigned x2 (k : Int)).seg.hops.length ≤ 5 := trunc_len h2l
      have hsl : (s1.hops.set k ⟨hp.asn, hp.ing, hp.egr, y, hp.mac⟩).length ≤ 5 := by rw [List.length_set]; exact hl1
      have bt1_ := Jt1q.out.ext (w' := w24) xe
      have lbt1_ := bt1_.lt
      obtain ⟨qbt1__0, qbt1__1⟩ := blk2 bt1_
      have fbt1__0 := bt1_.frozen 0
      have fbt1__1 := bt1_.frozen 1
      clear bt1_
      have bx2_ := Jx2q.out.ext (w' := w24) xe
      have lbx2_ := bx2_.lt
      obtain ⟨qbx2__0, qbx2__1, qbx2__2, qbx2__3⟩ := blk4 bx2_
      have fbx2__0 := bx2_.frozen 0
      have fbx2__1 := bx2_.frozen 1
      have fbx2__2 := bx2_.frozen 2
      have fbx2__3 := bx2_.frozen 3
      clear bx2_
      have bz_ := Jzq.out.ext (w' := w24) xe
      have lbz_ := bz_.lt
      obtain ⟨qbz__0, qbz__1, qbz__2, qbz__3⟩ := blk4 bz_
      have fbz__0 := bz_.frozen 0
      have fbz__1 := bz_.frozen 1
      have fbz__2 := bz_.frozen 2
      have fbz__3 := bz_.frozen 3
      clear bz_
      refine wp_region_L (E := Ext) (w0 := w24) (G := fun τ => match τ with | 119 => some (fun v W => IsV (I (-1)) v) | 111 => some (fun v W => IsV (I (k : Int)) v) | 118 => some (fun v W => SignedSegmentV W.heap.size W v (truncSigned x2 (k : Int))) | _ => none) Ext.refl (fun h k => Ext.trans h k) (by kernel_rfl) (by kernel_rfl) xg (Ext.drew (by exact Ext.refl _)) ?_
      repeat' (first
        | ((with_reducible refine wpL_skip ?_ ?_ ?_)
           · rfl
           · rfl
           simp only [Act.put, List.setIfInBounds_toArray, List.set_cons_zero, List.set_cons_succ])
        | ((with_reducible refine wpL_quiet ?_ ?_ ?_ ?_)
           · rfl
           · rfl
           · rfl
           apply Exists.intro
           refine ⟨fun W hW hS => ?_, ?_⟩
           · have hC := (Ext.facts hW).1
             go_simp
             first | done | (with_reducible rfl) | (rw [if_neg (by omega)]; exact ⟨rfl, rfl⟩) | rfl
           first | (with_reducible refine wpL_boolT ?_) | (with_reducible refine wpL_boolF ?_) | (with_reducible refine wpL_bool (fun hB => ?_) (fun hB => ?_)) | skip
           all_goals simp only [Act.put, List.setIfInBounds_toArray, List.set_cons_zero, List.set_cons_succ])
        | ((refine wpL_grow ?_ rfl rfl ?_ ?_)
           · rfl
           · intro W hW hS
             have hC := (Ext.facts hW).1
             unfold growAt
             go_simp
             simp only [growUpon]
             first | (have h5 : SignedSegmentV W.heap.size W _ (truncSigned x2 (k : Int)) := hS 118 (by decide); go_at_call 80; (with_reducible refine Calls.mono (impl_FirstBadSignature _ _ t1 (truncSigned x2 (k : Int)) _ (by exact St1q.out.ext xe) h5 (by omega)) ?_); rintro e w9_ ⟨rfl, e9⟩; exact ⟨_, rfl, e9, by rw [HTR.out]; exact IsV.mk⟩) | (go_at_call 80; (with_reducible refine Calls.mono (impl_FirstBadSignature _ _ t1 ⟨⟨s1.ts, s1.beta, s1.hops.set k ⟨hp.asn, hp.ing, hp.egr, y, hp.mac⟩⟩, x2.sigs⟩ _ (by exact St1q.out.ext xe) (by exact HSV.out.ext xe) (by (dsimp only; omega))) ?_); rintro e w9_ ⟨rfl, e9⟩; exact ⟨_, rfl, e9, by rw [HCH2.out]; exact IsV.mk⟩) | (go_at_call 84; (with_reducible refine Calls.mono (impl_TruncateSigned _ (k : Int) x2 _ (by exact Sx2q.out.ext xe) (by omega)) ?_); rintro e w9_ ⟨v9, rfl, o9, e9⟩; exact ⟨_, rfl, e9, SignedSegmentO_rd o9 (Nat.le_refl _)⟩)
           intro v W' hW' hv
           first | ((with_reducible refine intro_at 119 _ ?_); cases hv) | ((with_reducible refine intro_at 111 _ ?_); cases hv) | ((with_reducible refine intro_at 118 _ ?_); skip) | (obtain ⟨A5, n5, c5, rfl, -⟩ := id hv; clear hv) | (obtain ⟨A5, n5, c5, rfl⟩ := NO.slice hv) | skip
           all_goals simp only [Act.put, List.setIfInBounds_toArray, List.set_cons_zero, List.set_cons_succ]))
      refine wpL_nil (fun w25 e25 hL => ?_)
      clear hL
      clear lbt1_ qbt1__0 fbt1__0 qbt1__1 fbt1__1 lbx2_ qbx2__0 fbx2__0 qbx2__1 fbx2__1 qbx2__2 fbx2__2 qbx2__3 fbx2__3 lbz_ qbz__0 fbz__0 qbz__1 fbz__1 qbz__2 fbz__2 qbz__3 fbz__3
      go_wp2_with fail
      go_roundw
      case rel => exact ⟨k + 1, by omega, by go_num, Ext.trans he (Ext.trans e24 e25)⟩
      case measure => first | (simp [intOf]; done) | (simp [intOf]; omega)
    · obtain rfl : k = s1.hops.length := by omega
      have i1 : ¬ (s1.hops.length : Int) < (s1.hops.length : Int) := by omega
      have hok : firstBad t1 x2 = -1 := by rw [HX2.out]; exact signed_ok (fun h hh => (HGS.out.2 h hh).1)
      have ql : ((x2.sigs.length : Int) == (s1.hops.length : Int)) = true := by rw [HX2.out]; simp [signSeg]
      have h2l : x2.seg.hops.length ≤ 5 := by rw [HX2.out]; exact hl1
      have HOK := Lib.hid hok; clear hok
      have bt1_ := Jt1r.out.ext (w' := wr) xe
      have lbt1_ := bt1_.lt
      obtain ⟨qbt1__0, qbt1__1⟩ := blk2 bt1_
      have fbt1__0 := bt1_.frozen 0
      have fbt1__1 := bt1_.frozen 1
      clear bt1_
      have bs1_ := Js1r.out.ext (w' := wr) xe
      have lbs1_ := bs1_.lt
      obtain ⟨qbs1__0, qbs1__1, qbs1__2⟩ := blk3 bs1_
      have fbs1__0 := bs1_.frozen 0
      have fbs1__1 := bs1_.frozen 1
      have fbs1__2 := bs1_.frozen 2
      clear bs1_
      have bx2_ := Jx2r.out.ext (w' := wr) xe
      have lbx2_ := bx2_.lt
      obtain ⟨qbx2__0, qbx2__1, qbx2__2, qbx2__3⟩ := blk4 bx2_
      have fbx2__0 := bx2_.frozen 0
      have fbx2__1 := bx2_.frozen 1
      have fbx2__2 := bx2_.frozen 2
      have fbx2__3 := bx2_.frozen 3
      clear bx2_
      go_wp2_with fail
      clear lbt1_ qbt1__0 fbt1__0 qbt1__1 fbt1__1 lbs1_ qbs1__0 fbs1__0 qbs1__1 fbs1__1 qbs1__2 fbs1__2 lbx2_ qbx2__0 fbx2__0 qbx2__1 fbx2__1 qbx2__2 fbx2__2 qbx2__3 fbx2__3
      refine (impl_FirstBadSignature _ _ t1 x2 wr (by exact St1r.out) (by exact Sx2r.out) (by omega)).mono ?_
      rintro e w31 ⟨rfl, e31⟩
      rw [HOK.out]
      have Js1q := Lib.hid (Js1r.out.ext e31); have Jx2q := Lib.hid (Jx2r.out.ext e31)
      have bs1_ := Js1q.out.ext (w' := w31) xe
      have lbs1_ := bs1_.lt
      obtain ⟨qbs1__0, qbs1__1, qbs1__2⟩ := blk3 bs1_
      have fbs1__0 := bs1_.frozen 0
      have fbs1__1 := bs1_.frozen 1
      have fbs1__2 := bs1_.frozen 2
      clear bs1_
      have bx2_ := Jx2q.out.ext (w' := w31) xe
      have lbx2_ := bx2_.lt
      obtain ⟨qbx2__0, qbx2__1, qbx2__2, qbx2__3⟩ := blk4 bx2_
      have fbx2__0 := bx2_.frozen 0
      have fbx2__1 := bx2_.frozen 1
      have fbx2__2 := bx2_.frozen 2
      have fbx2__3 := bx2_.frozen 3
      clear bx2_
      go_wp2_with fail
      go_ret
      exact ⟨rfl, xe⟩
end Go.Proofs.Ytmlfnfflpacchaa
