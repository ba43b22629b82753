/- The walk of the law FnRoots. No conditions. -/
import Derived.Test.YtmlfnfflpacchaaD8
import Derived.Test.YtmlfnfflpacchaaD10
import Derived.Test.YtmlfnfflpacchaaD11
import Derived.Test.YtmlfnfflpacchaaP18r
import Derived.Test.YtmlfnfflpacchaaL18h
namespace Go.Proofs.Ytmlfnfflpacchaa
open Go.RowKit
set_option linter.unusedVariables false
/-- v is u. -/
inductive IsV (u : Value) : Value → Prop where
  | mk : IsV u u
theorem dRoot_V (B : Nat) (w : World) : TrustRootV B w (.agg #[I 0, I 0, I 0, I 0, I 0, I 0, .slice none 0 0]) dRoot := ⟨none, 0, 0, rfl, none, 0, 0, rfl, rfl, Nat.le_refl _, Nat.zero_le _, fun h => absurd h (by omega)⟩
theorem tot_drawn {l : List DTrustRoot} (h : DrawnRoots l) : totS (fun y : DTrustRoot => y.sigs.length) l ≤ 1048576 := Nat.le_trans (totS_bound l h.2.2) (by have := h.2.1; omega)
set_option maxRecDepth 100000 in
set_option maxHeartbeats 1000000 in
theorem roots_walk (vb : Value) (bs : List Nat) (w : World) (hb : ByteS w.heap.size w vb bs) : Calls Try.prog 5 #[vb] w fun e w' => e = .returned (.bool true) ∧ Ext w w' := by
  have HB := Lib.hid hb; clear hb
  go_enter Try.func5, Try.ntmps5
  go_wp2_with fail
  refine (laws_big vb bs w HB.out).mono ?_
  rintro e u0 ⟨rfl, e0⟩
  by_cases hn : 1048576 < bs.length
  · rw [show decide (1048576 < bs.length) = true by simpa using hn]
    go_wp2_with fail
    go_ret
    exact ⟨rfl, xe⟩
  rw [show decide (1048576 < bs.length) = false by simpa using hn]
  go_wp2_with fail
  refine (spec_DrawRoots vb bs u0 (Sl.ext ByteAt.keeps HB.out xe) (by omega)).mono ?_
  rintro e w1 ⟨⟨vt1, vl1, rfl, t1, l1, ht1, -, hl1, hl0, hl5, hch, hp⟩, e1⟩
  obtain ⟨At1, mt1, ct1, Bt1, kt1, dt1, rfl, -⟩ := id ht1
  have Rt1 := Lib.hid ht1; clear ht1
  obtain ⟨Al1, ml1, cl1, rfl, ql1, kl1, rl1, -⟩ := id hl1
  subst ql1
  unfold maxLen at rl1
  have Rl1 := Lib.hid hl1; clear hl1
  have HP := Lib.hid hp; have HCH := Lib.hid hch; clear hp hch
  go_wp2_with fail
  refine name_calls (fun W => Ext w1 W ∧ W.heap.size = w1.heap.size + 1 ∧ Blk W (w1.heap.size) 27 [.slice At1 mt1 ct1, .slice Bt1 kt1 dt1]) ⟨xe, by simp only [World.size_alloc], xb⟩ ?_
  rintro u1 ⟨f1, z1, bt1⟩
  have Kt1 := Lib.hid bt1; clear bt1
  have eu1 : Ext u0 u1 := Ext.trans e1 f1
  refine (spec_DrawValidRoot vb bs u1 (Sl.ext ByteAt.keeps HB.out xe) (by omega)).mono ?_
  rintro e w2 ⟨⟨vt2, vx2, rfl, t2, x2, ht2, hx2, sx2⟩, e2⟩
  obtain ⟨At2, mt2, ct2, Bt2, kt2, dt2, rfl, -⟩ := id ht2
  have Rt2 := Lib.hid ht2; clear ht2
  obtain ⟨Ax2, mx2, cx2, rfl, -⟩ := id hx2
  have Rx2 := Lib.hid hx2; clear hx2
  go_wp2_with fail
  refine name_calls (fun W => Ext w2 W ∧ W.heap.size = w2.heap.size + 1 + 1 ∧ Blk W (w2.heap.size) 27 [.slice At2 mt2 ct2, .slice Bt2 kt2 dt2] ∧ Blk W (w2.heap.size + 1) 33 [I x2.isd, I x2.version, I x2.notBefore, I x2.notAfter, I x2.voters, I x2.quorum, .slice Ax2 mx2 cx2]) ⟨xe, by simp only [World.size_alloc], xb, xb⟩ ?_
  rintro u2 ⟨f2, z2, bt2, bx2⟩
  have Kt2 := Lib.hid bt2; have Kx2 := Lib.hid bx2; clear bt2 bx2
  have eu2 : Ext u0 u2 := Ext.trans eu1 (Ext.trans e2 f2)
  refine (spec_DrawIsSuccessor vb bs u2 (Sl.ext ByteAt.keeps HB.out xe) (by omega)).mono ?_
  rintro e w3 ⟨⟨vt3, vx3, vxy3, rfl, t3, x3, xy3, ht3, hx3, hxy3, sx3, sxy3⟩, e3⟩
  obtain ⟨At3, mt3, ct3, Bt3, kt3, dt3, rfl, -⟩ := id ht3
  have Rt3 := Lib.hid ht3; clear ht3
  obtain ⟨Ax3, mx3, cx3, rfl, -⟩ := id hx3
  have Rx3 := Lib.hid hx3; clear hx3
  obtain ⟨Axy3, mxy3, cxy3, rfl, -⟩ := id hxy3
  have Rxy3 := Lib.hid hxy3; clear hxy3
  go_wp2_with fail
  refine name_calls (fun W => Ext w3 W ∧ W.heap.size = w3.heap.size + 1 + 1 + 1 ∧ Blk W (w3.heap.size) 27 [.slice At3 mt3 ct3, .slice Bt3 kt3 dt3] ∧ Blk W (w3.heap.size + 1) 33 [I x3.isd, I x3.version, I x3.notBefore, I x3.notAfter, I x3.voters, I x3.quorum, .slice Ax3 mx3 cx3] ∧ Blk W (w3.heap.size + 1 + 1) 33 [I xy3.isd, I xy3.version, I xy3.notBefore, I xy3.notAfter, I xy3.voters, I xy3.quorum, .slice Axy3 mxy3 cxy3]) ⟨xe, by simp only [World.size_alloc], xb, xb, xb⟩ ?_
  rintro u3 ⟨f3, z3, bt3, bx3, bxy3⟩
  have Kt3 := Lib.hid bt3; have Kx3 := Lib.hid bx3; have Kxy3 := Lib.hid bxy3; clear bt3 bx3 bxy3
  have eu3 : Ext u0 u3 := Ext.trans eu2 (Ext.trans e3 f3)
  refine (spec_DrawActiveRoot vb bs u3 (Sl.ext ByteAt.keeps HB.out xe) (by omega)).mono ?_
  rintro e w4 ⟨⟨vt4, vl4, n4, rfl, t4, l4, ht4, hl4, hd4⟩, e4⟩
  obtain ⟨At4, mt4, ct4, Bt4, kt4, dt4, rfl, -⟩ := id ht4
  have Rt4 := Lib.hid ht4; clear ht4
  obtain ⟨Al4, ml4, cl4, rfl, ql4, kl4, rl4, -⟩ := id hl4
  subst ql4
  unfold maxLen at rl4
  have Rl4 := Lib.hid hl4; clear hl4
  go_wp2_with fail
  refine name_calls (fun W => Ext w4 W ∧ W.heap.size = w4.heap.size + 1 ∧ Blk W (w4.heap.size) 27 [.slice At4 mt4 ct4, .slice Bt4 kt4 dt4]) ⟨xe, by simp only [World.size_alloc], xb⟩ ?_
  rintro u4 ⟨f4, z4, bt4⟩
  have Kt4 := Lib.hid bt4; clear bt4
  have eu4 : Ext u0 u4 := Ext.trans eu3 (Ext.trans e4 f4)
  refine (spec_DrawUpdateRoots vb bs u4 (Sl.ext ByteAt.keeps HB.out xe) (by omega)).mono ?_
  rintro e w5 ⟨⟨vt5, vl5, vx5, rfl, t5, l5, x5, ht5, hl5_, hx5, hd5, sx5⟩, e5⟩
  obtain ⟨At5, mt5, ct5, Bt5, kt5, dt5, rfl, -⟩ := id ht5
  have Rt5 := Lib.hid ht5; clear ht5
  obtain ⟨Al5, ml5, cl5, rfl, ql5, kl5, rl5, -⟩ := id hl5_
  subst ql5
  unfold maxLen at rl5
  have Rl5 := Lib.hid hl5_; clear hl5_
  obtain ⟨Ax5, mx5, cx5, rfl, -⟩ := id hx5
  have Rx5 := Lib.hid hx5; clear hx5
  go_wp2_with fail
  refine name_calls (fun W => Ext w5 W ∧ W.heap.size = w5.heap.size + 1 + 1 ∧ Blk W (w5.heap.size) 27 [.slice At5 mt5 ct5, .slice Bt5 kt5 dt5] ∧ Blk W (w5.heap.size + 1) 33 [I x5.isd, I x5.version, I x5.notBefore, I x5.notAfter, I x5.voters, I x5.quorum, .slice Ax5 mx5 cx5]) ⟨xe, by simp only [World.size_alloc], xb, xb⟩ ?_
  rintro u5 ⟨f5, z5, bt5, bx5⟩
  have Kt5 := Lib.hid bt5; have Kx5 := Lib.hid bx5; clear bt5 bx5
  have eu5 : Ext u0 u5 := Ext.trans eu4 (Ext.trans e5 f5)
  refine (spec_DrawIsInitialRoot vb bs u5 (Sl.ext ByteAt.keeps HB.out xe) (by omega)).mono ?_
  rintro e w6 ⟨⟨vt6, vx6, rfl, t6, x6, ht6, hx6, sx6⟩, e6⟩
  obtain ⟨At6, mt6, ct6, Bt6, kt6, dt6, rfl, -⟩ := id ht6
  have Rt6 := Lib.hid ht6; clear ht6
  obtain ⟨Ax6, mx6, cx6, rfl, -⟩ := id hx6
  have Rx6 := Lib.hid hx6; clear hx6
  go_wp2_with fail
  refine name_wp (fun W => Ext w6 W ∧ W.heap.size = w6.heap.size + 1 + 1 ∧ Blk W (w6.heap.size) 27 [.slice At6 mt6 ct6, .slice Bt6 kt6 dt6] ∧ Blk W (w6.heap.size + 1) 33 [I x6.isd, I x6.version, I x6.notBefore, I x6.notAfter, I x6.voters, I x6.quorum, .slice Ax6 mx6 cx6]) ⟨xe, by simp only [World.size_alloc], xb, xb⟩ ?_
  rintro u6 ⟨f6, z6, bt6, bx6⟩
  have Kt6 := Lib.hid bt6; have Kx6 := Lib.hid bx6; clear bt6 bx6
  have eu6 : Ext u0 u6 := Ext.trans eu5 (Ext.trans e6 f6)
  have g6 : Ext w6 u6 := f6
  have g5 : Ext w5 u6 := Ext.trans f5 (Ext.trans e6 g6)
  have g4 : Ext w4 u6 := Ext.trans f4 (Ext.trans e5 g5)
  have g3 : Ext w3 u6 := Ext.trans f3 (Ext.trans e4 g4)
  have g2 : Ext w2 u6 := Ext.trans f2 (Ext.trans e3 g3)
  have g1 : Ext w1 u6 := Ext.trans f1 (Ext.trans e2 g2)
  have bt1 := Kt1.out.ext (w' := u6) (Ext.trans e2 g2)
  have st1 := bt1.lt
  obtain ⟨pt1_0, pt1_1⟩ := blk2 bt1
  clear bt1
  have bt2 := Kt2.out.ext (w' := u6) (Ext.trans e3 g3)
  have st2 := bt2.lt
  obtain ⟨pt2_0, pt2_1⟩ := blk2 bt2
  clear bt2
  have bx2 := Kx2.out.ext (w' := u6) (Ext.trans e3 g3)
  have sx2 := bx2.lt
  obtain ⟨px2_0, px2_1, px2_2, px2_3, px2_4, px2_5, px2_6⟩ := blk7 bx2
  clear bx2
  have bt3 := Kt3.out.ext (w' := u6) (Ext.trans e4 g4)
  have st3 := bt3.lt
  obtain ⟨pt3_0, pt3_1⟩ := blk2 bt3
  clear bt3
  have bx3 := Kx3.out.ext (w' := u6) (Ext.trans e4 g4)
  have sx3 := bx3.lt
  obtain ⟨px3_0, px3_1, px3_2, px3_3, px3_4, px3_5, px3_6⟩ := blk7 bx3
  clear bx3
  have bxy3 := Kxy3.out.ext (w' := u6) (Ext.trans e4 g4)
  have sxy3 := bxy3.lt
  obtain ⟨pxy3_0, pxy3_1, pxy3_2, pxy3_3, pxy3_4, pxy3_5, pxy3_6⟩ := blk7 bxy3
  clear bxy3
  have bt4 := Kt4.out.ext (w' := u6) (Ext.trans e5 g5)
  have st4 := bt4.lt
  obtain ⟨pt4_0, pt4_1⟩ := blk2 bt4
  clear bt4
  have bt5 := Kt5.out.ext (w' := u6) (Ext.trans e6 g6)
  have st5 := bt5.lt
  obtain ⟨pt5_0, pt5_1⟩ := blk2 bt5
  clear bt5
  have bx5 := Kx5.out.ext (w' := u6) (Ext.trans e6 g6)
  have sx5 := bx5.lt
  obtain ⟨px5_0, px5_1, px5_2, px5_3, px5_4, px5_5, px5_6⟩ := blk7 bx5
  clear bx5
  have bt6 := Kt6.out.ext (w' := u6) (Ext.refl _)
  have st6 := bt6.lt
  obtain ⟨pt6_0, pt6_1⟩ := blk2 bt6
  clear bt6
  have bx6 := Kx6.out.ext (w' := u6) (Ext.refl _)
  have sx6 := bx6.lt
  obtain ⟨px6_0, px6_1, px6_2, px6_3, px6_4, px6_5, px6_6⟩ := blk7 bx6
  clear bx6
  have ht5 := tot_drawn hd5
  clear z1 z2 z3 z4 z5 z6
  have nb9 : ∀ b : Bool, (b != b) = false := fun b => by cases b <;> rfl
  have ni9 : ∀ i : Int, (i != i) = false := fun i => by simp
  refine wp_region_L (E := Ext) (w0 := u6) (G := fun τ => match τ with | 56 => some (fun v W => IsV (.bool (validRoot t2 x2)) v) | 59 => some (fun v W => IsV (.bool (validRoot t2 x2)) v) | 65 => some (fun v W => IsV (.bool (isSucc t3 x3 xy3)) v) | 69 => some (fun v W => IsV (.bool (isSucc t3 x3 xy3)) v) | 76 => some (fun v W => IsV (I (activeRoot t4 l4 n4)) v) | 80 => some (fun v W => IsV (I (activeRoot t4 l4 n4)) v) | 86 => some (fun v W => IsV (.bool (validChain t4 l4)) v) | 89 => some (fun v W => IsV (.bool (validChain t4 l4)) v) | 96 => some (fun v W => TrustRootS W.heap.size W v (updRoots t5 l5 x5)) | 100 => some (fun v W => TrustRootS W.heap.size W v (updRoots t5 l5 x5)) | 101 => some (fun v W => IsV (.bool true) v) | 107 => some (fun v W => IsV (.bool (isInitial t6 x6)) v) | 110 => some (fun v W => IsV (.bool (isInitial t6 x6)) v) | 115 => some (fun v W => IntS W.heap.size W v (rootData x2)) | 117 => some (fun v W => IntS W.heap.size W v (rootData x2)) | 118 => some (fun v W => IsV (.bool true) v) | 123 => some (fun v W => IsV (.string (fmtRoot x2)) v) | 125 => some (fun v W => IsV (.string (fmtRoot x2)) v) | _ => none) Ext.refl (fun h k => Ext.trans h k) (by kernel_rfl) (by kernel_rfl) xg (Ext.drew (by exact Ext.refl _)) ?_
  simp only [List.append_eq, List.cons_append, List.nil_append]
  repeat' (first
    | ((with_reducible refine wpL_skip ?_ ?_ ?_)
       · rfl
       · rfl
       simp only [Act.put, List.setIfInBounds_toArray, List.set_cons_zero, List.set_cons_succ])
    | ((with_reducible refine wpL_quiet ?_ ?_ ?_ ?_)
       · rfl
       · rfl
       · rfl
       apply Exists.intro
       refine ⟨fun W hW hS => ?_, ?_⟩
       · have hC := (Ext.facts hW).1
         go_simp
         first | done | (with_reducible rfl) | (rw [if_neg (by omega)]; exact ⟨rfl, rfl⟩) | rfl
       first | (with_reducible refine wpL_boolT ?_) | (with_reducible refine wpL_boolF ?_) | (with_reducible refine wpL_bool (fun hB => ?_) (fun hB => ?_)) | skip
       all_goals simp only [Act.put, List.setIfInBounds_toArray, List.set_cons_zero, List.set_cons_succ])
    | ((refine wpL_grow ?_ rfl rfl ?_ ?_)
       · rfl
       · intro W hW hS
         have hC := (Ext.facts hW).1
         unfold growAt
         go_simp
         simp only [growUpon]
         first | (go_at_call 44; (with_reducible refine Calls.mono (impl_ValidRoot _ _ t2 x2 _ (by exact Rt2.out.ext xe) (by exact Rx2.out.ext xe)) ?_); rintro e w9_ ⟨rfl, e9⟩; exact ⟨_, rfl, e9, IsV.mk⟩) | (go_at_call 45; (with_reducible refine Calls.mono (spec_ValidRoot _ _ t2 x2 _ (by exact Rt2.out.ext xe) (by exact Rx2.out.ext xe)) ?_); rintro e w9_ ⟨rfl, e9⟩; exact ⟨_, rfl, e9, IsV.mk⟩) | (go_at_call 46; (with_reducible refine Calls.mono (impl_IsSuccessor _ _ _ t3 x3 xy3 _ (by exact Rt3.out.ext xe) (by exact Rx3.out.ext xe) (by exact Rxy3.out.ext xe)) ?_); rintro e w9_ ⟨rfl, e9⟩; exact ⟨_, rfl, e9, IsV.mk⟩) | (go_at_call 47; (with_reducible refine Calls.mono (spec_IsSuccessor _ _ _ t3 x3 xy3 _ (by exact Rt3.out.ext xe) (by exact Rx3.out.ext xe) (by exact Rxy3.out.ext xe)) ?_); rintro e w9_ ⟨rfl, e9⟩; exact ⟨_, rfl, e9, IsV.mk⟩) | (go_at_call 48; (with_reducible refine Calls.mono (impl_ActiveRoot _ _ n4 t4 l4 _ (by exact Rt4.out.ext xe) (by exact TrustRootS.ext Rl4.out xe)) ?_); rintro e w9_ ⟨rfl, e9⟩; exact ⟨_, rfl, e9, IsV.mk⟩) | (go_at_call 49; (with_reducible refine Calls.mono (spec_ActiveRoot _ _ n4 t4 l4 _ (by exact Rt4.out.ext xe) (by exact TrustRootS.ext Rl4.out xe)) ?_); rintro e w9_ ⟨rfl, e9⟩; exact ⟨_, rfl, e9, IsV.mk⟩) | (go_at_call 14; (with_reducible refine Calls.mono (impl_ValidRootChain _ _ t4 l4 _ (by exact Rt4.out.ext xe) (by exact TrustRootS.ext Rl4.out xe)) ?_); rintro e w9_ ⟨rfl, e9⟩; exact ⟨_, rfl, e9, IsV.mk⟩) | (go_at_call 13; (with_reducible refine Calls.mono (spec_ValidRootChain _ _ t4 l4 _ (by exact Rt4.out.ext xe) (by exact TrustRootS.ext Rl4.out xe)) ?_); rintro e w9_ ⟨rfl, e9⟩; exact ⟨_, rfl, e9, IsV.mk⟩) | (go_at_call 15; (with_reducible refine Calls.mono (impl_UpdateRoots _ _ _ t5 l5 x5 _ (by exact Rt5.out.ext xe) (by exact TrustRootS.ext Rl5.out xe) (by exact Rx5.out.ext xe) ht5 (by omega)) ?_); rintro e w9_ ⟨v9, rfl, o9, e9⟩; exact ⟨_, rfl, e9, TrustRootSO_rd o9 (Nat.le_refl _)⟩) | (go_at_call 51; (with_reducible refine Calls.mono (spec_UpdateRoots _ _ _ t5 l5 x5 _ (by exact Rt5.out.ext xe) (by exact TrustRootS.ext Rl5.out xe) (by exact Rx5.out.ext xe) ht5 (by omega)) ?_); rintro e w9_ ⟨v9, rfl, o9, e9⟩; exact ⟨_, rfl, e9, TrustRootSO_rd o9 (Nat.le_refl _)⟩) | (have ha : TrustRootS W.heap.size W _ (updRoots t5 l5 x5) := hS 96 (by decide); have hb : TrustRootS W.heap.size W _ (updRoots t5 l5 x5) := hS 100 (by decide); go_at_call 50; (with_reducible refine Calls.mono (laws_sameRoots _ _ (updRoots t5 l5 x5) _ ha hb) ?_); rintro e w9_ ⟨rfl, e9⟩; exact ⟨_, rfl, e9, IsV.mk⟩) | (go_at_call 52; (with_reducible refine Calls.mono (impl_IsInitialRoot _ _ t6 x6 _ (by exact Rt6.out.ext xe) (by exact Rx6.out.ext xe)) ?_); rintro e w9_ ⟨rfl, e9⟩; exact ⟨_, rfl, e9, IsV.mk⟩) | (go_at_call 53; (with_reducible refine Calls.mono (spec_IsInitialRoot _ _ t6 x6 _ (by exact Rt6.out.ext xe) (by exact Rx6.out.ext xe)) ?_); rintro e w9_ ⟨rfl, e9⟩; exact ⟨_, rfl, e9, IsV.mk⟩) | (go_at_call 12; (with_reducible refine Calls.mono (impl_RootData _ x2 _ (by exact Rx2.out.ext xe)) ?_); rintro e w9_ ⟨v9, rfl, o9, e9⟩; exact ⟨_, rfl, e9, IntSO_rd o9⟩) | (go_at_call 54; (with_reducible refine Calls.mono (spec_RootData _ x2 _ (by exact Rx2.out.ext xe)) ?_); rintro e w9_ ⟨v9, rfl, o9, e9⟩; exact ⟨_, rfl, e9, IntSO_rd o9⟩) | (have ha : IntS W.heap.size W _ (rootData x2) := hS 115 (by decide); have hb : IntS W.heap.size W _ (rootData x2) := hS 117 (by decide); go_at_call 33; (with_reducible refine Calls.mono (laws_sameInts _ _ (rootData x2) _ ha hb) ?_); rintro e w9_ ⟨rfl, e9⟩; exact ⟨_, rfl, e9, IsV.mk⟩) | (go_at_call 55; (with_reducible refine Calls.mono (impl_FormatRoot _ x2 _ (by exact Rx2.out.ext xe)) ?_); rintro e w9_ ⟨rfl, e9⟩; exact ⟨_, rfl, e9, IsV.mk⟩) | (go_at_call 56; (with_reducible refine Calls.mono (spec_FormatRoot _ x2 _ (by exact Rx2.out.ext xe)) ?_); rintro e w9_ ⟨rfl, e9⟩; exact ⟨_, rfl, e9, IsV.mk⟩)
       intro v W' hW' hv
       first | ((with_reducible refine intro_at 56 _ ?_); cases hv) | ((with_reducible refine intro_at 59 _ ?_); cases hv) | ((with_reducible refine intro_at 65 _ ?_); cases hv) | ((with_reducible refine intro_at 69 _ ?_); cases hv) | ((with_reducible refine intro_at 76 _ ?_); cases hv) | ((with_reducible refine intro_at 80 _ ?_); cases hv) | ((with_reducible refine intro_at 86 _ ?_); cases hv) | ((with_reducible refine intro_at 89 _ ?_); cases hv) | ((with_reducible refine intro_at 96 _ ?_); skip) | ((with_reducible refine intro_at 100 _ ?_); skip) | ((with_reducible refine intro_at 101 _ ?_); cases hv) | ((with_reducible refine intro_at 107 _ ?_); cases hv) | ((with_reducible refine intro_at 110 _ ?_); cases hv) | ((with_reducible refine intro_at 115 _ ?_); skip) | ((with_reducible refine intro_at 117 _ ?_); skip) | ((with_reducible refine intro_at 118 _ ?_); cases hv) | ((with_reducible refine intro_at 123 _ ?_); cases hv) | ((with_reducible refine intro_at 125 _ ?_); cases hv) | (obtain ⟨A5, n5, c5, rfl, -⟩ := id hv; clear hv) | (obtain ⟨A5, n5, c5, rfl⟩ := NO.slice hv) | skip
       all_goals simp only [Act.put, List.setIfInBounds_toArray, List.set_cons_zero, List.set_cons_succ]))
  refine wpL_nil (fun w10 e10 hL => ?_)
  clear hL
  go_wp2_with fail
  have z10 := e10.size
  clear pt1_0 pt1_1 pt2_0 pt2_1 px2_0 px2_1 px2_2 px2_3 px2_4 px2_5 px2_6 pt3_0 pt3_1 px3_0 px3_1 px3_2 px3_3 px3_4 px3_5 px3_6 pxy3_0 pxy3_1 pxy3_2 pxy3_3 pxy3_4 pxy3_5 pxy3_6 pt4_0 pt4_1 pt5_0 pt5_1 px5_0 px5_1 px5_2 px5_3 px5_4 px5_5 px5_6 pt6_0 pt6_1 px6_0 px6_1 px6_2 px6_3 px6_4 px6_5 px6_6
  have g10 : Ext w1 w10 := Ext.trans g1 e10
  have eu10 : Ext u0 w10 := Ext.trans eu6 e10
  have HT := Lib.hid (Rt1.out.ext g10)
  have HL := Lib.hid (TrustRootS.ext Rl1.out g10)
  have BT := Lib.hid (Kt1.out.ext (w' := w10) (Ext.trans e2 (Ext.trans g2 e10)))
  have HCO := Lib.hid (chain_one hl0 HCH.out)
  obtain ⟨b9, off9, hA9, hb9, hk9, hc9⟩ := HL.out.at_ (k := 0) hl0
  have HAF := Lib.hid (fun h => active_first (t := t1) (l := l1) h hl0)
  obtain ⟨x0, hx0⟩ : ∃ x0, x0 = l1[0] := ⟨_, rfl⟩
  rw [← hx0] at hc9 HCO HAF
  have HX0 := Lib.hid hx0; clear hx0
  subst hA9
  obtain ⟨Ax0_6, nx0_6, cx0_6, hx0_0, hx0_1, hx0_2, hx0_3, hx0_4, hx0_5, hx0_6, sx0_6⟩ := hc9
  obtain ⟨lx0_6, kx0_6, mx0_6⟩ := sx0_6.len
  subst lx0_6
  unfold maxLen at mx0_6
  have Rx0 : Hid (TrustRootV w10.heap.size w10 (.agg #[I x0.isd, I x0.version, I x0.notBefore, I x0.notAfter, I x0.voters, I x0.quorum, .slice Ax0_6 x0.sigs.length cx0_6]) x0) := ⟨_, _, _, rfl, sx0_6⟩
  have Sx0_6 := Lib.hid sx0_6; clear sx0_6
  simp only [Nat.zero_mul, Nat.add_zero] at hx0_0 hx0_1 hx0_2 hx0_3 hx0_4 hx0_5 hx0_6
  have i0 : (0 : Int) < (l1.length : Int) := by omega
  have lt9 : b9 < w10.heap.size := by omega
  cases hi : isInitial t1 x0
  · have HI := Lib.hid hi; clear hi
    have hv : validChain t1 l1 = false := HCO.out.trans HI.out
    have HV := Lib.hid hv; clear hv
    have b0 := BT.out.ext (w' := w10) xe
    have lb0 := b0.lt
    obtain ⟨qb0_0, qb0_1⟩ := blk2 b0
    have fb0_0 := b0.frozen 0
    have fb0_1 := b0.frozen 1
    clear b0
    refine wp_region_L (E := Ext) (w0 := w10) (G := fun τ => match τ with | 132 => some (fun v W => IsV (.bool false) v) | _ => none) Ext.refl (fun h k => Ext.trans h k) (by kernel_rfl) (by kernel_rfl) xg (Ext.drew (by exact Ext.refl _)) ?_
    repeat' (first
      | ((with_reducible refine wpL_skip ?_ ?_ ?_)
         · rfl
         · rfl
         simp only [Act.put, List.setIfInBounds_toArray, List.set_cons_zero, List.set_cons_succ])
      | ((with_reducible refine wpL_quiet ?_ ?_ ?_ ?_)
         · rfl
         · rfl
         · rfl
         apply Exists.intro
         refine ⟨fun W hW hS => ?_, ?_⟩
         · have hC := (Ext.facts hW).1
           go_simp
           first | done | (with_reducible rfl) | (rw [if_neg (by omega)]; exact ⟨rfl, rfl⟩) | rfl
         first | (with_reducible refine wpL_boolT ?_) | (with_reducible refine wpL_boolF ?_) | (with_reducible refine wpL_bool (fun hB => ?_) (fun hB => ?_)) | skip
         all_goals simp only [Act.put, List.setIfInBounds_toArray, List.set_cons_zero, List.set_cons_succ])
      | ((refine wpL_grow ?_ rfl rfl ?_ ?_)
         · rfl
         · intro W hW hS
           have hC := (Ext.facts hW).1
           unfold growAt
           go_simp
           simp only [growUpon]
           first | (go_at_call 52; (with_reducible refine Calls.mono (impl_IsInitialRoot _ _ t1 x0 _ (by exact HT.out.ext xe) (by exact Rx0.out.ext xe)) ?_); rintro e w9_ ⟨rfl, e9⟩; exact ⟨_, rfl, e9, by rw [HI.out]; exact IsV.mk⟩)
         intro v W' hW' hv
         first | ((with_reducible refine intro_at 132 _ ?_); cases hv) | (obtain ⟨A5, n5, c5, rfl, -⟩ := id hv; clear hv) | (obtain ⟨A5, n5, c5, rfl⟩ := NO.slice hv) | skip
         all_goals simp only [Act.put, List.setIfInBounds_toArray, List.set_cons_zero, List.set_cons_succ]))
    refine wpL_nil (fun w11 e11 hL => ?_)
    clear hL lb0 qb0_0 qb0_1 fb0_0 fb0_1
    have b0 := BT.out.ext (w' := w11) xe
    have lb0 := b0.lt
    obtain ⟨qb0_0, qb0_1⟩ := blk2 b0
    have fb0_0 := b0.frozen 0
    have fb0_1 := b0.frozen 1
    clear b0
    go_wp2_with fail
    refine (impl_ValidRootChain _ _ t1 l1 _ (by exact HT.out.ext xe) (by exact TrustRootS.ext HL.out xe)).mono ?_
    rintro e w12 ⟨rfl, e12⟩
    rw [HV.out]
    go_wp2_with fail
    go_ret
    exact ⟨rfl, xe⟩
  · have HI := Lib.hid hi; clear hi
    have hv : validChain t1 l1 = true := HCO.out.trans HI.out
    have HV := Lib.hid hv
    have hact : 0 ≤ activeRoot t1 l1 x0.notBefore := HAF.out hv
    clear hv
    obtain ⟨ka, hka⟩ : ∃ ka, activeRoot t1 l1 x0.notBefore = ka := ⟨_, rfl⟩
    rw [hka] at hact
    have HKA := Lib.hid hka; clear hka
    have b0 := BT.out.ext (w' := w10) xe
    have lb0 := b0.lt
    obtain ⟨qb0_0, qb0_1⟩ := blk2 b0
    have fb0_0 := b0.frozen 0
    have fb0_1 := b0.frozen 1
    clear b0
    refine wp_region_L (E := Ext) (w0 := w10) (G := fun τ => match τ with | 132 => some (fun v W => IsV (.bool true) v) | _ => none) Ext.refl (fun h k => Ext.trans h k) (by kernel_rfl) (by kernel_rfl) xg (Ext.drew (by exact Ext.refl _)) ?_
    repeat' (first
      | ((with_reducible refine wpL_skip ?_ ?_ ?_)
         · rfl
         · rfl
         simp only [Act.put, List.setIfInBounds_toArray, List.set_cons_zero, List.set_cons_succ])
      | ((with_reducible refine wpL_quiet ?_ ?_ ?_ ?_)
         · rfl
         · rfl
         · rfl
         apply Exists.intro
         refine ⟨fun W hW hS => ?_, ?_⟩
         · have hC := (Ext.facts hW).1
           go_simp
           first | done | (with_reducible rfl) | (rw [if_neg (by omega)]; exact ⟨rfl, rfl⟩) | rfl
         first | (with_reducible refine wpL_boolT ?_) | (with_reducible refine wpL_boolF ?_) | (with_reducible refine wpL_bool (fun hB => ?_) (fun hB => ?_)) | skip
         all_goals simp only [Act.put, List.setIfInBounds_toArray, List.set_cons_zero, List.set_cons_succ])
      | ((refine wpL_grow ?_ rfl rfl ?_ ?_)
         · rfl
         · intro W hW hS
           have hC := (Ext.facts hW).1
           unfold growAt
           go_simp
           simp only [growUpon]
           first | (go_at_call 52; (with_reducible refine Calls.mono (impl_IsInitialRoot _ _ t1 x0 _ (by exact HT.out.ext xe) (by exact Rx0.out.ext xe)) ?_); rintro e w9_ ⟨rfl, e9⟩; exact ⟨_, rfl, e9, by rw [HI.out]; exact IsV.mk⟩)
         intro v W' hW' hv
         first | ((with_reducible refine intro_at 132 _ ?_); cases hv) | (obtain ⟨A5, n5, c5, rfl, -⟩ := id hv; clear hv) | (obtain ⟨A5, n5, c5, rfl⟩ := NO.slice hv) | skip
         all_goals simp only [Act.put, List.setIfInBounds_toArray, List.set_cons_zero, List.set_cons_succ]))
    refine wpL_nil (fun w11 e11 hL => ?_)
    clear hL lb0 qb0_0 qb0_1 fb0_0 fb0_1
    have z11 := e11.size
    have b0 := BT.out.ext (w' := w11) xe
    have lb0 := b0.lt
    obtain ⟨qb0_0, qb0_1⟩ := blk2 b0
    have fb0_0 := b0.frozen 0
    have fb0_1 := b0.frozen 1
    clear b0
    have hy0_2 := (e11.cell lt9).trans hx0_2
    have ly9 : b9 < w11.heap.size := by omega
    go_wp2_with fail
    refine wp_region_L (E := Ext) (w0 := w11) (G := fun τ => match τ with | 144 => some (fun v W => IsV (I ka) v) | _ => none) Ext.refl (fun h k => Ext.trans h k) (by kernel_rfl) (by kernel_rfl) xg (Ext.drew (by exact Ext.refl _)) ?_
    repeat' (first
      | ((with_reducible refine wpL_skip ?_ ?_ ?_)
         · rfl
         · rfl
         simp only [Act.put, List.setIfInBounds_toArray, List.set_cons_zero, List.set_cons_succ])
      | ((with_reducible refine wpL_quiet ?_ ?_ ?_ ?_)
         · rfl
         · rfl
         · rfl
         apply Exists.intro
         refine ⟨fun W hW hS => ?_, ?_⟩
         · have hC := (Ext.facts hW).1
           go_simp
           first | done | (with_reducible rfl) | (rw [if_neg (by omega)]; exact ⟨rfl, rfl⟩) | rfl
         first | (with_reducible refine wpL_boolT ?_) | (with_reducible refine wpL_boolF ?_) | (with_reducible refine wpL_bool (fun hB => ?_) (fun hB => ?_)) | skip
         all_goals simp only [Act.put, List.setIfInBounds_toArray, List.set_cons_zero, List.set_cons_succ])
      | ((refine wpL_grow ?_ rfl rfl ?_ ?_)
         · rfl
         · intro W hW hS
           have hC := (Ext.facts hW).1
           unfold growAt
           go_simp
           simp only [growUpon]
           first | (go_at_call 48; (with_reducible refine Calls.mono (impl_ActiveRoot _ _ _ t1 l1 _ (by exact HT.out.ext xe) (by exact TrustRootS.ext HL.out xe)) ?_); rintro e w9_ ⟨rfl, e9⟩; exact ⟨_, rfl, e9, by rw [HKA.out]; exact IsV.mk⟩)
         intro v W' hW' hv
         first | ((with_reducible refine intro_at 144 _ ?_); cases hv) | (obtain ⟨A5, n5, c5, rfl, -⟩ := id hv; clear hv) | (obtain ⟨A5, n5, c5, rfl⟩ := NO.slice hv) | skip
         all_goals simp only [Act.put, List.setIfInBounds_toArray, List.set_cons_zero, List.set_cons_succ]))
    refine wpL_nil (fun w12 e12 hL => ?_)
    clear hL lb0 qb0_0 qb0_1 fb0_0 fb0_1
    have z12 := e12.size
    go_wp2_with fail
    clear hx0_0 hx0_1 hx0_2 hx0_3 hx0_4 hx0_5 hx0_6 hy0_2
    have HL12 := Lib.hid (TrustRootS.ext HL.out (Ext.trans e11 e12))
    have HT12 := Lib.hid (HT.out.ext (Ext.trans e11 e12))
    obtain ⟨j, hj⟩ : ∃ j : Nat, l1.length = j + 1 := ⟨l1.length - 1, by omega⟩
    obtain ⟨b8, off8, hA8, hb8, hk8, hc8⟩ := HL12.out.at_ (k := j) (by omega)
    cases hA8
    have HUL := Lib.hid (upd_last HV.out hl0)
    obtain ⟨xl, hxl⟩ : ∃ xl, xl = l1[j] := ⟨_, rfl⟩
    have HUP : Hid (updRoots t1 (l1.take j) xl = l1) := by
      unfold Hid
      have h9 := HUL.out
      simp only [show l1.length - 1 = j by omega] at h9
      rw [hxl]
      exact h9
    clear HUL
    rw [← hxl] at hc8
    have hxs : xl.sigs.length ≤ 16 := by rw [hxl]; exact (HP.out _ (List.getElem_mem _)).1
    clear hxl
    obtain ⟨Axl_6, nxl_6, cxl_6, hxl_0, hxl_1, hxl_2, hxl_3, hxl_4, hxl_5, hxl_6, sxl_6⟩ := hc8
    obtain ⟨lxl_6, kxl_6, mxl_6⟩ := sxl_6.len
    subst lxl_6
    unfold maxLen at mxl_6
    have Rxl : Hid (TrustRootV w12.heap.size w12 (.agg #[I xl.isd, I xl.version, I xl.notBefore, I xl.notAfter, I xl.voters, I xl.quorum, .slice Axl_6 xl.sigs.length cxl_6]) xl) := ⟨_, _, _, rfl, sxl_6⟩
    have Sxl_6 := Lib.hid sxl_6; clear sxl_6
    have HDV : Hid (∀ W : World, TrustRootV W.heap.size W (.agg #[I 0, I 0, I 0, I 0, I 0, I 0, .slice none 0 0]) dRoot) := fun W => dRoot_V _ W
    have hdr0 : dRoot.sigs.length ≤ 1048576 := by decide
    have htk : totS (fun y : DTrustRoot => y.sigs.length) (l1.take j) ≤ 1048576 := Nat.le_trans (totS_bound _ fun y hy => (HP.out y (List.mem_of_mem_take hy)).1) (by rw [List.length_take]; omega)
    have HTK : Hid (∀ W, Ext w12 W → TrustRootS W.heap.size W (.slice (some ⟨b9, off9, none⟩) j cl1) (l1.take j)) := fun W hW => Sl.takeR (TrustRootS.ext HL12.out hW) (by omega)
    have HJ := Lib.hid hj
    have j0 : (0 : Int) ≤ (l1.length : Int) - 1 := by omega
    have j1 : (l1.length : Int) - 1 < (l1.length : Int) := by omega
    have j2 : ((l1.length : Int) - 1).toNat = j := by omega
    have j3 : (l1.length : Int) - 1 ≤ (cl1 : Int) := by omega
    have wj : IntKind.i64.wrap ((l1.length : Int) - 1) = (j : Int) := by rw [IntWalk.i64_in _ (by omega)]; omega
    have jj0 : (0 : Int) ≤ (j : Int) := by omega
    have jj1 : (j : Int) < (l1.length : Int) := by omega
    have jj2 : (j : Int) ≤ (cl1 : Int) := by omega
    have lt8 : b9 < w12.heap.size := by omega
    have hlq : l1.length ≤ 5 := hl5
    have b0 := BT.out.ext (w' := w12) xe
    have lb0 := b0.lt
    obtain ⟨qb0_0, qb0_1⟩ := blk2 b0
    have fb0_0 := b0.frozen 0
    have fb0_1 := b0.frozen 1
    clear b0
    by_cases h2 : l1.length < 2
    · have i2 : (l1.length : Int) < 2 := by omega
      clear hj
      refine wp_region_L (E := Ext) (w0 := w12) (G := fun τ => match τ with | 147 => some (fun v W => IsV (.bool true) v) | 165 => some (fun v W => TrustRootS W.heap.size W v (l1.take j)) | 166 => some (fun v W => IsV (.bool true) v) | _ => none) Ext.refl (fun h k => Ext.trans h k) (by kernel_rfl) (by kernel_rfl) xg (Ext.drew (by exact Ext.refl _)) ?_
      repeat' (first
        | ((with_reducible refine wpL_skip ?_ ?_ ?_)
           · rfl
           · rfl
           simp only [Act.put, List.setIfInBounds_toArray, List.set_cons_zero, List.set_cons_succ])
        | ((with_reducible refine wpL_quiet ?_ ?_ ?_ ?_)
           · rfl
           · rfl
           · rfl
           apply Exists.intro
           refine ⟨fun W hW hS => ?_, ?_⟩
           · have hC := (Ext.facts hW).1
             go_simp
             first | done | (with_reducible rfl) | (rw [if_neg (by omega)]; exact ⟨rfl, rfl⟩) | rfl
           first | (with_reducible refine wpL_boolT ?_) | (with_reducible refine wpL_boolF ?_) | (with_reducible refine wpL_bool (fun hB => ?_) (fun hB => ?_)) | skip
           all_goals simp only [Act.put, List.setIfInBounds_toArray, List.set_cons_zero, List.set_cons_succ])
        | ((refine wpL_grow ?_ rfl rfl ?_ ?_)
           · rfl
           · intro W hW hS
             have hC := (Ext.facts hW).1
             unfold growAt
             go_simp
             simp only [growUpon]
             first | (go_at_call 14; (with_reducible refine Calls.mono (impl_ValidRootChain _ _ t1 l1 _ (by exact HT12.out.ext xe) (by exact TrustRootS.ext HL12.out xe)) ?_); rintro e w9_ ⟨rfl, e9⟩; exact ⟨_, rfl, e9, by rw [HV.out]; exact IsV.mk⟩) | (go_at_call 15; (with_reducible refine Calls.mono (impl_UpdateRoots _ _ _ t1 (l1.take j) dRoot _ (by exact HT12.out.ext xe) (by exact HTK.out _ xe) (by exact HDV.out _) htk hdr0) ?_); rintro e w9_ ⟨v9, rfl, o9, e9⟩; exact ⟨_, rfl, e9, by (have h9 := TrustRootSO_rd o9 (Nat.le_refl _); rw [upd_zero] at h9; exact h9)⟩) | (have hb : TrustRootS W.heap.size W _ (l1.take j) := hS 165 (by decide); go_at_call 50; (with_reducible refine Calls.mono (laws_sameRoots _ _ (l1.take j) _ (by exact HTK.out _ xe) hb) ?_); rintro e w9_ ⟨rfl, e9⟩; exact ⟨_, rfl, e9, IsV.mk⟩)
           intro v W' hW' hv
           first | ((with_reducible refine intro_at 147 _ ?_); cases hv) | ((with_reducible refine intro_at 165 _ ?_); skip) | ((with_reducible refine intro_at 166 _ ?_); cases hv) | (obtain ⟨A5, n5, c5, rfl, -⟩ := id hv; clear hv) | (obtain ⟨A5, n5, c5, rfl⟩ := NO.slice hv) | skip
           all_goals simp only [Act.put, List.setIfInBounds_toArray, List.set_cons_zero, List.set_cons_succ]))
      refine wpL_nil (fun w13 e13 hL => ?_)
      clear hL
      go_wp2_with fail
      go_ret
      exact ⟨rfl, xe⟩
    · have i2 : ¬ (l1.length : Int) < 2 := by omega
      clear hj
      refine wp_region_L (E := Ext) (w0 := w12) (G := fun τ => match τ with | 147 => some (fun v W => IsV (.bool true) v) | 165 => some (fun v W => TrustRootS W.heap.size W v (l1.take j)) | 166 => some (fun v W => IsV (.bool true) v) | 185 => some (fun v W => TrustRootS W.heap.size W v l1) | 187 => some (fun v W => IsV (.bool true) v) | _ => none) Ext.refl (fun h k => Ext.trans h k) (by kernel_rfl) (by kernel_rfl) xg (Ext.drew (by exact Ext.refl _)) ?_
      repeat' (first
        | ((with_reducible refine wpL_skip ?_ ?_ ?_)
           · rfl
           · rfl
           simp only [Act.put, List.setIfInBounds_toArray, List.set_cons_zero, List.set_cons_succ])
        | ((with_reducible refine wpL_quiet ?_ ?_ ?_ ?_)
           · rfl
           · rfl
           · rfl
           apply Exists.intro
           refine ⟨fun W hW hS => ?_, ?_⟩
           · have hC := (Ext.facts hW).1
             go_simp
             first | done | (with_reducible rfl) | (rw [if_neg (by omega)]; exact ⟨rfl, rfl⟩) | rfl
           first | (with_reducible refine wpL_boolT ?_) | (with_reducible refine wpL_boolF ?_) | (with_reducible refine wpL_bool (fun hB => ?_) (fun hB => ?_)) | skip
           all_goals simp only [Act.put, List.setIfInBounds_toArray, List.set_cons_zero, List.set_cons_succ])
        | ((refine wpL_grow ?_ rfl rfl ?_ ?_)
           · rfl
           · intro W hW hS
             have hC := (Ext.facts hW).1
             unfold growAt
             go_simp
             simp only [growUpon]
             first | (go_at_call 14; (with_reducible refine Calls.mono (impl_ValidRootChain _ _ t1 l1 _ (by exact HT12.out.ext xe) (by exact TrustRootS.ext HL12.out xe)) ?_); rintro e w9_ ⟨rfl, e9⟩; exact ⟨_, rfl, e9, by rw [HV.out]; exact IsV.mk⟩) | (go_at_call 15; (with_reducible refine Calls.mono (impl_UpdateRoots _ _ _ t1 (l1.take j) dRoot _ (by exact HT12.out.ext xe) (by exact HTK.out _ xe) (by exact HDV.out _) htk hdr0) ?_); rintro e w9_ ⟨v9, rfl, o9, e9⟩; exact ⟨_, rfl, e9, by (have h9 := TrustRootSO_rd o9 (Nat.le_refl _); rw [upd_zero] at h9; exact h9)⟩) | (have hb : TrustRootS W.heap.size W _ (l1.take j) := hS 165 (by decide); go_at_call 50; (with_reducible refine Calls.mono (laws_sameRoots _ _ (l1.take j) _ (by exact HTK.out _ xe) hb) ?_); rintro e w9_ ⟨rfl, e9⟩; exact ⟨_, rfl, e9, IsV.mk⟩) | (go_at_call 15; (with_reducible refine Calls.mono (impl_UpdateRoots _ _ _ t1 (l1.take j) xl _ (by exact HT12.out.ext xe) (by exact HTK.out _ xe) (by exact Rxl.out.ext xe) htk (by omega)) ?_); rintro e w9_ ⟨v9, rfl, o9, e9⟩; exact ⟨_, rfl, e9, by (have h9 := TrustRootSO_rd o9 (Nat.le_refl _); rw [HUP.out] at h9; exact h9)⟩) | (have hb : TrustRootS W.heap.size W _ l1 := hS 185 (by decide); go_at_call 50; (with_reducible refine Calls.mono (laws_sameRoots _ _ l1 _ hb (by exact TrustRootS.ext HL12.out xe)) ?_); rintro e w9_ ⟨rfl, e9⟩; exact ⟨_, rfl, e9, IsV.mk⟩)
           intro v W' hW' hv
           first | ((with_reducible refine intro_at 147 _ ?_); cases hv) | ((with_reducible refine intro_at 165 _ ?_); skip) | ((with_reducible refine intro_at 166 _ ?_); cases hv) | ((with_reducible refine intro_at 185 _ ?_); skip) | ((with_reducible refine intro_at 187 _ ?_); cases hv) | (obtain ⟨A5, n5, c5, rfl, -⟩ := id hv; clear hv) | (obtain ⟨A5, n5, c5, rfl⟩ := NO.slice hv) | skip
           all_goals simp only [Act.put, List.setIfInBounds_toArray, List.set_cons_zero, List.set_cons_succ]))
      refine wpL_nil (fun w13 e13 hL => ?_)
      clear hL
      go_wp2_with fail
      go_ret
      exact ⟨rfl, xe⟩
end Go.Proofs.Ytmlfnfflpacchaa
