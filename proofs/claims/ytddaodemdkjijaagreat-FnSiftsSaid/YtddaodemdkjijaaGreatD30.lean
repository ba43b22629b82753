/- The walk of the law FnSifts. No conditions. -/
import Derived.Test.YtddaodemdkjijaaGreatD8
import Derived.Test.YtddaodemdkjijaaGreatD11
import Derived.Test.YtddaodemdkjijaaGreatD29
import Derived.Test.YtddaodemdkjijaaGreatP20s
import Derived.Test.YtddaodemdkjijaaGreatGL20f
import Derived.Test.YtddaodemdkjijaaGreatL10e
namespace Go.Proofs.YtddaodemdkjijaaGreat
open Go.RowKit
set_option linter.unusedVariables false
/-- v is u. -/
inductive IsV (u : Value) : Value → Prop where
  | mk : IsV u u
set_option maxRecDepth 100000 in
set_option maxHeartbeats 1000000 in
theorem laws_sameSegs (v1 v2 : Value) (xs : List DSegment) (w : World) (h1 : SegmentS w.heap.size w v1 xs) (h2 : SegmentS w.heap.size w v2 xs) :
    Calls Tryz.prog 8 #[v1, v2] w fun e w' => e = .returned (.bool true) ∧ Ext w w' := by
  obtain ⟨A1, n1, c1, rfl, hl1, hn1, hm1, -⟩ := id h1
  obtain ⟨A2, n2, c2, rfl, hl2, hn2, hm2, -⟩ := id h2
  subst hl1
  subst hl2
  unfold maxLen at hm1 hm2
  have H1 := Lib.hid h1; have H2 := Lib.hid h2; clear h1 h2
  go_enter Tryz.func8, Tryz.ntmps8
  go_wp2_with fail
  go_loopw [5] (fun i wr => ∃ k : Nat, k ≤ xs.length ∧ i = I k ∧ Ext w wr) (fun i _ => xs.length - (intOf i).toNat)
  case atStart => exact ⟨0, by omega, rfl, Ext.refl _⟩
  case round =>
    obtain ⟨k, hk, rfl, he⟩ := hrel
    by_cases hlt : k < xs.length
    · obtain ⟨b1, o1, hA1, hb1, hk1, hc1⟩ := (H1.out.ext he).at_ hlt
      obtain ⟨b2, o2, hA2, hb2, hk2, hc2⟩ := (H2.out.ext he).at_ hlt
      have i0 : (0 : Int) ≤ (k : Int) := by omega
      have i1 : (k : Int) < (xs.length : Int) := by omega
      generalize xs[k] = x at *
      subst hA1
      subst hA2
      obtain ⟨A3, n3, c3, g10, g11, g12, s3⟩ := hc1
      obtain ⟨A4, n4, c4, g20, g21, g22, s4⟩ := hc2
      have S3 := Lib.hid s3; have S4 := Lib.hid s4; clear s3 s4
      go_wp2_with fail
      refine wp_region_L (E := Ext) (w0 := wr) (G := fun τ => match τ with | 25 => some (fun v W => IsV (.bool true) v) | _ => none) Ext.refl (fun h k => Ext.trans h k) (by kernel_rfl) (by kernel_rfl) xg (Ext.drew (by exact Ext.refl _)) ?_
      repeat' (first
        | ((with_reducible refine wpL_skip ?_ ?_ ?_)
           · rfl
           · rfl
           simp only [Act.put, List.setIfInBounds_toArray, List.set_cons_zero, List.set_cons_succ])
        | ((with_reducible refine wpL_quiet ?_ ?_ ?_ ?_)
           · rfl
           · rfl
           · rfl
           apply Exists.intro
           refine ⟨fun W hW hS => ?_, ?_⟩
           · have hC := (Ext.facts hW).1
             go_simp
             first | done | (with_reducible rfl) | (rw [if_neg (by omega)]; exact ⟨rfl, rfl⟩) | rfl
           first | (with_reducible refine wpL_boolT ?_) | (with_reducible refine wpL_boolF ?_) | (with_reducible refine wpL_bool (fun hB => ?_) (fun hB => ?_)) | skip
           all_goals simp only [Act.put, List.setIfInBounds_toArray, List.set_cons_zero, List.set_cons_succ])
        | ((refine wpL_grow ?_ rfl rfl ?_ ?_)
           · rfl
           · intro W hW hS
             have hC := (Ext.facts hW).1
             unfold growAt
             go_simp
             simp only [growUpon]
             first | (go_at_call 22; (with_reducible refine Calls.mono (laws_sameSeg _ _ x _ (by exact segV (S3.out.ext xe)) (by exact segV (S4.out.ext xe))) ?_); rintro e w9_ ⟨rfl, e9⟩; exact ⟨_, rfl, e9, IsV.mk⟩)
           intro v W' hW' hv
           first | ((with_reducible refine intro_at 25 _ ?_); cases hv) | (obtain ⟨A5, n5, c5, rfl, -⟩ := id hv; clear hv) | (obtain ⟨A5, n5, c5, rfl⟩ := NO.slice hv) | skip
           all_goals simp only [Act.put, List.setIfInBounds_toArray, List.set_cons_zero, List.set_cons_succ]))
      refine wpL_nil (fun w7 e7 hL => ?_)
      clear hL
      go_wp2_with fail
      go_roundw
      case rel => exact ⟨k + 1, by omega, by go_num, xe⟩
      case measure => simp [intOf]; omega
    · have i1 : ¬ (k : Int) < (xs.length : Int) := by omega
      go_wp2_with fail
      go_ret
      exact ⟨rfl, xe⟩
set_option maxRecDepth 100000 in
set_option maxHeartbeats 40000000 in
theorem sifts_walk (vb : Value) (bs : List Nat) (w : World) (hb : ByteS w.heap.size w vb bs) : Calls Tryz.prog 3 #[vb] w fun e w' => e = .returned (.bool true) ∧ Ext w w' := by
  have HB := Lib.hid hb; clear hb
  go_enter Tryz.func3, Tryz.ntmps3
  go_wp2_with fail
  refine (laws_big vb bs w HB.out).mono ?_
  rintro e u0 ⟨rfl, e0⟩
  by_cases hn : 1048576 < bs.length
  · rw [show decide (1048576 < bs.length) = true by simpa using hn]
    go_wp2_with fail
    go_ret
    exact ⟨rfl, xe⟩
  rw [show decide (1048576 < bs.length) = false by simpa using hn]
  go_wp2_with fail
  refine (spec_DrawFilterSigned vb bs u0 (Sl.ext ByteAt.keeps HB.out xe) (by omega)).mono ?_
  rintro e w1 ⟨⟨vt1, vl1, vm1, vx1, n1, rfl, t1, l1, m1, x1, ht1, hl1, hm1, hx1, htx⟩, e1⟩
  obtain ⟨At1_0, nt1_0, ct1_0, At1_1, nt1_1, ct1_1, rfl, st1_0, st1_1⟩ := id ht1
  obtain ⟨lt1_0, kt1_0, mt1_0⟩ := st1_0.len
  subst lt1_0
  unfold maxLen at mt1_0
  obtain ⟨lt1_1, kt1_1, mt1_1⟩ := st1_1.len
  subst lt1_1
  unfold maxLen at mt1_1
  have Rt1 := Lib.hid ht1; clear ht1
  have St1_0 := Lib.hid st1_0; clear st1_0
  have St1_1 := Lib.hid st1_1; clear st1_1
  obtain ⟨Al1, nl1, cl1, rfl, ll1, kl1, ml1, -⟩ := id hl1
  subst ll1
  unfold maxLen at ml1
  have Rl1 := Lib.hid hl1; clear hl1
  obtain ⟨Am1, nm1, cm1, rfl, lm1, km1, mm1, -⟩ := id hm1
  subst lm1
  unfold maxLen at mm1
  have Rm1 := Lib.hid hm1; clear hm1
  obtain ⟨Ax1, nx1, cx1, rfl, lx1, kx1, mx1, -⟩ := id hx1
  subst lx1
  unfold maxLen at mx1
  have Rx1 := Lib.hid hx1; clear hx1
  go_wp2_with fail
  refine name_calls (fun W => Ext w1 W ∧ W.heap.size = w1.heap.size + 1 ∧ Blk W (w1.heap.size) 27 [.slice At1_0 t1.ases.length ct1_0, .slice At1_1 t1.links.length ct1_1]) ⟨xe, by first | rfl | simp only [World.size_alloc], xb⟩ ?_
  rintro u1 ⟨f1, z1, bt1⟩
  have Kt1 := Lib.hid bt1; clear bt1
  have eu1 : Ext u0 u1 := Ext.trans e1 f1
  refine (impl_FilterSigned _ _ _ _ n1 t1 l1 m1 x1 u1 (by exact Rt1.out.ext f1) (by exact TrustRootS.ext Rl1.out f1) (by exact CertificateS.ext Rm1.out f1) (by exact SignedSegmentS.ext Rx1.out f1) (by omega)).mono ?_
  rintro e w2 ⟨vy2, rfl, oy2, e2⟩
  obtain ⟨y2, hy2e⟩ : ∃ y, filtSigned t1 l1 m1 x1 n1 = y := ⟨_, rfl⟩
  have HU : Hid (∀ y ∈ y2, segUsable t1 y n1 = true) := by unfold Hid; rw [← hy2e]; exact sifted_usable
  have hlen : y2.length ≤ x1.length := by rw [← hy2e]; exact sifted_len
  have hty : totS (fun u : DSegment => u.hops.length) y2 ≤ 1000 := by rw [← hy2e]; exact Nat.le_trans (sigdOf_tot t1 l1 m1 n1 x1) htx
  have HYE := Lib.hid hy2e
  rw [hy2e] at oy2
  clear hy2e
  have hy2 : SegmentS w2.heap.size w2 vy2 y2 := SegmentSO_rd oy2 (Nat.le_refl _)
  clear oy2
  obtain ⟨Ay2, ny2, cy2, rfl, ly2, ky2, my2, -⟩ := id hy2
  subst ly2
  unfold maxLen at my2
  have Ry2 := Lib.hid hy2; clear hy2
  have eu2 : Ext u0 w2 := Ext.trans eu1 e2
  have Kt1w := Lib.hid (Kt1.out.ext e2)
  go_wp2_with fail
  refine (spec_DrawSignedSegmentValid vb bs w2 (Sl.ext ByteAt.keeps HB.out xe) (by omega)).mono ?_
  rintro e w3 ⟨⟨vt3, vl3, vm3, vx3, n3, rfl, t3, l3, m3, x3, ht3, hl3, hm3, hx3, h31, h32⟩, e3⟩
  obtain ⟨At3_0, nt3_0, ct3_0, At3_1, nt3_1, ct3_1, rfl, st3_0, st3_1⟩ := id ht3
  obtain ⟨lt3_0, kt3_0, mt3_0⟩ := st3_0.len
  subst lt3_0
  unfold maxLen at mt3_0
  obtain ⟨lt3_1, kt3_1, mt3_1⟩ := st3_1.len
  subst lt3_1
  unfold maxLen at mt3_1
  have Rt3 := Lib.hid ht3; clear ht3
  have St3_0 := Lib.hid st3_0; clear st3_0
  have St3_1 := Lib.hid st3_1; clear st3_1
  obtain ⟨Al3, nl3, cl3, rfl, ll3, kl3, ml3, -⟩ := id hl3
  subst ll3
  unfold maxLen at ml3
  have Rl3 := Lib.hid hl3; clear hl3
  obtain ⟨Am3, nm3, cm3, rfl, lm3, km3, mm3, -⟩ := id hm3
  subst lm3
  unfold maxLen at mm3
  have Rm3 := Lib.hid hm3; clear hm3
  obtain ⟨Ax3_2, nx3_2, cx3_2, Ax3_3, nx3_3, cx3_3, rfl, sx3_2, sx3_3⟩ := id hx3
  obtain ⟨lx3_2, kx3_2, mx3_2⟩ := sx3_2.len
  subst lx3_2
  unfold maxLen at mx3_2
  obtain ⟨lx3_3, kx3_3, mx3_3⟩ := sx3_3.len
  subst lx3_3
  unfold maxLen at mx3_3
  have Rx3 := Lib.hid hx3; clear hx3
  have Sx3_2 := Lib.hid sx3_2; clear sx3_2
  have Sx3_3 := Lib.hid sx3_3; clear sx3_3
  go_wp2_with fail
  refine name_wp (fun W => Ext w3 W ∧ W.heap.size = w3.heap.size + 1 + 1 ∧ Blk W (w3.heap.size) 27 [.slice At3_0 t3.ases.length ct3_0, .slice At3_1 t3.links.length ct3_1] ∧ Blk W (w3.heap.size + 1) 40 [I x3.seg.ts, I x3.seg.beta, .slice Ax3_2 x3.seg.hops.length cx3_2, .slice Ax3_3 x3.sigs.length cx3_3]) ⟨xe, by first | rfl | simp only [World.size_alloc], xb, xb⟩ ?_
  rintro u3 ⟨f3, z3, bt3, bx3⟩
  have Jt3 := Lib.hid bt3; have Jx3 := Lib.hid bx3; clear bt3 bx3
  have eu3 : Ext u0 u3 := Ext.trans eu2 (Ext.trans e3 f3)
  have g2 : Ext w2 u3 := Ext.trans e3 f3
  have g1 : Ext w1 u3 := Ext.trans f1 (Ext.trans e2 g2)
  have Jt1 := Lib.hid (Kt1w.out.ext (w' := u3) g2)
  have St1 := Lib.hid (Rt1.out.ext g1); have Sl1 := Lib.hid (TrustRootS.ext Rl1.out g1); have Sm1 := Lib.hid (CertificateS.ext Rm1.out g1); have Sx1 := Lib.hid (SignedSegmentS.ext Rx1.out g1); clear Rt1 Rl1 Rm1 Rx1
  have Sy2 := Lib.hid (SegmentS.ext Ry2.out g2); clear Ry2
  have St3 := Lib.hid (Rt3.out.ext f3); have Sl3 := Lib.hid (TrustRootS.ext Rl3.out f3); have Sm3 := Lib.hid (CertificateS.ext Rm3.out f3); have Sx3 := Lib.hid (Rx3.out.ext f3); clear Rt3 Rl3 Rm3 Rx3
  have htn : totS (fun y : DSignedSegment => y.seg.hops.length + y.sigs.length) x1 ≤ 1048576 := by omega
  clear z1 z3
  have nb9 : ∀ b : Bool, (b != b) = false := fun b => by cases b <;> rfl
  have bt1_ := Jt1.out.ext (w' := u3) xe
  have lbt1_ := bt1_.lt
  obtain ⟨qbt1__0, qbt1__1⟩ := blk2 bt1_
  have fbt1__0 := bt1_.frozen 0
  have fbt1__1 := bt1_.frozen 1
  clear bt1_
  have bt3_ := Jt3.out.ext (w' := u3) xe
  have lbt3_ := bt3_.lt
  obtain ⟨qbt3__0, qbt3__1⟩ := blk2 bt3_
  have fbt3__0 := bt3_.frozen 0
  have fbt3__1 := bt3_.frozen 1
  clear bt3_
  have bx3_ := Jx3.out.ext (w' := u3) xe
  have lbx3_ := bx3_.lt
  obtain ⟨qbx3__0, qbx3__1, qbx3__2, qbx3__3⟩ := blk4 bx3_
  have fbx3__0 := bx3_.frozen 0
  have fbx3__1 := bx3_.frozen 1
  have fbx3__2 := bx3_.frozen 2
  have fbx3__3 := bx3_.frozen 3
  clear bx3_
  refine wp_region_L (E := Ext) (w0 := u3) (G := fun τ => match τ with | 45 => some (fun v W => SegmentS W.heap.size W v y2) | 46 => some (fun v W => IsV (.bool true) v) | 54 => some (fun v W => IsV (.bool (signedValid t3 l3 m3 x3 n3)) v) | 60 => some (fun v W => IsV (.bool (signedValid t3 l3 m3 x3 n3)) v) | _ => none) Ext.refl (fun h k => Ext.trans h k) (by kernel_rfl) (by kernel_rfl) xg (Ext.drew (by exact Ext.refl _)) ?_
  repeat' (first
    | ((with_reducible refine wpL_skip ?_ ?_ ?_)
       · rfl
       · rfl
       simp only [Act.put, List.setIfInBounds_toArray, List.set_cons_zero, List.set_cons_succ])
    | ((with_reducible refine wpL_quiet ?_ ?_ ?_ ?_)
       · rfl
       · rfl
       · rfl
       apply Exists.intro
       refine ⟨fun W hW hS => ?_, ?_⟩
       · have hC := (Ext.facts hW).1
         go_simp
         first | done | (with_reducible rfl) | (rw [if_neg (by omega)]; exact ⟨rfl, rfl⟩) | rfl
       first | (with_reducible refine wpL_boolT ?_) | (with_reducible refine wpL_boolF ?_) | (with_reducible refine wpL_bool (fun hB => ?_) (fun hB => ?_)) | skip
       all_goals simp only [Act.put, List.setIfInBounds_toArray, List.set_cons_zero, List.set_cons_succ])
    | ((refine wpL_grow ?_ rfl rfl ?_ ?_)
       · rfl
       · intro W hW hS
         have hC := (Ext.facts hW).1
         unfold growAt
         go_simp
         simp only [growUpon]
         first | (go_at_call 9; (with_reducible refine Calls.mono (spec_FilterSigned _ _ _ _ n1 t1 l1 m1 x1 _ (by exact St1.out.ext xe) (by exact TrustRootS.ext Sl1.out xe) (by exact CertificateS.ext Sm1.out xe) (by exact SignedSegmentS.ext Sx1.out xe) htn) ?_); rintro e w9_ ⟨v9, rfl, o9, e9⟩; exact ⟨_, rfl, e9, by (rw [← HYE.out]; exact SegmentSO_rd o9 (Nat.le_refl _))⟩) | (have hb : SegmentS W.heap.size W _ y2 := hS 45 (by decide); go_at_call 8; (with_reducible refine Calls.mono (laws_sameSegs _ _ y2 _ (by exact SegmentS.ext Sy2.out xe) hb) ?_); rintro e w9_ ⟨rfl, e9⟩; exact ⟨_, rfl, e9, IsV.mk⟩) | (go_at_call 10; (with_reducible refine Calls.mono (impl_SignedSegmentValid _ _ _ _ n3 t3 l3 m3 x3 _ (by exact St3.out.ext xe) (by exact TrustRootS.ext Sl3.out xe) (by exact CertificateS.ext Sm3.out xe) (by exact Sx3.out.ext xe) (by omega)) ?_); rintro e w9_ ⟨rfl, e9⟩; exact ⟨_, rfl, e9, IsV.mk⟩) | (go_at_call 11; (with_reducible refine Calls.mono (spec_SignedSegmentValid _ _ _ _ n3 t3 l3 m3 x3 _ (by exact St3.out.ext xe) (by exact TrustRootS.ext Sl3.out xe) (by exact CertificateS.ext Sm3.out xe) (by exact Sx3.out.ext xe) (by omega)) ?_); rintro e w9_ ⟨rfl, e9⟩; exact ⟨_, rfl, e9, IsV.mk⟩)
       intro v W' hW' hv
       first | ((with_reducible refine intro_at 45 _ ?_); skip) | ((with_reducible refine intro_at 46 _ ?_); cases hv) | ((with_reducible refine intro_at 54 _ ?_); cases hv) | ((with_reducible refine intro_at 60 _ ?_); cases hv) | (obtain ⟨A5, n5, c5, rfl, -⟩ := id hv; clear hv) | (obtain ⟨A5, n5, c5, rfl⟩ := NO.slice hv) | skip
       all_goals simp only [Act.put, List.setIfInBounds_toArray, List.set_cons_zero, List.set_cons_succ]))
  refine wpL_nil (fun w10 e10 hL => ?_)
  clear hL
  clear lbt1_ qbt1__0 fbt1__0 qbt1__1 fbt1__1 lbt3_ qbt3__0 fbt3__0 qbt3__1 fbt3__1 lbx3_ qbx3__0 fbx3__0 qbx3__1 fbx3__1 qbx3__2 fbx3__2 qbx3__3 fbx3__3
  have Jt1 := Lib.hid (Jt1.out.ext (w' := w10) e10)
  have Jt3 := Lib.hid (Jt3.out.ext (w' := w10) e10)
  have Jx3 := Lib.hid (Jx3.out.ext (w' := w10) e10)
  have St1 := Lib.hid (St1.out.ext (w' := w10) e10)
  have St3 := Lib.hid (St3.out.ext (w' := w10) e10)
  have Sx3 := Lib.hid (Sx3.out.ext (w' := w10) e10)
  have Sl3 := Lib.hid (TrustRootS.ext (w' := w10) Sl3.out e10); have Sm3 := Lib.hid (CertificateS.ext (w' := w10) Sm3.out e10); have Sy2 := Lib.hid (SegmentS.ext (w' := w10) Sy2.out e10)
  have eu10 : Ext u0 w10 := Ext.trans eu3 e10
  go_wp2_with fail
  go_loopw [14] (fun i wr => ∃ k : Nat, k ≤ y2.length ∧ i = I k ∧ Ext w10 wr) (fun i _ => y2.length - (intOf i).toNat)
  case atStart => exact ⟨0, by omega, rfl, Ext.refl _⟩
  case round =>
    obtain ⟨k, hk, rfl, he⟩ := hrel
    have zr := he.size
    have eur : Ext u0 wr := Ext.trans eu10 he
    by_cases hlt : k < y2.length
    · have Jt1r := Lib.hid (Jt1.out.ext (w' := wr) he); have St1r := Lib.hid (St1.out.ext (w' := wr) he)
      obtain ⟨b, off, hA, hb, hkl, hc⟩ := (SegmentS.ext Sy2.out he).at_ hlt
      have hul : y2[k].hops.length ≤ totS (fun u : DSegment => u.hops.length) y2 := totS_get (fun u : DSegment => u.hops.length) y2 k hkl
      have HUK := Lib.hid (HU.out y2[k] (List.getElem_mem hkl))
      have i0 : (0 : Int) ≤ (k : Int) := by omega
      have i1 : (k : Int) < (y2.length : Int) := by omega
      generalize y2[k] = u at *
      subst hA
      obtain ⟨Au_2, nu_2, cu_2, hu_0, hu_1, hu_2, su_2⟩ := hc
      obtain ⟨lu_2, ku_2, mu_2⟩ := su_2.len
      subst lu_2
      unfold maxLen at mu_2
      have Ru : Hid (SegmentV wr.heap.size wr (.agg #[I u.ts, I u.beta, .slice Au_2 u.hops.length cu_2]) u) := ⟨_, _, _, rfl, su_2⟩
      have Su_2 := Lib.hid su_2; clear su_2
      have bt1_ := Jt1r.out.ext (w' := wr) xe
      have lbt1_ := bt1_.lt
      obtain ⟨qbt1__0, qbt1__1⟩ := blk2 bt1_
      have fbt1__0 := bt1_.frozen 0
      have fbt1__1 := bt1_.frozen 1
      clear bt1_
      go_wp2_with fail
      refine wp_region_L (E := Ext) (w0 := wr) (G := fun τ => match τ with | 75 => some (fun v W => IsV (.bool true) v) | _ => none) Ext.refl (fun h k => Ext.trans h k) (by kernel_rfl) (by kernel_rfl) xg (Ext.drew (by exact Ext.refl _)) ?_
      repeat' (first
        | ((with_reducible refine wpL_skip ?_ ?_ ?_)
           · rfl
           · rfl
           simp only [Act.put, List.setIfInBounds_toArray, List.set_cons_zero, List.set_cons_succ])
        | ((with_reducible refine wpL_quiet ?_ ?_ ?_ ?_)
           · rfl
           · rfl
           · rfl
           apply Exists.intro
           refine ⟨fun W hW hS => ?_, ?_⟩
           · have hC := (Ext.facts hW).1
             go_simp
             first | done | (with_reducible rfl) | (rw [if_neg (by omega)]; exact ⟨rfl, rfl⟩) | rfl
           first | (with_reducible refine wpL_boolT ?_) | (with_reducible refine wpL_boolF ?_) | (with_reducible refine wpL_bool (fun hB => ?_) (fun hB => ?_)) | skip
           all_goals simp only [Act.put, List.setIfInBounds_toArray, List.set_cons_zero, List.set_cons_succ])
        | ((refine wpL_grow ?_ rfl rfl ?_ ?_)
           · rfl
           · intro W hW hS
             have hC := (Ext.facts hW).1
             unfold growAt
             go_simp
             simp only [growUpon]
             first | (go_at_call 12; (with_reducible refine Calls.mono (impl_SegmentUsable _ _ n1 t1 u _ (by exact St1r.out.ext xe) (by exact Ru.out.ext xe) (by omega)) ?_); rintro e w9_ ⟨rfl, e9⟩; exact ⟨_, rfl, e9, by rw [HUK.out]; exact IsV.mk⟩)
           intro v W' hW' hv
           first | ((with_reducible refine intro_at 75 _ ?_); cases hv) | (obtain ⟨A5, n5, c5, rfl, -⟩ := id hv; clear hv) | (obtain ⟨A5, n5, c5, rfl⟩ := NO.slice hv) | skip
           all_goals simp only [Act.put, List.setIfInBounds_toArray, List.set_cons_zero, List.set_cons_succ]))
      refine wpL_nil (fun w11 e11 hL => ?_)
      clear hL
      go_wp2_with fail
      go_roundw
      case rel => exact ⟨k + 1, by omega, by go_num, Ext.trans he e11⟩
      case measure => first | (simp [intOf]; done) | (simp [intOf]; omega)
    · obtain rfl : k = y2.length := by omega
      have i1 : ¬ (y2.length : Int) < (y2.length : Int) := by omega
      have i2 : (y2.length : Int) ≤ (x1.length : Int) := by omega
      have Jt3r := Lib.hid (Jt3.out.ext (w' := wr) he); have Jx3r := Lib.hid (Jx3.out.ext (w' := wr) he)
      have bt3_ := Jt3r.out.ext (w' := wr) xe
      have lbt3_ := bt3_.lt
      obtain ⟨qbt3__0, qbt3__1⟩ := blk2 bt3_
      have fbt3__0 := bt3_.frozen 0
      have fbt3__1 := bt3_.frozen 1
      clear bt3_
      have bx3_ := Jx3r.out.ext (w' := wr) xe
      have lbx3_ := bx3_.lt
      obtain ⟨qbx3__0, qbx3__1, qbx3__2, qbx3__3⟩ := blk4 bx3_
      have fbx3__0 := bx3_.frozen 0
      have fbx3__1 := bx3_.frozen 1
      have fbx3__2 := bx3_.frozen 2
      have fbx3__3 := bx3_.frozen 3
      clear bx3_
      go_wp2_with fail
      refine (impl_SignedSegmentValid _ _ _ _ n3 t3 l3 m3 x3 wr (by exact St3.out.ext he) (by exact TrustRootS.ext Sl3.out he) (by exact CertificateS.ext Sm3.out he) (by exact Sx3.out.ext he) (by omega)).mono ?_
      rintro e w12 ⟨rfl, e12⟩
      clear lbt3_ qbt3__0 fbt3__0 qbt3__1 fbt3__1 lbx3_ qbx3__0 fbx3__0 qbx3__1 fbx3__1 qbx3__2 fbx3__2 qbx3__3 fbx3__3
      by_cases hv : signedValid t3 l3 m3 x3 n3 = true
      · have HP := Lib.hid (valid_parts hv).2
        rw [hv]
        clear hv
        have Jt3q := Lib.hid (Jt3r.out.ext (w' := w12) e12); have Jx3q := Lib.hid (Jx3r.out.ext (w' := w12) e12)
        have bt3_ := Jt3q.out.ext (w' := w12) xe
        have lbt3_ := bt3_.lt
        obtain ⟨qbt3__0, qbt3__1⟩ := blk2 bt3_
        have fbt3__0 := bt3_.frozen 0
        have fbt3__1 := bt3_.frozen 1
        clear bt3_
        go_wp2_with fail
        refine (impl_ValidRootChain _ _ t3 l3 w12 (by exact St3.out.ext xe) (by exact TrustRootS.ext Sl3.out xe)).mono ?_
        rintro e w13 ⟨rfl, e13⟩
        rw [HP.out.1]
        clear lbt3_ qbt3__0 fbt3__0 qbt3__1 fbt3__1
        have Jt3p := Lib.hid (Jt3q.out.ext (w' := w13) e13); have Jx3p := Lib.hid (Jx3q.out.ext (w' := w13) e13)
        have bt3_ := Jt3p.out.ext (w' := w13) xe
        have lbt3_ := bt3_.lt
        obtain ⟨qbt3__0, qbt3__1⟩ := blk2 bt3_
        have fbt3__0 := bt3_.frozen 0
        have fbt3__1 := bt3_.frozen 1
        clear bt3_
        have bx3_ := Jx3p.out.ext (w' := w13) xe
        have lbx3_ := bx3_.lt
        obtain ⟨qbx3__0, qbx3__1, qbx3__2, qbx3__3⟩ := blk4 bx3_
        have fbx3__0 := bx3_.frozen 0
        have fbx3__1 := bx3_.frozen 1
        have fbx3__2 := bx3_.frozen 2
        have fbx3__3 := bx3_.frozen 3
        clear bx3_
        go_wp2_with fail
        refine (impl_FirstBadSignature _ _ t3 x3 w13 (by exact St3.out.ext xe) (by exact Sx3.out.ext xe) (by omega)).mono ?_
        rintro e w14 ⟨rfl, e14⟩
        rw [HP.out.2]
        go_wp2_with fail
        go_ret
        exact ⟨rfl, xe⟩
      · have hv : signedValid t3 l3 m3 x3 n3 = false := by simpa using hv
        rw [hv]
        go_wp2_with fail
        go_ret
        exact ⟨rfl, xe⟩
end Go.Proofs.YtddaodemdkjijaaGreat
