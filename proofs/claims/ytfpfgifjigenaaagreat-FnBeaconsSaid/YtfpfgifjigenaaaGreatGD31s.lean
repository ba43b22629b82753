/- Contracts of the laws' comparisons, at equal data: sameInts, sameVotes, sameHops, sameSeg, sameRoots, sameSigned. No conditions. -/
import Derived.Test.YtfpfgifjigenaaaGreatGD4
import Derived.Test.YtfpfgifjigenaaaGreatGL9
import Derived.Test.YtfpfgifjigenaaaGreatGL17
import Derived.Test.YtfpfgifjigenaaaGreatGHR
import Derived.Test.YtfpfgifjigenaaaGreatGHB
namespace Go.Proofs.YtfpfgifjigenaaaGreat
open Go.RowKit
set_option linter.unusedVariables false
set_option maxRecDepth 100000 in
set_option maxHeartbeats 1000000 in
theorem laws_sameHops (v1 v2 : Value) (xs : List DHop) (w : World) (h1 : HopS w.heap.size w v1 xs) (h2 : HopS w.heap.size w v2 xs) :
 Calls Tryz.prog 81 #[v1, v2] w fun e w' => e = .returned (.bool true) ∧ Ext w w' := by
 obtain ⟨A1, n1, c1, rfl, hl1, hn1, hm1, -⟩ := id h1;obtain ⟨A2, n2, c2, rfl, hl2, hn2, hm2, -⟩ := id h2;subst hl1;subst hl2;unfold maxLen at hm1 hm2;have H1 := Lib.hid h1; have H2 := Lib.hid h2; clear h1 h2
 go_enter Tryz.func81, Tryz.ntmps81
 go_wp2_with fail
 go_loopw [5] (fun i wr => ∃ k : Nat, k ≤ xs.length ∧ i = I k ∧ Ext w wr) (fun i _ => xs.length - (intOf i).toNat)
 case atStart => exact ⟨0, by omega, rfl, Ext.refl _⟩
 case round =>
  obtain ⟨k, hk, rfl, he⟩ := hrel;have HE := Lib.hid he; clear he;by_cases hlt : k < xs.length
  · obtain ⟨b1, o1, rfl, hb1, hk1, hc1⟩ := (H1.out.ext HE.out).at_ hlt
    obtain ⟨b2, o2, rfl, hb2, hk2, hc2⟩ := (H2.out.ext HE.out).at_ hlt
    have i0 : (0 : Int) ≤ (k : Int) := by omega
    have i1 : (k : Int) < (xs.length : Int) := by omega
    generalize xs[k] = x at *
    obtain ⟨h10,h11,h12,h13,h14⟩ := hc1;obtain ⟨h20,h21,h22,h23,h24⟩ := hc2;have hqn := fun W => neq_Hop x x W;have hgd := guard_Hop;have hdd : decide (x = x) = true := decide_eq_true rfl;go_wp2_with fail
    go_quiet (fail)
    go_wp2_with fail
    go_roundw
    case rel => exact ⟨k + 1, by omega, by go_num, HE.out.drewN _⟩
    case measure => simp [intOf]; omega
  · have i1 : ¬ (k : Int) < (xs.length : Int) := by omega
    go_wp2_with fail
    go_ret
    exact ⟨rfl, HE.out⟩
set_option maxRecDepth 100000 in
set_option maxHeartbeats 1000000 in
theorem laws_sameSeg (v1 v2 : Value) (x : DSegment) (w : World) (h1 : SegmentV w.heap.size w v1 x) (h2 : SegmentV w.heap.size w v2 x) :
 Calls Tryz.prog 38 #[v1, v2] w fun e w' => e = .returned (.bool true) ∧ Ext w w' := by
 obtain ⟨A1, n1, c1, rfl, s1⟩ := h1;obtain ⟨A2, n2, c2, rfl, s2⟩ := h2;have S1 := Lib.hid s1; have S2 := Lib.hid s2; clear s1 s2
 go_enter Tryz.func38, Tryz.ntmps38
 go_wp2_with fail
 refine (laws_sameHops _ _ x.hops _ (by exact S1.out.ext xe) (by exact S2.out.ext xe)).mono ?_;rintro e w7 ⟨rfl, he7⟩;go_wp2_with fail
 go_ret
 exact ⟨rfl, xe⟩
end Go.Proofs.YtfpfgifjigenaaaGreat
namespace Go.Proofs.YtfpfgifjigenaaaGreat
open Go.RowKit
set_option linter.unusedVariables false
inductive IsS (u : Value) : Value → Prop where
 | mk : IsS u u
set_option maxRecDepth 100000 in
set_option maxHeartbeats 1000000 in
theorem laws_sameGots (v1 v2 : Value) (xs : List DBeacon) (w : World) (h1 : BeaconS w.heap.size w v1 xs) (h2 : BeaconS w.heap.size w v2 xs) :
 Calls Tryz.prog 47 #[v1, v2] w fun e w' => e = .returned (.bool true) ∧ Ext w w' := by
 obtain ⟨A1, n1, c1, rfl, hl1, hn1, hm1, -⟩ := id h1;obtain ⟨A2, n2, c2, rfl, hl2, hn2, hm2, -⟩ := id h2;subst hl1;subst hl2;unfold maxLen at hm1 hm2;have H1 := Lib.hid h1; have H2 := Lib.hid h2; clear h1 h2
 go_enter Tryz.func47, Tryz.ntmps47
 go_wp2_with fail
 go_loopw [5] (fun i wr => ∃ k : Nat, k ≤ xs.length ∧ i = I k ∧ Ext w wr) (fun i _ => xs.length - (intOf i).toNat)
 case atStart => exact ⟨0, by omega, rfl, Ext.refl _⟩
 case round =>
  obtain ⟨k, hk, rfl, he⟩ := hrel;by_cases hlt : k < xs.length
  · obtain ⟨b1, o1, hA1, hb1, hk1, hc1⟩ := (H1.out.ext he).at_ hlt
    obtain ⟨b2, o2, hA2, hb2, hk2, hc2⟩ := (H2.out.ext he).at_ hlt
    have i0 : (0 : Int) ≤ (k : Int) := by omega
    have i1 : (k : Int) < (xs.length : Int) := by omega
    generalize xs[k] = x at *
    subst hA1;subst hA2;obtain ⟨A3, n3, c3, g10, g11, g12, g13, s3⟩ := hc1;obtain ⟨A4, n4, c4, g20, g21, g22, g23, s4⟩ := hc2;have S3 := Lib.hid s3; have S4 := Lib.hid s4; clear s3 s4;go_wp2_with fail
    refine wp_region_L (E := Ext) (w0 := wr) (G := fun τ => match τ with | 39 => some (fun v W => IsS (.bool true) v) | _ => none) Ext.refl (fun h k => Ext.trans h k) (by kernel_rfl) (by kernel_rfl) xg (Ext.drew (by exact Ext.refl _)) ?_
    repeat' (first
     | ((with_reducible refine wpL_skip ?_ ?_ ?_)
        · rfl
        · rfl
        simp only [Act.put, List.setIfInBounds_toArray, List.set_cons_zero, List.set_cons_succ])
     | ((with_reducible refine wpL_quiet ?_ ?_ ?_ ?_)
        · rfl
        · rfl
        · rfl
        apply Exists.intro
        refine ⟨fun W hW hS => ?_, ?_⟩
        · have hC := (Ext.facts hW).1
          go_simp
          first | done | (with_reducible rfl) | (rw [if_neg (by omega)]; exact ⟨rfl, rfl⟩) | rfl
        first | (with_reducible refine wpL_boolT ?_) | (with_reducible refine wpL_boolF ?_) | (with_reducible refine wpL_bool (fun hB => ?_) (fun hB => ?_)) | skip
        all_goals simp only [Act.put, List.setIfInBounds_toArray, List.set_cons_zero, List.set_cons_succ])
     | ((refine wpL_grow ?_ rfl rfl ?_ ?_)
        · rfl
        · intro W hW hS
          have hC := (Ext.facts hW).1;unfold growAt
          go_simp
          simp only [growUpon]
          first | (go_at_call 38; (with_reducible refine Calls.mono (laws_sameSeg _ _ x.seg _ (by exact segV (S3.out.ext xe)) (by exact segV (S4.out.ext xe))) ?_); rintro e w9_ ⟨rfl, e9⟩; exact ⟨_, rfl, e9, IsS.mk⟩)
        intro v W' hW' hv
        first | ((with_reducible refine intro_at 39 _ ?_); cases hv) | (obtain ⟨A5, n5, c5, rfl, -⟩ := id hv; clear hv) | (obtain ⟨A5, n5, c5, rfl⟩ := NO.slice hv) | skip
        all_goals simp only [Act.put, List.setIfInBounds_toArray, List.set_cons_zero, List.set_cons_succ]))
    refine wpL_nil (fun w7 e7 hL => ?_);clear hL;go_wp2_with fail
    go_roundw
    case rel => exact ⟨k + 1, by omega, by go_num, xe⟩
    case measure => simp [intOf]; omega
  · have i1 : ¬ (k : Int) < (xs.length : Int) := by omega
    go_wp2_with fail
    go_ret
    exact ⟨rfl, xe⟩
set_option maxRecDepth 100000 in
set_option maxHeartbeats 1000000 in
theorem laws_sameSent (v1 v2 : Value) (xs : List DBeaconMessage) (w : World) (h1 : BeaconMessageS w.heap.size w v1 xs) (h2 : BeaconMessageS w.heap.size w v2 xs) :
 Calls Tryz.prog 11 #[v1, v2] w fun e w' => e = .returned (.bool true) ∧ Ext w w' := by
 obtain ⟨A1, n1, c1, rfl, hl1, hn1, hm1, -⟩ := id h1;obtain ⟨A2, n2, c2, rfl, hl2, hn2, hm2, -⟩ := id h2;subst hl1;subst hl2;unfold maxLen at hm1 hm2;have H1 := Lib.hid h1; have H2 := Lib.hid h2; clear h1 h2
 go_enter Tryz.func11, Tryz.ntmps11
 go_wp2_with fail
 go_loopw [5] (fun i wr => ∃ k : Nat, k ≤ xs.length ∧ i = I k ∧ Ext w wr) (fun i _ => xs.length - (intOf i).toNat)
 case atStart => exact ⟨0, by omega, rfl, Ext.refl _⟩
 case round =>
  obtain ⟨k, hk, rfl, he⟩ := hrel;by_cases hlt : k < xs.length
  · obtain ⟨b1, o1, hA1, hb1, hk1, hc1⟩ := (H1.out.ext he).at_ hlt
    obtain ⟨b2, o2, hA2, hb2, hk2, hc2⟩ := (H2.out.ext he).at_ hlt
    have i0 : (0 : Int) ≤ (k : Int) := by omega
    have i1 : (k : Int) < (xs.length : Int) := by omega
    generalize xs[k] = x at *
    subst hA1;subst hA2;obtain ⟨A3, n3, c3, g10, g11, g12, g13, g14, s3⟩ := hc1;obtain ⟨A4, n4, c4, g20, g21, g22, g23, g24, s4⟩ := hc2;have S3 := Lib.hid s3; have S4 := Lib.hid s4; clear s3 s4;go_wp2_with fail
    refine wp_region_L (E := Ext) (w0 := wr) (G := fun τ => match τ with | 56 => some (fun v W => IsS (.bool true) v) | _ => none) Ext.refl (fun h k => Ext.trans h k) (by kernel_rfl) (by kernel_rfl) xg (Ext.drew (by exact Ext.refl _)) ?_
    repeat' (first
     | ((with_reducible refine wpL_skip ?_ ?_ ?_)
        · rfl
        · rfl
        simp only [Act.put, List.setIfInBounds_toArray, List.set_cons_zero, List.set_cons_succ])
     | ((with_reducible refine wpL_quiet ?_ ?_ ?_ ?_)
        · rfl
        · rfl
        · rfl
        apply Exists.intro
        refine ⟨fun W hW hS => ?_, ?_⟩
        · have hC := (Ext.facts hW).1
          go_simp
          first | done | (with_reducible rfl) | (rw [if_neg (by omega)]; exact ⟨rfl, rfl⟩) | rfl
        first | (with_reducible refine wpL_boolT ?_) | (with_reducible refine wpL_boolF ?_) | (with_reducible refine wpL_bool (fun hB => ?_) (fun hB => ?_)) | skip
        all_goals simp only [Act.put, List.setIfInBounds_toArray, List.set_cons_zero, List.set_cons_succ])
     | ((refine wpL_grow ?_ rfl rfl ?_ ?_)
        · rfl
        · intro W hW hS
          have hC := (Ext.facts hW).1;unfold growAt
          go_simp
          simp only [growUpon]
          first | (go_at_call 38; (with_reducible refine Calls.mono (laws_sameSeg _ _ x.beacon.seg _ (by exact segV (S3.out.ext xe)) (by exact segV (S4.out.ext xe))) ?_); rintro e w9_ ⟨rfl, e9⟩; exact ⟨_, rfl, e9, IsS.mk⟩)
        intro v W' hW' hv
        first | ((with_reducible refine intro_at 56 _ ?_); cases hv) | (obtain ⟨A5, n5, c5, rfl, -⟩ := id hv; clear hv) | (obtain ⟨A5, n5, c5, rfl⟩ := NO.slice hv) | skip
        all_goals simp only [Act.put, List.setIfInBounds_toArray, List.set_cons_zero, List.set_cons_succ]))
    refine wpL_nil (fun w7 e7 hL => ?_);clear hL;go_wp2_with fail
    go_roundw
    case rel => exact ⟨k + 1, by omega, by go_num, xe⟩
    case measure => simp [intOf]; omega
  · have i1 : ¬ (k : Int) < (xs.length : Int) := by omega
    go_wp2_with fail
    go_ret
    exact ⟨rfl, xe⟩
set_option maxRecDepth 100000 in
set_option maxHeartbeats 1000000 in
theorem laws_sameBeacons (v1 v2 : Value) (x : DBeaconing) (w : World) (h1 : BeaconingV w.heap.size w v1 x) (h2 : BeaconingV w.heap.size w v2 x) :
 Calls Tryz.prog 14 #[v1, v2] w fun e w' => e = .returned (.bool true) ∧ Ext w w' := by
 obtain ⟨A1, n1, c1, rfl, s1⟩ := h1;obtain ⟨A2, n2, c2, rfl, s2⟩ := h2;obtain ⟨hl1, hn1, hm1⟩ := s1.len;obtain ⟨hl2, hn2, hm2⟩ := s2.len;subst hl1;subst hl2;unfold maxLen at hm1 hm2;have S1 := Lib.hid s1; have S2 := Lib.hid s2; clear s1 s2
 go_enter Tryz.func14, Tryz.ntmps14
 go_wp2_with fail
 refine name_wp (fun W => Ext w W ∧ W.heap.size = w.heap.size + 1 + 1 ∧ Blk W w.heap.size 39 [I x.ts, .slice A1 x.stores.length c1] ∧ Blk W (w.heap.size + 1) 39 [I x.ts, .slice A2 x.stores.length c2]) ⟨xe, by simp only [World.size_alloc], xb, xb⟩ ?_;rintro w3 ⟨e3, z3, b1, b2⟩;have K1 := Lib.hid b1; have K2 := Lib.hid b2; clear b1 b2;have b1_ := K1.out.ext (w' := w3) xe;have lb1_ := b1_.lt;obtain ⟨qb1__0, qb1__1⟩ := blk2 b1_;have fb1__0 := b1_.frozen 0;have fb1__1 := b1_.frozen 1;clear b1_;have b2_ := K2.out.ext (w' := w3) xe;have lb2_ := b2_.lt;obtain ⟨qb2__0, qb2__1⟩ := blk2 b2_;have fb2__0 := b2_.frozen 0;have fb2__1 := b2_.frozen 1;clear b2_;go_wp2_with fail
 clear lb1_ qb1__0 qb1__1 fb1__0 fb1__1 lb2_ qb2__0 qb2__1 fb2__0 fb2__1
 go_loopw [5] (fun i wr => ∃ k : Nat, k ≤ x.stores.length ∧ i = I k ∧ Ext w3 wr) (fun i _ => x.stores.length - (intOf i).toNat)
 case atStart => exact ⟨0, by omega, rfl, Ext.refl _⟩
 case round =>
  obtain ⟨k, hk, rfl, he⟩ := hrel;have K1r := Lib.hid (K1.out.ext he); have K2r := Lib.hid (K2.out.ext he);have b1_ := K1r.out.ext (w' := wr) xe;have lb1_ := b1_.lt;obtain ⟨qb1__0, qb1__1⟩ := blk2 b1_;have fb1__0 := b1_.frozen 0;have fb1__1 := b1_.frozen 1;clear b1_;have b2_ := K2r.out.ext (w' := wr) xe;have lb2_ := b2_.lt;obtain ⟨qb2__0, qb2__1⟩ := blk2 b2_;have fb2__0 := b2_.frozen 0;have fb2__1 := b2_.frozen 1;clear b2_;by_cases hlt : k < x.stores.length
  · obtain ⟨p1, o1, hA1, hb1, hk1, hc1⟩ := (S1.out.ext (w' := wr) xe).at_ hlt
    obtain ⟨p2, o2, hA2, hb2, hk2, hc2⟩ := (S2.out.ext (w' := wr) xe).at_ hlt
    have i0 : (0 : Int) ≤ (k : Int) := by omega
    have i1 : (k : Int) < (x.stores.length : Int) := by omega
    generalize x.stores[k] = y at *
    subst hA1;subst hA2;obtain ⟨A3, n3, c3, g10, s3⟩ := hc1;obtain ⟨A4, n4, c4, g20, s4⟩ := hc2;have S3 := Lib.hid s3; have S4 := Lib.hid s4; clear s3 s4;go_wp2_with fail
    refine wp_region_L (E := Ext) (w0 := wr) (G := fun τ => match τ with | 39 => some (fun v W => IsS (.bool true) v) | _ => none) Ext.refl (fun h k => Ext.trans h k) (by kernel_rfl) (by kernel_rfl) xg (Ext.drew (by exact Ext.refl _)) ?_
    repeat' (first
     | ((with_reducible refine wpL_skip ?_ ?_ ?_)
        · rfl
        · rfl
        simp only [Act.put, List.setIfInBounds_toArray, List.set_cons_zero, List.set_cons_succ])
     | ((with_reducible refine wpL_quiet ?_ ?_ ?_ ?_)
        · rfl
        · rfl
        · rfl
        apply Exists.intro
        refine ⟨fun W hW hS => ?_, ?_⟩
        · have hC := (Ext.facts hW).1
          go_simp
          first | done | (with_reducible rfl) | (rw [if_neg (by omega)]; exact ⟨rfl, rfl⟩) | rfl
        first | (with_reducible refine wpL_boolT ?_) | (with_reducible refine wpL_boolF ?_) | (with_reducible refine wpL_bool (fun hB => ?_) (fun hB => ?_)) | skip
        all_goals simp only [Act.put, List.setIfInBounds_toArray, List.set_cons_zero, List.set_cons_succ])
     | ((refine wpL_grow ?_ rfl rfl ?_ ?_)
        · rfl
        · intro W hW hS
          have hC := (Ext.facts hW).1;unfold growAt
          go_simp
          simp only [growUpon]
          first | (go_at_call 47; (with_reducible refine Calls.mono (laws_sameGots _ _ y.beacons _ (by exact BeaconS.ext S3.out xe) (by exact BeaconS.ext S4.out xe)) ?_); rintro e w9_ ⟨rfl, e9⟩; exact ⟨_, rfl, e9, IsS.mk⟩)
        intro v W' hW' hv
        first | ((with_reducible refine intro_at 39 _ ?_); cases hv) | (obtain ⟨A5, n5, c5, rfl, -⟩ := id hv; clear hv) | (obtain ⟨A5, n5, c5, rfl⟩ := NO.slice hv) | skip
        all_goals simp only [Act.put, List.setIfInBounds_toArray, List.set_cons_zero, List.set_cons_succ]))
    refine wpL_nil (fun w7 e7 hL => ?_);clear hL;go_wp2_with fail
    go_roundw
    case rel => exact ⟨k + 1, by omega, by go_num, xe⟩
    case measure => simp [intOf]; omega
  · have i1 : ¬ (k : Int) < (x.stores.length : Int) := by omega
    go_wp2_with fail
    go_ret
    exact ⟨rfl, xe⟩
end Go.Proofs.YtfpfgifjigenaaaGreat
