/- Contracts of the laws' comparisons, at equal data: sameInts, sameVotes, sameHops, sameSeg, sameRoots, sameSigned. No conditions. -/
import Derived.Test.YtmlfnfflpacchaaD0
import Derived.Test.YtmlfnfflpacchaaGL9
import Derived.Test.YtmlfnfflpacchaaGL17
import Derived.Test.YtmlfnfflpacchaaGHR
namespace Go.Proofs.Ytmlfnfflpacchaa
open Go.RowKit
set_option linter.unusedVariables false
set_option maxRecDepth 100000 in
set_option maxHeartbeats 1000000 in
theorem laws_sameInts (v1 v2 : Value) (xs : List Int) (w : World) (h1 : IntS w.heap.size w v1 xs) (h2 : IntS w.heap.size w v2 xs) :
    Calls Try.prog 33 #[v1, v2] w fun e w' => e = .returned (.bool true) ∧ Ext w w' := by
  obtain ⟨A1, n1, c1, rfl, hl1, hn1, hm1, -⟩ := id h1
  obtain ⟨A2, n2, c2, rfl, hl2, hn2, hm2, -⟩ := id h2
  subst hl1
  subst hl2
  unfold maxLen at hm1 hm2
  have H1 := Lib.hid h1; have H2 := Lib.hid h2; clear h1 h2
  go_enter Try.func33, Try.ntmps33
  go_wp2_with fail
  go_loopw [5] (fun i wr => ∃ k : Nat, k ≤ xs.length ∧ i = I k ∧ Ext w wr) (fun i _ => xs.length - (intOf i).toNat)
  case atStart => exact ⟨0, by omega, rfl, Ext.refl _⟩
  case round =>
    obtain ⟨k, hk, rfl, he⟩ := hrel
    have HE := Lib.hid he; clear he
    by_cases hlt : k < xs.length
    · obtain ⟨b1, o1, rfl, hb1, hk1, hc1⟩ := (H1.out.ext HE.out).at_ hlt
      obtain ⟨b2, o2, rfl, hb2, hk2, hc2⟩ := (H2.out.ext HE.out).at_ hlt
      have hc1 : wr.cell? ⟨b1, o1 + k, none⟩ = some (I xs[k]) := hc1
      have hc2 : wr.cell? ⟨b2, o2 + k, none⟩ = some (I xs[k]) := hc2
      have i0 : (0 : Int) ≤ (k : Int) := by omega
      have i1 : (k : Int) < (xs.length : Int) := by omega
      generalize xs[k] = x at *
      go_wp2_with fail
      go_quiet (fail)
      go_wp2_with fail
      go_roundw
      case rel => exact ⟨k + 1, by omega, by go_num, HE.out.drewN _⟩
      case measure => simp [intOf]; omega
    · have i1 : ¬ (k : Int) < (xs.length : Int) := by omega
      go_wp2_with fail
      go_ret
      exact ⟨rfl, HE.out⟩
set_option maxRecDepth 100000 in
set_option maxHeartbeats 1000000 in
theorem laws_sameVotes (v1 v2 : Value) (xs : List DSignature) (w : World) (h1 : SignatureS w.heap.size w v1 xs) (h2 : SignatureS w.heap.size w v2 xs) :
    Calls Try.prog 29 #[v1, v2] w fun e w' => e = .returned (.bool true) ∧ Ext w w' := by
  obtain ⟨A1, n1, c1, rfl, hl1, hn1, hm1, -⟩ := id h1
  obtain ⟨A2, n2, c2, rfl, hl2, hn2, hm2, -⟩ := id h2
  subst hl1
  subst hl2
  unfold maxLen at hm1 hm2
  have H1 := Lib.hid h1; have H2 := Lib.hid h2; clear h1 h2
  go_enter Try.func29, Try.ntmps29
  go_wp2_with fail
  go_loopw [5] (fun i wr => ∃ k : Nat, k ≤ xs.length ∧ i = I k ∧ Ext w wr) (fun i _ => xs.length - (intOf i).toNat)
  case atStart => exact ⟨0, by omega, rfl, Ext.refl _⟩
  case round =>
    obtain ⟨k, hk, rfl, he⟩ := hrel
    have HE := Lib.hid he; clear he
    by_cases hlt : k < xs.length
    · obtain ⟨b1, o1, rfl, hb1, hk1, hc1⟩ := (H1.out.ext HE.out).at_ hlt
      obtain ⟨b2, o2, rfl, hb2, hk2, hc2⟩ := (H2.out.ext HE.out).at_ hlt
      have i0 : (0 : Int) ≤ (k : Int) := by omega
      have i1 : (k : Int) < (xs.length : Int) := by omega
      generalize xs[k] = x at *
      obtain ⟨h10,h11⟩ := hc1
      obtain ⟨h20,h21⟩ := hc2
      have hqn := fun W => neq_Signature x x W
      have hgd := guard_Signature
      have hdd : decide (x = x) = true := decide_eq_true rfl
      go_wp2_with fail
      go_quiet (fail)
      go_wp2_with fail
      go_roundw
      case rel => exact ⟨k + 1, by omega, by go_num, HE.out.drewN _⟩
      case measure => simp [intOf]; omega
    · have i1 : ¬ (k : Int) < (xs.length : Int) := by omega
      go_wp2_with fail
      go_ret
      exact ⟨rfl, HE.out⟩
set_option maxRecDepth 100000 in
set_option maxHeartbeats 1000000 in
theorem laws_sameHops (v1 v2 : Value) (xs : List DHop) (w : World) (h1 : HopS w.heap.size w v1 xs) (h2 : HopS w.heap.size w v2 xs) :
    Calls Try.prog 148 #[v1, v2] w fun e w' => e = .returned (.bool true) ∧ Ext w w' := by
  obtain ⟨A1, n1, c1, rfl, hl1, hn1, hm1, -⟩ := id h1
  obtain ⟨A2, n2, c2, rfl, hl2, hn2, hm2, -⟩ := id h2
  subst hl1
  subst hl2
  unfold maxLen at hm1 hm2
  have H1 := Lib.hid h1; have H2 := Lib.hid h2; clear h1 h2
  go_enter Try.func148, Try.ntmps148
  go_wp2_with fail
  go_loopw [5] (fun i wr => ∃ k : Nat, k ≤ xs.length ∧ i = I k ∧ Ext w wr) (fun i _ => xs.length - (intOf i).toNat)
  case atStart => exact ⟨0, by omega, rfl, Ext.refl _⟩
  case round =>
    obtain ⟨k, hk, rfl, he⟩ := hrel
    have HE := Lib.hid he; clear he
    by_cases hlt : k < xs.length
    · obtain ⟨b1, o1, rfl, hb1, hk1, hc1⟩ := (H1.out.ext HE.out).at_ hlt
      obtain ⟨b2, o2, rfl, hb2, hk2, hc2⟩ := (H2.out.ext HE.out).at_ hlt
      have i0 : (0 : Int) ≤ (k : Int) := by omega
      have i1 : (k : Int) < (xs.length : Int) := by omega
      generalize xs[k] = x at *
      obtain ⟨h10,h11,h12,h13,h14⟩ := hc1
      obtain ⟨h20,h21,h22,h23,h24⟩ := hc2
      have hqn := fun W => neq_Hop x x W
      have hgd := guard_Hop
      have hdd : decide (x = x) = true := decide_eq_true rfl
      go_wp2_with fail
      go_quiet (fail)
      go_wp2_with fail
      go_roundw
      case rel => exact ⟨k + 1, by omega, by go_num, HE.out.drewN _⟩
      case measure => simp [intOf]; omega
    · have i1 : ¬ (k : Int) < (xs.length : Int) := by omega
      go_wp2_with fail
      go_ret
      exact ⟨rfl, HE.out⟩
set_option maxRecDepth 100000 in
set_option maxHeartbeats 1000000 in
theorem laws_sameSeg (v1 v2 : Value) (x : DSegment) (w : World) (h1 : SegmentV w.heap.size w v1 x) (h2 : SegmentV w.heap.size w v2 x) :
    Calls Try.prog 128 #[v1, v2] w fun e w' => e = .returned (.bool true) ∧ Ext w w' := by
  obtain ⟨A1, n1, c1, rfl, s1⟩ := h1
  obtain ⟨A2, n2, c2, rfl, s2⟩ := h2
  have S1 := Lib.hid s1; have S2 := Lib.hid s2; clear s1 s2
  go_enter Try.func128, Try.ntmps128
  go_wp2_with fail
  refine (laws_sameHops _ _ x.hops _ (by exact S1.out.ext xe) (by exact S2.out.ext xe)).mono ?_
  rintro e w7 ⟨rfl, he7⟩
  go_wp2_with fail
  go_ret
  exact ⟨rfl, xe⟩
set_option maxRecDepth 100000 in
set_option maxHeartbeats 1000000 in
theorem laws_sameSigned (v1 v2 : Value) (x : DSignedSegment) (w : World) (h1 : SignedSegmentV w.heap.size w v1 x) (h2 : SignedSegmentV w.heap.size w v2 x) :
    Calls Try.prog 82 #[v1, v2] w fun e w' => e = .returned (.bool true) ∧ Ext w w' := by
  obtain ⟨A1, n1, c1, B1, m1, d1, rfl, s1, t1⟩ := h1
  obtain ⟨A2, n2, c2, B2, m2, d2, rfl, s2, t2⟩ := h2
  have S1 := Lib.hid s1; have S2 := Lib.hid s2; have T1 := Lib.hid t1; have T2 := Lib.hid t2; clear s1 s2 t1 t2
  go_enter Try.func82, Try.ntmps82
  go_wp2_with fail
  refine name_calls (fun W => Ext w W ∧ W.heap.size = w.heap.size + 1 + 1 ∧ Blk W w.heap.size 106 [I x.seg.ts, I x.seg.beta, .slice A1 n1 c1, .slice B1 m1 d1] ∧ Blk W (w.heap.size + 1) 106 [I x.seg.ts, I x.seg.beta, .slice A2 n2 c2, .slice B2 m2 d2]) ⟨xe, by simp only [World.size_alloc], xb, xb⟩ ?_
  rintro w3 ⟨e3, z3, b1, b2⟩
  have K1 := Lib.hid b1; have K2 := Lib.hid b2; clear b1 b2
  refine (laws_sameSeg _ _ x.seg _ (by exact ⟨_, _, _, rfl, S1.out.ext xe⟩) (by exact ⟨_, _, _, rfl, S2.out.ext xe⟩)).mono ?_
  rintro e w7 ⟨rfl, he7⟩
  have b1_ := K1.out.ext (w' := w7) xe
  have lb1_ := b1_.lt
  obtain ⟨qb1__0, qb1__1, qb1__2, qb1__3⟩ := blk4 b1_
  have fb1__0 := b1_.frozen 0
  have fb1__1 := b1_.frozen 1
  have fb1__2 := b1_.frozen 2
  have fb1__3 := b1_.frozen 3
  clear b1_
  have b2_ := K2.out.ext (w' := w7) xe
  have lb2_ := b2_.lt
  obtain ⟨qb2__0, qb2__1, qb2__2, qb2__3⟩ := blk4 b2_
  have fb2__0 := b2_.frozen 0
  have fb2__1 := b2_.frozen 1
  have fb2__2 := b2_.frozen 2
  have fb2__3 := b2_.frozen 3
  clear b2_
  go_wp2_with fail
  refine (laws_sameInts _ _ x.sigs _ (by exact T1.out.ext xe) (by exact T2.out.ext xe)).mono ?_
  rintro e w8 ⟨rfl, he8⟩
  go_wp2_with fail
  go_ret
  exact ⟨rfl, xe⟩
set_option maxRecDepth 100000 in
set_option maxHeartbeats 1000000 in
theorem laws_sameRoots (v1 v2 : Value) (xs : List DTrustRoot) (w : World) (h1 : TrustRootS w.heap.size w v1 xs) (h2 : TrustRootS w.heap.size w v2 xs) :
    Calls Try.prog 50 #[v1, v2] w fun e w' => e = .returned (.bool true) ∧ Ext w w' := by
  obtain ⟨A1, n1, c1, rfl, hl1, hn1, hm1, -⟩ := id h1
  obtain ⟨A2, n2, c2, rfl, hl2, hn2, hm2, -⟩ := id h2
  subst hl1
  subst hl2
  unfold maxLen at hm1 hm2
  have H1 := Lib.hid h1; have H2 := Lib.hid h2; clear h1 h2
  go_enter Try.func50, Try.ntmps50
  go_wp2_with fail
  go_loopw [5] (fun i wr => ∃ k : Nat, k ≤ xs.length ∧ i = I k ∧ Ext w wr) (fun i _ => xs.length - (intOf i).toNat)
  case atStart => exact ⟨0, by omega, rfl, Ext.refl _⟩
  case round =>
    obtain ⟨k, hk, rfl, he⟩ := hrel
    by_cases hlt : k < xs.length
    · obtain ⟨b1, o1, hA1, hb1, hk1, hc1⟩ := (H1.out.ext he).at_ hlt
      obtain ⟨b2, o2, hA2, hb2, hk2, hc2⟩ := (H2.out.ext he).at_ hlt
      have i0 : (0 : Int) ≤ (k : Int) := by omega
      have i1 : (k : Int) < (xs.length : Int) := by omega
      generalize xs[k] = x at *
      subst hA1
      subst hA2
      obtain ⟨A3, n3, c3, g10, g11, g12, g13, g14, g15, g16, s3⟩ := hc1
      obtain ⟨A4, n4, c4, g20, g21, g22, g23, g24, g25, g26, s4⟩ := hc2
      have S3 := Lib.hid s3; have S4 := Lib.hid s4; clear s3 s4
      go_wp2_with fail
      refine (laws_sameVotes _ _ x.sigs _ (by exact S3.out.ext xe) (by exact S4.out.ext xe)).mono ?_
      rintro e w7 ⟨rfl, he7⟩
      go_wp2_with fail
      go_roundw
      case rel => exact ⟨k + 1, by omega, by go_num, xe⟩
      case measure => simp [intOf]; omega
    · have i1 : ¬ (k : Int) < (xs.length : Int) := by omega
      go_wp2_with fail
      go_ret
      exact ⟨rfl, xe⟩
end Go.Proofs.Ytmlfnfflpacchaa
