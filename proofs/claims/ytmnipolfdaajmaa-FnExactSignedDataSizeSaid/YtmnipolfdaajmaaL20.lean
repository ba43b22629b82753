/- Contracts of the program's and the reference's functions on signed segments: SignedDataSize. -/
import Derived.Test.YtmnipolfdaajmaaL17c
import Derived.Test.YtmnipolfdaajmaaHSignedSegment
namespace Go.Proofs.Ytmnipolfdaajmaa
open Go.RowKit
set_option linter.unusedVariables false
def sizeTo (s : DSegment) (k : Nat) : Nat := ((List.range k).map fun i : Nat => (signedData s ((i : Int) + 1)).length).sum
def signedSize (x : DSignedSegment) : Int := (sizeTo x.seg x.seg.hops.length : Nat)
theorem sizeTo_succ (s : DSegment) (k : Nat) : sizeTo s (k + 1) = sizeTo s k + (signedData s ((k : Int) + 1)).length := by
  unfold sizeTo
  rw [List.range_succ, List.map_append, List.sum_append]
  simp
theorem sizeTo_le (s : DSegment) (k : Nat) : sizeTo s k ≤ k * (3 + 5 * s.hops.length) := by
  induction k with
  | zero => simp [sizeTo]
  | succ k ih =>
    have h := signedData_len s ((k : Int) + 1)
    rw [sizeTo_succ, Nat.succ_mul]
    omega
theorem sizeTo_small (s : DSegment) (k : Nat) (hk : k ≤ s.hops.length) (hn : s.hops.length ≤ 1048576) : sizeTo s k ≤ 8796093022208 := by
  have h := sizeTo_le s k
  have h2 : k * (3 + 5 * s.hops.length) ≤ 1048576 * (3 + 5 * 1048576) := Nat.mul_le_mul (by omega) (by omega)
  omega
set_option maxRecDepth 100000 in
set_option maxHeartbeats 1000000 in
theorem impl_SignedDataSize (v : Value) (x : DSignedSegment) (w : World) (h : SignedSegmentV w.heap.size w v x) (hn : x.seg.hops.length ≤ 1048576) :
    Calls Try.prog 32 #[v] w fun e w' => e = .returned (I (signedSize x)) ∧ Ext w w' := by
  obtain ⟨A, n, c, A3, n3, c3, rfl, s, s3⟩ := h
  obtain ⟨hl, _, hm⟩ := s.len
  subst hl
  unfold maxLen at hm
  have S := Lib.hid s; clear s s3
  go_enter Try.func32, Try.ntmps32
  go_wp2_with fail
  have bx : Blk (w.alloc (.cells #[I x.seg.ts, I x.seg.beta, .slice A x.seg.hops.length c, .slice A3 n3 c3] 53)) w.heap.size 53 [I x.seg.ts, I x.seg.beta, .slice A x.seg.hops.length c, .slice A3 n3 c3] := Blk.new w _ _
  have ew : Ext w (w.alloc (.cells #[I x.seg.ts, I x.seg.beta, .slice A x.seg.hops.length c, .slice A3 n3 c3] 53)) := (Ext.refl _).alloc _
  generalize w.alloc (.cells #[I x.seg.ts, I x.seg.beta, .slice A x.seg.hops.length c, .slice A3 n3 c3] 53) = w0 at *
  have BX := Lib.hid bx; have EW := Lib.hid ew; clear bx ew
  go_loopw [3, 9] (fun z i wr => ∃ (k q : Nat), k ≤ x.seg.hops.length ∧ i = I k ∧ z = I q ∧ q = sizeTo x.seg k ∧ q ≤ 8796093022208 ∧ Ext w0 wr) (fun _ i _ => x.seg.hops.length - (intOf i).toNat)
  case atStart => exact ⟨0, 0, by omega, rfl, rfl, by simp [sizeTo], by omega, Ext.refl _⟩
  case round =>
    obtain ⟨k, q, hk, rfl, rfl, hq, hq1, he⟩ := hrel
    have HQ := Lib.hid hq; clear hq
    have HE := Lib.hid he; clear he
    have bc := BX.out.ext HE.out
    obtain ⟨p0, p1, p2, p3⟩ := blk4 bc
    clear bc
    by_cases hlt : k < x.seg.hops.length
    · have hs2 := sizeTo_small x.seg (k + 1) (by omega) hn
      rw [sizeTo_succ, ← HQ.out] at hs2
      have HS := Lib.hid (sizeTo_succ x.seg k)
      go_wp2_with fail
      refine (impl_SignedData _ _ x.seg _ (by exact ⟨_, _, _, rfl, S.out.ext (EW.out.trans HE.out)⟩) (by omega)).mono ?_
      rintro e w1 ⟨v1, rfl, o1, e1⟩
      obtain ⟨A1, n1, c1, rfl, hl1, _⟩ := IntSO_rd o1
      have HL1 := Lib.hid hl1
      rw [hl1] at hs2
      clear o1 hl1
      go_wp2_with fail
      go_roundw
      case rel => exact ⟨k + 1, q + n1, by omega, by go_num, by go_num, by rw [HS.out, HQ.out, HL1.out], hs2, HE.out.trans e1⟩
      case measure => simp [intOf]; omega
    · obtain rfl : k = x.seg.hops.length := by omega
      go_wp2_with fail
      go_ret
      exact ⟨ret_int (by rw [HQ.out]; rfl), EW.out.trans HE.out⟩
set_option maxRecDepth 100000 in
set_option maxHeartbeats 1000000 in
theorem spec_SignedDataSize (v : Value) (x : DSignedSegment) (w : World) (h : SignedSegmentV w.heap.size w v x) (hn : x.seg.hops.length ≤ 1048576) :
    Calls Try.prog 30 #[v] w fun e w' => e = .returned (I (signedSize x)) ∧ Ext w w' := by
  obtain ⟨A, n, c, A3, n3, c3, rfl, s, s3⟩ := h
  obtain ⟨hl, _, hm⟩ := s.len
  subst hl
  unfold maxLen at hm
  have S := Lib.hid s; clear s s3
  go_enter Try.func30, Try.ntmps30
  go_wp2_with fail
  have bx : Blk (w.alloc (.cells #[I x.seg.ts, I x.seg.beta, .slice A x.seg.hops.length c, .slice A3 n3 c3] 53)) w.heap.size 53 [I x.seg.ts, I x.seg.beta, .slice A x.seg.hops.length c, .slice A3 n3 c3] := Blk.new w _ _
  have ew : Ext w (w.alloc (.cells #[I x.seg.ts, I x.seg.beta, .slice A x.seg.hops.length c, .slice A3 n3 c3] 53)) := (Ext.refl _).alloc _
  generalize w.alloc (.cells #[I x.seg.ts, I x.seg.beta, .slice A x.seg.hops.length c, .slice A3 n3 c3] 53) = w0 at *
  have BX := Lib.hid bx; have EW := Lib.hid ew; clear bx ew
  go_loopw [3, 4] (fun z i wr => ∃ (k q : Nat), k ≤ x.seg.hops.length ∧ i = I k ∧ z = I q ∧ q = sizeTo x.seg k ∧ q ≤ 8796093022208 ∧ Ext w0 wr) (fun _ i _ => x.seg.hops.length - (intOf i).toNat)
  case atStart => exact ⟨0, 0, by omega, rfl, rfl, by simp [sizeTo], by omega, Ext.refl _⟩
  case round =>
    obtain ⟨k, q, hk, rfl, rfl, hq, hq1, he⟩ := hrel
    have HQ := Lib.hid hq; clear hq
    have HE := Lib.hid he; clear he
    have bc := BX.out.ext HE.out
    obtain ⟨p0, p1, p2, p3⟩ := blk4 bc
    clear bc
    by_cases hlt : k < x.seg.hops.length
    · have hs2 := sizeTo_small x.seg (k + 1) (by omega) hn
      rw [sizeTo_succ, ← HQ.out] at hs2
      have HS := Lib.hid (sizeTo_succ x.seg k)
      go_wp2_with fail
      refine (spec_SignedData _ _ x.seg _ (by exact ⟨_, _, _, rfl, S.out.ext (EW.out.trans HE.out)⟩) (by omega)).mono ?_
      rintro e w1 ⟨v1, rfl, o1, e1⟩
      obtain ⟨A1, n1, c1, rfl, hl1, _⟩ := IntSO_rd o1
      have HL1 := Lib.hid hl1
      rw [hl1] at hs2
      clear o1 hl1
      go_wp2_with fail
      go_roundw
      case rel => exact ⟨k + 1, q + n1, by omega, by go_num, by go_num, by rw [HS.out, HQ.out, HL1.out], hs2, HE.out.trans e1⟩
      case measure => simp [intOf]; omega
    · obtain rfl : k = x.seg.hops.length := by omega
      go_wp2_with fail
      go_ret
      exact ⟨ret_int (by rw [HQ.out]; rfl), EW.out.trans HE.out⟩
end Go.Proofs.Ytmnipolfdaajmaa
