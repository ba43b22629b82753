/- Contracts of the program's and the reference's functions on signed segments: SignedDataSize. -/
import Derived.Test.YtcalbcjheenmgaaL17c
import Derived.Test.YtcalbcjheenmgaaHSignedSegment
namespace Go.Proofs.Ytcalbcjheenmgaa
open Go.RowKit
set_option linter.unusedVariables false
def sizeTo (s : DSegment) (k : Nat) : Nat := ((List.range k).map fun i : Nat => (signedData s ((i : Int) + 1)).length).sum
def signedSize (x : DSignedSegment) : Int := (sizeTo x.seg x.seg.hops.length : Nat)
theorem sizeTo_succ (s : DSegment) (k : Nat) : sizeTo s (k + 1) = sizeTo s k + (signedData s ((k : Int) + 1)).length := by
  unfold sizeTo
  rw [List.range_succ, List.map_append, List.sum_append]
  simp
theorem sizeTo_le (s : DSegment) (k : Nat) : sizeTo s k ≤ k * (3 + 5 * s.hops.length) := by
  induction k with
  | zero => simp [sizeTo]
  | succ k ih =>
    have h := signedData_len s ((k : Int) + 1)
    rw [sizeTo_succ, Nat.succ_mul]
    omega
theorem sizeTo_small (s : DSegment) (k : Nat) (hk : k ≤ s.hops.length) (hn : s.hops.length ≤ 1048576) : sizeTo s k ≤ 8796093022208 := by
  have h := sizeTo_le s k
  have h2 : k * (3 + 5 * s.hops.length) ≤ 1048576 * (3 + 5 * 1048576) := Nat.mul_le_mul (by omega) (by omega)
  omega
end Go.Proofs.Ytcalbcjheenmgaa
