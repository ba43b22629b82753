/- Contracts of the program's and the reference's functions on what is signed: hopInts, SignedData. -/
import Derived.Test.YtcalbcjheenmgaaL09
import Derived.Test.YtcalbcjheenmgaaHSegment
namespace Go.Proofs.Ytcalbcjheenmgaa
open Go.RowKit
set_option linter.unusedVariables false
def hopInts (h : DHop) : List Int := [h.asn, h.ing, h.egr, h.exp, h.mac]
def signedData (s : DSegment) (i : Int) : List Int := if inR i 0 s.hops.length then [s.ts, s.beta, i] ++ (s.hops.take i.toNat).flatMap hopInts else []
theorem hopInts_len (l : List DHop) : (l.flatMap hopInts).length = l.length * 5 := by
  induction l with
  | nil => rfl
  | cons h l ih => rw [List.flatMap_cons, List.length_append, ih, List.length_cons]; simp [hopInts]; omega
theorem signedData_len (s : DSegment) (i : Int) : (signedData s i).length ≤ 3 + 5 * s.hops.length := by
  unfold signedData
  split
  · have h := hopInts_len (s.hops.take i.toNat)
    have h2 : (s.hops.take i.toNat).length ≤ s.hops.length := by rw [List.length_take]; omega
    rw [List.length_append, h]
    simp
    omega
  · simp
theorem hopInts_snoc (l : List DHop) (k : Nat) (h : k < l.length) : (l.take (k + 1)).flatMap hopInts = (l.take k).flatMap hopInts ++ hopInts l[k] := by
  rw [take_snoc l k h, List.flatMap_append]
  simp
end Go.Proofs.Ytcalbcjheenmgaa
