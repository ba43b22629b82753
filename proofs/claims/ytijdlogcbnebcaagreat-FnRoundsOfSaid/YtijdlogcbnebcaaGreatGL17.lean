/- Contracts of the program's and the reference's functions on signatures: EqualSignatures, AddSignature. -/
import Derived.Test.YtijdlogcbnebcaaGreatGL0
import Derived.Test.YtijdlogcbnebcaaGreatGHR
import Derived.Test.YtijdlogcbnebcaaGreatGL5
import Derived.Deep.RegionWith
import Derived.Test.YtijdlogcbnebcaaGreatGL9
import Derived.Test.YtijdlogcbnebcaaGreatGHS
namespace Go.Proofs.YtijdlogcbnebcaaGreat
open Go.RowKit
set_option linter.unusedVariables false
/-- A signature added: in the place of the first one of its AS, or at the end. -/
def addSig : List DSignature → DSignature → List DSignature
  | [], x => [x]
  | y :: ys, x => if y.asn = x.asn then x :: ys else y :: addSig ys x
theorem addSig_drop_yes (xs : List DSignature) (x : DSignature) (k : Nat) (h : k < xs.length) (he : xs[k].asn = x.asn) : addSig (xs.drop k) x = x :: xs.drop (k + 1) := by
  rw [List.drop_eq_getElem_cons h, addSig, if_pos he]
theorem addSig_drop_no (xs : List DSignature) (x : DSignature) (k : Nat) (h : k < xs.length) (he : ¬ xs[k].asn = x.asn) : addSig (xs.drop k) x = xs[k] :: addSig (xs.drop (k + 1)) x := by
  rw [List.drop_eq_getElem_cons h, addSig, if_neg he]
theorem addSig_len (xs : List DSignature) (x : DSignature) : (addSig xs x).length ≤ xs.length + 1 := by
  induction xs with
  | nil => simp [addSig]
  | cons y ys ih => simp only [addSig]; split <;> simp <;> omega
end Go.Proofs.YtijdlogcbnebcaaGreat
namespace Go.Proofs.YtijdlogcbnebcaaGreat
open Go.RowKit
set_option linter.unusedVariables false
def verifySig (t : DTopology) (v : DSignature) (l : List Int) : Bool := isAs t v.asn && v.value == sign (asAt t v.asn).key l
def signAs (t : DTopology) (r : Int) (l : List Int) : DSignature := if isAs t r then ⟨r, sign (asAt t r).key l⟩ else ⟨-1, 0⟩
end Go.Proofs.YtijdlogcbnebcaaGreat
namespace Go.Proofs.YtijdlogcbnebcaaGreat
open Go.RowKit
set_option linter.unusedVariables false
def hopInts (h : DHop) : List Int := [h.asn, h.ing, h.egr, h.exp, h.mac]
def signedData (s : DSegment) (i : Int) : List Int := if inR i 0 s.hops.length then [s.ts, s.beta, i] ++ (s.hops.take i.toNat).flatMap hopInts else []
theorem hopInts_len (l : List DHop) : (l.flatMap hopInts).length = l.length * 5 := by
  induction l with
  | nil => rfl
  | cons h l ih => rw [List.flatMap_cons, List.length_append, ih, List.length_cons]; simp [hopInts]; omega
theorem signedData_len (s : DSegment) (i : Int) : (signedData s i).length ≤ 3 + 5 * s.hops.length := by
  unfold signedData
  split
  · have h := hopInts_len (s.hops.take i.toNat)
    have h2 : (s.hops.take i.toNat).length ≤ s.hops.length := by rw [List.length_take]; omega
    rw [List.length_append, h]
    simp
    omega
  · simp
theorem hopInts_snoc (l : List DHop) (k : Nat) (h : k < l.length) : (l.take (k + 1)).flatMap hopInts = (l.take k).flatMap hopInts ++ hopInts l[k] := by
  rw [take_snoc l k h, List.flatMap_append]
  simp
end Go.Proofs.YtijdlogcbnebcaaGreat
