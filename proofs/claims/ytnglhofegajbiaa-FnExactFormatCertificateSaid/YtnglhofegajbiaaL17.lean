/- Contracts of the program's and the reference's functions on signatures: EqualSignatures, AddSignature. -/
import Derived.Test.YtnglhofegajbiaaL03
import Derived.Test.YtnglhofegajbiaaHSignature
namespace Go.Proofs.Ytnglhofegajbiaa
open Go.RowKit
set_option linter.unusedVariables false
/-- A signature added: in the place of the first one of its AS, or at the end. -/
def addSig : List DSignature → DSignature → List DSignature
  | [], x => [x]
  | y :: ys, x => if y.asn = x.asn then x :: ys else y :: addSig ys x
theorem addSig_drop_yes (xs : List DSignature) (x : DSignature) (k : Nat) (h : k < xs.length) (he : xs[k].asn = x.asn) : addSig (xs.drop k) x = x :: xs.drop (k + 1) := by
  rw [List.drop_eq_getElem_cons h, addSig, if_pos he]
theorem addSig_drop_no (xs : List DSignature) (x : DSignature) (k : Nat) (h : k < xs.length) (he : ¬ xs[k].asn = x.asn) : addSig (xs.drop k) x = xs[k] :: addSig (xs.drop (k + 1)) x := by
  rw [List.drop_eq_getElem_cons h, addSig, if_neg he]
theorem addSig_len (xs : List DSignature) (x : DSignature) : (addSig xs x).length ≤ xs.length + 1 := by
  induction xs with
  | nil => simp [addSig]
  | cons y ys ih => simp only [addSig]; split <;> simp <;> omega
end Go.Proofs.Ytnglhofegajbiaa
