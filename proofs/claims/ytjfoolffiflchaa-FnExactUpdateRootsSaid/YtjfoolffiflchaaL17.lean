/- Contracts of the program's and the reference's functions on signatures: EqualSignatures, AddSignature. -/
import Derived.Test.YtjfoolffiflchaaL03
import Derived.Test.YtjfoolffiflchaaHSignature
namespace Go.Proofs.Ytjfoolffiflchaa
open Go.RowKit
set_option linter.unusedVariables false
set_option maxRecDepth 100000 in
set_option maxHeartbeats 1000000 in
theorem impl_copySignatures (v : Value) (xs : List DSignature) (w : World) (h : SignatureS w.heap.size w v xs) (hl : xs.length ≤ 100000000) :
    Calls Try.prog 96 #[v] w fun e w' => ∃ v', e = .returned v' ∧ SignatureSO w.heap.size w'.heap.size w' v' xs ∧ Ext w w' := by
  obtain ⟨A, n, c, rfl, hl1, hn, hm, -⟩ := id h
  subst hl1
  have H := Lib.hid h; clear h
  go_enter Try.func96, Try.ntmps96
  go_wp2_with (at_builtin; refine hold ?_)
  refine unhold (wpList_app w rfl (.tmp 3) (.tmp 4) _ rfl 68 _ 2 16 Try.underlying37 info_Signature rfl (by omega) _ 0 [] rfl A xs.length c (xs.flatMap SignatureC) rfl
    (own_zero w _ 2 _ (Nat.le_refl _)) (by exact row_Signature (H.out.ext (by repeat (first | (with_reducible exact Ext.refl _) | (with_reducible assumption) | (with_reducible refine Ext.alloc ?_ _) | (with_reducible refine Ext.drew ?_) | (with_reducible refine Ext.drewN ?_ _) | (with_reducible refine Ext.setCell (p := _) ?_ ?ge _; case ge => (dsimp only; omega)) | (with_reducible refine Ext.trans ?_ (by with_reducible assumption)))))) (one_Signature xs) (by repeat (first | (with_reducible exact Ext.refl _) | (with_reducible assumption) | (with_reducible refine Ext.alloc ?_ _) | (with_reducible refine Ext.drew ?_) | (with_reducible refine Ext.drewN ?_ _) | (with_reducible refine Ext.setCell (p := _) ?_ ?ge _; case ge => (dsimp only; omega)) | (with_reducible refine Ext.trans ?_ (by with_reducible assumption)))) (by unfold maxLen; omega) (by omega) ?_)
  intro v1 w1 ho1 he1 _ _
  have O1 := Lib.hid ho1; clear ho1
  go_wp2_with (at_builtin; refine hold ?_)
  go_ret
  exact ⟨_, rfl, by simpa using O1.out, he1⟩
/-- A signature added: in the place of the first one of its AS, or at the end. -/
def addSig : List DSignature → DSignature → List DSignature
  | [], x => [x]
  | y :: ys, x => if y.asn = x.asn then x :: ys else y :: addSig ys x
theorem addSig_drop_yes (xs : List DSignature) (x : DSignature) (k : Nat) (h : k < xs.length) (he : xs[k].asn = x.asn) : addSig (xs.drop k) x = x :: xs.drop (k + 1) := by
  rw [List.drop_eq_getElem_cons h, addSig, if_pos he]
theorem addSig_drop_no (xs : List DSignature) (x : DSignature) (k : Nat) (h : k < xs.length) (he : ¬ xs[k].asn = x.asn) : addSig (xs.drop k) x = xs[k] :: addSig (xs.drop (k + 1)) x := by
  rw [List.drop_eq_getElem_cons h, addSig, if_neg he]
theorem addSig_len (xs : List DSignature) (x : DSignature) : (addSig xs x).length ≤ xs.length + 1 := by
  induction xs with
  | nil => simp [addSig]
  | cons y ys ih => simp only [addSig]; split <;> simp <;> omega
end Go.Proofs.Ytjfoolffiflchaa
