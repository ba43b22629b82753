/- The walk of the law FnUsurps. No conditions. -/
import Derived.Test.YtddaodemdkjijaaGreatD7
import Derived.Test.YtddaodemdkjijaaGreatP18u
namespace Go.Proofs.YtddaodemdkjijaaGreat
open Go.RowKit
set_option linter.unusedVariables false
set_option maxRecDepth 100000 in
set_option maxHeartbeats 1000000 in
theorem laws_big (vb : Value) (bs : List Nat) (w : World) (hb : ByteS w.heap.size w vb bs) : Calls Tryz.prog 4 #[vb] w fun e w' => e = .returned (.bool (decide (1048576 < bs.length))) ∧ Ext w w' := by
  obtain ⟨A, n, c, rfl, ln, -, mc, -⟩ := id hb
  subst ln
  unfold maxLen at mc
  go_enter Tryz.func4, Tryz.ntmps4
  by_cases h : 1048576 < bs.length
  · have i1 : (1048576 : Int) < (bs.length : Int) := by omega
    go_wp2_with fail
    go_ret
    exact ⟨by simp [h], xe⟩
  · have i1 : ¬ (1048576 : Int) < (bs.length : Int) := by omega
    go_wp2_with fail
    go_ret
    exact ⟨by simp, xe⟩
theorem totS_bound {α : Type} {f : α → Nat} {b : Nat} : ∀ (l : List α), (∀ x ∈ l, f x ≤ b) → totS f l ≤ (b + 1) * l.length
  | [], _ => by simp [totS]
  | x :: l, h => by
    have h1 := h x (List.mem_cons_self ..)
    have h2 := totS_bound l fun y hy => h y (List.mem_cons_of_mem _ hy)
    have e : totS f (x :: l) = f x + 1 + totS f l := by simp [totS]; omega
    rw [e, List.length_cons, Nat.mul_succ]
    omega
theorem othersTo_succ (t : DTopology) (s : Int) (k : Nat) : othersTo t s (k + 1) = if contains s (k : Int) then othersTo t s k else othersTo t s k ++ [(k : Int)] := by
  unfold othersTo
  rw [List.range_succ, List.filter_append]
  cases h : contains s (k : Int)
  · simp [h]
  · simp [h]
theorem upd_a {t : DTopology} {l : List DTrustRoot} {a : DTrustRoot} {n k : Nat} (h : validChain t l = true) (h0 : 0 < l.length) (hl : l.length ≤ 900000) (hx : l[l.length - 1]? = some a) (hn : n ≤ t.ases.length) (hk : k ≤ (elements a.voters).length) :
    (updRoots t l (nextRoot a (usurpSigs t a n k))).length = if a.quorum ≤ (k : Int) then l.length + 1 else l.length := by
  obtain ⟨h1, rfl⟩ := List.getElem?_eq_some_iff.1 hx
  exact usurp_upd h h0 hl hn hk
theorem quo_a {t : DTopology} {l : List DTrustRoot} {a : DTrustRoot} (h : validChain t l = true) (h0 : 0 < l.length) (hx : l[l.length - 1]? = some a) : 1 ≤ a.quorum ∧ a.quorum ≤ ((elements a.voters).length : Int) := by
  obtain ⟨h1, rfl⟩ := List.getElem?_eq_some_iff.1 hx
  exact usurp_quorum h h0
theorem usurp_zero (t : DTopology) (a : DTrustRoot) (n : Nat) : usurpSigs t a n 0 = (othersTo t a.voters n).map fun r => signAs t r (rootData (nextRoot a [])) := by
  unfold usurpSigs
  simp
theorem usurp_next {t : DTopology} {a : DTrustRoot} {n k : Nat} (hk : k < (elements a.voters).length) : usurpSigs t a n (k + 1) = usurpSigs t a n k ++ [signAs t (elements a.voters)[k] (rootData (nextRoot a []))] := by
  unfold usurpSigs
  rw [List.take_succ_eq_append_getElem hk, List.map_append, List.append_assoc]
  rfl
/-- What others have signed. -/
def oSigs (t : DTopology) (a : DTrustRoot) (k : Nat) : List DSignature := (othersTo t a.voters k).map fun r => signAs t r (rootData (nextRoot a []))
theorem oSigs_yes {t : DTopology} {a : DTrustRoot} {k : Nat} (h : contains a.voters (k : Int) = true) : oSigs t a (k + 1) = oSigs t a k := by
  unfold oSigs
  rw [othersTo_succ, h]
  rfl
theorem oSigs_no {t : DTopology} {a : DTrustRoot} {k : Nat} (h : contains a.voters (k : Int) = false) : oSigs t a (k + 1) = oSigs t a k ++ [signAs t k (rootData (nextRoot a []))] := by
  unfold oSigs
  rw [othersTo_succ, h]
  simp
theorem oSigs_len (t : DTopology) (a : DTrustRoot) (k : Nat) : (oSigs t a k).length ≤ k := by
  unfold oSigs othersTo
  rw [List.length_map, List.length_map]
  exact Nat.le_trans (List.length_filter_le _ _) (by simp)
end Go.Proofs.YtddaodemdkjijaaGreat
