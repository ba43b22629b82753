/- What the law FnRoots asks, in plain words: a chain's last root is accepted again, an empty one never. No conditions. -/
import Derived.Test.YtmlfnfflpacchaaP18u
namespace Go.Proofs.Ytmlfnfflpacchaa
open Go.RowKit
set_option linter.unusedVariables false
theorem validRoot_zero (t : DTopology) : validRoot t dRoot = false := by
  unfold validRoot dRoot
  have h : inR (0 : Int) 1 1000000 = false := inR_false (by omega)
  simp [h]
theorem chain_zero (t : DTopology) (l : List DTrustRoot) : validChain t (l ++ [dRoot]) = false := by
  refine validChain_no (k := l.length) (by simp) ?_
  rcases Nat.eq_zero_or_pos l.length with h | h
  · have h1 : l = [] := List.eq_nil_of_length_eq_zero h
    subst h1
    rw [show ([] : List DTrustRoot).length = 0 from rfl, chainAt_zero (by simp)]
    simp [isInitial, validRoot_zero]
  · obtain ⟨m, hm⟩ : ∃ m, l.length = m + 1 := ⟨l.length - 1, by omega⟩
    rw [chainAt_succ (m := m) (by omega) (by simp) (by simp; omega)]
    have e : (l ++ [dRoot])[l.length]'(by simp) = dRoot := by simp
    rw [e]
    simp [isSucc, validRoot_zero]
theorem upd_zero (t : DTopology) (l : List DTrustRoot) : updRoots t l dRoot = l := by
  unfold updRoots
  rw [chain_zero]
  rfl
theorem lastIdx_pos {p : Nat → Bool} : ∀ {n k : Nat}, k < n → p k = true → 0 ≤ lastIdx p n
  | 0, k, h, _ => by omega
  | n + 1, k, h, hp => by
    rw [lastIdx]
    split
    · omega
    · rename_i hn
      rcases Nat.lt_succ_iff_lt_or_eq.1 h with h1 | rfl
      · exact lastIdx_pos h1 hp
      · exact absurd hp hn
theorem chain_head {t : DTopology} {l : List DTrustRoot} (h : validChain t l = true) (h0 : 0 < l.length) : isInitial t l[0] = true := by
  have h1 := chain_at h 0 h0
  rwa [chainAt_zero h0] at h1
theorem chain_one {t : DTopology} {l : List DTrustRoot} (h0 : 0 < l.length) (h : l.length = 1 ∨ validChain t l = true) : validChain t l = isInitial t l[0] := by
  cases hi : isInitial t l[0]
  · cases hv : validChain t l
    · rfl
    · rw [chain_head hv h0] at hi; cases hi
  · rcases h with h | h
    · rw [validChain_yes (fun k hk => ?_)]
      · simpa using h0
      · obtain rfl : k = 0 := by omega
        rw [chainAt_zero h0, hi]
    · exact h
theorem active_first {t : DTopology} {l : List DTrustRoot} (h : validChain t l = true) (h0 : 0 < l.length) : 0 ≤ activeRoot t l l[0].notBefore := by
  unfold activeRoot
  rw [if_pos h]
  refine lastIdx_pos h0 ?_
  have h1 := chain_valid h 0 h0
  unfold validRoot at h1
  simp only [Bool.and_eq_true] at h1
  have h2 := inR_iff.1 h1.2.2.1
  rw [getD_at h0]
  exact inR_iff.2 ⟨Int.le_refl _, h2.1⟩
theorem upd_last {t : DTopology} {l : List DTrustRoot} (h : validChain t l = true) (h0 : 0 < l.length) : updRoots t (l.take (l.length - 1)) (l[l.length - 1]'(by omega)) = l := by
  have e : l.take (l.length - 1) ++ [l[l.length - 1]'(by omega)] = l := by
    have h1 := take_snoc l (l.length - 1) (by omega)
    rw [show l.length - 1 + 1 = l.length by omega, List.take_length] at h1
    exact h1.symm
  unfold updRoots
  rw [e, if_pos h]
end Go.Proofs.Ytmlfnfflpacchaa
