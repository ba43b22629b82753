/- Contracts of the program's and the reference's functions on numbers: InRange, Mod. -/
import Derived.Test.YtnglhofegajbiaaInts
import Derived.Test.YtnglhofegajbiaaAppend
namespace Go.Proofs.Ytnglhofegajbiaa
open Go.RowKit
set_option linter.unusedVariables false
/-- n lies in a .. b. -/
def inR (n a b : Int) : Bool := decide (a ≤ n) && decide (n ≤ b)
theorem inR_true {n a b : Int} (h1 : a ≤ n) (h2 : n ≤ b) : inR n a b = true := by simp [inR, h1, h2]
theorem inR_false {n a b : Int} (h : n < a ∨ b < n) : inR n a b = false := by simp [inR]; omega
theorem inR_iff {n a b : Int} : inR n a b = true ↔ a ≤ n ∧ n ≤ b := by simp [inR]
theorem inR_not {n a b : Int} (h : inR n a b = false) : n < a ∨ b < n := by
  simp [inR] at h
  omega
set_option maxRecDepth 100000 in
set_option maxHeartbeats 1000000 in
theorem impl_InRange (n a b : Int) (w : World) : Calls Try.prog 44 #[I n, I a, I b] w fun e w' => e = .returned (.bool (inR n a b)) ∧ w = w' := by
  by_cases h1 : a ≤ n
  · by_cases h2 : n ≤ b
    · have HF := Lib.hid (inR_true h1 h2)
      go_enter Try.func44, Try.ntmps44
      go_wp2
      go_ret
      exact ⟨ret_bool HF.out.symm, rfl⟩
    · have HF := Lib.hid (inR_false (n := n) (a := a) (b := b) (by omega))
      have hd : decide (n ≤ b) = false := by simpa using h2
      go_enter Try.func44, Try.ntmps44
      go_wp2
      go_ret
      exact ⟨ret_bool HF.out.symm, rfl⟩
  · have HF := Lib.hid (inR_false (n := n) (a := a) (b := b) (by omega))
    have hd : decide (a ≤ n) = false := by simpa using h1
    go_enter Try.func44, Try.ntmps44
    go_wp2
    go_ret
    exact ⟨ret_bool HF.out.symm, rfl⟩
set_option maxRecDepth 100000 in
set_option maxHeartbeats 1000000 in
theorem spec_l1In (n a b : Int) (w : World) : Calls Try.prog 43 #[I n, I a, I b] w fun e w' => e = .returned (.bool (inR n a b)) ∧ w = w' := by
  by_cases h1 : a ≤ n
  · by_cases h2 : n ≤ b
    · have HF := Lib.hid (inR_true h1 h2)
      go_enter Try.func43, Try.ntmps43
      go_wp2
      go_ret
      exact ⟨ret_bool HF.out.symm, rfl⟩
    · have HF := Lib.hid (inR_false (n := n) (a := a) (b := b) (by omega))
      have hd : decide (n ≤ b) = false := by simpa using h2
      go_enter Try.func43, Try.ntmps43
      go_wp2
      go_ret
      exact ⟨ret_bool HF.out.symm, rfl⟩
  · have HF := Lib.hid (inR_false (n := n) (a := a) (b := b) (by omega))
    have hd : decide (a ≤ n) = false := by simpa using h1
    go_enter Try.func43, Try.ntmps43
    go_wp2
    go_ret
    exact ⟨ret_bool HF.out.symm, rfl⟩
theorem mod_two (n m : Int) (h1 : 1 ≤ m) (_h2 : m ≤ 1000000000000) : (n.tmod m + m) % m = n % m := by
  rw [Int.add_emod_right]
  rcases Int.lt_or_le n 0 with hn | hn
  · have h : n.tmod m = -((-n) % m) := by
      rw [← Int.neg_neg n, Int.neg_tmod, Int.neg_neg, Int.tmod_eq_emod_of_nonneg (by omega)]
    rw [h]
    have e := Int.emod_add_mul_ediv (-n) m
    have : -(-n % m) = n + m * (-n / m) := by omega
    rw [this, Int.add_mul_emod_self_left]
  · rw [Int.tmod_eq_emod_of_nonneg hn, Int.emod_emod_of_dvd _ (Int.dvd_refl _)]
end Go.Proofs.Ytnglhofegajbiaa
