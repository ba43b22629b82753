/- Digests tell numbers apart: plain laws of the signatures. No conditions. -/
import Derived.Test.YtmlfnfflpacchaaGL17
import Derived.Test.YtmlfnfflpacchaaGL0
namespace Go.Proofs.Ytmlfnfflpacchaa
open Go.RowKit
set_option linter.unusedVariables false
theorem dig1_range (d x : Int) : 0 ≤ dig1 d x ∧ dig1 d x < 2147483647 := by unfold dig1; omega
theorem lin_inj {P m i q d e y : Int} (hinv : m * i = 1 + P * q) (hd : 0 ≤ d ∧ d < P) (he : 0 ≤ e ∧ e < P) (h : (d * m + y) % P = (e * m + y) % P) : d = e := by
  have h1 : P ∣ (d * m + y) - (e * m + y) := Int.dvd_of_emod_eq_zero (Int.emod_eq_emod_iff_emod_sub_eq_zero.1 h)
  have h2 : (d * m + y) - (e * m + y) = (d - e) * m := by rw [Int.sub_mul]; omega
  rw [h2] at h1
  have h3 : P ∣ (d - e) * m * i := Int.dvd_trans h1 (Int.dvd_mul_right _ _)
  have h4 : (d - e) * m * i = (d - e) + P * (q * (d - e)) := by
    rw [Int.mul_assoc, hinv, Int.mul_add, Int.mul_one, Int.mul_comm (d - e) (P * q), Int.mul_assoc]
  rw [h4] at h3
  have h5 : P ∣ d - e := (Int.dvd_add_left (Int.dvd_mul_right P (q * (d - e)))).1 h3
  have h6 := Int.emod_eq_emod_iff_emod_sub_eq_zero.2 (Int.emod_eq_zero_of_dvd h5)
  rw [Int.emod_eq_of_lt hd.1 hd.2, Int.emod_eq_of_lt he.1 he.2] at h6
  exact h6
theorem dig1_inj {d e x : Int} (hd : 0 ≤ d ∧ d < 2147483647) (he : 0 ≤ e ∧ e < 2147483647) (h : dig1 d x = dig1 e x) : d = e := by
  unfold dig1 at h
  rw [Int.add_assoc, Int.add_assoc] at h
  exact lin_inj (i := 1523789695) (q := 709572) (by decide) hd he h
theorem dig1_next {d x y : Int} (h : dig1 d x = dig1 d y) : x % 2147483647 = y % 2147483647 := by
  unfold dig1 at h
  omega
theorem digs_inj : ∀ (l : List Int) {d e : Int}, 0 ≤ d ∧ d < 2147483647 → 0 ≤ e ∧ e < 2147483647 → l.foldl dig1 d = l.foldl dig1 e → d = e
  | [], _, _, _, _, h => h
  | x :: l, d, e, hd, he, h => dig1_inj hd he (digs_inj l (dig1_range d x) (dig1_range e x) h)
theorem digest_apart {a b : List Int} {x y : Int} (h : digest (a ++ x :: b) = digest (a ++ y :: b)) : x % 2147483647 = y % 2147483647 := by
  unfold digest at h
  rw [List.foldl_append, List.foldl_append, List.foldl_cons, List.foldl_cons] at h
  exact dig1_next (digs_inj b (dig1_range _ _) (dig1_range _ _) h)
theorem sign_apart {key : Int} {a b : List Int} {x y : Int} (h : sign key (a ++ x :: b) = sign key (a ++ y :: b)) : x % 2147483647 = y % 2147483647 := by
  unfold sign mac at h
  have e : ∀ z : Int, [key] ++ ([77] ++ (a ++ z :: b)) ++ [key] = ([key] ++ ([77] ++ a)) ++ z :: (b ++ [key]) := fun z => by simp
  rw [e, e] at h
  exact digest_apart h
theorem wrap_next (x : Int) (h : -9223372036854775808 ≤ x ∧ x ≤ 9223372036854775807) : ¬ x % 2147483647 = wrap64 (x + 1) % 2147483647 := by
  by_cases h1 : x = 9223372036854775807
  · subst h1; decide +kernel
  · have e : wrap64 (x + 1) = x + 1 := (IntWalk.i64_left _).symm.trans (IntWalk.i64_in _ (by omega))
    rw [e]
    omega
/-- A changed number is not signed for. -/
theorem verify_apart {t : DTopology} {v : DSignature} {a b : List Int} {x y : Int} (h : verifySig t v (a ++ x :: b) = true) (hxy : ¬ x % 2147483647 = y % 2147483647) : verifySig t v (a ++ y :: b) = false := by
  cases h2 : verifySig t v (a ++ y :: b)
  · rfl
  · exfalso
    unfold verifySig at h h2
    simp only [Bool.and_eq_true, beq_iff_eq] at h h2
    exact hxy (sign_apart (h.2.symm.trans h2.2))
end Go.Proofs.Ytmlfnfflpacchaa
