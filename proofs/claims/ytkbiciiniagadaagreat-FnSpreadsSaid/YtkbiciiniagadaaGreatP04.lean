/- Plain words on sets: what is in a set, and what a fold of additions holds. No program in sight. -/
import Derived.Test.YtkbiciiniagadaaGreatGL0
namespace Go.Proofs.YtkbiciiniagadaaGreat
open Go.RowKit
set_option linter.unusedVariables false
theorem nd_le : ∀ (A B : List Int), A.Nodup → (∀ x ∈ A, x ∈ B) → A.length ≤ B.length
  | [], B, _, _ => by simp
  | a :: A, B, h, hs => by
    rw [List.nodup_cons] at h
    have ha : a ∈ B := hs a (List.mem_cons_self ..)
    have h1 := nd_le A (B.erase a) h.2 fun x hx => (List.mem_erase_of_ne (fun e => h.1 (by rw [← e]; exact hx))).2 (hs x (List.mem_cons_of_mem _ hx))
    have h2 := List.length_erase_of_mem ha
    have h3 : 0 < B.length := List.length_pos_of_mem ha
    rw [List.length_cons]
    omega
theorem nd_eq {A B : List Int} (hA : A.Nodup) (hB : B.Nodup) (h : ∀ x, x ∈ A ↔ x ∈ B) : A.length = B.length :=
  Nat.le_antisymm (nd_le A B hA fun x => (h x).1) (nd_le B A hB fun x => (h x).2)
theorem mem_elements {s j : Int} : j ∈ elements s ↔ contains s j = true := by
  unfold elements elemsTo
  constructor
  · intro h
    obtain ⟨i, hi, rfl⟩ := List.mem_map.1 h
    exact (List.mem_filter.1 hi).2
  · intro h
    have h2 := h
    unfold contains at h2
    rw [Bool.and_eq_true, Bool.and_eq_true] at h2
    obtain ⟨h0, h15⟩ := inR_iff.1 h2.2.1
    refine List.mem_map.2 ⟨j.toNat, List.mem_filter.2 ⟨List.mem_range.2 (by omega), ?_⟩, by omega⟩
    rw [show ((j.toNat : Nat) : Int) = j by omega]
    exact h
theorem elements_nodup (s : Int) : (elements s).Nodup := by
  unfold elements elemsTo
  refine (List.Pairwise.filter _ List.nodup_range).map _ ?_
  intro a b hab e
  exact hab (by omega)
theorem contains_range {s j : Int} (h : contains s j = true) : 0 ≤ j ∧ j ≤ 15 := by
  unfold contains at h
  rw [Bool.and_eq_true, Bool.and_eq_true] at h
  exact inR_iff.1 h.2.1
theorem addElem_valid {s i : Int} (hs : validSet s = true) (hi : 0 ≤ i ∧ i ≤ 15) : validSet (addElem s i) = true := by
  obtain ⟨h0, h1⟩ := inR_iff.1 hs
  unfold addElem
  rw [hs, inR_iff.2 hi]
  refine inR_iff.2 ⟨by simp, ?_⟩
  simp only [Bool.and_self, if_true]
  have h2 : s.toNat < 2 ^ 16 := by omega
  have h3 : 2 ^ i.toNat < 2 ^ 16 := Nat.pow_lt_pow_right (by omega) (by omega)
  have h4 := Nat.or_lt_two_pow h2 h3
  omega
theorem contains_addElem {s i j : Int} (hs : validSet s = true) (hi : 0 ≤ i ∧ i ≤ 15) : contains (addElem s i) j = true ↔ (contains s j = true ∨ j = i) := by
  have hv := addElem_valid hs hi
  unfold contains
  rw [hv, hs]
  simp only [Bool.true_and, Bool.and_eq_true]
  unfold addElem
  rw [hs, inR_iff.2 hi]
  simp only [Bool.and_self, if_true, Int.toNat_natCast, Nat.testBit_or, Bool.or_eq_true]
  constructor
  · rintro ⟨h1, h2 | h2⟩
    · exact .inl ⟨h1, h2⟩
    · right
      have := (inR_iff.1 h1)
      rw [Nat.testBit_two_pow] at h2
      have h3 : i.toNat = j.toNat := by simpa using h2
      omega
  · rintro (⟨h1, h2⟩ | rfl)
    · exact ⟨h1, .inl h2⟩
    · exact ⟨inR_iff.2 hi, .inr (by rw [Nat.testBit_two_pow]; simp)⟩
theorem fold_add : ∀ (L : List Int) (s : Int), validSet s = true → (∀ i ∈ L, 0 ≤ i ∧ i ≤ 15) → validSet (L.foldl addElem s) = true ∧ ∀ j, contains (L.foldl addElem s) j = true ↔ (contains s j = true ∨ j ∈ L)
  | [], s, hs, _ => ⟨hs, fun j => by simp⟩
  | i :: L, s, hs, hL => by
    have hi := hL i (List.mem_cons_self ..)
    obtain ⟨h1, h2⟩ := fold_add L (addElem s i) (addElem_valid hs hi) fun j hj => hL j (List.mem_cons_of_mem _ hj)
    refine ⟨h1, fun j => ?_⟩
    rw [List.foldl_cons, h2 j, contains_addElem hs hi, List.mem_cons]
    constructor
    · rintro ((h | h) | h)
      · exact .inl h
      · exact .inr (.inl h)
      · exact .inr (.inr h)
    · rintro (h | h | h)
      · exact .inl (.inl h)
      · exact .inl (.inr h)
      · exact .inr h
theorem contains_zero (j : Int) : contains 0 j = false := by
  unfold contains
  simp
end Go.Proofs.YtkbiciiniagadaaGreat
