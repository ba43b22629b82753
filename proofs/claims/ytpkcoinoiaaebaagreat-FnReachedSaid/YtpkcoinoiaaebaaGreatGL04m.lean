/- Plain words on sets: what is in a set, and what a fold of additions holds. No program in sight. -/
import Derived.Test.YtpkcoinoiaaebaaGreatGL0
import Derived.Test.YtpkcoinoiaaebaaGreatGCore
namespace Go.Proofs.YtpkcoinoiaaebaaGreat
open Go.RowKit
set_option linter.unusedVariables false
theorem mem_elements {s j : Int} : j ∈ elements s ↔ contains s j = true := by
  unfold elements elemsTo
  constructor
  · intro h
    obtain ⟨i, hi, rfl⟩ := List.mem_map.1 h
    exact (List.mem_filter.1 hi).2
  · intro h
    have h2 := h
    unfold contains at h2
    rw [Bool.and_eq_true, Bool.and_eq_true] at h2
    obtain ⟨h0, h15⟩ := inR_iff.1 h2.2.1
    refine List.mem_map.2 ⟨j.toNat, List.mem_filter.2 ⟨List.mem_range.2 (by omega), ?_⟩, by omega⟩
    rw [show ((j.toNat : Nat) : Int) = j by omega]
    exact h
theorem addElem_valid {s i : Int} (hs : validSet s = true) (hi : 0 ≤ i ∧ i ≤ 15) : validSet (addElem s i) = true := by
  obtain ⟨h0, h1⟩ := inR_iff.1 hs
  unfold addElem
  rw [hs, inR_iff.2 hi]
  refine inR_iff.2 ⟨by simp, ?_⟩
  simp only [Bool.and_self, if_true]
  have h2 : s.toNat < 2 ^ 16 := by omega
  have h3 : 2 ^ i.toNat < 2 ^ 16 := Nat.pow_lt_pow_right (by omega) (by omega)
  have h4 := Nat.or_lt_two_pow h2 h3
  omega
theorem contains_addElem {s i j : Int} (hs : validSet s = true) (hi : 0 ≤ i ∧ i ≤ 15) : contains (addElem s i) j = true ↔ (contains s j = true ∨ j = i) := by
  have hv := addElem_valid hs hi
  unfold contains
  rw [hv, hs]
  simp only [Bool.true_and, Bool.and_eq_true]
  unfold addElem
  rw [hs, inR_iff.2 hi]
  simp only [Bool.and_self, if_true, Int.toNat_natCast, Nat.testBit_or, Bool.or_eq_true]
  constructor
  · rintro ⟨h1, h2 | h2⟩
    · exact .inl ⟨h1, h2⟩
    · right
      have := (inR_iff.1 h1)
      rw [Nat.testBit_two_pow] at h2
      have h3 : i.toNat = j.toNat := by simpa using h2
      omega
  · rintro (⟨h1, h2⟩ | rfl)
    · exact ⟨h1, .inl h2⟩
    · exact ⟨inR_iff.2 hi, .inr (by rw [Nat.testBit_two_pow]; simp)⟩
theorem fold_add : ∀ (L : List Int) (s : Int), validSet s = true → (∀ i ∈ L, 0 ≤ i ∧ i ≤ 15) → validSet (L.foldl addElem s) = true ∧ ∀ j, contains (L.foldl addElem s) j = true ↔ (contains s j = true ∨ j ∈ L)
  | [], s, hs, _ => ⟨hs, fun j => by simp⟩
  | i :: L, s, hs, hL => by
    have hi := hL i (List.mem_cons_self ..)
    obtain ⟨h1, h2⟩ := fold_add L (addElem s i) (addElem_valid hs hi) fun j hj => hL j (List.mem_cons_of_mem _ hj)
    refine ⟨h1, fun j => ?_⟩
    rw [List.foldl_cons, h2 j, contains_addElem hs hi, List.mem_cons]
    constructor
    · rintro ((h | h) | h)
      · exact .inl h
      · exact .inr (.inl h)
      · exact .inr (.inr h)
    · rintro (h | h | h)
      · exact .inl (.inl h)
      · exact .inl (.inr h)
      · exact .inr h
theorem contains_zero (j : Int) : contains 0 j = false := by
  unfold contains
  simp
end Go.Proofs.YtpkcoinoiaaebaaGreat
namespace Go.Proofs.YtpkcoinoiaaebaaGreat
open Go.RowKit
set_option linter.unusedVariables false
def interS (a b : Int) : Int := if validSet a && validSet b then ((a.toNat &&& b.toNat : Nat) : Int) else 0
set_option maxRecDepth 100000 in
set_option maxHeartbeats 1000000 in
theorem impl_MakeSet (vl : Value) (l : List Int) (w : World) (hl : IntS w.heap.size w vl l) : Calls Tryz.prog 82 #[vl] w fun e w' => e = .returned (I (l.foldl addElem 0)) ∧ Ext w w' := by
  obtain ⟨Al, nl, cl, rfl, ll, kl, ml, -⟩ := id hl
  subst ll
  unfold maxLen at ml
  have Rl := Lib.hid hl; clear hl
  go_enter Tryz.func82, Tryz.ntmps82
  go_wp2_with fail
  go_loopw [3, 8] (fun s i wr => ∃ k : Nat, k ≤ l.length ∧ i = I k ∧ s = I ((l.take k).foldl addElem 0) ∧ Ext w wr) (fun _ i _ => l.length - (intOf i).toNat)
  case atStart => exact ⟨0, by omega, rfl, rfl, Ext.refl _⟩
  case round =>
    obtain ⟨k, hk, rfl, rfl, he⟩ := hrel
    by_cases hlt : k < l.length
    · obtain ⟨b, off, hA, hb, hkl, hc⟩ := (Rl.out.ext (w' := wr) xe).at_ hlt
      have hc : wr.cell? ⟨b, off + k, none⟩ = some (I l[k]) := hc
      have HX := Lib.hid (foldl_snoc addElem 0 l k hkl)
      generalize l[k] = y at *
      generalize (l.take k).foldl addElem 0 = s at *
      subst hA
      have i0 : (0 : Int) ≤ (k : Int) := by omega
      have i1 : (k : Int) < (l.length : Int) := by omega
      go_wp2_with fail
      refine (impl_AddElement s y wr).mono ?_
      rintro e w1 ⟨rfl, rfl⟩
      go_wp2_with fail
      go_roundw
      case rel => exact ⟨k + 1, by omega, by go_num, by rw [HX.out], he⟩
      case measure => first | (simp [intOf]; done) | (simp [intOf]; omega)
    · obtain rfl : k = l.length := by omega
      have i1 : ¬ (l.length : Int) < (l.length : Int) := by omega
      go_wp2_with fail
      go_ret
      exact ⟨by first | rfl | simp, he⟩
end Go.Proofs.YtpkcoinoiaaebaaGreat

