/- Contracts of the program's and the reference's functions on signed segments: SignedSegmentValid. -/
import Derived.Test.YtddaodemdkjijaaGreatL19c
import Derived.Test.YtddaodemdkjijaaGreatGL20
import Derived.Test.YtddaodemdkjijaaGreatL10e
import Derived.Test.YtddaodemdkjijaaGreatGL13
namespace Go.Proofs.YtddaodemdkjijaaGreat
open Go.RowKit
set_option linter.unusedVariables false
theorem addElem_valid20 {s : Int} {i : Nat} (h : validSet s = true) (hi : i < 16) : validSet (addElem s i) = true := by
  have h2 : inR (i : Int) 0 15 = true := inR_true (by omega) (by omega)
  unfold addElem
  rw [h, h2]
  obtain ⟨h0, h1⟩ := inR_iff.1 h
  have hlt : s.toNat ||| 2 ^ i < 2 ^ 16 := Nat.or_lt_two_pow (by omega) (Nat.pow_lt_pow_right (by omega) hi)
  exact inR_true (by simp) (by simp only [Bool.and_self, if_true, Int.toNat_natCast]; omega)
theorem addElem_has {s : Int} {i j : Nat} (h : validSet s = true) (hi : i < 16) (hj : j < 16) : contains (addElem s i) j = (contains s j || decide (i = j)) := by
  have h2 : inR (i : Int) 0 15 = true := inR_true (by omega) (by omega)
  have h3 : inR (j : Int) 0 15 = true := inR_true (by omega) (by omega)
  have hv := addElem_valid20 h hi
  unfold contains
  rw [hv, h, h3]
  unfold addElem
  rw [h, h2]
  simp only [Bool.and_self, if_true, Int.toNat_natCast, Bool.true_and, Nat.testBit_or, Nat.testBit_two_pow]
theorem fold_has (t : DTopology) (l : List DTrustRoot) (m : List DCertificate) (now : Int) : ∀ k, k ≤ 16 → validSet ((List.range k).foldl (ca1 t l m now) 0) = true ∧ ∀ j : Nat, j < 16 → contains ((List.range k).foldl (ca1 t l m now) 0) j = (decide (j < k) && decide (0 ≤ findCert t l m j now))
  | 0, _ => ⟨rfl, fun j hj => by simp [contains]⟩
  | k + 1, hk => by
    obtain ⟨h1, h2⟩ := fold_has t l m now k (by omega)
    rw [fold_range]
    generalize (List.range k).foldl (ca1 t l m now) 0 = s at *
    unfold ca1
    by_cases hf : 0 ≤ findCert t l m k now
    · rw [if_pos hf]
      refine ⟨addElem_valid20 h1 (by omega), fun j hj => ?_⟩
      rw [addElem_has h1 (by omega) hj, h2 j hj]
      by_cases e : k = j
      · subst e
        simp [hf]
      · have e2 : decide (j < k + 1) = decide (j < k) := by rw [decide_eq_decide]; omega
        simp [e, e2]
    · rw [if_neg hf]
      refine ⟨h1, fun j hj => ?_⟩
      rw [h2 j hj]
      by_cases e : k = j
      · subst e
        simp [hf]
      · have e2 : decide (j < k + 1) = decide (j < k) := by rw [decide_eq_decide]; omega
        rw [e2]
theorem certASes_has (t : DTopology) (l : List DTrustRoot) (m : List DCertificate) (now : Int) {r : Int} (h : inR r 0 7 = true) : contains (certASes t l m now) r = decide (0 ≤ findCert t l m r now) := by
  obtain ⟨h0, h1⟩ := inR_iff.1 h
  obtain ⟨j, rfl⟩ := Int.eq_ofNat_of_zero_le h0
  have := (fold_has t l m now 16 (by omega)).2 j (by omega)
  unfold certASes
  rw [this]
  simp
  omega
theorem wellF_hop {t : DTopology} {s : DSegment} (h : wellF t s = true) {k : Nat} (hk : k < s.hops.length) : validHop s.hops[k] = true ∧ isAs t s.hops[k].asn = true := by
  unfold wellF hopsFine at h
  simp only [Bool.and_eq_true] at h
  have h2 := List.all_eq_true.1 h.1.2 k (List.mem_range.2 hk)
  unfold hopFine at h2
  simp only [Bool.and_eq_true] at h2
  rw [getD_is hk] at h2
  exact ⟨h2.1, h2.2.1⟩
theorem usable_hop {t : DTopology} {s : DSegment} {now : Int} (h : segUsable t s now = true) {k : Nat} (hk : k < s.hops.length) : inR s.hops[k].asn 0 7 = true ∧ isAs t s.hops[k].asn = true := by
  unfold segUsable validSeg at h
  simp only [Bool.and_eq_true] at h
  obtain ⟨h1, h2⟩ := wellF_hop h.1.1 hk
  unfold validHop at h1
  simp only [Bool.and_eq_true] at h1
  exact ⟨h1.1, h2⟩
def certOk (t : DTopology) (l : List DTrustRoot) (m : List DCertificate) (now r : Int) : Bool := !((asAt t r).isd == (l.getD 0 dRoot).isd && decide (findCert t l m r now < 0))
def signedHead (t : DTopology) (l : List DTrustRoot) (x : DSignedSegment) (now : Int) : Bool := segUsable t x.seg now && (decide (x.sigs.length = x.seg.hops.length) && (decide (firstBad t x < 0) && validChain t l))
def signedValid (t : DTopology) (l : List DTrustRoot) (m : List DCertificate) (x : DSignedSegment) (now : Int) : Bool := signedHead t l x now && (ases x.seg.hops).all (certOk t l m now)
end Go.Proofs.YtddaodemdkjijaaGreat
