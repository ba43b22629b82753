/- Plain words on what is above a realm: child links, chains of them, and what reached collects. No program in sight. -/
import Derived.Test.YtpkcoinoiaaebaaGreatGL04m
import Derived.Test.YtpkcoinoiaaebaaGreatGP31
import Derived.Test.YtpkcoinoiaaebaaGreatGD18
import Derived.Test.YtpkcoinoiaaebaaGreatGP33
import Derived.Test.YtpkcoinoiaaebaaGreatGL16
namespace Go.Proofs.YtpkcoinoiaaebaaGreat
open Go.RowKit
set_option linter.unusedVariables false
/-- From p a child link leads down to r. -/
def Dn (t : DTopology) (p r : Int) : Prop := ∃ k, k < t.links.length ∧ (t.links.getD k dLink).kind = 2 ∧ (t.links.getD k dLink).a = p ∧ (t.links.getD k dLink).b = r
theorem validTop_clash {t : DTopology} (h : validTop t = true) {j k : Nat} (hjk : j < k) (hk : k < t.links.length) : clash (t.links.getD j dLink) (t.links.getD k dLink) = false := by
  unfold validTop at h
  simp only [Bool.and_eq_true, List.all_eq_true] at h
  have h2 := h.2.2 k (List.mem_range.2 hk)
  unfold linkFine at h2
  rw [Bool.and_eq_true, Bool.not_eq_true'] at h2
  have h3 := h2.2
  unfold linkDup at h3
  rw [List.any_eq_false] at h3
  have := h3 j (List.mem_range.2 hjk)
  simpa using this
/-- A door belongs to one link. -/
theorem linkIdx_end {t : DTopology} (h : validTop t = true) {k : Nat} (hk : k < t.links.length) {r i : Int} (hu : ((t.links.getD k dLink).a = r ∧ (t.links.getD k dLink).ai = i) ∨ ((t.links.getD k dLink).b = r ∧ (t.links.getD k dLink).bi = i)) : linkIdx t r i = k := by
  have huse : usesIf (t.links.getD k dLink) r i = true := by
    unfold usesIf
    simp only [Bool.or_eq_true, Bool.and_eq_true, beq_iff_eq]
    exact hu
  rcases linkIdx_cases t r i with ⟨-, h1⟩ | ⟨m, hm, he, h1⟩
  · rw [h1 k hk] at huse; cases huse
  · rw [he]
    rcases Nat.lt_trichotomy m k with hlt | rfl | hlt
    · exfalso
      have hc := validTop_clash h hlt hk
      unfold clash at hc
      rw [Bool.or_eq_false_iff] at hc
      rcases hu with ⟨rfl, rfl⟩ | ⟨rfl, rfl⟩
      · rw [hc.1] at h1; cases h1
      · rw [hc.2] at h1; cases h1
    · rfl
    · exfalso
      have hc := validTop_clash h hlt hm
      unfold clash at hc
      rw [Bool.or_eq_false_iff] at hc
      unfold usesIf at h1
      simp only [Bool.or_eq_true, Bool.and_eq_true, beq_iff_eq] at h1
      rcases h1 with ⟨rfl, rfl⟩ | ⟨rfl, rfl⟩
      · rw [hc.1] at huse; cases huse
      · rw [hc.2] at huse; cases huse
/-- What a child link is, seen from its two ends. -/
theorem dn_parts {t : DTopology} (h : validTop t = true) {p r : Int} (hd : Dn t p r) : p < r ∧ isAs t p = true ∧ isAs t r = true ∧ isCore t r = false ∧ ∃ i j : Int, (1 ≤ i ∧ i ≤ 6) ∧ (1 ≤ j ∧ j ≤ 6) ∧ ifKind t p i = 2 ∧ remEnd t p i = (r, j) ∧ ifKind t r j = 3 ∧ remEnd t r j = (p, i) ∧ j ∈ ifaces t.links r := by
  obtain ⟨k, hk, hkd, rfl, rfl⟩ := hd
  have hok := (validTop_ok h).2 k hk
  obtain ⟨la, lb, lab, li, lj, lk⟩ := linkOk_parts hok
  have h1 := linkIdx_end h hk (r := (t.links.getD k dLink).a) (i := (t.links.getD k dLink).ai) (.inl ⟨rfl, rfl⟩)
  have h2 := linkIdx_end h hk (r := (t.links.getD k dLink).b) (i := (t.links.getD k dLink).bi) (.inr ⟨rfl, rfl⟩)
  have a1 : atA (t.links.getD k dLink) (t.links.getD k dLink).a (t.links.getD k dLink).ai = true := by unfold atA; simp
  have a2 : atA (t.links.getD k dLink) (t.links.getD k dLink).b (t.links.getD k dLink).bi = false := by
    unfold atA
    rw [Bool.and_eq_false_iff]
    exact .inl (beq_eq_false_iff_ne.2 (by omega))
  refine ⟨lab, la, lb, ?_, _, _, li, lj, ?_, ?_, ?_, ?_, ?_⟩
  · unfold kindOk at lk
    rw [hkd] at lk
    simp only [if_neg (show ¬ (2 : Int) = 1 by omega), if_true, Bool.and_eq_true, Bool.not_eq_true'] at lk
    unfold isCore
    rw [lk.2, Bool.and_false]
  · unfold ifKind kindOf
    rw [if_neg (by omega), h1, if_neg (by omega), Int.toNat_natCast, hkd, a1]
    rfl
  · unfold remEnd
    rw [h1, if_neg (by omega), Int.toNat_natCast, a1]
    rfl
  · unfold ifKind kindOf
    rw [if_neg (by omega), h2, if_neg (by omega), Int.toNat_natCast, hkd, a2]
    rfl
  · unfold remEnd
    rw [h2, if_neg (by omega), Int.toNat_natCast, a2]
    rfl
  · rw [ifaces_mem]
    rw [linkAt hk]
    exact ⟨_, List.getElem_mem hk, .inr ⟨rfl, rfl⟩⟩
theorem kind2_dn {t : DTopology} {p i : Int} (h : ifKind t p i = 2) : Dn t p (remEnd t p i).1 := by
  unfold ifKind at h
  split at h
  · omega
  split at h
  · omega
  rename_i h0
  rcases linkIdx_cases t p i with ⟨h1, -⟩ | ⟨k, hk, he, -⟩
  · omega
  rw [he, Int.toNat_natCast] at h
  unfold kindOf at h
  split at h
  · omega
  split at h
  · omega
  split at h
  · rename_i hkd
    split at h
    · rename_i ha
      refine ⟨k, hk, hkd, ?_, ?_⟩
      · unfold atA at ha
        simp only [Bool.and_eq_true, beq_iff_eq] at ha
        exact ha.1
      · unfold remEnd
        rw [he, if_neg (by omega), Int.toNat_natCast, ha]
        rfl
    · omega
  · omega
theorem kind3_dn {t : DTopology} {r j : Int} (h : ifKind t r j = 3) : Dn t (remEnd t r j).1 r := by
  unfold ifKind at h
  split at h
  · omega
  split at h
  · omega
  rename_i h0
  rcases linkIdx_cases t r j with ⟨h1, -⟩ | ⟨k, hk, he, hu⟩
  · omega
  rw [he, Int.toNat_natCast] at h
  unfold kindOf at h
  split at h
  · omega
  split at h
  · omega
  split at h
  · rename_i hkd
    split at h
    · omega
    · rename_i ha
      rw [Bool.not_eq_true] at ha
      refine ⟨k, hk, hkd, ?_, ?_⟩
      · unfold remEnd
        rw [he, if_neg (by omega), Int.toNat_natCast, ha]
        rfl
      · unfold usesIf at hu
        unfold atA at ha
        rw [ha, Bool.false_or, Bool.and_eq_true, beq_iff_eq, beq_iff_eq] at hu
        exact hu.1
  · omega
/-- n child links one after the other lead from x down to r. -/
def Up (t : DTopology) : Nat → Int → Int → Prop
  | 0, r, x => r = x
  | n + 1, r, x => ∃ p, Dn t p r ∧ Up t n p x
theorem up_top {t : DTopology} : ∀ (n : Nat) (r x : Int), Up t (n + 1) r x ↔ ∃ p, Up t n r p ∧ Dn t x p
  | 0, r, x => by
    constructor
    · rintro ⟨p, h, rfl⟩
      exact ⟨r, rfl, h⟩
    · rintro ⟨p, rfl, h⟩
      exact ⟨x, h, rfl⟩
  | n + 1, r, x => by
    constructor
    · rintro ⟨p, h, h2⟩
      obtain ⟨q, h3, h4⟩ := (up_top n p x).1 h2
      exact ⟨q, ⟨p, h, h3⟩, h4⟩
    · rintro ⟨q, ⟨p, h, h3⟩, h4⟩
      exact ⟨p, h, (up_top n p x).2 ⟨q, h3, h4⟩⟩
theorem up_lt {t : DTopology} (hv : validTop t = true) : ∀ (n : Nat) (r x : Int), Up t n r x → x + n ≤ r
  | 0, r, x, h => by
    have h : r = x := h
    omega
  | n + 1, r, x, ⟨p, h, h2⟩ => by
    have := up_lt hv n p x h2
    have := (dn_parts hv h).1
    omega
/-- What the program's neighbours finds: the far ends of the doors of a kind, if below 16. -/
def nbStep (t : DTopology) (r : Int) (l : List Int) (i : Int) : List Int := if inR (remEnd t r i).1 0 15 then putI l (remEnd t r i).1 else l
def nbs (t : DTopology) (r kind : Int) : List Int := ((ifaces t.links r).filter fun i => ifKind t r i == kind).foldl (nbStep t r) []
theorem nbs_mem {t : DTopology} {r kind x : Int} : x ∈ nbs t r kind ↔ (0 ≤ x ∧ x ≤ 15) ∧ ∃ i ∈ ifaces t.links r, ifKind t r i = kind ∧ (remEnd t r i).1 = x := by
  suffices h : ∀ (l l0 : List Int), x ∈ l.foldl (nbStep t r) l0 ↔ x ∈ l0 ∨ ((0 ≤ x ∧ x ≤ 15) ∧ ∃ i ∈ l, (remEnd t r i).1 = x) by
    unfold nbs
    rw [h]
    simp only [List.not_mem_nil, false_or, List.mem_filter, beq_iff_eq, and_assoc]
  intro l
  induction l with
  | nil => intro l0; simp
  | cons i l ih =>
    intro l0
    rw [List.foldl_cons, ih]
    have e : x ∈ nbStep t r l0 i ↔ x ∈ l0 ∨ ((0 ≤ x ∧ x ≤ 15) ∧ (remEnd t r i).1 = x) := by
      unfold nbStep
      split
      · rename_i hr
        have hr := inR_iff.1 hr
        rw [putI_mem]
        constructor
        · rintro (rfl | h)
          · exact .inr ⟨hr, rfl⟩
          · exact .inl h
        · rintro (h | ⟨-, rfl⟩)
          · exact .inr h
          · exact .inl rfl
      · rename_i hr
        constructor
        · exact .inl
        · rintro (h | ⟨h, rfl⟩)
          · exact h
          · exact absurd (inR_iff.2 h) hr
    rw [e]
    constructor
    · rintro ((h | ⟨h, h2⟩) | ⟨h, j, hj, h2⟩)
      · exact .inl h
      · exact .inr ⟨h, i, List.mem_cons_self .., h2⟩
      · exact .inr ⟨h, j, List.mem_cons_of_mem _ hj, h2⟩
    · rintro (h | ⟨h, j, hj, h2⟩)
      · exact .inl (.inl h)
      · rcases List.mem_cons.1 hj with rfl | hj
        · exact .inl (.inr ⟨h, h2⟩)
        · exact .inr ⟨h, j, hj, h2⟩
theorem nbs_dn {t : DTopology} (hv : validTop t = true) {r x : Int} : x ∈ nbs t r 3 ↔ Dn t x r := by
  rw [nbs_mem]
  constructor
  · rintro ⟨-, i, -, h, rfl⟩
    exact kind3_dn h
  · intro h
    obtain ⟨-, ha, -, -, i, j, -, -, -, -, h3, h4, h5⟩ := dn_parts hv h
    have ha := isAs_iff.1 ha
    have := (validTop_ok hv).1
    exact ⟨by omega, j, h5, h3, by rw [h4]⟩
def uniS (a b : Int) : Int := if validSet a && validSet b then ((a.toNat ||| b.toNat : Nat) : Int) else 0
theorem uni_valid {a b : Int} : validSet (uniS a b) = true := by
  unfold uniS
  split
  · rename_i h
    rw [Bool.and_eq_true] at h
    have h1 := inR_iff.1 h.1
    have h2 := inR_iff.1 h.2
    have h3 : a.toNat < 2 ^ 16 := by omega
    have h4 : b.toNat < 2 ^ 16 := by omega
    have h5 := Nat.or_lt_two_pow h3 h4
    exact inR_iff.2 ⟨by omega, by omega⟩
  · decide
theorem uni_contains {a b : Int} (ha : validSet a = true) (hb : validSet b = true) (j : Int) : contains (uniS a b) j = true ↔ contains a j = true ∨ contains b j = true := by
  have hu := uni_valid (a := a) (b := b)
  unfold contains
  rw [hu, ha, hb]
  unfold uniS
  rw [ha, hb]
  simp only [Bool.and_self, if_true, Bool.true_and, Int.toNat_natCast, Nat.testBit_or, Bool.and_eq_true, Bool.or_eq_true]
  constructor
  · rintro ⟨h, h2 | h2⟩
    · exact .inl ⟨h, h2⟩
    · exact .inr ⟨h, h2⟩
  · rintro (⟨h, h2⟩ | ⟨h, h2⟩)
    · exact ⟨h, .inl h2⟩
    · exact ⟨h, .inr h2⟩
/-- A step of reached: the set of all neighbours. -/
def nbSet (t : DTopology) (r kind : Int) : Int := (nbs t r kind).foldl addElem 0
def nextOf (t : DTopology) (kind : Int) (l : List Int) : Int := l.foldl (fun s r => uniS s (nbSet t r kind)) 0
def reachTo (t : DTopology) (kind : Int) (l : List Int) : Nat → Int × List Int
  | 0 => (0, l)
  | n + 1 => (uniS (reachTo t kind l n).1 (nextOf t kind (reachTo t kind l n).2), elements (nextOf t kind (reachTo t kind l n).2))
theorem nbSet_mem (t : DTopology) (r kind : Int) : validSet (nbSet t r kind) = true ∧ ∀ j, contains (nbSet t r kind) j = true ↔ j ∈ nbs t r kind := by
  obtain ⟨h1, h2⟩ := fold_add (nbs t r kind) 0 (by decide) (fun i hi => (nbs_mem.1 hi).1)
  refine ⟨h1, fun j => ?_⟩
  unfold nbSet
  rw [h2 j, contains_zero]
  simp
theorem nextOf_mem (t : DTopology) (kind : Int) (l : List Int) : validSet (nextOf t kind l) = true ∧ ∀ j, contains (nextOf t kind l) j = true ↔ ∃ r ∈ l, j ∈ nbs t r kind := by
  suffices h : ∀ (l : List Int) (s : Int), validSet s = true → validSet (l.foldl (fun s r => uniS s (nbSet t r kind)) s) = true ∧ ∀ j, contains (l.foldl (fun s r => uniS s (nbSet t r kind)) s) j = true ↔ contains s j = true ∨ ∃ r ∈ l, j ∈ nbs t r kind by
    obtain ⟨h1, h2⟩ := h l 0 (by decide)
    refine ⟨h1, fun j => ?_⟩
    unfold nextOf
    rw [h2 j, contains_zero]
    simp
  intro l
  induction l with
  | nil => intro s hs; exact ⟨hs, fun j => by simp⟩
  | cons r l ih =>
    intro s hs
    obtain ⟨h1, h2⟩ := ih (uniS s (nbSet t r kind)) uni_valid
    refine ⟨h1, fun j => ?_⟩
    rw [List.foldl_cons, h2 j, uni_contains hs (nbSet_mem t r kind).1, (nbSet_mem t r kind).2]
    constructor
    · rintro ((h | h) | ⟨q, hq, h⟩)
      · exact .inl h
      · exact .inr ⟨r, List.mem_cons_self .., h⟩
      · exact .inr ⟨q, List.mem_cons_of_mem _ hq, h⟩
    · rintro (h | ⟨q, hq, h⟩)
      · exact .inl (.inl h)
      · rcases List.mem_cons.1 hq with rfl | hq
        · exact .inl (.inr h)
        · exact .inr ⟨q, hq, h⟩
theorem reachTo_mem {t : DTopology} (hv : validTop t = true) (r : Int) : ∀ n : Nat, validSet (reachTo t 3 [r] n).1 = true ∧ (∀ j, contains (reachTo t 3 [r] n).1 j = true ↔ ∃ m, 1 ≤ m ∧ m ≤ n ∧ Up t m r j) ∧ ∀ j, j ∈ (reachTo t 3 [r] n).2 ↔ Up t n r j
  | 0 => by
    refine ⟨show validSet 0 = true by decide, fun j => ?_, fun j => ?_⟩
    · show contains 0 j = true ↔ _
      rw [contains_zero]
      constructor
      · intro h; cases h
      · rintro ⟨m, h1, h2, -⟩; omega
    · show j ∈ [r] ↔ r = j
      rw [List.mem_singleton]
      exact eq_comm
  | n + 1 => by
    obtain ⟨h1, h2, h3⟩ := reachTo_mem hv r n
    obtain ⟨n1, n2⟩ := nextOf_mem t 3 (reachTo t 3 [r] n).2
    have hn : ∀ j, contains (nextOf t 3 (reachTo t 3 [r] n).2) j = true ↔ Up t (n + 1) r j := by
      intro j
      rw [n2 j, up_top]
      constructor
      · rintro ⟨q, hq, hj⟩
        exact ⟨q, (h3 q).1 hq, (nbs_dn hv).1 hj⟩
      · rintro ⟨q, hq, hj⟩
        exact ⟨q, (h3 q).2 hq, (nbs_dn hv).2 hj⟩
    refine ⟨uni_valid, fun j => ?_, fun j => ?_⟩
    · show contains (uniS _ _) j = true ↔ _
      rw [uni_contains h1 n1, hn j, h2 j]
      constructor
      · rintro (⟨m, a, b, c⟩ | h)
        · exact ⟨m, a, by omega, c⟩
        · exact ⟨n + 1, by omega, Nat.le_refl _, h⟩
      · rintro ⟨m, a, b, c⟩
        rcases Nat.lt_or_ge m (n + 1) with h | h
        · exact .inl ⟨m, a, by omega, c⟩
        · obtain rfl : m = n + 1 := by omega
          exact .inr c
    · show j ∈ elements _ ↔ _
      rw [mem_elements, hn j]
/-- The cores above r. -/
def coresOf (t : DTopology) (r : Int) : List Int := (elements (addElem (reachTo t 3 [r] 10).1 r)).filter (isCore t)
theorem coresOf_pos {t : DTopology} (hv : validTop t = true) {r : Int} (hr : isAs t r = true) (hc : isCore t r = false) : 0 < (coresOf t r).length ↔ ∃ m x, 1 ≤ m ∧ Up t m r x ∧ isCore t x = true := by
  obtain ⟨h1, h2, -⟩ := reachTo_mem hv r 10
  have hr2 := isAs_iff.1 hr
  have h8 := (validTop_ok hv).1
  rw [List.length_pos_iff_exists_mem]
  unfold coresOf
  constructor
  · rintro ⟨x, hx⟩
    rw [List.mem_filter, mem_elements, contains_addElem h1 (by omega), h2] at hx
    rcases hx.1 with ⟨m, a, -, c⟩ | rfl
    · exact ⟨m, x, a, c, hx.2⟩
    · rw [hc] at hx; cases hx.2
  · rintro ⟨m, x, a, c, d⟩
    have h3 := up_lt hv m r x c
    have h4 := isAs_iff.1 (isCore_as d)
    refine ⟨x, ?_⟩
    rw [List.mem_filter, mem_elements, contains_addElem h1 (by omega), h2]
    exact ⟨.inl ⟨m, a, by omega, c⟩, d⟩
end Go.Proofs.YtpkcoinoiaaebaaGreat
namespace Go.Proofs.YtpkcoinoiaaebaaGreat
open Go.RowKit
set_option linter.unusedVariables false
theorem kind2_link {t : DTopology} {p i : Int} (h : ifKind t p i = 2) : ∃ k, k < t.links.length ∧ (t.links.getD k dLink).kind = 2 ∧ (t.links.getD k dLink).a = p ∧ (t.links.getD k dLink).ai = i ∧ remEnd t p i = ((t.links.getD k dLink).b, (t.links.getD k dLink).bi) := by
  unfold ifKind at h
  split at h
  · omega
  split at h
  · omega
  rename_i h0
  rcases linkIdx_cases t p i with ⟨h1, -⟩ | ⟨k, hk, he, -⟩
  · omega
  rw [he, Int.toNat_natCast] at h
  unfold kindOf at h
  split at h
  · omega
  split at h
  · omega
  split at h
  · rename_i hkd
    split at h
    · rename_i ha
      have ha2 := ha
      unfold atA at ha2
      simp only [Bool.and_eq_true, beq_iff_eq] at ha2
      refine ⟨k, hk, hkd, ha2.1, ha2.2, ?_⟩
      unfold remEnd
      rw [he, if_neg (by omega), Int.toNat_natCast, ha]
      rfl
    · omega
  · omega
/-- A child link seen from its far end. -/
theorem kind2_far {t : DTopology} (hv : validTop t = true) {p i : Int} (h : ifKind t p i = 2) : ifKind t (remEnd t p i).1 (remEnd t p i).2 = 3 := by
  obtain ⟨k, hk, hkd, rfl, rfl, he⟩ := kind2_link h
  rw [he]
  obtain ⟨la, lb, lab, li, lj, lk⟩ := linkOk_parts ((validTop_ok hv).2 k hk)
  have h2 := linkIdx_end hv hk (r := (t.links.getD k dLink).b) (i := (t.links.getD k dLink).bi) (.inr ⟨rfl, rfl⟩)
  have a2 : atA (t.links.getD k dLink) (t.links.getD k dLink).b (t.links.getD k dLink).bi = false := by
    unfold atA
    rw [Bool.and_eq_false_iff]
    exact .inl (beq_eq_false_iff_ne.2 (by omega))
  dsimp only
  unfold ifKind kindOf
  rw [if_neg (by omega), h2, if_neg (by omega), Int.toNat_natCast, hkd, a2]
  rfl
theorem kind_of_link {t : DTopology} {a i : Int} {k : Nat} (hi : i ≠ 0) (he : linkIdx t a i = k) : ifKind t a i = kindOf (t.links.getD k dLink) a i := by
  unfold ifKind
  rw [if_neg hi, he, if_neg (by omega), Int.toNat_natCast]
theorem kindOk_cases {a b : DAS} {k : Int} (h : kindOk a b k = true) : (k = 1 ∧ a.core = true ∧ b.core = true) ∨ k = 2 ∨ k = 3 := by
  unfold kindOk at h
  split at h
  · rename_i hk
    rw [Bool.and_eq_true] at h
    exact .inl ⟨hk, h⟩
  split at h
  · rename_i hk; exact .inr (.inl hk)
  split at h
  · rename_i hk; exact .inr (.inr hk)
  · cases h
theorem kind_real {t : DTopology} (hv : TopOk t) {a i : Int} (hi : i ≠ 0) (h : 0 ≤ linkIdx t a i) : ifKind t a i ≠ 0 := by
  rcases rem_cases hv a i with ⟨h1, -⟩ | ⟨k, hk, he, hl, -⟩
  · omega
  · rw [kind_of_link hi he]
    obtain ⟨-, -, -, -, -, lk⟩ := linkOk_parts hl
    unfold kindOf
    rcases kindOk_cases lk with ⟨h1, -⟩ | h1 | h1 <;> rw [h1]
    · rw [if_pos rfl]; omega
    · rw [if_neg (by omega), if_neg (by omega), if_pos rfl]
      split <;> omega
    · rw [if_neg (by omega), if_pos rfl]; omega
theorem kind1_core {t : DTopology} (hv : TopOk t) {a i : Int} (h : ifKind t a i = 1) : isCore t (remEnd t a i).1 = true := by
  have hi : i ≠ 0 := fun e => by
    unfold ifKind at h
    rw [if_pos e] at h
    omega
  have h0 := ifKind_idx hi (by rw [h]; omega)
  rcases rem_cases hv a i with ⟨h1, -⟩ | ⟨k, hk, he, hl, hr⟩
  · omega
  · rw [kind_of_link hi he] at h
    obtain ⟨la, lb, -, -, -, lk⟩ := linkOk_parts hl
    have hk1 : (t.links.getD k dLink).kind = 1 := by
      unfold kindOf at h
      split at h
      · assumption
      split at h
      · omega
      split at h
      · split at h <;> omega
      · omega
    rcases kindOk_cases lk with ⟨-, c1, c2⟩ | h1 | h1
    · unfold isCore
      rcases hr with ⟨-, -, e⟩ | ⟨-, -, -, e⟩ <;> rw [e] <;> dsimp only
      · rw [lb, c2]; rfl
      · rw [la, c1]; rfl
    · omega
    · omega
theorem kstep_all {t : DTopology} {c : Int} : ∀ (l : List DHop) (z : Int), (∀ h ∈ l, h.egr ≠ 0 → ifKind t h.asn h.egr ≠ 0) → l.foldl (kstep t) (some z) = some c → (z = 0 ∨ z = c) ∧ ∀ h ∈ l, h.egr ≠ 0 → ifKind t h.asn h.egr = c
  | [], z, _, h => by
    have h : some z = some c := h
    injection h with h
    exact ⟨.inr h, fun x hx => by simp at hx⟩
  | x :: l, z, hr, h => by
    have hr2 : ∀ h ∈ l, h.egr ≠ 0 → ifKind t h.asn h.egr ≠ 0 := fun y hy => hr y (List.mem_cons_of_mem _ hy)
    rw [List.foldl_cons] at h
    by_cases he : x.egr = 0
    · have e : kstep t (some z) x = some z := by unfold kstep; simp only [if_pos he]
      rw [e] at h
      obtain ⟨h1, h2⟩ := kstep_all l z hr2 h
      refine ⟨h1, fun y hy hye => ?_⟩
      rcases List.mem_cons.1 hy with rfl | hy
      · exact absurd he hye
      · exact h2 y hy hye
    · have hx := hr x (List.mem_cons_self ..) he
      by_cases hz : z = 0
      · have e : kstep t (some z) x = some (ifKind t x.asn x.egr) := by unfold kstep; simp only [if_neg he, if_pos hz]
        rw [e] at h
        obtain ⟨h1, h2⟩ := kstep_all l _ hr2 h
        have h3 : ifKind t x.asn x.egr = c := h1.resolve_left hx
        refine ⟨.inl hz, fun y hy hye => ?_⟩
        rcases List.mem_cons.1 hy with rfl | hy
        · exact h3
        · exact h2 y hy hye
      · by_cases hk : ifKind t x.asn x.egr = z
        · have e : kstep t (some z) x = some z := by unfold kstep; simp only [if_neg he, if_neg hz, if_pos hk]
          rw [e] at h
          obtain ⟨h1, h2⟩ := kstep_all l z hr2 h
          have h3 : z = c := h1.resolve_left hz
          refine ⟨.inr h3, fun y hy hye => ?_⟩
          rcases List.mem_cons.1 hy with rfl | hy
          · rw [hk, h3]
          · exact h2 y hy hye
        · have e : kstep t (some z) x = none := by unfold kstep; simp only [if_neg he, if_neg hz, if_neg hk]
          rw [e, kfold_none] at h
          cases h
/-- What lies behind each hop of a segment that can be handed on to r. -/
theorem hop_far {t : DTopology} {s : DSegment} {r inn : Int} (h : canExt t s r inn = true) {k : Nat} (hk : k < s.hops.length) : (s.hops.getD k dHop).egr ≠ 0 ∧ (remEnd t (s.hops.getD k dHop).asn (s.hops.getD k dHop).egr).1 = (if k + 1 < s.hops.length then (s.hops.getD (k + 1) dHop).asn else r) ∧ 0 ≤ linkIdx t (s.hops.getD k dHop).asn (s.hops.getD k dHop).egr := by
  obtain ⟨h1, hv, h3, -, h5, h6⟩ := canExt_parts h
  split
  · rename_i hk2
    have a := hv.step k hk
    have b := hv.step (k + 1) hk2
    unfold stepFine at a b
    simp only [Bool.and_eq_true, Bool.not_eq_true', Bool.and_eq_false_iff, Bool.or_eq_true, decide_eq_true_eq, decide_eq_false_iff_not, beq_eq_false_iff_ne] at a b
    have hne : (s.hops.getD k dHop).egr ≠ 0 := a.1.resolve_right (fun h => h hk2)
    have hr := (b.2.resolve_left (by omega)).1
    rw [Nat.add_sub_cancel] at hr
    exact ⟨hne, hr, rem_as (by rw [hr]; exact (hop_of_ver hv hk2).2)⟩
  · obtain rfl : k = s.hops.length - 1 := by omega
    exact ⟨h3, h5, rem_as (by
      have h5 : (remEnd t (s.hops.getD (s.hops.length - 1) dHop).asn (s.hops.getD (s.hops.length - 1) dHop).egr).1 = r := h5
      rw [h5]; exact h1)⟩
theorem hop_kinds {t : DTopology} (hv : TopOk t) {s : DSegment} {r inn c : Int} (h : canExt t s r inn = true) (hc : kindFold t s.hops = some c) {k : Nat} (hk : k < s.hops.length) : ifKind t (s.hops.getD k dHop).asn (s.hops.getD k dHop).egr = c := by
  have hall : ∀ x ∈ s.hops, x.egr ≠ 0 → ifKind t x.asn x.egr ≠ 0 := by
    intro x hx he
    obtain ⟨j, hj, rfl⟩ := List.mem_iff_getElem.1 hx
    have e : s.hops.getD j dHop = s.hops[j] := by simp [List.getD_eq_getElem?_getD, hj]
    have h2 := (hop_far h hj).2.2
    rw [e] at h2
    exact kind_real hv he h2
  have h3 := (kstep_all s.hops 0 hall hc).2
  exact h3 _ (getD_mem hk) (hop_far h hk).1
/-- What came to a realm that is no core came down. -/
theorem noncore_down {t : DTopology} (hv : TopOk t) {s : DSegment} {r inn : Int} (h : canExt t s r inn = true) (hc : isCore t r = false) : kindFold t s.hops = some 2 := by
  obtain ⟨-, h2, -, -, h5, -⟩ := canExt_parts h
  rcases h2.kind with h1 | h1
  · exfalso
    have h3 := hop_kinds hv h h1 (k := s.hops.length - 1) (by have := h2.pos; omega)
    have h4 := kind1_core hv h3
    have h5 : (remEnd t (s.hops.getD (s.hops.length - 1) dHop).asn (s.hops.getD (s.hops.length - 1) dHop).egr).1 = r := h5
    rw [h5, hc] at h4
    cases h4
  · exact h1
/-- The realms of a segment that came down lie one above the other. -/
theorem chain_up {t : DTopology} (hv : TopOk t) {s : DSegment} {r inn : Int} (h : canExt t s r inn = true) (hc : kindFold t s.hops = some 2) : ∀ d, 1 ≤ d → d ≤ s.hops.length → Up t d r (s.hops.getD (s.hops.length - d) dHop).asn
  | 0, h1, _ => by omega
  | d + 1, _, hd => by
    have hk : s.hops.length - (d + 1) < s.hops.length := by omega
    have h2 := kind2_dn (hop_kinds hv h hc hk)
    rw [(hop_far h hk).2.1] at h2
    rw [up_top]
    rcases Nat.eq_zero_or_pos d with rfl | h0
    · rw [if_neg (by omega)] at h2
      exact ⟨r, rfl, h2⟩
    · rw [if_pos (by omega)] at h2
      have e : s.hops.length - (d + 1) + 1 = s.hops.length - d := by omega
      rw [e] at h2
      exact ⟨_, chain_up hv h hc d h0 (by omega), h2⟩
theorem down_facts {t : DTopology} (hvt : validTop t = true) {s : DSegment} {r inn : Int} (h : canExt t s r inn = true) (hc : kindFold t s.hops = some 2) : s.hops.length ≤ 7 ∧ ∀ x ∈ s.hops, x.asn < r := by
  have hv := validTop_ok hvt
  obtain ⟨h1, h2, -⟩ := canExt_parts h
  have hr := isAs_iff.1 h1
  have h8 := hv.1
  have hlt : ∀ k, k < s.hops.length → (s.hops.getD k dHop).asn + (s.hops.length - k : Nat) ≤ r := by
    intro k hk
    have h3 := up_lt hvt _ _ _ (chain_up hv h hc (s.hops.length - k) (by omega) (by omega))
    have e : s.hops.length - (s.hops.length - k) = k := by omega
    rw [e] at h3
    exact h3
  refine ⟨?_, fun x hx => ?_⟩
  · have h3 := hlt 0 h2.pos
    have h4 := isAs_iff.1 (hop_of_ver h2 h2.pos).2
    omega
  · obtain ⟨j, hj, rfl⟩ := List.mem_iff_getElem.1 hx
    have e : s.hops.getD j dHop = s.hops[j] := by simp [List.getD_eq_getElem?_getD, hj]
    have := hlt j hj
    rw [e] at this
    omega
theorem polFor_nil (r : Int) : polFor [] r = dPolicy := by
  unfold polFor
  have e : inR r 0 ((([] : List DPolicy).length : Int) - 1) = false := by
    cases h : inR r 0 ((([] : List DPolicy).length : Int) - 1)
    · rfl
    · have := inR_iff.1 h
      simp at this
      omega
  rw [e]
  rfl
theorem allows_d {s : DSegment} (h : s.hops.length < 8) (out : Int) : allows dPolicy s out = true := by
  unfold allows
  simp only [Bool.and_eq_true, Bool.not_eq_true', decide_eq_true_eq, List.all_eq_true]
  refine ⟨?_, contains_zero _, fun x _ => contains_zero _⟩
  show (s.hops.length : Int) < 8
  omega
/-- A store that is not empty. -/
def Full (st : List DBeaconStore) (r : Nat) : Prop := (st.getD r dStr).beacons ≠ []
theorem cut12_ne {l : List DBeacon} (h : l ≠ []) : cut12 l ≠ [] := by
  unfold cut12
  split
  · intro e
    have := congrArg List.length e
    rw [List.length_take] at this
    simp at this
    omega
  · exact h
theorem insB_ne (l : List DBeacon) (g : DBeacon) : insB l g ≠ [] := fun e => by
  have h := insB_len l g
  rw [e] at h
  simp at h
theorem storeB_keep {t : DTopology} {r : Int} {l : List DBeacon} {g : DBeacon} (h : l ≠ []) : storeB t r l g ≠ [] := by
  unfold storeB
  split
  · exact cut12_ne (insB_ne _ _)
  · exact h
theorem storeB_new {t : DTopology} {r : Int} {l : List DBeacon} {g : DBeacon} (h : canExt t g.seg r g.ing = true) : storeB t r l g ≠ [] := by
  unfold storeB
  split
  · exact cut12_ne (insB_ne _ _)
  · rename_i hc
    rw [h, Bool.true_and, Bool.not_eq_true', Bool.not_eq_false] at hc
    have := hasBcn_iff.1 hc
    exact List.ne_nil_of_mem this
theorem delStep_keep {t : DTopology} {st : List DBeaconStore} {m : DBeaconMessage} {r : Nat} (h : Full st r) : Full (delStep t st m) r := by
  unfold delStep
  split
  · rename_i hr
    obtain ⟨h0, h1⟩ := inR_iff.1 hr
    by_cases he : m.to.toNat = r
    · subst he
      have hl : m.to.toNat < st.length := by omega
      have e : (st.set m.to.toNat ⟨storeB t m.to (st.getD m.to.toNat dStr).beacons m.beacon⟩).getD m.to.toNat dStr = ⟨storeB t m.to (st.getD m.to.toNat dStr).beacons m.beacon⟩ := by simp [List.getD_eq_getElem?_getD, hl]
      unfold Full
      rw [e]
      exact storeB_keep h
    · have e : (st.set m.to.toNat ⟨storeB t m.to (st.getD m.to.toNat dStr).beacons m.beacon⟩).getD r dStr = st.getD r dStr := by
        rw [List.getD_eq_getElem?_getD, List.getElem?_set_ne he, ← List.getD_eq_getElem?_getD]
      unfold Full
      rw [e]
      exact h
  · exact h
theorem delFold_keep {t : DTopology} {r : Nat} : ∀ (l : List DBeaconMessage) (st : List DBeaconStore), Full st r → Full (l.foldl (delStep t) st) r
  | [], _, h => h
  | _ :: l, _, h => delFold_keep l _ (delStep_keep h)
theorem delFold_new {t : DTopology} {r : Nat} {m : DBeaconMessage} (hto : m.to = r) (hc : canExt t m.beacon.seg r m.beacon.ing = true) : ∀ (l : List DBeaconMessage) (st : List DBeaconStore), r < st.length → m ∈ l → Full (l.foldl (delStep t) st) r
  | [], _, _, h => by simp at h
  | x :: l, st, hr, h => by
    rw [List.foldl_cons]
    rcases List.mem_cons.1 h with rfl | h
    · refine delFold_keep l _ ?_
      unfold delStep
      rw [hto, if_pos (inR_iff.2 ⟨by omega, by omega⟩), Int.toNat_natCast]
      have e : (st.set r ⟨storeB t r (st.getD r dStr).beacons m.beacon⟩).getD r dStr = ⟨storeB t r (st.getD r dStr).beacons m.beacon⟩ := by simp [List.getD_eq_getElem?_getD, hr]
      unfold Full
      rw [e]
      exact storeB_new hc
    · exact delFold_new hto hc l _ (by rw [delStep_len]; exact hr) h
theorem runTo_len {t : DTopology} (hv : validTop t = true) (l : List DPolicy) (ts : Int) : ∀ n, (runTo t l ts n).stores.length = t.ases.length
  | 0 => by
    show (newBeac t ts).stores.length = _
    unfold newBeac
    rw [hv, if_pos rfl, List.length_replicate]
  | n + 1 => (runRound_len t l _).trans (runTo_len hv l ts n)
theorem runTo_vs (t : DTopology) (l : List DPolicy) (ts : Int) : ∀ n, VSs t (runTo t l ts n).stores
  | 0 => by
    intro r h
    have e : (runTo t l ts 0).stores[r].beacons = [] := by
      have h2 := newBeac_all (P := fun _ => False) t ts
      have h3 := h2 _ (List.getElem_mem h)
      cases h4 : (runTo t l ts 0).stores[r].beacons with
      | nil => rfl
      | cons a b => exact (h3 a (by rw [h4]; exact List.mem_cons_self ..)).elim
    rw [e]
    exact ⟨by simp, fun g hg => by simp at hg, List.nodup_nil⟩
  | n + 1 => (runRound_vs (runTo_vs t l ts n)).1
theorem round_full {t : DTopology} (hv : validTop t = true) {l : List DPolicy} {b : DBeaconing} {p r : Nat} {m : DBeaconMessage} (hp : p < b.stores.length) (hr : r < b.stores.length) (hm : m ∈ roundOne t l b p) (hto : m.to = r) (hc : canExt t m.beacon.seg r m.beacon.ing = true) : Full (runRound t l b).stores r := by
  unfold runRound delB
  dsimp only
  rw [if_pos hv]
  refine delFold_new hto hc _ _ hr ?_
  unfold roundTo
  exact List.mem_flatMap.2 ⟨p, List.mem_range.2 hp, hm⟩
/-- From a core a beacon goes down every child link. -/
theorem orig_msg {t : DTopology} (hv : validTop t = true) {p i ts : Int} (hc : isCore t p = true) (hi : 1 ≤ i ∧ i ≤ 6) (hk : ifKind t p i = 2) (h0 : 0 ≤ ts) (h1 : ts ≤ 1000000) : ∃ m ∈ origMsgs t [] p ts, m.to = (remEnd t p i).1 ∧ canExt t m.beacon.seg (remEnd t p i).1 m.beacon.ing = true := by
  have hok : ∀ z beta : Int, 0 ≤ z → z ≤ 1000000 → isRes beta = true → origOk t dPolicy p i z beta = true := by
    intro z beta z0 z1 hb
    unfold origOk
    rw [hc, inR_iff.2 hi, hk, allows_d (by simp) i, inR_iff.2 ⟨z0, z1⟩, hb]
    rfl
  have hb : isRes (origBeta t p ts i) = true := mac_res _ _
  have h2 := hok ts _ h0 h1 hb
  refine ⟨origMsg t dPolicy p ts i, ?_, rfl, ?_⟩
  · unfold origMsgs
    rw [if_pos hv, polFor_nil]
    unfold origMsgsTo
    refine List.mem_map.2 ⟨i, List.mem_filter.2 ⟨?_, h2⟩, rfl⟩
    unfold origIfs origTo
    refine List.mem_map.2 ⟨(i - 1).toNat, List.mem_filter.2 ⟨List.mem_range.2 (by omega), ?_⟩, by omega⟩
    have e : (((i - 1).toNat : Nat) : Int) + 1 = i := by omega
    rw [e]
    exact hok 0 0 (by omega) (by omega) (by decide)
  · unfold origMsg origSeg
    rw [if_pos h2]
    exact orig_canExt (validTop_ok hv) dPolicy_valid h2
/-- What came down goes down every child link. -/
theorem prop_msg {t : DTopology} (hv : validTop t = true) {p i : Int} {got : List DBeacon} {g : DBeacon} (hg : g ∈ got) (hx : canExt t g.seg p g.ing = true) (hc : isCore t p = false) (hi : 1 ≤ i ∧ i ≤ 6) (hk : ifKind t p i = 2) : ∃ m ∈ propMsgs t [] p got, m.to = (remEnd t p i).1 ∧ canExt t m.beacon.seg (remEnd t p i).1 m.beacon.ing = true := by
  have ho := validTop_ok hv
  have h2 := noncore_down ho hx hc
  obtain ⟨f1, f2⟩ := down_facts hv hx h2
  have hd := kind2_dn hk
  have hlt := (dn_parts hv hd).1
  obtain ⟨-, hvs, -, -, h5, h6⟩ := canExt_parts hx
  have hne : i ≠ g.ing := by
    rintro rfl
    have h7 := hop_kinds ho hx h2 (k := g.seg.hops.length - 1) (by have := hvs.pos; omega)
    have h8 := kind2_far hv h7
    have h5 : (remEnd t (g.seg.hops.getD (g.seg.hops.length - 1) dHop).asn (g.seg.hops.getD (g.seg.hops.length - 1) dHop).egr).1 = p := h5
    have h6 : (remEnd t (g.seg.hops.getD (g.seg.hops.length - 1) dHop).asn (g.seg.hops.getD (g.seg.hops.length - 1) dHop).egr).2 = g.ing := h6
    rw [h5, h6, hk] at h8
    omega
  have hw : extWant t g.seg = 2 := by
    unfold extWant
    rw [segKind_of hvs, h2]
    rfl
  have hext : extOk t dPolicy g.seg p g.ing i = true := by
    unfold extOk
    rw [hx, inR_iff.2 hi, allows_d (by omega) i, hk, hw]
    simp [hne]
  have hfar : (remEnd t p i).1 ≠ p := by omega
  have hhas : hasI (ases g.seg.hops) (remEnd t p i).1 = false := by
    rw [hasI_ases]
    intro x hx2
    have := f2 x hx2
    omega
  refine ⟨propMsg t dPolicy p g i, ?_, rfl, ?_⟩
  · unfold propMsgs
    rw [if_pos hv, polFor_nil]
    refine List.mem_flatMap.2 ⟨g, hg, ?_⟩
    unfold propOne
    refine List.mem_map.2 ⟨i, ?_, rfl⟩
    unfold egrIfs egrTo
    refine List.mem_map.2 ⟨(i - 1).toNat, List.mem_filter.2 ⟨List.mem_range.2 (by omega), ?_⟩, by omega⟩
    have e : (((i - 1).toNat : Nat) : Int) + 1 = i := by omega
    unfold egrOk
    rw [e, hext, hhas]
    simp [hfar]
  · exact ext_canExt ho dPolicy_valid hext hfar hhas
/-- After n rounds every realm that lies at most n child links below a core has a beacon. -/
theorem full_of {t : DTopology} (hv : validTop t = true) {ts : Int} (h0 : 0 ≤ ts) (h1 : ts ≤ 1000000) {x : Int} (hx : isCore t x = true) : ∀ (n m : Nat) (r : Nat), 1 ≤ m → m ≤ n → Up t m r x → Full (runTo t [] ts n).stores r
  | 0, m, r, a, b, _ => by omega
  | n + 1, 0, r, a, _, _ => by omega
  | n + 1, m + 1, r, _, b, hu => by
    obtain ⟨p, hd, hup⟩ := hu
    obtain ⟨-, hpa, hra, -, i, j, hi, -, hk, hrem, -⟩ := dn_parts hv hd
    obtain ⟨p', rfl, hp'⟩ := isAs_nat hpa
    have hr' := isAs_iff.1 hra
    have hlen := runTo_len hv [] ts n
    have hts := runTo_ts t [] ts n
    show Full (runRound t [] (runTo t [] ts n)).stores r
    rcases Nat.eq_zero_or_pos m with rfl | hm
    · have hup : (p' : Int) = x := hup
      obtain ⟨y, hy, hto, hcy⟩ := orig_msg hv (p := (p' : Int)) (ts := ts) (by rw [hup]; exact hx) hi hk h0 h1
      rw [hrem] at hto hcy
      refine round_full hv (p := p') (by omega) (by omega) ?_ hto hcy
      unfold roundOne
      rw [hts]
      exact List.mem_append.2 (.inl hy)
    · have hfull := full_of hv h0 h1 hx n m p' hm (by omega) hup
      have hpc : isCore t (p' : Int) = false := by
        obtain ⟨m', rfl⟩ : ∃ m', m = m' + 1 := ⟨m - 1, by omega⟩
        obtain ⟨q, hq, -⟩ := hup
        exact (dn_parts hv hq).2.2.2.1
      have hpl : p' < (runTo t [] ts n).stores.length := by omega
      have hvs := (runTo_vs t [] ts n p' hpl).2.1
      have e : (runTo t [] ts n).stores.getD p' dStr = (runTo t [] ts n).stores[p'] := by simp [List.getD_eq_getElem?_getD, hpl]
      unfold Full at hfull
      rw [e] at hfull
      obtain ⟨g, hg⟩ := List.exists_mem_of_ne_nil _ hfull
      obtain ⟨y, hy, hto, hcy⟩ := prop_msg hv hg (hvs g hg) hpc hi hk
      rw [hrem] at hto hcy
      refine round_full hv (p := p') (by omega) (by omega) ?_ hto hcy
      unfold roundOne
      rw [e]
      exact List.mem_append.2 (.inr hy)
/-- What is in a database that is built. -/
theorem dbStep_keep {t : DTopology} {l : List DPolicy} {r : Int} {k : DSegmentDatabase} {g : DBeacon} {s : DSegment} (h : s ∈ k.down) : s ∈ (dbStep t l r k g).down := by
  unfold dbStep
  split
  · unfold dbPut
    split
    · exact List.mem_append.2 (.inl h)
    · exact h
  · exact h
theorem dbGots_keep {t : DTopology} {l : List DPolicy} {r : Int} {s : DSegment} : ∀ (m : List DBeacon) (k : DSegmentDatabase), s ∈ k.down → s ∈ (dbGots t l r k m).down
  | [], _, h => h
  | _ :: m, _, h => dbGots_keep m _ (dbStep_keep h)
theorem dbGots_new {t : DTopology} {l : List DPolicy} {r : Int} {g : DBeacon} (ht : termOk t (polFor l r) g.seg r g.ing = true) (hk : segKind t (grownSeg t (polFor l r) g.seg r g.ing 0) = 2) : ∀ (m : List DBeacon) (k : DSegmentDatabase), g ∈ m → grownSeg t (polFor l r) g.seg r g.ing 0 ∈ (dbGots t l r k m).down
  | [], _, h => by simp at h
  | x :: m, k, h => by
    rcases List.mem_cons.1 h with rfl | h
    · refine dbGots_keep m _ ?_
      unfold dbStep dbPut
      rw [if_pos ht, if_pos hk]
      exact List.mem_append.2 (.inr (List.mem_singleton.2 rfl))
    · exact dbGots_new ht hk m _ h
theorem dbGots_down {t : DTopology} {l : List DPolicy} {r : Int} {s : DSegment} : ∀ (m : List DBeacon) (k : DSegmentDatabase), s ∈ (dbGots t l r k m).down → s ∈ k.down ∨ ∃ g ∈ m, termOk t (polFor l r) g.seg r g.ing = true ∧ s = grownSeg t (polFor l r) g.seg r g.ing 0 ∧ segKind t s = 2
  | [], _, h => .inl h
  | g :: m, k, h => by
    rcases dbGots_down m _ h with h | ⟨x, hx, h⟩
    · unfold dbStep at h
      split at h
      · rename_i ht
        unfold dbPut at h
        split at h
        · rename_i hk
          rcases List.mem_append.1 h with h | h
          · exact .inl h
          · obtain rfl := List.mem_singleton.1 h
            exact .inr ⟨g, List.mem_cons_self .., ht, rfl, hk⟩
        · exact .inl h
      · exact .inl h
    · exact .inr ⟨x, List.mem_cons_of_mem _ hx, h⟩
theorem dbTo_down {t : DTopology} {l : List DPolicy} {x : List DBeaconStore} {s : DSegment} : ∀ n : Nat, s ∈ (dbTo t l x n).down ↔ ∃ r : Nat, r < n ∧ ∃ g ∈ (x.getD r dStore).beacons, termOk t (polFor l r) g.seg r g.ing = true ∧ s = grownSeg t (polFor l r) g.seg r g.ing 0 ∧ segKind t s = 2
  | 0 => by
    constructor
    · intro h
      simp [dbTo] at h
    · rintro ⟨r, h, -⟩; omega
  | n + 1 => by
    show s ∈ (dbGots t l n (dbTo t l x n) (x.getD n dStore).beacons).down ↔ _
    constructor
    · intro h
      rcases dbGots_down _ _ h with h | h
      · obtain ⟨r, hr, h⟩ := (dbTo_down n).1 h
        exact ⟨r, by omega, h⟩
      · exact ⟨n, by omega, h⟩
    · rintro ⟨r, hr, g, hg, ht, rfl, hk⟩
      rcases Nat.lt_or_ge r n with h | h
      · exact dbGots_keep _ _ ((dbTo_down n).2 ⟨r, h, g, hg, ht, rfl, hk⟩)
      · obtain rfl : r = n := by omega
        exact dbGots_new ht hk _ _ hg
theorem lastAS_grown (t : DTopology) (p : DPolicy) (s : DSegment) (r inn out : Int) : lastAS (grownSeg t p s r inn out) = r := by
  have h := last_grown t p s r inn out
  unfold lastHop at h
  unfold lastAS
  rw [if_neg (by rw [grownSeg_len]; omega), h]
  rfl
/-- The law. -/
theorem reached_law {t : DTopology} (hv : validTop t = true) {ts : Int} (h0 : 0 ≤ ts) (h1 : ts ≤ 1000000) {r : Nat} (hr : r < t.ases.length) (hc : isCore t r = false) : 0 < (downSegs (buildDb t [] (runBeac t [] ts)) r).length ↔ 0 < (coresOf t r).length := by
  have ho := validTop_ok hv
  have hra : isAs t r = true := isAs_iff.2 ⟨by omega, by omega⟩
  have hlen := runTo_len hv [] ts 8
  have hvs := runTo_vs t [] ts 8
  rw [coresOf_pos hv hra hc, List.length_pos_iff_exists_mem]
  unfold downSegs
  constructor
  · rintro ⟨s, hs⟩
    rw [List.mem_filter, beq_iff_eq] at hs
    obtain ⟨hs, hl⟩ := hs
    unfold buildDb at hs
    obtain ⟨q, hq, g, hg, ht, rfl, hk⟩ := (dbTo_down _).1 hs
    rw [lastAS_grown] at hl
    obtain rfl : q = r := by omega
    have hx : canExt t g.seg q g.ing = true := by
      unfold termOk at ht
      rw [Bool.and_eq_true] at ht
      exact ht.1
    have hvg := (canExt_parts hx).2.1
    have h2 := noncore_down ho hx hc
    have h3 := chain_up ho hx h2 g.seg.hops.length hvg.pos (Nat.le_refl _)
    rw [Nat.sub_self] at h3
    exact ⟨_, _, hvg.pos, h3, hvg.core⟩
  · rintro ⟨m, x, hm, hu, hx⟩
    have h3 := up_lt hv m r x hu
    have h4 := isAs_iff.1 (isCore_as hx)
    have h8 := ho.1
    have hf := full_of hv h0 h1 hx 8 m r hm (by omega) hu
    have hrl : r < (runTo t [] ts 8).stores.length := by omega
    have e : (runTo t [] ts 8).stores.getD r dStr = (runTo t [] ts 8).stores[r] := by simp [List.getD_eq_getElem?_getD, hrl]
    have e2 : (runTo t [] ts 8).stores.getD r dStore = (runTo t [] ts 8).stores[r] := by simp [List.getD_eq_getElem?_getD, hrl]
    unfold Full at hf
    rw [e] at hf
    obtain ⟨g, hg⟩ := List.exists_mem_of_ne_nil _ hf
    have hxg := (hvs r hrl).2.1 g hg
    have h2 := noncore_down ho hxg hc
    have ht : termOk t (polFor [] r) g.seg r g.ing = true := by
      rw [polFor_nil]
      unfold termOk
      rw [hxg, allows_d (by have := (down_facts hv hxg h2).1; omega)]
      rfl
    have h5 := termOk_valid ho (polFor_valid [] r) ht
    have hk : segKind t (grownSeg t (polFor [] r) g.seg r g.ing 0) = 2 := by
      rw [segKind_of h5.1, h5.2, h2]
      rfl
    refine ⟨grownSeg t (polFor [] r) g.seg r g.ing 0, List.mem_filter.2 ⟨?_, by rw [lastAS_grown]; simp⟩⟩
    unfold buildDb
    exact (dbTo_down _).2 ⟨r, by show r < (runTo t [] ts 8).stores.length; exact hrl, g, by show g ∈ ((runTo t [] ts 8).stores.getD r dStore).beacons; rw [e2]; exact hg, ht, rfl, hk⟩
end Go.Proofs.YtpkcoinoiaaebaaGreat

