/- What the law FnUsurps asks, in plain words: a root that follows the last one is accepted exactly if enough voters signed it. No conditions. -/
import Derived.Test.YtddaodemdkjijaaGreatL18g
namespace Go.Proofs.YtddaodemdkjijaaGreat
open Go.RowKit
set_option linter.unusedVariables false
theorem nd_le : ∀ (A B : List Int), A.Nodup → (∀ x ∈ A, x ∈ B) → A.length ≤ B.length
  | [], B, _, _ => by simp
  | a :: A, B, h, hs => by
    rw [List.nodup_cons] at h
    have ha : a ∈ B := hs a (List.mem_cons_self ..)
    have h1 := nd_le A (B.erase a) h.2 fun x hx => (List.mem_erase_of_ne (fun e => h.1 (by rw [← e]; exact hx))).2 (hs x (List.mem_cons_of_mem _ hx))
    have h2 := List.length_erase_of_mem ha
    have h3 : 0 < B.length := List.length_pos_of_mem ha
    rw [List.length_cons]
    omega
theorem nd_eq {A B : List Int} (hA : A.Nodup) (hB : B.Nodup) (h : ∀ x, x ∈ A ↔ x ∈ B) : A.length = B.length :=
  Nat.le_antisymm (nd_le A B hA fun x => (h x).1) (nd_le B A hB fun x => (h x).2)
theorem mem_elements {s j : Int} : j ∈ elements s ↔ contains s j = true := by
  unfold elements elemsTo
  constructor
  · intro h
    obtain ⟨i, hi, rfl⟩ := List.mem_map.1 h
    exact (List.mem_filter.1 hi).2
  · intro h
    have h2 := h
    unfold contains at h2
    rw [Bool.and_eq_true, Bool.and_eq_true] at h2
    obtain ⟨h0, h15⟩ := inR_iff.1 h2.2.1
    refine List.mem_map.2 ⟨j.toNat, List.mem_filter.2 ⟨List.mem_range.2 (by omega), ?_⟩, by omega⟩
    rw [show ((j.toNat : Nat) : Int) = j by omega]
    exact h
theorem elements_nodup (s : Int) : (elements s).Nodup := by
  unfold elements elemsTo
  refine (List.Pairwise.filter _ List.nodup_range).map _ ?_
  intro a b hab e
  exact hab (by omega)
theorem contains_range {s j : Int} (h : contains s j = true) : 0 ≤ j ∧ j ≤ 15 := by
  unfold contains at h
  rw [Bool.and_eq_true, Bool.and_eq_true] at h
  exact inR_iff.1 h.2.1
theorem addElem_valid {s i : Int} (hs : validSet s = true) (hi : 0 ≤ i ∧ i ≤ 15) : validSet (addElem s i) = true := by
  obtain ⟨h0, h1⟩ := inR_iff.1 hs
  unfold addElem
  rw [hs, inR_iff.2 hi]
  refine inR_iff.2 ⟨by simp, ?_⟩
  simp only [Bool.and_self, if_true]
  have h2 : s.toNat < 2 ^ 16 := by omega
  have h3 : 2 ^ i.toNat < 2 ^ 16 := Nat.pow_lt_pow_right (by omega) (by omega)
  have h4 := Nat.or_lt_two_pow h2 h3
  omega
theorem contains_addElem {s i j : Int} (hs : validSet s = true) (hi : 0 ≤ i ∧ i ≤ 15) : contains (addElem s i) j = true ↔ (contains s j = true ∨ j = i) := by
  have hv := addElem_valid hs hi
  unfold contains
  rw [hv, hs]
  simp only [Bool.true_and, Bool.and_eq_true]
  unfold addElem
  rw [hs, inR_iff.2 hi]
  simp only [Bool.and_self, if_true, Int.toNat_natCast, Nat.testBit_or, Bool.or_eq_true]
  constructor
  · rintro ⟨h1, h2 | h2⟩
    · exact .inl ⟨h1, h2⟩
    · right
      have := (inR_iff.1 h1)
      rw [Nat.testBit_two_pow] at h2
      have h3 : i.toNat = j.toNat := by simpa using h2
      omega
  · rintro (⟨h1, h2⟩ | rfl)
    · exact ⟨h1, .inl h2⟩
    · exact ⟨inR_iff.2 hi, .inr (by rw [Nat.testBit_two_pow]; simp)⟩
theorem fold_add : ∀ (L : List Int) (s : Int), validSet s = true → (∀ i ∈ L, 0 ≤ i ∧ i ≤ 15) → validSet (L.foldl addElem s) = true ∧ ∀ j, contains (L.foldl addElem s) j = true ↔ (contains s j = true ∨ j ∈ L)
  | [], s, hs, _ => ⟨hs, fun j => by simp⟩
  | i :: L, s, hs, hL => by
    have hi := hL i (List.mem_cons_self ..)
    obtain ⟨h1, h2⟩ := fold_add L (addElem s i) (addElem_valid hs hi) fun j hj => hL j (List.mem_cons_of_mem _ hj)
    refine ⟨h1, fun j => ?_⟩
    rw [List.foldl_cons, h2 j, contains_addElem hs hi, List.mem_cons]
    constructor
    · rintro ((h | h) | h)
      · exact .inl h
      · exact .inr (.inl h)
      · exact .inr (.inr h)
    · rintro (h | h | h)
      · exact .inl (.inl h)
      · exact .inl (.inr h)
      · exact .inr h
theorem contains_zero (j : Int) : contains 0 j = false := by
  unfold contains
  simp
/-- How many there are in a set of the first k of another one. -/
theorem fold_size (s : Int) (k : Nat) (hk : k ≤ (elements s).length) : (elements (((elements s).take k).foldl addElem 0)).length = k := by
  have hr : ∀ i ∈ (elements s).take k, 0 ≤ i ∧ i ≤ 15 := fun i hi => contains_range (mem_elements.1 (List.mem_of_mem_take hi))
  obtain ⟨_, h⟩ := fold_add ((elements s).take k) 0 (by decide) hr
  have h2 : (elements (((elements s).take k).foldl addElem 0)).length = ((elements s).take k).length := by
    refine nd_eq (elements_nodup _) ((elements_nodup s).sublist (List.take_sublist _ _)) fun x => ?_
    rw [mem_elements, h x, contains_zero]
    simp
  rw [h2, List.length_take, Nat.min_eq_left hk]
theorem verify_signAs {t : DTopology} {r : Int} {d : List Int} (h : isAs t r = true) : verifySig t (signAs t r d) d = true := by
  unfold signAs verifySig
  rw [if_pos h]
  simp [h]
theorem sig1_voter {t : DTopology} {voters r s : Int} {d : List Int} (h : isAs t r = true) (hc : contains voters r = true) : sig1 t voters d s (signAs t r d) = addElem s r := by
  have hv := verify_signAs (d := d) h
  unfold sig1
  rw [hv]
  unfold signAs
  rw [if_pos h, hc]
  rfl
theorem sig1_other {t : DTopology} {voters r s : Int} {d : List Int} (h : isAs t r = true) (hc : contains voters r = false) : sig1 t voters d s (signAs t r d) = s := by
  unfold sig1 signAs
  rw [if_pos h, hc]
  rfl
theorem signers_others {t : DTopology} {voters : Int} {d : List Int} : ∀ (L : List Int) (s : Int), (∀ r ∈ L, isAs t r = true ∧ contains voters r = false) → (L.map fun r => signAs t r d).foldl (sig1 t voters d) s = s
  | [], _, _ => rfl
  | r :: L, s, h => by
    have h1 := h r (List.mem_cons_self ..)
    rw [List.map_cons, List.foldl_cons, sig1_other h1.1 h1.2]
    exact signers_others L s fun x hx => h x (List.mem_cons_of_mem _ hx)
theorem signers_voters {t : DTopology} {voters : Int} {d : List Int} : ∀ (L : List Int) (s : Int), (∀ r ∈ L, isAs t r = true ∧ contains voters r = true) → (L.map fun r => signAs t r d).foldl (sig1 t voters d) s = L.foldl addElem s
  | [], _, _ => rfl
  | r :: L, s, h => by
    have h1 := h r (List.mem_cons_self ..)
    rw [List.map_cons, List.foldl_cons, List.foldl_cons, sig1_voter h1.1 h1.2]
    exact signers_voters L _ fun x hx => h x (List.mem_cons_of_mem _ hx)
def nextRoot (a : DTrustRoot) (v : List DSignature) : DTrustRoot := ⟨a.isd, IntKind.i64.wrap (a.version + 1), a.notBefore, a.notAfter, a.voters, a.quorum, v⟩
theorem nextRoot_data (a : DTrustRoot) (v u : List DSignature) : rootData (nextRoot a v) = rootData (nextRoot a u) := rfl
def othersTo (t : DTopology) (voters : Int) (n : Nat) : List Int := ((List.range n).filter fun r : Nat => !contains voters r).map fun r : Nat => (r : Int)
theorem othersTo_mem {t : DTopology} {voters : Int} {n : Nat} (hn : n ≤ t.ases.length) : ∀ r ∈ othersTo t voters n, isAs t r = true ∧ contains voters r = false := by
  intro r hr
  obtain ⟨i, hi, rfl⟩ := List.mem_map.1 hr
  have h1 := (List.mem_filter.1 hi).2
  have h2 := List.mem_range.1 (List.mem_filter.1 hi).1
  refine ⟨inR_iff.2 ⟨by omega, by omega⟩, ?_⟩
  simpa using h1
def usurpSigs (t : DTopology) (a : DTrustRoot) (n k : Nat) : List DSignature := (othersTo t a.voters n).map (fun r => signAs t r (rootData (nextRoot a []))) ++ ((elements a.voters).take k).map fun r => signAs t r (rootData (nextRoot a []))
theorem succ_usurp {t : DTopology} {a : DTrustRoot} {n k : Nat} (hn : n ≤ t.ases.length) (hk : k ≤ (elements a.voters).length) (hv : validRoot t a = true) (hver : a.version ≤ 999999) :
    isSucc t a (nextRoot a (usurpSigs t a n k)) = decide (a.quorum ≤ (k : Int)) := by
  have h := hv
  unfold validRoot at h
  simp only [Bool.and_eq_true] at h
  obtain ⟨h1, h2, h3, h4, h5⟩ := h
  obtain ⟨h1a, h1b⟩ := inR_iff.1 h1
  obtain ⟨h2a, h2b⟩ := inR_iff.1 h2
  obtain ⟨h3a, h3b⟩ := inR_iff.1 h3
  have hw : IntKind.i64.wrap (a.version + 1) = a.version + 1 := IntWalk.i64_in _ (by omega)
  have hvx : validRoot t (nextRoot a (usurpSigs t a n k)) = true := by
    unfold validRoot nextRoot
    dsimp only
    rw [hw, h2, h3, h4, h5, inR_iff.2 ⟨by omega, by omega⟩]
    rfl
  have hs : signers t (usurpSigs t a n k) a.voters (rootData (nextRoot a (usurpSigs t a n k))) = ((elements a.voters).take k).foldl addElem 0 := by
    unfold signers
    rw [nextRoot_data a _ []]
    unfold usurpSigs
    rw [List.foldl_append, signers_others _ _ (othersTo_mem hn)]
    refine signers_voters _ _ fun r hr => ?_
    have hc := mem_elements.1 (List.mem_of_mem_take hr)
    have ha := List.all_eq_true.1 h5 r (List.mem_of_mem_take hr)
    unfold rootVoter isCore at ha
    simp only [Bool.and_eq_true] at ha
    exact ⟨ha.1.1, hc⟩
  unfold isSucc
  rw [hvx]
  have hs2 : signers t (nextRoot a (usurpSigs t a n k)).sigs a.voters (rootData (nextRoot a (usurpSigs t a n k))) = ((elements a.voters).take k).foldl addElem 0 := hs
  rw [hs2, fold_size _ _ hk]
  have e1 : (nextRoot a (usurpSigs t a n k)).isd = a.isd := rfl
  have e2 : (nextRoot a (usurpSigs t a n k)).version = IntKind.i64.wrap (a.version + 1) := rfl
  have e3 : (nextRoot a (usurpSigs t a n k)).notBefore = a.notBefore := rfl
  rw [e1, e2, e3, inR_iff.2 ⟨by omega, by omega⟩]
  simp
theorem chain_at {t : DTopology} {l : List DTrustRoot} (h : validChain t l = true) (k : Nat) (hk : k < l.length) : chainAt t l k = true := by
  unfold validChain at h
  rw [Bool.and_eq_true] at h
  exact List.all_eq_true.1 h.2 k (List.mem_range.2 hk)
theorem chain_valid {t : DTopology} {l : List DTrustRoot} (h : validChain t l = true) (k : Nat) (hk : k < l.length) : validRoot t l[k] = true := by
  have h1 := chain_at h k hk
  rcases k with _ | k
  · rw [chainAt_zero hk] at h1
    unfold isInitial at h1
    rw [Bool.and_eq_true] at h1
    exact h1.1
  · rw [chainAt_succ rfl hk (by omega)] at h1
    unfold isSucc at h1
    rw [Bool.and_eq_true] at h1
    exact h1.1
theorem chain_version {t : DTopology} {l : List DTrustRoot} (h : validChain t l = true) : ∀ (k : Nat) (hk : k < l.length), k ≤ 900000 → l[k].version = (k : Int) + 1
  | 0, hk, _ => by
    have h1 := chain_at h 0 hk
    rw [chainAt_zero hk] at h1
    unfold isInitial at h1
    simp only [Bool.and_eq_true, beq_iff_eq] at h1
    rw [h1.2.1]
    rfl
  | k + 1, hk, hb => by
    have h0 := chain_version h k (by omega) (by omega)
    have h1 := chain_at h (k + 1) hk
    rw [chainAt_succ rfl hk (by omega)] at h1
    unfold isSucc at h1
    simp only [Bool.and_eq_true, beq_iff_eq] at h1
    rw [h1.2.2.1, h0, IntWalk.i64_in _ (by omega)]
    omega
theorem chain_snoc {t : DTopology} {l : List DTrustRoot} {x : DTrustRoot} (h : validChain t l = true) (h0 : 0 < l.length) : validChain t (l ++ [x]) = isSucc t (l[l.length - 1]'(by omega)) x := by
  have hlast : chainAt t (l ++ [x]) l.length = isSucc t (l[l.length - 1]'(by omega)) x := by
    rw [chainAt_succ (m := l.length - 1) (by omega) (by simp) (by simp; omega)]
    rw [List.getElem_append_left (by omega)]
    simp
  have hold : ∀ k, k < l.length → chainAt t (l ++ [x]) k = true := by
    intro k hk
    have h1 := chain_at h k hk
    rcases k with _ | k
    · rw [chainAt_zero hk] at h1
      rw [chainAt_zero (by simp), List.getElem_append_left hk]
      exact h1
    · rw [chainAt_succ rfl hk (by omega)] at h1
      rw [chainAt_succ (m := k) rfl (by simp; omega) (by simp; omega), List.getElem_append_left hk, List.getElem_append_left (by omega)]
      exact h1
  cases hs : isSucc t (l[l.length - 1]'(by omega)) x
  · exact validChain_no (k := l.length) (by simp) (hlast.trans hs)
  · rw [validChain_yes (fun k hk => ?_)]
    · simp
    · rcases Nat.lt_or_ge k l.length with h2 | h2
      · exact hold k h2
      · have h3 : k = l.length := by simp at hk; omega
        rw [h3]
        exact hlast.trans hs
/-- The statement in plain words. -/
theorem usurp_upd {t : DTopology} {l : List DTrustRoot} {n k : Nat} (h : validChain t l = true) (h0 : 0 < l.length) (hl : l.length ≤ 900000) (hn : n ≤ t.ases.length) (hk : k ≤ (elements (l[l.length - 1]'(by omega)).voters).length) :
    (updRoots t l (nextRoot (l[l.length - 1]'(by omega)) (usurpSigs t (l[l.length - 1]'(by omega)) n k))).length = if (l[l.length - 1]'(by omega)).quorum ≤ (k : Int) then l.length + 1 else l.length := by
  have h1 := chain_valid h (l.length - 1) (by omega)
  have h2 := chain_version h (l.length - 1) (by omega) (by omega)
  unfold updRoots
  rw [chain_snoc h h0, succ_usurp hn hk h1 (by omega)]
  by_cases hq : (l[l.length - 1]'(by omega)).quorum ≤ (k : Int)
  · rw [if_pos (by simpa using hq), if_pos hq]
    simp
  · rw [if_neg (by simpa using hq), if_neg hq]
theorem usurp_quorum {t : DTopology} {l : List DTrustRoot} (h : validChain t l = true) (h0 : 0 < l.length) : 1 ≤ (l[l.length - 1]'(by omega)).quorum ∧ (l[l.length - 1]'(by omega)).quorum ≤ ((elements (l[l.length - 1]'(by omega)).voters).length : Int) := by
  have h1 := chain_valid h (l.length - 1) (by omega)
  unfold validRoot at h1
  simp only [Bool.and_eq_true] at h1
  exact inR_iff.1 h1.2.2.2.1
end Go.Proofs.YtddaodemdkjijaaGreat
