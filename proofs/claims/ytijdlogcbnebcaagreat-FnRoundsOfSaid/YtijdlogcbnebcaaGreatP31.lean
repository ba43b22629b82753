/- The plain law of FnRoundsOf: a round of beaconing keeps valid stores, and no store becomes shorter. No program in sight. -/
import Derived.Test.YtijdlogcbnebcaaGreatL15d
namespace Go.Proofs.YtijdlogcbnebcaaGreat
def dBcn : DBeacon := ⟨0, ⟨0, 0, []⟩⟩
def bcnFine (t : DTopology) (r : Int) (l : List DBeacon) (k : Nat) : Bool := !hasBcn (l.take k) (l.getD k dBcn) && canExt t (l.getD k dBcn).seg r (l.getD k dBcn).ing
def validStore (t : DTopology) (r : Int) (l : List DBeacon) : Bool := decide (l.length ≤ 12) && (List.range l.length).all (bcnFine t r l)
/-- A valid store: few beacons, each can be extended here, none twice. -/
def VS (t : DTopology) (r : Int) (l : List DBeacon) : Prop := l.length ≤ 12 ∧ (∀ g ∈ l, canExt t g.seg r g.ing = true) ∧ l.Nodup
theorem hasBcn_iff {l : List DBeacon} {g : DBeacon} : hasBcn l g = true ↔ g ∈ l := by
  unfold hasBcn
  rw [List.any_eq_true]
  constructor
  · rintro ⟨x, hx, he⟩
    rw [decide_eq_true_eq] at he
    exact he ▸ hx
  · exact fun h => ⟨g, h, by simp⟩
theorem nodup_take {l : List DBeacon} : l.Nodup ↔ ∀ k (h : k < l.length), l[k] ∉ l.take k := by
  constructor
  · intro h k hk hm
    have h2 : (l.take k ++ l[k] :: l.drop (k + 1)).Nodup := by
      rw [← List.drop_eq_getElem_cons hk, List.take_append_drop]
      exact h
    rw [List.nodup_append] at h2
    exact h2.2.2 _ hm _ (List.mem_cons_self ..) rfl
  · intro h
    have key : ∀ k, k ≤ l.length → (l.take k).Nodup := by
      intro k
      induction k with
      | zero => intro _; simp
      | succ k ih =>
        intro hk
        have e : l.take (k + 1) = l.take k ++ [l[k]'(by omega)] := List.take_succ_eq_append_getElem (by omega)
        rw [e, List.nodup_append]
        refine ⟨ih (by omega), by simp, ?_⟩
        intro a ha b hb e2
        rw [List.mem_singleton] at hb
        subst hb
        exact h k (by omega) (e2 ▸ ha)
    have := key l.length (Nat.le_refl _)
    rwa [List.take_length] at this
theorem validStore_iff {t : DTopology} {r : Int} {l : List DBeacon} : validStore t r l = true ↔ VS t r l := by
  unfold validStore VS
  rw [Bool.and_eq_true, decide_eq_true_eq, List.all_eq_true, nodup_take]
  have hk : ∀ k (h : k < l.length), (bcnFine t r l k = true ↔ l[k] ∉ l.take k ∧ canExt t l[k].seg r l[k].ing = true) := by
    intro k h
    unfold bcnFine
    have e : l.getD k dBcn = l[k] := by simp [List.getD_eq_getElem?_getD, h]
    rw [e, Bool.and_eq_true, Bool.not_eq_true', ← Bool.not_eq_true, hasBcn_iff]
  constructor
  · rintro ⟨h1, h2⟩
    refine ⟨h1, fun g hg => ?_, fun k h => ((hk k h).1 (h2 k (List.mem_range.2 h))).1⟩
    obtain ⟨k, h, rfl⟩ := List.mem_iff_getElem.1 hg
    exact ((hk k h).1 (h2 k (List.mem_range.2 h))).2
  · rintro ⟨h1, h2, h3⟩
    exact ⟨h1, fun k hm => (hk k (List.mem_range.1 hm)).2 ⟨h3 k (List.mem_range.1 hm), h2 _ (List.getElem_mem _)⟩⟩
theorem insB_mem {l : List DBeacon} {g x : DBeacon} : x ∈ insB l g ↔ x = g ∨ x ∈ l := by
  unfold insB
  rw [List.mem_append, List.mem_cons]
  conv => rhs; rw [← List.take_append_drop (prefIdx g l) l, List.mem_append]
  constructor
  · rintro (h | h | h)
    · exact .inr (.inl h)
    · exact .inl h
    · exact .inr (.inr h)
  · rintro (h | h | h)
    · exact .inr (.inl h)
    · exact .inl h
    · exact .inr (.inr h)
theorem insB_nodup {l : List DBeacon} {g : DBeacon} (h : l.Nodup) (hg : g ∉ l) : (insB l g).Nodup := by
  unfold insB
  have h2 : (l.take (prefIdx g l) ++ l.drop (prefIdx g l)).Nodup := by rw [List.take_append_drop]; exact h
  rw [List.nodup_append] at h2 ⊢
  refine ⟨h2.1, List.nodup_cons.2 ⟨fun hm => hg (List.mem_of_mem_drop hm), h2.2.1⟩, fun a ha b hb => ?_⟩
  rcases List.mem_cons.1 hb with rfl | hb
  · rintro rfl
    exact hg (List.mem_of_mem_take ha)
  · exact h2.2.2 a ha b hb
theorem cut12_sub (l : List DBeacon) : (cut12 l).Sublist l := by
  unfold cut12
  split
  · exact List.take_sublist _ _
  · exact List.Sublist.refl _
theorem storeB_vs {t : DTopology} {r : Int} {l : List DBeacon} {g : DBeacon} (h : VS t r l) : VS t r (storeB t r l g) ∧ l.length ≤ (storeB t r l g).length := by
  unfold storeB
  split
  · rename_i hc
    rw [Bool.and_eq_true, Bool.not_eq_true', ← Bool.not_eq_true, hasBcn_iff] at hc
    have hl := insB_len l g
    have h0 := h.1
    refine ⟨⟨?_, fun x hx => ?_, (insB_nodup h.2.2 hc.2).sublist (cut12_sub _)⟩, ?_⟩
    · unfold cut12
      split
      · rw [List.length_take]; omega
      · omega
    · rcases insB_mem.1 ((cut12_sub _).subset hx) with rfl | hx
      · exact hc.1
      · exact h.2.1 x hx
    · unfold cut12
      split
      · rw [List.length_take]; omega
      · omega
  · exact ⟨h, Nat.le_refl _⟩
/-- All stores valid. -/
def VSs (t : DTopology) (st : List DBeaconStore) : Prop := ∀ r (h : r < st.length), VS t r st[r].beacons
def stCount (st : List DBeaconStore) : Nat := (st.map fun s => s.beacons.length).sum
theorem delStep_vs {t : DTopology} {st : List DBeaconStore} {m : DBeaconMessage} (h : VSs t st) : VSs t (delStep t st m) ∧ stCount st ≤ stCount (delStep t st m) := by
  unfold delStep
  split
  · rename_i hr
    obtain ⟨h0, h1⟩ := inR_iff.1 hr
    have hl : m.to.toNat < st.length := by omega
    have e : st.getD m.to.toNat dStr = st[m.to.toNat] := by simp [List.getD_eq_getElem?_getD, hl]
    have em : m.to = (m.to.toNat : Int) := by omega
    rw [e]
    have hv := storeB_vs (g := m.beacon) (h m.to.toNat hl)
    rw [← em] at hv
    refine ⟨fun r hrl => ?_, ?_⟩
    · rw [List.getElem_set]
      split
      · rename_i he
        subst he
        rw [← em]
        exact hv.1
      · exact h r (by simpa using hrl)
    · have := set_sum (fun y : DBeaconStore => y.beacons.length) st m.to.toNat ⟨storeB t m.to st[m.to.toNat].beacons m.beacon⟩ hl
      have h2 := hv.2
      dsimp only at this
      unfold stCount
      omega
  · exact ⟨h, Nat.le_refl _⟩
theorem delFold_vs {t : DTopology} : ∀ (l : List DBeaconMessage) (st : List DBeaconStore), VSs t st → VSs t (l.foldl (delStep t) st) ∧ stCount st ≤ stCount (l.foldl (delStep t) st)
  | [], _, h => ⟨h, Nat.le_refl _⟩
  | m :: l, st, h => by
    have h1 := delStep_vs (m := m) h
    have h2 := delFold_vs l _ h1.1
    exact ⟨h2.1, Nat.le_trans h1.2 h2.2⟩
theorem runRound_vs {t : DTopology} {l : List DPolicy} {b : DBeaconing} (h : VSs t b.stores) : VSs t (runRound t l b).stores ∧ stCount b.stores ≤ stCount (runRound t l b).stores := by
  unfold runRound delB
  dsimp only
  split
  · exact delFold_vs _ _ h
  · exact ⟨h, Nat.le_refl _⟩
theorem runRound_len (t : DTopology) (l : List DPolicy) (b : DBeaconing) : (runRound t l b).stores.length = b.stores.length := delB_len _ _ _
/-- What the draw keeps. -/
theorem runRound_small {t : DTopology} {l : List DPolicy} {b : DBeaconing} (h : Small b.stores) : Small (runRound t l b).stores := by
  unfold runRound delB
  dsimp only
  split
  · exact delFold_small _ _ h
  · exact h
theorem newBeac_small (t : DTopology) (ts : Int) : Small (newBeac t ts).stores := runTo_small t [] ts 0
theorem small_count {st : List DBeaconStore} (h : Small st) : stCount st ≤ 1000 := by
  have h1 := totS_le (fun y : DBeaconStore => y.beacons.length) 12 st (fun y hy => (h.2 y hy).1)
  have h2 := h.1
  unfold totS at h1
  unfold stCount
  omega
end Go.Proofs.YtijdlogcbnebcaaGreat
