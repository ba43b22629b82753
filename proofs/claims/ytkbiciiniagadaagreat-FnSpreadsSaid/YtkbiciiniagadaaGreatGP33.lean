/- The plain law of FnSpreads: every stored beacon keeps every policy of its realms; what is built of them is usable. No program in sight. -/
import Derived.Test.YtkbiciiniagadaaGreatGP31
import Derived.Test.YtkbiciiniagadaaGreatGL16i
import Derived.Test.YtkbiciiniagadaaGreatGL16e
import Derived.Test.YtkbiciiniagadaaGreatP04
import Derived.Test.YtkbiciiniagadaaGreatL04m
import Derived.Test.YtkbiciiniagadaaGreatL10f
namespace Go.Proofs.YtkbiciiniagadaaGreat
/-- Hop j of s keeps the policy of its realm. -/
def HopKept (l : List DPolicy) (s : DSegment) (j : Nat) : Prop :=
  (j : Int) + 1 ≤ (polFor l (s.hops.getD j dHop).asn).maxLen ∧ contains (polFor l (s.hops.getD j dHop).asn).closed (s.hops.getD j dHop).egr = false ∧
  (s.hops.getD j dHop).exp ≤ s.ts + (polFor l (s.hops.getD j dHop).asn).life ∧ s.ts ≤ (s.hops.getD j dHop).exp ∧
  ∀ i, i < j → contains (polFor l (s.hops.getD j dHop).asn).denied (s.hops.getD i dHop).asn = false
def Kept (l : List DPolicy) (s : DSegment) : Prop := ∀ j, j < s.hops.length → HopKept l s j
theorem kept_nil (l : List DPolicy) (ts be : Int) : Kept l ⟨ts, be, []⟩ := fun j hj => by simp at hj
theorem kept_grown {t : DTopology} {l : List DPolicy} {s : DSegment} {r inn out : Int} (h : Kept l s) (h0 : 0 ≤ s.ts) (h1 : s.ts ≤ 1000000) (ha : allows (polFor l r) s out = true) : Kept l (grownSeg t (polFor l r) s r inn out) := by
  have hgh : (grownSeg t (polFor l r) s r inn out).hops = s.hops ++ [newHop t (polFor l r) s r inn out] := rfl
  have hts : (grownSeg t (polFor l r) s r inn out).ts = s.ts := rfl
  have hlen : (grownSeg t (polFor l r) s r inn out).hops.length = s.hops.length + 1 := grownSeg_len t _ s r inn out
  obtain ⟨a1, a2, a3⟩ := allows_parts ha
  obtain ⟨e1, -, -, e4⟩ := expFor_range (polFor_valid l r) h0 h1
  intro j hj
  unfold HopKept
  rw [hgh, hts]
  rcases Nat.lt_or_ge j s.hops.length with hl | hl
  · rw [getD_snoc_lt hl]
    obtain ⟨b1, b2, b3, b4, b5⟩ := h j hl
    exact ⟨b1, b2, b3, b4, fun i hi => by rw [getD_snoc_lt (by omega)]; exact b5 i hi⟩
  · obtain rfl : j = s.hops.length := by omega
    rw [getD_snoc_last]
    refine ⟨?_, a2, e4, e1, fun i hi => ?_⟩
    · show (s.hops.length : Int) + 1 ≤ (polFor l r).maxLen
      omega
    · rw [getD_snoc_lt hi]
      exact a3 _ (getD_mem hi)
/-- What is stored. -/
def AllB (P : DBeacon → Prop) (st : List DBeaconStore) : Prop := ∀ y ∈ st, ∀ g ∈ y.beacons, P g
theorem delStep_all {P : DBeacon → Prop} {t : DTopology} {st : List DBeaconStore} {m : DBeaconMessage} (h : AllB P st) (hm : P m.beacon) : AllB P (delStep t st m) := by
  unfold delStep
  split
  · rename_i hr
    obtain ⟨h0, h1⟩ := inR_iff.1 hr
    have hl : m.to.toNat < st.length := by omega
    have e : st.getD m.to.toNat dStr = st[m.to.toNat] := by simp [List.getD_eq_getElem?_getD, hl]
    rw [e]
    intro y hy g hg
    rcases List.mem_or_eq_of_mem_set hy with hy | rfl
    · exact h y hy g hg
    · have hg : g ∈ storeB t m.to st[m.to.toNat].beacons m.beacon := hg
      unfold storeB at hg
      split at hg
      · rcases insB_mem.1 ((cut12_sub _).subset hg) with rfl | hg
        · exact hm
        · exact h _ (List.getElem_mem hl) g hg
      · exact h _ (List.getElem_mem hl) g hg
  · exact h
theorem delFold_all {P : DBeacon → Prop} {t : DTopology} : ∀ (l : List DBeaconMessage) (st : List DBeaconStore), AllB P st → (∀ m ∈ l, P m.beacon) → AllB P (l.foldl (delStep t) st)
  | [], _, h, _ => h
  | m :: l, _, h, hm => delFold_all l _ (delStep_all h (hm m (List.mem_cons_self ..))) (fun x hx => hm x (List.mem_cons_of_mem _ hx))
theorem origMsgs_mem {t : DTopology} {l : List DPolicy} {r ts : Int} {m : DBeaconMessage} (h : m ∈ origMsgs t l r ts) : ∃ out, origOk t (polFor l r) r out ts (origBeta t r ts out) = true ∧ m = ⟨(remEnd t r out).1, ⟨(remEnd t r out).2, grownSeg t (polFor l r) ⟨ts, origBeta t r ts out, []⟩ r 0 out⟩⟩ := by
  unfold origMsgs at h
  split at h
  · unfold origMsgsTo at h
    obtain ⟨o, ho, rfl⟩ := List.mem_map.1 h
    have h2 := (List.mem_filter.1 ho).2
    refine ⟨o, h2, ?_⟩
    unfold origMsg origSeg
    unfold origMsgOk at h2
    rw [if_pos h2]
  · simp at h
theorem propMsgs_mem {t : DTopology} {l : List DPolicy} {r : Int} {got : List DBeacon} {m : DBeaconMessage} (h : m ∈ propMsgs t l r got) : ∃ g ∈ got, ∃ out, extOk t (polFor l r) g.seg r g.ing out = true ∧ m = ⟨(remEnd t r out).1, ⟨(remEnd t r out).2, grownSeg t (polFor l r) g.seg r g.ing out⟩⟩ := by
  unfold propMsgs at h
  split at h
  · obtain ⟨g, hg, h⟩ := List.mem_flatMap.1 h
    unfold propOne at h
    obtain ⟨o, ho, rfl⟩ := List.mem_map.1 h
    refine ⟨g, hg, o, ?_, rfl⟩
    unfold egrIfs egrTo at ho
    obtain ⟨i, hi, rfl⟩ := List.mem_map.1 ho
    have h2 := (List.mem_filter.1 hi).2
    unfold egrOk at h2
    rw [Bool.and_eq_true] at h2
    exact h2.1
  · simp at h
/-- What rounds keep of the beacons, if what is begun and what is handed on has it. -/
theorem runRound_all {P : DBeacon → Prop} {t : DTopology} {l : List DPolicy} {b : DBeaconing} (h : AllB P b.stores)
    (ho : ∀ r out, origOk t (polFor l r) r out b.ts (origBeta t r b.ts out) = true → P ⟨(remEnd t r out).2, grownSeg t (polFor l r) ⟨b.ts, origBeta t r b.ts out, []⟩ r 0 out⟩)
    (hp : ∀ r out g, P g → extOk t (polFor l r) g.seg r g.ing out = true → P ⟨(remEnd t r out).2, grownSeg t (polFor l r) g.seg r g.ing out⟩) : AllB P (runRound t l b).stores := by
  unfold runRound delB
  dsimp only
  split
  · refine delFold_all _ _ h (fun m hm => ?_)
    unfold roundTo at hm
    obtain ⟨r, hr, hm⟩ := List.mem_flatMap.1 hm
    have hr := List.mem_range.1 hr
    unfold roundOne at hm
    rcases List.mem_append.1 hm with hm | hm
    · obtain ⟨out, h1, rfl⟩ := origMsgs_mem hm
      exact ho _ out h1
    · obtain ⟨g, hg, out, h1, rfl⟩ := propMsgs_mem hm
      refine hp _ out g ?_ h1
      have e : b.stores.getD r dStr = b.stores[r] := by simp [List.getD_eq_getElem?_getD, hr]
      rw [e] at hg
      exact h _ (List.getElem_mem hr) g hg
  · exact h
theorem runRound_ts (t : DTopology) (l : List DPolicy) (b : DBeaconing) : (runRound t l b).ts = b.ts := rfl
theorem runTo_ts (t : DTopology) (l : List DPolicy) (ts : Int) : ∀ n, (runTo t l ts n).ts = ts
  | 0 => rfl
  | n + 1 => (runRound_ts t l _).trans (runTo_ts t l ts n)
theorem newBeac_all {P : DBeacon → Prop} (t : DTopology) (ts : Int) : AllB P (newBeac t ts).stores := by
  unfold newBeac
  dsimp only
  split
  · intro y hy g hg
    rw [List.eq_of_mem_replicate hy] at hg
    simp at hg
  · intro y hy
    simp at hy
theorem runTo_all {P : DBeacon → Prop} {t : DTopology} {l : List DPolicy} {ts : Int}
    (ho : ∀ r out, origOk t (polFor l r) r out ts (origBeta t r ts out) = true → P ⟨(remEnd t r out).2, grownSeg t (polFor l r) ⟨ts, origBeta t r ts out, []⟩ r 0 out⟩)
    (hp : ∀ r out g, P g → extOk t (polFor l r) g.seg r g.ing out = true → P ⟨(remEnd t r out).2, grownSeg t (polFor l r) g.seg r g.ing out⟩) : ∀ n, AllB P (runTo t l ts n).stores
  | 0 => newBeac_all t ts
  | n + 1 => by
    have e := runTo_ts t l ts n
    refine runRound_all (runTo_all ho hp n) ?_ hp
    rw [e]
    exact ho
/-- A beacon of the spreading. -/
structure SpreadB (t : DTopology) (l : List DPolicy) (ts : Int) (g : DBeacon) : Prop where
  kept : Kept l g.seg
  ts : g.seg.ts = ts
  ok : VSeg t g.seg
theorem spread_all {t : DTopology} {l : List DPolicy} {ts : Int} (hv : TopOk t) (h0 : 0 ≤ ts) (h1 : ts ≤ 1000000) (n : Nat) : AllB (SpreadB t l ts) (runTo t l ts n).stores := by
  refine runTo_all (fun r out h => ?_) (fun r out g hg h => ?_) n
  · refine ⟨kept_grown (kept_nil l _ _) h0 h1 ?_, rfl, (orig_valid hv (polFor_valid l r) h).1⟩
    unfold origOk at h
    simp only [Bool.and_eq_true] at h
    obtain ⟨-, -, -, ha, -⟩ := h
    obtain ⟨a1, a2, -⟩ := allows_parts ha
    unfold allows
    simp only [Bool.and_eq_true, Bool.not_eq_true', decide_eq_true_eq]
    exact ⟨a1, a2, rfl⟩
  · refine ⟨kept_grown hg.kept (by rw [hg.ts]; exact h0) (by rw [hg.ts]; exact h1) ?_, hg.ts, (extOk_valid hv (polFor_valid l r) h).1⟩
    unfold extOk at h
    simp only [Bool.and_eq_true] at h
    exact h.2.2.2.1
/-- What is put into the database. -/
theorem leastTo_bound {l : List DHop} {x : Int} : ∀ k, 0 < k → k ≤ l.length → (∀ j, j < k → x ≤ (l.getD j dHop).exp) → x ≤ leastTo l k
  | 0, h, _, _ => by omega
  | k + 1, _, hk, h => by
    rcases Nat.eq_zero_or_pos k with rfl | h0
    · exact h 0 (by omega)
    · have ih := leastTo_bound k h0 (by omega) (fun j hj => h j (by omega))
      by_cases hx : (l.getD k dHop).exp < leastTo l k
      · rw [leastTo_lt h0 hx]; exact h k (by omega)
      · rw [leastTo_ge h0 hx]; exact ih
theorem term_usable {t : DTopology} {l : List DPolicy} {ts : Int} {g : DBeacon} {r : Int} (hv : TopOk t) (h0 : 0 ≤ ts) (h1 : ts ≤ 1000000) (hg : SpreadB t l ts g) (h : termOk t (polFor l r) g.seg r g.ing = true) :
    segUsable t (grownSeg t (polFor l r) g.seg r g.ing 0) ts = true ∧ (segKind t (grownSeg t (polFor l r) g.seg r g.ing 0) = 1 ∨ segKind t (grownSeg t (polFor l r) g.seg r g.ing 0) = 2) := by
  have hv2 := (termOk_valid hv (polFor_valid l r) h).1
  have hall : allows (polFor l r) g.seg 0 = true := by
    unfold termOk at h
    rw [Bool.and_eq_true] at h
    exact h.2
  have hk := kept_grown (t := t) (inn := g.ing) hg.kept (by rw [hg.ts]; exact h0) (by rw [hg.ts]; exact h1) hall
  have hl := last_grown t (polFor l r) g.seg r g.ing 0
  refine ⟨?_, ?_⟩
  · unfold segUsable isTerm
    simp only [Bool.and_eq_true, decide_eq_true_eq, beq_iff_eq]
    refine ⟨vseg_iff.2 hv2, ⟨hv2.pos, ?_⟩, ?_, ?_⟩
    · unfold lastHop at hl
      rw [hl]
      rfl
    · exact Int.le_of_eq hg.ts
    · unfold segExp
      refine leastTo_bound _ hv2.pos (Nat.le_refl _) (fun j hj => ?_)
      have h4 := (hk j hj).2.2.2.1
      have e : (grownSeg t (polFor l r) g.seg r g.ing 0).ts = ts := hg.ts
      rw [e] at h4
      exact h4
  · rw [segKind_of hv2]
    rcases hv2.kind with e | e <;> rw [e]
    · exact .inl rfl
    · exact .inr rfl
def DbFine (t : DTopology) (ts : Int) (k : DSegmentDatabase) : Prop := (∀ s ∈ k.down, useB t 2 ts s = true) ∧ ∀ s ∈ k.core, useB t 1 ts s = true
theorem dbPut_fine {t : DTopology} {ts : Int} {k : DSegmentDatabase} {s : DSegment} (h : DbFine t ts k) (hs : segUsable t s ts = true) (hk : segKind t s = 1 ∨ segKind t s = 2) : DbFine t ts (dbPut t k s) := by
  unfold dbPut
  split
  · rename_i h2
    refine ⟨fun x hx => ?_, h.2⟩
    rcases List.mem_append.1 hx with hx | hx
    · exact h.1 x hx
    · obtain rfl := List.mem_singleton.1 hx
      unfold useB
      rw [hs, h2]
      rfl
  · rename_i h2
    refine ⟨h.1, fun x hx => ?_⟩
    rcases List.mem_append.1 hx with hx | hx
    · exact h.2 x hx
    · obtain rfl := List.mem_singleton.1 hx
      have h3 : segKind t x = 1 := hk.resolve_right h2
      unfold useB
      rw [hs, h3]
      rfl
theorem dbGots_fine {t : DTopology} {l : List DPolicy} {ts r : Int} (hv : TopOk t) (h0 : 0 ≤ ts) (h1 : ts ≤ 1000000) : ∀ (m : List DBeacon) (k : DSegmentDatabase), DbFine t ts k → (∀ g ∈ m, SpreadB t l ts g) → DbFine t ts (dbGots t l r k m)
  | [], k, h, _ => h
  | g :: m, k, h, hm => by
    have h2 : DbFine t ts (dbStep t l r k g) := by
      unfold dbStep
      split
      · rename_i ht
        have h3 := term_usable hv h0 h1 (hm g (List.mem_cons_self ..)) ht
        exact dbPut_fine h h3.1 h3.2
      · exact h
    exact dbGots_fine hv h0 h1 m _ h2 (fun x hx => hm x (List.mem_cons_of_mem _ hx))
theorem dbTo_fine {t : DTopology} {l : List DPolicy} {ts : Int} {x : List DBeaconStore} (hv : TopOk t) (h0 : 0 ≤ ts) (h1 : ts ≤ 1000000) (hx : AllB (SpreadB t l ts) x) : ∀ n, n ≤ x.length → DbFine t ts (dbTo t l x n)
  | 0, _ => ⟨fun s hs => by simp [dbTo] at hs, fun s hs => by simp [dbTo] at hs⟩
  | n + 1, hn => by
    have e : x.getD n dStore = x[n] := by simp [List.getD_eq_getElem?_getD, show n < x.length by omega]
    show DbFine t ts (dbGots t l n (dbTo t l x n) (x.getD n dStore).beacons)
    rw [e]
    exact dbGots_fine hv h0 h1 _ _ (dbTo_fine hv h0 h1 hx n (by omega)) (fun g hg => hx _ (List.getElem_mem _) g hg)
theorem dbUsable_of {t : DTopology} {ts : Int} {k : DSegmentDatabase} (h : DbFine t ts k) : dbUsable t k ts = true := by
  unfold dbUsable
  rw [Bool.and_eq_true, List.all_eq_true, List.all_eq_true]
  exact h
theorem spread_db {t : DTopology} {l : List DPolicy} {ts : Int} (hv : TopOk t) (h0 : 0 ≤ ts) (h1 : ts ≤ 1000000) : dbUsable t (buildDb t l (runBeac t l ts)) (runBeac t l ts).ts = true := by
  have e : (runBeac t l ts).ts = ts := runTo_ts t l ts 8
  rw [e]
  exact dbUsable_of (dbTo_fine hv h0 h1 (spread_all hv h0 h1 8) _ (Nat.le_refl _))
end Go.Proofs.YtkbiciiniagadaaGreat
namespace Go.Proofs.YtkbiciiniagadaaGreat
open Go.RowKit
set_option linter.unusedVariables false
theorem inter_none {a b : Int} (h : ∀ i : Int, contains b i = true → contains a i = false) : interS a b = 0 := by
  unfold interS
  split
  · rename_i hv
    rw [Bool.and_eq_true] at hv
    obtain ⟨ha, hb⟩ := hv
    have ha2 := inR_iff.1 ha
    have e : a.toNat &&& b.toNat = 0 := by
      apply Nat.eq_of_testBit_eq
      intro i
      rw [Nat.testBit_and, Nat.zero_testBit]
      cases h1 : a.toNat.testBit i
      · rfl
      cases h2 : b.toNat.testBit i
      · rfl
      exfalso
      have hi : i < 16 := by
        rcases Nat.lt_or_ge i 16 with hi | hi
        · exact hi
        · have h3 : a.toNat < 2 ^ i := Nat.lt_of_lt_of_le (by omega : a.toNat < 2 ^ 16) (Nat.pow_le_pow_right (by omega) hi)
          rw [Nat.testBit_lt_two_pow h3] at h1
          cases h1
      have h4 := h (i : Int) (by unfold contains; rw [hb, inR_iff.2 ⟨by omega, by omega⟩, Int.toNat_natCast, h2]; rfl)
      unfold contains at h4
      rw [ha, inR_iff.2 ⟨by omega, by omega⟩, Int.toNat_natCast, h1] at h4
      cases h4
    rw [e]
    rfl
  · rfl
/-- What the law asks of a hop. -/
structure HopLaw (t : DTopology) (l : List DPolicy) (s : DSegment) (j : Nat) : Prop where
  len : (j : Int) + 1 ≤ (polFor l (s.hops.getD j dHop).asn).maxLen
  closed : contains (polFor l (s.hops.getD j dHop).asn).closed (s.hops.getD j dHop).egr = false
  exp : (s.hops.getD j dHop).exp ≤ s.ts + (polFor l (s.hops.getD j dHop).asn).life ∧ 0 ≤ s.ts + (polFor l (s.hops.getD j dHop).asn).life ∧ s.ts + (polFor l (s.hops.getD j dHop).asn).life ≤ 1001000
  inter : interS (polFor l (s.hops.getD j dHop).asn).denied ((ases (s.hops.take j)).foldl addElem 0) = 0
  auth : authBy t s (s.hops.getD j dHop).asn = true
theorem spread_hop {t : DTopology} {l : List DPolicy} {ts : Int} {g : DBeacon} (hv : TopOk t) (h0 : 0 ≤ ts) (h1 : ts ≤ 1000000) (h : SpreadB t l ts g) {j : Nat} (hj : j < g.seg.hops.length) : HopLaw t l g.seg j := by
  obtain ⟨a1, a2, a3, a4, a5⟩ := h.kept j hj
  have hp := validPol_parts (polFor_valid l (g.seg.hops.getD j dHop).asn)
  have hts := h.ts
  refine ⟨a1, a2, ?_, ?_, ?_⟩
  · exact ⟨a3, by omega, by omega⟩
  · have hr : ∀ i ∈ ases (g.seg.hops.take j), 0 ≤ i ∧ i ≤ 15 := by
      intro i hi
      unfold ases at hi
      obtain ⟨x, hx, rfl⟩ := List.mem_map.1 hi
      obtain ⟨k, hk, rfl⟩ := List.mem_iff_getElem.1 hx
      rw [List.length_take] at hk
      have hk2 : k < g.seg.hops.length := by omega
      have e : g.seg.hops.getD k dHop = (g.seg.hops.take j)[k] := by simp [List.getD_eq_getElem?_getD, hk2]
      have h3 := isAs_iff.1 (hop_of_ver h.ok hk2).2
      rw [e] at h3
      have := hv.1
      omega
    obtain ⟨-, h2⟩ := fold_add (ases (g.seg.hops.take j)) 0 (by decide) hr
    refine inter_none (fun i hi => ?_)
    rcases (h2 i).1 hi with h3 | h3
    · rw [contains_zero] at h3; cases h3
    · unfold ases at h3
      obtain ⟨x, hx, rfl⟩ := List.mem_map.1 h3
      obtain ⟨k, hk, rfl⟩ := List.mem_iff_getElem.1 hx
      rw [List.length_take] at hk
      have hk2 : k < g.seg.hops.length := by omega
      have e : g.seg.hops.getD k dHop = (g.seg.hops.take j)[k] := by simp [List.getD_eq_getElem?_getD, hk2]
      have h4 := a5 k (by omega)
      rw [e] at h4
      exact h4
  · unfold authBy
    rw [List.any_eq_true]
    refine ⟨j, List.mem_range.2 hj, ?_⟩
    unfold authAt
    rw [h.ok.ver j hj]
    simp
theorem runTo_inv {t : DTopology} {l : List DPolicy} {ts : Int} (hv : validTop t = false) : ∀ n, (runTo t l ts n).stores = []
  | 0 => by
    show (newBeac t ts).stores = []
    unfold newBeac
    rw [hv]
    rfl
  | n + 1 => by
    show (runRound t l (runTo t l ts n)).stores = []
    unfold runRound delB
    rw [hv]
    exact runTo_inv hv n
/-- The whole of it. -/
theorem spread_law (t : DTopology) (l : List DPolicy) {ts : Int} (h0 : 0 ≤ ts) (h1 : ts ≤ 1000000) :
    (∀ y ∈ (runBeac t l ts).stores, ∀ g ∈ y.beacons, ∀ j, j < g.seg.hops.length → HopLaw t l g.seg j) ∧ dbUsable t (buildDb t l (runBeac t l ts)) (runBeac t l ts).ts = true := by
  cases hv : validTop t
  · have e : (runBeac t l ts).stores = [] := runTo_inv hv 8
    refine ⟨fun y hy => by rw [e] at hy; simp at hy, ?_⟩
    have e2 : buildDb t l (runBeac t l ts) = ⟨[], []⟩ := by
      unfold buildDb
      rw [e]
      rfl
    rw [e2]
    rfl
  · have hk := validTop_ok hv
    exact ⟨fun y hy g hg j hj => spread_hop hk h0 h1 (spread_all hk h0 h1 8 y hy g hg) hj, spread_db hk h0 h1⟩
end Go.Proofs.YtkbiciiniagadaaGreat
