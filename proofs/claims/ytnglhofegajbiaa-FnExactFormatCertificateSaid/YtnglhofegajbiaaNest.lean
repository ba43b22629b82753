/- Slices whose elements hold slices themselves: which blocks they own. No conditions. -/
import Derived.Test.YtnglhofegajbiaaTypes
namespace Go.Proofs.Ytnglhofegajbiaa
open Go.RowKit
set_option linter.unusedVariables false

/-- The cells cs hold the elements ds, sz cells each, which own the blocks fp, in this order. -/
def OL {α : Type} (OC : World → List Nat → List Value → α → Prop) (sz : Nat) (w : World) : List α → List Nat → List Value → Prop
  | [], fp, cs => fp = [] ∧ cs = []
  | d :: ds, fp, cs => ∃ f1 f2 c1 c2, fp = f1 ++ f2 ∧ cs = c1 ++ c2 ∧ c1.length = sz ∧ OC w f1 c1 d ∧ OL OC sz w ds f2 c2

def OKeeps {α : Type} (OC : World → List Nat → List Value → α → Prop) : Prop := ∀ w w' fp cs x, (∀ b ∈ fp, b < w.heap.size → w'.heap[b]? = w.heap[b]?) → OC w fp cs x → OC w' fp cs x

section
variable {α : Type} {OC : World → List Nat → List Value → α → Prop} {sz : Nat} {w w' : World}
theorem OL.keep (hK : OKeeps OC) : ∀ {ds : List α} {fp : List Nat} {cs : List Value}, OL OC sz w ds fp cs → (∀ b ∈ fp, b < w.heap.size → w'.heap[b]? = w.heap[b]?) → OL OC sz w' ds fp cs
  | [], _, _, h, _ => h
  | _ :: _, _, _, ⟨f1, f2, c1, c2, e1, e2, hl, ho, hr⟩, hk => ⟨f1, f2, c1, c2, e1, e2, hl, hK _ _ _ _ _ (fun b hb => hk b (by rw [e1]; exact List.mem_append_left _ hb)) ho, OL.keep hK hr (fun b hb => hk b (by rw [e1]; exact List.mem_append_right _ hb))⟩
theorem OL.len : ∀ {ds : List α} {fp : List Nat} {cs : List Value}, OL OC sz w ds fp cs → cs.length = ds.length * sz
  | [], _, _, ⟨_, h⟩ => by rw [h]; simp
  | _ :: ds, _, _, ⟨f1, f2, c1, c2, _, e2, hl, _, hr⟩ => by
    have := OL.len hr
    rw [e2, List.length_append, hl, this, List.length_cons, Nat.add_mul]
    omega
theorem OL.append : ∀ {ds ds2 : List α} {fp fp2 : List Nat} {cs cs2 : List Value}, OL OC sz w ds fp cs → OL OC sz w ds2 fp2 cs2 → OL OC sz w (ds ++ ds2) (fp ++ fp2) (cs ++ cs2)
  | [], _, _, _, _, _, ⟨e1, e2⟩, h2 => by subst e1; subst e2; exact h2
  | _ :: _, _, _, fp2, _, cs2, ⟨f1, f2, c1, c2, e1, e2, hl, ho, hr⟩, h2 => ⟨f1, f2 ++ fp2, c1, c2 ++ cs2, by rw [e1, List.append_assoc], by rw [e2, List.append_assoc], hl, ho, OL.append hr h2⟩
theorem OL.one {d : α} {f1 : List Nat} {c1 : List Value} (h : OC w f1 c1 d) (hl : c1.length = sz) : OL OC sz w [d] f1 c1 := ⟨f1, [], c1, [], by simp, by simp, hl, h, rfl, rfl⟩
theorem OL.snoc {ds : List α} {d : α} {fp f1 : List Nat} {cs c1 : List Value} (h : OL OC sz w ds fp cs) (h1 : OC w f1 c1 d) (hl : c1.length = sz) : OL OC sz w (ds ++ [d]) (fp ++ f1) (cs ++ c1) := h.append (OL.one h1 hl)
theorem OL.split : ∀ {ds ds2 : List α} {fp : List Nat} {cs : List Value}, OL OC sz w (ds ++ ds2) fp cs → ∃ f1 f2 c1 c2, fp = f1 ++ f2 ∧ cs = c1 ++ c2 ∧ OL OC sz w ds f1 c1 ∧ OL OC sz w ds2 f2 c2
  | [], _, fp, cs, h => ⟨[], fp, [], cs, rfl, rfl, ⟨rfl, rfl⟩, h⟩
  | _ :: _, _, _, _, ⟨f1, f2, c1, c2, e1, e2, hl, ho, hr⟩ => by
    obtain ⟨g1, g2, d1, d2, k1, k2, r1, r2⟩ := OL.split hr
    exact ⟨f1 ++ g1, g2, c1 ++ d1, d2, by rw [e1, k1, List.append_assoc], by rw [e2, k2, List.append_assoc], ⟨f1, g1, c1, d1, rfl, rfl, hl, ho, r1⟩, r2⟩
theorem OL.at_ {ds : List α} {fp : List Nat} {cs : List Value} (h : OL OC sz w ds fp cs) (k : Nat) (hk : k < ds.length) :
    ∃ f1 f2 f3 c1 c2 c3, fp = f1 ++ (f2 ++ f3) ∧ cs = c1 ++ (c2 ++ c3) ∧ c1.length = k * sz ∧ c2.length = sz ∧ OL OC sz w (ds.take k) f1 c1 ∧ OC w f2 c2 ds[k] ∧ OL OC sz w (ds.drop (k + 1)) f3 c3 := by
  have h' : OL OC sz w (ds.take k ++ ds[k] :: ds.drop (k + 1)) fp cs := by rw [← List.drop_eq_getElem_cons hk, List.take_append_drop]; exact h
  obtain ⟨f1, f2, c1, c2, e1, e2, h1, g1, g2, d1, d2, k1, k2, hl, ho, hr⟩ := OL.split h'
  refine ⟨f1, g1, g2, c1, d1, d2, by rw [e1, k1], by rw [e2, k2], ?_, hl, h1, ho, hr⟩
  rw [h1.len, List.length_take, Nat.min_eq_left (by omega)]
end

/-- A slice of such elements, of the call's own, in blocks lo to below hi; no block is met twice. -/
def NO {α : Type} (OC : World → List Nat → List Value → α → Prop) (E sz lo hi : Nat) (w : World) (v : Value) (ds : List α) : Prop :=
  ∃ cs fp, Own E sz lo hi w v ds.length cs ∧ OL OC sz w ds fp cs ∧ (v.ownBlock.toList ++ fp).Nodup ∧ ∀ b ∈ fp, lo ≤ b ∧ b < hi
section
variable {α : Type} {OC : World → List Nat → List Value → α → Prop} {E sz lo hi : Nat} {w w' : World} {v : Value} {ds : List α}
theorem NO.keep (hK : OKeeps OC) (h : NO OC E sz lo hi w v ds) (hk : ∀ k, lo ≤ k → k < hi → k < w.heap.size → w'.heap[k]? = w.heap[k]?) : NO OC E sz lo hi w' v ds := by
  obtain ⟨cs, fp, ho, hl, hn, hb⟩ := h
  exact ⟨cs, fp, ho.keep hk, hl.keep hK (fun b hm hs => hk b (hb b hm).1 (hb b hm).2 hs), hn, hb⟩
theorem NO.more {lo' hi' : Nat} (h : NO OC E sz lo hi w v ds) (h1 : lo' ≤ lo) (h2 : hi ≤ hi') : NO OC E sz lo' hi' w v ds := by
  obtain ⟨cs, fp, ho, hl, hn, hb⟩ := h
  exact ⟨cs, fp, ho.more h1 h2, hl, hn, fun b hm => ⟨by have := (hb b hm).1; omega, by have := (hb b hm).2; omega⟩⟩
theorem NO.slice (h : NO OC E sz lo hi w v ds) : ∃ a m c, v = .slice a m c := by
  obtain ⟨cs, fp, ho, _⟩ := h
  exact ho.slice
/-- It reads as the list. -/
theorem NO.sl {At : Nat → World → Nat → Nat → α → Prop} {pos : Nat → Nat} (h : NO OC E sz lo hi w v ds) (hpos : ∀ k, pos k = k * sz)
    (hAt : ∀ B w b o fp cs x, OC w fp cs x → (∀ b ∈ fp, b < B) → (∀ j u, cs[j]? = some u → w.cell? ⟨b, o + j, none⟩ = some u) → At B w b o x) : Sl At pos hi w v ds := by
  obtain ⟨cs, fp, ho, hl, _, hb⟩ := h
  rcases ho.cases with ⟨rfl, h0, _⟩ | ⟨g, cap, rest, rfl, _, hlt, hblk, hlc, hn, hm, hs⟩
  · exact ⟨none, 0, 0, rfl, h0, Nat.le_refl _, Nat.zero_le _, fun h => absurd h (by omega)⟩
  · refine ⟨_, ds.length, cap, rfl, rfl, hn, hm, fun _ => ⟨g, 0, rfl, hlt, fun k hk => ?_⟩⟩
    obtain ⟨f1, f2, f3, c1, c2, c3, e1, e2, l1, l2, _, hoc, _⟩ := hl.at_ k hk
    refine hAt _ _ _ _ f2 c2 _ hoc (fun b hm => ?_) fun j u hu => ?_
    · exact (hb b (by rw [e1]; exact List.mem_append_right _ (List.mem_append_left _ hm))).2
    · have hj := (List.getElem?_eq_some_iff.1 hu).1
      have ep : 0 + pos k + j = c1.length + j := by rw [hpos, l1]; omega
      rw [ep, hblk.cell, e2, List.append_assoc, List.getElem?_append_right (by omega), Nat.add_sub_cancel_left, List.append_assoc, List.getElem?_append_left (by omega)]
      exact hu
end
theorem ownsRow_keep {w w' : World} {base e size n : Nat} {v : Value} {xs : List Value} (h : w.ownsRow base e size v n xs) (hk : ∀ b ∈ v.ownBlock.toList, b < w.heap.size → w'.heap[b]? = w.heap[b]?) : w'.ownsRow base e size v n xs := by
  obtain ⟨h1, h2⟩ := h
  refine ⟨h1, ?_⟩
  rcases h2 with h2 | ⟨g, cap, cur, rfl, hg, hh, r⟩
  · exact .inl h2
  · have hs : g < w.heap.size := by
      rcases Nat.lt_or_ge g w.heap.size with h | h
      · exact h
      · rw [Array.getElem?_eq_none h] at hh; cases hh
    exact .inr ⟨g, cap, cur, rfl, hg, by rw [hk g (by simp [Value.ownBlock]) hs]; exact hh, r⟩
theorem sl_of_OL {α : Type} {OC : World → List Nat → List Value → α → Prop} {At : Nat → World → Nat → Nat → α → Prop} {pos : Nat → Nat} {E sz B : Nat} {w : World} {v : Value} {ds : List α} {cs : List Value} {fp : List Nat}
    (ho : w.ownsRow 0 E sz v ds.length cs) (hl : OL OC sz w ds fp cs) (hb : ∀ b, (v.ownBlock = some b ∨ b ∈ fp) → b < B) (hpos : ∀ k, pos k = k * sz)
    (hAt : ∀ B w b o fp cs x, OC w fp cs x → (∀ b ∈ fp, b < B) → (∀ j u, cs[j]? = some u → w.cell? ⟨b, o + j, none⟩ = some u) → At B w b o x) : Sl At pos B w v ds := by
  have ho' : Own E sz 0 B w v ds.length cs := ⟨ho, fun k hk => hb k (.inl hk)⟩
  rcases ho'.cases with ⟨rfl, h0, _⟩ | ⟨g, cap, rest, rfl, _, hlt, hblk, hlc, hn, hm, hs⟩
  · exact ⟨none, 0, 0, rfl, h0, Nat.le_refl _, Nat.zero_le _, fun h => absurd h (by omega)⟩
  · refine ⟨_, ds.length, cap, rfl, rfl, hn, hm, fun _ => ⟨g, 0, rfl, hlt, fun k hk => ?_⟩⟩
    obtain ⟨f1, f2, f3, c1, c2, c3, e1, e2, l1, l2, _, hoc, _⟩ := hl.at_ k hk
    refine hAt _ _ _ _ f2 c2 _ hoc (fun b hm => hb b (.inr (by rw [e1]; exact List.mem_append_right _ (List.mem_append_left _ hm)))) fun j u hu => ?_
    have hj := (List.getElem?_eq_some_iff.1 hu).1
    have ep : 0 + pos k + j = c1.length + j := by rw [hpos, l1]; omega
    rw [ep, hblk.cell, e2, List.append_assoc, List.getElem?_append_right (by omega), Nat.add_sub_cancel_left, List.append_assoc, List.getElem?_append_left (by omega)]
    exact hu
/-- One more element behind those that are there: its blocks are newer than all of theirs; only block g is written. -/
theorem nest_step {α : Type} {OC : World → List Nat → List Value → α → Prop} {sz : Nat} (hK : OKeeps OC) {wr w1 w2 : World} {g : Nat} {ds : List α} {d : α} {fp f1 : List Nat} {cs c1 : List Value}
    (hl : OL OC sz wr ds fp cs) (he : Ext wr w1) (ho : OC w1 f1 c1 d) (hsz : c1.length = sz) (hb : ∀ b ∈ fp, g < b ∧ b < wr.heap.size) (hn : (g :: fp).Nodup) (hn1 : f1.Nodup) (hb1 : ∀ b ∈ f1, wr.heap.size ≤ b ∧ b < w1.heap.size)
    (hg : g < wr.heap.size) (hs : ∀ b, b ≠ g → w2.heap[b]? = w1.heap[b]?) (hz : w2.heap.size = w1.heap.size) :
    OL OC sz w2 (ds ++ [d]) (fp ++ f1) (cs ++ c1) ∧ (g :: (fp ++ f1)).Nodup ∧ ∀ b ∈ fp ++ f1, g < b ∧ b < w2.heap.size := by
  have hsz1 := he.size
  refine ⟨?_, ?_, ?_⟩
  · refine OL.snoc (hl.keep hK fun b hm hlt => ?_) (hK _ _ _ _ _ (fun b hm _ => ?_) ho) hsz
    · have := hb b hm
      rw [hs b (by omega), he.same b hlt]
    · have := hb1 b hm
      exact hs b (by omega)
  · rw [List.nodup_cons] at hn ⊢
    refine ⟨fun hm => ?_, List.nodup_append.2 ⟨hn.2, hn1, fun a ha b hb2 => ?_⟩⟩
    · rcases List.mem_append.1 hm with hm | hm
      · exact hn.1 hm
      · have := hb1 g hm; omega
    · have h1 := hb a ha
      have h2 := hb1 b hb2
      omega
  · intro b hm
    rcases List.mem_append.1 hm with hm | hm
    · have := hb b hm; omega
    · have := hb1 b hm; omega
/-- How many elements there are, the inner ones counted by tot. -/
def totS {α : Type} (tot : α → Nat) (l : List α) : Nat := l.length + (l.map tot).sum
theorem sum_mem {α : Type} (tot : α → Nat) (l : List α) (k : Nat) (h : k < l.length) : tot l[k] ≤ (l.map tot).sum := by
  induction l generalizing k with
  | nil => simp at h
  | cons x l ih =>
    rcases k with _ | k
    · simp
    · have := ih k (by simpa using h)
      simp only [List.getElem_cons_succ, List.map_cons, List.sum_cons]
      omega
theorem sum_take {α : Type} (tot : α → Nat) (l : List α) (k : Nat) (h : k < l.length) : ((l.take (k + 1)).map tot).sum = ((l.take k).map tot).sum + tot l[k] := by
  rw [take_snoc l k h, List.map_append, List.sum_append, List.map_cons, List.map_nil, List.sum_cons, List.sum_nil, Nat.add_zero]
theorem sum_take_le {α : Type} (tot : α → Nat) (l : List α) (k : Nat) : ((l.take k).map tot).sum ≤ (l.map tot).sum := by
  have h : l = l.take k ++ l.drop k := (List.take_append_drop k l).symm
  have h2 : (l.map tot).sum = ((l.take k).map tot).sum + ((l.drop k).map tot).sum := by
    rw [← List.sum_append, ← List.map_append, List.take_append_drop]
  omega
end Go.Proofs.Ytnglhofegajbiaa
