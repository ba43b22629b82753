/- A draw's results: variables made before the cursor (blocks lo to below m), which may be written while other operations are still to come. No conditions. -/
import Derived.Test.YtddaodemdkjijaaGreatD0
import Derived.Test.YtddaodemdkjijaaGreatGrowV
import Derived.Test.YtddaodemdkjijaaGreatGHT
import Derived.Test.YtddaodemdkjijaaGreatGHR
namespace Go.Proofs.YtddaodemdkjijaaGreat
open Go Go.RowKit
/-- Of what there was only block g and the blocks lo to below m may have turned; the cursor is one still, if its bytes lie below lo. -/
structure DW (g lo m : Nat) (a b : World) : Prop where
  os : b.os = a.os
  tape : b.tape = a.tape
  output : b.output = a.output
  size : a.heap.size ≤ b.heap.size
  block : ∀ k, k < a.heap.size → k ≠ g → k < lo ∨ m ≤ k → b.heap[k]? = a.heap[k]?
  cur : ∀ {B : Nat}, B ≤ lo → m ≤ g → CurB B a g → CurB B b g
  shape : m ≤ g → ∀ k T cs, lo ≤ k → k < m → Blk a k T cs → ∃ cs', cs'.length = cs.length ∧ Blk b k T cs'
section
variable {g lo m : Nat} {a b c w w' : World}
theorem DW.refl (g lo m : Nat) (a : World) : DW g lo m a a := ⟨rfl, rfl, rfl, Nat.le_refl _, fun _ _ _ _ => rfl, fun _ _ h => h, fun _ _ _ cs _ _ h => ⟨cs, rfl, h⟩⟩
theorem DW.trans (h : DW g lo m a b) (k : DW g lo m b c) : DW g lo m a c :=
  ⟨k.os.trans h.os, k.tape.trans h.tape, k.output.trans h.output, Nat.le_trans h.size k.size, fun j hj hn hr => (k.block j (Nat.lt_of_lt_of_le hj h.size) hn hr).trans (h.block j hj hn hr), fun h1 h2 x => k.cur h1 h2 (h.cur h1 h2 x), fun h0 j T cs h1 h2 hb => by
    obtain ⟨c1, l1, b1⟩ := h.shape h0 j T cs h1 h2 hb
    obtain ⟨c2, l2, b2⟩ := k.shape h0 j T c1 h1 h2 b1
    exact ⟨c2, l2.trans l1, b2⟩⟩
theorem DW.of_d (h : D g a b) : DW g lo m a b := ⟨h.out.os, h.out.tape, h.out.output, h.out.size, fun _ hk hn _ => h.block hk hn, fun _ _ x => h.cur x, fun h0 k T cs _ h2 hb => ⟨cs, rfl, hb.d h (by omega)⟩⟩
theorem DW.of_ext (h : Ext a b) (hg : g < a.heap.size) : DW g lo m a b := DW.of_d (D.of_ext h hg)
theorem DW.drew (h : DW g lo m a w) : DW g lo m a w.drew := ⟨h.os, h.tape, h.output, h.size, h.block, fun h1 h2 x => (h.cur h1 h2 x).all fun _ _ => rfl, h.shape⟩
theorem DW.alloc (h : DW g lo m a w) (hg : g < a.heap.size) (o : Obj) : DW g lo m a (w.alloc o) := h.trans (DW.of_ext ((Ext.refl _).alloc o) (Nat.lt_of_lt_of_le hg h.size))
theorem DW.set (h : DW g lo m a w) {pb po : Nat} (h1 : lo ≤ pb) (h2 : pb < m) (u : Value) : DW g lo m a (w.setCell ⟨pb, po, none⟩ u) := by
  refine ⟨h.os, h.tape, h.output, by rw [World.size_setCell]; exact h.size, fun k hk hn hr => ?_, fun h3 h4 x => (h.cur h3 h4 x).keep ?_ fun k hk => ?_, fun h0 k T cs h3 h4 hb => ?_⟩
  · rw [Below.heap_setCell _ _ _ _ (by dsimp only; omega)]
    exact h.block k hk hn hr
  · exact Below.heap_setCell _ _ _ _ (by dsimp only; omega)
  · exact Below.heap_setCell _ _ _ _ (by dsimp only; omega)
  · obtain ⟨c1, l1, b1⟩ := h.shape h0 k T cs h3 h4 hb
    by_cases e : k = pb
    · subst e
      exact ⟨c1.set po u, by rw [List.length_set]; exact l1, b1.set_ po u⟩
    · exact ⟨c1, l1, b1.far (p := ⟨pb, po, none⟩) (by dsimp only; omega) u⟩
theorem DW.cell (h : DW g lo m a b) {k o : Nat} (hk : k < a.heap.size) (hn : k ≠ g) (hr : k < lo ∨ m ≤ k) : b.cell? ⟨k, o, none⟩ = a.cell? ⟨k, o, none⟩ := World.cell?_of_block (w := a) (a := ⟨k, o, none⟩) (h.block k hk hn hr)
theorem DW.facts (h : DW g lo m a b) : (∀ k o, m ≤ k → k < a.heap.size → k ≠ g → b.cell? ⟨k, o, none⟩ = a.cell? ⟨k, o, none⟩) ∧ (∀ k o, m ≤ k → k < a.heap.size → k ≠ g → b.frozen? ⟨k, o, none⟩ = a.frozen? ⟨k, o, none⟩) ∧ a.heap.size ≤ b.heap.size :=
  ⟨fun _ _ hm hk hn => h.cell hk hn (.inr hm), fun _ _ hm hk hn => frozen_of_block (h.block _ hk hn (.inr hm)), h.size⟩
theorem len2 {cs : List Value} (h : cs.length = 2) : ∃ x y, cs = [x, y] := by
  rcases cs with _ | ⟨x, _ | ⟨y, _ | ⟨z, cs⟩⟩⟩ <;> simp at h
  exact ⟨x, y, rfl⟩
theorem len7 {cs : List Value} (h : cs.length = 7) : ∃ a b c d e f k, cs = [a, b, c, d, e, f, k] := by
  rcases cs with _ | ⟨a, _ | ⟨b, _ | ⟨c, _ | ⟨d, _ | ⟨e, _ | ⟨f, _ | ⟨k, _ | ⟨z, cs⟩⟩⟩⟩⟩⟩⟩⟩ <;> simp at h
  exact ⟨a, b, c, d, e, f, k, rfl⟩
theorem DW.rest (h : DW g lo m a b) (hm : m ≤ g) (hl : ∃ B, B ≤ lo ∧ CurB B a g) : ∃ B, B ≤ lo ∧ CurB B b g := by
  obtain ⟨B, h1, h2⟩ := hl
  exact ⟨B, h1, h.cur h1 hm h2⟩
/-- Where the cursor and the variables are new, memory has only grown. -/
theorem DW.ext (h : DW g lo m b c) (hb : Ext a b) (hg : a.heap.size ≤ g) (hl : a.heap.size ≤ lo) : Ext a c := by
  have h1 : Below a.heap.size b c := ⟨h.os, h.tape, h.output, h.size, fun k hk => h.block k (Nat.lt_of_lt_of_le hk hb.size) (by omega) (.inl (by omega))⟩
  have h2 : Below a.heap.size a b := hb.below
  unfold Ext
  exact Below.trans h2 h1
theorem Own.dw {E sz l h n : Nat} {v : Value} {cs : List Value} (ho : Own E sz l h w v n cs) (hd : DW g lo m w w') (hg : g < l) (hm : m ≤ l) : Own E sz l h w' v n cs := ho.keep fun k h1 _ h3 => hd.block k h3 (by omega) (.inr (by omega))
theorem Own.dwUp {E sz l n : Nat} {v : Value} {cs : List Value} (h : Own E sz l w.heap.size w v n cs) (hd : DW g lo m w w') (hg : g < l) (hm : m ≤ l) : Own E sz l w'.heap.size w' v n cs := (h.dw hd hg hm).more (Nat.le_refl _) hd.size
theorem NO.dw {α : Type} {OC : World → List Nat → List Value → α → Prop} {E sz l h : Nat} {v : Value} {ds : List α} (hK : OKeeps OC) (ho : NO OC E sz l h w v ds) (hd : DW g lo m w w') (hg : g < l) (hm : m ≤ l) : NO OC E sz l h w' v ds := NO.keep hK ho fun k h1 _ h3 => hd.block k h3 (by omega) (.inr (by omega))
theorem TopologyO.dw {l h : Nat} {v : Value} {t : DTopology} (ho : TopologyO l h w v t) (hd : DW g lo m w w') (hg : g < l) (hm : m ≤ l) : TopologyO l h w' v t := ho.keep fun k h1 _ h3 => hd.block k h3 (by omega) (.inr (by omega))
theorem TrustRootO.dw {l h : Nat} {v : Value} {t : DTrustRoot} (ho : TrustRootO l h w v t) (hd : DW g lo m w w') (hg : g < l) (hm : m ≤ l) : TrustRootO l h w' v t := ho.keep fun k h1 _ h3 => hd.block k h3 (by omega) (.inr (by omega))
end
end Go.Proofs.YtddaodemdkjijaaGreat
