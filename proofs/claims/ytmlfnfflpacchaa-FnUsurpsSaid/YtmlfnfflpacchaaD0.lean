/- Words for draws: a cursor over bytes, which calls turn, and what stays beside it. No conditions. -/
import Derived.Test.YtmlfnfflpacchaaGCore
import Derived.Test.YtmlfnfflpacchaaGGrow
import Derived.Laws.BitsAllLaws
import Derived.Laws.Bits128
namespace Go.Proofs.Ytmlfnfflpacchaa
open Go.RowKit
set_option linter.unusedVariables false
/-- One byte. -/
def ByteAt (_B : Nat) (w : World) (b o : Nat) (x : Nat) : Prop := w.cell? ⟨b, o, none⟩ = some (.int .u8 (x : Int)) ∧ x < 256
theorem ByteAt.keeps : Keeps ByteAt := fun _ _ _ _ _ _ _ _ hs hb h => ⟨(hs.cell hb).trans h.1, h.2⟩
/-- A []byte. -/
abbrev ByteS := Sl ByteAt (fun k => k)
/-- A cursor in block g: bytes in blocks below B, a place among them or behind them, a number. -/
def CurB (B : Nat) (w : World) (g : Nat) : Prop := ∃ (A : Option Addr) (n c i : Nat) (h : Int) (bs : List Nat), Blk w g 149 [.slice A n c, I i, I h] ∧ i ≤ n ∧ n ≤ 1048576 ∧ ByteS B w (.slice A n c) bs ∧ B ≤ g
abbrev Cur (w : World) (g : Nat) : Prop := CurB g w g
theorem CurB.lt {B : Nat} {w : World} {g : Nat} (h : CurB B w g) : g < w.heap.size := by
  obtain ⟨A, n, c, i, h, bs, hb, _⟩ := h
  exact hb.lt
theorem CurB.keep {B : Nat} {w w' : World} {g : Nat} (h : CurB B w g) (hg : w'.heap[g]? = w.heap[g]?) (hs : ∀ k, k < B → w'.heap[k]? = w.heap[k]?) : CurB B w' g := by
  obtain ⟨A, n, c, i, h, bs, hb, h1, h2, h3, h4⟩ := h
  exact ⟨A, n, c, i, h, bs, hg.trans hb, h1, h2, h3.keep ByteAt.keeps (Nat.le_refl _) fun k hk => hs k hk, h4⟩
theorem CurB.all {B : Nat} {w w' : World} {g : Nat} (h : CurB B w g) (hs : ∀ k, k ≤ g → w'.heap[k]? = w.heap[k]?) : CurB B w' g := by
  have hB : B ≤ g := by obtain ⟨A, n, c, i, h, bs, _, _, _, _, h4⟩ := h; exact h4
  exact h.keep (hs g (Nat.le_refl _)) fun k hk => hs k (by omega)
theorem CurB.cur {B : Nat} {w : World} {g : Nat} (h : CurB B w g) : Cur w g := by
  obtain ⟨A, n, c, i, h, bs, hb, h1, h2, h3, h4⟩ := h
  exact ⟨A, n, c, i, h, bs, hb, h1, h2, h3.keep ByteAt.keeps h4 fun k hk => rfl, Nat.le_refl _⟩
theorem CurB.bytes {B : Nat} {w : World} {g : Nat} (x : CurB B w g) {A : Option Addr} {n c i : Nat} {h : Int} (hb : Blk w g 149 [.slice A n c, I i, I h]) : ∃ bs, ByteS B w (.slice A n c) bs ∧ B ≤ g := by
  obtain ⟨A', n', c', i', h', bs, hb', h1, h2, h3, h4⟩ := x
  have e := Option.some.inj (hb'.symm.trans hb)
  have e2 : ([.slice A' n' c', I i', I h'] : List Value).toArray = [.slice A n c, I i, I h].toArray := (Obj.cells.inj e).1
  have e3 := congrArg Array.toList e2
  simp only [List.cons.injEq, Value.slice.injEq] at e3
  obtain ⟨⟨rfl, rfl, rfl⟩, -⟩ := e3
  exact ⟨bs, h3, h4⟩
/-- Only the cursor's block may have turned of what there was; the cursor is one still. -/
structure D (g : Nat) (a b : World) : Prop where
  out : Out g (g + 1) a b
  cur : ∀ {B : Nat}, CurB B a g → CurB B b g
section
variable {g : Nat} {a b c w w' : World}
theorem D.refl (g : Nat) (a : World) : D g a a := ⟨Out.refl _ _ _, fun h => h⟩
theorem D.trans (h : D g a b) (k : D g b c) : D g a c := ⟨h.out.trans k.out, fun x => k.cur (h.cur x)⟩
theorem D.size (h : D g a b) : a.heap.size ≤ b.heap.size := h.out.size
theorem D.block (h : D g a b) {k : Nat} (hk : k < a.heap.size) (hn : k ≠ g) : b.heap[k]? = a.heap[k]? := h.out.block k hk (by omega)
theorem D.cell (h : D g a b) {k o : Nat} (hk : k < a.heap.size) (hn : k ≠ g) : b.cell? ⟨k, o, none⟩ = a.cell? ⟨k, o, none⟩ := World.cell?_of_block (w := a) (a := ⟨k, o, none⟩) (h.block hk hn)
theorem frozen_of_block {w w' : World} {k o : Nat} (h : w'.heap[k]? = w.heap[k]?) : w'.frozen? ⟨k, o, none⟩ = w.frozen? ⟨k, o, none⟩ := by
  simp only [World.frozen?, h]
theorem D.facts (h : D g a b) : (∀ k o, k < a.heap.size → k ≠ g → b.cell? ⟨k, o, none⟩ = a.cell? ⟨k, o, none⟩) ∧ (∀ k o, k < a.heap.size → k ≠ g → b.frozen? ⟨k, o, none⟩ = a.frozen? ⟨k, o, none⟩) ∧ a.heap.size ≤ b.heap.size :=
  ⟨fun _ _ hk hn => h.cell hk hn, fun _ _ hk hn => frozen_of_block (h.block hk hn), h.size⟩
theorem D.of_ext (h : Ext a b) (hg : g < a.heap.size) : D g a b := ⟨Out.of_ext h, fun x => x.all fun k hk => h.same k (by omega)⟩
theorem D.alloc (h : D g a w) (hg : g < a.heap.size) (o : Obj) : D g a (w.alloc o) := h.trans (D.of_ext ((Ext.refl _).alloc o) (Nat.lt_of_lt_of_le hg h.size))
theorem D.drew (h : D g a w) : D g a w.drew := ⟨⟨h.out.os, h.out.tape, h.out.output, h.out.size, h.out.block⟩, fun x => (h.cur x).all fun _ _ => rfl⟩
theorem D.setNew (h : D g a w) (hg : g < a.heap.size) {p : Addr} (hp : a.heap.size ≤ p.block) (u : Value) : D g a (w.setCell p u) := by
  refine ⟨⟨h.out.os, h.out.tape, h.out.output, by simp only [World.size_setCell]; exact h.out.size, fun k hk hn => ?_⟩, fun x => (h.cur x).all fun k hk => Below.heap_setCell _ _ _ _ (by omega)⟩
  rw [Below.heap_setCell _ _ _ _ (by omega)]
  exact h.out.block k hk hn
theorem D.grown {row : Option Nat} (h : D g a w) (hg : g < a.heap.size) (hw : w.grownBy b row) (hr : ∀ k, row = some k → a.heap.size ≤ k) : D g a b := by
  have hb : Below a.heap.size w b := Below.grown (Below.refl _ _) hw h.size hr
  refine ⟨⟨hb.os.trans h.out.os, hb.tape.trans h.out.tape, hb.output.trans h.out.output, Nat.le_trans h.size hb.size, fun k hk hn => (hb.block k hk).trans (h.out.block k hk hn)⟩, fun x => (h.cur x).all fun k hk => hb.block k (by omega)⟩
/-- Where the cursor is new, memory has only grown. -/
theorem D.ext (h : D g b c) (hb : Ext a b) (hg : a.heap.size ≤ g) : Ext a c := by
  have h1 : Below a.heap.size b c := ⟨h.out.os, h.out.tape, h.out.output, h.size, fun k hk => h.block (Nat.lt_of_lt_of_le hk hb.size) (by omega)⟩
  have h2 : Below a.heap.size a b := hb.below
  unfold Ext
  exact Below.trans h2 h1
theorem Blk.d {k : Nat} {t : TypeId} {cs : List Value} (h : Blk w k t cs) (hd : D g w w') (hn : k ≠ g) : Blk w' k t cs := (hd.block h.lt hn).trans h
theorem Own.d {E sz lo hi n : Nat} {v : Value} {cs : List Value} (h : Own E sz lo hi w v n cs) (hd : D g w w') (hg : g < lo) : Own E sz lo hi w' v n cs := h.keep fun k h1 _ h3 => hd.block h3 (by omega)
theorem Own.dUp {E sz lo n : Nat} {v : Value} {cs : List Value} (h : Own E sz lo w.heap.size w v n cs) (hd : D g w w') (hg : g < lo) : Own E sz lo w'.heap.size w' v n cs := (h.d hd hg).more (Nat.le_refl _) hd.size
theorem NO.d {α : Type} {OC : World → List Nat → List Value → α → Prop} {E sz lo hi : Nat} {v : Value} {ds : List α} (hK : OKeeps OC) (h : NO OC E sz lo hi w v ds) (hd : D g w w') (hg : g < lo) : NO OC E sz lo hi w' v ds := NO.keep hK h fun k h1 _ h3 => hd.block h3 (by omega)
end
/-- Found from what lies in the context; g < the first world's size is wanted as a plain fact. -/
theorem xd {g : Nat} {a b : World} (h : D g a b := by repeat (first | (with_reducible exact D.refl _ _) | (with_reducible assumption) | (with_reducible refine D.alloc ?_ (by omega) _) | (with_reducible refine D.drew ?_) | (with_reducible refine D.setNew (p := _) ?_ (by omega) ?ge _; case ge => (dsimp only; omega)) | (with_reducible refine D.trans ?_ (by with_reducible assumption)) | (with_reducible refine D.trans ?_ (D.of_ext (by with_reducible assumption) (by omega))))) : D g a b := h
end Go.Proofs.Ytmlfnfflpacchaa
