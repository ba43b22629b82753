/- Plain words for memory, used by all texts of this seat: a slice that reads as a list, a block that is known whole, and how such readings are kept. No conditions. -/
import Derived.WalkKit
import Derived.WalkSpells
import Derived.WalkLawsBesides
import Derived.Deep.QuietTactic
import Derived.BigQuiet
import Derived.Lib.Hide
import Derived.Deep.RegionHeld3
import Derived.Deep.OwnRows
import Derived.KernelRfl
namespace Go.Proofs.Ytnglhofegajbiaa
open Go.RowKit
set_option linter.unusedVariables false

/-- An int of Go. -/
abbrev I (n : Int) : Value := .int .i64 n

/-- The memory below block B is alike in two worlds. -/
def Same (B : Nat) (w w' : World) : Prop := ∀ k, k < B → w'.heap[k]? = w.heap[k]?
theorem Same.of_below {B : Nat} {w w' : World} (h : Below B w w') : Same B w w' := h.block
theorem Same.cell {B : Nat} {w w' : World} (h : Same B w w') {b o : Nat} (hb : b < B) : w'.cell? ⟨b, o, none⟩ = w.cell? ⟨b, o, none⟩ := World.cell?_of_block (w := w) (a := ⟨b, o, none⟩) (h b hb)

/-- The slice value v reads as the list ds: element k is read by At at offset pos k behind the slice's first cell; all blocks that are met lie below B. -/
def Sl {α : Type} (At : Nat → World → Nat → Nat → α → Prop) (pos : Nat → Nat) (B : Nat) (w : World) (v : Value) (ds : List α) : Prop :=
  ∃ A n c, v = .slice A n c ∧ ds.length = n ∧ n ≤ c ∧ c ≤ maxLen ∧ (0 < n → ∃ b off, A = some ⟨b, off, none⟩ ∧ b < B ∧ ∀ k (hk : k < ds.length), At B w b (off + pos k) ds[k])

/-- At is kept where memory below B is. -/
def Keeps {α : Type} (At : Nat → World → Nat → Nat → α → Prop) : Prop := ∀ B B' w w' b o x, B ≤ B' → Same B w w' → b < B → At B w b o x → At B' w' b o x

theorem Sl.keep {α : Type} {At : Nat → World → Nat → Nat → α → Prop} {pos : Nat → Nat} {B B' : Nat} {w w' : World} {v : Value} {ds : List α} (hK : Keeps At) (h : Sl At pos B w v ds) (hB : B ≤ B') (hs : Same B w w') : Sl At pos B' w' v ds := by
  obtain ⟨A, n, c, rfl, hl, hn, hc, hr⟩ := h
  refine ⟨A, n, c, rfl, hl, hn, hc, fun h0 => ?_⟩
  obtain ⟨b, off, e, hb, hat⟩ := hr h0
  exact ⟨b, off, e, by omega, fun k hk => hK _ _ _ _ _ _ _ hB hs hb (hat k hk)⟩

theorem Sl.at_ {α : Type} {At : Nat → World → Nat → Nat → α → Prop} {pos : Nat → Nat} {B : Nat} {w : World} {A : Option Addr} {n c : Nat} {ds : List α} (h : Sl At pos B w (.slice A n c) ds) {k : Nat} (hk : k < n) :
    ∃ b off, A = some ⟨b, off, none⟩ ∧ b < B ∧ ∃ h : k < ds.length, At B w b (off + pos k) (ds[k]'h) := by
  obtain ⟨A, n, c, e, hl, hn, hc, hr⟩ := h
  cases e
  obtain ⟨b, off, e, hb, hat⟩ := hr (by omega)
  exact ⟨b, off, e, hb, by omega, hat k (by omega)⟩
theorem Sl.len {α : Type} {At : Nat → World → Nat → Nat → α → Prop} {pos : Nat → Nat} {B : Nat} {w : World} {A : Option Addr} {n c : Nat} {ds : List α} (h : Sl At pos B w (.slice A n c) ds) : ds.length = n ∧ n ≤ c ∧ c ≤ maxLen := by
  obtain ⟨A, n, c, e, hl, hn, hc, _⟩ := h
  cases e
  exact ⟨hl, hn, hc⟩

/-- One cell that holds an int. -/
def IntAt (_B : Nat) (w : World) (b o : Nat) (x : Int) : Prop := w.cell? ⟨b, o, none⟩ = some (I x)
theorem IntAt.keeps : Keeps IntAt := fun _ _ _ _ _ _ _ _ hs hb h => (hs.cell hb).trans h
/-- A []int. -/
abbrev IntS := Sl IntAt (fun k => k)

/-- Block g is just the cells cs of element type t, none of them frozen. -/
def Blk (w : World) (g : Nat) (t : TypeId) (cs : List Value) : Prop := w.heap[g]? = some (.cells cs.toArray t (0, 0))

section
variable {w w' : World} {g : Nat} {t : TypeId} {cs : List Value}
theorem Blk.lt (h : Blk w g t cs) : g < w.heap.size := by
  rcases Nat.lt_or_ge g w.heap.size with hlt | hge
  · exact hlt
  · unfold Blk at h; rw [Array.getElem?_eq_none hge] at h; cases h
theorem Blk.cell (h : Blk w g t cs) (i : Nat) : w.cell? ⟨g, i, none⟩ = cs[i]? := by
  unfold Blk at h
  simp [World.cell?, h]
theorem Blk.frozen (h : Blk w g t cs) (i : Nat) : w.frozen? ⟨g, i, none⟩ = false := by
  unfold Blk at h
  simp [World.frozen?, h]
theorem Blk.new (w : World) (t : TypeId) (cs : List Value) : Blk (w.alloc (.cells cs.toArray t)) w.heap.size t cs := by
  exact heap_alloc_new w _
theorem Blk.new' (w : World) (t : TypeId) (cs : List Value) (g : Nat) (h : g = w.heap.size) : Blk (w.alloc (.cells cs.toArray t)) g t cs := by
  subst h
  exact heap_alloc_new w _
theorem Blk.alloc (h : Blk w g t cs) (o : Obj) : Blk (w.alloc o) g t cs := (Below.heap_alloc w o g h.lt).trans h
theorem Blk.set_ (h : Blk w g t cs) (i : Nat) (u : Value) : Blk (w.setCell ⟨g, i, none⟩ u) g t (cs.set i u) := by
  unfold Blk at h ⊢
  simp [World.setCell, Array.getElem?_modify, h]
theorem Blk.far (h : Blk w g t cs) {p : Addr} (hp : g ≠ p.block) (u : Value) : Blk (w.setCell p u) g t cs := (Below.heap_setCell w p u g hp).trans h
theorem Blk.below {B : Nat} (h : Blk w g t cs) (hb : Below B w w') (hg : g < B) : Blk w' g t cs := (hb.block g hg).trans h
end

theorem blk1 {w : World} {g : Nat} {t : TypeId} {a0 : Value} (h : Blk w g t [a0]) : w.cell? ⟨g, 0, none⟩ = some a0 := h.cell 0
theorem blk2 {w : World} {g : Nat} {t : TypeId} {a0 a1 : Value} (h : Blk w g t [a0, a1]) : w.cell? ⟨g, 0, none⟩ = some a0 ∧ w.cell? ⟨g, 1, none⟩ = some a1 := ⟨h.cell 0, h.cell 1⟩
theorem blk3 {w : World} {g : Nat} {t : TypeId} {a0 a1 a2 : Value} (h : Blk w g t [a0, a1, a2]) : w.cell? ⟨g, 0, none⟩ = some a0 ∧ w.cell? ⟨g, 1, none⟩ = some a1 ∧ w.cell? ⟨g, 2, none⟩ = some a2 := ⟨h.cell 0, h.cell 1, h.cell 2⟩
theorem blk4 {w : World} {g : Nat} {t : TypeId} {a0 a1 a2 a3 : Value} (h : Blk w g t [a0, a1, a2, a3]) : w.cell? ⟨g, 0, none⟩ = some a0 ∧ w.cell? ⟨g, 1, none⟩ = some a1 ∧ w.cell? ⟨g, 2, none⟩ = some a2 ∧ w.cell? ⟨g, 3, none⟩ = some a3 := ⟨h.cell 0, h.cell 1, h.cell 2, h.cell 3⟩
theorem blk5 {w : World} {g : Nat} {t : TypeId} {a0 a1 a2 a3 a4 : Value} (h : Blk w g t [a0, a1, a2, a3, a4]) : w.cell? ⟨g, 0, none⟩ = some a0 ∧ w.cell? ⟨g, 1, none⟩ = some a1 ∧ w.cell? ⟨g, 2, none⟩ = some a2 ∧ w.cell? ⟨g, 3, none⟩ = some a3 ∧ w.cell? ⟨g, 4, none⟩ = some a4 := ⟨h.cell 0, h.cell 1, h.cell 2, h.cell 3, h.cell 4⟩
theorem blk6 {w : World} {g : Nat} {t : TypeId} {a0 a1 a2 a3 a4 a5 : Value} (h : Blk w g t [a0, a1, a2, a3, a4, a5]) : w.cell? ⟨g, 0, none⟩ = some a0 ∧ w.cell? ⟨g, 1, none⟩ = some a1 ∧ w.cell? ⟨g, 2, none⟩ = some a2 ∧ w.cell? ⟨g, 3, none⟩ = some a3 ∧ w.cell? ⟨g, 4, none⟩ = some a4 ∧ w.cell? ⟨g, 5, none⟩ = some a5 := ⟨h.cell 0, h.cell 1, h.cell 2, h.cell 3, h.cell 4, h.cell 5⟩
theorem blk7 {w : World} {g : Nat} {t : TypeId} {a0 a1 a2 a3 a4 a5 a6 : Value} (h : Blk w g t [a0, a1, a2, a3, a4, a5, a6]) : w.cell? ⟨g, 0, none⟩ = some a0 ∧ w.cell? ⟨g, 1, none⟩ = some a1 ∧ w.cell? ⟨g, 2, none⟩ = some a2 ∧ w.cell? ⟨g, 3, none⟩ = some a3 ∧ w.cell? ⟨g, 4, none⟩ = some a4 ∧ w.cell? ⟨g, 5, none⟩ = some a5 ∧ w.cell? ⟨g, 6, none⟩ = some a6 := ⟨h.cell 0, h.cell 1, h.cell 2, h.cell 3, h.cell 4, h.cell 5, h.cell 6⟩
theorem blk8 {w : World} {g : Nat} {t : TypeId} {a0 a1 a2 a3 a4 a5 a6 a7 : Value} (h : Blk w g t [a0, a1, a2, a3, a4, a5, a6, a7]) : w.cell? ⟨g, 0, none⟩ = some a0 ∧ w.cell? ⟨g, 1, none⟩ = some a1 ∧ w.cell? ⟨g, 2, none⟩ = some a2 ∧ w.cell? ⟨g, 3, none⟩ = some a3 ∧ w.cell? ⟨g, 4, none⟩ = some a4 ∧ w.cell? ⟨g, 5, none⟩ = some a5 ∧ w.cell? ⟨g, 6, none⟩ = some a6 ∧ w.cell? ⟨g, 7, none⟩ = some a7 := ⟨h.cell 0, h.cell 1, h.cell 2, h.cell 3, h.cell 4, h.cell 5, h.cell 6, h.cell 7⟩

/-- Memory has grown: whatever there was is as it was. -/
def Ext (a b : World) : Prop := Below a.heap.size a b
section
variable {a b c w : World}
theorem Ext.below (h : Ext a b) : Below a.heap.size a b := h
theorem Ext.size (h : Ext a b) : a.heap.size ≤ b.heap.size := Below.size h
theorem Ext.same (h : Ext a b) : Same a.heap.size a b := Below.block h
theorem Ext.refl (a : World) : Ext a a := Below.refl _ _
theorem Ext.trans (h : Ext a b) (k : Ext b c) : Ext a c := Below.trans h (Below.mono k h.size)
theorem Ext.alloc (h : Ext a w) (o : Obj) : Ext a (w.alloc o) := Below.alloc h h.size o
theorem Ext.drew (h : Ext a w) : Ext a w.drew := Below.drew h
theorem Ext.drewN (h : Ext a w) (n : Nat) : Ext a (w.drewN n) := by
  have k : Below a.heap.size a w := h
  exact ⟨k.os, k.tape, k.output, k.size, k.block⟩
theorem Ext.setCell (h : Ext a w) {p : Addr} (hp : a.heap.size ≤ p.block) (u : Value) : Ext a (w.setCell p u) := Below.setCell h hp u
theorem Ext.cell (h : Ext a b) {k o : Nat} (hk : k < a.heap.size) : b.cell? ⟨k, o, none⟩ = a.cell? ⟨k, o, none⟩ := h.same.cell hk
theorem Ext.facts (h : Ext a b) : (∀ k o, k < a.heap.size → b.cell? ⟨k, o, none⟩ = a.cell? ⟨k, o, none⟩) ∧ (∀ k o, k < a.heap.size → b.frozen? ⟨k, o, none⟩ = a.frozen? ⟨k, o, none⟩) ∧ a.heap.size ≤ b.heap.size :=
  ⟨fun _ _ hk => h.cell hk, fun k o hk => Below.frozen (p := ⟨k, o, none⟩) h hk, h.size⟩
theorem Ext.grown {row : Option Nat} (h : Ext a w) (hg : w.grownBy b row) (hr : ∀ k, row = some k → a.heap.size ≤ k) : Ext a b := Below.grown h hg h.size hr
end
attribute [irreducible] Ext
theorem Blk.ext {w w' : World} {g : Nat} {t : TypeId} {cs : List Value} (h : Blk w g t cs) (he : Ext w w') : Blk w' g t cs := (he.same g h.lt).trans h
theorem Sl.ext {α : Type} {At : Nat → World → Nat → Nat → α → Prop} {pos : Nat → Nat} {w w' : World} {v : Value} {ds : List α} (hK : Keeps At) (h : Sl At pos w.heap.size w v ds) (hs : Ext w w') : Sl At pos w'.heap.size w' v ds := h.keep hK hs.size hs.same
theorem IntS.ext {w w' : World} {v : Value} {ds : List Int} (h : IntS w.heap.size w v ds) (hs : Ext w w') : IntS w'.heap.size w' v ds := Sl.ext IntAt.keeps h hs

/-- What a held region keeps: no block has gone, and below B all cells read as in w0. -/
theorem keepC {w0 w1 w2 : World} {B : Nat} (h : B ≤ w1.heap.size ∧ ∀ b o, b < B → w1.cell? ⟨b, o, none⟩ = w0.cell? ⟨b, o, none⟩) (hb : Ext w1 w2) :
    B ≤ w2.heap.size ∧ ∀ b o, b < B → w2.cell? ⟨b, o, none⟩ = w0.cell? ⟨b, o, none⟩ :=
  ⟨Nat.le_trans h.1 hb.size, fun b o hB => (hb.cell (Nat.lt_of_lt_of_le hB h.1)).trans (h.2 b o hB)⟩

/-- Outside the blocks lo .. hi nothing that was there has turned, and no block has gone. -/
structure Out (lo hi : Nat) (w w' : World) : Prop where
  os : w'.os = w.os
  tape : w'.tape = w.tape
  output : w'.output = w.output
  size : w.heap.size ≤ w'.heap.size
  block : ∀ k, k < w.heap.size → k < lo ∨ hi ≤ k → w'.heap[k]? = w.heap[k]?
theorem Out.refl (lo hi : Nat) (w : World) : Out lo hi w w := ⟨rfl, rfl, rfl, Nat.le_refl _, fun _ _ _ => rfl⟩
theorem Out.trans {lo hi : Nat} {a b c : World} (h : Out lo hi a b) (k : Out lo hi b c) : Out lo hi a c :=
  ⟨k.os.trans h.os, k.tape.trans h.tape, k.output.trans h.output, Nat.le_trans h.size k.size, fun i hs hi => (k.block i (Nat.lt_of_lt_of_le hs h.size) hi).trans (h.block i hs hi)⟩
theorem Out.mono {lo hi lo' hi' : Nat} {a b : World} (h : Out lo hi a b) (h1 : lo' ≤ lo) (h2 : hi ≤ hi') : Out lo' hi' a b :=
  ⟨h.os, h.tape, h.output, h.size, fun i hs hi => h.block i hs (by omega)⟩
theorem Out.setCell {lo hi : Nat} {a w : World} (h : Out lo hi a w) {p : Addr} (h1 : lo ≤ p.block) (h2 : p.block < hi) (u : Value) : Out lo hi a (w.setCell p u) :=
  h.trans ⟨rfl, rfl, rfl, by simp [World.setCell], fun k _ hk => Below.heap_setCell _ _ _ _ (by omega)⟩
theorem Out.below {lo hi B : Nat} {a w : World} (h : Out lo hi a w) (hB : B ≤ lo) (hs : B ≤ a.heap.size) : Below B a w := ⟨h.os, h.tape, h.output, h.size, fun k hk => h.block k (by omega) (by omega)⟩
theorem Out.of_ext {lo hi : Nat} {a w : World} (h : Ext a w) : Out lo hi a w := ⟨h.below.os, h.below.tape, h.below.output, h.size, fun k hk _ => h.same k hk⟩

theorem set_at {α : Type} (pre post : List α) (a x : α) (p : Nat) (hp : pre.length = p) : (pre ++ a :: post).set p x = pre ++ x :: post := by
  subst hp
  rw [List.set_append_right _ _ (Nat.le_refl _), Nat.sub_self, List.set_cons_zero]
theorem get_at {α : Type} (pre post : List α) (a : α) (p : Nat) (hp : pre.length = p) : (pre ++ a :: post)[p]? = some a := by
  subst hp
  simp

theorem ret_eq {a b : Value} (h : a = b) : Ending.returned a = .returned b := by rw [h]
theorem ret_int {a b : Int} (h : a = b) : Ending.returned (I a) = .returned (I b) := by rw [h]
theorem ret_bool {a b : Bool} (h : a = b) : Ending.returned (.bool a) = .returned (.bool b) := by rw [h]
theorem take_snoc {α : Type} (l : List α) (k : Nat) (h : k < l.length) : l.take (k + 1) = l.take k ++ [l[k]] := List.take_succ_eq_append_getElem h
theorem foldl_snoc {α β : Type} (f : β → α → β) (s : β) (l : List α) (k : Nat) (h : k < l.length) : (l.take (k + 1)).foldl f s = f ((l.take k).foldl f s) l[k] := by
  rw [take_snoc l k h, List.foldl_append]
  rfl

/-- The cells that make lays. -/
def mkRow (z : Value) (m : Nat) : Array Value := madeCells z.cells m
theorem mkRow_len (z : Value) (m : Nat) : (mkRow z m).toList.length = m := by rw [Array.length_toList]; exact size_madeCells _ _
theorem run_mk {P : Program} (t e : TypeId) (z : Value) (size bytes : Nat) (ht : P.underlying t = some (.slice e)) (hinfo : (P.info? e).map (fun i => (i.zero, i.size, i.bytes)) = some (some z, size, bytes))
    (n : Nat) (hb : bytes * n ≤ 281474976710656) (h63 : n ≤ 9223372036854775807) (w : World) :
    (Instr.makeSlice t (.int .i64 (n : Int)) (.int .i64 (n : Int))).run P w = .ok (.slice (some ⟨w.heap.size, 0, none⟩) n n) (w.alloc (.cells (mkRow z (n * size)) e)) := by
  obtain ⟨i, hi, hz, hs, hby⟩ := info_parts hinfo
  have hb' : (i.bytes : Int) * (n : Int) ≤ 281474976710656 := by
    have h : ((i.bytes * n : Nat) : Int) ≤ 281474976710656 := by rw [hby]; omega
    rwa [Int.natCast_mul] at h
  have hr := run_make (P := P) w t e i z ht hi hz .i64 .i64 n n (by omega) (by omega) hb' (by omega)
  simp only [Int.toNat_natCast, hs] at hr
  exact hr

/-- A row of the call's own, in a block from lo to below hi. -/
def Own (E sz lo hi : Nat) (w : World) (v : Value) (n : Nat) (cs : List Value) : Prop := w.ownsRow lo E sz v n cs ∧ ∀ k, v.ownBlock = some k → k < hi
theorem Own.of_blk {E sz lo hi g n : Nat} {w : World} {cs : List Value} (h : Blk w g E cs) (hl : cs.length = n * sz) (hn : n ≤ maxLen) (h1 : lo ≤ g) (h2 : g < hi) : Own E sz lo hi w (.slice (some ⟨g, 0, none⟩) n n) n cs :=
  ⟨⟨hl, .inr ⟨g, n, cs.toArray, rfl, h1, h, Nat.le_refl _, hn, by simpa using hl, by rw [← hl]; simp⟩⟩, fun k hk => by
    have : g = k := by simpa [Value.ownBlock] using hk
    omega⟩
theorem Own.nil (E sz lo hi : Nat) (w : World) : Own E sz lo hi w (.slice none 0 0) 0 [] := ⟨World.ownsRow_nil w lo E sz, fun k hk => by simp [Value.ownBlock] at hk⟩
theorem Own.cases {E sz lo hi n : Nat} {w : World} {v : Value} {cs : List Value} (h : Own E sz lo hi w v n cs) : (v = .slice none 0 0 ∧ n = 0 ∧ cs = []) ∨
    ∃ g cap rest, v = .slice (some ⟨g, 0, none⟩) n cap ∧ lo ≤ g ∧ g < hi ∧ Blk w g E (cs ++ rest) ∧ cs.length = n * sz ∧ n ≤ cap ∧ cap ≤ maxLen ∧ (cs ++ rest).length = cap * sz := by
  obtain ⟨⟨hl, hc⟩, hlt⟩ := h
  rcases hc with ⟨rfl, rfl⟩ | ⟨g, cap, cur, rfl, hg, hh, hn, hm, hs, ht⟩
  · exact .inl ⟨rfl, rfl, List.eq_nil_of_length_eq_zero (by simpa using hl)⟩
  · refine .inr ⟨g, cap, cur.toList.drop (n * sz), rfl, hg, hlt g rfl, ?_, hl, hn, hm, ?_⟩
    · unfold Blk
      rw [hh, ← ht, List.take_append_drop]
    · rw [← ht, List.take_append_drop, Array.length_toList, hs]
theorem Own.slice {E sz lo hi n : Nat} {w : World} {v : Value} {cs : List Value} (h : Own E sz lo hi w v n cs) : ∃ a m c, v = .slice a m c := by
  rcases h.cases with ⟨rfl, _⟩ | ⟨g, cap, rest, rfl, _⟩
  · exact ⟨_, _, _, rfl⟩
  · exact ⟨_, _, _, rfl⟩
theorem Own.mk' {E sz lo hi n g cap : Nat} {w : World} {cs rest : List Value} (h1 : lo ≤ g) (h2 : g < hi) (hb : Blk w g E (cs ++ rest)) (hl : cs.length = n * sz) (hn : n ≤ cap) (hm : cap ≤ maxLen) (hs : (cs ++ rest).length = cap * sz) :
    Own E sz lo hi w (.slice (some ⟨g, 0, none⟩) n cap) n cs :=
  ⟨⟨hl, .inr ⟨g, cap, (cs ++ rest).toArray, rfl, h1, hb, hn, hm, by simpa using hs, by rw [← hl]; simp⟩⟩, fun k hk => by
    have : g = k := by simpa [Value.ownBlock] using hk
    omega⟩
theorem Own.keep {E sz lo hi n : Nat} {w w' : World} {v : Value} {cs : List Value} (h : Own E sz lo hi w v n cs) (hk : ∀ k, lo ≤ k → k < hi → k < w.heap.size → w'.heap[k]? = w.heap[k]?) : Own E sz lo hi w' v n cs := by
  obtain ⟨⟨hl, hc⟩, hlt⟩ := h
  refine ⟨⟨hl, ?_⟩, hlt⟩
  rcases hc with hc | ⟨g, cap, cur, rfl, hg, hh, r⟩
  · exact .inl hc
  · have hs : g < w.heap.size := by
      rcases Nat.lt_or_ge g w.heap.size with h | h
      · exact h
      · rw [Array.getElem?_eq_none h] at hh; cases hh
    exact .inr ⟨g, cap, cur, rfl, hg, by rw [hk g hg (hlt g rfl) hs]; exact hh, r⟩
theorem Own.more {E sz lo hi lo' hi' n : Nat} {w : World} {v : Value} {cs : List Value} (h : Own E sz lo hi w v n cs) (h1 : lo' ≤ lo) (h2 : hi ≤ hi') : Own E sz lo' hi' w v n cs := by
  obtain ⟨⟨hl, hc⟩, hlt⟩ := h
  refine ⟨⟨hl, ?_⟩, fun k hk => by have := hlt k hk; omega⟩
  rcases hc with hc | ⟨g, cap, cur, rfl, hg, r⟩
  · exact .inl hc
  · exact .inr ⟨g, cap, cur, rfl, by omega, r⟩
theorem World.size_setCell (w : World) (p : Addr) (u : Value) : (w.setCell p u).heap.size = w.heap.size := by simp [World.setCell]
theorem Own.setCell {E sz lo hi n : Nat} {w : World} {v : Value} {cs : List Value} (h : Own E sz lo hi w v n cs) {p : Addr} (hp : p.block < lo ∨ hi ≤ p.block) (u : Value) : Own E sz lo hi (w.setCell p u) v n cs :=
  h.keep fun k h1 h2 _ => Below.heap_setCell _ _ _ _ (by omega)
theorem Own.lt_size {E sz lo hi n : Nat} {w : World} {v : Value} {cs : List Value} (h : Own E sz lo hi w v n cs) : Own E sz lo w.heap.size w v n cs := ⟨h.1, fun k hk => (h.1.lt k hk).2⟩
theorem Own.ext {E sz lo hi n : Nat} {w w' : World} {v : Value} {cs : List Value} (h : Own E sz lo hi w v n cs) (he : Ext w w') (_hhi : hi ≤ w.heap.size) : Own E sz lo hi w' v n cs :=
  h.keep fun k _ _ h3 => he.same k h3
theorem Blk.drew {w : World} {g : Nat} {t : TypeId} {cs : List Value} (h : Blk w g t cs) : Blk w.drew g t cs := h
theorem Blk.out {w w' : World} {g : Nat} {t : TypeId} {cs : List Value} {lo hi : Nat} (h : Blk w g t cs) (ho : Out lo hi w w') (hd : g < lo ∨ hi ≤ g) : Blk w' g t cs := (ho.block g h.lt hd).trans h
theorem Own.drew {E sz lo hi n : Nat} {w : World} {v : Value} {cs : List Value} (h : Own E sz lo hi w v n cs) : Own E sz lo hi w.drew v n cs := h.keep fun _ _ _ _ => rfl
theorem Own.out {E sz lo hi lo' hi' n : Nat} {w w' : World} {v : Value} {cs : List Value} (h : Own E sz lo hi w v n cs) (ho : Out lo' hi' w w') (hd : hi' ≤ lo ∨ hi ≤ lo') : Own E sz lo hi w' v n cs :=
  h.keep fun k h1 h2 h3 => ho.block k h3 (by omega)
theorem Ext.out {a w w' : World} {lo hi : Nat} (h : Ext a w) (ho : Out lo hi w w') (hl : a.heap.size ≤ lo) : Ext a w' := by
  unfold Ext at *
  exact h.trans (ho.below hl h.size)
theorem Own.alloc {E sz lo hi n : Nat} {w : World} {v : Value} {cs : List Value} (h : Own E sz lo hi w v n cs) (o : Obj) : Own E sz lo hi (w.alloc o) v n cs := by
  have := h.lt_size
  exact ⟨(h.1.alloc o), h.2⟩
theorem flat_get {α : Type} (f : α → List Value) (sz : Nat) (hf : ∀ x, (f x).length = sz) (ds : List α) (k j : Nat) (hk : k < ds.length) (hj : j < sz) :
    (ds.flatMap f)[k * sz + j]? = (f ds[k])[j]? := by
  induction ds generalizing k with
  | nil => simp at hk
  | cons d ds ih =>
    rcases k with _ | k
    · simp only [List.flatMap_cons, Nat.zero_mul, Nat.zero_add, List.getElem_cons_zero]
      rw [List.getElem?_append_left (by rw [hf]; exact hj)]
    · simp only [List.flatMap_cons, List.getElem_cons_succ]
      rw [List.getElem?_append_right (by rw [hf, Nat.add_mul]; omega), hf]
      have := ih k (by simpa using hk)
      rw [← this]
      congr 1
      rw [Nat.add_mul]; omega
theorem flat_len {α : Type} (f : α → List Value) (sz : Nat) (hf : ∀ x, (f x).length = sz) (ds : List α) : (ds.flatMap f).length = ds.length * sz := by
  induction ds with
  | nil => simp
  | cons d ds ih => rw [List.flatMap_cons, List.length_append, ih, hf, List.length_cons, Nat.add_mul]; omega
theorem flat_split {α : Type} (f : α → List Value) (ds : List α) (k : Nat) (hk : k < ds.length) : ds.flatMap f = (ds.take k).flatMap f ++ (f ds[k] ++ (ds.drop (k + 1)).flatMap f) := by
  rw [← List.flatMap_cons, ← List.drop_eq_getElem_cons hk, ← List.flatMap_append, List.take_append_drop]
theorem flat_take_len {α : Type} (f : α → List Value) (sz : Nat) (hf : ∀ x, (f x).length = sz) (ds : List α) (k : Nat) (hk : k ≤ ds.length) : ((ds.take k).flatMap f).length = k * sz := by
  rw [flat_len f sz hf, List.length_take, Nat.min_eq_left hk]
theorem set_split {α : Type} (ds : List α) (k : Nat) (x : α) (hk : k < ds.length) : ds.set k x = ds.take k ++ x :: ds.drop (k + 1) := by
  have h : ds = ds.take k ++ ds[k] :: ds.drop (k + 1) := by rw [← List.drop_eq_getElem_cons hk, List.take_append_drop]
  have h2 := set_at (ds.take k) (ds.drop (k + 1)) ds[k] x k (by rw [List.length_take]; omega)
  rw [← h] at h2
  exact h2
/-- An owned row of flat elements reads as their list. -/
theorem Own.sl {α : Type} {At : Nat → World → Nat → Nat → α → Prop} {C : α → List Value} {E sz lo hi n : Nat} {w : World} {v : Value} {ds : List α} (h : Own E sz lo hi w v n (ds.flatMap C)) (hC : ∀ x, (C x).length = sz) (hsz : 0 < sz)
    (hAt : ∀ B w b o x, (∀ j u, (C x)[j]? = some u → w.cell? ⟨b, o + j, none⟩ = some u) → At B w b o x) : Sl At (fun k => k * sz) hi w v ds := by
  have hl := h.1.1
  rw [flat_len C sz hC] at hl
  have hdn : ds.length = n := Nat.eq_of_mul_eq_mul_right hsz hl
  rcases h.cases with ⟨rfl, rfl, _⟩ | ⟨g, cap, rest, rfl, _, hlt, hb, hlc, hn, hm, hs⟩
  · exact ⟨none, 0, 0, rfl, hdn, Nat.le_refl _, Nat.zero_le _, fun h => absurd h (by omega)⟩
  · refine ⟨_, n, cap, rfl, hdn, hn, hm, fun _ => ⟨g, 0, rfl, hlt, fun k hk => hAt _ _ _ _ _ fun j u hu => ?_⟩⟩
    have hj : j < sz := by
      have := (List.getElem?_eq_some_iff.1 hu).1
      rw [hC] at this
      exact this
    have hmul : k * sz + sz ≤ n * sz := by rw [← Nat.succ_mul]; exact Nat.mul_le_mul_right _ (by omega)
    show w.cell? ⟨g, 0 + k * sz + j, none⟩ = some u
    rw [Nat.zero_add, hb.cell, List.getElem?_append_left (by rw [hlc]; omega), flat_get C sz hC ds k j hk hj]
    exact hu
theorem Own.ints {E lo hi n : Nat} {w : World} {v : Value} {zs : List Int} (h : Own E 1 lo hi w v n (zs.map I)) : IntS hi w v zs := by
  have h' : Own E 1 lo hi w v n (zs.flatMap fun z => [I z]) := by rw [← List.map_eq_flatMap]; exact h
  have := h'.sl (At := IntAt) (fun _ => rfl) (by omega) (fun B w b o x hx => hx 0 _ rfl)
  simpa using this
end Go.Proofs.Ytnglhofegajbiaa
