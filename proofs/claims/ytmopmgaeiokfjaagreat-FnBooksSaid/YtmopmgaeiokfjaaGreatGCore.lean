/- Plain words for memory, used by all texts of this seat: a slice that reads as a list, a block that is known whole, and how such readings are kept. No conditions. -/
import Derived.WalkKit
import Derived.WalkSpells
import Derived.WalkLawsBesides
import Derived.Deep.QuietTactic
import Derived.BigQuiet
import Derived.Lib.Hide
import Derived.Deep.RegionHeld3
import Derived.Deep.OwnRows
import Derived.KernelRfl
import Derived.Test.YtmopmgaeiokfjaaGreatProg
import Derived.Maps.AppendAt
import Derived.Deep.AppendLies
import Derived.RegionTactic
import Derived.OwnWalk
import Derived.Deep.RegionLaw
namespace Go.Proofs.YtmopmgaeiokfjaaGreat
open Go.RowKit
set_option linter.unusedVariables false
abbrev I (n : Int) : Value := .int .i64 n
def Same (B : Nat) (w w' : World) : Prop := ∀ k, k < B → w'.heap[k]? = w.heap[k]?
theorem Same.cell {B : Nat} {w w' : World} (h : Same B w w') {b o : Nat} (hb : b < B) : w'.cell? ⟨b, o, none⟩ = w.cell? ⟨b, o, none⟩ := World.cell?_of_block (w := w) (a := ⟨b, o, none⟩) (h b hb)
def Sl {α : Type} (At : Nat → World → Nat → Nat → α → Prop) (pos : Nat → Nat) (B : Nat) (w : World) (v : Value) (ds : List α) : Prop :=
 ∃ A n c, v = .slice A n c ∧ ds.length = n ∧ n ≤ c ∧ c ≤ maxLen ∧ (0 < n → ∃ b off, A = some ⟨b, off, none⟩ ∧ b < B ∧ ∀ k (hk : k < ds.length), At B w b (off + pos k) ds[k])
def Keeps {α : Type} (At : Nat → World → Nat → Nat → α → Prop) : Prop := ∀ B B' w w' b o x, B ≤ B' → Same B w w' → b < B → At B w b o x → At B' w' b o x
theorem Sl.keep {α : Type} {At : Nat → World → Nat → Nat → α → Prop} {pos : Nat → Nat} {B B' : Nat} {w w' : World} {v : Value} {ds : List α} (hK : Keeps At) (h : Sl At pos B w v ds) (hB : B ≤ B') (hs : Same B w w') : Sl At pos B' w' v ds := by
 obtain ⟨A, n, c, rfl, hl, hn, hc, hr⟩ := h;refine ⟨A, n, c, rfl, hl, hn, hc, fun h0 => ?_⟩;obtain ⟨b, off, e, hb, hat⟩ := hr h0;exact ⟨b, off, e, by omega, fun k hk => hK _ _ _ _ _ _ _ hB hs hb (hat k hk)⟩
theorem Sl.at_ {α : Type} {At : Nat → World → Nat → Nat → α → Prop} {pos : Nat → Nat} {B : Nat} {w : World} {A : Option Addr} {n c : Nat} {ds : List α} (h : Sl At pos B w (.slice A n c) ds) {k : Nat} (hk : k < n) :
 ∃ b off, A = some ⟨b, off, none⟩ ∧ b < B ∧ ∃ h : k < ds.length, At B w b (off + pos k) (ds[k]'h) := by
 obtain ⟨A, n, c, e, hl, hn, hc, hr⟩ := h;cases e;obtain ⟨b, off, e, hb, hat⟩ := hr (by omega);exact ⟨b, off, e, hb, by omega, hat k (by omega)⟩
theorem Sl.len {α : Type} {At : Nat → World → Nat → Nat → α → Prop} {pos : Nat → Nat} {B : Nat} {w : World} {A : Option Addr} {n c : Nat} {ds : List α} (h : Sl At pos B w (.slice A n c) ds) : ds.length = n ∧ n ≤ c ∧ c ≤ maxLen := by
 obtain ⟨A, n, c, e, hl, hn, hc, _⟩ := h;cases e;exact ⟨hl, hn, hc⟩
def IntAt (_B : Nat) (w : World) (b o : Nat) (x : Int) : Prop := w.cell? ⟨b, o, none⟩ = some (I x)
theorem IntAt.keeps : Keeps IntAt := fun _ _ _ _ _ _ _ _ hs hb h => (hs.cell hb).trans h
abbrev IntS := Sl IntAt (fun k => k)
def Blk (w : World) (g : Nat) (t : TypeId) (cs : List Value) : Prop := w.heap[g]? = some (.cells cs.toArray t (0, 0))
section
variable {w w' : World} {g : Nat} {t : TypeId} {cs : List Value}
theorem Blk.lt (h : Blk w g t cs) : g < w.heap.size := by
 rcases Nat.lt_or_ge g w.heap.size with hlt | hge
 · exact hlt
 · unfold Blk at h; rw [Array.getElem?_eq_none hge] at h; cases h
theorem Blk.cell (h : Blk w g t cs) (i : Nat) : w.cell? ⟨g, i, none⟩ = cs[i]? := by
 unfold Blk at h;simp [World.cell?, h]
theorem Blk.frozen (h : Blk w g t cs) (i : Nat) : w.frozen? ⟨g, i, none⟩ = false := by
 unfold Blk at h;simp [World.frozen?, h]
theorem Blk.new (w : World) (t : TypeId) (cs : List Value) : Blk (w.alloc (.cells cs.toArray t)) w.heap.size t cs := by
 exact heap_alloc_new w _
theorem Blk.new' (w : World) (t : TypeId) (cs : List Value) (g : Nat) (h : g = w.heap.size) : Blk (w.alloc (.cells cs.toArray t)) g t cs := by
 subst h;exact heap_alloc_new w _
theorem Blk.alloc (h : Blk w g t cs) (o : Obj) : Blk (w.alloc o) g t cs := (Below.heap_alloc w o g h.lt).trans h
theorem Blk.set_ (h : Blk w g t cs) (i : Nat) (u : Value) : Blk (w.setCell ⟨g, i, none⟩ u) g t (cs.set i u) := by
 unfold Blk at h ⊢;simp [World.setCell, Array.getElem?_modify, h]
theorem Blk.far (h : Blk w g t cs) {p : Addr} (hp : g ≠ p.block) (u : Value) : Blk (w.setCell p u) g t cs := (Below.heap_setCell w p u g hp).trans h
end
theorem blk2 {w : World} {g : Nat} {t : TypeId} {a0 a1 : Value} (h : Blk w g t [a0, a1]) : w.cell? ⟨g, 0, none⟩ = some a0 ∧ w.cell? ⟨g, 1, none⟩ = some a1 := ⟨h.cell 0, h.cell 1⟩
theorem blk3 {w : World} {g : Nat} {t : TypeId} {a0 a1 a2 : Value} (h : Blk w g t [a0, a1, a2]) : w.cell? ⟨g, 0, none⟩ = some a0 ∧ w.cell? ⟨g, 1, none⟩ = some a1 ∧ w.cell? ⟨g, 2, none⟩ = some a2 := ⟨h.cell 0, h.cell 1, h.cell 2⟩
theorem blk4 {w : World} {g : Nat} {t : TypeId} {a0 a1 a2 a3 : Value} (h : Blk w g t [a0, a1, a2, a3]) : w.cell? ⟨g, 0, none⟩ = some a0 ∧ w.cell? ⟨g, 1, none⟩ = some a1 ∧ w.cell? ⟨g, 2, none⟩ = some a2 ∧ w.cell? ⟨g, 3, none⟩ = some a3 := ⟨h.cell 0, h.cell 1, h.cell 2, h.cell 3⟩
theorem blk5 {w : World} {g : Nat} {t : TypeId} {a0 a1 a2 a3 a4 : Value} (h : Blk w g t [a0, a1, a2, a3, a4]) : w.cell? ⟨g, 0, none⟩ = some a0 ∧ w.cell? ⟨g, 1, none⟩ = some a1 ∧ w.cell? ⟨g, 2, none⟩ = some a2 ∧ w.cell? ⟨g, 3, none⟩ = some a3 ∧ w.cell? ⟨g, 4, none⟩ = some a4 := ⟨h.cell 0, h.cell 1, h.cell 2, h.cell 3, h.cell 4⟩
def Ext (a b : World) : Prop := Below a.heap.size a b
section
variable {a b c w : World}
theorem Ext.below (h : Ext a b) : Below a.heap.size a b := h
theorem Ext.size (h : Ext a b) : a.heap.size ≤ b.heap.size := Below.size h
theorem Ext.same (h : Ext a b) : Same a.heap.size a b := Below.block h
theorem Ext.refl (a : World) : Ext a a := Below.refl _ _
theorem Ext.trans (h : Ext a b) (k : Ext b c) : Ext a c := Below.trans h (Below.mono k h.size)
theorem Ext.alloc (h : Ext a w) (o : Obj) : Ext a (w.alloc o) := Below.alloc h h.size o
theorem Ext.drew (h : Ext a w) : Ext a w.drew := Below.drew h
theorem Ext.drewN (h : Ext a w) (n : Nat) : Ext a (w.drewN n) := by
 have k : Below a.heap.size a w := h;exact ⟨k.os, k.tape, k.output, k.size, k.block⟩
theorem Ext.setCell (h : Ext a w) {p : Addr} (hp : a.heap.size ≤ p.block) (u : Value) : Ext a (w.setCell p u) := Below.setCell h hp u
theorem Ext.cell (h : Ext a b) {k o : Nat} (hk : k < a.heap.size) : b.cell? ⟨k, o, none⟩ = a.cell? ⟨k, o, none⟩ := h.same.cell hk
theorem Ext.facts (h : Ext a b) : (∀ k o, k < a.heap.size → b.cell? ⟨k, o, none⟩ = a.cell? ⟨k, o, none⟩) ∧ (∀ k o, k < a.heap.size → b.frozen? ⟨k, o, none⟩ = a.frozen? ⟨k, o, none⟩) ∧ a.heap.size ≤ b.heap.size :=
 ⟨fun _ _ hk => h.cell hk, fun k o hk => Below.frozen (p := ⟨k, o, none⟩) h hk, h.size⟩
theorem Ext.grown {row : Option Nat} (h : Ext a w) (hg : w.grownBy b row) (hr : ∀ k, row = some k → a.heap.size ≤ k) : Ext a b := Below.grown h hg h.size hr
end
attribute [irreducible] Ext
theorem Blk.ext {w w' : World} {g : Nat} {t : TypeId} {cs : List Value} (h : Blk w g t cs) (he : Ext w w') : Blk w' g t cs := (he.same g h.lt).trans h
theorem Sl.ext {α : Type} {At : Nat → World → Nat → Nat → α → Prop} {pos : Nat → Nat} {w w' : World} {v : Value} {ds : List α} (hK : Keeps At) (h : Sl At pos w.heap.size w v ds) (hs : Ext w w') : Sl At pos w'.heap.size w' v ds := h.keep hK hs.size hs.same
theorem IntS.ext {w w' : World} {v : Value} {ds : List Int} (h : IntS w.heap.size w v ds) (hs : Ext w w') : IntS w'.heap.size w' v ds := Sl.ext IntAt.keeps h hs
theorem keepC {w0 w1 w2 : World} {B : Nat} (h : B ≤ w1.heap.size ∧ ∀ b o, b < B → w1.cell? ⟨b, o, none⟩ = w0.cell? ⟨b, o, none⟩) (hb : Ext w1 w2) :
 B ≤ w2.heap.size ∧ ∀ b o, b < B → w2.cell? ⟨b, o, none⟩ = w0.cell? ⟨b, o, none⟩ :=
 ⟨Nat.le_trans h.1 hb.size, fun b o hB => (hb.cell (Nat.lt_of_lt_of_le hB h.1)).trans (h.2 b o hB)⟩
structure Out (lo hi : Nat) (w w' : World) : Prop where
 os : w'.os = w.os
 tape : w'.tape = w.tape
 output : w'.output = w.output
 size : w.heap.size ≤ w'.heap.size
 block : ∀ k, k < w.heap.size → k < lo ∨ hi ≤ k → w'.heap[k]? = w.heap[k]?
theorem Out.refl (lo hi : Nat) (w : World) : Out lo hi w w := ⟨rfl, rfl, rfl, Nat.le_refl _, fun _ _ _ => rfl⟩
theorem Out.trans {lo hi : Nat} {a b c : World} (h : Out lo hi a b) (k : Out lo hi b c) : Out lo hi a c :=
 ⟨k.os.trans h.os, k.tape.trans h.tape, k.output.trans h.output, Nat.le_trans h.size k.size, fun i hs hi => (k.block i (Nat.lt_of_lt_of_le hs h.size) hi).trans (h.block i hs hi)⟩
theorem Out.setCell {lo hi : Nat} {a w : World} (h : Out lo hi a w) {p : Addr} (h1 : lo ≤ p.block) (h2 : p.block < hi) (u : Value) : Out lo hi a (w.setCell p u) :=
 h.trans ⟨rfl, rfl, rfl, by simp [World.setCell], fun k _ hk => Below.heap_setCell _ _ _ _ (by omega)⟩
theorem Out.of_ext {lo hi : Nat} {a w : World} (h : Ext a w) : Out lo hi a w := ⟨h.below.os, h.below.tape, h.below.output, h.size, fun k hk _ => h.same k hk⟩
theorem set_at {α : Type} (pre post : List α) (a x : α) (p : Nat) (hp : pre.length = p) : (pre ++ a :: post).set p x = pre ++ x :: post := by
 subst hp;rw [List.set_append_right _ _ (Nat.le_refl _), Nat.sub_self, List.set_cons_zero]
theorem ret_int {a b : Int} (h : a = b) : Ending.returned (I a) = .returned (I b) := by rw [h]
theorem ret_bool {a b : Bool} (h : a = b) : Ending.returned (.bool a) = .returned (.bool b) := by rw [h]
theorem take_snoc {α : Type} (l : List α) (k : Nat) (h : k < l.length) : l.take (k + 1) = l.take k ++ [l[k]] := List.take_succ_eq_append_getElem h
theorem foldl_snoc {α β : Type} (f : β → α → β) (s : β) (l : List α) (k : Nat) (h : k < l.length) : (l.take (k + 1)).foldl f s = f ((l.take k).foldl f s) l[k] := by
 rw [take_snoc l k h, List.foldl_append];rfl
def Own (E sz lo hi : Nat) (w : World) (v : Value) (n : Nat) (cs : List Value) : Prop := w.ownsRow lo E sz v n cs ∧ ∀ k, v.ownBlock = some k → k < hi
theorem Own.of_blk {E sz lo hi g n : Nat} {w : World} {cs : List Value} (h : Blk w g E cs) (hl : cs.length = n * sz) (hn : n ≤ maxLen) (h1 : lo ≤ g) (h2 : g < hi) : Own E sz lo hi w (.slice (some ⟨g, 0, none⟩) n n) n cs :=
 ⟨⟨hl, .inr ⟨g, n, cs.toArray, rfl, h1, h, Nat.le_refl _, hn, by simpa using hl, by rw [← hl]; simp⟩⟩, fun k hk => by
   have : g = k := by simpa [Value.ownBlock] using hk
   omega⟩
theorem Own.nil (E sz lo hi : Nat) (w : World) : Own E sz lo hi w (.slice none 0 0) 0 [] := ⟨World.ownsRow_nil w lo E sz, fun k hk => by simp [Value.ownBlock] at hk⟩
theorem Own.cases {E sz lo hi n : Nat} {w : World} {v : Value} {cs : List Value} (h : Own E sz lo hi w v n cs) : (v = .slice none 0 0 ∧ n = 0 ∧ cs = []) ∨
 ∃ g cap rest, v = .slice (some ⟨g, 0, none⟩) n cap ∧ lo ≤ g ∧ g < hi ∧ Blk w g E (cs ++ rest) ∧ cs.length = n * sz ∧ n ≤ cap ∧ cap ≤ maxLen ∧ (cs ++ rest).length = cap * sz := by
 obtain ⟨⟨hl, hc⟩, hlt⟩ := h
 rcases hc with ⟨rfl, rfl⟩ | ⟨g, cap, cur, rfl, hg, hh, hn, hm, hs, ht⟩
 · exact .inl ⟨rfl, rfl, List.eq_nil_of_length_eq_zero (by simpa using hl)⟩
 · refine .inr ⟨g, cap, cur.toList.drop (n * sz), rfl, hg, hlt g rfl, ?_, hl, hn, hm, ?_⟩
   · unfold Blk
     rw [hh, ← ht, List.take_append_drop]
   · rw [← ht, List.take_append_drop, Array.length_toList, hs]
theorem Own.slice {E sz lo hi n : Nat} {w : World} {v : Value} {cs : List Value} (h : Own E sz lo hi w v n cs) : ∃ a m c, v = .slice a m c := by
 rcases h.cases with ⟨rfl, _⟩ | ⟨g, cap, rest, rfl, _⟩
 · exact ⟨_, _, _, rfl⟩
 · exact ⟨_, _, _, rfl⟩
theorem Own.mk' {E sz lo hi n g cap : Nat} {w : World} {cs rest : List Value} (h1 : lo ≤ g) (h2 : g < hi) (hb : Blk w g E (cs ++ rest)) (hl : cs.length = n * sz) (hn : n ≤ cap) (hm : cap ≤ maxLen) (hs : (cs ++ rest).length = cap * sz) :
 Own E sz lo hi w (.slice (some ⟨g, 0, none⟩) n cap) n cs :=
 ⟨⟨hl, .inr ⟨g, cap, (cs ++ rest).toArray, rfl, h1, hb, hn, hm, by simpa using hs, by rw [← hl]; simp⟩⟩, fun k hk => by
   have : g = k := by simpa [Value.ownBlock] using hk
   omega⟩
theorem Own.keep {E sz lo hi n : Nat} {w w' : World} {v : Value} {cs : List Value} (h : Own E sz lo hi w v n cs) (hk : ∀ k, lo ≤ k → k < hi → k < w.heap.size → w'.heap[k]? = w.heap[k]?) : Own E sz lo hi w' v n cs := by
 obtain ⟨⟨hl, hc⟩, hlt⟩ := h;refine ⟨⟨hl, ?_⟩, hlt⟩
 rcases hc with hc | ⟨g, cap, cur, rfl, hg, hh, r⟩
 · exact .inl hc
 · have hs : g < w.heap.size := by
    rcases Nat.lt_or_ge g w.heap.size with h | h
    · exact h
    · rw [Array.getElem?_eq_none h] at hh; cases hh
   exact .inr ⟨g, cap, cur, rfl, hg, by rw [hk g hg (hlt g rfl) hs]; exact hh, r⟩
theorem Own.more {E sz lo hi lo' hi' n : Nat} {w : World} {v : Value} {cs : List Value} (h : Own E sz lo hi w v n cs) (h1 : lo' ≤ lo) (h2 : hi ≤ hi') : Own E sz lo' hi' w v n cs := by
 obtain ⟨⟨hl, hc⟩, hlt⟩ := h;refine ⟨⟨hl, ?_⟩, fun k hk => by have := hlt k hk; omega⟩
 rcases hc with hc | ⟨g, cap, cur, rfl, hg, r⟩
 · exact .inl hc
 · exact .inr ⟨g, cap, cur, rfl, by omega, r⟩
theorem World.size_setCell (w : World) (p : Addr) (u : Value) : (w.setCell p u).heap.size = w.heap.size := by simp [World.setCell]
theorem Own.setCell {E sz lo hi n : Nat} {w : World} {v : Value} {cs : List Value} (h : Own E sz lo hi w v n cs) {p : Addr} (hp : p.block < lo ∨ hi ≤ p.block) (u : Value) : Own E sz lo hi (w.setCell p u) v n cs :=
 h.keep fun k h1 h2 _ => Below.heap_setCell _ _ _ _ (by omega)
theorem Own.lt_size {E sz lo hi n : Nat} {w : World} {v : Value} {cs : List Value} (h : Own E sz lo hi w v n cs) : Own E sz lo w.heap.size w v n cs := ⟨h.1, fun k hk => (h.1.lt k hk).2⟩
theorem Own.ext {E sz lo hi n : Nat} {w w' : World} {v : Value} {cs : List Value} (h : Own E sz lo hi w v n cs) (he : Ext w w') (_hhi : hi ≤ w.heap.size) : Own E sz lo hi w' v n cs :=
 h.keep fun k _ _ h3 => he.same k h3
theorem Blk.drew {w : World} {g : Nat} {t : TypeId} {cs : List Value} (h : Blk w g t cs) : Blk w.drew g t cs := h
theorem Own.alloc {E sz lo hi n : Nat} {w : World} {v : Value} {cs : List Value} (h : Own E sz lo hi w v n cs) (o : Obj) : Own E sz lo hi (w.alloc o) v n cs := by
 have := h.lt_size;exact ⟨(h.1.alloc o), h.2⟩
theorem flat_get {α : Type} (f : α → List Value) (sz : Nat) (hf : ∀ x, (f x).length = sz) (ds : List α) (k j : Nat) (hk : k < ds.length) (hj : j < sz) :
 (ds.flatMap f)[k * sz + j]? = (f ds[k])[j]? := by
 induction ds generalizing k with
 | nil => simp at hk
 | cons d ds ih =>
   rcases k with _ | k
   · simp only [List.flatMap_cons, Nat.zero_mul, Nat.zero_add, List.getElem_cons_zero]
     rw [List.getElem?_append_left (by rw [hf]; exact hj)]
   · simp only [List.flatMap_cons, List.getElem_cons_succ]
     rw [List.getElem?_append_right (by rw [hf, Nat.add_mul]; omega), hf];have := ih k (by simpa using hk);rw [← this]
     congr 1
     rw [Nat.add_mul]; omega
theorem flat_len {α : Type} (f : α → List Value) (sz : Nat) (hf : ∀ x, (f x).length = sz) (ds : List α) : (ds.flatMap f).length = ds.length * sz := by
 induction ds with
 | nil => simp
 | cons d ds ih => rw [List.flatMap_cons, List.length_append, ih, hf, List.length_cons, Nat.add_mul]; omega
theorem set_split {α : Type} (ds : List α) (k : Nat) (x : α) (hk : k < ds.length) : ds.set k x = ds.take k ++ x :: ds.drop (k + 1) := by
 have h : ds = ds.take k ++ ds[k] :: ds.drop (k + 1) := by rw [← List.drop_eq_getElem_cons hk, List.take_append_drop]
 have h2 := set_at (ds.take k) (ds.drop (k + 1)) ds[k] x k (by rw [List.length_take]; omega);rw [← h] at h2;exact h2
theorem Own.sl {α : Type} {At : Nat → World → Nat → Nat → α → Prop} {C : α → List Value} {E sz lo hi n : Nat} {w : World} {v : Value} {ds : List α} (h : Own E sz lo hi w v n (ds.flatMap C)) (hC : ∀ x, (C x).length = sz) (hsz : 0 < sz)
 (hAt : ∀ B w b o x, (∀ j u, (C x)[j]? = some u → w.cell? ⟨b, o + j, none⟩ = some u) → At B w b o x) : Sl At (fun k => k * sz) hi w v ds := by
 have hl := h.1.1;rw [flat_len C sz hC] at hl;have hdn : ds.length = n := Nat.eq_of_mul_eq_mul_right hsz hl
 rcases h.cases with ⟨rfl, rfl, _⟩ | ⟨g, cap, rest, rfl, _, hlt, hb, hlc, hn, hm, hs⟩
 · exact ⟨none, 0, 0, rfl, hdn, Nat.le_refl _, Nat.zero_le _, fun h => absurd h (by omega)⟩
 · refine ⟨_, n, cap, rfl, hdn, hn, hm, fun _ => ⟨g, 0, rfl, hlt, fun k hk => hAt _ _ _ _ _ fun j u hu => ?_⟩⟩
   have hj : j < sz := by
    have := (List.getElem?_eq_some_iff.1 hu).1;rw [hC] at this;exact this
   have hmul : k * sz + sz ≤ n * sz := by rw [← Nat.succ_mul]; exact Nat.mul_le_mul_right _ (by omega)
   show w.cell? ⟨g, 0 + k * sz + j, none⟩ = some u;rw [Nat.zero_add, hb.cell, List.getElem?_append_left (by rw [hlc]; omega), flat_get C sz hC ds k j hk hj];exact hu
theorem Own.ints {E lo hi n : Nat} {w : World} {v : Value} {zs : List Int} (h : Own E 1 lo hi w v n (zs.map I)) : IntS hi w v zs := by
 have h' : Own E 1 lo hi w v n (zs.flatMap fun z => [I z]) := by rw [← List.map_eq_flatMap]; exact h
 have := h'.sl (At := IntAt) (fun _ => rfl) (by omega) (fun B w b o x hx => hx 0 _ rfl)
 simpa using this
theorem xe {a b : World} (h : Ext a b := by repeat (first | (with_reducible exact Ext.refl _) | (with_reducible assumption) | (with_reducible refine Ext.alloc ?_ _) | (with_reducible refine Ext.drew ?_) | (with_reducible refine Ext.drewN ?_ _) | (with_reducible refine Ext.setCell (p := _) ?_ ?ge _; case ge => (dsimp only; omega)) | (with_reducible refine Ext.trans ?_ (by with_reducible assumption)))) : Ext a b := h
theorem xb {w : World} {g : Nat} {t : TypeId} {cs : List Value} (h : Blk w g t cs := by repeat (first | (with_reducible exact Blk.new _ _ _) | ((with_reducible refine Blk.new' _ _ _ _ ?_) <;> (simp; done)) | (with_reducible refine Blk.alloc ?_ _) | (with_reducible refine Blk.drew ?_))) : Blk w g t cs := h
theorem xg {G : Tmp → Option (Value → World → Prop)} (h : ∀ t φ, G t = some φ → ∀ v W W', Ext W W' → φ v W → φ v W' := by (intro t φ hG; split at hG; all_goals first | (cases hG; done) | (cases Option.some.inj hG; intro v W W' hE hv; first | exact hv | exact IntS.ext hv hE | exact hv.ext hE | exact Own.up hv hE | exact hv.up hE | exact NO.up (by first | exact SegmentOC.keeps | exact TrustRootOC.keeps | exact BeaconOC.keeps | exact BeaconMessageOC.keeps | exact BeaconStoreOC.keeps) hv hE (Nat.le_refl _) | exact ObjUp.up hv hE))) : ∀ t φ, G t = some φ → ∀ v W W', Ext W W' → φ v W → φ v W' := h
structure DSignature where
 asn : Int
 value : Int
theorem DSignature.eq_iff {a b : DSignature} : a = b ↔ a.asn = b.asn ∧ a.value = b.value := by cases a; cases b; simp
instance : DecidableEq DSignature := fun _ _ => decidable_of_iff _ DSignature.eq_iff.symm
def SignatureC (x : DSignature) : List Value := [I x.asn, I x.value]
theorem one_Signature (l : List DSignature) : ∀ u ∈ l.flatMap SignatureC, u.oneCell' = true := by
 intro u hu;obtain ⟨x, _, hx⟩ := List.mem_flatMap.1 hu;simp only [SignatureC, List.mem_cons, List.not_mem_nil, or_false] at hx
 rcases hx with rfl | rfl <;> rfl
structure DHop where
 asn : Int
 ing : Int
 egr : Int
 exp : Int
 mac : Int
theorem DHop.eq_iff {a b : DHop} : a = b ↔ a.asn = b.asn ∧ a.ing = b.ing ∧ a.egr = b.egr ∧ a.exp = b.exp ∧ a.mac = b.mac := by cases a; cases b; simp
instance : DecidableEq DHop := fun _ _ => decidable_of_iff _ DHop.eq_iff.symm
def HopAt (_B : Nat) (w : World) (b o : Nat) (x : DHop) : Prop := w.cell? ⟨b, o, none⟩ = some (I x.asn) ∧ w.cell? ⟨b, o + 1, none⟩ = some (I x.ing) ∧ w.cell? ⟨b, o + 2, none⟩ = some (I x.egr) ∧ w.cell? ⟨b, o + 3, none⟩ = some (I x.exp) ∧ w.cell? ⟨b, o + 4, none⟩ = some (I x.mac)
theorem HopAt.keeps : Keeps HopAt := fun _ _ _ _ _ _ _ _ hs hb ⟨h0, h1, h2, h3, h4⟩ => ⟨(hs.cell hb).trans h0, (hs.cell hb).trans h1, (hs.cell hb).trans h2, (hs.cell hb).trans h3, (hs.cell hb).trans h4⟩
abbrev HopS := Sl HopAt (fun k => k * 5)
theorem HopS.ext {w w' : World} {v : Value} {ds : List DHop} (h : HopS w.heap.size w v ds) (hs : Ext w w') : HopS w'.heap.size w' v ds := Sl.ext HopAt.keeps h hs
def HopC (x : DHop) : List Value := [I x.asn, I x.ing, I x.egr, I x.exp, I x.mac]
theorem HopC.at_ (B : Nat) (w : World) (b o : Nat) (x : DHop) (h : ∀ j u, (HopC x)[j]? = some u → w.cell? ⟨b, o + j, none⟩ = some u) : HopAt B w b o x := ⟨h 0 _ rfl, h 1 _ rfl, h 2 _ rfl, h 3 _ rfl, h 4 _ rfl⟩
theorem HopAt.cells_ (B : Nat) (w : World) (b o : Nat) (x : DHop) (h : HopAt B w b o x) : ∀ j u, (HopC x)[j]? = some u → w.cell? ⟨b, o + j, none⟩ = some u := by
 obtain ⟨h0, h1, h2, h3, h4⟩ := h;intro j u hu
 match j, hu with
 | 0, hu => cases hu; exact h0
 | 1, hu => cases hu; exact h1
 | 2, hu => cases hu; exact h2
 | 3, hu => cases hu; exact h3
 | 4, hu => cases hu; exact h4
theorem one_Hop (l : List DHop) : ∀ u ∈ l.flatMap HopC, u.oneCell' = true := by
 intro u hu;obtain ⟨x, _, hx⟩ := List.mem_flatMap.1 hu;simp only [HopC, List.mem_cons, List.not_mem_nil, or_false] at hx
 rcases hx with rfl | rfl | rfl | rfl | rfl <;> rfl
theorem HopC.len (x : DHop) : (HopC x).length = 5 := rfl
structure DAS where
 isd : Int
 core : Bool
 key : Int
theorem DAS.eq_iff {a b : DAS} : a = b ↔ a.isd = b.isd ∧ a.core = b.core ∧ a.key = b.key := by cases a; cases b; simp
instance : DecidableEq DAS := fun _ _ => decidable_of_iff _ DAS.eq_iff.symm
def ASAt (_B : Nat) (w : World) (b o : Nat) (x : DAS) : Prop := w.cell? ⟨b, o, none⟩ = some (I x.isd) ∧ w.cell? ⟨b, o + 1, none⟩ = some (.bool x.core) ∧ w.cell? ⟨b, o + 2, none⟩ = some (I x.key)
theorem ASAt.keeps : Keeps ASAt := fun _ _ _ _ _ _ _ _ hs hb ⟨h0, h1, h2⟩ => ⟨(hs.cell hb).trans h0, (hs.cell hb).trans h1, (hs.cell hb).trans h2⟩
abbrev ASS := Sl ASAt (fun k => k * 3)
theorem ASS.ext {w w' : World} {v : Value} {ds : List DAS} (h : ASS w.heap.size w v ds) (hs : Ext w w') : ASS w'.heap.size w' v ds := Sl.ext ASAt.keeps h hs
def ASC (x : DAS) : List Value := [I x.isd, .bool x.core, I x.key]
theorem ASC.at_ (B : Nat) (w : World) (b o : Nat) (x : DAS) (h : ∀ j u, (ASC x)[j]? = some u → w.cell? ⟨b, o + j, none⟩ = some u) : ASAt B w b o x := ⟨h 0 _ rfl, h 1 _ rfl, h 2 _ rfl⟩
theorem ASAt.cells_ (B : Nat) (w : World) (b o : Nat) (x : DAS) (h : ASAt B w b o x) : ∀ j u, (ASC x)[j]? = some u → w.cell? ⟨b, o + j, none⟩ = some u := by
 obtain ⟨h0, h1, h2⟩ := h;intro j u hu
 match j, hu with
 | 0, hu => cases hu; exact h0
 | 1, hu => cases hu; exact h1
 | 2, hu => cases hu; exact h2
theorem one_AS (l : List DAS) : ∀ u ∈ l.flatMap ASC, u.oneCell' = true := by
 intro u hu;obtain ⟨x, _, hx⟩ := List.mem_flatMap.1 hu;simp only [ASC, List.mem_cons, List.not_mem_nil, or_false] at hx
 rcases hx with rfl | rfl | rfl <;> rfl
theorem ASC.len (x : DAS) : (ASC x).length = 3 := rfl
structure DLink where
 a : Int
 ai : Int
 b : Int
 bi : Int
 kind : Int
theorem DLink.eq_iff {a b : DLink} : a = b ↔ a.a = b.a ∧ a.ai = b.ai ∧ a.b = b.b ∧ a.bi = b.bi ∧ a.kind = b.kind := by cases a; cases b; simp
instance : DecidableEq DLink := fun _ _ => decidable_of_iff _ DLink.eq_iff.symm
def LinkAt (_B : Nat) (w : World) (b o : Nat) (x : DLink) : Prop := w.cell? ⟨b, o, none⟩ = some (I x.a) ∧ w.cell? ⟨b, o + 1, none⟩ = some (I x.ai) ∧ w.cell? ⟨b, o + 2, none⟩ = some (I x.b) ∧ w.cell? ⟨b, o + 3, none⟩ = some (I x.bi) ∧ w.cell? ⟨b, o + 4, none⟩ = some (I x.kind)
theorem LinkAt.keeps : Keeps LinkAt := fun _ _ _ _ _ _ _ _ hs hb ⟨h0, h1, h2, h3, h4⟩ => ⟨(hs.cell hb).trans h0, (hs.cell hb).trans h1, (hs.cell hb).trans h2, (hs.cell hb).trans h3, (hs.cell hb).trans h4⟩
abbrev LinkS := Sl LinkAt (fun k => k * 5)
theorem LinkS.ext {w w' : World} {v : Value} {ds : List DLink} (h : LinkS w.heap.size w v ds) (hs : Ext w w') : LinkS w'.heap.size w' v ds := Sl.ext LinkAt.keeps h hs
def LinkC (x : DLink) : List Value := [I x.a, I x.ai, I x.b, I x.bi, I x.kind]
theorem LinkC.at_ (B : Nat) (w : World) (b o : Nat) (x : DLink) (h : ∀ j u, (LinkC x)[j]? = some u → w.cell? ⟨b, o + j, none⟩ = some u) : LinkAt B w b o x := ⟨h 0 _ rfl, h 1 _ rfl, h 2 _ rfl, h 3 _ rfl, h 4 _ rfl⟩
theorem LinkAt.cells_ (B : Nat) (w : World) (b o : Nat) (x : DLink) (h : LinkAt B w b o x) : ∀ j u, (LinkC x)[j]? = some u → w.cell? ⟨b, o + j, none⟩ = some u := by
 obtain ⟨h0, h1, h2, h3, h4⟩ := h;intro j u hu
 match j, hu with
 | 0, hu => cases hu; exact h0
 | 1, hu => cases hu; exact h1
 | 2, hu => cases hu; exact h2
 | 3, hu => cases hu; exact h3
 | 4, hu => cases hu; exact h4
theorem one_Link (l : List DLink) : ∀ u ∈ l.flatMap LinkC, u.oneCell' = true := by
 intro u hu;obtain ⟨x, _, hx⟩ := List.mem_flatMap.1 hu;simp only [LinkC, List.mem_cons, List.not_mem_nil, or_false] at hx
 rcases hx with rfl | rfl | rfl | rfl | rfl <;> rfl
theorem LinkC.len (x : DLink) : (LinkC x).length = 5 := rfl
structure DPolicy where
 maxLen : Int
 denied : Int
 closed : Int
 life : Int
theorem DPolicy.eq_iff {a b : DPolicy} : a = b ↔ a.maxLen = b.maxLen ∧ a.denied = b.denied ∧ a.closed = b.closed ∧ a.life = b.life := by cases a; cases b; simp
instance : DecidableEq DPolicy := fun _ _ => decidable_of_iff _ DPolicy.eq_iff.symm
def PolicyAt (_B : Nat) (w : World) (b o : Nat) (x : DPolicy) : Prop := w.cell? ⟨b, o, none⟩ = some (I x.maxLen) ∧ w.cell? ⟨b, o + 1, none⟩ = some (I x.denied) ∧ w.cell? ⟨b, o + 2, none⟩ = some (I x.closed) ∧ w.cell? ⟨b, o + 3, none⟩ = some (I x.life)
theorem PolicyAt.keeps : Keeps PolicyAt := fun _ _ _ _ _ _ _ _ hs hb ⟨h0, h1, h2, h3⟩ => ⟨(hs.cell hb).trans h0, (hs.cell hb).trans h1, (hs.cell hb).trans h2, (hs.cell hb).trans h3⟩
abbrev PolicyS := Sl PolicyAt (fun k => k * 4)
theorem PolicyS.ext {w w' : World} {v : Value} {ds : List DPolicy} (h : PolicyS w.heap.size w v ds) (hs : Ext w w') : PolicyS w'.heap.size w' v ds := Sl.ext PolicyAt.keeps h hs
def PolicyC (x : DPolicy) : List Value := [I x.maxLen, I x.denied, I x.closed, I x.life]
theorem PolicyC.at_ (B : Nat) (w : World) (b o : Nat) (x : DPolicy) (h : ∀ j u, (PolicyC x)[j]? = some u → w.cell? ⟨b, o + j, none⟩ = some u) : PolicyAt B w b o x := ⟨h 0 _ rfl, h 1 _ rfl, h 2 _ rfl, h 3 _ rfl⟩
theorem PolicyAt.cells_ (B : Nat) (w : World) (b o : Nat) (x : DPolicy) (h : PolicyAt B w b o x) : ∀ j u, (PolicyC x)[j]? = some u → w.cell? ⟨b, o + j, none⟩ = some u := by
 obtain ⟨h0, h1, h2, h3⟩ := h;intro j u hu
 match j, hu with
 | 0, hu => cases hu; exact h0
 | 1, hu => cases hu; exact h1
 | 2, hu => cases hu; exact h2
 | 3, hu => cases hu; exact h3
theorem one_Policy (l : List DPolicy) : ∀ u ∈ l.flatMap PolicyC, u.oneCell' = true := by
 intro u hu;obtain ⟨x, _, hx⟩ := List.mem_flatMap.1 hu;simp only [PolicyC, List.mem_cons, List.not_mem_nil, or_false] at hx
 rcases hx with rfl | rfl | rfl | rfl <;> rfl
theorem PolicyC.len (x : DPolicy) : (PolicyC x).length = 4 := rfl
structure DCertificate where
 asn : Int
 keyDigest : Int
 rootVersion : Int
 notBefore : Int
 notAfter : Int
 sig : DSignature
theorem DCertificate.eq_iff {a b : DCertificate} : a = b ↔ a.asn = b.asn ∧ a.keyDigest = b.keyDigest ∧ a.rootVersion = b.rootVersion ∧ a.notBefore = b.notBefore ∧ a.notAfter = b.notAfter ∧ a.sig = b.sig := by cases a; cases b; simp
instance : DecidableEq DCertificate := fun _ _ => decidable_of_iff _ DCertificate.eq_iff.symm
structure DSegment where
 ts : Int
 beta : Int
 hops : List DHop
theorem DSegment.eq_iff {a b : DSegment} : a = b ↔ a.ts = b.ts ∧ a.beta = b.beta ∧ a.hops = b.hops := by cases a; cases b; simp
instance : DecidableEq DSegment := fun _ _ => decidable_of_iff _ DSegment.eq_iff.symm
def SegmentAt (B : Nat) (w : World) (b o : Nat) (x : DSegment) : Prop := ∃ A2 n2 c2, w.cell? ⟨b, o, none⟩ = some (I x.ts) ∧ w.cell? ⟨b, o + 1, none⟩ = some (I x.beta) ∧ w.cell? ⟨b, o + 2, none⟩ = some (.slice A2 n2 c2) ∧ HopS B w (.slice A2 n2 c2) x.hops
theorem SegmentAt.keeps : Keeps SegmentAt := fun _ _ _ _ _ _ _ hB hs hb ⟨A2, n2, c2, h0, h1, h2, s2⟩ => ⟨A2, n2, c2, (hs.cell hb).trans h0, (hs.cell hb).trans h1, (hs.cell hb).trans h2, Sl.keep HopAt.keeps s2 hB hs⟩
abbrev SegmentS := Sl SegmentAt (fun k => k * 3)
theorem SegmentS.ext {w w' : World} {v : Value} {ds : List DSegment} (h : SegmentS w.heap.size w v ds) (hs : Ext w w') : SegmentS w'.heap.size w' v ds := Sl.ext SegmentAt.keeps h hs
def SegmentV (B : Nat) (w : World) (v : Value) (x : DSegment) : Prop := ∃ A2 n2 c2, v = .agg #[I x.ts, I x.beta, .slice A2 n2 c2] ∧ HopS B w (.slice A2 n2 c2) x.hops
theorem SegmentV.keep {B B' : Nat} {w w' : World} {v : Value} {x : DSegment} (h : SegmentV B w v x) (hB : B ≤ B') (hs : Same B w w') : SegmentV B' w' v x := by obtain ⟨A2, n2, c2, e, s2⟩ := h; exact ⟨A2, n2, c2, e, Sl.keep HopAt.keeps s2 hB hs⟩
theorem SegmentV.ext {w w' : World} {v : Value} {x : DSegment} (h : SegmentV w.heap.size w v x) (hs : Ext w w') : SegmentV w'.heap.size w' v x := h.keep hs.size hs.same
structure DTopology where
 ases : List DAS
 links : List DLink
theorem DTopology.eq_iff {a b : DTopology} : a = b ↔ a.ases = b.ases ∧ a.links = b.links := by cases a; cases b; simp
instance : DecidableEq DTopology := fun _ _ => decidable_of_iff _ DTopology.eq_iff.symm
def TopologyV (B : Nat) (w : World) (v : Value) (x : DTopology) : Prop := ∃ A0 n0 c0, ∃ A1 n1 c1, v = .agg #[.slice A0 n0 c0, .slice A1 n1 c1] ∧ ASS B w (.slice A0 n0 c0) x.ases ∧ LinkS B w (.slice A1 n1 c1) x.links
theorem TopologyV.keep {B B' : Nat} {w w' : World} {v : Value} {x : DTopology} (h : TopologyV B w v x) (hB : B ≤ B') (hs : Same B w w') : TopologyV B' w' v x := by obtain ⟨A0, n0, c0, A1, n1, c1, e, s0, s1⟩ := h; exact ⟨A0, n0, c0, A1, n1, c1, e, Sl.keep ASAt.keeps s0 hB hs, Sl.keep LinkAt.keeps s1 hB hs⟩
theorem TopologyV.ext {w w' : World} {v : Value} {x : DTopology} (h : TopologyV w.heap.size w v x) (hs : Ext w w') : TopologyV w'.heap.size w' v x := h.keep hs.size hs.same
structure DBeacon where
 ing : Int
 seg : DSegment
theorem DBeacon.eq_iff {a b : DBeacon} : a = b ↔ a.ing = b.ing ∧ a.seg = b.seg := by cases a; cases b; simp
instance : DecidableEq DBeacon := fun _ _ => decidable_of_iff _ DBeacon.eq_iff.symm
def BeaconAt (B : Nat) (w : World) (b o : Nat) (x : DBeacon) : Prop := ∃ A3 n3 c3, w.cell? ⟨b, o, none⟩ = some (I x.ing) ∧ w.cell? ⟨b, o + 1, none⟩ = some (I x.seg.ts) ∧ w.cell? ⟨b, o + 2, none⟩ = some (I x.seg.beta) ∧ w.cell? ⟨b, o + 3, none⟩ = some (.slice A3 n3 c3) ∧ HopS B w (.slice A3 n3 c3) x.seg.hops
theorem BeaconAt.keeps : Keeps BeaconAt := fun _ _ _ _ _ _ _ hB hs hb ⟨A3, n3, c3, h0, h1, h2, h3, s3⟩ => ⟨A3, n3, c3, (hs.cell hb).trans h0, (hs.cell hb).trans h1, (hs.cell hb).trans h2, (hs.cell hb).trans h3, Sl.keep HopAt.keeps s3 hB hs⟩
abbrev BeaconS := Sl BeaconAt (fun k => k * 4)
theorem BeaconS.ext {w w' : World} {v : Value} {ds : List DBeacon} (h : BeaconS w.heap.size w v ds) (hs : Ext w w') : BeaconS w'.heap.size w' v ds := Sl.ext BeaconAt.keeps h hs
def BeaconV (B : Nat) (w : World) (v : Value) (x : DBeacon) : Prop := ∃ A3 n3 c3, v = .agg #[I x.ing, I x.seg.ts, I x.seg.beta, .slice A3 n3 c3] ∧ HopS B w (.slice A3 n3 c3) x.seg.hops
theorem BeaconV.keep {B B' : Nat} {w w' : World} {v : Value} {x : DBeacon} (h : BeaconV B w v x) (hB : B ≤ B') (hs : Same B w w') : BeaconV B' w' v x := by obtain ⟨A3, n3, c3, e, s3⟩ := h; exact ⟨A3, n3, c3, e, Sl.keep HopAt.keeps s3 hB hs⟩
theorem BeaconV.ext {w w' : World} {v : Value} {x : DBeacon} (h : BeaconV w.heap.size w v x) (hs : Ext w w') : BeaconV w'.heap.size w' v x := h.keep hs.size hs.same
structure DBeaconStore where
 beacons : List DBeacon
theorem DBeaconStore.eq_iff {a b : DBeaconStore} : a = b ↔ a.beacons = b.beacons := by cases a; cases b; simp
instance : DecidableEq DBeaconStore := fun _ _ => decidable_of_iff _ DBeaconStore.eq_iff.symm
def BeaconStoreAt (B : Nat) (w : World) (b o : Nat) (x : DBeaconStore) : Prop := ∃ A0 n0 c0, w.cell? ⟨b, o, none⟩ = some (.slice A0 n0 c0) ∧ BeaconS B w (.slice A0 n0 c0) x.beacons
theorem BeaconStoreAt.keeps : Keeps BeaconStoreAt := fun _ _ _ _ _ _ _ hB hs hb ⟨A0, n0, c0, h0, s0⟩ => ⟨A0, n0, c0, (hs.cell hb).trans h0, Sl.keep BeaconAt.keeps s0 hB hs⟩
abbrev BeaconStoreS := Sl BeaconStoreAt (fun k => k)
def BeaconStoreV (B : Nat) (w : World) (v : Value) (x : DBeaconStore) : Prop := ∃ A0 n0 c0, v = .agg #[.slice A0 n0 c0] ∧ BeaconS B w (.slice A0 n0 c0) x.beacons
structure DBeaconMessage where
 to : Int
 beacon : DBeacon
theorem DBeaconMessage.eq_iff {a b : DBeaconMessage} : a = b ↔ a.to = b.to ∧ a.beacon = b.beacon := by cases a; cases b; simp
instance : DecidableEq DBeaconMessage := fun _ _ => decidable_of_iff _ DBeaconMessage.eq_iff.symm
def BeaconMessageAt (B : Nat) (w : World) (b o : Nat) (x : DBeaconMessage) : Prop := ∃ A4 n4 c4, w.cell? ⟨b, o, none⟩ = some (I x.to) ∧ w.cell? ⟨b, o + 1, none⟩ = some (I x.beacon.ing) ∧ w.cell? ⟨b, o + 2, none⟩ = some (I x.beacon.seg.ts) ∧ w.cell? ⟨b, o + 3, none⟩ = some (I x.beacon.seg.beta) ∧ w.cell? ⟨b, o + 4, none⟩ = some (.slice A4 n4 c4) ∧ HopS B w (.slice A4 n4 c4) x.beacon.seg.hops
theorem BeaconMessageAt.keeps : Keeps BeaconMessageAt := fun _ _ _ _ _ _ _ hB hs hb ⟨A4, n4, c4, h0, h1, h2, h3, h4, s4⟩ => ⟨A4, n4, c4, (hs.cell hb).trans h0, (hs.cell hb).trans h1, (hs.cell hb).trans h2, (hs.cell hb).trans h3, (hs.cell hb).trans h4, Sl.keep HopAt.keeps s4 hB hs⟩
abbrev BeaconMessageS := Sl BeaconMessageAt (fun k => k * 5)
def BeaconMessageV (B : Nat) (w : World) (v : Value) (x : DBeaconMessage) : Prop := ∃ A4 n4 c4, v = .agg #[I x.to, I x.beacon.ing, I x.beacon.seg.ts, I x.beacon.seg.beta, .slice A4 n4 c4] ∧ HopS B w (.slice A4 n4 c4) x.beacon.seg.hops
structure DBeaconing where
 ts : Int
 stores : List DBeaconStore
theorem DBeaconing.eq_iff {a b : DBeaconing} : a = b ↔ a.ts = b.ts ∧ a.stores = b.stores := by cases a; cases b; simp
instance : DecidableEq DBeaconing := fun _ _ => decidable_of_iff _ DBeaconing.eq_iff.symm
def BeaconingV (B : Nat) (w : World) (v : Value) (x : DBeaconing) : Prop := ∃ A1 n1 c1, v = .agg #[I x.ts, .slice A1 n1 c1] ∧ BeaconStoreS B w (.slice A1 n1 c1) x.stores
theorem BeaconingV.keep {B B' : Nat} {w w' : World} {v : Value} {x : DBeaconing} (h : BeaconingV B w v x) (hB : B ≤ B') (hs : Same B w w') : BeaconingV B' w' v x := by obtain ⟨A1, n1, c1, e, s1⟩ := h; exact ⟨A1, n1, c1, e, Sl.keep BeaconStoreAt.keeps s1 hB hs⟩
theorem BeaconingV.ext {w w' : World} {v : Value} {x : DBeaconing} (h : BeaconingV w.heap.size w v x) (hs : Ext w w') : BeaconingV w'.heap.size w' v x := h.keep hs.size hs.same
structure DSegmentDatabase where
 down : List DSegment
 core : List DSegment
theorem DSegmentDatabase.eq_iff {a b : DSegmentDatabase} : a = b ↔ a.down = b.down ∧ a.core = b.core := by cases a; cases b; simp
instance : DecidableEq DSegmentDatabase := fun _ _ => decidable_of_iff _ DSegmentDatabase.eq_iff.symm
def SegmentDatabaseV (B : Nat) (w : World) (v : Value) (x : DSegmentDatabase) : Prop := ∃ A0 n0 c0, ∃ A1 n1 c1, v = .agg #[.slice A0 n0 c0, .slice A1 n1 c1] ∧ SegmentS B w (.slice A0 n0 c0) x.down ∧ SegmentS B w (.slice A1 n1 c1) x.core
theorem SegmentDatabaseV.keep {B B' : Nat} {w w' : World} {v : Value} {x : DSegmentDatabase} (h : SegmentDatabaseV B w v x) (hB : B ≤ B') (hs : Same B w w') : SegmentDatabaseV B' w' v x := by obtain ⟨A0, n0, c0, A1, n1, c1, e, s0, s1⟩ := h; exact ⟨A0, n0, c0, A1, n1, c1, e, Sl.keep SegmentAt.keeps s0 hB hs, Sl.keep SegmentAt.keeps s1 hB hs⟩
theorem SegmentDatabaseV.ext {w w' : World} {v : Value} {x : DSegmentDatabase} (h : SegmentDatabaseV w.heap.size w v x) (hs : Ext w w') : SegmentDatabaseV w'.heap.size w' v x := h.keep hs.size hs.same
structure DTrustRoot where
 isd : Int
 version : Int
 notBefore : Int
 notAfter : Int
 voters : Int
 quorum : Int
 sigs : List DSignature
theorem DTrustRoot.eq_iff {a b : DTrustRoot} : a = b ↔ a.isd = b.isd ∧ a.version = b.version ∧ a.notBefore = b.notBefore ∧ a.notAfter = b.notAfter ∧ a.voters = b.voters ∧ a.quorum = b.quorum ∧ a.sigs = b.sigs := by cases a; cases b; simp
instance : DecidableEq DTrustRoot := fun _ _ => decidable_of_iff _ DTrustRoot.eq_iff.symm
structure DSignedSegment where
 seg : DSegment
 sigs : List Int
theorem DSignedSegment.eq_iff {a b : DSignedSegment} : a = b ↔ a.seg = b.seg ∧ a.sigs = b.sigs := by cases a; cases b; simp
instance : DecidableEq DSignedSegment := fun _ _ => decidable_of_iff _ DSignedSegment.eq_iff.symm
structure DPathPart where
 kind : Int
 ts : Int
 beta : Int
 hops : List DHop
theorem DPathPart.eq_iff {a b : DPathPart} : a = b ↔ a.kind = b.kind ∧ a.ts = b.ts ∧ a.beta = b.beta ∧ a.hops = b.hops := by cases a; cases b; simp
instance : DecidableEq DPathPart := fun _ _ => decidable_of_iff _ DPathPart.eq_iff.symm
theorem cells_at3 {w : World} {g p : Nat} {t : TypeId} {pre post : List Value} {a0 a1 a2 : Value} (h : Blk w g t (pre ++ a0 :: a1 :: a2 :: post)) (hp : pre.length = p) : w.cell? ⟨g, p, none⟩ = some a0 ∧ w.cell? ⟨g, p + 1, none⟩ = some a1 ∧ w.cell? ⟨g, p + 2, none⟩ = some a2 := by
 subst hp;refine ⟨(h.cell _).trans (by simp), (h.cell _).trans (by simp), (h.cell _).trans (by simp)⟩
def OL {α : Type} (OC : World → List Nat → List Value → α → Prop) (sz : Nat) (w : World) : List α → List Nat → List Value → Prop
 | [], fp, cs => fp = [] ∧ cs = []
 | d :: ds, fp, cs => ∃ f1 f2 c1 c2, fp = f1 ++ f2 ∧ cs = c1 ++ c2 ∧ c1.length = sz ∧ OC w f1 c1 d ∧ OL OC sz w ds f2 c2
def OKeeps {α : Type} (OC : World → List Nat → List Value → α → Prop) : Prop := ∀ w w' fp cs x, (∀ b ∈ fp, b < w.heap.size → w'.heap[b]? = w.heap[b]?) → OC w fp cs x → OC w' fp cs x
section
variable {α : Type} {OC : World → List Nat → List Value → α → Prop} {sz : Nat} {w w' : World}
theorem OL.keep (hK : OKeeps OC) : ∀ {ds : List α} {fp : List Nat} {cs : List Value}, OL OC sz w ds fp cs → (∀ b ∈ fp, b < w.heap.size → w'.heap[b]? = w.heap[b]?) → OL OC sz w' ds fp cs
 | [], _, _, h, _ => h
 | _ :: _, _, _, ⟨f1, f2, c1, c2, e1, e2, hl, ho, hr⟩, hk => ⟨f1, f2, c1, c2, e1, e2, hl, hK _ _ _ _ _ (fun b hb => hk b (by rw [e1]; exact List.mem_append_left _ hb)) ho, OL.keep hK hr (fun b hb => hk b (by rw [e1]; exact List.mem_append_right _ hb))⟩
theorem OL.len : ∀ {ds : List α} {fp : List Nat} {cs : List Value}, OL OC sz w ds fp cs → cs.length = ds.length * sz
 | [], _, _, ⟨_, h⟩ => by rw [h]; simp
 | _ :: ds, _, _, ⟨f1, f2, c1, c2, _, e2, hl, _, hr⟩ => by
   have := OL.len hr;rw [e2, List.length_append, hl, this, List.length_cons, Nat.add_mul];omega
theorem OL.append : ∀ {ds ds2 : List α} {fp fp2 : List Nat} {cs cs2 : List Value}, OL OC sz w ds fp cs → OL OC sz w ds2 fp2 cs2 → OL OC sz w (ds ++ ds2) (fp ++ fp2) (cs ++ cs2)
 | [], _, _, _, _, _, ⟨e1, e2⟩, h2 => by subst e1; subst e2; exact h2
 | _ :: _, _, _, fp2, _, cs2, ⟨f1, f2, c1, c2, e1, e2, hl, ho, hr⟩, h2 => ⟨f1, f2 ++ fp2, c1, c2 ++ cs2, by rw [e1, List.append_assoc], by rw [e2, List.append_assoc], hl, ho, OL.append hr h2⟩
theorem OL.one {d : α} {f1 : List Nat} {c1 : List Value} (h : OC w f1 c1 d) (hl : c1.length = sz) : OL OC sz w [d] f1 c1 := ⟨f1, [], c1, [], by simp, by simp, hl, h, rfl, rfl⟩
theorem OL.split : ∀ {ds ds2 : List α} {fp : List Nat} {cs : List Value}, OL OC sz w (ds ++ ds2) fp cs → ∃ f1 f2 c1 c2, fp = f1 ++ f2 ∧ cs = c1 ++ c2 ∧ OL OC sz w ds f1 c1 ∧ OL OC sz w ds2 f2 c2
 | [], _, fp, cs, h => ⟨[], fp, [], cs, rfl, rfl, ⟨rfl, rfl⟩, h⟩
 | _ :: _, _, _, _, ⟨f1, f2, c1, c2, e1, e2, hl, ho, hr⟩ => by
   obtain ⟨g1, g2, d1, d2, k1, k2, r1, r2⟩ := OL.split hr;exact ⟨f1 ++ g1, g2, c1 ++ d1, d2, by rw [e1, k1, List.append_assoc], by rw [e2, k2, List.append_assoc], ⟨f1, g1, c1, d1, rfl, rfl, hl, ho, r1⟩, r2⟩
theorem OL.at_ {ds : List α} {fp : List Nat} {cs : List Value} (h : OL OC sz w ds fp cs) (k : Nat) (hk : k < ds.length) :
 ∃ f1 f2 f3 c1 c2 c3, fp = f1 ++ (f2 ++ f3) ∧ cs = c1 ++ (c2 ++ c3) ∧ c1.length = k * sz ∧ c2.length = sz ∧ OL OC sz w (ds.take k) f1 c1 ∧ OC w f2 c2 ds[k] ∧ OL OC sz w (ds.drop (k + 1)) f3 c3 := by
 have h' : OL OC sz w (ds.take k ++ ds[k] :: ds.drop (k + 1)) fp cs := by rw [← List.drop_eq_getElem_cons hk, List.take_append_drop]; exact h
 obtain ⟨f1, f2, c1, c2, e1, e2, h1, g1, g2, d1, d2, k1, k2, hl, ho, hr⟩ := OL.split h';refine ⟨f1, g1, g2, c1, d1, d2, by rw [e1, k1], by rw [e2, k2], ?_, hl, h1, ho, hr⟩;rw [h1.len, List.length_take, Nat.min_eq_left (by omega)]
end
def NO {α : Type} (OC : World → List Nat → List Value → α → Prop) (E sz lo hi : Nat) (w : World) (v : Value) (ds : List α) : Prop :=
 ∃ cs fp, Own E sz lo hi w v ds.length cs ∧ OL OC sz w ds fp cs ∧ (v.ownBlock.toList ++ fp).Nodup ∧ ∀ b ∈ fp, lo ≤ b ∧ b < hi
section
variable {α : Type} {OC : World → List Nat → List Value → α → Prop} {E sz lo hi : Nat} {w w' : World} {v : Value} {ds : List α}
theorem NO.keep (hK : OKeeps OC) (h : NO OC E sz lo hi w v ds) (hk : ∀ k, lo ≤ k → k < hi → k < w.heap.size → w'.heap[k]? = w.heap[k]?) : NO OC E sz lo hi w' v ds := by
 obtain ⟨cs, fp, ho, hl, hn, hb⟩ := h;exact ⟨cs, fp, ho.keep hk, hl.keep hK (fun b hm hs => hk b (hb b hm).1 (hb b hm).2 hs), hn, hb⟩
theorem NO.more {lo' hi' : Nat} (h : NO OC E sz lo hi w v ds) (h1 : lo' ≤ lo) (h2 : hi ≤ hi') : NO OC E sz lo' hi' w v ds := by
 obtain ⟨cs, fp, ho, hl, hn, hb⟩ := h;exact ⟨cs, fp, ho.more h1 h2, hl, hn, fun b hm => ⟨by have := (hb b hm).1; omega, by have := (hb b hm).2; omega⟩⟩
theorem NO.slice (h : NO OC E sz lo hi w v ds) : ∃ a m c, v = .slice a m c := by
 obtain ⟨cs, fp, ho, _⟩ := h;exact ho.slice
theorem NO.sl {At : Nat → World → Nat → Nat → α → Prop} {pos : Nat → Nat} (h : NO OC E sz lo hi w v ds) (hpos : ∀ k, pos k = k * sz)
 (hAt : ∀ B w b o fp cs x, OC w fp cs x → (∀ b ∈ fp, b < B) → (∀ j u, cs[j]? = some u → w.cell? ⟨b, o + j, none⟩ = some u) → At B w b o x) : Sl At pos hi w v ds := by
 obtain ⟨cs, fp, ho, hl, _, hb⟩ := h
 rcases ho.cases with ⟨rfl, h0, _⟩ | ⟨g, cap, rest, rfl, _, hlt, hblk, hlc, hn, hm, hs⟩
 · exact ⟨none, 0, 0, rfl, h0, Nat.le_refl _, Nat.zero_le _, fun h => absurd h (by omega)⟩
 · refine ⟨_, ds.length, cap, rfl, rfl, hn, hm, fun _ => ⟨g, 0, rfl, hlt, fun k hk => ?_⟩⟩
   obtain ⟨f1, f2, f3, c1, c2, c3, e1, e2, l1, l2, _, hoc, _⟩ := hl.at_ k hk;refine hAt _ _ _ _ f2 c2 _ hoc (fun b hm => ?_) fun j u hu => ?_
   · exact (hb b (by rw [e1]; exact List.mem_append_right _ (List.mem_append_left _ hm))).2
   · have hj := (List.getElem?_eq_some_iff.1 hu).1
     have ep : 0 + pos k + j = c1.length + j := by rw [hpos, l1]; omega
     rw [ep, hblk.cell, e2, List.append_assoc, List.getElem?_append_right (by omega), Nat.add_sub_cancel_left, List.append_assoc, List.getElem?_append_left (by omega)];exact hu
end
theorem ownsRow_keep {w w' : World} {base e size n : Nat} {v : Value} {xs : List Value} (h : w.ownsRow base e size v n xs) (hk : ∀ b ∈ v.ownBlock.toList, b < w.heap.size → w'.heap[b]? = w.heap[b]?) : w'.ownsRow base e size v n xs := by
 obtain ⟨h1, h2⟩ := h;refine ⟨h1, ?_⟩
 rcases h2 with h2 | ⟨g, cap, cur, rfl, hg, hh, r⟩
 · exact .inl h2
 · have hs : g < w.heap.size := by
    rcases Nat.lt_or_ge g w.heap.size with h | h
    · exact h
    · rw [Array.getElem?_eq_none h] at hh; cases hh
   exact .inr ⟨g, cap, cur, rfl, hg, by rw [hk g (by simp [Value.ownBlock]) hs]; exact hh, r⟩
theorem sl_of_OL {α : Type} {OC : World → List Nat → List Value → α → Prop} {At : Nat → World → Nat → Nat → α → Prop} {pos : Nat → Nat} {E sz B : Nat} {w : World} {v : Value} {ds : List α} {cs : List Value} {fp : List Nat}
 (ho : w.ownsRow 0 E sz v ds.length cs) (hl : OL OC sz w ds fp cs) (hb : ∀ b, (v.ownBlock = some b ∨ b ∈ fp) → b < B) (hpos : ∀ k, pos k = k * sz)
 (hAt : ∀ B w b o fp cs x, OC w fp cs x → (∀ b ∈ fp, b < B) → (∀ j u, cs[j]? = some u → w.cell? ⟨b, o + j, none⟩ = some u) → At B w b o x) : Sl At pos B w v ds := by
 have ho' : Own E sz 0 B w v ds.length cs := ⟨ho, fun k hk => hb k (.inl hk)⟩
 rcases ho'.cases with ⟨rfl, h0, _⟩ | ⟨g, cap, rest, rfl, _, hlt, hblk, hlc, hn, hm, hs⟩
 · exact ⟨none, 0, 0, rfl, h0, Nat.le_refl _, Nat.zero_le _, fun h => absurd h (by omega)⟩
 · refine ⟨_, ds.length, cap, rfl, rfl, hn, hm, fun _ => ⟨g, 0, rfl, hlt, fun k hk => ?_⟩⟩
   obtain ⟨f1, f2, f3, c1, c2, c3, e1, e2, l1, l2, _, hoc, _⟩ := hl.at_ k hk;refine hAt _ _ _ _ f2 c2 _ hoc (fun b hm => hb b (.inr (by rw [e1]; exact List.mem_append_right _ (List.mem_append_left _ hm)))) fun j u hu => ?_;have hj := (List.getElem?_eq_some_iff.1 hu).1
   have ep : 0 + pos k + j = c1.length + j := by rw [hpos, l1]; omega
   rw [ep, hblk.cell, e2, List.append_assoc, List.getElem?_append_right (by omega), Nat.add_sub_cancel_left, List.append_assoc, List.getElem?_append_left (by omega)];exact hu
def totS {α : Type} (tot : α → Nat) (l : List α) : Nat := l.length + (l.map tot).sum
theorem sum_mem {α : Type} (tot : α → Nat) (l : List α) (k : Nat) (h : k < l.length) : tot l[k] ≤ (l.map tot).sum := by
 induction l generalizing k with
 | nil => simp at h
 | cons x l ih =>
   rcases k with _ | k
   · simp
   · have := ih k (by simpa using h)
     simp only [List.getElem_cons_succ, List.map_cons, List.sum_cons];omega
theorem sum_take {α : Type} (tot : α → Nat) (l : List α) (k : Nat) (h : k < l.length) : ((l.take (k + 1)).map tot).sum = ((l.take k).map tot).sum + tot l[k] := by
 rw [take_snoc l k h, List.map_append, List.sum_append, List.map_cons, List.map_nil, List.sum_cons, List.sum_nil, Nat.add_zero]
theorem sum_take_le {α : Type} (tot : α → Nat) (l : List α) (k : Nat) : ((l.take k).map tot).sum ≤ (l.map tot).sum := by
 have h : l = l.take k ++ l.drop k := (List.take_append_drop k l).symm
 have h2 : (l.map tot).sum = ((l.take k).map tot).sum + ((l.drop k).map tot).sum := by
  rw [← List.sum_append, ← List.map_append, List.take_append_drop]
 omega
structure OutF (fp : List Nat) (w w' : World) : Prop where
 os : w'.os = w.os
 tape : w'.tape = w.tape
 output : w'.output = w.output
 size : w.heap.size ≤ w'.heap.size
 block : ∀ k, k < w.heap.size → k ∉ fp → w'.heap[k]? = w.heap[k]?
section
variable {fp fp' : List Nat} {a b c w w' : World}
end
theorem ownsRow_set {w : World} {base e size n g i : Nat} {v u : Value} {xs : List Value} (h : w.ownsRow base e size v n xs) (hg : g ∉ v.ownBlock.toList) : (w.setCell ⟨g, i, none⟩ u).ownsRow base e size v n xs :=
 ownsRow_keep h fun b hb _ => Below.heap_setCell _ _ _ _ (fun e => hg (by have e : b = g := e; subst e; exact hb))
theorem OL.set {α : Type} {OC : World → List Nat → List Value → α → Prop} {sz : Nat} {w : World} {ds : List α} {fp : List Nat} {cs : List Value} {g i : Nat} {u : Value} (hK : OKeeps OC) (h : OL OC sz w ds fp cs) (hg : g ∉ fp) : OL OC sz (w.setCell ⟨g, i, none⟩ u) ds fp cs :=
 h.keep hK fun b hb _ => Below.heap_setCell _ _ _ _ (fun e => hg (by have e : b = g := e; subst e; exact hb))
theorem ownsRow_slice {w : World} {lo e size n : Nat} {v : Value} {xs : List Value} (h : w.ownsRow lo e size v n xs) : ∃ a m c, v = .slice a m c := by
 rcases h.2 with ⟨rfl, _⟩ | ⟨g, cap, cur, rfl, _⟩
 · exact ⟨_, _, _, rfl⟩
 · exact ⟨_, _, _, rfl⟩
section
variable {α : Type} {f : Nat → α → α} {c : α → Nat}
end
theorem totS_append {α : Type} (t : α → Nat) (a b : List α) : totS t (a ++ b) = totS t a + totS t b := by
 unfold totS;rw [List.length_append, List.map_append, List.sum_append];omega
theorem totS_get {α : Type} (t : α → Nat) (l : List α) (k : Nat) (h : k < l.length) : t l[k] ≤ totS t l := by
 have := sum_mem t l k h;unfold totS;omega
theorem totS_len {α : Type} (t : α → Nat) (l : List α) : l.length ≤ totS t l := by unfold totS; omega
theorem filter_snoc {α : Type} (p : α → Bool) (l : List α) (k : Nat) (h : k < l.length) : (l.take (k + 1)).filter p = (l.take k).filter p ++ (if p l[k] then [l[k]] else []) := by
 rw [take_snoc l k h, List.filter_append]
 congr 1
 rw [List.filter_cons];split <;> simp_all
theorem filter_take_len {α : Type} (p : α → Bool) (l : List α) (k : Nat) : ((l.take k).filter p).length ≤ l.length := by
 have h1 := List.length_filter_le p (l.take k);have h2 := List.length_take_le' k l;omega
section
variable {α : Type} {OC : World → List Nat → List Value → α → Prop} {sz : Nat} {f : Nat → α → α} {c : α → Nat} {E g : Nat} {rest : List Value} {fp : List Nat} {xs : List α} {q : Nat} {w wr : World} {j p : Nat}
end
theorem info_int : (Tryz.prog.info? 3).map (fun i => (i.zero, i.size, i.bytes)) = some (some (.int .i64 0), 1, 8) := by kernel_rfl
abbrev IntSO (lo hi : Nat) (w : World) (v : Value) (xs : List Int) : Prop := Own 3 1 lo hi w v xs.length (xs.map I)
theorem IntSO_rd {lo hi : Nat} {w : World} {v : Value} {xs : List Int} (h : IntSO lo hi w v xs) : IntS w.heap.size w v xs := (Own.lt_size h).ints
def Row (w : World) (sz : Nat) (A : Option Addr) (m : Nat) (news : List Value) : Prop :=
 news.length = m * sz ∧ (0 < m → ∃ ad, A = some ad ∧ ∀ j u, news[j]? = some u → w.cell? (ad.add j) = some u)
theorem add_none (b off j : Nat) : (⟨b, off, none⟩ : Addr).add j = ⟨b, off + j, none⟩ := by unfold Addr.add; split <;> simp_all
theorem row_ints {B : Nat} {w : World} {A : Option Addr} {n c : Nat} {xs : List Int} (h : IntS B w (.slice A n c) xs) : Row w 1 A n (xs.map I) := by
 obtain ⟨A', n', c', e, hl, _, _, hr⟩ := h;cases e;refine ⟨by simpa using hl, fun h0 => ?_⟩;obtain ⟨b, off, e, _, hat⟩ := hr h0;refine ⟨⟨b, off, none⟩, e, fun j u hu => ?_⟩;obtain ⟨hj, hu'⟩ := List.getElem?_eq_some_iff.1 hu;rw [List.length_map] at hj;rw [List.getElem_map] at hu';subst hu';rw [add_none];exact hat j hj
theorem row_flat {α : Type} {At : Nat → World → Nat → Nat → α → Prop} {C : α → List Value} {sz : Nat} (hC : ∀ x, (C x).length = sz) (hsz : 0 < sz)
 (hAt : ∀ B w b o x, At B w b o x → ∀ j u, (C x)[j]? = some u → w.cell? ⟨b, o + j, none⟩ = some u)
 {B : Nat} {w : World} {A : Option Addr} {n c : Nat} {xs : List α} (h : Sl At (fun k => k * sz) B w (.slice A n c) xs) : Row w sz A n (xs.flatMap C) := by
 obtain ⟨A', n', c', e, hl, _, _, hr⟩ := h;cases e;refine ⟨by rw [flat_len C sz hC, hl], fun h0 => ?_⟩;obtain ⟨b, off, e, _, hat⟩ := hr h0;refine ⟨⟨b, off, none⟩, e, fun j u hu => ?_⟩;have hj := (List.getElem?_eq_some_iff.1 hu).1;rw [flat_len C sz hC] at hj;have hk : j / sz < xs.length := (Nat.div_lt_iff_lt_mul hsz).2 hj
 have hd : j / sz * sz + j % sz = j := by rw [Nat.mul_comm]; exact Nat.div_add_mod j sz
 rw [← hd, flat_get C sz hC xs _ _ hk (Nat.mod_lt _ hsz)] at hu;have := hAt _ _ _ _ _ (hat _ hk) _ _ hu;rw [add_none]
 have e2 : off + j / sz * sz + j % sz = off + j := by rw [Nat.add_assoc, hd]
 simpa [e2] using this
section
variable {P : Program} (w : World)
theorem run_append_of_nil (base : Nat) (t ty e : TypeId) (i : TypeInfo) (size : Nat) (ht : P.underlying t = some (.slice e)) (hi : P.info? e = some i)
 (v : Value) (n : Nat) (xs : List Value) (hown : w.ownsRow base e size v n xs) (c : Nat) : (Builtin.append_ #[t, t] ty #[v, .slice none 0 c]).run P w = .ok v w := by
 rcases hown.2 with ⟨rfl, rfl⟩ | ⟨g, cap, cur, rfl, _, _, hnc, _⟩
 · simp [Builtin.append_, run_underlying ht, sizeOf, typeInfo, hi, Builtin.lenOf, Builtin.firstCells]
 · simp [Builtin.append_, run_underlying ht, sizeOf, typeInfo, hi, Builtin.lenOf, Builtin.firstCells, hnc, storeCells]
theorem run_append_any (base : Nat) (t ty e : TypeId) (i : TypeInfo) (z : Value) (size bytes : Nat) (ht : P.underlying t = some (.slice e)) (hi : P.info? e = some i) (hz : i.zero = some z)
 (hsize : i.size = size) (hby : i.bytes = bytes) (hzs : z.cells.size = size) (hsz : 0 < size)
 (v : Value) (n : Nat) (xs : List Value) (hown : w.ownsRow base e size v n xs)
 (A : Option Addr) (m c : Nat) (news : List Value) (hr : Row w size A m news) (h1 : ∀ u ∈ news, u.oneCell' = true)
 (h63 : n + m ≤ maxLen) (hbytes : (n + m) * bytes ≤ 140737488355328) (hbase : base ≤ w.heap.size) :
 ∃ v' w', (Builtin.append_ #[t, t] ty #[v, .slice A m c]).run P w = .ok v' w' ∧ w'.ownsRow base e size v' (n + m) (xs ++ news) ∧ w.grownBy w' v.ownBlock ∧
  (v'.ownBlock = v.ownBlock ∨ v'.ownBlock = some w.heap.size) := by
 rcases A with _ | ad
 · have hm : m = 0 := by
    rcases Nat.eq_zero_or_pos m with h0 | h0
    · exact h0
    · obtain ⟨ad, h, _⟩ := hr.2 h0
      cases h
   subst hm;have hn : news = [] := List.eq_nil_of_length_eq_zero (by simpa using hr.1);subst hn;exact ⟨v, w, run_append_of_nil w base t ty e i size ht hi v n xs hown c, by simpa using hown, World.grownBy.refl w _, .inl rfl⟩
 · have hcells : ∀ j u, news[j]? = some u → w.cell? (ad.add j) = some u := by
    intro j u hu
    rcases Nat.eq_zero_or_pos m with h0 | h0
    · subst h0
      have hn : news = [] := List.eq_nil_of_length_eq_zero (by simpa using hr.1);subst hn;simp at hu
    · obtain ⟨ad', h, hc⟩ := hr.2 h0
      injection h with h;subst h;exact hc j u hu
   obtain ⟨v', w', hrun, h2, h3, _, h5⟩ := run_append_own_at (P := P) w base t ty e i z size bytes ht hi hz hsize hby hzs hsz v n xs hown ad m c news hr.1 hcells h1 h63 hbytes hbase;exact ⟨v', w', hrun, h2, h3, h5⟩
theorem wp_append_any {o : Oper} {a : Act} {K : Act → World → Prop} {Q : Exit → Act → World → Prop} (s x : Operand) (t : TypeId)
 (ho : o.op = .call { callee := .builtin .append, args := #[s, x], argTypes := #[t, t] })
 (base : Nat) (e : TypeId) (i : TypeInfo) (z : Value) (size bytes : Nat) (ht : P.underlying t = some (.slice e)) (hi : P.info? e = some i) (hz : i.zero = some z)
 (hsize : i.size = size) (hby : i.bytes = bytes) (hzs : z.cells.size = size) (hsz : 0 < size)
 (v : Value) (n : Nat) (xs : List Value) (hs : a.eval s = v) (hown : w.ownsRow base e size v n xs)
 (A : Option Addr) (m c : Nat) (news : List Value) (hx : a.eval x = .slice A m c) (hr : Row w size A m news) (h1 : ∀ u ∈ news, u.oneCell' = true)
 (h63 : n + m ≤ maxLen) (hbytes : (n + m) * bytes ≤ 140737488355328) (hbase : base ≤ w.heap.size)
 (h : ∀ v' w', w'.ownsRow base e size v' (n + m) (xs ++ news) → w.grownBy w' v.ownBlock → (v'.ownBlock = v.ownBlock ∨ v'.ownBlock = some w.heap.size) → K (a.put o.dst v') w') : o.wp P a w K Q := by
 obtain ⟨v', w', hrun, h2, h3, h4⟩ := run_append_any (P := P) w base t o.type e i z size bytes ht hi hz hsize hby hzs hsz v n xs hown A m c news hr h1 h63 hbytes hbase;unfold Oper.wp execOp;simp only [ho, resolve, invoke, builtin, Sem.run_bind, Sem.run_pure, Result.andThen_ok, List.map_toArray, List.map_cons, List.map_nil, hs, hx, hrun];exact h v' w' h2 h3 h4
theorem wpList_append_any {ops : Array Oper} {rest : List Oper} {o : Oper} {a : Act} {Q : Exit → Act → World → Prop} (hgd : o.guard = none) (s x : Operand) (t : TypeId)
 (ho : o.op = .call { callee := .builtin .append, args := #[s, x], argTypes := #[t, t] })
 (base : Nat) (e : TypeId) (i : TypeInfo) (z : Value) (size bytes : Nat) (ht : P.underlying t = some (.slice e)) (hi : P.info? e = some i) (hz : i.zero = some z)
 (hsize : i.size = size) (hby : i.bytes = bytes) (hzs : z.cells.size = size) (hsz : 0 < size)
 (v : Value) (n : Nat) (xs : List Value) (hs : a.eval s = v) (hown : w.ownsRow base e size v n xs)
 (A : Option Addr) (m c : Nat) (news : List Value) (hx : a.eval x = .slice A m c) (hr : Row w size A m news) (h1 : ∀ u ∈ news, u.oneCell' = true)
 (h63 : n + m ≤ maxLen) (hbytes : (n + m) * bytes ≤ 140737488355328) (hbase : base ≤ w.heap.size)
 (h : ∀ v' w', w'.ownsRow base e size v' (n + m) (xs ++ news) → w.grownBy w' v.ownBlock → (v'.ownBlock = v.ownBlock ∨ v'.ownBlock = some w.heap.size) → wpList P ops Q rest (a.put o.dst v') w') : wpList P ops Q (o :: rest) a w :=
 wpList_plain hgd fun _ hK => wp_append_any w s x t ho base e i z size bytes ht hi hz hsize hby hzs hsz v n xs hs hown A m c news hx hr h1 h63 hbytes hbase fun v' w' h2 h3 h4 => hK _ _ (h v' w' h2 h3 h4)
end
theorem hold {p : Prop} (h : Hid p) : p := h
theorem unhold {p : Prop} (h : p) : Hid p := h
theorem row_new (W : World) (E sz : Nat) (cs : List Value) (h : cs.length = sz) : Row (W.alloc (.cells cs.toArray E)) sz (some ⟨W.heap.size, 0, none⟩) 1 cs :=
 ⟨by omega, fun _ => ⟨_, rfl, fun j u hu => by rw [add_none, Nat.zero_add]; exact ((Blk.new W E cs).cell j).trans hu⟩⟩
theorem row_newN (W : World) (E sz n g : Nat) (cs : List Value) (hg : g = W.heap.size) (h : cs.length = n * sz) : Row (W.alloc (.cells cs.toArray E)) sz (some ⟨g, 0, none⟩) n cs := by
 subst hg;exact ⟨h, fun _ => ⟨_, rfl, fun j u hu => by rw [add_none, Nat.zero_add]; exact ((Blk.new W E cs).cell j).trans hu⟩⟩
theorem own_newN (W : World) (E sz n lo g : Nat) (cs : List Value) (hg : g = W.heap.size) (h : cs.length = n * sz) (hn : n ≤ maxLen) (hlo : lo ≤ W.heap.size) : Own E sz lo (W.alloc (.cells cs.toArray E)).heap.size (W.alloc (.cells cs.toArray E)) (.slice (some ⟨g, 0, none⟩) n n) n cs := by
 subst hg;exact Own.of_blk (Blk.new W E cs) h hn hlo (by rw [World.size_alloc]; omega)
theorem own_new (W : World) (E sz lo : Nat) (cs : List Value) (h : cs.length = sz) (hlo : lo ≤ W.heap.size) : Own E sz lo (W.alloc (.cells cs.toArray E)).heap.size (W.alloc (.cells cs.toArray E)) (.slice (some ⟨W.heap.size, 0, none⟩) 1 1) 1 cs :=
 Own.of_blk (Blk.new W E cs) (by omega) (by unfold maxLen; omega) hlo (by rw [World.size_alloc]; omega)
theorem own_zero (W : World) (E sz lo : Nat) (hlo : lo ≤ W.heap.size) : Own E sz lo (W.alloc (.cells #[] E)).heap.size (W.alloc (.cells #[] E)) (.slice (some ⟨W.heap.size, 0, none⟩) 0 0) 0 [] :=
 Own.of_blk (Blk.new W E []) (by simp) (by unfold maxLen; omega) hlo (by rw [World.size_alloc]; omega)
theorem own_zero' (W : World) (E sz lo g : Nat) (hg : g = W.heap.size) (hlo : lo ≤ W.heap.size) : Own E sz lo (W.alloc (.cells #[] E)).heap.size (W.alloc (.cells #[] E)) (.slice (some ⟨g, 0, none⟩) 0 0) 0 [] := by
 subst hg;exact own_zero W E sz lo hlo
theorem Ext.app {w0 w w' : World} {E sz hi n : Nat} {v : Value} {xs : List Value} (h : Ext w0 w) (ho : Own E sz w0.heap.size hi w v n xs) (hg : w.grownBy w' v.ownBlock) : Ext w0 w' :=
 h.grown hg fun k hk => (ho.1.lt k hk).1
theorem wpList_app {P : Program} {ops : Array Oper} {rest : List Oper} {o : Oper} {a : Act} {w : World} {Q : Exit → Act → World → Prop} (w0 : World) (hgd : o.guard = none) (s x : Operand) (t : TypeId)
 (ho : o.op = .call { callee := .builtin .append, args := #[s, x], argTypes := #[t, t] })
 (E : TypeId) (z : Value) (sz bytes : Nat) (ht : P.underlying t = some (.slice E)) (hinfo : (P.info? E).map (fun i => (i.zero, i.size, i.bytes)) = some (some z, sz, bytes)) (hzs : z.cells.size = sz) (hsz : 0 < sz)
 (v : Value) (n : Nat) (xs : List Value) (hs : a.eval s = v) (A : Option Addr) (m c : Nat) (news : List Value) (hx : a.eval x = .slice A m c)
 (hown : Own E sz w0.heap.size w.heap.size w v n xs) (hr : Row w sz A m news) (h1 : ∀ u ∈ news, u.oneCell' = true) (he : Ext w0 w)
 (h63 : n + m ≤ maxLen) (hbytes : (n + m) * bytes ≤ 140737488355328)
 (h : ∀ v' w', Own E sz w0.heap.size w'.heap.size w' v' (n + m) (xs ++ news) → Ext w0 w' → w.grownBy w' v.ownBlock → (v'.ownBlock = v.ownBlock ∨ v'.ownBlock = some w.heap.size) → wpList P ops Q rest (a.put o.dst v') w') : wpList P ops Q (o :: rest) a w := by
 obtain ⟨i0, hi0, hz0, hz1, hz2⟩ := info_parts hinfo;refine wpList_append_any w hgd s x t ho w0.heap.size E i0 z sz bytes ht hi0 hz0 hz1 hz2 hzs hsz v n xs hs hown.1 A m c news hx hr h1 h63 hbytes he.size ?_;intro v' w' h2 h3 h4;exact h v' w' ⟨h2, fun k hk => (h2.lt k hk).2⟩ (he.app hown h3) h3 h4
theorem wp_region_ext {P : Program} {id : Nat} {Q : Exit → Act → World → Prop} {a : Act} {w w0 : World} {l : List Oper} (hm : P.follows .mixedOrders = true) (hB : Region.lexB .any l.toArray = true) (he : Ext w0 w)
 (h : wpQuiet P l.toArray (fun W => Ext w0 W) (fun a' => ∀ w', Ext w0 w' → Q .normal a' w') l a) : (Code.region id l.toArray true).wp P Q a w :=
 wp_region_quiet (C := fun W => Ext w0 W) hm hB he.drew (by simpa using h)
theorem one_ints (l : List Int) : ∀ u ∈ l.map I, u.oneCell' = true := by
 intro u hu;obtain ⟨x, _, rfl⟩ := List.mem_map.1 hu;rfl
def OOne {α : Type} (OC : World → List Nat → List Value → α → Prop) : Prop := ∀ w fp cs x, OC w fp cs x → ∀ u ∈ cs, u.oneCell' = true
theorem OL.ones {α : Type} {OC : World → List Nat → List Value → α → Prop} {sz : Nat} {w : World} (hO : OOne OC) : ∀ {ds : List α} {fp : List Nat} {cs : List Value}, OL OC sz w ds fp cs → ∀ u ∈ cs, u.oneCell' = true
 | [], _, _, ⟨_, e⟩, u, hu => by subst e; cases hu
 | _ :: _, _, _, ⟨f1, f2, c1, c2, _, e2, _, ho, hr⟩, u, hu => by
   subst e2
   rcases List.mem_append.1 hu with hu | hu
   · exact hO _ _ _ _ ho u hu
   · exact OL.ones hO hr u hu
theorem NO.nil {α : Type} (OC : World → List Nat → List Value → α → Prop) (E sz lo hi : Nat) (w : World) : NO OC E sz lo hi w (.slice none 0 0) [] := ⟨[], [], Own.nil _ _ _ _ _, ⟨rfl, rfl⟩, by simp [Value.ownBlock], by simp⟩
theorem NO.zero {α : Type} (OC : World → List Nat → List Value → α → Prop) (W : World) (E sz lo g : Nat) (hg : g = W.heap.size) (hlo : lo ≤ W.heap.size) : NO OC E sz lo (W.alloc (.cells #[] E)).heap.size (W.alloc (.cells #[] E)) (.slice (some ⟨g, 0, none⟩) 0 0) [] :=
 ⟨[], [], own_zero' W E sz lo g hg hlo, ⟨rfl, rfl⟩, by simp [Value.ownBlock], by simp⟩
section
variable {α : Type} {OC : World → List Nat → List Value → α → Prop} {E sz lo hi : Nat} {w w' : World} {v : Value} {ds : List α}
theorem NO.up (hK : OKeeps OC) (h : NO OC E sz lo hi w v ds) (he : Ext w w') (hh : hi ≤ w.heap.size) : NO OC E sz lo w'.heap.size w' v ds :=
 (NO.keep hK h fun k _ _ h3 => he.same k h3).more (Nat.le_refl _) (Nat.le_trans hh he.size)
theorem NO.at' (hK : OKeeps OC) (h : NO OC E sz lo hi w v ds) (he : Ext w w') : NO OC E sz lo hi w' v ds := NO.keep hK h fun k _ _ h3 => he.same k h3
theorem NO.row {cs : List Value} {n : Nat} {A : Option Addr} {c k : Nat} (h : Own E sz lo hi w (.slice A k c) n cs) : k = n ∧ Row w sz A n cs := by
 rcases h.cases with ⟨e, h0, hc⟩ | ⟨g, cap, rest, e, _, _, hb, hl, hn, _⟩
 · cases e
   subst h0; subst hc;exact ⟨rfl, by simp, fun h => absurd h (by omega)⟩
 · cases e
   refine ⟨rfl, hl, fun _ => ⟨_, rfl, fun j u hu => ?_⟩⟩;rw [add_none, Nat.zero_add];have hj := (List.getElem?_eq_some_iff.1 hu).1;exact (hb.cell j).trans (by rw [List.getElem?_append_left hj]; exact hu)
end
theorem wpList_push {α : Type} {OC : World → List Nat → List Value → α → Prop} {P : Program} {ops : Array Oper} {rest : List Oper} {o : Oper} {a : Act} {w : World} {Q : Exit → Act → World → Prop} (w0 : World) (hK : OKeeps OC) (hO : OOne OC) (hgd : o.guard = none) (s x : Operand) (t : TypeId)
 (ho : o.op = .call { callee := .builtin .append, args := #[s, x], argTypes := #[t, t] })
 (E : TypeId) (z : Value) (sz bytes : Nat) (ht : P.underlying t = some (.slice E)) (hinfo : (P.info? E).map (fun i => (i.zero, i.size, i.bytes)) = some (some z, sz, bytes)) (hzs : z.cells.size = sz) (hsz : 0 < sz)
 (v : Value) (ds ds2 : List α) (m : Nat) (hs : a.eval s = v) (A : Option Addr) (k c : Nat) (news : List Value) (f2 : List Nat) (hx : a.eval x = .slice A k c)
 (hno : NO OC E sz w0.heap.size m w v ds) (hm : m ≤ w.heap.size) (hr : Row w sz A k news) (hol : OL OC sz w ds2 f2 news) (hn2 : f2.Nodup) (hb2 : ∀ b ∈ f2, m ≤ b ∧ b < w.heap.size) (hw0 : w0.heap.size ≤ m) (he : Ext w0 w)
 (h63 : ds.length + ds2.length ≤ 1000000000) (hby : bytes ≤ 1000)
 (h : ∀ v' w', NO OC E sz w0.heap.size w'.heap.size w' v' (ds ++ ds2) → Ext w0 w' → wpList P ops Q rest (a.put o.dst v') w') : wpList P ops Q (o :: rest) a w := by
 obtain ⟨cs, fp, hown, hl, hn, hb⟩ := hno
 have hlen : k * sz = ds2.length * sz := by rw [← hr.1, hol.len]
 have hk : k = ds2.length := Nat.eq_of_mul_eq_mul_right hsz hlen;subst hk;have hmul : (ds.length + ds2.length) * bytes ≤ 1000000000 * 1000 := Nat.mul_le_mul h63 hby;refine wpList_app w0 hgd s x t ho E z sz bytes ht hinfo hzs hsz v ds.length cs hs A ds2.length c news hx (hown.more (Nat.le_refl _) hm) hr (hol.ones hO) he (by unfold maxLen; omega) (by omega) ?_;intro v' w' ho' he' hg hbl;refine h v' w' ⟨cs ++ news, fp ++ f2, by rw [List.length_append]; exact ho', ?_, ?_, ?_⟩ he'
 · have hne : ∀ b ∈ fp ++ f2, v.ownBlock ≠ some b := by
    intro b hm' e
    rcases List.mem_append.1 hm' with h1 | h1
    · exact (List.nodup_append.1 hn).2.2 b (by simp [e]) b h1 rfl
    · have h2 := hown.2 b e
      have h3 := hb2 b h1;omega
   refine OL.append (hl.keep hK fun b hbm hbs => ?_) (hol.keep hK fun b hbm hbs => ?_)
   · exact hg.block b hbs (fun e => hne b (by simp [hbm]) e.symm)
   · exact hg.block b hbs (fun e => hne b (by simp [hbm]) e.symm)
 · have hd := List.nodup_append.1 hn
   have h12 : (fp ++ f2).Nodup := List.nodup_append.2 ⟨hd.2.1, hn2, fun p hp q hq => by have h1 := hb p hp; have h2 := hb2 q hq; omega⟩;refine List.nodup_append.2 ⟨by cases v'.ownBlock <;> simp, h12, fun p hp q hq e => ?_⟩;subst e
   have hp : v'.ownBlock = some p := by simpa using hp
   rcases hbl with hbl | hbl
   · rw [hbl] at hp
     rcases List.mem_append.1 hq with h1 | h1
     · exact hd.2.2 p (by simp [hp]) p h1 rfl
     · have h2 := hown.2 p hp
       have h3 := hb2 p h1;omega
   · rw [hbl] at hp
     cases hp
     rcases List.mem_append.1 hq with h1 | h1
     · have := hb _ h1; omega
     · have := hb2 _ h1; omega
 · intro b hm'
   have hz : w.heap.size ≤ w'.heap.size := hg.size;have hz0 := he.size
   rcases List.mem_append.1 hm' with h1 | h1
   · have := hb b h1; omega
   · have := hb2 b h1
     exact ⟨by omega, by omega⟩
theorem row_one (W : World) (E sz g : Nat) (cs : List Value) (hg : g = W.heap.size) (h : cs.length = sz) : Row (W.alloc (.cells cs.toArray E)) sz (some ⟨g, 0, none⟩) 1 cs := row_newN W E sz 1 g cs hg (by omega)
theorem putS : (∀ (a : Act) (d : Tmp) (v : Value), Act.put a (some d) v = { a with tmps := a.tmps.setIfInBounds d v }) ∧ (∀ (a : Act) (v : Value), Act.put a none v = a) ∧ (∀ (l : List Value) (i : Nat) (x : Value), l.toArray.setIfInBounds i x = (l.set i x).toArray) ∧ (∀ (x y : Value) (l : List Value), (x :: l).set 0 y = y :: l) ∧ (∀ (x y : Value) (l : List Value) (n : Nat), (x :: l).set (n + 1) y = x :: l.set n y) :=
 ⟨fun _ _ _ => rfl, fun _ _ => rfl, fun l i x => List.setIfInBounds_toArray l i x, fun _ _ _ => rfl, fun _ _ _ _ => rfl⟩
theorem xo {p : Prop} (h : p := by first | omega | (simp only [List.length_cons, List.length_nil]; omega)) : p := h
theorem xw {E sz lo hi n : Nat} {w w' : World} {v : Value} {cs : List Value} (h : Own E sz lo hi w v n cs) (k : Own E sz lo hi w v n cs → Own E sz lo hi w' v n cs := by (intro hx; repeat (first | (with_reducible exact hx) | (with_reducible refine Own.alloc ?_ _) | (with_reducible refine Own.setCell (p := _) ?_ (.inl ?ge) _; case ge => (first | omega | (dsimp only; omega) | (simp only [World.size_setCell]; omega) | (simp only [World.size_alloc]; omega))) | (with_reducible refine Own.ext ?_ (by with_reducible assumption) ?ge; case ge => (first | omega | (dsimp only; omega) | (simp only [World.size_setCell]; omega) | (simp only [World.size_alloc]; omega)))))) : Own E sz lo hi w' v n cs := k h
end Go.Proofs.YtmopmgaeiokfjaaGreat
