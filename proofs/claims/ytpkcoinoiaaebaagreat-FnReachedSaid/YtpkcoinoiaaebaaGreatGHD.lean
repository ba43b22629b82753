/- The laws' helpers on SegmentDatabase: to.. (copy), eq.. (compare), sz.. (count), mark.. and held... Printed by gen.py. -/
import Derived.Test.YtpkcoinoiaaebaaGreatGHS
import Derived.Test.YtpkcoinoiaaebaaGreatGCore
import Derived.Test.YtpkcoinoiaaebaaGreatGGrow
namespace Go.Proofs.YtpkcoinoiaaebaaGreat
open Go.RowKit
set_option linter.unusedVariables false
def SegmentDatabaseO (lo hi : Nat) (w : World) (v : Value) (x : DSegmentDatabase) : Prop := ∃ u0 u1 m1, v = .agg #[u0, u1] ∧ SegmentSO lo m1 w u0 x.down ∧ SegmentSO m1 hi w u1 x.core ∧ lo ≤ m1 ∧ m1 ≤ hi
theorem SegmentDatabaseO.keep {lo hi : Nat} {w w' : World} {v : Value} {x : DSegmentDatabase} (h : SegmentDatabaseO lo hi w v x) (hk : ∀ k, lo ≤ k → k < hi → k < w.heap.size → w'.heap[k]? = w.heap[k]?) : SegmentDatabaseO lo hi w' v x := by
  obtain ⟨u0, u1, m1, e, o0, o1, l0, l1⟩ := h
  exact ⟨u0, u1, m1, e, SegmentSO_keep o0 (fun k h1 h2 h3 => hk k (by omega) (by omega) h3), SegmentSO_keep o1 (fun k h1 h2 h3 => hk k (by omega) (by omega) h3), l0, l1⟩
theorem SegmentDatabaseO.v {lo hi : Nat} {w : World} {v : Value} {x : DSegmentDatabase} (h : SegmentDatabaseO lo hi w v x) : SegmentDatabaseV hi w v x := by
  obtain ⟨u0, u1, m1, e, o0, o1, l0, l1⟩ := h
  have s0 := (NO.sl (At := SegmentAt) (pos := fun k => k * 3) o0 (fun _ => rfl) SegmentOC.at_)
  obtain ⟨A0, n0, c0, rfl, _⟩ := id s0
  have s1 := (NO.sl (At := SegmentAt) (pos := fun k => k * 3) o1 (fun _ => rfl) SegmentOC.at_)
  obtain ⟨A1, n1, c1, rfl, _⟩ := id s1
  exact ⟨_, _, _, _, _, _, e, s0.keep SegmentAt.keeps (by omega) (fun _ _ => rfl), s1.keep SegmentAt.keeps (by omega) (fun _ _ => rfl)⟩
theorem SegmentDatabaseO.shape {lo hi : Nat} {w : World} {v : Value} {x : DSegmentDatabase} (h : SegmentDatabaseO lo hi w v x) : ∃ A0 n0 c0, ∃ A1 n1 c1, v = .agg #[.slice A0 n0 c0, .slice A1 n1 c1] := by
  obtain ⟨A0, n0, c0, A1, n1, c1, e, _, _⟩ := h.v
  exact ⟨A0, n0, c0, A1, n1, c1, e⟩
theorem SegmentDatabaseO.ext {lo hi : Nat} {w w' : World} {v : Value} {x : DSegmentDatabase} (h : SegmentDatabaseO lo hi w v x) (he : Ext w w') (hhi : hi ≤ w.heap.size) : SegmentDatabaseO lo hi w' v x := h.keep fun k _ _ h3 => he.same k h3
theorem SegmentDatabaseO.drew {lo hi : Nat} {w : World} {v : Value} {x : DSegmentDatabase} (h : SegmentDatabaseO lo hi w v x) : SegmentDatabaseO lo hi w.drew v x := h.keep fun _ _ _ _ => rfl
theorem SegmentDatabaseO.out {lo hi lo' hi' : Nat} {w w' : World} {v : Value} {x : DSegmentDatabase} (h : SegmentDatabaseO lo hi w v x) (ho : Out lo' hi' w w') (hd : hi' ≤ lo ∨ hi ≤ lo') : SegmentDatabaseO lo hi w' v x := h.keep fun k h1 h2 h3 => ho.block k h3 (by omega)
theorem SegmentDatabaseO.more {lo hi lo' hi' : Nat} {w : World} {v : Value} {x : DSegmentDatabase} (h : SegmentDatabaseO lo hi w v x) (h1 : lo' ≤ lo) (h2 : hi ≤ hi') : SegmentDatabaseO lo' hi' w v x := by
  obtain ⟨u0, u1, m1, e, o0, o1, l0, l1⟩ := h
  exact ⟨u0, u1, m1, e, NO.more o0 h1 (Nat.le_refl _), NO.more o1 (Nat.le_refl _) h2, by omega, by omega⟩
theorem SegmentDatabaseO.up {lo : Nat} {w w' : World} {v : Value} {x : DSegmentDatabase} (h : SegmentDatabaseO lo w.heap.size w v x) (he : Ext w w') : SegmentDatabaseO lo w'.heap.size w' v x := (h.ext he (Nat.le_refl _)).more (Nat.le_refl _) he.size
theorem SegmentDatabaseO.setT {lo hi g : Nat} {w : World} {v : Value} {x : DSegmentDatabase} {cs' : List Value} (h : SegmentDatabaseO lo hi w v x) (hb : Blk w g 37 cs') (i : Nat) (u : Value) : SegmentDatabaseO lo hi (w.setCell ⟨g, i, none⟩ u) v x := by
  obtain ⟨u0, u1, m1, e, o0, o1, l0, l1⟩ := h
  exact ⟨u0, u1, m1, e, NO.setT SegmentOC.keeps (SegmentOC.typed _ (by decide)) o0 hb (by decide) i u, NO.setT SegmentOC.keeps (SegmentOC.typed _ (by decide)) o1 hb (by decide) i u, l0, l1⟩
end Go.Proofs.YtpkcoinoiaaebaaGreat
namespace Go.Proofs.YtpkcoinoiaaebaaGreat
open Go.RowKit
set_option linter.unusedVariables false
def dbFp (u0 u1 : Value) (f0 f1 : List Nat) : List Nat := (u0.ownBlock.toList ++ f0) ++ (u1.ownBlock.toList ++ f1)
def SegmentDatabaseQ (lo hi : Nat) (w : World) (v : Value) (x : DSegmentDatabase) : Prop := ∃ u0 cs0 f0 u1 cs1 f1, v = .agg #[u0, u1] ∧ w.ownsRow 0 57 3 u0 x.down.length cs0 ∧ OL SegmentOC 3 w x.down f0 cs0 ∧ w.ownsRow 0 57 3 u1 x.core.length cs1 ∧ OL SegmentOC 3 w x.core f1 cs1 ∧ (dbFp u0 u1 f0 f1).Nodup ∧ (∀ b ∈ dbFp u0 u1 f0 f1, lo ≤ b ∧ b < hi) ∧ lo ≤ hi
section
variable {lo hi : Nat} {w w' : World} {v : Value} {x : DSegmentDatabase}
theorem SegmentDatabaseQ.keep (h : SegmentDatabaseQ lo hi w v x) (hk : ∀ k, lo ≤ k → k < hi → k < w.heap.size → w'.heap[k]? = w.heap[k]?) : SegmentDatabaseQ lo hi w' v x := by
  obtain ⟨u0, cs0, f0, u1, cs1, f1, e, r0, l0, r1, l1, hn, hb, hl⟩ := h
  have hk2 : ∀ b ∈ dbFp u0 u1 f0 f1, b < w.heap.size → w'.heap[b]? = w.heap[b]? := fun b hm hs => hk b (hb b hm).1 (hb b hm).2 hs
  exact ⟨u0, cs0, f0, u1, cs1, f1, e, ownsRow_keep r0 (fun b hm => hk2 b (by simp only [dbFp, List.mem_append]; exact .inl (.inl hm))), OL.keep SegmentOC.keeps l0 (fun b hm => hk2 b (by simp only [dbFp, List.mem_append]; exact .inl (.inr hm))), ownsRow_keep r1 (fun b hm => hk2 b (by simp only [dbFp, List.mem_append]; exact .inr (.inl hm))), OL.keep SegmentOC.keeps l1 (fun b hm => hk2 b (by simp only [dbFp, List.mem_append]; exact .inr (.inr hm))), hn, hb, hl⟩
theorem SegmentDatabaseQ.toV (h : SegmentDatabaseQ lo hi w v x) : SegmentDatabaseV hi w v x := by
  obtain ⟨u0, cs0, f0, u1, cs1, f1, e, r0, l0, r1, l1, hn, hb, hl⟩ := h
  have s0 : SegmentS hi w u0 x.down := sl_of_OL (At := SegmentAt) r0 l0 (fun b hm => (hb b (by simp only [dbFp, List.mem_append, Option.mem_toList]; exact .inl hm)).2) (fun _ => rfl) SegmentOC.at_
  obtain ⟨A0, n0, c0, e0, _⟩ := id s0
  subst e0
  have s1 : SegmentS hi w u1 x.core := sl_of_OL (At := SegmentAt) r1 l1 (fun b hm => (hb b (by simp only [dbFp, List.mem_append, Option.mem_toList]; exact .inr hm)).2) (fun _ => rfl) SegmentOC.at_
  obtain ⟨A1, n1, c1, e1, _⟩ := id s1
  subst e1
  exact ⟨_, _, _, _, _, _, e, s0, s1⟩
theorem SegmentDatabaseQ.shape (h : SegmentDatabaseQ lo hi w v x) : ∃ A0 n0 c0, ∃ A1 n1 c1, v = .agg #[.slice A0 n0 c0, .slice A1 n1 c1] := by
  obtain ⟨A0, n0, c0, A1, n1, c1, e, _, _⟩ := h.toV
  exact ⟨A0, n0, c0, A1, n1, c1, e⟩
theorem SegmentDatabaseQ.ext (h : SegmentDatabaseQ lo hi w v x) (he : Ext w w') (_hhi : hi ≤ w.heap.size) : SegmentDatabaseQ lo hi w' v x := h.keep fun k _ _ h3 => he.same k h3
theorem SegmentDatabaseQ.drew (h : SegmentDatabaseQ lo hi w v x) : SegmentDatabaseQ lo hi w.drew v x := h.keep fun _ _ _ _ => rfl
theorem SegmentDatabaseQ.out {lo' hi' : Nat} (h : SegmentDatabaseQ lo hi w v x) (ho : Out lo' hi' w w') (hd : hi' ≤ lo ∨ hi ≤ lo') : SegmentDatabaseQ lo hi w' v x := h.keep fun k h1 h2 h3 => ho.block k h3 (by omega)
theorem SegmentDatabaseQ.more {lo' hi' : Nat} (h : SegmentDatabaseQ lo hi w v x) (h1 : lo' ≤ lo) (h2 : hi ≤ hi') : SegmentDatabaseQ lo' hi' w v x := by
  obtain ⟨u0, cs0, f0, u1, cs1, f1, e, r0, l0, r1, l1, hn, hb, hl⟩ := h
  exact ⟨u0, cs0, f0, u1, cs1, f1, e, r0, l0, r1, l1, hn, fun b hm => ⟨by have := (hb b hm).1; omega, by have := (hb b hm).2; omega⟩, by omega⟩
theorem SegmentDatabaseQ.up (h : SegmentDatabaseQ lo w.heap.size w v x) (he : Ext w w') : SegmentDatabaseQ lo w'.heap.size w' v x := (h.ext he (Nat.le_refl _)).more (Nat.le_refl _) he.size
theorem SegmentDatabaseQ.setT {g : Nat} {cs' : List Value} (h : SegmentDatabaseQ lo hi w v x) (hb' : Blk w g 37 cs') (i : Nat) (u : Value) : SegmentDatabaseQ lo hi (w.setCell ⟨g, i, none⟩ u) v x := by
  obtain ⟨u0, cs0, f0, u1, cs1, f1, e, r0, l0, r1, l1, hn, hb, hl⟩ := h
  have n0 : g ∉ u0.ownBlock.toList := ownsRow_typed r0 hb' (by decide)
  have n1 : g ∉ u1.ownBlock.toList := ownsRow_typed r1 hb' (by decide)
  have m0 : g ∉ f0 := OL.typed (SegmentOC.typed _ (by decide)) hb' l0
  have m1 : g ∉ f1 := OL.typed (SegmentOC.typed _ (by decide)) hb' l1
  have hk : ∀ b, b ≠ g → (w.setCell ⟨g, i, none⟩ u).heap[b]? = w.heap[b]? := fun b hne => Below.heap_setCell _ _ _ _ hne
  exact ⟨u0, cs0, f0, u1, cs1, f1, e, ownsRow_keep r0 (fun b hm _ => hk b (fun e => n0 (e ▸ hm))), OL.keep SegmentOC.keeps l0 (fun b hm _ => hk b (fun e => m0 (e ▸ hm))), ownsRow_keep r1 (fun b hm _ => hk b (fun e => n1 (e ▸ hm))), OL.keep SegmentOC.keeps l1 (fun b hm _ => hk b (fun e => m1 (e ▸ hm))), hn, hb, hl⟩
theorem SegmentDatabaseQ.nil (lo hi : Nat) (w : World) (h : lo ≤ hi) : SegmentDatabaseQ lo hi w (.agg #[.slice none 0 0, .slice none 0 0]) ⟨[], []⟩ :=
  ⟨_, [], [], _, [], [], rfl, World.ownsRow_nil w 0 _ 3, ⟨rfl, rfl⟩, World.ownsRow_nil w 0 _ 3, ⟨rfl, rfl⟩, by simp [dbFp, Value.ownBlock], fun b hm => by simp [dbFp, Value.ownBlock] at hm, h⟩
end
end Go.Proofs.YtpkcoinoiaaebaaGreat

