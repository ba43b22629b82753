/- The laws' helpers on SegmentDatabase: to.. (copy), eq.. (compare), sz.. (count), mark.. and held... Printed by gen.py. -/
import Derived.Test.YtmopmgaeiokfjaaGreatGHS
import Derived.Test.YtmopmgaeiokfjaaGreatGCore
import Derived.Test.YtmopmgaeiokfjaaGreatGGrow
namespace Go.Proofs.YtmopmgaeiokfjaaGreat
open Go.RowKit
set_option linter.unusedVariables false
def SegmentDatabaseO (lo hi : Nat) (w : World) (v : Value) (x : DSegmentDatabase) : Prop := ∃ u0 u1 m1, v = .agg #[u0, u1] ∧ SegmentSO lo m1 w u0 x.down ∧ SegmentSO m1 hi w u1 x.core ∧ lo ≤ m1 ∧ m1 ≤ hi
theorem SegmentDatabaseO.v {lo hi : Nat} {w : World} {v : Value} {x : DSegmentDatabase} (h : SegmentDatabaseO lo hi w v x) : SegmentDatabaseV hi w v x := by
 obtain ⟨u0, u1, m1, e, o0, o1, l0, l1⟩ := h
 have s0 := (NO.sl (At := SegmentAt) (pos := fun k => k * 3) o0 (fun _ => rfl) SegmentOC.at_)
 obtain ⟨A0, n0, c0, rfl, _⟩ := id s0
 have s1 := (NO.sl (At := SegmentAt) (pos := fun k => k * 3) o1 (fun _ => rfl) SegmentOC.at_)
 obtain ⟨A1, n1, c1, rfl, _⟩ := id s1;exact ⟨_, _, _, _, _, _, e, s0.keep SegmentAt.keeps (by omega) (fun _ _ => rfl), s1.keep SegmentAt.keeps (by omega) (fun _ _ => rfl)⟩
theorem SegmentDatabaseO_rd {lo hi : Nat} {w : World} {v : Value} {x : DSegmentDatabase} (h : SegmentDatabaseO lo hi w v x) (hhi : hi ≤ w.heap.size) : SegmentDatabaseV w.heap.size w v x := h.v.keep hhi (fun _ _ => rfl)
def dbFp (u0 u1 : Value) (f0 f1 : List Nat) : List Nat := (u0.ownBlock.toList ++ f0) ++ (u1.ownBlock.toList ++ f1)
def SegmentDatabaseQ (lo hi : Nat) (w : World) (v : Value) (x : DSegmentDatabase) : Prop := ∃ u0 cs0 f0 u1 cs1 f1, v = .agg #[u0, u1] ∧ w.ownsRow 0 33 3 u0 x.down.length cs0 ∧ OL SegmentOC 3 w x.down f0 cs0 ∧ w.ownsRow 0 33 3 u1 x.core.length cs1 ∧ OL SegmentOC 3 w x.core f1 cs1 ∧ (dbFp u0 u1 f0 f1).Nodup ∧ (∀ b ∈ dbFp u0 u1 f0 f1, lo ≤ b ∧ b < hi) ∧ lo ≤ hi
section
variable {lo hi : Nat} {w w' : World} {v : Value} {x : DSegmentDatabase}
theorem SegmentDatabaseO.q (h : SegmentDatabaseO lo hi w v x) : SegmentDatabaseQ lo hi w v x := by
 obtain ⟨u0, u1, m1, e, o0, o1, l0, l1⟩ := h;obtain ⟨cs0, f0, r0, l0_, d0, b0'⟩ := o0
 have b0 : ∀ b ∈ u0.ownBlock.toList ++ f0, lo ≤ b ∧ b < m1 := fun b hb => by
  rcases List.mem_append.1 hb with hb | hb
  · exact ⟨(r0.1.lt b (by simpa using hb)).1, r0.2 b (by simpa using hb)⟩
  · exact b0' b hb
 obtain ⟨cs1, f1, r1, l1_, d1, b1'⟩ := o1
 have b1 : ∀ b ∈ u1.ownBlock.toList ++ f1, m1 ≤ b ∧ b < hi := fun b hb => by
  rcases List.mem_append.1 hb with hb | hb
  · exact ⟨(r1.1.lt b (by simpa using hb)).1, r1.2 b (by simpa using hb)⟩
  · exact b1' b hb
 exact ⟨u0, cs0, f0, u1, cs1, f1, e, (r0.more (Nat.zero_le _) (Nat.le_refl _)).1, l0_, (r1.more (Nat.zero_le _) (Nat.le_refl _)).1, l1_, List.nodup_append.2 ⟨d0, d1, fun a ha b hb => by have h1 := b0 a ha; have h2 := b1 b hb; omega⟩, (fun b hb => (List.mem_append.1 hb).elim (fun hb => by have := b0 b hb; omega) (fun hb => by have := b1 b hb; omega)), by omega⟩
theorem SegmentDatabaseQ.keep (h : SegmentDatabaseQ lo hi w v x) (hk : ∀ k, lo ≤ k → k < hi → k < w.heap.size → w'.heap[k]? = w.heap[k]?) : SegmentDatabaseQ lo hi w' v x := by
 obtain ⟨u0, cs0, f0, u1, cs1, f1, e, r0, l0, r1, l1, hn, hb, hl⟩ := h;have hk2 : ∀ b ∈ dbFp u0 u1 f0 f1, b < w.heap.size → w'.heap[b]? = w.heap[b]? := fun b hm hs => hk b (hb b hm).1 (hb b hm).2 hs;exact ⟨u0, cs0, f0, u1, cs1, f1, e, ownsRow_keep r0 (fun b hm => hk2 b (by simp only [dbFp, List.mem_append]; exact .inl (.inl hm))), OL.keep SegmentOC.keeps l0 (fun b hm => hk2 b (by simp only [dbFp, List.mem_append]; exact .inl (.inr hm))), ownsRow_keep r1 (fun b hm => hk2 b (by simp only [dbFp, List.mem_append]; exact .inr (.inl hm))), OL.keep SegmentOC.keeps l1 (fun b hm => hk2 b (by simp only [dbFp, List.mem_append]; exact .inr (.inr hm))), hn, hb, hl⟩
theorem SegmentDatabaseQ.toV (h : SegmentDatabaseQ lo hi w v x) : SegmentDatabaseV hi w v x := by
 obtain ⟨u0, cs0, f0, u1, cs1, f1, e, r0, l0, r1, l1, hn, hb, hl⟩ := h;have s0 : SegmentS hi w u0 x.down := sl_of_OL (At := SegmentAt) r0 l0 (fun b hm => (hb b (by simp only [dbFp, List.mem_append, Option.mem_toList]; exact .inl hm)).2) (fun _ => rfl) SegmentOC.at_;obtain ⟨A0, n0, c0, e0, _⟩ := id s0;subst e0;have s1 : SegmentS hi w u1 x.core := sl_of_OL (At := SegmentAt) r1 l1 (fun b hm => (hb b (by simp only [dbFp, List.mem_append, Option.mem_toList]; exact .inr hm)).2) (fun _ => rfl) SegmentOC.at_;obtain ⟨A1, n1, c1, e1, _⟩ := id s1;subst e1;exact ⟨_, _, _, _, _, _, e, s0, s1⟩
theorem SegmentDatabaseQ.shape (h : SegmentDatabaseQ lo hi w v x) : ∃ A0 n0 c0, ∃ A1 n1 c1, v = .agg #[.slice A0 n0 c0, .slice A1 n1 c1] := by
 obtain ⟨A0, n0, c0, A1, n1, c1, e, _, _⟩ := h.toV;exact ⟨A0, n0, c0, A1, n1, c1, e⟩
theorem SegmentDatabaseQ.ext (h : SegmentDatabaseQ lo hi w v x) (he : Ext w w') (_hhi : hi ≤ w.heap.size) : SegmentDatabaseQ lo hi w' v x := h.keep fun k _ _ h3 => he.same k h3
theorem SegmentDatabaseQ.more {lo' hi' : Nat} (h : SegmentDatabaseQ lo hi w v x) (h1 : lo' ≤ lo) (h2 : hi ≤ hi') : SegmentDatabaseQ lo' hi' w v x := by
 obtain ⟨u0, cs0, f0, u1, cs1, f1, e, r0, l0, r1, l1, hn, hb, hl⟩ := h;exact ⟨u0, cs0, f0, u1, cs1, f1, e, r0, l0, r1, l1, hn, fun b hm => ⟨by have := (hb b hm).1; omega, by have := (hb b hm).2; omega⟩, by omega⟩
theorem SegmentDatabaseQ.up (h : SegmentDatabaseQ lo w.heap.size w v x) (he : Ext w w') : SegmentDatabaseQ lo w'.heap.size w' v x := (h.ext he (Nat.le_refl _)).more (Nat.le_refl _) he.size
theorem SegmentDatabaseQ.setT {g : Nat} {cs' : List Value} (h : SegmentDatabaseQ lo hi w v x) (hb' : Blk w g 30 cs') (i : Nat) (u : Value) : SegmentDatabaseQ lo hi (w.setCell ⟨g, i, none⟩ u) v x := by
 obtain ⟨u0, cs0, f0, u1, cs1, f1, e, r0, l0, r1, l1, hn, hb, hl⟩ := h;have n0 : g ∉ u0.ownBlock.toList := ownsRow_typed r0 hb' (by decide);have n1 : g ∉ u1.ownBlock.toList := ownsRow_typed r1 hb' (by decide);have m0 : g ∉ f0 := OL.typed (SegmentOC.typed _ (by decide)) hb' l0;have m1 : g ∉ f1 := OL.typed (SegmentOC.typed _ (by decide)) hb' l1;have hk : ∀ b, b ≠ g → (w.setCell ⟨g, i, none⟩ u).heap[b]? = w.heap[b]? := fun b hne => Below.heap_setCell _ _ _ _ hne;exact ⟨u0, cs0, f0, u1, cs1, f1, e, ownsRow_keep r0 (fun b hm _ => hk b (fun e => n0 (e ▸ hm))), OL.keep SegmentOC.keeps l0 (fun b hm _ => hk b (fun e => m0 (e ▸ hm))), ownsRow_keep r1 (fun b hm _ => hk b (fun e => n1 (e ▸ hm))), OL.keep SegmentOC.keeps l1 (fun b hm _ => hk b (fun e => m1 (e ▸ hm))), hn, hb, hl⟩
theorem SegmentDatabaseQ_rd (h : SegmentDatabaseQ lo hi w v x) (hhi : hi ≤ w.heap.size) : SegmentDatabaseV w.heap.size w v x := h.toV.keep hhi (fun _ _ => rfl)
theorem SegmentDatabaseQ.nil (lo hi : Nat) (w : World) (h : lo ≤ hi) : SegmentDatabaseQ lo hi w (.agg #[.slice none 0 0, .slice none 0 0]) ⟨[], []⟩ :=
 ⟨_, [], [], _, [], [], rfl, World.ownsRow_nil w 0 _ 3, ⟨rfl, rfl⟩, World.ownsRow_nil w 0 _ 3, ⟨rfl, rfl⟩, by simp [dbFp, Value.ownBlock], fun b hm => by simp [dbFp, Value.ownBlock] at hm, h⟩
end
end Go.Proofs.YtmopmgaeiokfjaaGreat
