/- The plain law of FnBooks: what AddSegment and UsableSegments leave. No conditions. -/
import Derived.Test.YtmopmgaeiokfjaaGreatGL16k
import Derived.Test.YtmopmgaeiokfjaaGreatGL16e
import Derived.Test.YtmopmgaeiokfjaaGreatL15d
namespace Go.Proofs.YtmopmgaeiokfjaaGreat
open Go.RowKit
set_option linter.unusedVariables false
theorem bookSeg_snoc (l : List DSegment) (s : DSegment) : hasSeg (l ++ [s]) s = true := by
 unfold hasSeg;rw [List.any_append];simp
theorem dbPut_has (t : DTopology) (k : DSegmentDatabase) (s : DSegment) : hasSegment (dbPut t k s) s = true := by
 unfold dbPut hasSegment;split
 · rw [bookSeg_snoc]; rfl
 · rw [bookSeg_snoc, Bool.or_true]
theorem dbPut_count (t : DTopology) (k : DSegmentDatabase) (s : DSegment) : segCount (dbPut t k s) = segCount k + 1 := by
 unfold dbPut segCount;split <;> (dsimp only; rw [List.length_append, List.length_singleton]; omega)
theorem book_has {t : DTopology} {k : DSegmentDatabase} {s : DSegment} (h1 : validSeg t s = true) (h2 : isTerm s = true) : hasSegment (addSeg t k s) s = true := by
 unfold addSeg;rw [h1, h2, Bool.true_and, Bool.true_and];cases h : hasSegment k s
 · rw [if_pos (by simp)]; exact dbPut_has t k s
 · rw [if_neg (by simp)]; exact h
theorem book_not {t : DTopology} {k : DSegmentDatabase} {s : DSegment} (h : (validSeg t s && isTerm s) = false) : addSeg t k s = k := by
 unfold addSeg;rw [← Bool.and_assoc, h, Bool.false_and, if_neg (by simp)]
theorem book_twice {t : DTopology} {k : DSegmentDatabase} {s : DSegment} (h : hasSegment k s = true) : addSeg t k s = k := by
 unfold addSeg;rw [h, Bool.not_true, Bool.and_false, Bool.and_false, if_neg (by simp)]
theorem book_count (t : DTopology) (k : DSegmentDatabase) (s : DSegment) : segCount (addSeg t k s) ≤ segCount k + 1 := by
 unfold addSeg;split
 · exact Int.le_of_eq (dbPut_count t k s)
 · omega
theorem filter_all {α : Type} (p : α → Bool) (l : List α) : (l.filter p).all p = true := by
 rw [List.all_eq_true];exact fun x hx => (List.mem_filter.1 hx).2
theorem book_usable (t : DTopology) (x : DSegmentDatabase) (now : Int) : dbUsable t (usableDb t x now) now = true := by
 unfold dbUsable usableDb usableOf;dsimp only;rw [filter_all, filter_all]; rfl
theorem book_least (t : DTopology) (x : DSegmentDatabase) (now : Int) : segCount (usableDb t x now) ≤ segCount x := by
 unfold segCount usableDb usableOf;dsimp only;have h1 := List.length_filter_le (useB t 2 now) x.down;have h2 := List.length_filter_le (useB t 1 now) x.core;omega
theorem book_utot (t : DTopology) (x : DSegmentDatabase) (now : Int) : dbTot (usableDb t x now) ≤ dbTot x := by
 unfold dbTot usableDb usableOf;dsimp only
 have h (p : DSegment → Bool) (l : List DSegment) : segTot (l.filter p) ≤ segTot l := by
  unfold segTot totS
  induction l with
  | nil => simp
  | cons a l ih =>
    rw [List.filter_cons];split
    · simp only [List.length_cons, List.map_cons, List.sum_cons]; omega
    · simp only [List.length_cons, List.map_cons, List.sum_cons]; omega
 have h1 := h (useB t 2 now) x.down;have h2 := h (useB t 1 now) x.core;omega
def FewB (n : Nat) (x : DSegmentDatabase) : Prop := (x.down.length + x.core.length ≤ n) ∧ (∀ s ∈ x.down, s.hops.length ≤ 5) ∧ ∀ s ∈ x.core, s.hops.length ≤ 5
theorem segTot_few {l : List DSegment} (h : ∀ s ∈ l, s.hops.length ≤ 5) : segTot l ≤ 6 * l.length := by
 have h1 := totS_le (fun u : DSegment => u.hops.length) 5 l h;unfold segTot;omega
theorem FewB.tot {n : Nat} {x : DSegmentDatabase} (h : FewB n x) : dbTot x ≤ 6 * n := by
 have h1 := segTot_few h.2.1;have h2 := segTot_few h.2.2;have h3 := h.1;unfold dbTot;omega
theorem db_len {x : DSegmentDatabase} {n : Nat} (h : dbTot x ≤ n) : x.down.length + x.core.length ≤ n := by
 have h1 := totS_len (fun u : DSegment => u.hops.length) x.down;have h2 := totS_len (fun u : DSegment => u.hops.length) x.core;have h3 : segTot x.down + segTot x.core ≤ n := h;unfold segTot at h3;omega
theorem FewB.add {n : Nat} {x : DSegmentDatabase} (h : FewB n x) (t : DTopology) (s : DSegment) (hs : s.hops.length ≤ 5) : FewB (n + 1) (addSeg t x s) := by
 obtain ⟨h1, h2, h3⟩ := h
 have hm {l : List DSegment} (hl : ∀ s ∈ l, s.hops.length ≤ 5) : ∀ u ∈ l ++ [s], u.hops.length ≤ 5 := fun u hu => by
  rcases List.mem_append.1 hu with hu | hu
  · exact hl u hu
  · have : u = s := by simpa using hu
    subst this; exact hs
 unfold addSeg;split
 · unfold dbPut
   split
   · exact ⟨by dsimp only; rw [List.length_append, List.length_singleton]; omega, hm h2, h3⟩
   · exact ⟨by dsimp only; rw [List.length_append, List.length_singleton]; omega, h2, hm h3⟩
 · exact ⟨by omega, h2, h3⟩
theorem FewB.swap {n : Nat} {x : DSegmentDatabase} (h : FewB n x) : FewB n ⟨x.core, x.down⟩ := ⟨by have := h.1; dsimp only; omega, h.2.2, h.2.1⟩
theorem FewB.set0 {n : Nat} {x : DSegmentDatabase} (h : FewB n x) {s : DSegment} (hs : s.hops.length ≤ 5) : FewB n ⟨x.down.set 0 s, x.core⟩ := by
 refine ⟨by rw [List.length_set]; exact h.1, fun u hu => ?_, h.2.2⟩
 rcases List.mem_or_eq_of_mem_set hu with hu | rfl
 · exact h.2.1 u hu
 · exact hs
end Go.Proofs.YtmopmgaeiokfjaaGreat
