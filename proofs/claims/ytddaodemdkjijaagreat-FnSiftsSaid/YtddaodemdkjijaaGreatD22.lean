/- Contracts of the reference's draws of a segment: DrawSegment, DrawSignSegment, DrawSignedData. The given slice holds bytes. -/
import Derived.Test.YtddaodemdkjijaaGreatD21
namespace Go.Proofs.YtddaodemdkjijaaGreat
open Go.RowKit
set_option linter.unusedVariables false
theorem SegmentO.kp {lo hi m : Nat} {a b : World} {v : Value} {t : DSegment} (h : SegmentO lo hi a v t) (hk : Kp m a b) (hm : m ≤ lo) (hh : hi ≤ a.heap.size) : SegmentV b.heap.size b v t :=
  SegmentO_rd (h.keep fun k h1 _ _ => hk.same k (by omega)) (by rw [hk.size]; exact hh)
theorem SegmentO.dw {lo hi g l m : Nat} {w w' : World} {v : Value} {t : DSegment} (h : SegmentO lo hi w v t) (hd : DW g l m w w') (hg : g < lo) (hm : m ≤ lo) : SegmentO lo hi w' v t := h.keep fun k h1 _ h3 => hd.block k h3 (by omega) (.inr (by omega))
theorem SegmentO.d {lo hi g : Nat} {w w' : World} {v : Value} {t : DSegment} (h : SegmentO lo hi w v t) (hd : D g w w') (hg : g < lo) : SegmentO lo hi w' v t := h.keep fun k h1 _ h3 => hd.block h3 (by omega)
theorem len3 {cs : List Value} (h : cs.length = 3) : ∃ x y z, cs = [x, y, z] := by
  rcases cs with _ | ⟨x, _ | ⟨y, _ | ⟨z, _ | ⟨u, cs⟩⟩⟩⟩ <;> simp at h
  exact ⟨x, y, z, rfl⟩
end Go.Proofs.YtddaodemdkjijaaGreat
