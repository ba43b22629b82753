/- Contracts of the reference's draws of a signed segment: DrawFirstBadSignature, DrawTruncateSigned. The given slice holds bytes. -/
import Derived.Test.YtddaodemdkjijaaGreatD25
namespace Go.Proofs.YtddaodemdkjijaaGreat
open Go.RowKit
set_option linter.unusedVariables false
theorem SignedL.dw {lo g l m : Nat} {W W' : World} {v : Value} {x : DSignedSegment} (h : SignedL lo W v x) (hd : DW g l m W W') (hg : g < lo) (hm : m ≤ lo) : SignedL lo W' v x := by
  obtain ⟨A2, c2, A3, c3, e, o2, o3⟩ := h
  exact ⟨A2, c2, A3, c3, e, Own.dwUp o2 hd hg hm, Own.dwUp o3 hd hg hm⟩
theorem len4 {cs : List Value} (h : cs.length = 4) : ∃ x y z u, cs = [x, y, z, u] := by
  rcases cs with _ | ⟨x, _ | ⟨y, _ | ⟨z, _ | ⟨u, _ | ⟨v, cs⟩⟩⟩⟩⟩ <;> simp at h
  exact ⟨x, y, z, u, rfl⟩
end Go.Proofs.YtddaodemdkjijaaGreat
