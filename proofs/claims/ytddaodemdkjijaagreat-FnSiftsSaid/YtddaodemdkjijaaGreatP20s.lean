/- What the law FnSifts asks, in plain words: what passes the filter is usable; a valid signed segment has a valid chain and no bad signature. No conditions. -/
import Derived.Test.YtddaodemdkjijaaGreatGL20
import Derived.Test.YtddaodemdkjijaaGreatL20e
import Derived.Test.YtddaodemdkjijaaGreatGL20f
namespace Go.Proofs.YtddaodemdkjijaaGreat
open Go.RowKit
set_option linter.unusedVariables false
theorem firstIdx_ge (p : Nat → Bool) (n : Nat) : -1 ≤ firstIdx p n := by
  unfold firstIdx
  split
  · omega
  · exact Int.le_refl _
theorem valid_parts {t : DTopology} {l : List DTrustRoot} {m : List DCertificate} {x : DSignedSegment} {now : Int} (h : signedValid t l m x now = true) : segUsable t x.seg now = true ∧ validChain t l = true ∧ firstBad t x = -1 := by
  unfold signedValid signedHead at h
  simp only [Bool.and_eq_true, decide_eq_true_eq] at h
  have h1 := firstIdx_ge (badSig t x) x.seg.hops.length
  have h2 : firstBad t x < 0 := h.1.2.2.1
  refine ⟨h.1.1, h.1.2.2.2, ?_⟩
  unfold firstBad at h2 ⊢
  omega
theorem sifted_usable {t : DTopology} {l : List DTrustRoot} {m : List DCertificate} {now : Int} {x : List DSignedSegment} : ∀ y ∈ filtSigned t l m x now, segUsable t y now = true := by
  intro y hy
  unfold filtSigned sigdOf at hy
  obtain ⟨s, hs, rfl⟩ := List.mem_map.1 hy
  exact (valid_parts (List.mem_filter.1 hs).2).1
theorem sifted_len {t : DTopology} {l : List DTrustRoot} {m : List DCertificate} {now : Int} {x : List DSignedSegment} : (filtSigned t l m x now).length ≤ x.length := sigdOf_len t l m now x
end Go.Proofs.YtddaodemdkjijaaGreat
