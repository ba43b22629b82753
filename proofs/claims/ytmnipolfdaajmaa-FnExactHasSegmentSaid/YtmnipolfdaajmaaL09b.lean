/- Contracts of the program's and the reference's functions on segments: EqualSegments, and lists of them. -/
import Derived.Test.YtmnipolfdaajmaaL09
import Derived.Test.YtmnipolfdaajmaaHSegment
namespace Go.Proofs.Ytmnipolfdaajmaa
open Go.RowKit
set_option linter.unusedVariables false
set_option maxRecDepth 100000 in
set_option maxHeartbeats 1000000 in
theorem impl_EqualSegments (v1 v2 : Value) (x y : DSegment) (w : World) (g1 : SegmentV w.heap.size w v1 x) (g2 : SegmentV w.heap.size w v2 y) :
    Calls Try.prog 127 #[v1, v2] w fun e w' => e = .returned (.bool (decide (x = y))) ∧ Ext w w' := by
  obtain ⟨A1, n1, c1, rfl, s1⟩ := g1
  obtain ⟨A2, n2, c2, rfl, s2⟩ := g2
  have S1 := Lib.hid s1; clear s1
  have S2 := Lib.hid s2; clear s2
  have HQ : Hid (x = y ↔ x.ts = y.ts ∧ x.beta = y.beta ∧ x.hops = y.hops) := DSegment.eq_iff
  by_cases h2 : x.ts = y.ts
  · have b2 : (x.ts == y.ts) = true := by simp [h2]
    by_cases h3 : x.beta = y.beta
    · have b3 : (x.beta == y.beta) = true := by simp [h3]
      have HF : Hid (decide (x = y) = decide (x.hops = y.hops)) := by unfold Hid; simp [HQ.out, h2, h3]
      clear h2 h3 HQ
      go_enter Try.func127, Try.ntmps127
      go_wp2_with fail
      refine (impl_equalHopLists _ _ x.hops y.hops _ (by exact S1.out.ext (by repeat (first | (with_reducible exact Ext.refl _) | (with_reducible assumption) | (with_reducible refine Ext.alloc ?_ _) | (with_reducible refine Ext.drew ?_) | (with_reducible refine Ext.drewN ?_ _) | (with_reducible refine Ext.setCell (p := _) ?_ ?ge _; case ge => (dsimp only; omega)) | (with_reducible refine Ext.trans ?_ (by with_reducible assumption))))) (by exact S2.out.ext (by repeat (first | (with_reducible exact Ext.refl _) | (with_reducible assumption) | (with_reducible refine Ext.alloc ?_ _) | (with_reducible refine Ext.drew ?_) | (with_reducible refine Ext.drewN ?_ _) | (with_reducible refine Ext.setCell (p := _) ?_ ?ge _; case ge => (dsimp only; omega)) | (with_reducible refine Ext.trans ?_ (by with_reducible assumption)))))).mono ?_
      rintro e w1 ⟨rfl, he⟩
      go_wp2_with fail
      go_ret
      exact ⟨ret_bool HF.out.symm, (by repeat (first | (with_reducible exact Ext.refl _) | (with_reducible assumption) | (with_reducible refine Ext.alloc ?_ _) | (with_reducible refine Ext.drew ?_) | (with_reducible refine Ext.drewN ?_ _) | (with_reducible refine Ext.setCell (p := _) ?_ ?ge _; case ge => (dsimp only; omega)) | (with_reducible refine Ext.trans ?_ (by with_reducible assumption))))⟩
    · have b3 : (x.beta == y.beta) = false := by simp [h3]
      have HF : Hid (decide (x = y) = false) := by unfold Hid; simp [HQ.out, h3]
      clear h2 h3 HQ
      go_enter Try.func127, Try.ntmps127
      go_wp2_with fail
      go_ret
      exact ⟨ret_bool HF.out.symm, (by repeat (first | (with_reducible exact Ext.refl _) | (with_reducible assumption) | (with_reducible refine Ext.alloc ?_ _) | (with_reducible refine Ext.drew ?_) | (with_reducible refine Ext.drewN ?_ _) | (with_reducible refine Ext.setCell (p := _) ?_ ?ge _; case ge => (dsimp only; omega)) | (with_reducible refine Ext.trans ?_ (by with_reducible assumption))))⟩
  · have b2 : (x.ts == y.ts) = false := by simp [h2]
    have HF : Hid (decide (x = y) = false) := by unfold Hid; simp [HQ.out, h2]
    clear h2 HQ
    go_enter Try.func127, Try.ntmps127
    go_wp2_with fail
    go_ret
    exact ⟨ret_bool HF.out.symm, (by repeat (first | (with_reducible exact Ext.refl _) | (with_reducible assumption) | (with_reducible refine Ext.alloc ?_ _) | (with_reducible refine Ext.drew ?_) | (with_reducible refine Ext.drewN ?_ _) | (with_reducible refine Ext.setCell (p := _) ?_ ?ge _; case ge => (dsimp only; omega)) | (with_reducible refine Ext.trans ?_ (by with_reducible assumption))))⟩
set_option maxRecDepth 100000 in
set_option maxHeartbeats 1000000 in
theorem spec_EqualSegments (v1 v2 : Value) (x y : DSegment) (w : World) (g1 : SegmentV w.heap.size w v1 x) (g2 : SegmentV w.heap.size w v2 y) :
    Calls Try.prog 126 #[v1, v2] w fun e w' => e = .returned (.bool (decide (x = y))) ∧ Ext w w' := by
  obtain ⟨A1, n1, c1, rfl, s1⟩ := g1
  obtain ⟨A2, n2, c2, rfl, s2⟩ := g2
  have S1 := Lib.hid s1; clear s1
  have S2 := Lib.hid s2; clear s2
  have HQ : Hid (x = y ↔ x.ts = y.ts ∧ x.beta = y.beta ∧ x.hops = y.hops) := DSegment.eq_iff
  by_cases h2 : x.ts = y.ts
  · have b2 : (x.ts == y.ts) = true := by simp [h2]
    by_cases h3 : x.beta = y.beta
    · have b3 : (x.beta == y.beta) = true := by simp [h3]
      have HF : Hid (decide (x = y) = decide (x.hops = y.hops)) := by unfold Hid; simp [HQ.out, h2, h3]
      clear h2 h3 HQ
      go_enter Try.func126, Try.ntmps126
      go_wp2_with fail
      refine (spec_l9SameHops _ _ x.hops y.hops _ (by exact S1.out.ext (by repeat (first | (with_reducible exact Ext.refl _) | (with_reducible assumption) | (with_reducible refine Ext.alloc ?_ _) | (with_reducible refine Ext.drew ?_) | (with_reducible refine Ext.drewN ?_ _) | (with_reducible refine Ext.setCell (p := _) ?_ ?ge _; case ge => (dsimp only; omega)) | (with_reducible refine Ext.trans ?_ (by with_reducible assumption))))) (by exact S2.out.ext (by repeat (first | (with_reducible exact Ext.refl _) | (with_reducible assumption) | (with_reducible refine Ext.alloc ?_ _) | (with_reducible refine Ext.drew ?_) | (with_reducible refine Ext.drewN ?_ _) | (with_reducible refine Ext.setCell (p := _) ?_ ?ge _; case ge => (dsimp only; omega)) | (with_reducible refine Ext.trans ?_ (by with_reducible assumption)))))).mono ?_
      rintro e w1 ⟨rfl, he⟩
      go_wp2_with fail
      go_ret
      exact ⟨ret_bool HF.out.symm, (by repeat (first | (with_reducible exact Ext.refl _) | (with_reducible assumption) | (with_reducible refine Ext.alloc ?_ _) | (with_reducible refine Ext.drew ?_) | (with_reducible refine Ext.drewN ?_ _) | (with_reducible refine Ext.setCell (p := _) ?_ ?ge _; case ge => (dsimp only; omega)) | (with_reducible refine Ext.trans ?_ (by with_reducible assumption))))⟩
    · have b3 : (x.beta == y.beta) = false := by simp [h3]
      have HF : Hid (decide (x = y) = false) := by unfold Hid; simp [HQ.out, h3]
      clear h2 h3 HQ
      go_enter Try.func126, Try.ntmps126
      go_wp2_with fail
      go_ret
      exact ⟨ret_bool HF.out.symm, (by repeat (first | (with_reducible exact Ext.refl _) | (with_reducible assumption) | (with_reducible refine Ext.alloc ?_ _) | (with_reducible refine Ext.drew ?_) | (with_reducible refine Ext.drewN ?_ _) | (with_reducible refine Ext.setCell (p := _) ?_ ?ge _; case ge => (dsimp only; omega)) | (with_reducible refine Ext.trans ?_ (by with_reducible assumption))))⟩
  · have b2 : (x.ts == y.ts) = false := by simp [h2]
    have HF : Hid (decide (x = y) = false) := by unfold Hid; simp [HQ.out, h2]
    clear h2 HQ
    go_enter Try.func126, Try.ntmps126
    go_wp2_with fail
    go_ret
    exact ⟨ret_bool HF.out.symm, (by repeat (first | (with_reducible exact Ext.refl _) | (with_reducible assumption) | (with_reducible refine Ext.alloc ?_ _) | (with_reducible refine Ext.drew ?_) | (with_reducible refine Ext.drewN ?_ _) | (with_reducible refine Ext.setCell (p := _) ?_ ?ge _; case ge => (dsimp only; omega)) | (with_reducible refine Ext.trans ?_ (by with_reducible assumption))))⟩
end Go.Proofs.Ytmnipolfdaajmaa
