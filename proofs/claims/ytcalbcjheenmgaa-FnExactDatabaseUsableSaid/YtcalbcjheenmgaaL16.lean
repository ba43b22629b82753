/- Contracts of the program's and the reference's functions on the segment database. -/
import Derived.Test.YtcalbcjheenmgaaL09
import Derived.Test.YtcalbcjheenmgaaHSegmentDatabase
namespace Go.Proofs.Ytcalbcjheenmgaa
open Go.RowKit
set_option linter.unusedVariables false
def segCount (x : DSegmentDatabase) : Int := x.down.length + x.core.length
set_option maxRecDepth 100000 in
set_option maxHeartbeats 1000000 in
theorem impl_SegmentCount (v : Value) (x : DSegmentDatabase) (w : World) (h : SegmentDatabaseV w.heap.size w v x) (hn : x.down.length + x.core.length ≤ 1000000000) :
    Calls Try.prog 111 #[v] w fun e w' => e = .returned (I (segCount x)) ∧ Ext w w' := by
  obtain ⟨A0, n0, c0, A1, n1, c1, rfl, s0, s1⟩ := h
  obtain ⟨hl0, _, _⟩ := s0.len
  obtain ⟨hl1, _, _⟩ := s1.len
  subst hl0
  subst hl1
  clear s0 s1
  go_enter Try.func111, Try.ntmps111
  go_wp2
  go_ret
  exact ⟨rfl, (by repeat (first | (with_reducible exact Ext.refl _) | (with_reducible assumption) | (with_reducible refine Ext.alloc ?_ _) | (with_reducible refine Ext.drew ?_) | (with_reducible refine Ext.drewN ?_ _) | (with_reducible refine Ext.setCell (p := _) ?_ ?ge _; case ge => (dsimp only; omega)) | (with_reducible refine Ext.trans ?_ (by with_reducible assumption))))⟩
end Go.Proofs.Ytcalbcjheenmgaa
