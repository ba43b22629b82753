/- Contracts of the program's and the reference's functions on trust roots: RootData. -/
import Derived.Test.YtjfoolffiflchaaL17
import Derived.Test.YtjfoolffiflchaaHTrustRoot
namespace Go.Proofs.Ytjfoolffiflchaa
open Go.RowKit
set_option linter.unusedVariables false
def rootData (x : DTrustRoot) : List Int := [x.isd, x.version, x.notBefore, x.notAfter, x.voters, x.quorum]
set_option maxRecDepth 100000 in
set_option maxHeartbeats 1000000 in
theorem impl_RootData (v : Value) (x : DTrustRoot) (w : World) (h : TrustRootV w.heap.size w v x) :
    Calls Try.prog 64 #[v] w fun e w' => ∃ v', e = .returned v' ∧ IntSO w.heap.size w'.heap.size w' v' (rootData x) ∧ Ext w w' := by
  obtain ⟨A, n, c, rfl, -⟩ := h
  go_enter Try.func64, Try.ntmps64
  go_wp2
  go_ret
  refine ⟨_, rfl, ?_, (by repeat (first | (with_reducible exact Ext.refl _) | (with_reducible assumption) | (with_reducible refine Ext.alloc ?_ _) | (with_reducible refine Ext.drew ?_) | (with_reducible refine Ext.drewN ?_ _) | (with_reducible refine Ext.setCell (p := _) ?_ ?ge _; case ge => (dsimp only; omega)) | (with_reducible refine Ext.trans ?_ (by with_reducible assumption))))⟩
  refine Own.of_blk (cs := (rootData x).map I) ?_ rfl (by unfold maxLen; simp) (by simp) (by simp)
  unfold Blk
  rw [← World.size_alloc]
  exact heap_alloc_new _ _
set_option maxRecDepth 100000 in
set_option maxHeartbeats 1000000 in
theorem spec_RootData (v : Value) (x : DTrustRoot) (w : World) (h : TrustRootV w.heap.size w v x) :
    Calls Try.prog 87 #[v] w fun e w' => ∃ v', e = .returned v' ∧ IntSO w.heap.size w'.heap.size w' v' (rootData x) ∧ Ext w w' := by
  obtain ⟨A, n, c, rfl, -⟩ := h
  go_enter Try.func87, Try.ntmps87
  go_wp2
  go_ret
  refine ⟨_, rfl, ?_, (by repeat (first | (with_reducible exact Ext.refl _) | (with_reducible assumption) | (with_reducible refine Ext.alloc ?_ _) | (with_reducible refine Ext.drew ?_) | (with_reducible refine Ext.drewN ?_ _) | (with_reducible refine Ext.setCell (p := _) ?_ ?ge _; case ge => (dsimp only; omega)) | (with_reducible refine Ext.trans ?_ (by with_reducible assumption))))⟩
  refine Own.of_blk (cs := (rootData x).map I) ?_ rfl (by unfold maxLen; simp) (by simp) (by simp)
  unfold Blk
  rw [← World.size_alloc]
  exact heap_alloc_new _ _
end Go.Proofs.Ytjfoolffiflchaa
