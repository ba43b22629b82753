/- Contracts of the program's and the reference's functions on certificates: CertificateData. -/
import Derived.Test.YtddaodemdkjijaaGreatGL0
import Derived.Test.YtddaodemdkjijaaGreatGHR
namespace Go.Proofs.YtddaodemdkjijaaGreat
open Go.RowKit
set_option linter.unusedVariables false
def certData (x : DCertificate) : List Int := [x.asn, x.keyDigest, x.rootVersion, x.notBefore, x.notAfter]
set_option maxRecDepth 100000 in
set_option maxHeartbeats 1000000 in
theorem impl_CertificateData (x : DCertificate) (w : World) :
    Calls Tryz.prog 128 #[.agg #[I x.asn, I x.keyDigest, I x.rootVersion, I x.notBefore, I x.notAfter, I x.sig.asn, I x.sig.value]] w fun e w' => ∃ v', e = .returned v' ∧ IntSO w.heap.size w'.heap.size w' v' (certData x) ∧ Ext w w' := by
  go_enter Tryz.func128, Tryz.ntmps128
  go_wp2
  go_ret
  refine ⟨_, rfl, ?_, xe⟩
  refine Own.of_blk (cs := (certData x).map I) ?_ rfl (by unfold maxLen; simp) (by simp) (by simp)
  unfold Blk
  rw [← World.size_alloc]
  exact heap_alloc_new _ _
set_option maxRecDepth 100000 in
set_option maxHeartbeats 1000000 in
theorem spec_CertificateData (x : DCertificate) (w : World) :
    Calls Tryz.prog 88 #[.agg #[I x.asn, I x.keyDigest, I x.rootVersion, I x.notBefore, I x.notAfter, I x.sig.asn, I x.sig.value]] w fun e w' => ∃ v', e = .returned v' ∧ IntSO w.heap.size w'.heap.size w' v' (certData x) ∧ Ext w w' := by
  go_enter Tryz.func88, Tryz.ntmps88
  go_wp2
  go_ret
  refine ⟨_, rfl, ?_, xe⟩
  refine Own.of_blk (cs := (certData x).map I) ?_ rfl (by unfold maxLen; simp) (by simp) (by simp)
  unfold Blk
  rw [← World.size_alloc]
  exact heap_alloc_new _ _
end Go.Proofs.YtddaodemdkjijaaGreat
