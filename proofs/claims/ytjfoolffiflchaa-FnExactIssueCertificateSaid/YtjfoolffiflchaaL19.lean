/- Contracts of the program's and the reference's functions on certificates: CertificateData. -/
import Derived.Test.YtjfoolffiflchaaL03
import Derived.Test.YtjfoolffiflchaaHCertificate
namespace Go.Proofs.Ytjfoolffiflchaa
open Go.RowKit
set_option linter.unusedVariables false
def certData (x : DCertificate) : List Int := [x.asn, x.keyDigest, x.rootVersion, x.notBefore, x.notAfter]
set_option maxRecDepth 100000 in
set_option maxHeartbeats 1000000 in
theorem impl_CertificateData (x : DCertificate) (w : World) :
    Calls Try.prog 93 #[.agg #[I x.asn, I x.keyDigest, I x.rootVersion, I x.notBefore, I x.notAfter, I x.sig.asn, I x.sig.value]] w fun e w' => ∃ v', e = .returned v' ∧ IntSO w.heap.size w'.heap.size w' v' (certData x) ∧ Ext w w' := by
  go_enter Try.func93, Try.ntmps93
  go_wp2
  go_ret
  refine ⟨_, rfl, ?_, (by repeat (first | (with_reducible exact Ext.refl _) | (with_reducible assumption) | (with_reducible refine Ext.alloc ?_ _) | (with_reducible refine Ext.drew ?_) | (with_reducible refine Ext.drewN ?_ _) | (with_reducible refine Ext.setCell (p := _) ?_ ?ge _; case ge => (dsimp only; omega)) | (with_reducible refine Ext.trans ?_ (by with_reducible assumption))))⟩
  refine Own.of_blk (cs := (certData x).map I) ?_ rfl (by unfold maxLen; simp) (by simp) (by simp)
  unfold Blk
  rw [← World.size_alloc]
  exact heap_alloc_new _ _
set_option maxRecDepth 100000 in
set_option maxHeartbeats 1000000 in
theorem spec_CertificateData (x : DCertificate) (w : World) :
    Calls Try.prog 90 #[.agg #[I x.asn, I x.keyDigest, I x.rootVersion, I x.notBefore, I x.notAfter, I x.sig.asn, I x.sig.value]] w fun e w' => ∃ v', e = .returned v' ∧ IntSO w.heap.size w'.heap.size w' v' (certData x) ∧ Ext w w' := by
  go_enter Try.func90, Try.ntmps90
  go_wp2
  go_ret
  refine ⟨_, rfl, ?_, (by repeat (first | (with_reducible exact Ext.refl _) | (with_reducible assumption) | (with_reducible refine Ext.alloc ?_ _) | (with_reducible refine Ext.drew ?_) | (with_reducible refine Ext.drewN ?_ _) | (with_reducible refine Ext.setCell (p := _) ?_ ?ge _; case ge => (dsimp only; omega)) | (with_reducible refine Ext.trans ?_ (by with_reducible assumption))))⟩
  refine Own.of_blk (cs := (certData x).map I) ?_ rfl (by unfold maxLen; simp) (by simp) (by simp)
  unfold Blk
  rw [← World.size_alloc]
  exact heap_alloc_new _ _
end Go.Proofs.Ytjfoolffiflchaa
