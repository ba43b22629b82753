/-
  No cell of these rows narrows 'for every input' (looked for: loops, veiled, ifaces, maps, wideKeys, modest, calm, conditions, laid).
  DERIVED. THE GIVEN ROWS OF THIS SEAT. 12 by the template 'for every input the law returns true; each argument reads behind the call as it read before'; 0 by the template 'total and deterministic' (their statements: YtmnipolfdaajmaaTotals.lean).
  GIVEN WITH THE SEED: the statements are not yours to turn. If you find one false, say at which input.
  Laid BY PROGRAM, IN A SANDBOX (cutbox-rows.mjs): the forced cells as the released guide's own fill.sh prints them over the translation 06746ed02bf853a6… (all of the seat's roots in one cut). By AI agents, Wed Nov 11 2026. No macro, syntax, notation, axiom, sorry.
-/
import Derived.Test.YtmnipolfdaajmaaChecked
import GoSem.Claim
import GoSem.ClaimJoined
import GoSem.ClaimMapViews
import Derived.JoinedTies
import Derived.KernelRfl
namespace Go.Proofs.Ytmnipolfdaajmaa
/- THE CELL 'sum', in the pinned program and in every row, IS THE sha256 OF THE DUMP (.gsa) THAT YtmnipolfdaajmaaProg.lean LOADS. Nothing in Lean hashes anything: it is a label: what it is worth is what the hold of that sum in a sandbox is worth. -/
noncomputable def Try.pinned : Pinned := { name := "ytmnipolfdaajmaa", sum := "06746ed02bf853a62e884e0f6de98bc4105a3042084aaf65d147928260a159f5", checked := Try.checked }
namespace Rows
def none {H : Type} : Left H := { results := [], args := [] }

/-- 'laws.FnExactSignedData': WHATEVER THE INPUT: true; the input reads as it did. -/
def fnExactSignedDataSpec : ChangeSpec := { name := "fnExactSignedData", fn := fun _ => fun
  | [d1, d2] => { results := [.lit (.bool true)], args := [d1, d2] }
  | _ => none }
def fnExactSignedDataRow : OpenClaim := { program := "ytmnipolfdaajmaa", sum := "06746ed02bf853a62e884e0f6de98bc4105a3042084aaf65d147928260a159f5", func := "loop.example/g00505/laws.FnExactSignedData", spec := "fnExactSignedData", apart := false }
def FnExactSignedDataSaid : Prop := fnExactSignedDataRow.holds Try.pinned (OpenSpec.ofChange fnExactSignedDataSpec)

/-- ITS FALSE NEIGHBOUR: 'it returns false'. Refute it at one input. -/
def fnExactSignedDataWrong : ChangeSpec := { name := "fnExactSignedData", fn := fun _ => fun
  | [d1, d2] => { results := [.lit (.bool false)], args := [d1, d2] }
  | _ => none }
def FnExactSignedDataWrongFalsely : Prop := fnExactSignedDataRow.holds Try.pinned (OpenSpec.ofChange fnExactSignedDataWrong)

/-- 'laws.FnExactFormatRoot': WHATEVER THE INPUT: true; the input reads as it did. -/
def fnExactFormatRootSpec : ChangeSpec := { name := "fnExactFormatRoot", fn := fun _ => fun
  | [d] => { results := [.lit (.bool true)], args := [d] }
  | _ => none }
def fnExactFormatRootRow : OpenClaim := { program := "ytmnipolfdaajmaa", sum := "06746ed02bf853a62e884e0f6de98bc4105a3042084aaf65d147928260a159f5", func := "loop.example/g00505/laws.FnExactFormatRoot", spec := "fnExactFormatRoot", apart := false }
def FnExactFormatRootSaid : Prop := fnExactFormatRootRow.holds Try.pinned (OpenSpec.ofChange fnExactFormatRootSpec)

/-- ITS FALSE NEIGHBOUR: 'it returns false'. Refute it at one input. -/
def fnExactFormatRootWrong : ChangeSpec := { name := "fnExactFormatRoot", fn := fun _ => fun
  | [d] => { results := [.lit (.bool false)], args := [d] }
  | _ => none }
def FnExactFormatRootWrongFalsely : Prop := fnExactFormatRootRow.holds Try.pinned (OpenSpec.ofChange fnExactFormatRootWrong)

/-- 'laws.FnExactSignedDataSize': WHATEVER THE INPUT: true; the input reads as it did. -/
def fnExactSignedDataSizeSpec : ChangeSpec := { name := "fnExactSignedDataSize", fn := fun _ => fun
  | [d] => { results := [.lit (.bool true)], args := [d] }
  | _ => none }
def fnExactSignedDataSizeRow : OpenClaim := { program := "ytmnipolfdaajmaa", sum := "06746ed02bf853a62e884e0f6de98bc4105a3042084aaf65d147928260a159f5", func := "loop.example/g00505/laws.FnExactSignedDataSize", spec := "fnExactSignedDataSize", apart := false }
def FnExactSignedDataSizeSaid : Prop := fnExactSignedDataSizeRow.holds Try.pinned (OpenSpec.ofChange fnExactSignedDataSizeSpec)

/-- ITS FALSE NEIGHBOUR: 'it returns false'. Refute it at one input. -/
def fnExactSignedDataSizeWrong : ChangeSpec := { name := "fnExactSignedDataSize", fn := fun _ => fun
  | [d] => { results := [.lit (.bool false)], args := [d] }
  | _ => none }
def FnExactSignedDataSizeWrongFalsely : Prop := fnExactSignedDataSizeRow.holds Try.pinned (OpenSpec.ofChange fnExactSignedDataSizeWrong)

/-- 'laws.FnExactHasSegment': WHATEVER THE INPUT: true; the input reads as it did. -/
def fnExactHasSegmentSpec : ChangeSpec := { name := "fnExactHasSegment", fn := fun _ => fun
  | [d1, d2] => { results := [.lit (.bool true)], args := [d1, d2] }
  | _ => none }
def fnExactHasSegmentRow : OpenClaim := { program := "ytmnipolfdaajmaa", sum := "06746ed02bf853a62e884e0f6de98bc4105a3042084aaf65d147928260a159f5", func := "loop.example/g00505/laws.FnExactHasSegment", spec := "fnExactHasSegment", apart := false }
def FnExactHasSegmentSaid : Prop := fnExactHasSegmentRow.holds Try.pinned (OpenSpec.ofChange fnExactHasSegmentSpec)

/-- ITS FALSE NEIGHBOUR: 'it returns false'. Refute it at one input. -/
def fnExactHasSegmentWrong : ChangeSpec := { name := "fnExactHasSegment", fn := fun _ => fun
  | [d1, d2] => { results := [.lit (.bool false)], args := [d1, d2] }
  | _ => none }
def FnExactHasSegmentWrongFalsely : Prop := fnExactHasSegmentRow.holds Try.pinned (OpenSpec.ofChange fnExactHasSegmentWrong)

/-- 'laws.FnExactVerifySignature': WHATEVER THE INPUT: true; the input reads as it did. -/
def fnExactVerifySignatureSpec : ChangeSpec := { name := "fnExactVerifySignature", fn := fun _ => fun
  | [d1, d2, d3] => { results := [.lit (.bool true)], args := [d1, d2, d3] }
  | _ => none }
def fnExactVerifySignatureRow : OpenClaim := { program := "ytmnipolfdaajmaa", sum := "06746ed02bf853a62e884e0f6de98bc4105a3042084aaf65d147928260a159f5", func := "loop.example/g00505/laws.FnExactVerifySignature", spec := "fnExactVerifySignature", apart := false }
def FnExactVerifySignatureSaid : Prop := fnExactVerifySignatureRow.holds Try.pinned (OpenSpec.ofChange fnExactVerifySignatureSpec)

/-- ITS FALSE NEIGHBOUR: 'it returns false'. Refute it at one input. -/
def fnExactVerifySignatureWrong : ChangeSpec := { name := "fnExactVerifySignature", fn := fun _ => fun
  | [d1, d2, d3] => { results := [.lit (.bool false)], args := [d1, d2, d3] }
  | _ => none }
def FnExactVerifySignatureWrongFalsely : Prop := fnExactVerifySignatureRow.holds Try.pinned (OpenSpec.ofChange fnExactVerifySignatureWrong)

/-- 'laws.FnExactFormatCertificate': WHATEVER THE INPUT: true; the input reads as it did. -/
def fnExactFormatCertificateSpec : ChangeSpec := { name := "fnExactFormatCertificate", fn := fun _ => fun
  | [d1, d2] => { results := [.lit (.bool true)], args := [d1, d2] }
  | _ => none }
def fnExactFormatCertificateRow : OpenClaim := { program := "ytmnipolfdaajmaa", sum := "06746ed02bf853a62e884e0f6de98bc4105a3042084aaf65d147928260a159f5", func := "loop.example/g00505/laws.FnExactFormatCertificate", spec := "fnExactFormatCertificate", apart := false }
def FnExactFormatCertificateSaid : Prop := fnExactFormatCertificateRow.holds Try.pinned (OpenSpec.ofChange fnExactFormatCertificateSpec)

/-- ITS FALSE NEIGHBOUR: 'it returns false'. Refute it at one input. -/
def fnExactFormatCertificateWrong : ChangeSpec := { name := "fnExactFormatCertificate", fn := fun _ => fun
  | [d1, d2] => { results := [.lit (.bool false)], args := [d1, d2] }
  | _ => none }
def FnExactFormatCertificateWrongFalsely : Prop := fnExactFormatCertificateRow.holds Try.pinned (OpenSpec.ofChange fnExactFormatCertificateWrong)

/-- 'laws.FnExactSignAs': WHATEVER THE INPUT: true; the input reads as it did. -/
def fnExactSignAsSpec : ChangeSpec := { name := "fnExactSignAs", fn := fun _ => fun
  | [d1, d2, d3] => { results := [.lit (.bool true)], args := [d1, d2, d3] }
  | _ => none }
def fnExactSignAsRow : OpenClaim := { program := "ytmnipolfdaajmaa", sum := "06746ed02bf853a62e884e0f6de98bc4105a3042084aaf65d147928260a159f5", func := "loop.example/g00505/laws.FnExactSignAs", spec := "fnExactSignAs", apart := false }
def FnExactSignAsSaid : Prop := fnExactSignAsRow.holds Try.pinned (OpenSpec.ofChange fnExactSignAsSpec)

/-- ITS FALSE NEIGHBOUR: 'it returns false'. Refute it at one input. -/
def fnExactSignAsWrong : ChangeSpec := { name := "fnExactSignAs", fn := fun _ => fun
  | [d1, d2, d3] => { results := [.lit (.bool false)], args := [d1, d2, d3] }
  | _ => none }
def FnExactSignAsWrongFalsely : Prop := fnExactSignAsRow.holds Try.pinned (OpenSpec.ofChange fnExactSignAsWrong)

/-- 'laws.FnExactBeaconCount': WHATEVER THE INPUT: true; the input reads as it did. -/
def fnExactBeaconCountSpec : ChangeSpec := { name := "fnExactBeaconCount", fn := fun _ => fun
  | [d] => { results := [.lit (.bool true)], args := [d] }
  | _ => none }
def fnExactBeaconCountRow : OpenClaim := { program := "ytmnipolfdaajmaa", sum := "06746ed02bf853a62e884e0f6de98bc4105a3042084aaf65d147928260a159f5", func := "loop.example/g00505/laws.FnExactBeaconCount", spec := "fnExactBeaconCount", apart := false }
def FnExactBeaconCountSaid : Prop := fnExactBeaconCountRow.holds Try.pinned (OpenSpec.ofChange fnExactBeaconCountSpec)

/-- ITS FALSE NEIGHBOUR: 'it returns false'. Refute it at one input. -/
def fnExactBeaconCountWrong : ChangeSpec := { name := "fnExactBeaconCount", fn := fun _ => fun
  | [d] => { results := [.lit (.bool false)], args := [d] }
  | _ => none }
def FnExactBeaconCountWrongFalsely : Prop := fnExactBeaconCountRow.holds Try.pinned (OpenSpec.ofChange fnExactBeaconCountWrong)

/-- 'laws.FnExactIssueCertificate': WHATEVER THE INPUT: true; the input reads as it did. -/
def fnExactIssueCertificateSpec : ChangeSpec := { name := "fnExactIssueCertificate", fn := fun _ => fun
  | [d1, d2, d3, d4, d5, d6] => { results := [.lit (.bool true)], args := [d1, d2, d3, d4, d5, d6] }
  | _ => none }
def fnExactIssueCertificateRow : OpenClaim := { program := "ytmnipolfdaajmaa", sum := "06746ed02bf853a62e884e0f6de98bc4105a3042084aaf65d147928260a159f5", func := "loop.example/g00505/laws.FnExactIssueCertificate", spec := "fnExactIssueCertificate", apart := false }
def FnExactIssueCertificateSaid : Prop := fnExactIssueCertificateRow.holds Try.pinned (OpenSpec.ofChange fnExactIssueCertificateSpec)

/-- ITS FALSE NEIGHBOUR: 'it returns false'. Refute it at one input. -/
def fnExactIssueCertificateWrong : ChangeSpec := { name := "fnExactIssueCertificate", fn := fun _ => fun
  | [d1, d2, d3, d4, d5, d6] => { results := [.lit (.bool false)], args := [d1, d2, d3, d4, d5, d6] }
  | _ => none }
def FnExactIssueCertificateWrongFalsely : Prop := fnExactIssueCertificateRow.holds Try.pinned (OpenSpec.ofChange fnExactIssueCertificateWrong)

/-- 'laws.FnExactMakePart': WHATEVER THE INPUT: true; the input reads as it did. -/
def fnExactMakePartSpec : ChangeSpec := { name := "fnExactMakePart", fn := fun _ => fun
  | [d1, d2, d3] => { results := [.lit (.bool true)], args := [d1, d2, d3] }
  | _ => none }
def fnExactMakePartRow : OpenClaim := { program := "ytmnipolfdaajmaa", sum := "06746ed02bf853a62e884e0f6de98bc4105a3042084aaf65d147928260a159f5", func := "loop.example/g00505/laws.FnExactMakePart", spec := "fnExactMakePart", apart := false }
def FnExactMakePartSaid : Prop := fnExactMakePartRow.holds Try.pinned (OpenSpec.ofChange fnExactMakePartSpec)

/-- ITS FALSE NEIGHBOUR: 'it returns false'. Refute it at one input. -/
def fnExactMakePartWrong : ChangeSpec := { name := "fnExactMakePart", fn := fun _ => fun
  | [d1, d2, d3] => { results := [.lit (.bool false)], args := [d1, d2, d3] }
  | _ => none }
def FnExactMakePartWrongFalsely : Prop := fnExactMakePartRow.holds Try.pinned (OpenSpec.ofChange fnExactMakePartWrong)

/-- 'laws.FnExactTruncateSigned': WHATEVER THE INPUT: true; the input reads as it did. -/
def fnExactTruncateSignedSpec : ChangeSpec := { name := "fnExactTruncateSigned", fn := fun _ => fun
  | [d1, d2] => { results := [.lit (.bool true)], args := [d1, d2] }
  | _ => none }
def fnExactTruncateSignedRow : OpenClaim := { program := "ytmnipolfdaajmaa", sum := "06746ed02bf853a62e884e0f6de98bc4105a3042084aaf65d147928260a159f5", func := "loop.example/g00505/laws.FnExactTruncateSigned", spec := "fnExactTruncateSigned", apart := false }
def FnExactTruncateSignedSaid : Prop := fnExactTruncateSignedRow.holds Try.pinned (OpenSpec.ofChange fnExactTruncateSignedSpec)

/-- ITS FALSE NEIGHBOUR: 'it returns false'. Refute it at one input. -/
def fnExactTruncateSignedWrong : ChangeSpec := { name := "fnExactTruncateSigned", fn := fun _ => fun
  | [d1, d2] => { results := [.lit (.bool false)], args := [d1, d2] }
  | _ => none }
def FnExactTruncateSignedWrongFalsely : Prop := fnExactTruncateSignedRow.holds Try.pinned (OpenSpec.ofChange fnExactTruncateSignedWrong)

/-- 'laws.FnExactFirstBadSignature': WHATEVER THE INPUT: true; the input reads as it did. -/
def fnExactFirstBadSignatureSpec : ChangeSpec := { name := "fnExactFirstBadSignature", fn := fun _ => fun
  | [d1, d2] => { results := [.lit (.bool true)], args := [d1, d2] }
  | _ => none }
def fnExactFirstBadSignatureRow : OpenClaim := { program := "ytmnipolfdaajmaa", sum := "06746ed02bf853a62e884e0f6de98bc4105a3042084aaf65d147928260a159f5", func := "loop.example/g00505/laws.FnExactFirstBadSignature", spec := "fnExactFirstBadSignature", apart := false }
def FnExactFirstBadSignatureSaid : Prop := fnExactFirstBadSignatureRow.holds Try.pinned (OpenSpec.ofChange fnExactFirstBadSignatureSpec)

/-- ITS FALSE NEIGHBOUR: 'it returns false'. Refute it at one input. -/
def fnExactFirstBadSignatureWrong : ChangeSpec := { name := "fnExactFirstBadSignature", fn := fun _ => fun
  | [d1, d2] => { results := [.lit (.bool false)], args := [d1, d2] }
  | _ => none }
def FnExactFirstBadSignatureWrongFalsely : Prop := fnExactFirstBadSignatureRow.holds Try.pinned (OpenSpec.ofChange fnExactFirstBadSignatureWrong)

/- THE SECOND FORM. 'bulk': how many values and letters a reading holds, each counted each time it is reached (what is shared counts as often as it is met; a slice's spare places count too). A statement '..UptoSaid' is the law's where the arguments, and the package variables that the reading takes, are together of bulk at most 1048576: NARROWER than '..Said'. Prove '..Said' where nothing that the law and all that it calls make is longer than what came in: it says more and counts as full. Else prove '..UptoSaid'. A law counts once. -/
mutual
def uptoBulk {H : Type} : DataW H → Nat
  | .lit (.string bytes) => bytes.length + 1
  | .lit _ => 1
  | .nil => 1
  | .ptr d => uptoBulk d + 1
  | .slice elems spare => uptoBulkAll elems + uptoBulkAll spare + 1
  | .agg parts => uptoBulkAll parts + 1
  | .iface _ d => uptoBulk d + 1
  | .map entries => uptoBulkEntries entries + 1
  | .held _ => 1
def uptoBulkAll {H : Type} : List (DataW H) → Nat
  | [] => 0
  | d :: r => uptoBulk d + uptoBulkAll r
def uptoBulkEntries {H : Type} : List (Lit × DataW H) → Nat
  | [] => 0
  | x :: r => uptoBulkEntry x + uptoBulkEntries r
def uptoBulkEntry {H : Type} : Lit × DataW H → Nat
  | (.string bytes, d) => bytes.length + uptoBulk d + 1
  | (_, d) => uptoBulk d + 1
 end
def uptoSmall : (H : Type) → List (DataW H) → Bool := fun _ ds => decide (uptoBulkAll ds ≤ 1048576)
def OpenSpec.upto (s : _root_.Go.ChangeSpec) : _root_.Go.OpenSpec := { _root_.Go.OpenSpec.ofChange s with cond := some uptoSmall }

/-- 'laws.FnExactSignedData', WHERE WHAT IT READS IS OF BULK AT MOST 1048576: true; the input reads as it did. -/
def fnExactSignedDataUptoRow : OpenClaim := { program := "ytmnipolfdaajmaa", sum := "06746ed02bf853a62e884e0f6de98bc4105a3042084aaf65d147928260a159f5", func := "loop.example/g00505/laws.FnExactSignedData", spec := "fnExactSignedData", apart := false, narrowed := true }
def FnExactSignedDataUptoSaid : Prop := fnExactSignedDataUptoRow.holds Try.pinned (OpenSpec.upto fnExactSignedDataSpec)

/-- 'laws.FnExactFormatRoot', WHERE WHAT IT READS IS OF BULK AT MOST 1048576: true; the input reads as it did. -/
def fnExactFormatRootUptoRow : OpenClaim := { program := "ytmnipolfdaajmaa", sum := "06746ed02bf853a62e884e0f6de98bc4105a3042084aaf65d147928260a159f5", func := "loop.example/g00505/laws.FnExactFormatRoot", spec := "fnExactFormatRoot", apart := false, narrowed := true }
def FnExactFormatRootUptoSaid : Prop := fnExactFormatRootUptoRow.holds Try.pinned (OpenSpec.upto fnExactFormatRootSpec)

/-- 'laws.FnExactSignedDataSize', WHERE WHAT IT READS IS OF BULK AT MOST 1048576: true; the input reads as it did. -/
def fnExactSignedDataSizeUptoRow : OpenClaim := { program := "ytmnipolfdaajmaa", sum := "06746ed02bf853a62e884e0f6de98bc4105a3042084aaf65d147928260a159f5", func := "loop.example/g00505/laws.FnExactSignedDataSize", spec := "fnExactSignedDataSize", apart := false, narrowed := true }
def FnExactSignedDataSizeUptoSaid : Prop := fnExactSignedDataSizeUptoRow.holds Try.pinned (OpenSpec.upto fnExactSignedDataSizeSpec)

/-- 'laws.FnExactHasSegment', WHERE WHAT IT READS IS OF BULK AT MOST 1048576: true; the input reads as it did. -/
def fnExactHasSegmentUptoRow : OpenClaim := { program := "ytmnipolfdaajmaa", sum := "06746ed02bf853a62e884e0f6de98bc4105a3042084aaf65d147928260a159f5", func := "loop.example/g00505/laws.FnExactHasSegment", spec := "fnExactHasSegment", apart := false, narrowed := true }
def FnExactHasSegmentUptoSaid : Prop := fnExactHasSegmentUptoRow.holds Try.pinned (OpenSpec.upto fnExactHasSegmentSpec)

/-- 'laws.FnExactVerifySignature', WHERE WHAT IT READS IS OF BULK AT MOST 1048576: true; the input reads as it did. -/
def fnExactVerifySignatureUptoRow : OpenClaim := { program := "ytmnipolfdaajmaa", sum := "06746ed02bf853a62e884e0f6de98bc4105a3042084aaf65d147928260a159f5", func := "loop.example/g00505/laws.FnExactVerifySignature", spec := "fnExactVerifySignature", apart := false, narrowed := true }
def FnExactVerifySignatureUptoSaid : Prop := fnExactVerifySignatureUptoRow.holds Try.pinned (OpenSpec.upto fnExactVerifySignatureSpec)

/-- 'laws.FnExactFormatCertificate', WHERE WHAT IT READS IS OF BULK AT MOST 1048576: true; the input reads as it did. -/
def fnExactFormatCertificateUptoRow : OpenClaim := { program := "ytmnipolfdaajmaa", sum := "06746ed02bf853a62e884e0f6de98bc4105a3042084aaf65d147928260a159f5", func := "loop.example/g00505/laws.FnExactFormatCertificate", spec := "fnExactFormatCertificate", apart := false, narrowed := true }
def FnExactFormatCertificateUptoSaid : Prop := fnExactFormatCertificateUptoRow.holds Try.pinned (OpenSpec.upto fnExactFormatCertificateSpec)

/-- 'laws.FnExactSignAs', WHERE WHAT IT READS IS OF BULK AT MOST 1048576: true; the input reads as it did. -/
def fnExactSignAsUptoRow : OpenClaim := { program := "ytmnipolfdaajmaa", sum := "06746ed02bf853a62e884e0f6de98bc4105a3042084aaf65d147928260a159f5", func := "loop.example/g00505/laws.FnExactSignAs", spec := "fnExactSignAs", apart := false, narrowed := true }
def FnExactSignAsUptoSaid : Prop := fnExactSignAsUptoRow.holds Try.pinned (OpenSpec.upto fnExactSignAsSpec)

/-- 'laws.FnExactBeaconCount', WHERE WHAT IT READS IS OF BULK AT MOST 1048576: true; the input reads as it did. -/
def fnExactBeaconCountUptoRow : OpenClaim := { program := "ytmnipolfdaajmaa", sum := "06746ed02bf853a62e884e0f6de98bc4105a3042084aaf65d147928260a159f5", func := "loop.example/g00505/laws.FnExactBeaconCount", spec := "fnExactBeaconCount", apart := false, narrowed := true }
def FnExactBeaconCountUptoSaid : Prop := fnExactBeaconCountUptoRow.holds Try.pinned (OpenSpec.upto fnExactBeaconCountSpec)

/-- 'laws.FnExactIssueCertificate', WHERE WHAT IT READS IS OF BULK AT MOST 1048576: true; the input reads as it did. -/
def fnExactIssueCertificateUptoRow : OpenClaim := { program := "ytmnipolfdaajmaa", sum := "06746ed02bf853a62e884e0f6de98bc4105a3042084aaf65d147928260a159f5", func := "loop.example/g00505/laws.FnExactIssueCertificate", spec := "fnExactIssueCertificate", apart := false, narrowed := true }
def FnExactIssueCertificateUptoSaid : Prop := fnExactIssueCertificateUptoRow.holds Try.pinned (OpenSpec.upto fnExactIssueCertificateSpec)

/-- 'laws.FnExactMakePart', WHERE WHAT IT READS IS OF BULK AT MOST 1048576: true; the input reads as it did. -/
def fnExactMakePartUptoRow : OpenClaim := { program := "ytmnipolfdaajmaa", sum := "06746ed02bf853a62e884e0f6de98bc4105a3042084aaf65d147928260a159f5", func := "loop.example/g00505/laws.FnExactMakePart", spec := "fnExactMakePart", apart := false, narrowed := true }
def FnExactMakePartUptoSaid : Prop := fnExactMakePartUptoRow.holds Try.pinned (OpenSpec.upto fnExactMakePartSpec)

/-- 'laws.FnExactTruncateSigned', WHERE WHAT IT READS IS OF BULK AT MOST 1048576: true; the input reads as it did. -/
def fnExactTruncateSignedUptoRow : OpenClaim := { program := "ytmnipolfdaajmaa", sum := "06746ed02bf853a62e884e0f6de98bc4105a3042084aaf65d147928260a159f5", func := "loop.example/g00505/laws.FnExactTruncateSigned", spec := "fnExactTruncateSigned", apart := false, narrowed := true }
def FnExactTruncateSignedUptoSaid : Prop := fnExactTruncateSignedUptoRow.holds Try.pinned (OpenSpec.upto fnExactTruncateSignedSpec)

/-- 'laws.FnExactFirstBadSignature', WHERE WHAT IT READS IS OF BULK AT MOST 1048576: true; the input reads as it did. -/
def fnExactFirstBadSignatureUptoRow : OpenClaim := { program := "ytmnipolfdaajmaa", sum := "06746ed02bf853a62e884e0f6de98bc4105a3042084aaf65d147928260a159f5", func := "loop.example/g00505/laws.FnExactFirstBadSignature", spec := "fnExactFirstBadSignature", apart := false, narrowed := true }
def FnExactFirstBadSignatureUptoSaid : Prop := fnExactFirstBadSignatureUptoRow.holds Try.pinned (OpenSpec.upto fnExactFirstBadSignatureSpec)

end Rows
end Go.Proofs.Ytmnipolfdaajmaa
