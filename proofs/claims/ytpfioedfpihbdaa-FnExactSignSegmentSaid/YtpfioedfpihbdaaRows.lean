/-
  No cell of these rows narrows 'for every input' (looked for: loops, veiled, ifaces, maps, wideKeys, modest, calm, conditions, laid).
  DERIVED. THE GIVEN ROWS OF THIS SEAT. 11 by the template 'for every input the law returns true; each argument reads behind the call as it read before'; 0 by the template 'total and deterministic' (their statements: YtpfioedfpihbdaaTotals.lean).
  GIVEN WITH THE SEED: the statements are not yours to turn. If you find one false, say at which input.
  Laid BY PROGRAM, IN A SANDBOX (cutbox-rows.mjs): the forced cells as the released guide's own fill.sh prints them over the translation 8c77d6a4a9906fc7… (all of the seat's roots in one cut). By AI agents, Wed Nov 11 2026. No macro, syntax, notation, axiom, sorry.
-/
import Derived.Test.YtpfioedfpihbdaaChecked
import GoSem.Claim
import GoSem.ClaimJoined
import GoSem.ClaimMapViews
import Derived.JoinedTies
import Derived.KernelRfl
namespace Go.Proofs.Ytpfioedfpihbdaa
/- THE CELL 'sum', in the pinned program and in every row, IS THE sha256 OF THE DUMP (.gsa) THAT YtpfioedfpihbdaaProg.lean LOADS. Nothing in Lean hashes anything: it is a label: what it is worth is what the hold of that sum in a sandbox is worth. -/
noncomputable def Try.pinned : Pinned := { name := "ytpfioedfpihbdaa", sum := "8c77d6a4a9906fc729e2feef608fc3d1f1dbf9807c152efce089aa6164e0061d", checked := Try.checked }
namespace Rows
def none {H : Type} : Left H := { results := [], args := [] }

/-- 'laws.FnExactFormatRoot': WHATEVER THE INPUT: true; the input reads as it did. -/
def fnExactFormatRootSpec : ChangeSpec := { name := "fnExactFormatRoot", fn := fun _ => fun
  | [d] => { results := [.lit (.bool true)], args := [d] }
  | _ => none }
def fnExactFormatRootRow : OpenClaim := { program := "ytpfioedfpihbdaa", sum := "8c77d6a4a9906fc729e2feef608fc3d1f1dbf9807c152efce089aa6164e0061d", func := "loop.example/g00505/laws.FnExactFormatRoot", spec := "fnExactFormatRoot", apart := false }
def FnExactFormatRootSaid : Prop := fnExactFormatRootRow.holds Try.pinned (OpenSpec.ofChange fnExactFormatRootSpec)

/-- ITS FALSE NEIGHBOUR: 'it returns false'. Refute it at one input. -/
def fnExactFormatRootWrong : ChangeSpec := { name := "fnExactFormatRoot", fn := fun _ => fun
  | [d] => { results := [.lit (.bool false)], args := [d] }
  | _ => none }
def FnExactFormatRootWrongFalsely : Prop := fnExactFormatRootRow.holds Try.pinned (OpenSpec.ofChange fnExactFormatRootWrong)

/-- 'laws.FnExactFormatCertificate': WHATEVER THE INPUT: true; the input reads as it did. -/
def fnExactFormatCertificateSpec : ChangeSpec := { name := "fnExactFormatCertificate", fn := fun _ => fun
  | [d1, d2] => { results := [.lit (.bool true)], args := [d1, d2] }
  | _ => none }
def fnExactFormatCertificateRow : OpenClaim := { program := "ytpfioedfpihbdaa", sum := "8c77d6a4a9906fc729e2feef608fc3d1f1dbf9807c152efce089aa6164e0061d", func := "loop.example/g00505/laws.FnExactFormatCertificate", spec := "fnExactFormatCertificate", apart := false }
def FnExactFormatCertificateSaid : Prop := fnExactFormatCertificateRow.holds Try.pinned (OpenSpec.ofChange fnExactFormatCertificateSpec)

/-- ITS FALSE NEIGHBOUR: 'it returns false'. Refute it at one input. -/
def fnExactFormatCertificateWrong : ChangeSpec := { name := "fnExactFormatCertificate", fn := fun _ => fun
  | [d1, d2] => { results := [.lit (.bool false)], args := [d1, d2] }
  | _ => none }
def FnExactFormatCertificateWrongFalsely : Prop := fnExactFormatCertificateRow.holds Try.pinned (OpenSpec.ofChange fnExactFormatCertificateWrong)

/-- 'laws.FnExactMakePart': WHATEVER THE INPUT: true; the input reads as it did. -/
def fnExactMakePartSpec : ChangeSpec := { name := "fnExactMakePart", fn := fun _ => fun
  | [d1, d2, d3] => { results := [.lit (.bool true)], args := [d1, d2, d3] }
  | _ => none }
def fnExactMakePartRow : OpenClaim := { program := "ytpfioedfpihbdaa", sum := "8c77d6a4a9906fc729e2feef608fc3d1f1dbf9807c152efce089aa6164e0061d", func := "loop.example/g00505/laws.FnExactMakePart", spec := "fnExactMakePart", apart := false }
def FnExactMakePartSaid : Prop := fnExactMakePartRow.holds Try.pinned (OpenSpec.ofChange fnExactMakePartSpec)

/-- ITS FALSE NEIGHBOUR: 'it returns false'. Refute it at one input. -/
def fnExactMakePartWrong : ChangeSpec := { name := "fnExactMakePart", fn := fun _ => fun
  | [d1, d2, d3] => { results := [.lit (.bool false)], args := [d1, d2, d3] }
  | _ => none }
def FnExactMakePartWrongFalsely : Prop := fnExactMakePartRow.holds Try.pinned (OpenSpec.ofChange fnExactMakePartWrong)

/-- 'laws.FnExactTruncateSigned': WHATEVER THE INPUT: true; the input reads as it did. -/
def fnExactTruncateSignedSpec : ChangeSpec := { name := "fnExactTruncateSigned", fn := fun _ => fun
  | [d1, d2] => { results := [.lit (.bool true)], args := [d1, d2] }
  | _ => none }
def fnExactTruncateSignedRow : OpenClaim := { program := "ytpfioedfpihbdaa", sum := "8c77d6a4a9906fc729e2feef608fc3d1f1dbf9807c152efce089aa6164e0061d", func := "loop.example/g00505/laws.FnExactTruncateSigned", spec := "fnExactTruncateSigned", apart := false }
def FnExactTruncateSignedSaid : Prop := fnExactTruncateSignedRow.holds Try.pinned (OpenSpec.ofChange fnExactTruncateSignedSpec)

/-- ITS FALSE NEIGHBOUR: 'it returns false'. Refute it at one input. -/
def fnExactTruncateSignedWrong : ChangeSpec := { name := "fnExactTruncateSigned", fn := fun _ => fun
  | [d1, d2] => { results := [.lit (.bool false)], args := [d1, d2] }
  | _ => none }
def FnExactTruncateSignedWrongFalsely : Prop := fnExactTruncateSignedRow.holds Try.pinned (OpenSpec.ofChange fnExactTruncateSignedWrong)

/-- 'laws.FnExactFirstBadSignature': WHATEVER THE INPUT: true; the input reads as it did. -/
def fnExactFirstBadSignatureSpec : ChangeSpec := { name := "fnExactFirstBadSignature", fn := fun _ => fun
  | [d1, d2] => { results := [.lit (.bool true)], args := [d1, d2] }
  | _ => none }
def fnExactFirstBadSignatureRow : OpenClaim := { program := "ytpfioedfpihbdaa", sum := "8c77d6a4a9906fc729e2feef608fc3d1f1dbf9807c152efce089aa6164e0061d", func := "loop.example/g00505/laws.FnExactFirstBadSignature", spec := "fnExactFirstBadSignature", apart := false }
def FnExactFirstBadSignatureSaid : Prop := fnExactFirstBadSignatureRow.holds Try.pinned (OpenSpec.ofChange fnExactFirstBadSignatureSpec)

/-- ITS FALSE NEIGHBOUR: 'it returns false'. Refute it at one input. -/
def fnExactFirstBadSignatureWrong : ChangeSpec := { name := "fnExactFirstBadSignature", fn := fun _ => fun
  | [d1, d2] => { results := [.lit (.bool false)], args := [d1, d2] }
  | _ => none }
def FnExactFirstBadSignatureWrongFalsely : Prop := fnExactFirstBadSignatureRow.holds Try.pinned (OpenSpec.ofChange fnExactFirstBadSignatureWrong)

/-- 'laws.FnExactSignSegment': WHATEVER THE INPUT: true; the input reads as it did. -/
def fnExactSignSegmentSpec : ChangeSpec := { name := "fnExactSignSegment", fn := fun _ => fun
  | [d1, d2] => { results := [.lit (.bool true)], args := [d1, d2] }
  | _ => none }
def fnExactSignSegmentRow : OpenClaim := { program := "ytpfioedfpihbdaa", sum := "8c77d6a4a9906fc729e2feef608fc3d1f1dbf9807c152efce089aa6164e0061d", func := "loop.example/g00505/laws.FnExactSignSegment", spec := "fnExactSignSegment", apart := false }
def FnExactSignSegmentSaid : Prop := fnExactSignSegmentRow.holds Try.pinned (OpenSpec.ofChange fnExactSignSegmentSpec)

/-- ITS FALSE NEIGHBOUR: 'it returns false'. Refute it at one input. -/
def fnExactSignSegmentWrong : ChangeSpec := { name := "fnExactSignSegment", fn := fun _ => fun
  | [d1, d2] => { results := [.lit (.bool false)], args := [d1, d2] }
  | _ => none }
def FnExactSignSegmentWrongFalsely : Prop := fnExactSignSegmentRow.holds Try.pinned (OpenSpec.ofChange fnExactSignSegmentWrong)

/-- 'laws.FnExactDownSegments': WHATEVER THE INPUT: true; the input reads as it did. -/
def fnExactDownSegmentsSpec : ChangeSpec := { name := "fnExactDownSegments", fn := fun _ => fun
  | [d1, d2] => { results := [.lit (.bool true)], args := [d1, d2] }
  | _ => none }
def fnExactDownSegmentsRow : OpenClaim := { program := "ytpfioedfpihbdaa", sum := "8c77d6a4a9906fc729e2feef608fc3d1f1dbf9807c152efce089aa6164e0061d", func := "loop.example/g00505/laws.FnExactDownSegments", spec := "fnExactDownSegments", apart := false }
def FnExactDownSegmentsSaid : Prop := fnExactDownSegmentsRow.holds Try.pinned (OpenSpec.ofChange fnExactDownSegmentsSpec)

/-- ITS FALSE NEIGHBOUR: 'it returns false'. Refute it at one input. -/
def fnExactDownSegmentsWrong : ChangeSpec := { name := "fnExactDownSegments", fn := fun _ => fun
  | [d1, d2] => { results := [.lit (.bool false)], args := [d1, d2] }
  | _ => none }
def FnExactDownSegmentsWrongFalsely : Prop := fnExactDownSegmentsRow.holds Try.pinned (OpenSpec.ofChange fnExactDownSegmentsWrong)

/-- 'laws.FnExactCoreSegments': WHATEVER THE INPUT: true; the input reads as it did. -/
def fnExactCoreSegmentsSpec : ChangeSpec := { name := "fnExactCoreSegments", fn := fun _ => fun
  | [d1, d2, d3] => { results := [.lit (.bool true)], args := [d1, d2, d3] }
  | _ => none }
def fnExactCoreSegmentsRow : OpenClaim := { program := "ytpfioedfpihbdaa", sum := "8c77d6a4a9906fc729e2feef608fc3d1f1dbf9807c152efce089aa6164e0061d", func := "loop.example/g00505/laws.FnExactCoreSegments", spec := "fnExactCoreSegments", apart := false }
def FnExactCoreSegmentsSaid : Prop := fnExactCoreSegmentsRow.holds Try.pinned (OpenSpec.ofChange fnExactCoreSegmentsSpec)

/-- ITS FALSE NEIGHBOUR: 'it returns false'. Refute it at one input. -/
def fnExactCoreSegmentsWrong : ChangeSpec := { name := "fnExactCoreSegments", fn := fun _ => fun
  | [d1, d2, d3] => { results := [.lit (.bool false)], args := [d1, d2, d3] }
  | _ => none }
def FnExactCoreSegmentsWrongFalsely : Prop := fnExactCoreSegmentsRow.holds Try.pinned (OpenSpec.ofChange fnExactCoreSegmentsWrong)

/-- 'laws.FnExactNewBeaconing': WHATEVER THE INPUT: true; the input reads as it did. -/
def fnExactNewBeaconingSpec : ChangeSpec := { name := "fnExactNewBeaconing", fn := fun _ => fun
  | [d1, d2] => { results := [.lit (.bool true)], args := [d1, d2] }
  | _ => none }
def fnExactNewBeaconingRow : OpenClaim := { program := "ytpfioedfpihbdaa", sum := "8c77d6a4a9906fc729e2feef608fc3d1f1dbf9807c152efce089aa6164e0061d", func := "loop.example/g00505/laws.FnExactNewBeaconing", spec := "fnExactNewBeaconing", apart := false }
def FnExactNewBeaconingSaid : Prop := fnExactNewBeaconingRow.holds Try.pinned (OpenSpec.ofChange fnExactNewBeaconingSpec)

/-- ITS FALSE NEIGHBOUR: 'it returns false'. Refute it at one input. -/
def fnExactNewBeaconingWrong : ChangeSpec := { name := "fnExactNewBeaconing", fn := fun _ => fun
  | [d1, d2] => { results := [.lit (.bool false)], args := [d1, d2] }
  | _ => none }
def FnExactNewBeaconingWrongFalsely : Prop := fnExactNewBeaconingRow.holds Try.pinned (OpenSpec.ofChange fnExactNewBeaconingWrong)

/-- 'laws.FnExactDatabaseUsable': WHATEVER THE INPUT: true; the input reads as it did. -/
def fnExactDatabaseUsableSpec : ChangeSpec := { name := "fnExactDatabaseUsable", fn := fun _ => fun
  | [d1, d2, d3] => { results := [.lit (.bool true)], args := [d1, d2, d3] }
  | _ => none }
def fnExactDatabaseUsableRow : OpenClaim := { program := "ytpfioedfpihbdaa", sum := "8c77d6a4a9906fc729e2feef608fc3d1f1dbf9807c152efce089aa6164e0061d", func := "loop.example/g00505/laws.FnExactDatabaseUsable", spec := "fnExactDatabaseUsable", apart := false }
def FnExactDatabaseUsableSaid : Prop := fnExactDatabaseUsableRow.holds Try.pinned (OpenSpec.ofChange fnExactDatabaseUsableSpec)

/-- ITS FALSE NEIGHBOUR: 'it returns false'. Refute it at one input. -/
def fnExactDatabaseUsableWrong : ChangeSpec := { name := "fnExactDatabaseUsable", fn := fun _ => fun
  | [d1, d2, d3] => { results := [.lit (.bool false)], args := [d1, d2, d3] }
  | _ => none }
def FnExactDatabaseUsableWrongFalsely : Prop := fnExactDatabaseUsableRow.holds Try.pinned (OpenSpec.ofChange fnExactDatabaseUsableWrong)

/-- 'laws.FnExactUsableSegments': WHATEVER THE INPUT: true; the input reads as it did. -/
def fnExactUsableSegmentsSpec : ChangeSpec := { name := "fnExactUsableSegments", fn := fun _ => fun
  | [d1, d2, d3] => { results := [.lit (.bool true)], args := [d1, d2, d3] }
  | _ => none }
def fnExactUsableSegmentsRow : OpenClaim := { program := "ytpfioedfpihbdaa", sum := "8c77d6a4a9906fc729e2feef608fc3d1f1dbf9807c152efce089aa6164e0061d", func := "loop.example/g00505/laws.FnExactUsableSegments", spec := "fnExactUsableSegments", apart := false }
def FnExactUsableSegmentsSaid : Prop := fnExactUsableSegmentsRow.holds Try.pinned (OpenSpec.ofChange fnExactUsableSegmentsSpec)

/-- ITS FALSE NEIGHBOUR: 'it returns false'. Refute it at one input. -/
def fnExactUsableSegmentsWrong : ChangeSpec := { name := "fnExactUsableSegments", fn := fun _ => fun
  | [d1, d2, d3] => { results := [.lit (.bool false)], args := [d1, d2, d3] }
  | _ => none }
def FnExactUsableSegmentsWrongFalsely : Prop := fnExactUsableSegmentsRow.holds Try.pinned (OpenSpec.ofChange fnExactUsableSegmentsWrong)

/- THE SECOND FORM. 'bulk': how many values and letters a reading holds, each counted each time it is reached (what is shared counts as often as it is met; a slice's spare places count too). A statement '..UptoSaid' is the law's where the arguments, and the package variables that the reading takes, are together of bulk at most 1048576: NARROWER than '..Said'. Prove '..Said' where nothing that the law and all that it calls make is longer than what came in: it says more and counts as full. Else prove '..UptoSaid'. A law counts once. -/
mutual
def uptoBulk {H : Type} : DataW H → Nat
  | .lit (.string bytes) => bytes.length + 1
  | .lit _ => 1
  | .nil => 1
  | .ptr d => uptoBulk d + 1
  | .slice elems spare => uptoBulkAll elems + uptoBulkAll spare + 1
  | .agg parts => uptoBulkAll parts + 1
  | .iface _ d => uptoBulk d + 1
  | .map entries => uptoBulkEntries entries + 1
  | .held _ => 1
def uptoBulkAll {H : Type} : List (DataW H) → Nat
  | [] => 0
  | d :: r => uptoBulk d + uptoBulkAll r
def uptoBulkEntries {H : Type} : List (Lit × DataW H) → Nat
  | [] => 0
  | x :: r => uptoBulkEntry x + uptoBulkEntries r
def uptoBulkEntry {H : Type} : Lit × DataW H → Nat
  | (.string bytes, d) => bytes.length + uptoBulk d + 1
  | (_, d) => uptoBulk d + 1
 end
def uptoSmall : (H : Type) → List (DataW H) → Bool := fun _ ds => decide (uptoBulkAll ds ≤ 1048576)
def OpenSpec.upto (s : _root_.Go.ChangeSpec) : _root_.Go.OpenSpec := { _root_.Go.OpenSpec.ofChange s with cond := some uptoSmall }

/-- 'laws.FnExactFormatRoot', WHERE WHAT IT READS IS OF BULK AT MOST 1048576: true; the input reads as it did. -/
def fnExactFormatRootUptoRow : OpenClaim := { program := "ytpfioedfpihbdaa", sum := "8c77d6a4a9906fc729e2feef608fc3d1f1dbf9807c152efce089aa6164e0061d", func := "loop.example/g00505/laws.FnExactFormatRoot", spec := "fnExactFormatRoot", apart := false, narrowed := true }
def FnExactFormatRootUptoSaid : Prop := fnExactFormatRootUptoRow.holds Try.pinned (OpenSpec.upto fnExactFormatRootSpec)

/-- 'laws.FnExactFormatCertificate', WHERE WHAT IT READS IS OF BULK AT MOST 1048576: true; the input reads as it did. -/
def fnExactFormatCertificateUptoRow : OpenClaim := { program := "ytpfioedfpihbdaa", sum := "8c77d6a4a9906fc729e2feef608fc3d1f1dbf9807c152efce089aa6164e0061d", func := "loop.example/g00505/laws.FnExactFormatCertificate", spec := "fnExactFormatCertificate", apart := false, narrowed := true }
def FnExactFormatCertificateUptoSaid : Prop := fnExactFormatCertificateUptoRow.holds Try.pinned (OpenSpec.upto fnExactFormatCertificateSpec)

/-- 'laws.FnExactMakePart', WHERE WHAT IT READS IS OF BULK AT MOST 1048576: true; the input reads as it did. -/
def fnExactMakePartUptoRow : OpenClaim := { program := "ytpfioedfpihbdaa", sum := "8c77d6a4a9906fc729e2feef608fc3d1f1dbf9807c152efce089aa6164e0061d", func := "loop.example/g00505/laws.FnExactMakePart", spec := "fnExactMakePart", apart := false, narrowed := true }
def FnExactMakePartUptoSaid : Prop := fnExactMakePartUptoRow.holds Try.pinned (OpenSpec.upto fnExactMakePartSpec)

/-- 'laws.FnExactTruncateSigned', WHERE WHAT IT READS IS OF BULK AT MOST 1048576: true; the input reads as it did. -/
def fnExactTruncateSignedUptoRow : OpenClaim := { program := "ytpfioedfpihbdaa", sum := "8c77d6a4a9906fc729e2feef608fc3d1f1dbf9807c152efce089aa6164e0061d", func := "loop.example/g00505/laws.FnExactTruncateSigned", spec := "fnExactTruncateSigned", apart := false, narrowed := true }
def FnExactTruncateSignedUptoSaid : Prop := fnExactTruncateSignedUptoRow.holds Try.pinned (OpenSpec.upto fnExactTruncateSignedSpec)

/-- 'laws.FnExactFirstBadSignature', WHERE WHAT IT READS IS OF BULK AT MOST 1048576: true; the input reads as it did. -/
def fnExactFirstBadSignatureUptoRow : OpenClaim := { program := "ytpfioedfpihbdaa", sum := "8c77d6a4a9906fc729e2feef608fc3d1f1dbf9807c152efce089aa6164e0061d", func := "loop.example/g00505/laws.FnExactFirstBadSignature", spec := "fnExactFirstBadSignature", apart := false, narrowed := true }
def FnExactFirstBadSignatureUptoSaid : Prop := fnExactFirstBadSignatureUptoRow.holds Try.pinned (OpenSpec.upto fnExactFirstBadSignatureSpec)

/-- 'laws.FnExactSignSegment', WHERE WHAT IT READS IS OF BULK AT MOST 1048576: true; the input reads as it did. -/
def fnExactSignSegmentUptoRow : OpenClaim := { program := "ytpfioedfpihbdaa", sum := "8c77d6a4a9906fc729e2feef608fc3d1f1dbf9807c152efce089aa6164e0061d", func := "loop.example/g00505/laws.FnExactSignSegment", spec := "fnExactSignSegment", apart := false, narrowed := true }
def FnExactSignSegmentUptoSaid : Prop := fnExactSignSegmentUptoRow.holds Try.pinned (OpenSpec.upto fnExactSignSegmentSpec)

/-- 'laws.FnExactDownSegments', WHERE WHAT IT READS IS OF BULK AT MOST 1048576: true; the input reads as it did. -/
def fnExactDownSegmentsUptoRow : OpenClaim := { program := "ytpfioedfpihbdaa", sum := "8c77d6a4a9906fc729e2feef608fc3d1f1dbf9807c152efce089aa6164e0061d", func := "loop.example/g00505/laws.FnExactDownSegments", spec := "fnExactDownSegments", apart := false, narrowed := true }
def FnExactDownSegmentsUptoSaid : Prop := fnExactDownSegmentsUptoRow.holds Try.pinned (OpenSpec.upto fnExactDownSegmentsSpec)

/-- 'laws.FnExactCoreSegments', WHERE WHAT IT READS IS OF BULK AT MOST 1048576: true; the input reads as it did. -/
def fnExactCoreSegmentsUptoRow : OpenClaim := { program := "ytpfioedfpihbdaa", sum := "8c77d6a4a9906fc729e2feef608fc3d1f1dbf9807c152efce089aa6164e0061d", func := "loop.example/g00505/laws.FnExactCoreSegments", spec := "fnExactCoreSegments", apart := false, narrowed := true }
def FnExactCoreSegmentsUptoSaid : Prop := fnExactCoreSegmentsUptoRow.holds Try.pinned (OpenSpec.upto fnExactCoreSegmentsSpec)

/-- 'laws.FnExactNewBeaconing', WHERE WHAT IT READS IS OF BULK AT MOST 1048576: true; the input reads as it did. -/
def fnExactNewBeaconingUptoRow : OpenClaim := { program := "ytpfioedfpihbdaa", sum := "8c77d6a4a9906fc729e2feef608fc3d1f1dbf9807c152efce089aa6164e0061d", func := "loop.example/g00505/laws.FnExactNewBeaconing", spec := "fnExactNewBeaconing", apart := false, narrowed := true }
def FnExactNewBeaconingUptoSaid : Prop := fnExactNewBeaconingUptoRow.holds Try.pinned (OpenSpec.upto fnExactNewBeaconingSpec)

/-- 'laws.FnExactDatabaseUsable', WHERE WHAT IT READS IS OF BULK AT MOST 1048576: true; the input reads as it did. -/
def fnExactDatabaseUsableUptoRow : OpenClaim := { program := "ytpfioedfpihbdaa", sum := "8c77d6a4a9906fc729e2feef608fc3d1f1dbf9807c152efce089aa6164e0061d", func := "loop.example/g00505/laws.FnExactDatabaseUsable", spec := "fnExactDatabaseUsable", apart := false, narrowed := true }
def FnExactDatabaseUsableUptoSaid : Prop := fnExactDatabaseUsableUptoRow.holds Try.pinned (OpenSpec.upto fnExactDatabaseUsableSpec)

/-- 'laws.FnExactUsableSegments', WHERE WHAT IT READS IS OF BULK AT MOST 1048576: true; the input reads as it did. -/
def fnExactUsableSegmentsUptoRow : OpenClaim := { program := "ytpfioedfpihbdaa", sum := "8c77d6a4a9906fc729e2feef608fc3d1f1dbf9807c152efce089aa6164e0061d", func := "loop.example/g00505/laws.FnExactUsableSegments", spec := "fnExactUsableSegments", apart := false, narrowed := true }
def FnExactUsableSegmentsUptoSaid : Prop := fnExactUsableSegmentsUptoRow.holds Try.pinned (OpenSpec.upto fnExactUsableSegmentsSpec)

end Rows
end Go.Proofs.Ytpfioedfpihbdaa
