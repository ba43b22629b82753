/-
  No cell of these rows narrows 'for every input' (looked for: loops, veiled, ifaces, maps, wideKeys, modest, calm, conditions, laid).
  DERIVED. THE GIVEN ROWS OF THIS SEAT. 8 by the template 'for every input the law returns true; each argument reads behind the call as it read before'; 0 by the template 'total and deterministic' (their statements: YtcalbcjheenmgaaTotals.lean).
  GIVEN WITH THE SEED: the statements are not yours to turn. If you find one false, say at which input.
  Laid BY PROGRAM, IN A SANDBOX (cutbox-rows.mjs): the forced cells as the released guide's own fill.sh prints them over the translation a47b082b35600b98… (all of the seat's roots in one cut). By AI agents, Wed Nov 11 2026. No macro, syntax, notation, axiom, sorry.
-/
import Derived.Test.YtcalbcjheenmgaaChecked
import GoSem.Claim
import GoSem.ClaimJoined
import GoSem.ClaimMapViews
import Derived.JoinedTies
import Derived.KernelRfl
namespace Go.Proofs.Ytcalbcjheenmgaa
/- THE CELL 'sum', in the pinned program and in every row, IS THE sha256 OF THE DUMP (.gsa) THAT YtcalbcjheenmgaaProg.lean LOADS. Nothing in Lean hashes anything: it is a label: what it is worth is what the hold of that sum in a sandbox is worth. -/
noncomputable def Try.pinned : Pinned := { name := "ytcalbcjheenmgaa", sum := "a47b082b35600b987e946fd9d3b10877e9e08802ea36e8f197cb3ff6735dbd91", checked := Try.checked }
namespace Rows
def none {H : Type} : Left H := { results := [], args := [] }

/-- 'laws.FnExactMakePart': WHATEVER THE INPUT: true; the input reads as it did. -/
def fnExactMakePartSpec : ChangeSpec := { name := "fnExactMakePart", fn := fun _ => fun
  | [d1, d2, d3] => { results := [.lit (.bool true)], args := [d1, d2, d3] }
  | _ => none }
def fnExactMakePartRow : OpenClaim := { program := "ytcalbcjheenmgaa", sum := "a47b082b35600b987e946fd9d3b10877e9e08802ea36e8f197cb3ff6735dbd91", func := "loop.example/g00505/laws.FnExactMakePart", spec := "fnExactMakePart", apart := false }
def FnExactMakePartSaid : Prop := fnExactMakePartRow.holds Try.pinned (OpenSpec.ofChange fnExactMakePartSpec)

/-- ITS FALSE NEIGHBOUR: 'it returns false'. Refute it at one input. -/
def fnExactMakePartWrong : ChangeSpec := { name := "fnExactMakePart", fn := fun _ => fun
  | [d1, d2, d3] => { results := [.lit (.bool false)], args := [d1, d2, d3] }
  | _ => none }
def FnExactMakePartWrongFalsely : Prop := fnExactMakePartRow.holds Try.pinned (OpenSpec.ofChange fnExactMakePartWrong)

/-- 'laws.FnExactTruncateSigned': WHATEVER THE INPUT: true; the input reads as it did. -/
def fnExactTruncateSignedSpec : ChangeSpec := { name := "fnExactTruncateSigned", fn := fun _ => fun
  | [d1, d2] => { results := [.lit (.bool true)], args := [d1, d2] }
  | _ => none }
def fnExactTruncateSignedRow : OpenClaim := { program := "ytcalbcjheenmgaa", sum := "a47b082b35600b987e946fd9d3b10877e9e08802ea36e8f197cb3ff6735dbd91", func := "loop.example/g00505/laws.FnExactTruncateSigned", spec := "fnExactTruncateSigned", apart := false }
def FnExactTruncateSignedSaid : Prop := fnExactTruncateSignedRow.holds Try.pinned (OpenSpec.ofChange fnExactTruncateSignedSpec)

/-- ITS FALSE NEIGHBOUR: 'it returns false'. Refute it at one input. -/
def fnExactTruncateSignedWrong : ChangeSpec := { name := "fnExactTruncateSigned", fn := fun _ => fun
  | [d1, d2] => { results := [.lit (.bool false)], args := [d1, d2] }
  | _ => none }
def FnExactTruncateSignedWrongFalsely : Prop := fnExactTruncateSignedRow.holds Try.pinned (OpenSpec.ofChange fnExactTruncateSignedWrong)

/-- 'laws.FnExactFormatRoot': WHATEVER THE INPUT: true; the input reads as it did. -/
def fnExactFormatRootSpec : ChangeSpec := { name := "fnExactFormatRoot", fn := fun _ => fun
  | [d] => { results := [.lit (.bool true)], args := [d] }
  | _ => none }
def fnExactFormatRootRow : OpenClaim := { program := "ytcalbcjheenmgaa", sum := "a47b082b35600b987e946fd9d3b10877e9e08802ea36e8f197cb3ff6735dbd91", func := "loop.example/g00505/laws.FnExactFormatRoot", spec := "fnExactFormatRoot", apart := false }
def FnExactFormatRootSaid : Prop := fnExactFormatRootRow.holds Try.pinned (OpenSpec.ofChange fnExactFormatRootSpec)

/-- ITS FALSE NEIGHBOUR: 'it returns false'. Refute it at one input. -/
def fnExactFormatRootWrong : ChangeSpec := { name := "fnExactFormatRoot", fn := fun _ => fun
  | [d] => { results := [.lit (.bool false)], args := [d] }
  | _ => none }
def FnExactFormatRootWrongFalsely : Prop := fnExactFormatRootRow.holds Try.pinned (OpenSpec.ofChange fnExactFormatRootWrong)

/-- 'laws.FnExactFormatCertificate': WHATEVER THE INPUT: true; the input reads as it did. -/
def fnExactFormatCertificateSpec : ChangeSpec := { name := "fnExactFormatCertificate", fn := fun _ => fun
  | [d1, d2] => { results := [.lit (.bool true)], args := [d1, d2] }
  | _ => none }
def fnExactFormatCertificateRow : OpenClaim := { program := "ytcalbcjheenmgaa", sum := "a47b082b35600b987e946fd9d3b10877e9e08802ea36e8f197cb3ff6735dbd91", func := "loop.example/g00505/laws.FnExactFormatCertificate", spec := "fnExactFormatCertificate", apart := false }
def FnExactFormatCertificateSaid : Prop := fnExactFormatCertificateRow.holds Try.pinned (OpenSpec.ofChange fnExactFormatCertificateSpec)

/-- ITS FALSE NEIGHBOUR: 'it returns false'. Refute it at one input. -/
def fnExactFormatCertificateWrong : ChangeSpec := { name := "fnExactFormatCertificate", fn := fun _ => fun
  | [d1, d2] => { results := [.lit (.bool false)], args := [d1, d2] }
  | _ => none }
def FnExactFormatCertificateWrongFalsely : Prop := fnExactFormatCertificateRow.holds Try.pinned (OpenSpec.ofChange fnExactFormatCertificateWrong)

/-- 'laws.FnExactUsableSegments': WHATEVER THE INPUT: true; the input reads as it did. -/
def fnExactUsableSegmentsSpec : ChangeSpec := { name := "fnExactUsableSegments", fn := fun _ => fun
  | [d1, d2, d3] => { results := [.lit (.bool true)], args := [d1, d2, d3] }
  | _ => none }
def fnExactUsableSegmentsRow : OpenClaim := { program := "ytcalbcjheenmgaa", sum := "a47b082b35600b987e946fd9d3b10877e9e08802ea36e8f197cb3ff6735dbd91", func := "loop.example/g00505/laws.FnExactUsableSegments", spec := "fnExactUsableSegments", apart := false }
def FnExactUsableSegmentsSaid : Prop := fnExactUsableSegmentsRow.holds Try.pinned (OpenSpec.ofChange fnExactUsableSegmentsSpec)

/-- ITS FALSE NEIGHBOUR: 'it returns false'. Refute it at one input. -/
def fnExactUsableSegmentsWrong : ChangeSpec := { name := "fnExactUsableSegments", fn := fun _ => fun
  | [d1, d2, d3] => { results := [.lit (.bool false)], args := [d1, d2, d3] }
  | _ => none }
def FnExactUsableSegmentsWrongFalsely : Prop := fnExactUsableSegmentsRow.holds Try.pinned (OpenSpec.ofChange fnExactUsableSegmentsWrong)

/-- 'laws.FnExactDatabaseUsable': WHATEVER THE INPUT: true; the input reads as it did. -/
def fnExactDatabaseUsableSpec : ChangeSpec := { name := "fnExactDatabaseUsable", fn := fun _ => fun
  | [d1, d2, d3] => { results := [.lit (.bool true)], args := [d1, d2, d3] }
  | _ => none }
def fnExactDatabaseUsableRow : OpenClaim := { program := "ytcalbcjheenmgaa", sum := "a47b082b35600b987e946fd9d3b10877e9e08802ea36e8f197cb3ff6735dbd91", func := "loop.example/g00505/laws.FnExactDatabaseUsable", spec := "fnExactDatabaseUsable", apart := false }
def FnExactDatabaseUsableSaid : Prop := fnExactDatabaseUsableRow.holds Try.pinned (OpenSpec.ofChange fnExactDatabaseUsableSpec)

/-- ITS FALSE NEIGHBOUR: 'it returns false'. Refute it at one input. -/
def fnExactDatabaseUsableWrong : ChangeSpec := { name := "fnExactDatabaseUsable", fn := fun _ => fun
  | [d1, d2, d3] => { results := [.lit (.bool false)], args := [d1, d2, d3] }
  | _ => none }
def FnExactDatabaseUsableWrongFalsely : Prop := fnExactDatabaseUsableRow.holds Try.pinned (OpenSpec.ofChange fnExactDatabaseUsableWrong)

/-- 'laws.FnExactNewBeaconing': WHATEVER THE INPUT: true; the input reads as it did. -/
def fnExactNewBeaconingSpec : ChangeSpec := { name := "fnExactNewBeaconing", fn := fun _ => fun
  | [d1, d2] => { results := [.lit (.bool true)], args := [d1, d2] }
  | _ => none }
def fnExactNewBeaconingRow : OpenClaim := { program := "ytcalbcjheenmgaa", sum := "a47b082b35600b987e946fd9d3b10877e9e08802ea36e8f197cb3ff6735dbd91", func := "loop.example/g00505/laws.FnExactNewBeaconing", spec := "fnExactNewBeaconing", apart := false }
def FnExactNewBeaconingSaid : Prop := fnExactNewBeaconingRow.holds Try.pinned (OpenSpec.ofChange fnExactNewBeaconingSpec)

/-- ITS FALSE NEIGHBOUR: 'it returns false'. Refute it at one input. -/
def fnExactNewBeaconingWrong : ChangeSpec := { name := "fnExactNewBeaconing", fn := fun _ => fun
  | [d1, d2] => { results := [.lit (.bool false)], args := [d1, d2] }
  | _ => none }
def FnExactNewBeaconingWrongFalsely : Prop := fnExactNewBeaconingRow.holds Try.pinned (OpenSpec.ofChange fnExactNewBeaconingWrong)

/-- 'laws.FnExactOriginated': WHATEVER THE INPUT: true; the input reads as it did. -/
def fnExactOriginatedSpec : ChangeSpec := { name := "fnExactOriginated", fn := fun _ => fun
  | [d1, d2, d3, d4] => { results := [.lit (.bool true)], args := [d1, d2, d3, d4] }
  | _ => none }
def fnExactOriginatedRow : OpenClaim := { program := "ytcalbcjheenmgaa", sum := "a47b082b35600b987e946fd9d3b10877e9e08802ea36e8f197cb3ff6735dbd91", func := "loop.example/g00505/laws.FnExactOriginated", spec := "fnExactOriginated", apart := false }
def FnExactOriginatedSaid : Prop := fnExactOriginatedRow.holds Try.pinned (OpenSpec.ofChange fnExactOriginatedSpec)

/-- ITS FALSE NEIGHBOUR: 'it returns false'. Refute it at one input. -/
def fnExactOriginatedWrong : ChangeSpec := { name := "fnExactOriginated", fn := fun _ => fun
  | [d1, d2, d3, d4] => { results := [.lit (.bool false)], args := [d1, d2, d3, d4] }
  | _ => none }
def FnExactOriginatedWrongFalsely : Prop := fnExactOriginatedRow.holds Try.pinned (OpenSpec.ofChange fnExactOriginatedWrong)

/- THE SECOND FORM. 'bulk': how many values and letters a reading holds, each counted each time it is reached (what is shared counts as often as it is met; a slice's spare places count too). A statement '..UptoSaid' is the law's where the arguments, and the package variables that the reading takes, are together of bulk at most 1048576: NARROWER than '..Said'. Prove '..Said' where nothing that the law and all that it calls make is longer than what came in: it says more and counts as full. Else prove '..UptoSaid'. A law counts once. -/
mutual
def uptoBulk {H : Type} : DataW H → Nat
  | .lit (.string bytes) => bytes.length + 1
  | .lit _ => 1
  | .nil => 1
  | .ptr d => uptoBulk d + 1
  | .slice elems spare => uptoBulkAll elems + uptoBulkAll spare + 1
  | .agg parts => uptoBulkAll parts + 1
  | .iface _ d => uptoBulk d + 1
  | .map entries => uptoBulkEntries entries + 1
  | .held _ => 1
def uptoBulkAll {H : Type} : List (DataW H) → Nat
  | [] => 0
  | d :: r => uptoBulk d + uptoBulkAll r
def uptoBulkEntries {H : Type} : List (Lit × DataW H) → Nat
  | [] => 0
  | x :: r => uptoBulkEntry x + uptoBulkEntries r
def uptoBulkEntry {H : Type} : Lit × DataW H → Nat
  | (.string bytes, d) => bytes.length + uptoBulk d + 1
  | (_, d) => uptoBulk d + 1
 end
def uptoSmall : (H : Type) → List (DataW H) → Bool := fun _ ds => decide (uptoBulkAll ds ≤ 1048576)
def OpenSpec.upto (s : _root_.Go.ChangeSpec) : _root_.Go.OpenSpec := { _root_.Go.OpenSpec.ofChange s with cond := some uptoSmall }

/-- 'laws.FnExactMakePart', WHERE WHAT IT READS IS OF BULK AT MOST 1048576: true; the input reads as it did. -/
def fnExactMakePartUptoRow : OpenClaim := { program := "ytcalbcjheenmgaa", sum := "a47b082b35600b987e946fd9d3b10877e9e08802ea36e8f197cb3ff6735dbd91", func := "loop.example/g00505/laws.FnExactMakePart", spec := "fnExactMakePart", apart := false, narrowed := true }
def FnExactMakePartUptoSaid : Prop := fnExactMakePartUptoRow.holds Try.pinned (OpenSpec.upto fnExactMakePartSpec)

/-- 'laws.FnExactTruncateSigned', WHERE WHAT IT READS IS OF BULK AT MOST 1048576: true; the input reads as it did. -/
def fnExactTruncateSignedUptoRow : OpenClaim := { program := "ytcalbcjheenmgaa", sum := "a47b082b35600b987e946fd9d3b10877e9e08802ea36e8f197cb3ff6735dbd91", func := "loop.example/g00505/laws.FnExactTruncateSigned", spec := "fnExactTruncateSigned", apart := false, narrowed := true }
def FnExactTruncateSignedUptoSaid : Prop := fnExactTruncateSignedUptoRow.holds Try.pinned (OpenSpec.upto fnExactTruncateSignedSpec)

/-- 'laws.FnExactFormatRoot', WHERE WHAT IT READS IS OF BULK AT MOST 1048576: true; the input reads as it did. -/
def fnExactFormatRootUptoRow : OpenClaim := { program := "ytcalbcjheenmgaa", sum := "a47b082b35600b987e946fd9d3b10877e9e08802ea36e8f197cb3ff6735dbd91", func := "loop.example/g00505/laws.FnExactFormatRoot", spec := "fnExactFormatRoot", apart := false, narrowed := true }
def FnExactFormatRootUptoSaid : Prop := fnExactFormatRootUptoRow.holds Try.pinned (OpenSpec.upto fnExactFormatRootSpec)

/-- 'laws.FnExactFormatCertificate', WHERE WHAT IT READS IS OF BULK AT MOST 1048576: true; the input reads as it did. -/
def fnExactFormatCertificateUptoRow : OpenClaim := { program := "ytcalbcjheenmgaa", sum := "a47b082b35600b987e946fd9d3b10877e9e08802ea36e8f197cb3ff6735dbd91", func := "loop.example/g00505/laws.FnExactFormatCertificate", spec := "fnExactFormatCertificate", apart := false, narrowed := true }
def FnExactFormatCertificateUptoSaid : Prop := fnExactFormatCertificateUptoRow.holds Try.pinned (OpenSpec.upto fnExactFormatCertificateSpec)

/-- 'laws.FnExactUsableSegments', WHERE WHAT IT READS IS OF BULK AT MOST 1048576: true; the input reads as it did. -/
def fnExactUsableSegmentsUptoRow : OpenClaim := { program := "ytcalbcjheenmgaa", sum := "a47b082b35600b987e946fd9d3b10877e9e08802ea36e8f197cb3ff6735dbd91", func := "loop.example/g00505/laws.FnExactUsableSegments", spec := "fnExactUsableSegments", apart := false, narrowed := true }
def FnExactUsableSegmentsUptoSaid : Prop := fnExactUsableSegmentsUptoRow.holds Try.pinned (OpenSpec.upto fnExactUsableSegmentsSpec)

/-- 'laws.FnExactDatabaseUsable', WHERE WHAT IT READS IS OF BULK AT MOST 1048576: true; the input reads as it did. -/
def fnExactDatabaseUsableUptoRow : OpenClaim := { program := "ytcalbcjheenmgaa", sum := "a47b082b35600b987e946fd9d3b10877e9e08802ea36e8f197cb3ff6735dbd91", func := "loop.example/g00505/laws.FnExactDatabaseUsable", spec := "fnExactDatabaseUsable", apart := false, narrowed := true }
def FnExactDatabaseUsableUptoSaid : Prop := fnExactDatabaseUsableUptoRow.holds Try.pinned (OpenSpec.upto fnExactDatabaseUsableSpec)

/-- 'laws.FnExactNewBeaconing', WHERE WHAT IT READS IS OF BULK AT MOST 1048576: true; the input reads as it did. -/
def fnExactNewBeaconingUptoRow : OpenClaim := { program := "ytcalbcjheenmgaa", sum := "a47b082b35600b987e946fd9d3b10877e9e08802ea36e8f197cb3ff6735dbd91", func := "loop.example/g00505/laws.FnExactNewBeaconing", spec := "fnExactNewBeaconing", apart := false, narrowed := true }
def FnExactNewBeaconingUptoSaid : Prop := fnExactNewBeaconingUptoRow.holds Try.pinned (OpenSpec.upto fnExactNewBeaconingSpec)

/-- 'laws.FnExactOriginated', WHERE WHAT IT READS IS OF BULK AT MOST 1048576: true; the input reads as it did. -/
def fnExactOriginatedUptoRow : OpenClaim := { program := "ytcalbcjheenmgaa", sum := "a47b082b35600b987e946fd9d3b10877e9e08802ea36e8f197cb3ff6735dbd91", func := "loop.example/g00505/laws.FnExactOriginated", spec := "fnExactOriginated", apart := false, narrowed := true }
def FnExactOriginatedUptoSaid : Prop := fnExactOriginatedUptoRow.holds Try.pinned (OpenSpec.upto fnExactOriginatedSpec)

end Rows
end Go.Proofs.Ytcalbcjheenmgaa
