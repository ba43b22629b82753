/-
  No cell of these rows narrows 'for every input' (looked for: loops, veiled, ifaces, maps, wideKeys, modest, calm, conditions, laid).
  DERIVED. THE GIVEN ROWS OF THIS SEAT. 11 by the template 'for every input the law returns true; each argument reads behind the call as it read before'; 0 by the template 'total and deterministic' (their statements: YtikjpenhpmamiaaTotals.lean).
  GIVEN WITH THE SEED: the statements are not yours to turn. If you find one false, say at which input.
  Laid BY PROGRAM, IN A SANDBOX (cutbox-rows.mjs): the forced cells as the released guide's own fill.sh prints them over the translation d23db6e54cf3c398… (all of the seat's roots in one cut). By AI agents, Wed Nov 11 2026. No macro, syntax, notation, axiom, sorry.
-/
import Derived.Test.YtikjpenhpmamiaaChecked
import GoSem.Claim
import GoSem.ClaimJoined
import GoSem.ClaimMapViews
import Derived.JoinedTies
import Derived.KernelRfl
namespace Go.Proofs.Ytikjpenhpmamiaa
/- THE CELL 'sum', in the pinned program and in every row, IS THE sha256 OF THE DUMP (.gsa) THAT YtikjpenhpmamiaaProg.lean LOADS. Nothing in Lean hashes anything: it is a label: what it is worth is what the hold of that sum in a sandbox is worth. -/
noncomputable def Try.pinned : Pinned := { name := "ytikjpenhpmamiaa", sum := "d23db6e54cf3c398a76beafea5be3f7246e8b0ede72c867a882b3667972de49e", checked := Try.checked }
namespace Rows
def none {H : Type} : Left H := { results := [], args := [] }

/-- 'laws.FnExactIsReversed': WHATEVER THE INPUT: true; the input reads as it did. -/
def fnExactIsReversedSpec : ChangeSpec := { name := "fnExactIsReversed", fn := fun _ => fun
  | [d] => { results := [.lit (.bool true)], args := [d] }
  | _ => none }
def fnExactIsReversedRow : OpenClaim := { program := "ytikjpenhpmamiaa", sum := "d23db6e54cf3c398a76beafea5be3f7246e8b0ede72c867a882b3667972de49e", func := "loop.example/g00505/laws.FnExactIsReversed", spec := "fnExactIsReversed", apart := false }
def FnExactIsReversedSaid : Prop := fnExactIsReversedRow.holds Try.pinned (OpenSpec.ofChange fnExactIsReversedSpec)

/-- ITS FALSE NEIGHBOUR: 'it returns false'. Refute it at one input. -/
def fnExactIsReversedWrong : ChangeSpec := { name := "fnExactIsReversed", fn := fun _ => fun
  | [d] => { results := [.lit (.bool false)], args := [d] }
  | _ => none }
def FnExactIsReversedWrongFalsely : Prop := fnExactIsReversedRow.holds Try.pinned (OpenSpec.ofChange fnExactIsReversedWrong)

/-- 'laws.FnExactCertificateData': WHATEVER THE INPUT: true; the input reads as it did. -/
def fnExactCertificateDataSpec : ChangeSpec := { name := "fnExactCertificateData", fn := fun _ => fun
  | [d] => { results := [.lit (.bool true)], args := [d] }
  | _ => none }
def fnExactCertificateDataRow : OpenClaim := { program := "ytikjpenhpmamiaa", sum := "d23db6e54cf3c398a76beafea5be3f7246e8b0ede72c867a882b3667972de49e", func := "loop.example/g00505/laws.FnExactCertificateData", spec := "fnExactCertificateData", apart := false }
def FnExactCertificateDataSaid : Prop := fnExactCertificateDataRow.holds Try.pinned (OpenSpec.ofChange fnExactCertificateDataSpec)

/-- ITS FALSE NEIGHBOUR: 'it returns false'. Refute it at one input. -/
def fnExactCertificateDataWrong : ChangeSpec := { name := "fnExactCertificateData", fn := fun _ => fun
  | [d] => { results := [.lit (.bool false)], args := [d] }
  | _ => none }
def FnExactCertificateDataWrongFalsely : Prop := fnExactCertificateDataRow.holds Try.pinned (OpenSpec.ofChange fnExactCertificateDataWrong)

/-- 'laws.FnExactSign': WHATEVER THE INPUT: true; the input reads as it did. -/
def fnExactSignSpec : ChangeSpec := { name := "fnExactSign", fn := fun _ => fun
  | [d1, d2] => { results := [.lit (.bool true)], args := [d1, d2] }
  | _ => none }
def fnExactSignRow : OpenClaim := { program := "ytikjpenhpmamiaa", sum := "d23db6e54cf3c398a76beafea5be3f7246e8b0ede72c867a882b3667972de49e", func := "loop.example/g00505/laws.FnExactSign", spec := "fnExactSign", apart := false }
def FnExactSignSaid : Prop := fnExactSignRow.holds Try.pinned (OpenSpec.ofChange fnExactSignSpec)

/-- ITS FALSE NEIGHBOUR: 'it returns false'. Refute it at one input. -/
def fnExactSignWrong : ChangeSpec := { name := "fnExactSign", fn := fun _ => fun
  | [d1, d2] => { results := [.lit (.bool false)], args := [d1, d2] }
  | _ => none }
def FnExactSignWrongFalsely : Prop := fnExactSignRow.holds Try.pinned (OpenSpec.ofChange fnExactSignWrong)

/-- 'laws.FnExactEqualSignatures': WHATEVER THE INPUT: true; the input reads as it did. -/
def fnExactEqualSignaturesSpec : ChangeSpec := { name := "fnExactEqualSignatures", fn := fun _ => fun
  | [d1, d2] => { results := [.lit (.bool true)], args := [d1, d2] }
  | _ => none }
def fnExactEqualSignaturesRow : OpenClaim := { program := "ytikjpenhpmamiaa", sum := "d23db6e54cf3c398a76beafea5be3f7246e8b0ede72c867a882b3667972de49e", func := "loop.example/g00505/laws.FnExactEqualSignatures", spec := "fnExactEqualSignatures", apart := false }
def FnExactEqualSignaturesSaid : Prop := fnExactEqualSignaturesRow.holds Try.pinned (OpenSpec.ofChange fnExactEqualSignaturesSpec)

/-- ITS FALSE NEIGHBOUR: 'it returns false'. Refute it at one input. -/
def fnExactEqualSignaturesWrong : ChangeSpec := { name := "fnExactEqualSignatures", fn := fun _ => fun
  | [d1, d2] => { results := [.lit (.bool false)], args := [d1, d2] }
  | _ => none }
def FnExactEqualSignaturesWrongFalsely : Prop := fnExactEqualSignaturesRow.holds Try.pinned (OpenSpec.ofChange fnExactEqualSignaturesWrong)

/-- 'laws.FnExactAddSignature': WHATEVER THE INPUT: true; the input reads as it did. -/
def fnExactAddSignatureSpec : ChangeSpec := { name := "fnExactAddSignature", fn := fun _ => fun
  | [d1, d2] => { results := [.lit (.bool true)], args := [d1, d2] }
  | _ => none }
def fnExactAddSignatureRow : OpenClaim := { program := "ytikjpenhpmamiaa", sum := "d23db6e54cf3c398a76beafea5be3f7246e8b0ede72c867a882b3667972de49e", func := "loop.example/g00505/laws.FnExactAddSignature", spec := "fnExactAddSignature", apart := false }
def FnExactAddSignatureSaid : Prop := fnExactAddSignatureRow.holds Try.pinned (OpenSpec.ofChange fnExactAddSignatureSpec)

/-- ITS FALSE NEIGHBOUR: 'it returns false'. Refute it at one input. -/
def fnExactAddSignatureWrong : ChangeSpec := { name := "fnExactAddSignature", fn := fun _ => fun
  | [d1, d2] => { results := [.lit (.bool false)], args := [d1, d2] }
  | _ => none }
def FnExactAddSignatureWrongFalsely : Prop := fnExactAddSignatureRow.holds Try.pinned (OpenSpec.ofChange fnExactAddSignatureWrong)

/-- 'laws.FnExactPartEgress': WHATEVER THE INPUT: true; the input reads as it did. -/
def fnExactPartEgressSpec : ChangeSpec := { name := "fnExactPartEgress", fn := fun _ => fun
  | [d1, d2] => { results := [.lit (.bool true)], args := [d1, d2] }
  | _ => none }
def fnExactPartEgressRow : OpenClaim := { program := "ytikjpenhpmamiaa", sum := "d23db6e54cf3c398a76beafea5be3f7246e8b0ede72c867a882b3667972de49e", func := "loop.example/g00505/laws.FnExactPartEgress", spec := "fnExactPartEgress", apart := false }
def FnExactPartEgressSaid : Prop := fnExactPartEgressRow.holds Try.pinned (OpenSpec.ofChange fnExactPartEgressSpec)

/-- ITS FALSE NEIGHBOUR: 'it returns false'. Refute it at one input. -/
def fnExactPartEgressWrong : ChangeSpec := { name := "fnExactPartEgress", fn := fun _ => fun
  | [d1, d2] => { results := [.lit (.bool false)], args := [d1, d2] }
  | _ => none }
def FnExactPartEgressWrongFalsely : Prop := fnExactPartEgressRow.holds Try.pinned (OpenSpec.ofChange fnExactPartEgressWrong)

/-- 'laws.FnExactPartIngress': WHATEVER THE INPUT: true; the input reads as it did. -/
def fnExactPartIngressSpec : ChangeSpec := { name := "fnExactPartIngress", fn := fun _ => fun
  | [d1, d2] => { results := [.lit (.bool true)], args := [d1, d2] }
  | _ => none }
def fnExactPartIngressRow : OpenClaim := { program := "ytikjpenhpmamiaa", sum := "d23db6e54cf3c398a76beafea5be3f7246e8b0ede72c867a882b3667972de49e", func := "loop.example/g00505/laws.FnExactPartIngress", spec := "fnExactPartIngress", apart := false }
def FnExactPartIngressSaid : Prop := fnExactPartIngressRow.holds Try.pinned (OpenSpec.ofChange fnExactPartIngressSpec)

/-- ITS FALSE NEIGHBOUR: 'it returns false'. Refute it at one input. -/
def fnExactPartIngressWrong : ChangeSpec := { name := "fnExactPartIngress", fn := fun _ => fun
  | [d1, d2] => { results := [.lit (.bool false)], args := [d1, d2] }
  | _ => none }
def FnExactPartIngressWrongFalsely : Prop := fnExactPartIngressRow.holds Try.pinned (OpenSpec.ofChange fnExactPartIngressWrong)

/-- 'laws.FnExactEqualParts': WHATEVER THE INPUT: true; the input reads as it did. -/
def fnExactEqualPartsSpec : ChangeSpec := { name := "fnExactEqualParts", fn := fun _ => fun
  | [d1, d2] => { results := [.lit (.bool true)], args := [d1, d2] }
  | _ => none }
def fnExactEqualPartsRow : OpenClaim := { program := "ytikjpenhpmamiaa", sum := "d23db6e54cf3c398a76beafea5be3f7246e8b0ede72c867a882b3667972de49e", func := "loop.example/g00505/laws.FnExactEqualParts", spec := "fnExactEqualParts", apart := false }
def FnExactEqualPartsSaid : Prop := fnExactEqualPartsRow.holds Try.pinned (OpenSpec.ofChange fnExactEqualPartsSpec)

/-- ITS FALSE NEIGHBOUR: 'it returns false'. Refute it at one input. -/
def fnExactEqualPartsWrong : ChangeSpec := { name := "fnExactEqualParts", fn := fun _ => fun
  | [d1, d2] => { results := [.lit (.bool false)], args := [d1, d2] }
  | _ => none }
def FnExactEqualPartsWrongFalsely : Prop := fnExactEqualPartsRow.holds Try.pinned (OpenSpec.ofChange fnExactEqualPartsWrong)

/-- 'laws.FnExactRootData': WHATEVER THE INPUT: true; the input reads as it did. -/
def fnExactRootDataSpec : ChangeSpec := { name := "fnExactRootData", fn := fun _ => fun
  | [d] => { results := [.lit (.bool true)], args := [d] }
  | _ => none }
def fnExactRootDataRow : OpenClaim := { program := "ytikjpenhpmamiaa", sum := "d23db6e54cf3c398a76beafea5be3f7246e8b0ede72c867a882b3667972de49e", func := "loop.example/g00505/laws.FnExactRootData", spec := "fnExactRootData", apart := false }
def FnExactRootDataSaid : Prop := fnExactRootDataRow.holds Try.pinned (OpenSpec.ofChange fnExactRootDataSpec)

/-- ITS FALSE NEIGHBOUR: 'it returns false'. Refute it at one input. -/
def fnExactRootDataWrong : ChangeSpec := { name := "fnExactRootData", fn := fun _ => fun
  | [d] => { results := [.lit (.bool false)], args := [d] }
  | _ => none }
def FnExactRootDataWrongFalsely : Prop := fnExactRootDataRow.holds Try.pinned (OpenSpec.ofChange fnExactRootDataWrong)

/-- 'laws.FnExactSegmentCount': WHATEVER THE INPUT: true; the input reads as it did. -/
def fnExactSegmentCountSpec : ChangeSpec := { name := "fnExactSegmentCount", fn := fun _ => fun
  | [d] => { results := [.lit (.bool true)], args := [d] }
  | _ => none }
def fnExactSegmentCountRow : OpenClaim := { program := "ytikjpenhpmamiaa", sum := "d23db6e54cf3c398a76beafea5be3f7246e8b0ede72c867a882b3667972de49e", func := "loop.example/g00505/laws.FnExactSegmentCount", spec := "fnExactSegmentCount", apart := false }
def FnExactSegmentCountSaid : Prop := fnExactSegmentCountRow.holds Try.pinned (OpenSpec.ofChange fnExactSegmentCountSpec)

/-- ITS FALSE NEIGHBOUR: 'it returns false'. Refute it at one input. -/
def fnExactSegmentCountWrong : ChangeSpec := { name := "fnExactSegmentCount", fn := fun _ => fun
  | [d] => { results := [.lit (.bool false)], args := [d] }
  | _ => none }
def FnExactSegmentCountWrongFalsely : Prop := fnExactSegmentCountRow.holds Try.pinned (OpenSpec.ofChange fnExactSegmentCountWrong)

/-- 'laws.FnExactBetaAfter': WHATEVER THE INPUT: true; the input reads as it did. -/
def fnExactBetaAfterSpec : ChangeSpec := { name := "fnExactBetaAfter", fn := fun _ => fun
  | [d1, d2] => { results := [.lit (.bool true)], args := [d1, d2] }
  | _ => none }
def fnExactBetaAfterRow : OpenClaim := { program := "ytikjpenhpmamiaa", sum := "d23db6e54cf3c398a76beafea5be3f7246e8b0ede72c867a882b3667972de49e", func := "loop.example/g00505/laws.FnExactBetaAfter", spec := "fnExactBetaAfter", apart := false }
def FnExactBetaAfterSaid : Prop := fnExactBetaAfterRow.holds Try.pinned (OpenSpec.ofChange fnExactBetaAfterSpec)

/-- ITS FALSE NEIGHBOUR: 'it returns false'. Refute it at one input. -/
def fnExactBetaAfterWrong : ChangeSpec := { name := "fnExactBetaAfter", fn := fun _ => fun
  | [d1, d2] => { results := [.lit (.bool false)], args := [d1, d2] }
  | _ => none }
def FnExactBetaAfterWrongFalsely : Prop := fnExactBetaAfterRow.holds Try.pinned (OpenSpec.ofChange fnExactBetaAfterWrong)

/- THE SECOND FORM. 'bulk': how many values and letters a reading holds, each counted each time it is reached (what is shared counts as often as it is met; a slice's spare places count too). A statement '..UptoSaid' is the law's where the arguments, and the package variables that the reading takes, are together of bulk at most 1048576: NARROWER than '..Said'. Prove '..Said' where nothing that the law and all that it calls make is longer than what came in: it says more and counts as full. Else prove '..UptoSaid'. A law counts once. -/
mutual
def uptoBulk {H : Type} : DataW H → Nat
  | .lit (.string bytes) => bytes.length + 1
  | .lit _ => 1
  | .nil => 1
  | .ptr d => uptoBulk d + 1
  | .slice elems spare => uptoBulkAll elems + uptoBulkAll spare + 1
  | .agg parts => uptoBulkAll parts + 1
  | .iface _ d => uptoBulk d + 1
  | .map entries => uptoBulkEntries entries + 1
  | .held _ => 1
def uptoBulkAll {H : Type} : List (DataW H) → Nat
  | [] => 0
  | d :: r => uptoBulk d + uptoBulkAll r
def uptoBulkEntries {H : Type} : List (Lit × DataW H) → Nat
  | [] => 0
  | x :: r => uptoBulkEntry x + uptoBulkEntries r
def uptoBulkEntry {H : Type} : Lit × DataW H → Nat
  | (.string bytes, d) => bytes.length + uptoBulk d + 1
  | (_, d) => uptoBulk d + 1
 end
def uptoSmall : (H : Type) → List (DataW H) → Bool := fun _ ds => decide (uptoBulkAll ds ≤ 1048576)
def OpenSpec.upto (s : _root_.Go.ChangeSpec) : _root_.Go.OpenSpec := { _root_.Go.OpenSpec.ofChange s with cond := some uptoSmall }

/-- 'laws.FnExactIsReversed', WHERE WHAT IT READS IS OF BULK AT MOST 1048576: true; the input reads as it did. -/
def fnExactIsReversedUptoRow : OpenClaim := { program := "ytikjpenhpmamiaa", sum := "d23db6e54cf3c398a76beafea5be3f7246e8b0ede72c867a882b3667972de49e", func := "loop.example/g00505/laws.FnExactIsReversed", spec := "fnExactIsReversed", apart := false, narrowed := true }
def FnExactIsReversedUptoSaid : Prop := fnExactIsReversedUptoRow.holds Try.pinned (OpenSpec.upto fnExactIsReversedSpec)

/-- 'laws.FnExactCertificateData', WHERE WHAT IT READS IS OF BULK AT MOST 1048576: true; the input reads as it did. -/
def fnExactCertificateDataUptoRow : OpenClaim := { program := "ytikjpenhpmamiaa", sum := "d23db6e54cf3c398a76beafea5be3f7246e8b0ede72c867a882b3667972de49e", func := "loop.example/g00505/laws.FnExactCertificateData", spec := "fnExactCertificateData", apart := false, narrowed := true }
def FnExactCertificateDataUptoSaid : Prop := fnExactCertificateDataUptoRow.holds Try.pinned (OpenSpec.upto fnExactCertificateDataSpec)

/-- 'laws.FnExactSign', WHERE WHAT IT READS IS OF BULK AT MOST 1048576: true; the input reads as it did. -/
def fnExactSignUptoRow : OpenClaim := { program := "ytikjpenhpmamiaa", sum := "d23db6e54cf3c398a76beafea5be3f7246e8b0ede72c867a882b3667972de49e", func := "loop.example/g00505/laws.FnExactSign", spec := "fnExactSign", apart := false, narrowed := true }
def FnExactSignUptoSaid : Prop := fnExactSignUptoRow.holds Try.pinned (OpenSpec.upto fnExactSignSpec)

/-- 'laws.FnExactEqualSignatures', WHERE WHAT IT READS IS OF BULK AT MOST 1048576: true; the input reads as it did. -/
def fnExactEqualSignaturesUptoRow : OpenClaim := { program := "ytikjpenhpmamiaa", sum := "d23db6e54cf3c398a76beafea5be3f7246e8b0ede72c867a882b3667972de49e", func := "loop.example/g00505/laws.FnExactEqualSignatures", spec := "fnExactEqualSignatures", apart := false, narrowed := true }
def FnExactEqualSignaturesUptoSaid : Prop := fnExactEqualSignaturesUptoRow.holds Try.pinned (OpenSpec.upto fnExactEqualSignaturesSpec)

/-- 'laws.FnExactAddSignature', WHERE WHAT IT READS IS OF BULK AT MOST 1048576: true; the input reads as it did. -/
def fnExactAddSignatureUptoRow : OpenClaim := { program := "ytikjpenhpmamiaa", sum := "d23db6e54cf3c398a76beafea5be3f7246e8b0ede72c867a882b3667972de49e", func := "loop.example/g00505/laws.FnExactAddSignature", spec := "fnExactAddSignature", apart := false, narrowed := true }
def FnExactAddSignatureUptoSaid : Prop := fnExactAddSignatureUptoRow.holds Try.pinned (OpenSpec.upto fnExactAddSignatureSpec)

/-- 'laws.FnExactPartEgress', WHERE WHAT IT READS IS OF BULK AT MOST 1048576: true; the input reads as it did. -/
def fnExactPartEgressUptoRow : OpenClaim := { program := "ytikjpenhpmamiaa", sum := "d23db6e54cf3c398a76beafea5be3f7246e8b0ede72c867a882b3667972de49e", func := "loop.example/g00505/laws.FnExactPartEgress", spec := "fnExactPartEgress", apart := false, narrowed := true }
def FnExactPartEgressUptoSaid : Prop := fnExactPartEgressUptoRow.holds Try.pinned (OpenSpec.upto fnExactPartEgressSpec)

/-- 'laws.FnExactPartIngress', WHERE WHAT IT READS IS OF BULK AT MOST 1048576: true; the input reads as it did. -/
def fnExactPartIngressUptoRow : OpenClaim := { program := "ytikjpenhpmamiaa", sum := "d23db6e54cf3c398a76beafea5be3f7246e8b0ede72c867a882b3667972de49e", func := "loop.example/g00505/laws.FnExactPartIngress", spec := "fnExactPartIngress", apart := false, narrowed := true }
def FnExactPartIngressUptoSaid : Prop := fnExactPartIngressUptoRow.holds Try.pinned (OpenSpec.upto fnExactPartIngressSpec)

/-- 'laws.FnExactEqualParts', WHERE WHAT IT READS IS OF BULK AT MOST 1048576: true; the input reads as it did. -/
def fnExactEqualPartsUptoRow : OpenClaim := { program := "ytikjpenhpmamiaa", sum := "d23db6e54cf3c398a76beafea5be3f7246e8b0ede72c867a882b3667972de49e", func := "loop.example/g00505/laws.FnExactEqualParts", spec := "fnExactEqualParts", apart := false, narrowed := true }
def FnExactEqualPartsUptoSaid : Prop := fnExactEqualPartsUptoRow.holds Try.pinned (OpenSpec.upto fnExactEqualPartsSpec)

/-- 'laws.FnExactRootData', WHERE WHAT IT READS IS OF BULK AT MOST 1048576: true; the input reads as it did. -/
def fnExactRootDataUptoRow : OpenClaim := { program := "ytikjpenhpmamiaa", sum := "d23db6e54cf3c398a76beafea5be3f7246e8b0ede72c867a882b3667972de49e", func := "loop.example/g00505/laws.FnExactRootData", spec := "fnExactRootData", apart := false, narrowed := true }
def FnExactRootDataUptoSaid : Prop := fnExactRootDataUptoRow.holds Try.pinned (OpenSpec.upto fnExactRootDataSpec)

/-- 'laws.FnExactSegmentCount', WHERE WHAT IT READS IS OF BULK AT MOST 1048576: true; the input reads as it did. -/
def fnExactSegmentCountUptoRow : OpenClaim := { program := "ytikjpenhpmamiaa", sum := "d23db6e54cf3c398a76beafea5be3f7246e8b0ede72c867a882b3667972de49e", func := "loop.example/g00505/laws.FnExactSegmentCount", spec := "fnExactSegmentCount", apart := false, narrowed := true }
def FnExactSegmentCountUptoSaid : Prop := fnExactSegmentCountUptoRow.holds Try.pinned (OpenSpec.upto fnExactSegmentCountSpec)

/-- 'laws.FnExactBetaAfter', WHERE WHAT IT READS IS OF BULK AT MOST 1048576: true; the input reads as it did. -/
def fnExactBetaAfterUptoRow : OpenClaim := { program := "ytikjpenhpmamiaa", sum := "d23db6e54cf3c398a76beafea5be3f7246e8b0ede72c867a882b3667972de49e", func := "loop.example/g00505/laws.FnExactBetaAfter", spec := "fnExactBetaAfter", apart := false, narrowed := true }
def FnExactBetaAfterUptoSaid : Prop := fnExactBetaAfterUptoRow.holds Try.pinned (OpenSpec.upto fnExactBetaAfterSpec)

end Rows
end Go.Proofs.Ytikjpenhpmamiaa
