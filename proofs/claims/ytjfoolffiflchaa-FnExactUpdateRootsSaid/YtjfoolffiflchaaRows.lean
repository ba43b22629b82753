/-
  No cell of these rows narrows 'for every input' (looked for: loops, veiled, ifaces, maps, wideKeys, modest, calm, conditions, laid).
  DERIVED. THE GIVEN ROWS OF THIS SEAT. 12 by the template 'for every input the law returns true; each argument reads behind the call as it read before'; 0 by the template 'total and deterministic' (their statements: YtjfoolffiflchaaTotals.lean).
  GIVEN WITH THE SEED: the statements are not yours to turn. If you find one false, say at which input.
  Laid BY PROGRAM, IN A SANDBOX (cutbox-rows.mjs): the forced cells as the released guide's own fill.sh prints them over the translation 8f3da7b0d7620930… (all of the seat's roots in one cut). By AI agents, Wed Nov 11 2026. No macro, syntax, notation, axiom, sorry.
-/
import Derived.Test.YtjfoolffiflchaaChecked
import GoSem.Claim
import GoSem.ClaimJoined
import GoSem.ClaimMapViews
import Derived.JoinedTies
import Derived.KernelRfl
namespace Go.Proofs.Ytjfoolffiflchaa
/- THE CELL 'sum', in the pinned program and in every row, IS THE sha256 OF THE DUMP (.gsa) THAT YtjfoolffiflchaaProg.lean LOADS. Nothing in Lean hashes anything: it is a label: what it is worth is what the hold of that sum in a sandbox is worth. -/
noncomputable def Try.pinned : Pinned := { name := "ytjfoolffiflchaa", sum := "8f3da7b0d7620930ab23b9492928f5a256136b52306d691344afa565ae9a9853", checked := Try.checked }
namespace Rows
def none {H : Type} : Left H := { results := [], args := [] }

/-- 'laws.FnExactValidRoot': WHATEVER THE INPUT: true; the input reads as it did. -/
def fnExactValidRootSpec : ChangeSpec := { name := "fnExactValidRoot", fn := fun _ => fun
  | [d1, d2] => { results := [.lit (.bool true)], args := [d1, d2] }
  | _ => none }
def fnExactValidRootRow : OpenClaim := { program := "ytjfoolffiflchaa", sum := "8f3da7b0d7620930ab23b9492928f5a256136b52306d691344afa565ae9a9853", func := "loop.example/g00505/laws.FnExactValidRoot", spec := "fnExactValidRoot", apart := false }
def FnExactValidRootSaid : Prop := fnExactValidRootRow.holds Try.pinned (OpenSpec.ofChange fnExactValidRootSpec)

/-- ITS FALSE NEIGHBOUR: 'it returns false'. Refute it at one input. -/
def fnExactValidRootWrong : ChangeSpec := { name := "fnExactValidRoot", fn := fun _ => fun
  | [d1, d2] => { results := [.lit (.bool false)], args := [d1, d2] }
  | _ => none }
def FnExactValidRootWrongFalsely : Prop := fnExactValidRootRow.holds Try.pinned (OpenSpec.ofChange fnExactValidRootWrong)

/-- 'laws.FnExactSigners': WHATEVER THE INPUT: true; the input reads as it did. -/
def fnExactSignersSpec : ChangeSpec := { name := "fnExactSigners", fn := fun _ => fun
  | [d1, d2, d3, d4] => { results := [.lit (.bool true)], args := [d1, d2, d3, d4] }
  | _ => none }
def fnExactSignersRow : OpenClaim := { program := "ytjfoolffiflchaa", sum := "8f3da7b0d7620930ab23b9492928f5a256136b52306d691344afa565ae9a9853", func := "loop.example/g00505/laws.FnExactSigners", spec := "fnExactSigners", apart := false }
def FnExactSignersSaid : Prop := fnExactSignersRow.holds Try.pinned (OpenSpec.ofChange fnExactSignersSpec)

/-- ITS FALSE NEIGHBOUR: 'it returns false'. Refute it at one input. -/
def fnExactSignersWrong : ChangeSpec := { name := "fnExactSigners", fn := fun _ => fun
  | [d1, d2, d3, d4] => { results := [.lit (.bool false)], args := [d1, d2, d3, d4] }
  | _ => none }
def FnExactSignersWrongFalsely : Prop := fnExactSignersRow.holds Try.pinned (OpenSpec.ofChange fnExactSignersWrong)

/-- 'laws.FnExactIsInitialRoot': WHATEVER THE INPUT: true; the input reads as it did. -/
def fnExactIsInitialRootSpec : ChangeSpec := { name := "fnExactIsInitialRoot", fn := fun _ => fun
  | [d1, d2] => { results := [.lit (.bool true)], args := [d1, d2] }
  | _ => none }
def fnExactIsInitialRootRow : OpenClaim := { program := "ytjfoolffiflchaa", sum := "8f3da7b0d7620930ab23b9492928f5a256136b52306d691344afa565ae9a9853", func := "loop.example/g00505/laws.FnExactIsInitialRoot", spec := "fnExactIsInitialRoot", apart := false }
def FnExactIsInitialRootSaid : Prop := fnExactIsInitialRootRow.holds Try.pinned (OpenSpec.ofChange fnExactIsInitialRootSpec)

/-- ITS FALSE NEIGHBOUR: 'it returns false'. Refute it at one input. -/
def fnExactIsInitialRootWrong : ChangeSpec := { name := "fnExactIsInitialRoot", fn := fun _ => fun
  | [d1, d2] => { results := [.lit (.bool false)], args := [d1, d2] }
  | _ => none }
def FnExactIsInitialRootWrongFalsely : Prop := fnExactIsInitialRootRow.holds Try.pinned (OpenSpec.ofChange fnExactIsInitialRootWrong)

/-- 'laws.FnExactIsSuccessor': WHATEVER THE INPUT: true; the input reads as it did. -/
def fnExactIsSuccessorSpec : ChangeSpec := { name := "fnExactIsSuccessor", fn := fun _ => fun
  | [d1, d2, d3] => { results := [.lit (.bool true)], args := [d1, d2, d3] }
  | _ => none }
def fnExactIsSuccessorRow : OpenClaim := { program := "ytjfoolffiflchaa", sum := "8f3da7b0d7620930ab23b9492928f5a256136b52306d691344afa565ae9a9853", func := "loop.example/g00505/laws.FnExactIsSuccessor", spec := "fnExactIsSuccessor", apart := false }
def FnExactIsSuccessorSaid : Prop := fnExactIsSuccessorRow.holds Try.pinned (OpenSpec.ofChange fnExactIsSuccessorSpec)

/-- ITS FALSE NEIGHBOUR: 'it returns false'. Refute it at one input. -/
def fnExactIsSuccessorWrong : ChangeSpec := { name := "fnExactIsSuccessor", fn := fun _ => fun
  | [d1, d2, d3] => { results := [.lit (.bool false)], args := [d1, d2, d3] }
  | _ => none }
def FnExactIsSuccessorWrongFalsely : Prop := fnExactIsSuccessorRow.holds Try.pinned (OpenSpec.ofChange fnExactIsSuccessorWrong)

/-- 'laws.FnExactValidRootChain': WHATEVER THE INPUT: true; the input reads as it did. -/
def fnExactValidRootChainSpec : ChangeSpec := { name := "fnExactValidRootChain", fn := fun _ => fun
  | [d1, d2] => { results := [.lit (.bool true)], args := [d1, d2] }
  | _ => none }
def fnExactValidRootChainRow : OpenClaim := { program := "ytjfoolffiflchaa", sum := "8f3da7b0d7620930ab23b9492928f5a256136b52306d691344afa565ae9a9853", func := "loop.example/g00505/laws.FnExactValidRootChain", spec := "fnExactValidRootChain", apart := false }
def FnExactValidRootChainSaid : Prop := fnExactValidRootChainRow.holds Try.pinned (OpenSpec.ofChange fnExactValidRootChainSpec)

/-- ITS FALSE NEIGHBOUR: 'it returns false'. Refute it at one input. -/
def fnExactValidRootChainWrong : ChangeSpec := { name := "fnExactValidRootChain", fn := fun _ => fun
  | [d1, d2] => { results := [.lit (.bool false)], args := [d1, d2] }
  | _ => none }
def FnExactValidRootChainWrongFalsely : Prop := fnExactValidRootChainRow.holds Try.pinned (OpenSpec.ofChange fnExactValidRootChainWrong)

/-- 'laws.FnExactActiveRoot': WHATEVER THE INPUT: true; the input reads as it did. -/
def fnExactActiveRootSpec : ChangeSpec := { name := "fnExactActiveRoot", fn := fun _ => fun
  | [d1, d2, d3] => { results := [.lit (.bool true)], args := [d1, d2, d3] }
  | _ => none }
def fnExactActiveRootRow : OpenClaim := { program := "ytjfoolffiflchaa", sum := "8f3da7b0d7620930ab23b9492928f5a256136b52306d691344afa565ae9a9853", func := "loop.example/g00505/laws.FnExactActiveRoot", spec := "fnExactActiveRoot", apart := false }
def FnExactActiveRootSaid : Prop := fnExactActiveRootRow.holds Try.pinned (OpenSpec.ofChange fnExactActiveRootSpec)

/-- ITS FALSE NEIGHBOUR: 'it returns false'. Refute it at one input. -/
def fnExactActiveRootWrong : ChangeSpec := { name := "fnExactActiveRoot", fn := fun _ => fun
  | [d1, d2, d3] => { results := [.lit (.bool false)], args := [d1, d2, d3] }
  | _ => none }
def FnExactActiveRootWrongFalsely : Prop := fnExactActiveRootRow.holds Try.pinned (OpenSpec.ofChange fnExactActiveRootWrong)

/-- 'laws.FnExactCertificateValid': WHATEVER THE INPUT: true; the input reads as it did. -/
def fnExactCertificateValidSpec : ChangeSpec := { name := "fnExactCertificateValid", fn := fun _ => fun
  | [d1, d2, d3, d4] => { results := [.lit (.bool true)], args := [d1, d2, d3, d4] }
  | _ => none }
def fnExactCertificateValidRow : OpenClaim := { program := "ytjfoolffiflchaa", sum := "8f3da7b0d7620930ab23b9492928f5a256136b52306d691344afa565ae9a9853", func := "loop.example/g00505/laws.FnExactCertificateValid", spec := "fnExactCertificateValid", apart := false }
def FnExactCertificateValidSaid : Prop := fnExactCertificateValidRow.holds Try.pinned (OpenSpec.ofChange fnExactCertificateValidSpec)

/-- ITS FALSE NEIGHBOUR: 'it returns false'. Refute it at one input. -/
def fnExactCertificateValidWrong : ChangeSpec := { name := "fnExactCertificateValid", fn := fun _ => fun
  | [d1, d2, d3, d4] => { results := [.lit (.bool false)], args := [d1, d2, d3, d4] }
  | _ => none }
def FnExactCertificateValidWrongFalsely : Prop := fnExactCertificateValidRow.holds Try.pinned (OpenSpec.ofChange fnExactCertificateValidWrong)

/-- 'laws.FnExactFindCertificate': WHATEVER THE INPUT: true; the input reads as it did. -/
def fnExactFindCertificateSpec : ChangeSpec := { name := "fnExactFindCertificate", fn := fun _ => fun
  | [d1, d2, d3, d4, d5] => { results := [.lit (.bool true)], args := [d1, d2, d3, d4, d5] }
  | _ => none }
def fnExactFindCertificateRow : OpenClaim := { program := "ytjfoolffiflchaa", sum := "8f3da7b0d7620930ab23b9492928f5a256136b52306d691344afa565ae9a9853", func := "loop.example/g00505/laws.FnExactFindCertificate", spec := "fnExactFindCertificate", apart := false }
def FnExactFindCertificateSaid : Prop := fnExactFindCertificateRow.holds Try.pinned (OpenSpec.ofChange fnExactFindCertificateSpec)

/-- ITS FALSE NEIGHBOUR: 'it returns false'. Refute it at one input. -/
def fnExactFindCertificateWrong : ChangeSpec := { name := "fnExactFindCertificate", fn := fun _ => fun
  | [d1, d2, d3, d4, d5] => { results := [.lit (.bool false)], args := [d1, d2, d3, d4, d5] }
  | _ => none }
def FnExactFindCertificateWrongFalsely : Prop := fnExactFindCertificateRow.holds Try.pinned (OpenSpec.ofChange fnExactFindCertificateWrong)

/-- 'laws.FnExactUpdateRoots': WHATEVER THE INPUT: true; the input reads as it did. -/
def fnExactUpdateRootsSpec : ChangeSpec := { name := "fnExactUpdateRoots", fn := fun _ => fun
  | [d1, d2, d3] => { results := [.lit (.bool true)], args := [d1, d2, d3] }
  | _ => none }
def fnExactUpdateRootsRow : OpenClaim := { program := "ytjfoolffiflchaa", sum := "8f3da7b0d7620930ab23b9492928f5a256136b52306d691344afa565ae9a9853", func := "loop.example/g00505/laws.FnExactUpdateRoots", spec := "fnExactUpdateRoots", apart := false }
def FnExactUpdateRootsSaid : Prop := fnExactUpdateRootsRow.holds Try.pinned (OpenSpec.ofChange fnExactUpdateRootsSpec)

/-- ITS FALSE NEIGHBOUR: 'it returns false'. Refute it at one input. -/
def fnExactUpdateRootsWrong : ChangeSpec := { name := "fnExactUpdateRoots", fn := fun _ => fun
  | [d1, d2, d3] => { results := [.lit (.bool false)], args := [d1, d2, d3] }
  | _ => none }
def FnExactUpdateRootsWrongFalsely : Prop := fnExactUpdateRootsRow.holds Try.pinned (OpenSpec.ofChange fnExactUpdateRootsWrong)

/-- 'laws.FnExactCertifiedASes': WHATEVER THE INPUT: true; the input reads as it did. -/
def fnExactCertifiedASesSpec : ChangeSpec := { name := "fnExactCertifiedASes", fn := fun _ => fun
  | [d1, d2, d3, d4] => { results := [.lit (.bool true)], args := [d1, d2, d3, d4] }
  | _ => none }
def fnExactCertifiedASesRow : OpenClaim := { program := "ytjfoolffiflchaa", sum := "8f3da7b0d7620930ab23b9492928f5a256136b52306d691344afa565ae9a9853", func := "loop.example/g00505/laws.FnExactCertifiedASes", spec := "fnExactCertifiedASes", apart := false }
def FnExactCertifiedASesSaid : Prop := fnExactCertifiedASesRow.holds Try.pinned (OpenSpec.ofChange fnExactCertifiedASesSpec)

/-- ITS FALSE NEIGHBOUR: 'it returns false'. Refute it at one input. -/
def fnExactCertifiedASesWrong : ChangeSpec := { name := "fnExactCertifiedASes", fn := fun _ => fun
  | [d1, d2, d3, d4] => { results := [.lit (.bool false)], args := [d1, d2, d3, d4] }
  | _ => none }
def FnExactCertifiedASesWrongFalsely : Prop := fnExactCertifiedASesRow.holds Try.pinned (OpenSpec.ofChange fnExactCertifiedASesWrong)

/-- 'laws.FnExactIssueCertificate': WHATEVER THE INPUT: true; the input reads as it did. -/
def fnExactIssueCertificateSpec : ChangeSpec := { name := "fnExactIssueCertificate", fn := fun _ => fun
  | [d1, d2, d3, d4, d5, d6] => { results := [.lit (.bool true)], args := [d1, d2, d3, d4, d5, d6] }
  | _ => none }
def fnExactIssueCertificateRow : OpenClaim := { program := "ytjfoolffiflchaa", sum := "8f3da7b0d7620930ab23b9492928f5a256136b52306d691344afa565ae9a9853", func := "loop.example/g00505/laws.FnExactIssueCertificate", spec := "fnExactIssueCertificate", apart := false }
def FnExactIssueCertificateSaid : Prop := fnExactIssueCertificateRow.holds Try.pinned (OpenSpec.ofChange fnExactIssueCertificateSpec)

/-- ITS FALSE NEIGHBOUR: 'it returns false'. Refute it at one input. -/
def fnExactIssueCertificateWrong : ChangeSpec := { name := "fnExactIssueCertificate", fn := fun _ => fun
  | [d1, d2, d3, d4, d5, d6] => { results := [.lit (.bool false)], args := [d1, d2, d3, d4, d5, d6] }
  | _ => none }
def FnExactIssueCertificateWrongFalsely : Prop := fnExactIssueCertificateRow.holds Try.pinned (OpenSpec.ofChange fnExactIssueCertificateWrong)

/-- 'laws.FnUsurps': WHATEVER THE INPUT: true; the input reads as it did. -/
def fnUsurpsSpec : ChangeSpec := { name := "fnUsurps", fn := fun _ => fun
  | [d] => { results := [.lit (.bool true)], args := [d] }
  | _ => none }
def fnUsurpsRow : OpenClaim := { program := "ytjfoolffiflchaa", sum := "8f3da7b0d7620930ab23b9492928f5a256136b52306d691344afa565ae9a9853", func := "loop.example/g00505/laws.FnUsurps", spec := "fnUsurps", apart := false }
def FnUsurpsSaid : Prop := fnUsurpsRow.holds Try.pinned (OpenSpec.ofChange fnUsurpsSpec)

/-- ITS FALSE NEIGHBOUR: 'it returns false'. Refute it at one input. -/
def fnUsurpsWrong : ChangeSpec := { name := "fnUsurps", fn := fun _ => fun
  | [d] => { results := [.lit (.bool false)], args := [d] }
  | _ => none }
def FnUsurpsWrongFalsely : Prop := fnUsurpsRow.holds Try.pinned (OpenSpec.ofChange fnUsurpsWrong)

/- THE SECOND FORM. 'bulk': how many values and letters a reading holds, each counted each time it is reached (what is shared counts as often as it is met; a slice's spare places count too). A statement '..UptoSaid' is the law's where the arguments, and the package variables that the reading takes, are together of bulk at most 1048576: NARROWER than '..Said'. Prove '..Said' where nothing that the law and all that it calls make is longer than what came in: it says more and counts as full. Else prove '..UptoSaid'. A law counts once. -/
mutual
def uptoBulk {H : Type} : DataW H → Nat
  | .lit (.string bytes) => bytes.length + 1
  | .lit _ => 1
  | .nil => 1
  | .ptr d => uptoBulk d + 1
  | .slice elems spare => uptoBulkAll elems + uptoBulkAll spare + 1
  | .agg parts => uptoBulkAll parts + 1
  | .iface _ d => uptoBulk d + 1
  | .map entries => uptoBulkEntries entries + 1
  | .held _ => 1
def uptoBulkAll {H : Type} : List (DataW H) → Nat
  | [] => 0
  | d :: r => uptoBulk d + uptoBulkAll r
def uptoBulkEntries {H : Type} : List (Lit × DataW H) → Nat
  | [] => 0
  | x :: r => uptoBulkEntry x + uptoBulkEntries r
def uptoBulkEntry {H : Type} : Lit × DataW H → Nat
  | (.string bytes, d) => bytes.length + uptoBulk d + 1
  | (_, d) => uptoBulk d + 1
 end
def uptoSmall : (H : Type) → List (DataW H) → Bool := fun _ ds => decide (uptoBulkAll ds ≤ 1048576)
def OpenSpec.upto (s : _root_.Go.ChangeSpec) : _root_.Go.OpenSpec := { _root_.Go.OpenSpec.ofChange s with cond := some uptoSmall }

/-- 'laws.FnExactValidRoot', WHERE WHAT IT READS IS OF BULK AT MOST 1048576: true; the input reads as it did. -/
def fnExactValidRootUptoRow : OpenClaim := { program := "ytjfoolffiflchaa", sum := "8f3da7b0d7620930ab23b9492928f5a256136b52306d691344afa565ae9a9853", func := "loop.example/g00505/laws.FnExactValidRoot", spec := "fnExactValidRoot", apart := false, narrowed := true }
def FnExactValidRootUptoSaid : Prop := fnExactValidRootUptoRow.holds Try.pinned (OpenSpec.upto fnExactValidRootSpec)

/-- 'laws.FnExactSigners', WHERE WHAT IT READS IS OF BULK AT MOST 1048576: true; the input reads as it did. -/
def fnExactSignersUptoRow : OpenClaim := { program := "ytjfoolffiflchaa", sum := "8f3da7b0d7620930ab23b9492928f5a256136b52306d691344afa565ae9a9853", func := "loop.example/g00505/laws.FnExactSigners", spec := "fnExactSigners", apart := false, narrowed := true }
def FnExactSignersUptoSaid : Prop := fnExactSignersUptoRow.holds Try.pinned (OpenSpec.upto fnExactSignersSpec)

/-- 'laws.FnExactIsInitialRoot', WHERE WHAT IT READS IS OF BULK AT MOST 1048576: true; the input reads as it did. -/
def fnExactIsInitialRootUptoRow : OpenClaim := { program := "ytjfoolffiflchaa", sum := "8f3da7b0d7620930ab23b9492928f5a256136b52306d691344afa565ae9a9853", func := "loop.example/g00505/laws.FnExactIsInitialRoot", spec := "fnExactIsInitialRoot", apart := false, narrowed := true }
def FnExactIsInitialRootUptoSaid : Prop := fnExactIsInitialRootUptoRow.holds Try.pinned (OpenSpec.upto fnExactIsInitialRootSpec)

/-- 'laws.FnExactIsSuccessor', WHERE WHAT IT READS IS OF BULK AT MOST 1048576: true; the input reads as it did. -/
def fnExactIsSuccessorUptoRow : OpenClaim := { program := "ytjfoolffiflchaa", sum := "8f3da7b0d7620930ab23b9492928f5a256136b52306d691344afa565ae9a9853", func := "loop.example/g00505/laws.FnExactIsSuccessor", spec := "fnExactIsSuccessor", apart := false, narrowed := true }
def FnExactIsSuccessorUptoSaid : Prop := fnExactIsSuccessorUptoRow.holds Try.pinned (OpenSpec.upto fnExactIsSuccessorSpec)

/-- 'laws.FnExactValidRootChain', WHERE WHAT IT READS IS OF BULK AT MOST 1048576: true; the input reads as it did. -/
def fnExactValidRootChainUptoRow : OpenClaim := { program := "ytjfoolffiflchaa", sum := "8f3da7b0d7620930ab23b9492928f5a256136b52306d691344afa565ae9a9853", func := "loop.example/g00505/laws.FnExactValidRootChain", spec := "fnExactValidRootChain", apart := false, narrowed := true }
def FnExactValidRootChainUptoSaid : Prop := fnExactValidRootChainUptoRow.holds Try.pinned (OpenSpec.upto fnExactValidRootChainSpec)

/-- 'laws.FnExactActiveRoot', WHERE WHAT IT READS IS OF BULK AT MOST 1048576: true; the input reads as it did. -/
def fnExactActiveRootUptoRow : OpenClaim := { program := "ytjfoolffiflchaa", sum := "8f3da7b0d7620930ab23b9492928f5a256136b52306d691344afa565ae9a9853", func := "loop.example/g00505/laws.FnExactActiveRoot", spec := "fnExactActiveRoot", apart := false, narrowed := true }
def FnExactActiveRootUptoSaid : Prop := fnExactActiveRootUptoRow.holds Try.pinned (OpenSpec.upto fnExactActiveRootSpec)

/-- 'laws.FnExactCertificateValid', WHERE WHAT IT READS IS OF BULK AT MOST 1048576: true; the input reads as it did. -/
def fnExactCertificateValidUptoRow : OpenClaim := { program := "ytjfoolffiflchaa", sum := "8f3da7b0d7620930ab23b9492928f5a256136b52306d691344afa565ae9a9853", func := "loop.example/g00505/laws.FnExactCertificateValid", spec := "fnExactCertificateValid", apart := false, narrowed := true }
def FnExactCertificateValidUptoSaid : Prop := fnExactCertificateValidUptoRow.holds Try.pinned (OpenSpec.upto fnExactCertificateValidSpec)

/-- 'laws.FnExactFindCertificate', WHERE WHAT IT READS IS OF BULK AT MOST 1048576: true; the input reads as it did. -/
def fnExactFindCertificateUptoRow : OpenClaim := { program := "ytjfoolffiflchaa", sum := "8f3da7b0d7620930ab23b9492928f5a256136b52306d691344afa565ae9a9853", func := "loop.example/g00505/laws.FnExactFindCertificate", spec := "fnExactFindCertificate", apart := false, narrowed := true }
def FnExactFindCertificateUptoSaid : Prop := fnExactFindCertificateUptoRow.holds Try.pinned (OpenSpec.upto fnExactFindCertificateSpec)

/-- 'laws.FnExactUpdateRoots', WHERE WHAT IT READS IS OF BULK AT MOST 1048576: true; the input reads as it did. -/
def fnExactUpdateRootsUptoRow : OpenClaim := { program := "ytjfoolffiflchaa", sum := "8f3da7b0d7620930ab23b9492928f5a256136b52306d691344afa565ae9a9853", func := "loop.example/g00505/laws.FnExactUpdateRoots", spec := "fnExactUpdateRoots", apart := false, narrowed := true }
def FnExactUpdateRootsUptoSaid : Prop := fnExactUpdateRootsUptoRow.holds Try.pinned (OpenSpec.upto fnExactUpdateRootsSpec)

/-- 'laws.FnExactCertifiedASes', WHERE WHAT IT READS IS OF BULK AT MOST 1048576: true; the input reads as it did. -/
def fnExactCertifiedASesUptoRow : OpenClaim := { program := "ytjfoolffiflchaa", sum := "8f3da7b0d7620930ab23b9492928f5a256136b52306d691344afa565ae9a9853", func := "loop.example/g00505/laws.FnExactCertifiedASes", spec := "fnExactCertifiedASes", apart := false, narrowed := true }
def FnExactCertifiedASesUptoSaid : Prop := fnExactCertifiedASesUptoRow.holds Try.pinned (OpenSpec.upto fnExactCertifiedASesSpec)

/-- 'laws.FnExactIssueCertificate', WHERE WHAT IT READS IS OF BULK AT MOST 1048576: true; the input reads as it did. -/
def fnExactIssueCertificateUptoRow : OpenClaim := { program := "ytjfoolffiflchaa", sum := "8f3da7b0d7620930ab23b9492928f5a256136b52306d691344afa565ae9a9853", func := "loop.example/g00505/laws.FnExactIssueCertificate", spec := "fnExactIssueCertificate", apart := false, narrowed := true }
def FnExactIssueCertificateUptoSaid : Prop := fnExactIssueCertificateUptoRow.holds Try.pinned (OpenSpec.upto fnExactIssueCertificateSpec)

/-- 'laws.FnUsurps', WHERE WHAT IT READS IS OF BULK AT MOST 1048576: true; the input reads as it did. -/
def fnUsurpsUptoRow : OpenClaim := { program := "ytjfoolffiflchaa", sum := "8f3da7b0d7620930ab23b9492928f5a256136b52306d691344afa565ae9a9853", func := "loop.example/g00505/laws.FnUsurps", spec := "fnUsurps", apart := false, narrowed := true }
def FnUsurpsUptoSaid : Prop := fnUsurpsUptoRow.holds Try.pinned (OpenSpec.upto fnUsurpsSpec)

end Rows
end Go.Proofs.Ytjfoolffiflchaa
