/-
  No cell of these rows narrows 'for every input' (looked for: loops, veiled, ifaces, maps, wideKeys, modest, calm, conditions, laid).
  DERIVED. THE GIVEN ROWS OF THIS SEAT. 7 by the template 'for every input the law returns true; each argument reads behind the call as it read before'; 0 by the template 'total and deterministic' (their statements: YtdcfidlngbhpcaaGreatTotals.lean).
  GIVEN WITH THE SEED: the statements are not yours to turn. If you find one false, say at which input.
  Laid BY PROGRAM, IN A SANDBOX (cutbox-rows.mjs): the forced cells as the released guide's own fill.sh prints them over the translation 5be512e17336ccfa… (all of the seat's roots in one cut). By AI agents, Wed Nov 11 2026. No macro, syntax, notation, axiom, sorry.
-/
import Derived.Test.YtdcfidlngbhpcaaGreatChecked
import GoSem.Claim
import GoSem.ClaimJoined
import GoSem.ClaimMapViews
import Derived.JoinedTies
import Derived.KernelRfl
namespace Go.Proofs.YtdcfidlngbhpcaaGreat
/- THE CELL 'sum', in the pinned program and in every row, IS THE sha256 OF THE DUMP (.gsa) THAT YtdcfidlngbhpcaaGreatProg.lean LOADS. Nothing in Lean hashes anything: it is a label: what it is worth is what the hold of that sum in a sandbox is worth. -/
noncomputable def Tryz.pinned : Pinned := { name := "ytdcfidlngbhpcaagreat", sum := "5be512e17336ccfa4513ae08c4feb71d80f9fcf8c6ef3dcfc9f1b45aa7903292", checked := Tryz.checked }
namespace Rows
def none {H : Type} : Left H := { results := [], args := [] }

/-- 'laws.FnExactAddSegment': WHATEVER THE INPUT: true; the input reads as it did. -/
def fnExactAddSegmentSpec : ChangeSpec := { name := "fnExactAddSegment", fn := fun _ => fun
  | [d1, d2, d3] => { results := [.lit (.bool true)], args := [d1, d2, d3] }
  | _ => none }
def fnExactAddSegmentRow : OpenClaim := { program := "ytdcfidlngbhpcaagreat", sum := "5be512e17336ccfa4513ae08c4feb71d80f9fcf8c6ef3dcfc9f1b45aa7903292", func := "loop.example/g00505/laws.FnExactAddSegment", spec := "fnExactAddSegment", apart := false }
def FnExactAddSegmentSaid : Prop := fnExactAddSegmentRow.holds Tryz.pinned (OpenSpec.ofChange fnExactAddSegmentSpec)

/-- ITS FALSE NEIGHBOUR: 'it returns false'. Refute it at one input. -/
def fnExactAddSegmentWrong : ChangeSpec := { name := "fnExactAddSegment", fn := fun _ => fun
  | [d1, d2, d3] => { results := [.lit (.bool false)], args := [d1, d2, d3] }
  | _ => none }
def FnExactAddSegmentWrongFalsely : Prop := fnExactAddSegmentRow.holds Tryz.pinned (OpenSpec.ofChange fnExactAddSegmentWrong)

/-- 'laws.FnExactStoreBeacon': WHATEVER THE INPUT: true; the input reads as it did. -/
def fnExactStoreBeaconSpec : ChangeSpec := { name := "fnExactStoreBeacon", fn := fun _ => fun
  | [d1, d2, d3, d4] => { results := [.lit (.bool true)], args := [d1, d2, d3, d4] }
  | _ => none }
def fnExactStoreBeaconRow : OpenClaim := { program := "ytdcfidlngbhpcaagreat", sum := "5be512e17336ccfa4513ae08c4feb71d80f9fcf8c6ef3dcfc9f1b45aa7903292", func := "loop.example/g00505/laws.FnExactStoreBeacon", spec := "fnExactStoreBeacon", apart := false }
def FnExactStoreBeaconSaid : Prop := fnExactStoreBeaconRow.holds Tryz.pinned (OpenSpec.ofChange fnExactStoreBeaconSpec)

/-- ITS FALSE NEIGHBOUR: 'it returns false'. Refute it at one input. -/
def fnExactStoreBeaconWrong : ChangeSpec := { name := "fnExactStoreBeacon", fn := fun _ => fun
  | [d1, d2, d3, d4] => { results := [.lit (.bool false)], args := [d1, d2, d3, d4] }
  | _ => none }
def FnExactStoreBeaconWrongFalsely : Prop := fnExactStoreBeaconRow.holds Tryz.pinned (OpenSpec.ofChange fnExactStoreBeaconWrong)

/-- 'laws.FnExactBuildDatabase': WHATEVER THE INPUT: true; the input reads as it did. -/
def fnExactBuildDatabaseSpec : ChangeSpec := { name := "fnExactBuildDatabase", fn := fun _ => fun
  | [d1, d2, d3] => { results := [.lit (.bool true)], args := [d1, d2, d3] }
  | _ => none }
def fnExactBuildDatabaseRow : OpenClaim := { program := "ytdcfidlngbhpcaagreat", sum := "5be512e17336ccfa4513ae08c4feb71d80f9fcf8c6ef3dcfc9f1b45aa7903292", func := "loop.example/g00505/laws.FnExactBuildDatabase", spec := "fnExactBuildDatabase", apart := false }
def FnExactBuildDatabaseSaid : Prop := fnExactBuildDatabaseRow.holds Tryz.pinned (OpenSpec.ofChange fnExactBuildDatabaseSpec)

/-- ITS FALSE NEIGHBOUR: 'it returns false'. Refute it at one input. -/
def fnExactBuildDatabaseWrong : ChangeSpec := { name := "fnExactBuildDatabase", fn := fun _ => fun
  | [d1, d2, d3] => { results := [.lit (.bool false)], args := [d1, d2, d3] }
  | _ => none }
def FnExactBuildDatabaseWrongFalsely : Prop := fnExactBuildDatabaseRow.holds Tryz.pinned (OpenSpec.ofChange fnExactBuildDatabaseWrong)

/-- 'laws.FnExactPropagated': WHATEVER THE INPUT: true; the input reads as it did. -/
def fnExactPropagatedSpec : ChangeSpec := { name := "fnExactPropagated", fn := fun _ => fun
  | [d1, d2, d3, d4] => { results := [.lit (.bool true)], args := [d1, d2, d3, d4] }
  | _ => none }
def fnExactPropagatedRow : OpenClaim := { program := "ytdcfidlngbhpcaagreat", sum := "5be512e17336ccfa4513ae08c4feb71d80f9fcf8c6ef3dcfc9f1b45aa7903292", func := "loop.example/g00505/laws.FnExactPropagated", spec := "fnExactPropagated", apart := false }
def FnExactPropagatedSaid : Prop := fnExactPropagatedRow.holds Tryz.pinned (OpenSpec.ofChange fnExactPropagatedSpec)

/-- ITS FALSE NEIGHBOUR: 'it returns false'. Refute it at one input. -/
def fnExactPropagatedWrong : ChangeSpec := { name := "fnExactPropagated", fn := fun _ => fun
  | [d1, d2, d3, d4] => { results := [.lit (.bool false)], args := [d1, d2, d3, d4] }
  | _ => none }
def FnExactPropagatedWrongFalsely : Prop := fnExactPropagatedRow.holds Tryz.pinned (OpenSpec.ofChange fnExactPropagatedWrong)

/-- 'laws.FnExactDeliverBeacons': WHATEVER THE INPUT: true; the input reads as it did. -/
def fnExactDeliverBeaconsSpec : ChangeSpec := { name := "fnExactDeliverBeacons", fn := fun _ => fun
  | [d1, d2, d3] => { results := [.lit (.bool true)], args := [d1, d2, d3] }
  | _ => none }
def fnExactDeliverBeaconsRow : OpenClaim := { program := "ytdcfidlngbhpcaagreat", sum := "5be512e17336ccfa4513ae08c4feb71d80f9fcf8c6ef3dcfc9f1b45aa7903292", func := "loop.example/g00505/laws.FnExactDeliverBeacons", spec := "fnExactDeliverBeacons", apart := false }
def FnExactDeliverBeaconsSaid : Prop := fnExactDeliverBeaconsRow.holds Tryz.pinned (OpenSpec.ofChange fnExactDeliverBeaconsSpec)

/-- ITS FALSE NEIGHBOUR: 'it returns false'. Refute it at one input. -/
def fnExactDeliverBeaconsWrong : ChangeSpec := { name := "fnExactDeliverBeacons", fn := fun _ => fun
  | [d1, d2, d3] => { results := [.lit (.bool false)], args := [d1, d2, d3] }
  | _ => none }
def FnExactDeliverBeaconsWrongFalsely : Prop := fnExactDeliverBeaconsRow.holds Tryz.pinned (OpenSpec.ofChange fnExactDeliverBeaconsWrong)

/-- 'laws.FnExactRunBeaconRound': WHATEVER THE INPUT: true; the input reads as it did. -/
def fnExactRunBeaconRoundSpec : ChangeSpec := { name := "fnExactRunBeaconRound", fn := fun _ => fun
  | [d1, d2, d3] => { results := [.lit (.bool true)], args := [d1, d2, d3] }
  | _ => none }
def fnExactRunBeaconRoundRow : OpenClaim := { program := "ytdcfidlngbhpcaagreat", sum := "5be512e17336ccfa4513ae08c4feb71d80f9fcf8c6ef3dcfc9f1b45aa7903292", func := "loop.example/g00505/laws.FnExactRunBeaconRound", spec := "fnExactRunBeaconRound", apart := false }
def FnExactRunBeaconRoundSaid : Prop := fnExactRunBeaconRoundRow.holds Tryz.pinned (OpenSpec.ofChange fnExactRunBeaconRoundSpec)

/-- ITS FALSE NEIGHBOUR: 'it returns false'. Refute it at one input. -/
def fnExactRunBeaconRoundWrong : ChangeSpec := { name := "fnExactRunBeaconRound", fn := fun _ => fun
  | [d1, d2, d3] => { results := [.lit (.bool false)], args := [d1, d2, d3] }
  | _ => none }
def FnExactRunBeaconRoundWrongFalsely : Prop := fnExactRunBeaconRoundRow.holds Tryz.pinned (OpenSpec.ofChange fnExactRunBeaconRoundWrong)

/-- 'laws.FnExactRunBeaconing': WHATEVER THE INPUT: true; the input reads as it did. -/
def fnExactRunBeaconingSpec : ChangeSpec := { name := "fnExactRunBeaconing", fn := fun _ => fun
  | [d1, d2, d3] => { results := [.lit (.bool true)], args := [d1, d2, d3] }
  | _ => none }
def fnExactRunBeaconingRow : OpenClaim := { program := "ytdcfidlngbhpcaagreat", sum := "5be512e17336ccfa4513ae08c4feb71d80f9fcf8c6ef3dcfc9f1b45aa7903292", func := "loop.example/g00505/laws.FnExactRunBeaconing", spec := "fnExactRunBeaconing", apart := false }
def FnExactRunBeaconingSaid : Prop := fnExactRunBeaconingRow.holds Tryz.pinned (OpenSpec.ofChange fnExactRunBeaconingSpec)

/-- ITS FALSE NEIGHBOUR: 'it returns false'. Refute it at one input. -/
def fnExactRunBeaconingWrong : ChangeSpec := { name := "fnExactRunBeaconing", fn := fun _ => fun
  | [d1, d2, d3] => { results := [.lit (.bool false)], args := [d1, d2, d3] }
  | _ => none }
def FnExactRunBeaconingWrongFalsely : Prop := fnExactRunBeaconingRow.holds Tryz.pinned (OpenSpec.ofChange fnExactRunBeaconingWrong)

/- THE SECOND FORM. 'bulk': how many values and letters a reading holds, each counted each time it is reached (what is shared counts as often as it is met; a slice's spare places count too). A statement '..UptoSaid' is the law's where the arguments, and the package variables that the reading takes, are together of bulk at most 1048576: NARROWER than '..Said'. Prove '..Said' where nothing that the law and all that it calls make is longer than what came in: it says more and counts as full. Else prove '..UptoSaid'. A law counts once. -/
mutual
def uptoBulk {H : Type} : DataW H → Nat
  | .lit (.string bytes) => bytes.length + 1
  | .lit _ => 1
  | .nil => 1
  | .ptr d => uptoBulk d + 1
  | .slice elems spare => uptoBulkAll elems + uptoBulkAll spare + 1
  | .agg parts => uptoBulkAll parts + 1
  | .iface _ d => uptoBulk d + 1
  | .map entries => uptoBulkEntries entries + 1
  | .held _ => 1
def uptoBulkAll {H : Type} : List (DataW H) → Nat
  | [] => 0
  | d :: r => uptoBulk d + uptoBulkAll r
def uptoBulkEntries {H : Type} : List (Lit × DataW H) → Nat
  | [] => 0
  | x :: r => uptoBulkEntry x + uptoBulkEntries r
def uptoBulkEntry {H : Type} : Lit × DataW H → Nat
  | (.string bytes, d) => bytes.length + uptoBulk d + 1
  | (_, d) => uptoBulk d + 1
 end
def uptoSmall : (H : Type) → List (DataW H) → Bool := fun _ ds => decide (uptoBulkAll ds ≤ 1048576)
def OpenSpec.upto (s : _root_.Go.ChangeSpec) : _root_.Go.OpenSpec := { _root_.Go.OpenSpec.ofChange s with cond := some uptoSmall }

/-- 'laws.FnExactAddSegment', WHERE WHAT IT READS IS OF BULK AT MOST 1048576: true; the input reads as it did. -/
def fnExactAddSegmentUptoRow : OpenClaim := { program := "ytdcfidlngbhpcaagreat", sum := "5be512e17336ccfa4513ae08c4feb71d80f9fcf8c6ef3dcfc9f1b45aa7903292", func := "loop.example/g00505/laws.FnExactAddSegment", spec := "fnExactAddSegment", apart := false, narrowed := true }
def FnExactAddSegmentUptoSaid : Prop := fnExactAddSegmentUptoRow.holds Tryz.pinned (OpenSpec.upto fnExactAddSegmentSpec)

/-- 'laws.FnExactStoreBeacon', WHERE WHAT IT READS IS OF BULK AT MOST 1048576: true; the input reads as it did. -/
def fnExactStoreBeaconUptoRow : OpenClaim := { program := "ytdcfidlngbhpcaagreat", sum := "5be512e17336ccfa4513ae08c4feb71d80f9fcf8c6ef3dcfc9f1b45aa7903292", func := "loop.example/g00505/laws.FnExactStoreBeacon", spec := "fnExactStoreBeacon", apart := false, narrowed := true }
def FnExactStoreBeaconUptoSaid : Prop := fnExactStoreBeaconUptoRow.holds Tryz.pinned (OpenSpec.upto fnExactStoreBeaconSpec)

/-- 'laws.FnExactBuildDatabase', WHERE WHAT IT READS IS OF BULK AT MOST 1048576: true; the input reads as it did. -/
def fnExactBuildDatabaseUptoRow : OpenClaim := { program := "ytdcfidlngbhpcaagreat", sum := "5be512e17336ccfa4513ae08c4feb71d80f9fcf8c6ef3dcfc9f1b45aa7903292", func := "loop.example/g00505/laws.FnExactBuildDatabase", spec := "fnExactBuildDatabase", apart := false, narrowed := true }
def FnExactBuildDatabaseUptoSaid : Prop := fnExactBuildDatabaseUptoRow.holds Tryz.pinned (OpenSpec.upto fnExactBuildDatabaseSpec)

/-- 'laws.FnExactPropagated', WHERE WHAT IT READS IS OF BULK AT MOST 1048576: true; the input reads as it did. -/
def fnExactPropagatedUptoRow : OpenClaim := { program := "ytdcfidlngbhpcaagreat", sum := "5be512e17336ccfa4513ae08c4feb71d80f9fcf8c6ef3dcfc9f1b45aa7903292", func := "loop.example/g00505/laws.FnExactPropagated", spec := "fnExactPropagated", apart := false, narrowed := true }
def FnExactPropagatedUptoSaid : Prop := fnExactPropagatedUptoRow.holds Tryz.pinned (OpenSpec.upto fnExactPropagatedSpec)

/-- 'laws.FnExactDeliverBeacons', WHERE WHAT IT READS IS OF BULK AT MOST 1048576: true; the input reads as it did. -/
def fnExactDeliverBeaconsUptoRow : OpenClaim := { program := "ytdcfidlngbhpcaagreat", sum := "5be512e17336ccfa4513ae08c4feb71d80f9fcf8c6ef3dcfc9f1b45aa7903292", func := "loop.example/g00505/laws.FnExactDeliverBeacons", spec := "fnExactDeliverBeacons", apart := false, narrowed := true }
def FnExactDeliverBeaconsUptoSaid : Prop := fnExactDeliverBeaconsUptoRow.holds Tryz.pinned (OpenSpec.upto fnExactDeliverBeaconsSpec)

/-- 'laws.FnExactRunBeaconRound', WHERE WHAT IT READS IS OF BULK AT MOST 1048576: true; the input reads as it did. -/
def fnExactRunBeaconRoundUptoRow : OpenClaim := { program := "ytdcfidlngbhpcaagreat", sum := "5be512e17336ccfa4513ae08c4feb71d80f9fcf8c6ef3dcfc9f1b45aa7903292", func := "loop.example/g00505/laws.FnExactRunBeaconRound", spec := "fnExactRunBeaconRound", apart := false, narrowed := true }
def FnExactRunBeaconRoundUptoSaid : Prop := fnExactRunBeaconRoundUptoRow.holds Tryz.pinned (OpenSpec.upto fnExactRunBeaconRoundSpec)

/-- 'laws.FnExactRunBeaconing', WHERE WHAT IT READS IS OF BULK AT MOST 1048576: true; the input reads as it did. -/
def fnExactRunBeaconingUptoRow : OpenClaim := { program := "ytdcfidlngbhpcaagreat", sum := "5be512e17336ccfa4513ae08c4feb71d80f9fcf8c6ef3dcfc9f1b45aa7903292", func := "loop.example/g00505/laws.FnExactRunBeaconing", spec := "fnExactRunBeaconing", apart := false, narrowed := true }
def FnExactRunBeaconingUptoSaid : Prop := fnExactRunBeaconingUptoRow.holds Tryz.pinned (OpenSpec.upto fnExactRunBeaconingSpec)

end Rows
end Go.Proofs.YtdcfidlngbhpcaaGreat
