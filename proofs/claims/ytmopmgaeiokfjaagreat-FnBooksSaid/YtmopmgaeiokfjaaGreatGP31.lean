/- The plain law of FnRoundsOf: a round of beaconing keeps valid stores, and no store becomes shorter. No program in sight. -/
import Derived.Test.YtmopmgaeiokfjaaGreatL15d
import Derived.Test.YtmopmgaeiokfjaaGreatL15c
import Derived.Test.YtmopmgaeiokfjaaGreatGL14
import Derived.Test.YtmopmgaeiokfjaaGreatGL5d
namespace Go.Proofs.YtmopmgaeiokfjaaGreat
theorem runRound_small {t : DTopology} {l : List DPolicy} {b : DBeaconing} (h : Small b.stores) : Small (runRound t l b).stores := by
 unfold runRound delB;dsimp only;split
 · exact delFold_small _ _ h
 · exact h
theorem newBeac_small (t : DTopology) (ts : Int) : Small (newBeac t ts).stores := runTo_small t [] ts 0
end Go.Proofs.YtmopmgaeiokfjaaGreat
namespace Go.Proofs.YtmopmgaeiokfjaaGreat
open Go.RowKit
set_option linter.unusedVariables false
structure VSeg (t : DTopology) (s : DSegment) : Prop where
 pos : 0 < s.hops.length
 len : s.hops.length ≤ 8
 hop : ∀ k, k < s.hops.length → hopFine t s.hops k = true
 ing0 : (s.hops.getD 0 dHop).ing = 0
 step : ∀ k, k < s.hops.length → stepFine t s.hops k = true
 ver : ∀ k : Nat, k < s.hops.length → verifyHop t s.ts (betaAt s k) (s.hops.getD k dHop) = true
 core : isCore t (s.hops.getD 0 dHop).asn = true
 kind : kindFold t s.hops = some 1 ∨ kindFold t s.hops = some 2
 ts0 : 0 ≤ s.ts
 ts1 : s.ts ≤ 1000000
 be : isRes s.beta = true
end Go.Proofs.YtmopmgaeiokfjaaGreat
