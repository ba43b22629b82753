/- The contract of the program's AuthenticatedBy. No conditions. -/
import Derived.Test.YtpkcoinoiaaebaaGreatGL10a
import Derived.Test.YtpkcoinoiaaebaaGreatGL5d
namespace Go.Proofs.YtpkcoinoiaaebaaGreat
open Go.RowKit
set_option linter.unusedVariables false
/-- v is u. -/
inductive IsA (u : Value) : Value → Prop where
  | mk : IsA u u
def authAt (t : DTopology) (s : DSegment) (r : Int) (k : Nat) : Bool := (s.hops.getD k dHop).asn == r && verifyHop t s.ts (betaAt s k) (s.hops.getD k dHop)
def authBy (t : DTopology) (s : DSegment) (r : Int) : Bool := (List.range s.hops.length).any (authAt t s r)
end Go.Proofs.YtpkcoinoiaaebaaGreat

