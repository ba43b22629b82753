/- Contracts of the program's and the reference's functions on the segment database: DownSegments, CoreSegments. -/
import Derived.Test.YtcalbcjheenmgaaL09c
import Derived.Test.YtcalbcjheenmgaaHSegmentDatabase
namespace Go.Proofs.Ytcalbcjheenmgaa
open Go.RowKit
set_option linter.unusedVariables false
abbrev segTot (l : List DSegment) : Nat := totS (fun u => u.hops.length) l
def downSegs (k : DSegmentDatabase) (r : Int) : List DSegment := k.down.filter fun s => lastAS s == r
def btw (a b : Int) (s : DSegment) : Bool := firstAS s == a && lastAS s == b
def coreFrom (k : DSegmentDatabase) (a b : Int) : List DSegment := k.core.filter (btw a b)
def coreSegs (k : DSegmentDatabase) (a b : Int) : List DSegment := coreFrom k a b ++ coreFrom k b a
end Go.Proofs.Ytcalbcjheenmgaa
