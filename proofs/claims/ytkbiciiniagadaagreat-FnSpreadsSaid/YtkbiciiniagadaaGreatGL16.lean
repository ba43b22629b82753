/- Contracts of the program's and the reference's functions on the segment database: HasSegment. -/
import Derived.Test.YtkbiciiniagadaaGreatGL9
import Derived.Test.YtkbiciiniagadaaGreatGHD
namespace Go.Proofs.YtkbiciiniagadaaGreat
open Go.RowKit
set_option linter.unusedVariables false
def hasSeg (l : List DSegment) (s : DSegment) : Bool := l.any fun x => decide (x = s)
theorem hasSeg_snoc (l : List DSegment) (s : DSegment) (k : Nat) (h : k < l.length) : hasSeg (l.take (k + 1)) s = (hasSeg (l.take k) s || decide (l[k] = s)) := by
  unfold hasSeg
  rw [take_snoc l k h, List.any_append]
  simp
theorem hasSeg_of (l : List DSegment) (s : DSegment) (k : Nat) (h : k < l.length) (he : decide (l[k] = s) = true) : hasSeg l s = true := by
  unfold hasSeg
  rw [List.any_eq_true]
  exact ⟨l[k], List.getElem_mem h, he⟩
def hasSegment (k : DSegmentDatabase) (s : DSegment) : Bool := hasSeg k.down s || hasSeg k.core s
end Go.Proofs.YtkbiciiniagadaaGreat
namespace Go.Proofs.YtkbiciiniagadaaGreat
open Go.RowKit
set_option linter.unusedVariables false
abbrev segTot (l : List DSegment) : Nat := totS (fun u => u.hops.length) l
def downSegs (k : DSegmentDatabase) (r : Int) : List DSegment := k.down.filter fun s => lastAS s == r
def btw (a b : Int) (s : DSegment) : Bool := firstAS s == a && lastAS s == b
def coreFrom (k : DSegmentDatabase) (a b : Int) : List DSegment := k.core.filter (btw a b)
def coreSegs (k : DSegmentDatabase) (a b : Int) : List DSegment := coreFrom k a b ++ coreFrom k b a
end Go.Proofs.YtkbiciiniagadaaGreat
