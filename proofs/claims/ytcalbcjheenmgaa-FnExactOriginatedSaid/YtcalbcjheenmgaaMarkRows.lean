/- Marks of a []int at the one block that it has. Printed by gen.py. -/
import Derived.Test.YtcalbcjheenmgaaInts
import Derived.Test.YtcalbcjheenmgaaMarks
namespace Go.Proofs.Ytcalbcjheenmgaa
open Go.RowKit
set_option linter.unusedVariables false
theorem markIntS_row (v : Value) (xs : List Int) (q : Nat) (qi : Int) (w : World) (h : w.ownsRow 0 3 1 v xs.length (xs.map I)) (hqi : qi = (q : Int)) (hq : q + xs.length ≤ 1000000000000000) :
    Calls Try.prog 82 #[v, I qi] w fun e w' => e = .returned (I ((q + xs.length : Nat) : Int)) ∧ w'.ownsRow 0 3 1 v xs.length ((intsNum q xs.length).map I) ∧ OutF v.ownBlock.toList w w' := by
  subst hqi
  exact calls_row h fun lo hi ho => markIntS v xs q lo hi w ho hq
theorem heldIntS_at (v : Value) (n q : Nat) (qi : Int) (w : World) (h : IntS w.heap.size w v (intsNum q n)) (hqi : qi = (q : Int)) (hq : q + n ≤ 1000000000000000) :
    Calls Try.prog 84 #[v, I qi] w fun e w' => e = .returned (I ((q + n : Nat) : Int)) ∧ Ext w w' := by
  subst hqi
  exact heldIntS v n q w h hq
end Go.Proofs.Ytcalbcjheenmgaa
