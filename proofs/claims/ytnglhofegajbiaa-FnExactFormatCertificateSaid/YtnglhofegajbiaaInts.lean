/- The laws' helpers on []int: copying, comparing, marking, asking the marks. -/
import Derived.Test.YtnglhofegajbiaaProg
import Derived.Test.YtnglhofegajbiaaTypes
namespace Go.Proofs.Ytnglhofegajbiaa
open Go.RowKit
set_option linter.unusedVariables false
theorem info_int : (Try.prog.info? 3).map (fun i => (i.zero, i.size, i.bytes)) = some (some (.int .i64 0), 1, 8) := by kernel_rfl

/-- What is left of a budget. -/
def szR (t : Nat) (left : Int) : Int := if left < t then -1 else left - t
theorem szR_neg {t : Nat} {left : Int} (h : left < t) : szR t left = -1 := by simp [szR, h]
theorem szR_pos {t : Nat} {left : Int} (h : (t : Int) ≤ left) : szR t left = left - t := by simp [szR, Int.not_lt.2 h]
/-- A []int of the call's own. -/
abbrev IntSO (lo hi : Nat) (w : World) (v : Value) (xs : List Int) : Prop := Own 3 1 lo hi w v xs.length (xs.map I)
theorem IntSO_rd {lo hi : Nat} {w : World} {v : Value} {xs : List Int} (h : IntSO lo hi w v xs) : IntS w.heap.size w v xs := (Own.lt_size h).ints

/-- What marking from q on writes. -/
def intsNum (q n : Nat) : List Int := (List.range n).map fun j => ((q + j : Nat) : Int)
theorem intsNum_len {q n : Nat} : (intsNum q n).length = n := by simp [intsNum]

end Go.Proofs.Ytnglhofegajbiaa
