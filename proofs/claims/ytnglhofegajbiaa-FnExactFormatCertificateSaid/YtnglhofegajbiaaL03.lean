/- Contracts of the program's and the reference's functions on residues, digests and codes. -/
import Derived.Test.YtnglhofegajbiaaL01
namespace Go.Proofs.Ytnglhofegajbiaa
open Go.RowKit
set_option linter.unusedVariables false
/-- The prime of the codes is 2147483647; n is a residue. -/
def isRes (n : Int) : Bool := inR n 0 2147483646
theorem isRes_iff {n : Int} : isRes n = true ↔ 0 ≤ n ∧ n ≤ 2147483646 := inR_iff
def addM (b s : Int) : Int := if isRes b && isRes s then (b + s) % 2147483647 else 0
def subM (b s : Int) : Int := if isRes b && isRes s then (b - s + 2147483647) % 2147483647 else 0
def dig1 (d x : Int) : Int := (d * 1000003 + x % 2147483647 + 11) % 2147483647
def digest (l : List Int) : Int := l.foldl dig1 7
def mac (key : Int) (l : List Int) : Int := digest ([key] ++ l ++ [key])
def sign (key : Int) (l : List Int) : Int := mac key ([77] ++ l)
theorem addM_res {b s : Int} (h1 : isRes b = true) (h2 : isRes s = true) : addM b s = (b + s) % 2147483647 := by simp [addM, h1, h2]
theorem subM_res {b s : Int} (h1 : isRes b = true) (h2 : isRes s = true) : subM b s = (b - s + 2147483647) % 2147483647 := by simp [subM, h1, h2]
theorem dig_bounds (l : List Int) (d : Int) (h : 0 ≤ d ∧ d < 2147483647) : 0 ≤ l.foldl dig1 d ∧ l.foldl dig1 d < 2147483647 := by
  induction l generalizing d with
  | nil => exact h
  | cons x l ih => exact ih _ (by unfold dig1; omega)
end Go.Proofs.Ytnglhofegajbiaa
