/- Contracts of the program's and the reference's functions on path parts. -/
import Derived.Test.YtcalbcjheenmgaaL09
import Derived.Test.YtcalbcjheenmgaaHPathPart
namespace Go.Proofs.Ytcalbcjheenmgaa
open Go.RowKit
set_option linter.unusedVariables false
def isRev (k : Int) : Bool := k == 1 || k == 3
def hopAt (l : List DHop) (i : Int) : DHop := l.getD i.toNat ⟨0, 0, 0, 0, 0⟩
def partEgr (p : DPathPart) (i : Int) : Int := if inR i 0 (p.hops.length - 1) then (if isRev p.kind then (hopAt p.hops i).ing else (hopAt p.hops i).egr) else 0
def partIng (p : DPathPart) (i : Int) : Int := if inR i 0 (p.hops.length - 1) then (if isRev p.kind then (hopAt p.hops i).egr else (hopAt p.hops i).ing) else 0
theorem hopAt_nat (l : List DHop) (k : Nat) (h : k < l.length) : hopAt l k = l[k] := by simp [hopAt, List.getD_eq_getElem?_getD, List.getElem?_eq_getElem h]
set_option maxRecDepth 100000 in
set_option maxHeartbeats 1000000 in
theorem impl_IsReversed (k : Int) (w : World) : Calls Try.prog 70 #[I k] w fun e w' => e = .returned (.bool (isRev k)) ∧ w = w' := by
  by_cases h1 : k = 1
  · subst h1
    go_enter Try.func70, Try.ntmps70
    go_wp2
    go_ret
    exact ⟨rfl, rfl⟩
  · have h1' : (k == 1) = false := by simp [h1]
    by_cases h3 : k = 3
    · subst h3
      go_enter Try.func70, Try.ntmps70
      go_wp2
      go_ret
      exact ⟨rfl, rfl⟩
    · have h3' : (k == 3) = false := by simp [h3]
      have HF := Lib.hid (show isRev k = false by simp [isRev, h1, h3])
      clear h1 h3
      go_enter Try.func70, Try.ntmps70
      go_wp2
      go_ret
      exact ⟨ret_bool HF.out.symm, rfl⟩
set_option maxRecDepth 100000 in
set_option maxHeartbeats 1000000 in
theorem spec_IsReversed (k : Int) (w : World) : Calls Try.prog 65 #[I k] w fun e w' => e = .returned (.bool (isRev k)) ∧ w = w' := by
  by_cases h1 : k = 1
  · subst h1
    go_enter Try.func65, Try.ntmps65
    go_wp2
    go_ret
    exact ⟨rfl, rfl⟩
  · have h1' : (k == 1) = false := by simp [h1]
    by_cases h3 : k = 3
    · subst h3
      go_enter Try.func65, Try.ntmps65
      go_wp2
      go_ret
      exact ⟨rfl, rfl⟩
    · have h3' : (k == 3) = false := by simp [h3]
      have HF := Lib.hid (show isRev k = false by simp [isRev, h1, h3])
      clear h1 h3
      go_enter Try.func65, Try.ntmps65
      go_wp2
      go_ret
      exact ⟨ret_bool HF.out.symm, rfl⟩
/-- The chaining value over some hops. -/
def chain (rev : Bool) (b : Int) (l : List DHop) : Int := l.foldl (fun b h => if rev then subM b h.mac else addM b h.mac) b
def betaAfter (p : DPathPart) (i : Int) : Int := if inR i 0 p.hops.length then chain (isRev p.kind) p.beta (p.hops.take i.toNat) else 0
theorem chain_snoc (rev : Bool) (b : Int) (l : List DHop) (k : Nat) (h : k < l.length) : chain rev b (l.take (k + 1)) = if rev then subM (chain rev b (l.take k)) l[k].mac else addM (chain rev b (l.take k)) l[k].mac := foldl_snoc _ b l k h
end Go.Proofs.Ytcalbcjheenmgaa
