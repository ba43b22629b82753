/- Contracts of the program's MakeSet and Intersection, and what they say of elements. No conditions. -/
import Derived.Test.YtkbiciiniagadaaGreatGL0
import Derived.Test.YtkbiciiniagadaaGreatGCore
namespace Go.Proofs.YtkbiciiniagadaaGreat
open Go.RowKit
set_option linter.unusedVariables false
def interS (a b : Int) : Int := if validSet a && validSet b then ((a.toNat &&& b.toNat : Nat) : Int) else 0
theorem bit_and (a b : Int) (ha : validSet a = true) (hb : validSet b = true) : bits BinOp.and IntKind.i64 a b = ((a.toNat &&& b.toNat : Nat) : Int) := by
  obtain ⟨a0, a1⟩ := inR_iff.1 ha
  obtain ⟨b0, b1⟩ := inR_iff.1 hb
  obtain ⟨n, rfl⟩ := Int.eq_ofNat_of_zero_le a0
  obtain ⟨m, rfl⟩ := Int.eq_ofNat_of_zero_le b0
  exact (bits_nat .i64 63 (by decide) wraps_i64_63 n m (by omega) (by omega)).1
set_option maxRecDepth 100000 in
set_option maxHeartbeats 1000000 in
theorem impl_MakeSet (vl : Value) (l : List Int) (w : World) (hl : IntS w.heap.size w vl l) : Calls Tryz.prog 11 #[vl] w fun e w' => e = .returned (I (l.foldl addElem 0)) ∧ Ext w w' := by
  obtain ⟨Al, nl, cl, rfl, ll, kl, ml, -⟩ := id hl
  subst ll
  unfold maxLen at ml
  have Rl := Lib.hid hl; clear hl
  go_enter Tryz.func11, Tryz.ntmps11
  go_wp2_with fail
  go_loopw [3, 8] (fun s i wr => ∃ k : Nat, k ≤ l.length ∧ i = I k ∧ s = I ((l.take k).foldl addElem 0) ∧ Ext w wr) (fun _ i _ => l.length - (intOf i).toNat)
  case atStart => exact ⟨0, by omega, rfl, rfl, Ext.refl _⟩
  case round =>
    obtain ⟨k, hk, rfl, rfl, he⟩ := hrel
    by_cases hlt : k < l.length
    · obtain ⟨b, off, hA, hb, hkl, hc⟩ := (Rl.out.ext (w' := wr) xe).at_ hlt
      have hc : wr.cell? ⟨b, off + k, none⟩ = some (I l[k]) := hc
      have HX := Lib.hid (foldl_snoc addElem 0 l k hkl)
      generalize l[k] = y at *
      generalize (l.take k).foldl addElem 0 = s at *
      subst hA
      have i0 : (0 : Int) ≤ (k : Int) := by omega
      have i1 : (k : Int) < (l.length : Int) := by omega
      go_wp2_with fail
      refine (impl_AddElement s y wr).mono ?_
      rintro e w1 ⟨rfl, rfl⟩
      go_wp2_with fail
      go_roundw
      case rel => exact ⟨k + 1, by omega, by go_num, by rw [HX.out], he⟩
      case measure => first | (simp [intOf]; done) | (simp [intOf]; omega)
    · obtain rfl : k = l.length := by omega
      have i1 : ¬ (l.length : Int) < (l.length : Int) := by omega
      go_wp2_with fail
      go_ret
      exact ⟨by first | rfl | simp, he⟩
set_option maxRecDepth 100000 in
set_option maxHeartbeats 1000000 in
theorem impl_Intersection (a b : Int) (w : World) : Calls Tryz.prog 10 #[I a, I b] w fun e w' => e = .returned (I (interS a b)) ∧ w = w' := by
  go_enter Tryz.func10, Tryz.ntmps10
  go_wp2_with fail
  refine (impl_ValidSet a w).mono ?_
  rintro e w1 ⟨rfl, rfl⟩
  cases h1 : validSet a
  · have HF : Hid (interS a b = 0) := by unfold Hid interS; rw [h1]; rfl
    go_wp2_with fail
    go_ret
    exact ⟨ret_int HF.out.symm, rfl⟩
  go_wp2_with fail
  refine (impl_ValidSet b w).mono ?_
  rintro e w1 ⟨rfl, rfl⟩
  cases h2 : validSet b
  · have HF : Hid (interS a b = 0) := by unfold Hid interS; rw [h1, h2]; rfl
    go_wp2_with fail
    go_ret
    exact ⟨ret_int HF.out.symm, rfl⟩
  have HF : Hid (bits BinOp.and IntKind.i64 a b = interS a b) := by unfold Hid interS; rw [bit_and a b h1 h2, h1, h2]; rfl
  go_wp2_with fail
  go_ret
  exact ⟨ret_int HF.out, rfl⟩
end Go.Proofs.YtkbiciiniagadaaGreat
