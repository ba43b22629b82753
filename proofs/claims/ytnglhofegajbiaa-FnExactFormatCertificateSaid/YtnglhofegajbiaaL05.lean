/- Contracts of the program's and the reference's functions on topologies. -/
import Derived.Test.YtnglhofegajbiaaL03
import Derived.Test.YtnglhofegajbiaaHTopology
import Derived.Test.YtnglhofegajbiaaGrow
namespace Go.Proofs.Ytnglhofegajbiaa
open Go.RowKit
set_option linter.unusedVariables false
def isAs (t : DTopology) (r : Int) : Bool := inR r 0 (t.ases.length - 1)
def asAt (t : DTopology) (r : Int) : DAS := t.ases.getD r.toNat ⟨0, false, 0⟩
theorem asAt_nat (t : DTopology) (k : Nat) (h : k < t.ases.length) : asAt t k = t.ases[k] := by simp [asAt, List.getD_eq_getElem?_getD, List.getElem?_eq_getElem h]
theorem isAs_nat {t : DTopology} {r : Int} (h : isAs t r = true) : ∃ k : Nat, r = k ∧ k < t.ases.length := by
  obtain ⟨i0, i1⟩ := inR_iff.1 h
  obtain ⟨k, rfl⟩ := Int.eq_ofNat_of_zero_le i0
  exact ⟨k, rfl, by omega⟩
def isCore (t : DTopology) (r : Int) : Bool := isAs t r && (asAt t r).core
set_option maxRecDepth 100000 in
set_option maxHeartbeats 1000000 in
theorem impl_isAS (v : Value) (r : Int) (t : DTopology) (w : World) (h : TopologyV w.heap.size w v t) :
    Calls Try.prog 38 #[v, I r] w fun e w' => e = .returned (.bool (isAs t r)) ∧ Ext w w' := by
  obtain ⟨A0, n0, c0, A1, n1, c1, rfl, s0, s1⟩ := h
  obtain ⟨hl0, h1, h2⟩ := s0.len
  subst hl0
  unfold maxLen at h2
  clear s0 s1
  go_enter Try.func38, Try.ntmps38
  go_wp2_with fail
  refine (impl_InRange _ _ _ _).mono ?_
  rintro e w' ⟨rfl, rfl⟩
  go_wp2_with fail
  go_ret
  exact ⟨rfl, (by repeat (first | (with_reducible exact Ext.refl _) | (with_reducible assumption) | (with_reducible refine Ext.alloc ?_ _) | (with_reducible refine Ext.drew ?_) | (with_reducible refine Ext.drewN ?_ _) | (with_reducible refine Ext.setCell (p := _) ?_ ?ge _; case ge => (dsimp only; omega)) | (with_reducible refine Ext.trans ?_ (by with_reducible assumption))))⟩
set_option maxRecDepth 100000 in
set_option maxHeartbeats 1000000 in
theorem spec_l5Realm (v : Value) (r : Int) (t : DTopology) (w : World) (h : TopologyV w.heap.size w v t) :
    Calls Try.prog 35 #[v, I r] w fun e w' => e = .returned (.bool (isAs t r)) ∧ Ext w w' := by
  obtain ⟨A0, n0, c0, A1, n1, c1, rfl, s0, s1⟩ := h
  obtain ⟨hl0, h1, h2⟩ := s0.len
  subst hl0
  unfold maxLen at h2
  clear s0 s1
  go_enter Try.func35, Try.ntmps35
  go_wp2_with fail
  refine (spec_l1In _ _ _ _).mono ?_
  rintro e w' ⟨rfl, rfl⟩
  go_wp2_with fail
  go_ret
  exact ⟨rfl, (by repeat (first | (with_reducible exact Ext.refl _) | (with_reducible assumption) | (with_reducible refine Ext.alloc ?_ _) | (with_reducible refine Ext.drew ?_) | (with_reducible refine Ext.drewN ?_ _) | (with_reducible refine Ext.setCell (p := _) ?_ ?ge _; case ge => (dsimp only; omega)) | (with_reducible refine Ext.trans ?_ (by with_reducible assumption))))⟩
end Go.Proofs.Ytnglhofegajbiaa
