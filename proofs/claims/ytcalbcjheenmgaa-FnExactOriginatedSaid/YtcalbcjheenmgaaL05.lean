/- Contracts of the program's and the reference's functions on topologies. -/
import Derived.Test.YtcalbcjheenmgaaL03
import Derived.Test.YtcalbcjheenmgaaHTopology
import Derived.Test.YtcalbcjheenmgaaGrow
namespace Go.Proofs.Ytcalbcjheenmgaa
open Go.RowKit
set_option linter.unusedVariables false
def isAs (t : DTopology) (r : Int) : Bool := inR r 0 (t.ases.length - 1)
def asAt (t : DTopology) (r : Int) : DAS := t.ases.getD r.toNat ⟨0, false, 0⟩
theorem asAt_nat (t : DTopology) (k : Nat) (h : k < t.ases.length) : asAt t k = t.ases[k] := by simp [asAt, List.getD_eq_getElem?_getD, List.getElem?_eq_getElem h]
theorem isAs_nat {t : DTopology} {r : Int} (h : isAs t r = true) : ∃ k : Nat, r = k ∧ k < t.ases.length := by
  obtain ⟨i0, i1⟩ := inR_iff.1 h
  obtain ⟨k, rfl⟩ := Int.eq_ofNat_of_zero_le i0
  exact ⟨k, rfl, by omega⟩
def isCore (t : DTopology) (r : Int) : Bool := isAs t r && (asAt t r).core
set_option maxRecDepth 100000 in
set_option maxHeartbeats 1000000 in
theorem impl_isAS (v : Value) (r : Int) (t : DTopology) (w : World) (h : TopologyV w.heap.size w v t) :
    Calls Try.prog 142 #[v, I r] w fun e w' => e = .returned (.bool (isAs t r)) ∧ Ext w w' := by
  obtain ⟨A0, n0, c0, A1, n1, c1, rfl, s0, s1⟩ := h
  obtain ⟨hl0, h1, h2⟩ := s0.len
  subst hl0
  unfold maxLen at h2
  clear s0 s1
  go_enter Try.func142, Try.ntmps142
  go_wp2_with fail
  refine (impl_InRange _ _ _ _).mono ?_
  rintro e w' ⟨rfl, rfl⟩
  go_wp2_with fail
  go_ret
  exact ⟨rfl, (by repeat (first | (with_reducible exact Ext.refl _) | (with_reducible assumption) | (with_reducible refine Ext.alloc ?_ _) | (with_reducible refine Ext.drew ?_) | (with_reducible refine Ext.drewN ?_ _) | (with_reducible refine Ext.setCell (p := _) ?_ ?ge _; case ge => (dsimp only; omega)) | (with_reducible refine Ext.trans ?_ (by with_reducible assumption))))⟩
set_option maxRecDepth 100000 in
set_option maxHeartbeats 1000000 in
theorem spec_l5Realm (v : Value) (r : Int) (t : DTopology) (w : World) (h : TopologyV w.heap.size w v t) :
    Calls Try.prog 139 #[v, I r] w fun e w' => e = .returned (.bool (isAs t r)) ∧ Ext w w' := by
  obtain ⟨A0, n0, c0, A1, n1, c1, rfl, s0, s1⟩ := h
  obtain ⟨hl0, h1, h2⟩ := s0.len
  subst hl0
  unfold maxLen at h2
  clear s0 s1
  go_enter Try.func139, Try.ntmps139
  go_wp2_with fail
  refine (spec_l1In _ _ _ _).mono ?_
  rintro e w' ⟨rfl, rfl⟩
  go_wp2_with fail
  go_ret
  exact ⟨rfl, (by repeat (first | (with_reducible exact Ext.refl _) | (with_reducible assumption) | (with_reducible refine Ext.alloc ?_ _) | (with_reducible refine Ext.drew ?_) | (with_reducible refine Ext.drewN ?_ _) | (with_reducible refine Ext.setCell (p := _) ?_ ?ge _; case ge => (dsimp only; omega)) | (with_reducible refine Ext.trans ?_ (by with_reducible assumption))))⟩
set_option maxRecDepth 100000 in
set_option maxHeartbeats 1000000 in
theorem impl_isCore (vt : Value) (r : Int) (t : DTopology) (w : World) (ht : TopologyV w.heap.size w vt t) :
    Calls Try.prog 172 #[vt, I r] w fun e w' => e = .returned (.bool (isCore t r)) ∧ Ext w w' := by
  obtain ⟨At_0, nt_0, ct_0, At_1, nt_1, ct_1, rfl, st_0, st_1⟩ := id ht
  obtain ⟨lt_0, kt_0, mt_0⟩ := st_0.len
  subst lt_0
  unfold maxLen at mt_0
  obtain ⟨lt_1, kt_1, mt_1⟩ := st_1.len
  subst lt_1
  unfold maxLen at mt_1
  have Rt := Lib.hid ht; clear ht
  have St_0 := Lib.hid st_0; clear st_0
  have St_1 := Lib.hid st_1; clear st_1
  cases hv : isAs t r
  · have HV := Lib.hid hv
    have HF : Hid (isCore t r = false) := by unfold Hid; simp [isCore, hv]
    clear hv
    go_enter Try.func172, Try.ntmps172
    go_wp2_with fail
    refine (impl_isAS _ _ t _ (by exact Rt.out.ext (by repeat (first | (with_reducible exact Ext.refl _) | (with_reducible assumption) | (with_reducible refine Ext.alloc ?_ _) | (with_reducible refine Ext.drew ?_) | (with_reducible refine Ext.drewN ?_ _) | (with_reducible refine Ext.setCell (p := _) ?_ ?ge _; case ge => (dsimp only; omega)) | (with_reducible refine Ext.trans ?_ (by with_reducible assumption)))))).mono ?_
    rintro e w1 ⟨rfl, e1⟩
    rw [HV.out]
    go_wp2_with fail
    go_ret
    exact ⟨ret_bool HF.out.symm, (by repeat (first | (with_reducible exact Ext.refl _) | (with_reducible assumption) | (with_reducible refine Ext.alloc ?_ _) | (with_reducible refine Ext.drew ?_) | (with_reducible refine Ext.drewN ?_ _) | (with_reducible refine Ext.setCell (p := _) ?_ ?ge _; case ge => (dsimp only; omega)) | (with_reducible refine Ext.trans ?_ (by with_reducible assumption))))⟩
  · obtain ⟨k, rfl, hkl⟩ := isAs_nat hv
    have HF : Hid (isCore t k = t.ases[k].core) := by unfold Hid; simp [isCore, hv, asAt_nat t k hkl]
    have HV := Lib.hid hv
    clear hv
    go_enter Try.func172, Try.ntmps172
    go_wp2_with fail
    first | refine name_wp (fun W => Ext w W ∧ Blk W (w.heap.size) 73 [.slice At_0 t.ases.length ct_0, .slice At_1 t.links.length ct_1]) ⟨(by repeat (first | (with_reducible exact Ext.refl _) | (with_reducible assumption) | (with_reducible refine Ext.alloc ?_ _) | (with_reducible refine Ext.drew ?_) | (with_reducible refine Ext.drewN ?_ _) | (with_reducible refine Ext.setCell (p := _) ?_ ?ge _; case ge => (dsimp only; omega)) | (with_reducible refine Ext.trans ?_ (by with_reducible assumption)))), (by repeat (first | (with_reducible exact Blk.new _ _ _) | ((with_reducible refine Blk.new' _ _ _ _ ?_) <;> (simp; done)) | (with_reducible refine Blk.alloc ?_ _) | (with_reducible refine Blk.drew ?_)))⟩ ?_ | refine name_calls (fun W => Ext w W ∧ Blk W (w.heap.size) 73 [.slice At_0 t.ases.length ct_0, .slice At_1 t.links.length ct_1]) ⟨(by repeat (first | (with_reducible exact Ext.refl _) | (with_reducible assumption) | (with_reducible refine Ext.alloc ?_ _) | (with_reducible refine Ext.drew ?_) | (with_reducible refine Ext.drewN ?_ _) | (with_reducible refine Ext.setCell (p := _) ?_ ?ge _; case ge => (dsimp only; omega)) | (with_reducible refine Ext.trans ?_ (by with_reducible assumption)))), (by repeat (first | (with_reducible exact Blk.new _ _ _) | ((with_reducible refine Blk.new' _ _ _ _ ?_) <;> (simp; done)) | (with_reducible refine Blk.alloc ?_ _) | (with_reducible refine Blk.drew ?_)))⟩ ?_
    rintro w0 ⟨ew0, bt⟩
    have lt := bt.lt
    obtain ⟨pt_0, pt_1⟩ := blk2 bt
    have Bt := Lib.hid bt; clear bt
    refine (impl_isAS _ _ t _ (by exact Rt.out.ext (by repeat (first | (with_reducible exact Ext.refl _) | (with_reducible assumption) | (with_reducible refine Ext.alloc ?_ _) | (with_reducible refine Ext.drew ?_) | (with_reducible refine Ext.drewN ?_ _) | (with_reducible refine Ext.setCell (p := _) ?_ ?ge _; case ge => (dsimp only; omega)) | (with_reducible refine Ext.trans ?_ (by with_reducible assumption)))))).mono ?_
    rintro e w1 ⟨rfl, e1⟩
    rw [HV.out]
    have bt := Bt.out.ext (e1)
    have lt := bt.lt
    obtain ⟨pt_0, pt_1⟩ := blk2 bt
    clear bt
    obtain ⟨b, off, rfl, hb, hkk, hc⟩ := (St_0.out.ext (w' := w1) (by repeat (first | (with_reducible exact Ext.refl _) | (with_reducible assumption) | (with_reducible refine Ext.alloc ?_ _) | (with_reducible refine Ext.drew ?_) | (with_reducible refine Ext.drewN ?_ _) | (with_reducible refine Ext.setCell (p := _) ?_ ?ge _; case ge => (dsimp only; omega)) | (with_reducible refine Ext.trans ?_ (by with_reducible assumption))))).at_ hkl
    generalize t.ases[k] = y at *
    obtain ⟨h0, h1, h2⟩ := hc
    go_wp2_with fail
    go_ret
    exact ⟨ret_bool HF.out.symm, (by repeat (first | (with_reducible exact Ext.refl _) | (with_reducible assumption) | (with_reducible refine Ext.alloc ?_ _) | (with_reducible refine Ext.drew ?_) | (with_reducible refine Ext.drewN ?_ _) | (with_reducible refine Ext.setCell (p := _) ?_ ?ge _; case ge => (dsimp only; omega)) | (with_reducible refine Ext.trans ?_ (by with_reducible assumption))))⟩
end Go.Proofs.Ytcalbcjheenmgaa
