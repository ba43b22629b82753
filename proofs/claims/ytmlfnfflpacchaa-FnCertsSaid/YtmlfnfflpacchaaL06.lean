/- Contracts of the program's and the reference's functions on names: FormatAS. -/
import Derived.Test.YtmlfnfflpacchaaL18h
import Derived.Test.YtmlfnfflpacchaaGL5
namespace Go.Proofs.Ytmlfnfflpacchaa
open Go.RowKit
set_option linter.unusedVariables false
noncomputable def fmtAS (t : DTopology) (r : Int) : ByteArray := if isAs t r then fmtS (asAt t r).isd ++ ⟨#[45]⟩ ++ fmtS r else ⟨#[63]⟩
theorem fmtAS_len (t : DTopology) (r : Int) : (fmtAS t r).size ≤ 45 := by
  have h1 := fmtS_len (asAt t r).isd
  have h2 := fmtS_len r
  have h3 : (⟨#[45]⟩ : ByteArray).size = 1 := rfl
  have h4 : (⟨#[63]⟩ : ByteArray).size = 1 := rfl
  unfold fmtAS
  split
  · simp only [ByteArray.size_append]; omega
  · omega
set_option maxRecDepth 100000 in
set_option maxHeartbeats 1000000 in
theorem impl_FormatAS (vt : Value) (r : Int) (t : DTopology) (w : World) (ht : TopologyV w.heap.size w vt t) :
    Calls Try.prog 122 #[vt, I r] w fun e w' => e = .returned (.string (fmtAS t r)) ∧ Ext w w' := by
  obtain ⟨At_0, nt_0, ct_0, At_1, nt_1, ct_1, rfl, st_0, st_1⟩ := id ht
  obtain ⟨lt_0, kt_0, mt_0⟩ := st_0.len
  subst lt_0
  unfold maxLen at mt_0
  obtain ⟨lt_1, kt_1, mt_1⟩ := st_1.len
  subst lt_1
  unfold maxLen at mt_1
  have Rt := Lib.hid ht; clear ht
  have St_0 := Lib.hid st_0; clear st_0
  have St_1 := Lib.hid st_1; clear st_1
  cases hv : isAs t r
  · have HF : Hid (fmtAS t r = ⟨#[63]⟩) := by unfold Hid fmtAS; rw [hv]; rfl
    have HV := Lib.hid hv; clear hv
    go_enter Try.func122, Try.ntmps122
    go_wp2_with fail
    first | refine name_wp ?_ ?_ ?_ | refine name_calls ?_ ?_ ?_
    exact (fun W => Ext w W ∧ Blk W (w.heap.size) 27 [.slice At_0 t.ases.length ct_0, .slice At_1 t.links.length ct_1])
    exact ⟨xe, xb⟩
    rintro w0 ⟨ew0, bt⟩
    have lt := bt.lt
    obtain ⟨pt_0, pt_1⟩ := blk2 bt
    have Bt := Lib.hid bt; clear bt
    refine (impl_isAS _ _ t _ (by exact Rt.out.ext xe)).mono ?_
    rintro e w1 ⟨rfl, e1⟩
    rw [HV.out]
    go_wp2_with fail
    go_ret
    exact ⟨by rw [HF.out]; rfl, xe⟩
  · obtain ⟨k, rfl, hkl⟩ := isAs_nat hv
    have HF : Hid (fmtAS t k = fmtS t.ases[k].isd ++ ⟨#[45]⟩ ++ fmtS k) := by unfold Hid fmtAS; rw [hv, asAt_nat t k hkl]; rfl
    have HV := Lib.hid hv
    clear hv
    have hd : ∀ n w, Calls Try.prog 117 #[I n] w fun e w' => e = .returned (.string (fmtS n)) ∧ Ext w w' := fun n w => impl_FormatInt n w
    have HD := Lib.hid hd; clear hd
    go_enter Try.func122, Try.ntmps122
    go_wp2_with fail
    first | refine name_wp ?_ ?_ ?_ | refine name_calls ?_ ?_ ?_
    exact (fun W => Ext w W ∧ Blk W (w.heap.size) 27 [.slice At_0 t.ases.length ct_0, .slice At_1 t.links.length ct_1])
    exact ⟨xe, xb⟩
    rintro w0 ⟨ew0, bt⟩
    have lt := bt.lt
    obtain ⟨pt_0, pt_1⟩ := blk2 bt
    have Bt := Lib.hid bt; clear bt
    refine (impl_isAS _ _ t _ (by exact Rt.out.ext xe)).mono ?_
    rintro e w1 ⟨rfl, e1⟩
    rw [HV.out]
    have bt := Bt.out.ext (e1)
    have lt := bt.lt
    obtain ⟨pt_0, pt_1⟩ := blk2 bt
    clear bt
    obtain ⟨b, off, rfl, hb, hkk, hc⟩ := (St_0.out.ext (w' := w1) xe).at_ hkl
    generalize t.ases[k] = y at *
    obtain ⟨h0, h1, h2⟩ := hc
    have b0 := fmtS_len y.isd
    have b1 := fmtS_len k
    go_wp2_with fail
    refine (HD.out _ _).mono ?_
    rintro e w2 ⟨rfl, e2⟩
    generalize fmtS y.isd = f0 at *
    go_wp2_with fail
    refine (HD.out _ _).mono ?_
    rintro e w3 ⟨rfl, e3⟩
    generalize fmtS k = f1 at *
    go_wp2_with fail
    go_ret
    exact ⟨by rw [HF.out]; rfl, xe⟩
set_option maxRecDepth 100000 in
set_option maxHeartbeats 1000000 in
theorem spec_FormatAS (vt : Value) (r : Int) (t : DTopology) (w : World) (ht : TopologyV w.heap.size w vt t) :
    Calls Try.prog 123 #[vt, I r] w fun e w' => e = .returned (.string (fmtAS t r)) ∧ Ext w w' := by
  obtain ⟨At_0, nt_0, ct_0, At_1, nt_1, ct_1, rfl, st_0, st_1⟩ := id ht
  obtain ⟨lt_0, kt_0, mt_0⟩ := st_0.len
  subst lt_0
  unfold maxLen at mt_0
  obtain ⟨lt_1, kt_1, mt_1⟩ := st_1.len
  subst lt_1
  unfold maxLen at mt_1
  have Rt := Lib.hid ht; clear ht
  have St_0 := Lib.hid st_0; clear st_0
  have St_1 := Lib.hid st_1; clear st_1
  cases hv : isAs t r
  · have HF : Hid (fmtAS t r = ⟨#[63]⟩) := by unfold Hid fmtAS; rw [hv]; rfl
    have HV := Lib.hid hv; clear hv
    go_enter Try.func123, Try.ntmps123
    go_wp2_with fail
    first | refine name_wp ?_ ?_ ?_ | refine name_calls ?_ ?_ ?_
    exact (fun W => Ext w W ∧ Blk W (w.heap.size) 27 [.slice At_0 t.ases.length ct_0, .slice At_1 t.links.length ct_1])
    exact ⟨xe, xb⟩
    rintro w0 ⟨ew0, bt⟩
    have lt := bt.lt
    obtain ⟨pt_0, pt_1⟩ := blk2 bt
    have Bt := Lib.hid bt; clear bt
    refine (spec_l5Realm _ _ t _ (by exact Rt.out.ext xe)).mono ?_
    rintro e w1 ⟨rfl, e1⟩
    rw [HV.out]
    go_wp2_with fail
    go_ret
    exact ⟨by rw [HF.out]; rfl, xe⟩
  · obtain ⟨k, rfl, hkl⟩ := isAs_nat hv
    have HF : Hid (fmtAS t k = fmtS t.ases[k].isd ++ ⟨#[45]⟩ ++ fmtS k) := by unfold Hid fmtAS; rw [hv, asAt_nat t k hkl]; rfl
    have HV := Lib.hid hv
    clear hv
    have hd : ∀ n w, Calls Try.prog 118 #[I n] w fun e w' => e = .returned (.string (fmtS n)) ∧ Ext w w' := fun n w => spec_FormatInt n w
    have HD := Lib.hid hd; clear hd
    go_enter Try.func123, Try.ntmps123
    go_wp2_with fail
    first | refine name_wp ?_ ?_ ?_ | refine name_calls ?_ ?_ ?_
    exact (fun W => Ext w W ∧ Blk W (w.heap.size) 27 [.slice At_0 t.ases.length ct_0, .slice At_1 t.links.length ct_1])
    exact ⟨xe, xb⟩
    rintro w0 ⟨ew0, bt⟩
    have lt := bt.lt
    obtain ⟨pt_0, pt_1⟩ := blk2 bt
    have Bt := Lib.hid bt; clear bt
    refine (spec_l5Realm _ _ t _ (by exact Rt.out.ext xe)).mono ?_
    rintro e w1 ⟨rfl, e1⟩
    rw [HV.out]
    have bt := Bt.out.ext (e1)
    have lt := bt.lt
    obtain ⟨pt_0, pt_1⟩ := blk2 bt
    clear bt
    obtain ⟨b, off, rfl, hb, hkk, hc⟩ := (St_0.out.ext (w' := w1) xe).at_ hkl
    generalize t.ases[k] = y at *
    obtain ⟨h0, h1, h2⟩ := hc
    have b0 := fmtS_len y.isd
    have b1 := fmtS_len k
    go_wp2_with fail
    refine (HD.out _ _).mono ?_
    rintro e w2 ⟨rfl, e2⟩
    generalize fmtS y.isd = f0 at *
    go_wp2_with fail
    refine (HD.out _ _).mono ?_
    rintro e w3 ⟨rfl, e3⟩
    generalize fmtS k = f1 at *
    go_wp2_with fail
    go_ret
    exact ⟨by rw [HF.out]; rfl, xe⟩
end Go.Proofs.Ytmlfnfflpacchaa
