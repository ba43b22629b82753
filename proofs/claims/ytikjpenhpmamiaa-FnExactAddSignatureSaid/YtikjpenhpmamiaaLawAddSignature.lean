/- The law FnExactAddSignature returns true for every input and changes no argument. No conditions. -/
import Derived.Test.YtikjpenhpmamiaaL17
import Derived.Test.YtikjpenhpmamiaaRead
namespace Go.Proofs.Ytikjpenhpmamiaa.lawAddSignature
open Go.RowKit
set_option linter.unusedVariables false
open Go.ChangeShapes Go.WideShapes Go.ChangeAt
theorem own : ownKnob Try.prog.godebug = none := by kernel_rfl
theorem laidOut : laidOutB Try.prog = true := by kernel_rfl

set_option maxRecDepth 100000 in
set_option maxHeartbeats 1000000 in
theorem walk (v0 : Value) (x0 : List DSignature) (x1 : DSignature) (w : World) (h0 : SignatureS w.heap.size w v0 x0) :
    Calls Try.prog 7 #[v0, .agg #[I x1.asn, I x1.value]] w fun e w' => e = .returned (.bool true) ∧ Ext w w' := by
  obtain ⟨A0, n0, c0, rfl, hl0, hn0, hm0, -⟩ := id h0
  subst hl0
  unfold maxLen at hm0
  have H0 := Lib.hid h0; clear h0
  go_enter Try.func7, Try.ntmps7
  go_wp2_with fail
  have bx1 : Blk (w.alloc (.cells #[I x1.asn, I x1.value] 24)) (w.heap.size) 24 [I x1.asn, I x1.value] := by simpa using Blk.new w 24 [I x1.asn, I x1.value]
  have BX1 := Lib.hid bx1; clear bx1
  have ew : Ext w (w.alloc (.cells #[I x1.asn, I x1.value] 24)) := (by repeat (first | (with_reducible exact Ext.refl _) | (with_reducible assumption) | (with_reducible refine Ext.alloc ?_ _) | (with_reducible refine Ext.drew ?_) | (with_reducible refine Ext.out ?_ (by with_reducible assumption) ?ge; case ge => omega) | (with_reducible refine Ext.trans ?_ (by with_reducible assumption))))
  have zw : w.heap.size + 1 ≤ (w.alloc (.cells #[I x1.asn, I x1.value] 24)).heap.size := by simp only [World.size_alloc]; omega
  generalize (w.alloc (.cells #[I x1.asn, I x1.value] 24)) = w0 at *
  refine (szSignatureS _ x0 (1048576) _ (by exact H0.out.ext (by repeat (first | (with_reducible exact Ext.refl _) | (with_reducible assumption) | (with_reducible refine Ext.alloc ?_ _) | (with_reducible refine Ext.drew ?_) | (with_reducible refine Ext.out ?_ (by with_reducible assumption) ?ge; case ge => omega) | (with_reducible refine Ext.trans ?_ (by with_reducible assumption))))) (by omega) (by omega)).mono ?_
  rintro e w_1 ⟨rfl, e_1⟩
  have z_1 := e_1.size
  by_cases hlt0 : 1048576 < ((x0.length : Nat) : Int)
  · rw [szR_neg hlt0]
    go_wp2_with fail
    go_ret
    exact ⟨rfl, (by repeat (first | (with_reducible exact Ext.refl _) | (with_reducible assumption) | (with_reducible refine Ext.alloc ?_ _) | (with_reducible refine Ext.drew ?_) | (with_reducible refine Ext.out ?_ (by with_reducible assumption) ?ge; case ge => omega) | (with_reducible refine Ext.trans ?_ (by with_reducible assumption))))⟩
  rw [szR_pos (by omega)]
  have hb0 : x0.length ≤ 1048576 := by omega
  have bc1 := BX1.out.ext (w' := w_1) (by repeat (first | (with_reducible exact Ext.refl _) | (with_reducible assumption) | (with_reducible refine Ext.alloc ?_ _) | (with_reducible refine Ext.drew ?_) | (with_reducible refine Ext.out ?_ (by with_reducible assumption) ?ge; case ge => omega) | (with_reducible refine Ext.trans ?_ (by with_reducible assumption))))
  obtain ⟨q1_0, q1_1⟩ := blk2 bc1
  clear bc1
  go_wp2_with fail
  clear q1_0 q1_1
  have bc1 := BX1.out.ext (w' := w_1) (by repeat (first | (with_reducible exact Ext.refl _) | (with_reducible assumption) | (with_reducible refine Ext.alloc ?_ _) | (with_reducible refine Ext.drew ?_) | (with_reducible refine Ext.out ?_ (by with_reducible assumption) ?ge; case ge => omega) | (with_reducible refine Ext.trans ?_ (by with_reducible assumption))))
  have lt1 := bc1.lt
  obtain ⟨q1_0, q1_1⟩ := blk2 bc1
  clear bc1
  go_region_held3 (fun W => w_1.heap.size ≤ W.heap.size ∧ ∀ b o, b < w_1.heap.size → W.cell? ⟨b, o, none⟩ = w_1.cell? ⟨b, o, none⟩)
    (first | exact ⟨Nat.le_refl _, fun _ _ _ => rfl⟩ | exact keepC (by assumption) e_4 | exact keepC (by assumption) e_3 | exact keepC (by assumption) e_2)
    (first | (go_at_call 27; (with_reducible refine Calls.mono (toSignatureS (.slice A0 x0.length c0) x0 _ ?s0 ?s1) ?_); (case s0 => exact H0.out.ext (by repeat (first | (with_reducible exact Ext.refl _) | (with_reducible assumption) | (with_reducible refine Ext.alloc ?_ _) | (with_reducible refine Ext.drew ?_) | (with_reducible refine Ext.out ?_ (by with_reducible assumption) ?ge; case ge => omega) | (with_reducible refine Ext.trans ?_ (by with_reducible assumption))))); (case s1 => omega); rintro e w_2 ⟨u_2, rfl, o_2, e_2⟩; have z_2 : w_1.heap.size ≤ w_2.heap.size := e_2.size; have o_2 : SignatureSO w_1.heap.size w_2.heap.size w_2 _ _ := o_2) | (go_at_call 31; (with_reducible refine Calls.mono (toSignature x1 _) ?_); rintro e w_3 ⟨rfl, e_3⟩; have z_3 := e_3.size) | (go_at_call 30; (with_reducible refine Calls.mono (spec_AddSignature _ x1 x0 _ ?s0 ?s1) ?_); (case s0 => exact SignatureSO_rd (lo := w_1.heap.size) (hi := w_2.heap.size) (by repeat (first | (with_reducible exact o_2) | (with_reducible refine Own.drew ?_) | (with_reducible refine Own.ext ?_ (by with_reducible assumption) ?ge; case ge => first | omega | (simp only [World.size_drew]; omega)) | (with_reducible refine Own.out ?_ (by with_reducible assumption) ?ge; case ge => omega)))); (case s1 => omega); rintro e w_4 ⟨u_4, rfl, o_4, e_4⟩; have z_4 := e_4.size))
  clear q1_0 q1_1 lt1
  have O_2 := Lib.hid o_2; clear o_2
  have O_4 := Lib.hid o_4; clear o_4
  have bc1 := BX1.out.ext (w' := w_4) (by repeat (first | (with_reducible exact Ext.refl _) | (with_reducible assumption) | (with_reducible refine Ext.alloc ?_ _) | (with_reducible refine Ext.drew ?_) | (with_reducible refine Ext.out ?_ (by with_reducible assumption) ?ge; case ge => omega) | (with_reducible refine Ext.trans ?_ (by with_reducible assumption))))
  obtain ⟨q1_0, q1_1⟩ := blk2 bc1
  clear bc1
  go_wp2_with fail
  clear q1_0 q1_1
  refine (toSignatureS (.slice A0 x0.length c0) x0 _ (by exact H0.out.ext (by repeat (first | (with_reducible exact Ext.refl _) | (with_reducible assumption) | (with_reducible refine Ext.alloc ?_ _) | (with_reducible refine Ext.drew ?_) | (with_reducible refine Ext.out ?_ (by with_reducible assumption) ?ge; case ge => omega) | (with_reducible refine Ext.trans ?_ (by with_reducible assumption))))) (by omega)).mono ?_
  rintro e w_5 ⟨u_5, rfl, o_5, e_5⟩
  have z_5 := e_5.size
  have O_5 := Lib.hid o_5; clear o_5
  have bc1 := BX1.out.ext (w' := w_5) (by repeat (first | (with_reducible exact Ext.refl _) | (with_reducible assumption) | (with_reducible refine Ext.alloc ?_ _) | (with_reducible refine Ext.drew ?_) | (with_reducible refine Ext.out ?_ (by with_reducible assumption) ?ge; case ge => omega) | (with_reducible refine Ext.trans ?_ (by with_reducible assumption))))
  obtain ⟨q1_0, q1_1⟩ := blk2 bc1
  clear bc1
  go_wp2_with fail
  clear q1_0 q1_1
  refine (toSignature x1 _).mono ?_
  rintro e w_6 ⟨rfl, e_6⟩
  have z_6 := e_6.size
  have bc1 := BX1.out.ext (w' := w_6) (by repeat (first | (with_reducible exact Ext.refl _) | (with_reducible assumption) | (with_reducible refine Ext.alloc ?_ _) | (with_reducible refine Ext.drew ?_) | (with_reducible refine Ext.out ?_ (by with_reducible assumption) ?ge; case ge => omega) | (with_reducible refine Ext.trans ?_ (by with_reducible assumption))))
  obtain ⟨q1_0, q1_1⟩ := blk2 bc1
  clear bc1
  go_wp2_with fail
  clear q1_0 q1_1
  refine (impl_AddSignature _ x1 x0 _ (by exact SignatureSO_rd (lo := w_4.heap.size) (hi := w_5.heap.size) (by repeat (first | (with_reducible exact O_5.out) | (with_reducible refine Own.drew ?_) | (with_reducible refine Own.ext ?_ (by with_reducible assumption) ?ge; case ge => first | omega | (simp only [World.size_drew]; omega)) | (with_reducible refine Own.out ?_ (by with_reducible assumption) ?ge; case ge => omega)))) (by omega)).mono ?_
  rintro e w_7 ⟨u_7, rfl, o_7, e_7⟩
  have z_7 := e_7.size
  have O_7 := Lib.hid o_7; clear o_7
  have bc1 := BX1.out.ext (w' := w_7) (by repeat (first | (with_reducible exact Ext.refl _) | (with_reducible assumption) | (with_reducible refine Ext.alloc ?_ _) | (with_reducible refine Ext.drew ?_) | (with_reducible refine Ext.out ?_ (by with_reducible assumption) ?ge; case ge => omega) | (with_reducible refine Ext.trans ?_ (by with_reducible assumption))))
  obtain ⟨q1_0, q1_1⟩ := blk2 bc1
  clear bc1
  go_wp2_with fail
  clear q1_0 q1_1
  have S_4 := Lib.hid (SignatureSO_rd O_4.out)
  refine (eqSignatureS _ _ (addSig x0 x1) (addSig x0 x1) _ (by exact SignatureSO_rd (lo := w_6.heap.size) (hi := w_7.heap.size) (by repeat (first | (with_reducible exact O_7.out) | (with_reducible refine Own.drew ?_) | (with_reducible refine Own.ext ?_ (by with_reducible assumption) ?ge; case ge => first | omega | (simp only [World.size_drew]; omega)) | (with_reducible refine Own.out ?_ (by with_reducible assumption) ?ge; case ge => omega)))) (by exact S_4.out.ext (by repeat (first | (with_reducible exact Ext.refl _) | (with_reducible assumption) | (with_reducible refine Ext.alloc ?_ _) | (with_reducible refine Ext.drew ?_) | (with_reducible refine Ext.out ?_ (by with_reducible assumption) ?ge; case ge => omega) | (with_reducible refine Ext.trans ?_ (by with_reducible assumption)))))).mono ?_
  rintro e w_8 ⟨rfl, e_8⟩
  have z_8 := e_8.size
  try rw [decide_eq_true rfl]
  have bc1 := BX1.out.ext (w' := w_8) (by repeat (first | (with_reducible exact Ext.refl _) | (with_reducible assumption) | (with_reducible refine Ext.alloc ?_ _) | (with_reducible refine Ext.drew ?_) | (with_reducible refine Ext.out ?_ (by with_reducible assumption) ?ge; case ge => omega) | (with_reducible refine Ext.trans ?_ (by with_reducible assumption))))
  obtain ⟨q1_0, q1_1⟩ := blk2 bc1
  clear bc1
  go_wp2_with fail
  clear q1_0 q1_1
  refine (toSignatureS (.slice A0 x0.length c0) x0 _ (by exact H0.out.ext (by repeat (first | (with_reducible exact Ext.refl _) | (with_reducible assumption) | (with_reducible refine Ext.alloc ?_ _) | (with_reducible refine Ext.drew ?_) | (with_reducible refine Ext.out ?_ (by with_reducible assumption) ?ge; case ge => omega) | (with_reducible refine Ext.trans ?_ (by with_reducible assumption))))) (by omega)).mono ?_
  rintro e w_9 ⟨u_9, rfl, o_9, e_9⟩
  have z_9 := e_9.size
  have O_9 := Lib.hid o_9; clear o_9
  have bc1 := BX1.out.ext (w' := w_9) (by repeat (first | (with_reducible exact Ext.refl _) | (with_reducible assumption) | (with_reducible refine Ext.alloc ?_ _) | (with_reducible refine Ext.drew ?_) | (with_reducible refine Ext.out ?_ (by with_reducible assumption) ?ge; case ge => omega) | (with_reducible refine Ext.trans ?_ (by with_reducible assumption))))
  obtain ⟨q1_0, q1_1⟩ := blk2 bc1
  clear bc1
  go_wp2_with fail
  clear q1_0 q1_1
  refine (eqSignatureS _ _ x0 x0 _ (by exact SignatureSO_rd (lo := w_4.heap.size) (hi := w_5.heap.size) (by repeat (first | (with_reducible exact O_5.out) | (with_reducible refine Own.drew ?_) | (with_reducible refine Own.ext ?_ (by with_reducible assumption) ?ge; case ge => first | omega | (simp only [World.size_drew]; omega)) | (with_reducible refine Own.out ?_ (by with_reducible assumption) ?ge; case ge => omega)))) (by exact SignatureSO_rd (lo := w_8.heap.size) (hi := w_9.heap.size) (by repeat (first | (with_reducible exact O_9.out) | (with_reducible refine Own.drew ?_) | (with_reducible refine Own.ext ?_ (by with_reducible assumption) ?ge; case ge => first | omega | (simp only [World.size_drew]; omega)) | (with_reducible refine Own.out ?_ (by with_reducible assumption) ?ge; case ge => omega))))).mono ?_
  rintro e w_10 ⟨rfl, e_10⟩
  have z_10 := e_10.size
  try rw [decide_eq_true rfl]
  have bc1 := BX1.out.ext (w' := w_10) (by repeat (first | (with_reducible exact Ext.refl _) | (with_reducible assumption) | (with_reducible refine Ext.alloc ?_ _) | (with_reducible refine Ext.drew ?_) | (with_reducible refine Ext.out ?_ (by with_reducible assumption) ?ge; case ge => omega) | (with_reducible refine Ext.trans ?_ (by with_reducible assumption))))
  obtain ⟨q1_0, q1_1⟩ := blk2 bc1
  clear bc1
  go_wp2_with fail
  clear q1_0 q1_1
  have hres : (addSig x0 x1).length ≤ 100000000000 := by have := addSig_len x0 x1; omega
  refine (markSignatureS _ (x0) 1 w_4.heap.size w_5.heap.size _ (by exact (by repeat (first | (with_reducible exact O_5.out) | (with_reducible refine Own.drew ?_) | (with_reducible refine Own.ext ?_ (by with_reducible assumption) ?ge; case ge => first | omega | (simp only [World.size_drew]; omega)) | (with_reducible refine Own.out ?_ (by with_reducible assumption) ?ge; case ge => omega)))) (by omega)).mono ?_
  rintro e w_11 ⟨rfl, o_11, e_11⟩
  have z_11 := e_11.size
  have O_11 := Lib.hid o_11; clear o_11
  have bc1 := BX1.out.ext (w' := w_11) (by repeat (first | (with_reducible exact Ext.refl _) | (with_reducible assumption) | (with_reducible refine Ext.alloc ?_ _) | (with_reducible refine Ext.drew ?_) | (with_reducible refine Ext.out ?_ (by with_reducible assumption) ?ge; case ge => omega) | (with_reducible refine Ext.trans ?_ (by with_reducible assumption))))
  obtain ⟨q1_0, q1_1⟩ := blk2 bc1
  clear bc1
  go_wp2_with fail
  clear q1_0 q1_1
  refine (eqSignatureS _ _ (addSig x0 x1) (addSig x0 x1) _ (by exact SignatureSO_rd (lo := w_6.heap.size) (hi := w_7.heap.size) (by repeat (first | (with_reducible exact O_7.out) | (with_reducible refine Own.drew ?_) | (with_reducible refine Own.ext ?_ (by with_reducible assumption) ?ge; case ge => first | omega | (simp only [World.size_drew]; omega)) | (with_reducible refine Own.out ?_ (by with_reducible assumption) ?ge; case ge => omega)))) (by exact S_4.out.ext (by repeat (first | (with_reducible exact Ext.refl _) | (with_reducible assumption) | (with_reducible refine Ext.alloc ?_ _) | (with_reducible refine Ext.drew ?_) | (with_reducible refine Ext.out ?_ (by with_reducible assumption) ?ge; case ge => omega) | (with_reducible refine Ext.trans ?_ (by with_reducible assumption)))))).mono ?_
  rintro e w_12 ⟨rfl, e_12⟩
  have z_12 := e_12.size
  try rw [decide_eq_true rfl]
  have bc1 := BX1.out.ext (w' := w_12) (by repeat (first | (with_reducible exact Ext.refl _) | (with_reducible assumption) | (with_reducible refine Ext.alloc ?_ _) | (with_reducible refine Ext.drew ?_) | (with_reducible refine Ext.out ?_ (by with_reducible assumption) ?ge; case ge => omega) | (with_reducible refine Ext.trans ?_ (by with_reducible assumption))))
  obtain ⟨q1_0, q1_1⟩ := blk2 bc1
  clear bc1
  go_wp2_with fail
  clear q1_0 q1_1
  refine (markSignatureS _ (addSig x0 x1) 1 w_6.heap.size w_7.heap.size _ (by exact (by repeat (first | (with_reducible exact O_7.out) | (with_reducible refine Own.drew ?_) | (with_reducible refine Own.ext ?_ (by with_reducible assumption) ?ge; case ge => first | omega | (simp only [World.size_drew]; omega)) | (with_reducible refine Own.out ?_ (by with_reducible assumption) ?ge; case ge => omega)))) (by omega)).mono ?_
  rintro e w_13 ⟨rfl, o_13, e_13⟩
  have z_13 := e_13.size
  have O_13 := Lib.hid o_13; clear o_13
  have bc1 := BX1.out.ext (w' := w_13) (by repeat (first | (with_reducible exact Ext.refl _) | (with_reducible assumption) | (with_reducible refine Ext.alloc ?_ _) | (with_reducible refine Ext.drew ?_) | (with_reducible refine Ext.out ?_ (by with_reducible assumption) ?ge; case ge => omega) | (with_reducible refine Ext.trans ?_ (by with_reducible assumption))))
  obtain ⟨q1_0, q1_1⟩ := blk2 bc1
  clear bc1
  go_wp2_with fail
  clear q1_0 q1_1
  refine (heldSignatureS _ (addSig x0 x1).length 1 _ (by exact SignatureSO_rd (lo := w_6.heap.size) (hi := w_7.heap.size) (xs := (SignatureNum 1 (addSig x0 x1).length)) (by unfold SignatureSO; rw [SignatureNum_len]; exact (by repeat (first | (with_reducible exact O_13.out) | (with_reducible refine Own.drew ?_) | (with_reducible refine Own.ext ?_ (by with_reducible assumption) ?ge; case ge => first | omega | (simp only [World.size_drew]; omega)) | (with_reducible refine Own.out ?_ (by with_reducible assumption) ?ge; case ge => omega))))) (by omega)).mono ?_
  rintro e w_14 ⟨rfl, e_14⟩
  have z_14 := e_14.size
  have bc1 := BX1.out.ext (w' := w_14) (by repeat (first | (with_reducible exact Ext.refl _) | (with_reducible assumption) | (with_reducible refine Ext.alloc ?_ _) | (with_reducible refine Ext.drew ?_) | (with_reducible refine Ext.out ?_ (by with_reducible assumption) ?ge; case ge => omega) | (with_reducible refine Ext.trans ?_ (by with_reducible assumption))))
  obtain ⟨q1_0, q1_1⟩ := blk2 bc1
  clear bc1
  go_wp2_with fail
  clear q1_0 q1_1
  have bc1 := BX1.out.ext (w' := w_14) (by repeat (first | (with_reducible exact Ext.refl _) | (with_reducible assumption) | (with_reducible refine Ext.alloc ?_ _) | (with_reducible refine Ext.drew ?_) | (with_reducible refine Ext.out ?_ (by with_reducible assumption) ?ge; case ge => omega) | (with_reducible refine Ext.trans ?_ (by with_reducible assumption))))
  have lt1 := bc1.lt
  obtain ⟨q1_0, q1_1⟩ := blk2 bc1
  clear bc1
  go_region_held3 (fun W => w_14.heap.size ≤ W.heap.size ∧ ∀ b o, b < w_14.heap.size → W.cell? ⟨b, o, none⟩ = w_14.cell? ⟨b, o, none⟩)
    (first | exact ⟨Nat.le_refl _, fun _ _ _ => rfl⟩ | exact keepC (by assumption) e_17 | exact keepC (by assumption) e_16 | exact keepC (by assumption) e_15)
    (first | (go_at_call 27; (with_reducible refine Calls.mono (toSignatureS (.slice A0 x0.length c0) x0 _ ?s0 ?s1) ?_); (case s0 => exact H0.out.ext (by repeat (first | (with_reducible exact Ext.refl _) | (with_reducible assumption) | (with_reducible refine Ext.alloc ?_ _) | (with_reducible refine Ext.drew ?_) | (with_reducible refine Ext.out ?_ (by with_reducible assumption) ?ge; case ge => omega) | (with_reducible refine Ext.trans ?_ (by with_reducible assumption))))); (case s1 => omega); rintro e w_15 ⟨u_15, rfl, o_15, e_15⟩; have z_15 : w_14.heap.size ≤ w_15.heap.size := e_15.size; have o_15 : SignatureSO w_14.heap.size w_15.heap.size w_15 _ _ := o_15) | (go_at_call 31; (with_reducible refine Calls.mono (toSignature x1 _) ?_); rintro e w_16 ⟨rfl, e_16⟩; have z_16 := e_16.size) | (go_at_call 32; (with_reducible refine Calls.mono (impl_AddSignature _ x1 x0 _ ?s0 ?s1) ?_); (case s0 => exact SignatureSO_rd (lo := w_14.heap.size) (hi := w_15.heap.size) (by repeat (first | (with_reducible exact o_15) | (with_reducible refine Own.drew ?_) | (with_reducible refine Own.ext ?_ (by with_reducible assumption) ?ge; case ge => first | omega | (simp only [World.size_drew]; omega)) | (with_reducible refine Own.out ?_ (by with_reducible assumption) ?ge; case ge => omega)))); (case s1 => omega); rintro e w_17 ⟨u_17, rfl, o_17, e_17⟩; have z_17 := e_17.size))
  clear q1_0 q1_1 lt1
  have O_15 := Lib.hid o_15; clear o_15
  have O_17 := Lib.hid o_17; clear o_17
  have bc1 := BX1.out.ext (w' := w_17) (by repeat (first | (with_reducible exact Ext.refl _) | (with_reducible assumption) | (with_reducible refine Ext.alloc ?_ _) | (with_reducible refine Ext.drew ?_) | (with_reducible refine Ext.out ?_ (by with_reducible assumption) ?ge; case ge => omega) | (with_reducible refine Ext.trans ?_ (by with_reducible assumption))))
  obtain ⟨q1_0, q1_1⟩ := blk2 bc1
  clear bc1
  go_wp2_with fail
  clear q1_0 q1_1
  refine (eqSignatureS _ _ (addSig x0 x1) (addSig x0 x1) _ (by exact SignatureSO_rd (lo := w_16.heap.size) (hi := w_17.heap.size) (by repeat (first | (with_reducible exact O_17.out) | (with_reducible refine Own.drew ?_) | (with_reducible refine Own.ext ?_ (by with_reducible assumption) ?ge; case ge => first | omega | (simp only [World.size_drew]; omega)) | (with_reducible refine Own.out ?_ (by with_reducible assumption) ?ge; case ge => omega)))) (by exact S_4.out.ext (by repeat (first | (with_reducible exact Ext.refl _) | (with_reducible assumption) | (with_reducible refine Ext.alloc ?_ _) | (with_reducible refine Ext.drew ?_) | (with_reducible refine Ext.out ?_ (by with_reducible assumption) ?ge; case ge => omega) | (with_reducible refine Ext.trans ?_ (by with_reducible assumption)))))).mono ?_
  rintro e w_18 ⟨rfl, e_18⟩
  have z_18 := e_18.size
  try rw [decide_eq_true rfl]
  have bc1 := BX1.out.ext (w' := w_18) (by repeat (first | (with_reducible exact Ext.refl _) | (with_reducible assumption) | (with_reducible refine Ext.alloc ?_ _) | (with_reducible refine Ext.drew ?_) | (with_reducible refine Ext.out ?_ (by with_reducible assumption) ?ge; case ge => omega) | (with_reducible refine Ext.trans ?_ (by with_reducible assumption))))
  obtain ⟨q1_0, q1_1⟩ := blk2 bc1
  clear bc1
  go_wp2_with fail
  clear q1_0 q1_1
  refine (heldSignatureS _ (addSig x0 x1).length 1 _ (by exact SignatureSO_rd (lo := w_6.heap.size) (hi := w_7.heap.size) (xs := (SignatureNum 1 (addSig x0 x1).length)) (by unfold SignatureSO; rw [SignatureNum_len]; exact (by repeat (first | (with_reducible exact O_13.out) | (with_reducible refine Own.drew ?_) | (with_reducible refine Own.ext ?_ (by with_reducible assumption) ?ge; case ge => first | omega | (simp only [World.size_drew]; omega)) | (with_reducible refine Own.out ?_ (by with_reducible assumption) ?ge; case ge => omega))))) (by omega)).mono ?_
  rintro e w_19 ⟨rfl, e_19⟩
  have z_19 := e_19.size
  have bc1 := BX1.out.ext (w' := w_19) (by repeat (first | (with_reducible exact Ext.refl _) | (with_reducible assumption) | (with_reducible refine Ext.alloc ?_ _) | (with_reducible refine Ext.drew ?_) | (with_reducible refine Ext.out ?_ (by with_reducible assumption) ?ge; case ge => omega) | (with_reducible refine Ext.trans ?_ (by with_reducible assumption))))
  obtain ⟨q1_0, q1_1⟩ := blk2 bc1
  clear bc1
  go_wp2_with fail
  clear q1_0 q1_1
  go_ret
  exact ⟨rfl, (by repeat (first | (with_reducible exact Ext.refl _) | (with_reducible assumption) | (with_reducible refine Ext.alloc ?_ _) | (with_reducible refine Ext.drew ?_) | (with_reducible refine Ext.out ?_ (by with_reducible assumption) ?ge; case ge => omega) | (with_reducible refine Ext.trans ?_ (by with_reducible assumption))))⟩
set_option maxRecDepth 100000 in
theorem lifted (os : Os) (started : os.Started) (H : Type) (enc : TypeId × Value → H) :
    ReturnsInHanded {} Try.checked os 7 .any (Rows.fnExactAddSignatureSpec.pre6 enc Try.prog Try.f7 Rows.fnExactAddSignatureRow.domain false) (Rows.fnExactAddSignatureSpec.post enc Try.prog Try.f7 false true false false) := by
  refine returnsInHanded_of_change (C := Try.checked) own started (by kernel_rfl) Try.func7
    (ChangeSpec.witness6 (enc := enc) (C := Try.checked) false ⟨#[], #[.slice none 0 0, .agg #[.int .i64 0, .int .i64 0]], []⟩ 8 (by kernel_rfl) (by kernel_rfl) (by kernel_rfl) (by kernel_rfl)) ?_
  intro W base args ds gs before hval0 hW hcnd _
  have hval : ∀ (j : Nat) t v, Try.f7.params[j]? = some t → args[j]? = some v → Value.okWide Try.prog W .any base t v := hval0
  have hW' := hW
  obtain ⟨p, q, hA0, hV, rfl, hfz, hnd⟩ := hW
  have hA : DataW.TrodAll enc Try.prog W 0 (fun _ => true) true Try.f7.params.toList args.toList ds p := hA0
  rw [Try.params7] at hA hval
  obtain ⟨v0, vs0, d0, ds0, p0, q0, hargs, rfl, rfl, h0, r0⟩ := trodAll_cons hA
  obtain ⟨v1, vs1, d1, ds1, p1, q1, rfl, rfl, rfl, h1, r1⟩ := trodAll_cons r0
  obtain ⟨rfl, rfl, rfl⟩ := trodAll_nil r1
  obtain rfl : args = #[v0, v1] := by cases args; simp_all
  obtain ⟨rfl, rfl⟩ := trodVars_none hV
  have k0 := h0
  have lt0 : ∀ x ∈ p0, x.block < W.heap.size := by obtain ⟨m, hm⟩ := k0; exact DataW.trod_lt m _ _ _ hm
  obtain ⟨a0, len0, cap0, rfl⟩ := okWide_slice Try.underlying39 (hval 0 39 v0 rfl rfl)
  obtain ⟨x0, y0⟩ : ∃ ds, SignatureS W.heap.size W (.slice a0 len0 cap0) ds := by
    obtain ⟨fuel, hf⟩ := h0
    obtain ⟨A, n, c, ds, e, hs⟩ := read_SignatureS hf
    simp only [Value.cells, List.cons.injEq, and_true] at e
    rw [← e] at hs
    exact ⟨ds, hs⟩
  have k1 := h1
  have lt1 : ∀ x ∈ p1, x.block < W.heap.size := by obtain ⟨m, hm⟩ := k1; exact DataW.trod_lt m _ _ _ hm
  obtain ⟨cs1, rfl, _⟩ := okWide_struct Try.underlying24 (hval 1 24 v1 rfl rfl)
  obtain ⟨x1, y1⟩ : ∃ d, SignatureV W.heap.size W (.agg cs1) d := by
    obtain ⟨fuel, hf⟩ := h1
    obtain ⟨d, e⟩ := read_Signature hf
    have e1 : cs1 = #[I d.asn, I d.value] := by cases cs1; simpa [Value.cells] using e
    exact ⟨d, by unfold SignatureV; rw [e1]⟩
  obtain rfl : cs1 = #[I x1.asn, I x1.value] := by simpa [SignatureV] using y1
  clear hA0 hval0
  refine (walk _ x0 x1 W y0).mono fun e W' ⟨he, bel⟩ => ?_
  subst he
  exact ⟨_, rfl, _, _, _, [], _, [], hW', trodAll_mk1 (shut_bool Try.underlying4 _), (trodAll_cons_mk (Below.trod laidOut (by kernel_rfl) (of_decide_eq_true (by kernel_rfl)) k0 bel.below lt0) (trodAll_cons_mk (Below.trod laidOut (by kernel_rfl) (of_decide_eq_true (by kernel_rfl)) k1 bel.below lt1) trodAll_mk0)), rfl, bel.below.frame _, fun h => by cases h⟩

theorem over : Rows.fnExactAddSignatureRow.holds Try.pinned (OpenSpec.ofChange Rows.fnExactAddSignatureSpec) :=
  OpenClaim.holds_of_wide 7 Try.f7 rfl rfl rfl rfl rfl rfl rfl ⟨rfl, rfl, rfl, rfl, rfl⟩ rfl rfl rfl rfl rfl (by kernel_rfl) Try.func7 (by kernel_rfl)
    (of_decide_eq_true (by kernel_rfl)) (by unfold Func.isWrapper; first | (rw [if_pos (by decide +kernel)]; kernel_rfl) | (rw [if_neg (by decide +kernel)]; exact ⟨rfl, rfl⟩))
    (fun os started H enc _ => lifted os started H enc)

/-- The statement. -/
theorem proved : Rows.FnExactAddSignatureSaid := over
#print axioms proved
end Go.Proofs.Ytikjpenhpmamiaa.lawAddSignature
