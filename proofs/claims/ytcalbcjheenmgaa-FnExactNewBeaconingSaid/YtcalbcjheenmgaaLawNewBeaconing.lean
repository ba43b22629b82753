/- The law FnExactNewBeaconing returns true for every input and changes no argument. No conditions. -/
import Derived.Test.YtcalbcjheenmgaaL15b
import Derived.Test.YtcalbcjheenmgaaRead
namespace Go.Proofs.Ytcalbcjheenmgaa.lawNewBeaconing
open Go.RowKit
set_option linter.unusedVariables false
open Go.ChangeShapes Go.WideShapes Go.ChangeAt
theorem own : ownKnob Try.prog.godebug = none := by kernel_rfl
theorem laidOut : laidOutB Try.prog = true := by kernel_rfl

set_option maxRecDepth 100000 in
set_option maxHeartbeats 1000000 in
theorem walk (v0 : Value) (x0 : DTopology) (a1 : Int) (w : World) (h0 : TopologyV w.heap.size w v0 x0) :
    Calls Try.prog 9 #[v0, I a1] w fun e w' => e = .returned (.bool true) ∧ Ext w w' := by
  have H0 := Lib.hid h0
  obtain ⟨A0_0, n0_0, c0_0, A0_1, n0_1, c0_1, rfl, -⟩ := h0
  go_enter Try.func9, Try.ntmps9
  go_wp2_with fail
  have bx0 : Blk (w.alloc (.cells #[.slice A0_0 n0_0 c0_0, .slice A0_1 n0_1 c0_1] 63)) (w.heap.size) 63 [.slice A0_0 n0_0 c0_0, .slice A0_1 n0_1 c0_1] := by simpa using Blk.new w 63 [.slice A0_0 n0_0 c0_0, .slice A0_1 n0_1 c0_1]
  have BX0 := Lib.hid bx0; clear bx0
  have ew : Ext w (w.alloc (.cells #[.slice A0_0 n0_0 c0_0, .slice A0_1 n0_1 c0_1] 63)) := (by repeat (first | (with_reducible exact Ext.refl _) | (with_reducible assumption) | (with_reducible refine Ext.alloc ?_ _) | (with_reducible refine Ext.drew ?_) | (with_reducible refine Ext.out ?_ (by with_reducible assumption) ?ge; case ge => omega) | (with_reducible refine Ext.trans ?_ (by with_reducible assumption))))
  have zw : w.heap.size + 1 ≤ (w.alloc (.cells #[.slice A0_0 n0_0 c0_0, .slice A0_1 n0_1 c0_1] 63)).heap.size := by simp only [World.size_alloc]; omega
  generalize (w.alloc (.cells #[.slice A0_0 n0_0 c0_0, .slice A0_1 n0_1 c0_1] 63)) = w0 at *
  refine (szTopology _ x0 (1048576) _ (by exact H0.out.ext (by repeat (first | (with_reducible exact Ext.refl _) | (with_reducible assumption) | (with_reducible refine Ext.alloc ?_ _) | (with_reducible refine Ext.drew ?_) | (with_reducible refine Ext.out ?_ (by with_reducible assumption) ?ge; case ge => omega) | (with_reducible refine Ext.trans ?_ (by with_reducible assumption))))) (by omega) (by omega)).mono ?_
  rintro e w_1 ⟨rfl, e_1⟩
  have z_1 := e_1.size
  by_cases hlt0 : 1048576 < ((x0.ases.length + x0.links.length : Nat) : Int)
  · rw [szR_neg hlt0]
    go_wp2_with fail
    go_ret
    exact ⟨rfl, (by repeat (first | (with_reducible exact Ext.refl _) | (with_reducible assumption) | (with_reducible refine Ext.alloc ?_ _) | (with_reducible refine Ext.drew ?_) | (with_reducible refine Ext.out ?_ (by with_reducible assumption) ?ge; case ge => omega) | (with_reducible refine Ext.trans ?_ (by with_reducible assumption))))⟩
  rw [szR_pos (by omega)]
  have hb0 : x0.ases.length + x0.links.length ≤ 1048576 := by omega
  have bc0 : Blk w_1 (w.heap.size) 63 [.slice A0_0 n0_0 c0_0, .slice A0_1 n0_1 c0_1] := (by repeat (first | (with_reducible exact BX0.out) | (with_reducible refine Blk.drew ?_) | (with_reducible refine Blk.ext ?_ (by with_reducible assumption)) | (with_reducible refine Blk.out ?_ (by with_reducible assumption) ?ge; case ge => omega)))
  obtain ⟨q0_0, q0_1⟩ := blk2 bc0
  clear bc0
  go_wp2_with fail
  clear q0_0 q0_1
  refine (toTopology (.agg #[.slice A0_0 n0_0 c0_0, .slice A0_1 n0_1 c0_1]) x0 _ (by exact H0.out.ext (by repeat (first | (with_reducible exact Ext.refl _) | (with_reducible assumption) | (with_reducible refine Ext.alloc ?_ _) | (with_reducible refine Ext.drew ?_) | (with_reducible refine Ext.out ?_ (by with_reducible assumption) ?ge; case ge => omega) | (with_reducible refine Ext.trans ?_ (by with_reducible assumption))))) (by omega)).mono ?_
  rintro e w_2 ⟨u_2, rfl, o_2, e_2⟩
  have z_2 := e_2.size
  have O_2 := Lib.hid o_2; clear o_2
  obtain ⟨A_2_0, n_2_0, c_2_0, A_2_1, n_2_1, c_2_1, hv_2⟩ := O_2.out.shape
  subst hv_2
  have bc0 : Blk w_2 (w.heap.size) 63 [.slice A0_0 n0_0 c0_0, .slice A0_1 n0_1 c0_1] := (by repeat (first | (with_reducible exact BX0.out) | (with_reducible refine Blk.drew ?_) | (with_reducible refine Blk.ext ?_ (by with_reducible assumption)) | (with_reducible refine Blk.out ?_ (by with_reducible assumption) ?ge; case ge => omega)))
  obtain ⟨q0_0, q0_1⟩ := blk2 bc0
  clear bc0
  go_wp2_with fail
  clear q0_0 q0_1
  refine (spec_NewBeaconing _ a1 x0 _ (by exact TopologyO_rd (lo := w_1.heap.size) (hi := w_2.heap.size) (by repeat (first | (with_reducible exact O_2.out) | (with_reducible refine TopologyO.drew ?_) | (with_reducible refine TopologyO.ext ?_ (by with_reducible assumption) ?ge; case ge => first | omega | (simp only [World.size_drew]; omega)) | (with_reducible refine TopologyO.out ?_ (by with_reducible assumption) ?ge; case ge => omega))) (by omega))).mono ?_
  rintro e w_3 ⟨u_3, rfl, o_3, e_3⟩
  have z_3 := e_3.size
  have O_3 := Lib.hid o_3; clear o_3
  obtain ⟨A_3_1, n_3_1, c_3_1, hv_3⟩ := O_3.out.shape
  subst hv_3
  have bc0 : Blk w_3 (w.heap.size) 63 [.slice A0_0 n0_0 c0_0, .slice A0_1 n0_1 c0_1] := (by repeat (first | (with_reducible exact BX0.out) | (with_reducible refine Blk.drew ?_) | (with_reducible refine Blk.ext ?_ (by with_reducible assumption)) | (with_reducible refine Blk.out ?_ (by with_reducible assumption) ?ge; case ge => omega)))
  have lt0 := bc0.lt
  obtain ⟨q0_0, q0_1⟩ := blk2 bc0
  clear bc0
  go_wp2_with fail
  clear q0_0 q0_1 lt0
  have bxLw3 : Blk (w_3.alloc (.cells #[I (newBeac x0 a1).ts, .slice A_3_1 n_3_1 c_3_1] 97)) w_3.heap.size 97 [I (newBeac x0 a1).ts, .slice A_3_1 n_3_1 c_3_1] := Blk.new _ _ _
  have BXLw3 := Lib.hid bxLw3; clear bxLw3
  have ewLw3 : Ext w_3 (w_3.alloc (.cells #[I (newBeac x0 a1).ts, .slice A_3_1 n_3_1 c_3_1] 97)) := (Ext.refl _).alloc _
  have zwLw3 : w_3.heap.size + 1 ≤ (w_3.alloc (.cells #[I (newBeac x0 a1).ts, .slice A_3_1 n_3_1 c_3_1] 97)).heap.size := by simp only [World.size_alloc]; omega
  generalize (w_3.alloc (.cells #[I (newBeac x0 a1).ts, .slice A_3_1 n_3_1 c_3_1] 97)) = w_3b at *
  refine (toTopology (.agg #[.slice A0_0 n0_0 c0_0, .slice A0_1 n0_1 c0_1]) x0 _ (by exact H0.out.ext (by repeat (first | (with_reducible exact Ext.refl _) | (with_reducible assumption) | (with_reducible refine Ext.alloc ?_ _) | (with_reducible refine Ext.drew ?_) | (with_reducible refine Ext.out ?_ (by with_reducible assumption) ?ge; case ge => omega) | (with_reducible refine Ext.trans ?_ (by with_reducible assumption))))) (by omega)).mono ?_
  rintro e w_4 ⟨u_4, rfl, o_4, e_4⟩
  have z_4 := e_4.size
  have O_4 := Lib.hid o_4; clear o_4
  obtain ⟨A_4_0, n_4_0, c_4_0, A_4_1, n_4_1, c_4_1, hv_4⟩ := O_4.out.shape
  subst hv_4
  have bc0 : Blk w_4 (w.heap.size) 63 [.slice A0_0 n0_0 c0_0, .slice A0_1 n0_1 c0_1] := (by repeat (first | (with_reducible exact BX0.out) | (with_reducible refine Blk.drew ?_) | (with_reducible refine Blk.ext ?_ (by with_reducible assumption)) | (with_reducible refine Blk.out ?_ (by with_reducible assumption) ?ge; case ge => omega)))
  have lt0 := bc0.lt
  obtain ⟨q0_0, q0_1⟩ := blk2 bc0
  clear bc0
  have bcLw3 : Blk w_4 (w_3.heap.size) 97 [I (newBeac x0 a1).ts, .slice A_3_1 n_3_1 c_3_1] := (by repeat (first | (with_reducible exact BXLw3.out) | (with_reducible refine Blk.drew ?_) | (with_reducible refine Blk.ext ?_ (by with_reducible assumption)) | (with_reducible refine Blk.out ?_ (by with_reducible assumption) ?ge; case ge => omega)))
  have ltLw3 := bcLw3.lt
  obtain ⟨qLw3_0, qLw3_1⟩ := blk2 bcLw3
  clear bcLw3
  go_wp2_with fail
  clear q0_0 q0_1 qLw3_0 qLw3_1 lt0 ltLw3
  have bxLw4 : Blk (w_4.alloc (.cells #[.slice A_4_0 n_4_0 c_4_0, .slice A_4_1 n_4_1 c_4_1] 73)) w_4.heap.size 73 [.slice A_4_0 n_4_0 c_4_0, .slice A_4_1 n_4_1 c_4_1] := Blk.new _ _ _
  have BXLw4 := Lib.hid bxLw4; clear bxLw4
  have ewLw4 : Ext w_4 (w_4.alloc (.cells #[.slice A_4_0 n_4_0 c_4_0, .slice A_4_1 n_4_1 c_4_1] 73)) := (Ext.refl _).alloc _
  have zwLw4 : w_4.heap.size + 1 ≤ (w_4.alloc (.cells #[.slice A_4_0 n_4_0 c_4_0, .slice A_4_1 n_4_1 c_4_1] 73)).heap.size := by simp only [World.size_alloc]; omega
  generalize (w_4.alloc (.cells #[.slice A_4_0 n_4_0 c_4_0, .slice A_4_1 n_4_1 c_4_1] 73)) = w_4b at *
  refine (impl_NewBeaconing _ a1 x0 _ (by exact TopologyO_rd (lo := w_3b.heap.size) (hi := w_4.heap.size) (by repeat (first | (with_reducible exact O_4.out) | (with_reducible refine TopologyO.drew ?_) | (with_reducible refine TopologyO.ext ?_ (by with_reducible assumption) ?ge; case ge => first | omega | (simp only [World.size_drew]; omega)) | (with_reducible refine TopologyO.out ?_ (by with_reducible assumption) ?ge; case ge => omega))) (by omega))).mono ?_
  rintro e w_5 ⟨u_5, rfl, o_5, e_5⟩
  have z_5 := e_5.size
  have O_5 := Lib.hid o_5; clear o_5
  obtain ⟨A_5_1, n_5_1, c_5_1, hv_5⟩ := O_5.out.shape
  subst hv_5
  have bc0 : Blk w_5 (w.heap.size) 63 [.slice A0_0 n0_0 c0_0, .slice A0_1 n0_1 c0_1] := (by repeat (first | (with_reducible exact BX0.out) | (with_reducible refine Blk.drew ?_) | (with_reducible refine Blk.ext ?_ (by with_reducible assumption)) | (with_reducible refine Blk.out ?_ (by with_reducible assumption) ?ge; case ge => omega)))
  have lt0 := bc0.lt
  obtain ⟨q0_0, q0_1⟩ := blk2 bc0
  clear bc0
  have bcLw3 : Blk w_5 (w_3.heap.size) 97 [I (newBeac x0 a1).ts, .slice A_3_1 n_3_1 c_3_1] := (by repeat (first | (with_reducible exact BXLw3.out) | (with_reducible refine Blk.drew ?_) | (with_reducible refine Blk.ext ?_ (by with_reducible assumption)) | (with_reducible refine Blk.out ?_ (by with_reducible assumption) ?ge; case ge => omega)))
  have ltLw3 := bcLw3.lt
  obtain ⟨qLw3_0, qLw3_1⟩ := blk2 bcLw3
  clear bcLw3
  have bcLw4 : Blk w_5 (w_4.heap.size) 73 [.slice A_4_0 n_4_0 c_4_0, .slice A_4_1 n_4_1 c_4_1] := (by repeat (first | (with_reducible exact BXLw4.out) | (with_reducible refine Blk.drew ?_) | (with_reducible refine Blk.ext ?_ (by with_reducible assumption)) | (with_reducible refine Blk.out ?_ (by with_reducible assumption) ?ge; case ge => omega)))
  have ltLw4 := bcLw4.lt
  obtain ⟨qLw4_0, qLw4_1⟩ := blk2 bcLw4
  clear bcLw4
  go_wp2_with fail
  clear q0_0 q0_1 qLw3_0 qLw3_1 qLw4_0 qLw4_1 lt0 ltLw3 ltLw4
  have bxLw5 : Blk (w_5.alloc (.cells #[I (newBeac x0 a1).ts, .slice A_5_1 n_5_1 c_5_1] 97)) w_5.heap.size 97 [I (newBeac x0 a1).ts, .slice A_5_1 n_5_1 c_5_1] := Blk.new _ _ _
  have BXLw5 := Lib.hid bxLw5; clear bxLw5
  have ewLw5 : Ext w_5 (w_5.alloc (.cells #[I (newBeac x0 a1).ts, .slice A_5_1 n_5_1 c_5_1] 97)) := (Ext.refl _).alloc _
  have zwLw5 : w_5.heap.size + 1 ≤ (w_5.alloc (.cells #[I (newBeac x0 a1).ts, .slice A_5_1 n_5_1 c_5_1] 97)).heap.size := by simp only [World.size_alloc]; omega
  generalize (w_5.alloc (.cells #[I (newBeac x0 a1).ts, .slice A_5_1 n_5_1 c_5_1] 97)) = w_5b at *
  have S_3 := Lib.hid (BeaconingO_rd O_3.out (Nat.le_refl _))
  refine (eqBeaconing _ _ (newBeac x0 a1) (newBeac x0 a1) _ (by exact BeaconingO_rd (lo := w_4b.heap.size) (hi := w_5.heap.size) (by repeat (first | (with_reducible exact O_5.out) | (with_reducible refine BeaconingO.drew ?_) | (with_reducible refine BeaconingO.ext ?_ (by with_reducible assumption) ?ge; case ge => first | omega | (simp only [World.size_drew]; omega)) | (with_reducible refine BeaconingO.out ?_ (by with_reducible assumption) ?ge; case ge => omega))) (by omega)) (by exact S_3.out.ext (by repeat (first | (with_reducible exact Ext.refl _) | (with_reducible assumption) | (with_reducible refine Ext.alloc ?_ _) | (with_reducible refine Ext.drew ?_) | (with_reducible refine Ext.out ?_ (by with_reducible assumption) ?ge; case ge => omega) | (with_reducible refine Ext.trans ?_ (by with_reducible assumption)))))).mono ?_
  rintro e w_6 ⟨rfl, e_6⟩
  have z_6 := e_6.size
  try rw [decide_eq_true rfl]
  have bc0 : Blk w_6 (w.heap.size) 63 [.slice A0_0 n0_0 c0_0, .slice A0_1 n0_1 c0_1] := (by repeat (first | (with_reducible exact BX0.out) | (with_reducible refine Blk.drew ?_) | (with_reducible refine Blk.ext ?_ (by with_reducible assumption)) | (with_reducible refine Blk.out ?_ (by with_reducible assumption) ?ge; case ge => omega)))
  obtain ⟨q0_0, q0_1⟩ := blk2 bc0
  clear bc0
  have bcLw3 : Blk w_6 (w_3.heap.size) 97 [I (newBeac x0 a1).ts, .slice A_3_1 n_3_1 c_3_1] := (by repeat (first | (with_reducible exact BXLw3.out) | (with_reducible refine Blk.drew ?_) | (with_reducible refine Blk.ext ?_ (by with_reducible assumption)) | (with_reducible refine Blk.out ?_ (by with_reducible assumption) ?ge; case ge => omega)))
  obtain ⟨qLw3_0, qLw3_1⟩ := blk2 bcLw3
  clear bcLw3
  have bcLw4 : Blk w_6 (w_4.heap.size) 73 [.slice A_4_0 n_4_0 c_4_0, .slice A_4_1 n_4_1 c_4_1] := (by repeat (first | (with_reducible exact BXLw4.out) | (with_reducible refine Blk.drew ?_) | (with_reducible refine Blk.ext ?_ (by with_reducible assumption)) | (with_reducible refine Blk.out ?_ (by with_reducible assumption) ?ge; case ge => omega)))
  obtain ⟨qLw4_0, qLw4_1⟩ := blk2 bcLw4
  clear bcLw4
  have bcLw5 : Blk w_6 (w_5.heap.size) 97 [I (newBeac x0 a1).ts, .slice A_5_1 n_5_1 c_5_1] := (by repeat (first | (with_reducible exact BXLw5.out) | (with_reducible refine Blk.drew ?_) | (with_reducible refine Blk.ext ?_ (by with_reducible assumption)) | (with_reducible refine Blk.out ?_ (by with_reducible assumption) ?ge; case ge => omega)))
  obtain ⟨qLw5_0, qLw5_1⟩ := blk2 bcLw5
  clear bcLw5
  go_wp2_with fail
  clear q0_0 q0_1 qLw3_0 qLw3_1 qLw4_0 qLw4_1 qLw5_0 qLw5_1
  have bc0 : Blk w_6 (w.heap.size) 63 [.slice A0_0 n0_0 c0_0, .slice A0_1 n0_1 c0_1] := (by repeat (first | (with_reducible exact BX0.out) | (with_reducible refine Blk.drew ?_) | (with_reducible refine Blk.ext ?_ (by with_reducible assumption)) | (with_reducible refine Blk.out ?_ (by with_reducible assumption) ?ge; case ge => omega)))
  have lt0 := bc0.lt
  obtain ⟨q0_0, q0_1⟩ := blk2 bc0
  clear bc0
  have bcLw3 : Blk w_6 (w_3.heap.size) 97 [I (newBeac x0 a1).ts, .slice A_3_1 n_3_1 c_3_1] := (by repeat (first | (with_reducible exact BXLw3.out) | (with_reducible refine Blk.drew ?_) | (with_reducible refine Blk.ext ?_ (by with_reducible assumption)) | (with_reducible refine Blk.out ?_ (by with_reducible assumption) ?ge; case ge => omega)))
  have ltLw3 := bcLw3.lt
  obtain ⟨qLw3_0, qLw3_1⟩ := blk2 bcLw3
  clear bcLw3
  have bcLw4 : Blk w_6 (w_4.heap.size) 73 [.slice A_4_0 n_4_0 c_4_0, .slice A_4_1 n_4_1 c_4_1] := (by repeat (first | (with_reducible exact BXLw4.out) | (with_reducible refine Blk.drew ?_) | (with_reducible refine Blk.ext ?_ (by with_reducible assumption)) | (with_reducible refine Blk.out ?_ (by with_reducible assumption) ?ge; case ge => omega)))
  have ltLw4 := bcLw4.lt
  obtain ⟨qLw4_0, qLw4_1⟩ := blk2 bcLw4
  clear bcLw4
  have bcLw5 : Blk w_6 (w_5.heap.size) 97 [I (newBeac x0 a1).ts, .slice A_5_1 n_5_1 c_5_1] := (by repeat (first | (with_reducible exact BXLw5.out) | (with_reducible refine Blk.drew ?_) | (with_reducible refine Blk.ext ?_ (by with_reducible assumption)) | (with_reducible refine Blk.out ?_ (by with_reducible assumption) ?ge; case ge => omega)))
  have ltLw5 := bcLw5.lt
  obtain ⟨qLw5_0, qLw5_1⟩ := blk2 bcLw5
  clear bcLw5
  go_region_held3 (fun W => w_6.heap.size ≤ W.heap.size ∧ ∀ b o, b < w_6.heap.size → W.cell? ⟨b, o, none⟩ = w_6.cell? ⟨b, o, none⟩)
    (first | exact ⟨Nat.le_refl _, fun _ _ _ => rfl⟩ | exact keepC (by assumption) e_8 | exact keepC (by assumption) e_7)
    (first | (go_at_call 34; (with_reducible refine Calls.mono (toTopology (.agg #[.slice A0_0 n0_0 c0_0, .slice A0_1 n0_1 c0_1]) x0 _ ?s0 ?s1) ?_); (case s0 => exact H0.out.ext (by repeat (first | (with_reducible exact Ext.refl _) | (with_reducible assumption) | (with_reducible refine Ext.alloc ?_ _) | (with_reducible refine Ext.drew ?_) | (with_reducible refine Ext.out ?_ (by with_reducible assumption) ?ge; case ge => omega) | (with_reducible refine Ext.trans ?_ (by with_reducible assumption))))); (case s1 => omega); rintro e w_7 ⟨u_7, rfl, o_7, e_7⟩; have z_7 : w_6.heap.size ≤ w_7.heap.size := e_7.size; have o_7 : TopologyO w_6.heap.size w_7.heap.size w_7 _ _ := o_7) | (go_at_call 37; (with_reducible refine Calls.mono (eqTopology _ _ x0 x0 _ ?s0 ?s1) ?_); (case s0 => exact TopologyO_rd (lo := w_3b.heap.size) (hi := w_4.heap.size) (by repeat (first | (with_reducible exact O_4.out) | (with_reducible refine TopologyO.drew ?_) | (with_reducible refine TopologyO.ext ?_ (by with_reducible assumption) ?ge; case ge => first | omega | (simp only [World.size_drew]; omega)) | (with_reducible refine TopologyO.out ?_ (by with_reducible assumption) ?ge; case ge => omega))) (by omega)); (case s1 => exact TopologyO_rd (lo := w_6.heap.size) (hi := w_7.heap.size) (by repeat (first | (with_reducible exact o_7) | (with_reducible refine TopologyO.drew ?_) | (with_reducible refine TopologyO.ext ?_ (by with_reducible assumption) ?ge; case ge => first | omega | (simp only [World.size_drew]; omega)) | (with_reducible refine TopologyO.out ?_ (by with_reducible assumption) ?ge; case ge => omega))) (by omega)); rintro e w_8 ⟨rfl, e_8⟩; have z_8 := e_8.size))
  clear q0_0 q0_1 qLw3_0 qLw3_1 qLw4_0 qLw4_1 qLw5_0 qLw5_1 lt0 ltLw3 ltLw4 ltLw5
  have O_7 := Lib.hid o_7; clear o_7
  obtain ⟨A_7_0, n_7_0, c_7_0, A_7_1, n_7_1, c_7_1, hv_7⟩ := O_7.out.shape
  subst hv_7
  try rw [decide_eq_true rfl]
  have bc0 : Blk w_8 (w.heap.size) 63 [.slice A0_0 n0_0 c0_0, .slice A0_1 n0_1 c0_1] := (by repeat (first | (with_reducible exact BX0.out) | (with_reducible refine Blk.drew ?_) | (with_reducible refine Blk.ext ?_ (by with_reducible assumption)) | (with_reducible refine Blk.out ?_ (by with_reducible assumption) ?ge; case ge => omega)))
  obtain ⟨q0_0, q0_1⟩ := blk2 bc0
  clear bc0
  have bcLw3 : Blk w_8 (w_3.heap.size) 97 [I (newBeac x0 a1).ts, .slice A_3_1 n_3_1 c_3_1] := (by repeat (first | (with_reducible exact BXLw3.out) | (with_reducible refine Blk.drew ?_) | (with_reducible refine Blk.ext ?_ (by with_reducible assumption)) | (with_reducible refine Blk.out ?_ (by with_reducible assumption) ?ge; case ge => omega)))
  obtain ⟨qLw3_0, qLw3_1⟩ := blk2 bcLw3
  clear bcLw3
  have bcLw4 : Blk w_8 (w_4.heap.size) 73 [.slice A_4_0 n_4_0 c_4_0, .slice A_4_1 n_4_1 c_4_1] := (by repeat (first | (with_reducible exact BXLw4.out) | (with_reducible refine Blk.drew ?_) | (with_reducible refine Blk.ext ?_ (by with_reducible assumption)) | (with_reducible refine Blk.out ?_ (by with_reducible assumption) ?ge; case ge => omega)))
  obtain ⟨qLw4_0, qLw4_1⟩ := blk2 bcLw4
  clear bcLw4
  have bcLw5 : Blk w_8 (w_5.heap.size) 97 [I (newBeac x0 a1).ts, .slice A_5_1 n_5_1 c_5_1] := (by repeat (first | (with_reducible exact BXLw5.out) | (with_reducible refine Blk.drew ?_) | (with_reducible refine Blk.ext ?_ (by with_reducible assumption)) | (with_reducible refine Blk.out ?_ (by with_reducible assumption) ?ge; case ge => omega)))
  obtain ⟨qLw5_0, qLw5_1⟩ := blk2 bcLw5
  clear bcLw5
  go_wp2_with fail
  clear q0_0 q0_1 qLw3_0 qLw3_1 qLw4_0 qLw4_1 qLw5_0 qLw5_1
  have hcntr_166 := BeaconStoreCnt_sum (newBeac x0 a1).stores
  have hres : (0 + ((newBeac x0 a1).stores.map BeaconStoreCnt).sum) ≤ 100000000000 := by have h := newBeac_tot x0 a1; omega
  refine (markTopology _ (x0) 1 w_3b.heap.size w_4.heap.size _ (by exact (by repeat (first | (with_reducible exact O_4.out) | (with_reducible refine TopologyO.drew ?_) | (with_reducible refine TopologyO.ext ?_ (by with_reducible assumption) ?ge; case ge => first | omega | (simp only [World.size_drew]; omega)) | (with_reducible refine TopologyO.out ?_ (by with_reducible assumption) ?ge; case ge => omega)))) (by omega) (by omega)).mono ?_
  rintro e w_9 ⟨rfl, o_9, e_9⟩
  have z_9 := e_9.size
  have O_9 := Lib.hid o_9; clear o_9
  have bc0 : Blk w_9 (w.heap.size) 63 [.slice A0_0 n0_0 c0_0, .slice A0_1 n0_1 c0_1] := (by repeat (first | (with_reducible exact BX0.out) | (with_reducible refine Blk.drew ?_) | (with_reducible refine Blk.ext ?_ (by with_reducible assumption)) | (with_reducible refine Blk.out ?_ (by with_reducible assumption) ?ge; case ge => omega)))
  obtain ⟨q0_0, q0_1⟩ := blk2 bc0
  clear bc0
  have bcLw3 : Blk w_9 (w_3.heap.size) 97 [I (newBeac x0 a1).ts, .slice A_3_1 n_3_1 c_3_1] := (by repeat (first | (with_reducible exact BXLw3.out) | (with_reducible refine Blk.drew ?_) | (with_reducible refine Blk.ext ?_ (by with_reducible assumption)) | (with_reducible refine Blk.out ?_ (by with_reducible assumption) ?ge; case ge => omega)))
  obtain ⟨qLw3_0, qLw3_1⟩ := blk2 bcLw3
  clear bcLw3
  have bcLw4 : Blk w_9 (w_4.heap.size) 73 [.slice A_4_0 n_4_0 c_4_0, .slice A_4_1 n_4_1 c_4_1] := (by repeat (first | (with_reducible exact BXLw4.out) | (with_reducible refine Blk.drew ?_) | (with_reducible refine Blk.ext ?_ (by with_reducible assumption)) | (with_reducible refine Blk.out ?_ (by with_reducible assumption) ?ge; case ge => omega)))
  obtain ⟨qLw4_0, qLw4_1⟩ := blk2 bcLw4
  clear bcLw4
  have bcLw5 : Blk w_9 (w_5.heap.size) 97 [I (newBeac x0 a1).ts, .slice A_5_1 n_5_1 c_5_1] := (by repeat (first | (with_reducible exact BXLw5.out) | (with_reducible refine Blk.drew ?_) | (with_reducible refine Blk.ext ?_ (by with_reducible assumption)) | (with_reducible refine Blk.out ?_ (by with_reducible assumption) ?ge; case ge => omega)))
  obtain ⟨qLw5_0, qLw5_1⟩ := blk2 bcLw5
  clear bcLw5
  go_wp2_with fail
  clear q0_0 q0_1 qLw3_0 qLw3_1 qLw4_0 qLw4_1 qLw5_0 qLw5_1
  refine (eqBeaconing _ _ (newBeac x0 a1) (newBeac x0 a1) _ (by exact BeaconingO_rd (lo := w_4b.heap.size) (hi := w_5.heap.size) (by repeat (first | (with_reducible exact O_5.out) | (with_reducible refine BeaconingO.drew ?_) | (with_reducible refine BeaconingO.ext ?_ (by with_reducible assumption) ?ge; case ge => first | omega | (simp only [World.size_drew]; omega)) | (with_reducible refine BeaconingO.out ?_ (by with_reducible assumption) ?ge; case ge => omega))) (by omega)) (by exact S_3.out.ext (by repeat (first | (with_reducible exact Ext.refl _) | (with_reducible assumption) | (with_reducible refine Ext.alloc ?_ _) | (with_reducible refine Ext.drew ?_) | (with_reducible refine Ext.out ?_ (by with_reducible assumption) ?ge; case ge => omega) | (with_reducible refine Ext.trans ?_ (by with_reducible assumption)))))).mono ?_
  rintro e w_10 ⟨rfl, e_10⟩
  have z_10 := e_10.size
  try rw [decide_eq_true rfl]
  have bc0 : Blk w_10 (w.heap.size) 63 [.slice A0_0 n0_0 c0_0, .slice A0_1 n0_1 c0_1] := (by repeat (first | (with_reducible exact BX0.out) | (with_reducible refine Blk.drew ?_) | (with_reducible refine Blk.ext ?_ (by with_reducible assumption)) | (with_reducible refine Blk.out ?_ (by with_reducible assumption) ?ge; case ge => omega)))
  obtain ⟨q0_0, q0_1⟩ := blk2 bc0
  clear bc0
  have bcLw3 : Blk w_10 (w_3.heap.size) 97 [I (newBeac x0 a1).ts, .slice A_3_1 n_3_1 c_3_1] := (by repeat (first | (with_reducible exact BXLw3.out) | (with_reducible refine Blk.drew ?_) | (with_reducible refine Blk.ext ?_ (by with_reducible assumption)) | (with_reducible refine Blk.out ?_ (by with_reducible assumption) ?ge; case ge => omega)))
  obtain ⟨qLw3_0, qLw3_1⟩ := blk2 bcLw3
  clear bcLw3
  have bcLw4 : Blk w_10 (w_4.heap.size) 73 [.slice A_4_0 n_4_0 c_4_0, .slice A_4_1 n_4_1 c_4_1] := (by repeat (first | (with_reducible exact BXLw4.out) | (with_reducible refine Blk.drew ?_) | (with_reducible refine Blk.ext ?_ (by with_reducible assumption)) | (with_reducible refine Blk.out ?_ (by with_reducible assumption) ?ge; case ge => omega)))
  obtain ⟨qLw4_0, qLw4_1⟩ := blk2 bcLw4
  clear bcLw4
  have bcLw5 : Blk w_10 (w_5.heap.size) 97 [I (newBeac x0 a1).ts, .slice A_5_1 n_5_1 c_5_1] := (by repeat (first | (with_reducible exact BXLw5.out) | (with_reducible refine Blk.drew ?_) | (with_reducible refine Blk.ext ?_ (by with_reducible assumption)) | (with_reducible refine Blk.out ?_ (by with_reducible assumption) ?ge; case ge => omega)))
  obtain ⟨qLw5_0, qLw5_1⟩ := blk2 bcLw5
  clear bcLw5
  go_wp2_with fail
  clear q0_0 q0_1 qLw3_0 qLw3_1 qLw4_0 qLw4_1 qLw5_0 qLw5_1
  refine (markBeaconing _ (newBeac x0 a1) 1 w_4b.heap.size w_5.heap.size _ (by exact (by repeat (first | (with_reducible exact O_5.out) | (with_reducible refine BeaconingO.drew ?_) | (with_reducible refine BeaconingO.ext ?_ (by with_reducible assumption) ?ge; case ge => first | omega | (simp only [World.size_drew]; omega)) | (with_reducible refine BeaconingO.out ?_ (by with_reducible assumption) ?ge; case ge => omega)))) (by omega) (by omega)).mono ?_
  rintro e w_11 ⟨rfl, o_11, e_11⟩
  have z_11 := e_11.size
  have O_11 := Lib.hid o_11; clear o_11
  have bc0 : Blk w_11 (w.heap.size) 63 [.slice A0_0 n0_0 c0_0, .slice A0_1 n0_1 c0_1] := (by repeat (first | (with_reducible exact BX0.out) | (with_reducible refine Blk.drew ?_) | (with_reducible refine Blk.ext ?_ (by with_reducible assumption)) | (with_reducible refine Blk.out ?_ (by with_reducible assumption) ?ge; case ge => omega)))
  obtain ⟨q0_0, q0_1⟩ := blk2 bc0
  clear bc0
  have bcLw3 : Blk w_11 (w_3.heap.size) 97 [I (newBeac x0 a1).ts, .slice A_3_1 n_3_1 c_3_1] := (by repeat (first | (with_reducible exact BXLw3.out) | (with_reducible refine Blk.drew ?_) | (with_reducible refine Blk.ext ?_ (by with_reducible assumption)) | (with_reducible refine Blk.out ?_ (by with_reducible assumption) ?ge; case ge => omega)))
  obtain ⟨qLw3_0, qLw3_1⟩ := blk2 bcLw3
  clear bcLw3
  have bcLw4 : Blk w_11 (w_4.heap.size) 73 [.slice A_4_0 n_4_0 c_4_0, .slice A_4_1 n_4_1 c_4_1] := (by repeat (first | (with_reducible exact BXLw4.out) | (with_reducible refine Blk.drew ?_) | (with_reducible refine Blk.ext ?_ (by with_reducible assumption)) | (with_reducible refine Blk.out ?_ (by with_reducible assumption) ?ge; case ge => omega)))
  obtain ⟨qLw4_0, qLw4_1⟩ := blk2 bcLw4
  clear bcLw4
  have bcLw5 : Blk w_11 (w_5.heap.size) 97 [I (newBeac x0 a1).ts, .slice A_5_1 n_5_1 c_5_1] := (by repeat (first | (with_reducible exact BXLw5.out) | (with_reducible refine Blk.drew ?_) | (with_reducible refine Blk.ext ?_ (by with_reducible assumption)) | (with_reducible refine Blk.out ?_ (by with_reducible assumption) ?ge; case ge => omega)))
  obtain ⟨qLw5_0, qLw5_1⟩ := blk2 bcLw5
  clear bcLw5
  go_wp2_with fail
  clear q0_0 q0_1 qLw3_0 qLw3_1 qLw4_0 qLw4_1 qLw5_0 qLw5_1
  refine (heldBeaconing _ (newBeac x0 a1) 1 _ (by exact BeaconingO_rd (lo := w_4b.heap.size) (hi := w_5.heap.size) (by repeat (first | (with_reducible exact O_11.out) | (with_reducible refine BeaconingO.drew ?_) | (with_reducible refine BeaconingO.ext ?_ (by with_reducible assumption) ?ge; case ge => first | omega | (simp only [World.size_drew]; omega)) | (with_reducible refine BeaconingO.out ?_ (by with_reducible assumption) ?ge; case ge => omega))) (by omega)) (by omega)).mono ?_
  rintro e w_12 ⟨rfl, e_12⟩
  have z_12 := e_12.size
  have bc0 : Blk w_12 (w.heap.size) 63 [.slice A0_0 n0_0 c0_0, .slice A0_1 n0_1 c0_1] := (by repeat (first | (with_reducible exact BX0.out) | (with_reducible refine Blk.drew ?_) | (with_reducible refine Blk.ext ?_ (by with_reducible assumption)) | (with_reducible refine Blk.out ?_ (by with_reducible assumption) ?ge; case ge => omega)))
  obtain ⟨q0_0, q0_1⟩ := blk2 bc0
  clear bc0
  have bcLw3 : Blk w_12 (w_3.heap.size) 97 [I (newBeac x0 a1).ts, .slice A_3_1 n_3_1 c_3_1] := (by repeat (first | (with_reducible exact BXLw3.out) | (with_reducible refine Blk.drew ?_) | (with_reducible refine Blk.ext ?_ (by with_reducible assumption)) | (with_reducible refine Blk.out ?_ (by with_reducible assumption) ?ge; case ge => omega)))
  obtain ⟨qLw3_0, qLw3_1⟩ := blk2 bcLw3
  clear bcLw3
  have bcLw4 : Blk w_12 (w_4.heap.size) 73 [.slice A_4_0 n_4_0 c_4_0, .slice A_4_1 n_4_1 c_4_1] := (by repeat (first | (with_reducible exact BXLw4.out) | (with_reducible refine Blk.drew ?_) | (with_reducible refine Blk.ext ?_ (by with_reducible assumption)) | (with_reducible refine Blk.out ?_ (by with_reducible assumption) ?ge; case ge => omega)))
  obtain ⟨qLw4_0, qLw4_1⟩ := blk2 bcLw4
  clear bcLw4
  have bcLw5 : Blk w_12 (w_5.heap.size) 97 [I (newBeac x0 a1).ts, .slice A_5_1 n_5_1 c_5_1] := (by repeat (first | (with_reducible exact BXLw5.out) | (with_reducible refine Blk.drew ?_) | (with_reducible refine Blk.ext ?_ (by with_reducible assumption)) | (with_reducible refine Blk.out ?_ (by with_reducible assumption) ?ge; case ge => omega)))
  obtain ⟨qLw5_0, qLw5_1⟩ := blk2 bcLw5
  clear bcLw5
  go_wp2_with fail
  clear q0_0 q0_1 qLw3_0 qLw3_1 qLw4_0 qLw4_1 qLw5_0 qLw5_1
  refine (toTopology (.agg #[.slice A0_0 n0_0 c0_0, .slice A0_1 n0_1 c0_1]) x0 _ (by exact H0.out.ext (by repeat (first | (with_reducible exact Ext.refl _) | (with_reducible assumption) | (with_reducible refine Ext.alloc ?_ _) | (with_reducible refine Ext.drew ?_) | (with_reducible refine Ext.out ?_ (by with_reducible assumption) ?ge; case ge => omega) | (with_reducible refine Ext.trans ?_ (by with_reducible assumption))))) (by omega)).mono ?_
  rintro e w_13 ⟨u_13, rfl, o_13, e_13⟩
  have z_13 := e_13.size
  have O_13 := Lib.hid o_13; clear o_13
  obtain ⟨A_13_0, n_13_0, c_13_0, A_13_1, n_13_1, c_13_1, hv_13⟩ := O_13.out.shape
  subst hv_13
  have bc0 : Blk w_13 (w.heap.size) 63 [.slice A0_0 n0_0 c0_0, .slice A0_1 n0_1 c0_1] := (by repeat (first | (with_reducible exact BX0.out) | (with_reducible refine Blk.drew ?_) | (with_reducible refine Blk.ext ?_ (by with_reducible assumption)) | (with_reducible refine Blk.out ?_ (by with_reducible assumption) ?ge; case ge => omega)))
  obtain ⟨q0_0, q0_1⟩ := blk2 bc0
  clear bc0
  have bcLw3 : Blk w_13 (w_3.heap.size) 97 [I (newBeac x0 a1).ts, .slice A_3_1 n_3_1 c_3_1] := (by repeat (first | (with_reducible exact BXLw3.out) | (with_reducible refine Blk.drew ?_) | (with_reducible refine Blk.ext ?_ (by with_reducible assumption)) | (with_reducible refine Blk.out ?_ (by with_reducible assumption) ?ge; case ge => omega)))
  obtain ⟨qLw3_0, qLw3_1⟩ := blk2 bcLw3
  clear bcLw3
  have bcLw4 : Blk w_13 (w_4.heap.size) 73 [.slice A_4_0 n_4_0 c_4_0, .slice A_4_1 n_4_1 c_4_1] := (by repeat (first | (with_reducible exact BXLw4.out) | (with_reducible refine Blk.drew ?_) | (with_reducible refine Blk.ext ?_ (by with_reducible assumption)) | (with_reducible refine Blk.out ?_ (by with_reducible assumption) ?ge; case ge => omega)))
  obtain ⟨qLw4_0, qLw4_1⟩ := blk2 bcLw4
  clear bcLw4
  have bcLw5 : Blk w_13 (w_5.heap.size) 97 [I (newBeac x0 a1).ts, .slice A_5_1 n_5_1 c_5_1] := (by repeat (first | (with_reducible exact BXLw5.out) | (with_reducible refine Blk.drew ?_) | (with_reducible refine Blk.ext ?_ (by with_reducible assumption)) | (with_reducible refine Blk.out ?_ (by with_reducible assumption) ?ge; case ge => omega)))
  obtain ⟨qLw5_0, qLw5_1⟩ := blk2 bcLw5
  clear bcLw5
  go_wp2_with fail
  clear q0_0 q0_1 qLw3_0 qLw3_1 qLw4_0 qLw4_1 qLw5_0 qLw5_1
  refine (impl_NewBeaconing _ a1 x0 _ (by exact TopologyO_rd (lo := w_12.heap.size) (hi := w_13.heap.size) (by repeat (first | (with_reducible exact O_13.out) | (with_reducible refine TopologyO.drew ?_) | (with_reducible refine TopologyO.ext ?_ (by with_reducible assumption) ?ge; case ge => first | omega | (simp only [World.size_drew]; omega)) | (with_reducible refine TopologyO.out ?_ (by with_reducible assumption) ?ge; case ge => omega))) (by omega))).mono ?_
  rintro e w_14 ⟨u_14, rfl, o_14, e_14⟩
  have z_14 := e_14.size
  have O_14 := Lib.hid o_14; clear o_14
  obtain ⟨A_14_1, n_14_1, c_14_1, hv_14⟩ := O_14.out.shape
  subst hv_14
  have bc0 : Blk w_14 (w.heap.size) 63 [.slice A0_0 n0_0 c0_0, .slice A0_1 n0_1 c0_1] := (by repeat (first | (with_reducible exact BX0.out) | (with_reducible refine Blk.drew ?_) | (with_reducible refine Blk.ext ?_ (by with_reducible assumption)) | (with_reducible refine Blk.out ?_ (by with_reducible assumption) ?ge; case ge => omega)))
  have lt0 := bc0.lt
  obtain ⟨q0_0, q0_1⟩ := blk2 bc0
  clear bc0
  have bcLw3 : Blk w_14 (w_3.heap.size) 97 [I (newBeac x0 a1).ts, .slice A_3_1 n_3_1 c_3_1] := (by repeat (first | (with_reducible exact BXLw3.out) | (with_reducible refine Blk.drew ?_) | (with_reducible refine Blk.ext ?_ (by with_reducible assumption)) | (with_reducible refine Blk.out ?_ (by with_reducible assumption) ?ge; case ge => omega)))
  have ltLw3 := bcLw3.lt
  obtain ⟨qLw3_0, qLw3_1⟩ := blk2 bcLw3
  clear bcLw3
  have bcLw4 : Blk w_14 (w_4.heap.size) 73 [.slice A_4_0 n_4_0 c_4_0, .slice A_4_1 n_4_1 c_4_1] := (by repeat (first | (with_reducible exact BXLw4.out) | (with_reducible refine Blk.drew ?_) | (with_reducible refine Blk.ext ?_ (by with_reducible assumption)) | (with_reducible refine Blk.out ?_ (by with_reducible assumption) ?ge; case ge => omega)))
  have ltLw4 := bcLw4.lt
  obtain ⟨qLw4_0, qLw4_1⟩ := blk2 bcLw4
  clear bcLw4
  have bcLw5 : Blk w_14 (w_5.heap.size) 97 [I (newBeac x0 a1).ts, .slice A_5_1 n_5_1 c_5_1] := (by repeat (first | (with_reducible exact BXLw5.out) | (with_reducible refine Blk.drew ?_) | (with_reducible refine Blk.ext ?_ (by with_reducible assumption)) | (with_reducible refine Blk.out ?_ (by with_reducible assumption) ?ge; case ge => omega)))
  have ltLw5 := bcLw5.lt
  obtain ⟨qLw5_0, qLw5_1⟩ := blk2 bcLw5
  clear bcLw5
  go_wp2_with fail
  clear q0_0 q0_1 qLw3_0 qLw3_1 qLw4_0 qLw4_1 qLw5_0 qLw5_1 lt0 ltLw3 ltLw4 ltLw5
  have bxLw14 : Blk (w_14.alloc (.cells #[I (newBeac x0 a1).ts, .slice A_14_1 n_14_1 c_14_1] 97)) w_14.heap.size 97 [I (newBeac x0 a1).ts, .slice A_14_1 n_14_1 c_14_1] := Blk.new _ _ _
  have BXLw14 := Lib.hid bxLw14; clear bxLw14
  have ewLw14 : Ext w_14 (w_14.alloc (.cells #[I (newBeac x0 a1).ts, .slice A_14_1 n_14_1 c_14_1] 97)) := (Ext.refl _).alloc _
  have zwLw14 : w_14.heap.size + 1 ≤ (w_14.alloc (.cells #[I (newBeac x0 a1).ts, .slice A_14_1 n_14_1 c_14_1] 97)).heap.size := by simp only [World.size_alloc]; omega
  generalize (w_14.alloc (.cells #[I (newBeac x0 a1).ts, .slice A_14_1 n_14_1 c_14_1] 97)) = w_14b at *
  refine (eqBeaconing _ _ (newBeac x0 a1) (newBeac x0 a1) _ (by exact BeaconingO_rd (lo := w_13.heap.size) (hi := w_14.heap.size) (by repeat (first | (with_reducible exact O_14.out) | (with_reducible refine BeaconingO.drew ?_) | (with_reducible refine BeaconingO.ext ?_ (by with_reducible assumption) ?ge; case ge => first | omega | (simp only [World.size_drew]; omega)) | (with_reducible refine BeaconingO.out ?_ (by with_reducible assumption) ?ge; case ge => omega))) (by omega)) (by exact S_3.out.ext (by repeat (first | (with_reducible exact Ext.refl _) | (with_reducible assumption) | (with_reducible refine Ext.alloc ?_ _) | (with_reducible refine Ext.drew ?_) | (with_reducible refine Ext.out ?_ (by with_reducible assumption) ?ge; case ge => omega) | (with_reducible refine Ext.trans ?_ (by with_reducible assumption)))))).mono ?_
  rintro e w_15 ⟨rfl, e_15⟩
  have z_15 := e_15.size
  try rw [decide_eq_true rfl]
  have bc0 : Blk w_15 (w.heap.size) 63 [.slice A0_0 n0_0 c0_0, .slice A0_1 n0_1 c0_1] := (by repeat (first | (with_reducible exact BX0.out) | (with_reducible refine Blk.drew ?_) | (with_reducible refine Blk.ext ?_ (by with_reducible assumption)) | (with_reducible refine Blk.out ?_ (by with_reducible assumption) ?ge; case ge => omega)))
  obtain ⟨q0_0, q0_1⟩ := blk2 bc0
  clear bc0
  have bcLw3 : Blk w_15 (w_3.heap.size) 97 [I (newBeac x0 a1).ts, .slice A_3_1 n_3_1 c_3_1] := (by repeat (first | (with_reducible exact BXLw3.out) | (with_reducible refine Blk.drew ?_) | (with_reducible refine Blk.ext ?_ (by with_reducible assumption)) | (with_reducible refine Blk.out ?_ (by with_reducible assumption) ?ge; case ge => omega)))
  obtain ⟨qLw3_0, qLw3_1⟩ := blk2 bcLw3
  clear bcLw3
  have bcLw4 : Blk w_15 (w_4.heap.size) 73 [.slice A_4_0 n_4_0 c_4_0, .slice A_4_1 n_4_1 c_4_1] := (by repeat (first | (with_reducible exact BXLw4.out) | (with_reducible refine Blk.drew ?_) | (with_reducible refine Blk.ext ?_ (by with_reducible assumption)) | (with_reducible refine Blk.out ?_ (by with_reducible assumption) ?ge; case ge => omega)))
  obtain ⟨qLw4_0, qLw4_1⟩ := blk2 bcLw4
  clear bcLw4
  have bcLw5 : Blk w_15 (w_5.heap.size) 97 [I (newBeac x0 a1).ts, .slice A_5_1 n_5_1 c_5_1] := (by repeat (first | (with_reducible exact BXLw5.out) | (with_reducible refine Blk.drew ?_) | (with_reducible refine Blk.ext ?_ (by with_reducible assumption)) | (with_reducible refine Blk.out ?_ (by with_reducible assumption) ?ge; case ge => omega)))
  obtain ⟨qLw5_0, qLw5_1⟩ := blk2 bcLw5
  clear bcLw5
  have bcLw14 : Blk w_15 (w_14.heap.size) 97 [I (newBeac x0 a1).ts, .slice A_14_1 n_14_1 c_14_1] := (by repeat (first | (with_reducible exact BXLw14.out) | (with_reducible refine Blk.drew ?_) | (with_reducible refine Blk.ext ?_ (by with_reducible assumption)) | (with_reducible refine Blk.out ?_ (by with_reducible assumption) ?ge; case ge => omega)))
  obtain ⟨qLw14_0, qLw14_1⟩ := blk2 bcLw14
  clear bcLw14
  go_wp2_with fail
  clear q0_0 q0_1 qLw3_0 qLw3_1 qLw4_0 qLw4_1 qLw5_0 qLw5_1 qLw14_0 qLw14_1
  refine (heldBeaconing _ (newBeac x0 a1) 1 _ (by exact BeaconingO_rd (lo := w_4b.heap.size) (hi := w_5.heap.size) (by repeat (first | (with_reducible exact O_11.out) | (with_reducible refine BeaconingO.drew ?_) | (with_reducible refine BeaconingO.ext ?_ (by with_reducible assumption) ?ge; case ge => first | omega | (simp only [World.size_drew]; omega)) | (with_reducible refine BeaconingO.out ?_ (by with_reducible assumption) ?ge; case ge => omega))) (by omega)) (by omega)).mono ?_
  rintro e w_16 ⟨rfl, e_16⟩
  have z_16 := e_16.size
  have bc0 : Blk w_16 (w.heap.size) 63 [.slice A0_0 n0_0 c0_0, .slice A0_1 n0_1 c0_1] := (by repeat (first | (with_reducible exact BX0.out) | (with_reducible refine Blk.drew ?_) | (with_reducible refine Blk.ext ?_ (by with_reducible assumption)) | (with_reducible refine Blk.out ?_ (by with_reducible assumption) ?ge; case ge => omega)))
  obtain ⟨q0_0, q0_1⟩ := blk2 bc0
  clear bc0
  have bcLw3 : Blk w_16 (w_3.heap.size) 97 [I (newBeac x0 a1).ts, .slice A_3_1 n_3_1 c_3_1] := (by repeat (first | (with_reducible exact BXLw3.out) | (with_reducible refine Blk.drew ?_) | (with_reducible refine Blk.ext ?_ (by with_reducible assumption)) | (with_reducible refine Blk.out ?_ (by with_reducible assumption) ?ge; case ge => omega)))
  obtain ⟨qLw3_0, qLw3_1⟩ := blk2 bcLw3
  clear bcLw3
  have bcLw4 : Blk w_16 (w_4.heap.size) 73 [.slice A_4_0 n_4_0 c_4_0, .slice A_4_1 n_4_1 c_4_1] := (by repeat (first | (with_reducible exact BXLw4.out) | (with_reducible refine Blk.drew ?_) | (with_reducible refine Blk.ext ?_ (by with_reducible assumption)) | (with_reducible refine Blk.out ?_ (by with_reducible assumption) ?ge; case ge => omega)))
  obtain ⟨qLw4_0, qLw4_1⟩ := blk2 bcLw4
  clear bcLw4
  have bcLw5 : Blk w_16 (w_5.heap.size) 97 [I (newBeac x0 a1).ts, .slice A_5_1 n_5_1 c_5_1] := (by repeat (first | (with_reducible exact BXLw5.out) | (with_reducible refine Blk.drew ?_) | (with_reducible refine Blk.ext ?_ (by with_reducible assumption)) | (with_reducible refine Blk.out ?_ (by with_reducible assumption) ?ge; case ge => omega)))
  obtain ⟨qLw5_0, qLw5_1⟩ := blk2 bcLw5
  clear bcLw5
  have bcLw14 : Blk w_16 (w_14.heap.size) 97 [I (newBeac x0 a1).ts, .slice A_14_1 n_14_1 c_14_1] := (by repeat (first | (with_reducible exact BXLw14.out) | (with_reducible refine Blk.drew ?_) | (with_reducible refine Blk.ext ?_ (by with_reducible assumption)) | (with_reducible refine Blk.out ?_ (by with_reducible assumption) ?ge; case ge => omega)))
  obtain ⟨qLw14_0, qLw14_1⟩ := blk2 bcLw14
  clear bcLw14
  go_wp2_with fail
  clear q0_0 q0_1 qLw3_0 qLw3_1 qLw4_0 qLw4_1 qLw5_0 qLw5_1 qLw14_0 qLw14_1
  go_ret
  exact ⟨rfl, (by repeat (first | (with_reducible exact Ext.refl _) | (with_reducible assumption) | (with_reducible refine Ext.alloc ?_ _) | (with_reducible refine Ext.drew ?_) | (with_reducible refine Ext.out ?_ (by with_reducible assumption) ?ge; case ge => omega) | (with_reducible refine Ext.trans ?_ (by with_reducible assumption))))⟩
set_option maxRecDepth 100000 in
theorem lifted (os : Os) (started : os.Started) (H : Type) (enc : TypeId × Value → H) :
    ReturnsInHanded {} Try.checked os 9 .any (Rows.fnExactNewBeaconingSpec.pre6 enc Try.prog Try.f9 Rows.fnExactNewBeaconingRow.domain false) (Rows.fnExactNewBeaconingSpec.post enc Try.prog Try.f9 false true false false) := by
  refine returnsInHanded_of_change (C := Try.checked) own started (by kernel_rfl) Try.func9
    (ChangeSpec.witness6 (enc := enc) (C := Try.checked) false ⟨#[], #[.agg #[.slice none 0 0, .slice none 0 0], .int .i64 0], []⟩ 8 (by kernel_rfl) (by kernel_rfl) (by kernel_rfl) (by kernel_rfl)) ?_
  intro W base args ds gs before hval0 hW hcnd _
  have hval : ∀ (j : Nat) t v, Try.f9.params[j]? = some t → args[j]? = some v → Value.okWide Try.prog W .any base t v := hval0
  have hW' := hW
  obtain ⟨p, q, hA0, hV, rfl, hfz, hnd⟩ := hW
  have hA : DataW.TrodAll enc Try.prog W 0 (fun _ => true) true Try.f9.params.toList args.toList ds p := hA0
  rw [Try.params9] at hA hval
  obtain ⟨v0, vs0, d0, ds0, p0, q0, hargs, rfl, rfl, h0, r0⟩ := trodAll_cons hA
  obtain ⟨v1, vs1, d1, ds1, p1, q1, rfl, rfl, rfl, h1, r1⟩ := trodAll_cons r0
  obtain ⟨rfl, rfl, rfl⟩ := trodAll_nil r1
  obtain rfl : args = #[v0, v1] := by cases args; simp_all
  obtain ⟨rfl, rfl⟩ := trodVars_none hV
  have k0 := h0
  have lt0 : ∀ x ∈ p0, x.block < W.heap.size := by obtain ⟨m, hm⟩ := k0; exact DataW.trod_lt m _ _ _ hm
  obtain ⟨cs0, rfl, _⟩ := okWide_struct Try.underlying63 (hval 0 63 v0 rfl rfl)
  obtain ⟨x0, y0⟩ : ∃ d, TopologyV W.heap.size W (.agg cs0) d := by
    obtain ⟨fuel, hf⟩ := h0
    obtain ⟨d, A0, n0, c0, A1, n1, c1, e, s0, s1⟩ := read_Topology hf
    have e1 : cs0 = #[.slice A0 n0 c0, .slice A1 n1 c1] := by cases cs0; simpa [Value.cells] using e
    exact ⟨d, ⟨_, _, _, _, _, _, by rw [e1], s0, s1⟩⟩
  obtain ⟨a1, rfl, rfl, rfl, w1⟩ := open_int Try.underlying3 (hval 1 3 v1 rfl rfl) h1
  clear hA0 hval0
  refine (walk _ x0 a1 W y0).mono fun e W' ⟨he, bel⟩ => ?_
  subst he
  exact ⟨_, rfl, _, _, _, [], _, [], hW', trodAll_mk1 (shut_bool Try.underlying4 _), (trodAll_cons_mk (Below.trod laidOut (by kernel_rfl) (of_decide_eq_true (by kernel_rfl)) k0 bel.below lt0) (trodAll_cons_mk (shut_int Try.underlying3 w1) trodAll_mk0)), rfl, bel.below.frame _, fun h => by cases h⟩

theorem over : Rows.fnExactNewBeaconingRow.holds Try.pinned (OpenSpec.ofChange Rows.fnExactNewBeaconingSpec) :=
  OpenClaim.holds_of_wide 9 Try.f9 rfl rfl rfl rfl rfl rfl rfl ⟨rfl, rfl, rfl, rfl, rfl⟩ rfl rfl rfl rfl rfl (by kernel_rfl) Try.func9 (by kernel_rfl)
    (of_decide_eq_true (by kernel_rfl)) (by unfold Func.isWrapper; first | (rw [if_pos (by decide +kernel)]; kernel_rfl) | (rw [if_neg (by decide +kernel)]; exact ⟨rfl, rfl⟩))
    (fun os started H enc _ => lifted os started H enc)

/-- The statement. -/
theorem proved : Rows.FnExactNewBeaconingSaid := over
#print axioms proved
end Go.Proofs.Ytcalbcjheenmgaa.lawNewBeaconing
