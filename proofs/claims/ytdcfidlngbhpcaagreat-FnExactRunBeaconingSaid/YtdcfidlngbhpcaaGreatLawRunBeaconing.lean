/- The law FnExactRunBeaconing returns true for every input and changes no argument. No conditions. -/
import Derived.Test.YtdcfidlngbhpcaaGreatL15h
import Derived.Test.YtdcfidlngbhpcaaGreatRead
namespace Go.Proofs.YtdcfidlngbhpcaaGreat.lawRunBeaconing
open Go.RowKit
set_option linter.unusedVariables false
open Go.ChangeShapes Go.WideShapes Go.ChangeAt
theorem own : ownKnob Tryz.prog.godebug = none := by kernel_rfl
theorem laidOut : laidOutB Tryz.prog = true := by kernel_rfl

set_option maxRecDepth 100000 in
set_option maxHeartbeats 1000000 in
theorem walk (v0 : Value) (x0 : DTopology) (v1 : Value) (x1 : List DPolicy) (a2 : Int) (w : World) (h0 : TopologyV w.heap.size w v0 x0) (h1 : PolicyS w.heap.size w v1 x1) :
    Calls Tryz.prog 9 #[v0, v1, I a2] w fun e w' => e = .returned (.bool true) ∧ Ext w w' := by
  have H0 := Lib.hid h0
  obtain ⟨A0_0, n0_0, c0_0, A0_1, n0_1, c0_1, rfl, -⟩ := h0
  obtain ⟨A1, n1, c1, rfl, hl1, hn1, hm1, -⟩ := id h1
  subst hl1
  unfold maxLen at hm1
  have H1 := Lib.hid h1; clear h1
  go_enter Tryz.func9, Tryz.ntmps9
  go_wp2_with fail
  have bx0 : Blk (w.alloc (.cells #[.slice A0_0 n0_0 c0_0, .slice A0_1 n0_1 c0_1] 25)) (w.heap.size) 25 [.slice A0_0 n0_0 c0_0, .slice A0_1 n0_1 c0_1] := by simpa using Blk.new w 25 [.slice A0_0 n0_0 c0_0, .slice A0_1 n0_1 c0_1]
  have BX0 := Lib.hid bx0; clear bx0
  have ew : Ext w (w.alloc (.cells #[.slice A0_0 n0_0 c0_0, .slice A0_1 n0_1 c0_1] 25)) := xo
  have zw : w.heap.size + 1 ≤ (w.alloc (.cells #[.slice A0_0 n0_0 c0_0, .slice A0_1 n0_1 c0_1] 25)).heap.size := by simp only [World.size_alloc]; omega
  generalize (w.alloc (.cells #[.slice A0_0 n0_0 c0_0, .slice A0_1 n0_1 c0_1] 25)) = w0 at *
  refine (szTopology _ x0 (1048576) _ (by exact H0.out.ext xo) (by omega) (by omega)).mono ?_
  rintro e w_1 ⟨rfl, e_1⟩
  have z_1 := e_1.size
  by_cases hlt0 : 1048576 < ((x0.ases.length + x0.links.length : Nat) : Int)
  · rw [szR_neg hlt0]
    go_wp2_with fail
    go_ret
    exact ⟨rfl, xo⟩
  rw [szR_pos (by omega)]
  have hb0 : x0.ases.length + x0.links.length ≤ 1048576 := by omega
  have bc0 : Blk w_1 (w.heap.size) 25 [.slice A0_0 n0_0 c0_0, .slice A0_1 n0_1 c0_1] := (by repeat (first | (with_reducible exact BX0.out) | (with_reducible refine Blk.drew ?_) | (with_reducible refine Blk.ext ?_ (by with_reducible assumption)) | (with_reducible refine Blk.out ?_ (by with_reducible assumption) ?ge; case ge => omega)))
  obtain ⟨q0_0, q0_1⟩ := blk2 bc0
  clear bc0
  go_wp2_with fail
  clear q0_0 q0_1
  refine (szPolicyS _ x1 (1048576 - ((x0.ases.length + x0.links.length : Nat) : Int)) _ (by exact H1.out.ext xo) (by omega) (by omega)).mono ?_
  rintro e w_2 ⟨rfl, e_2⟩
  have z_2 := e_2.size
  by_cases hlt1 : 1048576 - ((x0.ases.length + x0.links.length : Nat) : Int) < ((x1.length : Nat) : Int)
  · rw [szR_neg hlt1]
    go_wp2_with fail
    go_ret
    exact ⟨rfl, xo⟩
  rw [szR_pos (by omega)]
  have hb1 : x1.length ≤ 1048576 := by omega
  have bc0 : Blk w_2 (w.heap.size) 25 [.slice A0_0 n0_0 c0_0, .slice A0_1 n0_1 c0_1] := (by repeat (first | (with_reducible exact BX0.out) | (with_reducible refine Blk.drew ?_) | (with_reducible refine Blk.ext ?_ (by with_reducible assumption)) | (with_reducible refine Blk.out ?_ (by with_reducible assumption) ?ge; case ge => omega)))
  obtain ⟨q0_0, q0_1⟩ := blk2 bc0
  clear bc0
  go_wp2_with fail
  clear q0_0 q0_1
  refine (toTopology (.agg #[.slice A0_0 n0_0 c0_0, .slice A0_1 n0_1 c0_1]) x0 _ (by exact H0.out.ext xo) (by omega)).mono ?_
  rintro e w_3 ⟨u_3, rfl, o_3, e_3⟩
  have z_3 := e_3.size
  have O_3 := Lib.hid o_3; clear o_3
  obtain ⟨A_3_0, n_3_0, c_3_0, A_3_1, n_3_1, c_3_1, hv_3⟩ := O_3.out.shape
  subst hv_3
  have bc0 : Blk w_3 (w.heap.size) 25 [.slice A0_0 n0_0 c0_0, .slice A0_1 n0_1 c0_1] := (by repeat (first | (with_reducible exact BX0.out) | (with_reducible refine Blk.drew ?_) | (with_reducible refine Blk.ext ?_ (by with_reducible assumption)) | (with_reducible refine Blk.out ?_ (by with_reducible assumption) ?ge; case ge => omega)))
  obtain ⟨q0_0, q0_1⟩ := blk2 bc0
  clear bc0
  go_wp2_with fail
  clear q0_0 q0_1
  refine (toPolicyS (.slice A1 x1.length c1) x1 _ (by exact H1.out.ext xo) (by omega)).mono ?_
  rintro e w_4 ⟨u_4, rfl, o_4, e_4⟩
  have z_4 := e_4.size
  have O_4 := Lib.hid o_4; clear o_4
  have bc0 : Blk w_4 (w.heap.size) 25 [.slice A0_0 n0_0 c0_0, .slice A0_1 n0_1 c0_1] := (by repeat (first | (with_reducible exact BX0.out) | (with_reducible refine Blk.drew ?_) | (with_reducible refine Blk.ext ?_ (by with_reducible assumption)) | (with_reducible refine Blk.out ?_ (by with_reducible assumption) ?ge; case ge => omega)))
  obtain ⟨q0_0, q0_1⟩ := blk2 bc0
  clear bc0
  go_wp2_with fail
  clear q0_0 q0_1
  refine (spec_RunBeaconing _ _ a2 x0 x1 _ (by exact TopologyO_rd (lo := w_2.heap.size) (hi := w_3.heap.size) (by repeat (first | (with_reducible exact O_3.out) | (with_reducible refine TopologyO.drew ?_) | (with_reducible refine TopologyO.ext ?_ (by with_reducible assumption) ?ge; case ge => first | omega | (simp only [World.size_drew]; omega)) | (with_reducible refine TopologyO.out ?_ (by with_reducible assumption) ?ge; case ge => omega))) (by omega)) (by exact PolicySO_rd (lo := w_3.heap.size) (hi := w_4.heap.size) (by repeat (first | (with_reducible exact O_4.out) | (with_reducible refine Own.drew ?_) | (with_reducible refine Own.ext ?_ (by with_reducible assumption) ?ge; case ge => first | omega | (simp only [World.size_drew]; omega)) | (with_reducible refine Own.out ?_ (by with_reducible assumption) ?ge; case ge => omega))))).mono ?_
  rintro e w_5 ⟨u_5, rfl, o_5, e_5⟩
  have z_5 := e_5.size
  have O_5 := Lib.hid o_5; clear o_5
  obtain ⟨A_5_1, n_5_1, c_5_1, hv_5⟩ := O_5.out.shape
  subst hv_5
  have bc0 : Blk w_5 (w.heap.size) 25 [.slice A0_0 n0_0 c0_0, .slice A0_1 n0_1 c0_1] := (by repeat (first | (with_reducible exact BX0.out) | (with_reducible refine Blk.drew ?_) | (with_reducible refine Blk.ext ?_ (by with_reducible assumption)) | (with_reducible refine Blk.out ?_ (by with_reducible assumption) ?ge; case ge => omega)))
  have lt0 := bc0.lt
  obtain ⟨q0_0, q0_1⟩ := blk2 bc0
  clear bc0
  go_wp2_with fail
  clear q0_0 q0_1 lt0
  have bxLw5 : Blk (w_5.alloc (.cells #[I (runBeac x0 x1 a2).ts, .slice A_5_1 n_5_1 c_5_1] 83)) w_5.heap.size 83 [I (runBeac x0 x1 a2).ts, .slice A_5_1 n_5_1 c_5_1] := Blk.new _ _ _
  have BXLw5 := Lib.hid bxLw5; clear bxLw5
  have ewLw5 : Ext w_5 (w_5.alloc (.cells #[I (runBeac x0 x1 a2).ts, .slice A_5_1 n_5_1 c_5_1] 83)) := (Ext.refl _).alloc _
  have zwLw5 : w_5.heap.size + 1 ≤ (w_5.alloc (.cells #[I (runBeac x0 x1 a2).ts, .slice A_5_1 n_5_1 c_5_1] 83)).heap.size := by simp only [World.size_alloc]; omega
  generalize (w_5.alloc (.cells #[I (runBeac x0 x1 a2).ts, .slice A_5_1 n_5_1 c_5_1] 83)) = w_5b at *
  refine (toTopology (.agg #[.slice A0_0 n0_0 c0_0, .slice A0_1 n0_1 c0_1]) x0 _ (by exact H0.out.ext xo) (by omega)).mono ?_
  rintro e w_6 ⟨u_6, rfl, o_6, e_6⟩
  have z_6 := e_6.size
  have O_6 := Lib.hid o_6; clear o_6
  obtain ⟨A_6_0, n_6_0, c_6_0, A_6_1, n_6_1, c_6_1, hv_6⟩ := O_6.out.shape
  subst hv_6
  have bc0 : Blk w_6 (w.heap.size) 25 [.slice A0_0 n0_0 c0_0, .slice A0_1 n0_1 c0_1] := (by repeat (first | (with_reducible exact BX0.out) | (with_reducible refine Blk.drew ?_) | (with_reducible refine Blk.ext ?_ (by with_reducible assumption)) | (with_reducible refine Blk.out ?_ (by with_reducible assumption) ?ge; case ge => omega)))
  have lt0 := bc0.lt
  obtain ⟨q0_0, q0_1⟩ := blk2 bc0
  clear bc0
  have bcLw5 : Blk w_6 (w_5.heap.size) 83 [I (runBeac x0 x1 a2).ts, .slice A_5_1 n_5_1 c_5_1] := (by repeat (first | (with_reducible exact BXLw5.out) | (with_reducible refine Blk.drew ?_) | (with_reducible refine Blk.ext ?_ (by with_reducible assumption)) | (with_reducible refine Blk.out ?_ (by with_reducible assumption) ?ge; case ge => omega)))
  have ltLw5 := bcLw5.lt
  obtain ⟨qLw5_0, qLw5_1⟩ := blk2 bcLw5
  clear bcLw5
  go_wp2_with fail
  clear q0_0 q0_1 qLw5_0 qLw5_1 lt0 ltLw5
  have bxLw6 : Blk (w_6.alloc (.cells #[.slice A_6_0 n_6_0 c_6_0, .slice A_6_1 n_6_1 c_6_1] 42)) w_6.heap.size 42 [.slice A_6_0 n_6_0 c_6_0, .slice A_6_1 n_6_1 c_6_1] := Blk.new _ _ _
  have BXLw6 := Lib.hid bxLw6; clear bxLw6
  have ewLw6 : Ext w_6 (w_6.alloc (.cells #[.slice A_6_0 n_6_0 c_6_0, .slice A_6_1 n_6_1 c_6_1] 42)) := (Ext.refl _).alloc _
  have zwLw6 : w_6.heap.size + 1 ≤ (w_6.alloc (.cells #[.slice A_6_0 n_6_0 c_6_0, .slice A_6_1 n_6_1 c_6_1] 42)).heap.size := by simp only [World.size_alloc]; omega
  generalize (w_6.alloc (.cells #[.slice A_6_0 n_6_0 c_6_0, .slice A_6_1 n_6_1 c_6_1] 42)) = w_6b at *
  refine (toPolicyS (.slice A1 x1.length c1) x1 _ (by exact H1.out.ext xo) (by omega)).mono ?_
  rintro e w_7 ⟨u_7, rfl, o_7, e_7⟩
  have z_7 := e_7.size
  have O_7 := Lib.hid o_7; clear o_7
  have bc0 : Blk w_7 (w.heap.size) 25 [.slice A0_0 n0_0 c0_0, .slice A0_1 n0_1 c0_1] := (by repeat (first | (with_reducible exact BX0.out) | (with_reducible refine Blk.drew ?_) | (with_reducible refine Blk.ext ?_ (by with_reducible assumption)) | (with_reducible refine Blk.out ?_ (by with_reducible assumption) ?ge; case ge => omega)))
  obtain ⟨q0_0, q0_1⟩ := blk2 bc0
  clear bc0
  have bcLw5 : Blk w_7 (w_5.heap.size) 83 [I (runBeac x0 x1 a2).ts, .slice A_5_1 n_5_1 c_5_1] := (by repeat (first | (with_reducible exact BXLw5.out) | (with_reducible refine Blk.drew ?_) | (with_reducible refine Blk.ext ?_ (by with_reducible assumption)) | (with_reducible refine Blk.out ?_ (by with_reducible assumption) ?ge; case ge => omega)))
  obtain ⟨qLw5_0, qLw5_1⟩ := blk2 bcLw5
  clear bcLw5
  have bcLw6 : Blk w_7 (w_6.heap.size) 42 [.slice A_6_0 n_6_0 c_6_0, .slice A_6_1 n_6_1 c_6_1] := (by repeat (first | (with_reducible exact BXLw6.out) | (with_reducible refine Blk.drew ?_) | (with_reducible refine Blk.ext ?_ (by with_reducible assumption)) | (with_reducible refine Blk.out ?_ (by with_reducible assumption) ?ge; case ge => omega)))
  obtain ⟨qLw6_0, qLw6_1⟩ := blk2 bcLw6
  clear bcLw6
  go_wp2_with fail
  clear q0_0 q0_1 qLw5_0 qLw5_1 qLw6_0 qLw6_1
  refine (impl_RunBeaconing _ _ a2 x0 x1 _ (by exact TopologyO_rd (lo := w_5b.heap.size) (hi := w_6.heap.size) (by repeat (first | (with_reducible exact O_6.out) | (with_reducible refine TopologyO.drew ?_) | (with_reducible refine TopologyO.ext ?_ (by with_reducible assumption) ?ge; case ge => first | omega | (simp only [World.size_drew]; omega)) | (with_reducible refine TopologyO.out ?_ (by with_reducible assumption) ?ge; case ge => omega))) (by omega)) (by exact PolicySO_rd (lo := w_6b.heap.size) (hi := w_7.heap.size) (by repeat (first | (with_reducible exact O_7.out) | (with_reducible refine Own.drew ?_) | (with_reducible refine Own.ext ?_ (by with_reducible assumption) ?ge; case ge => first | omega | (simp only [World.size_drew]; omega)) | (with_reducible refine Own.out ?_ (by with_reducible assumption) ?ge; case ge => omega))))).mono ?_
  rintro e w_8 ⟨u_8, rfl, o_8, e_8⟩
  have z_8 := e_8.size
  have O_8 := Lib.hid o_8; clear o_8
  obtain ⟨A_8_1, n_8_1, c_8_1, hv_8⟩ := O_8.out.shape
  subst hv_8
  have bc0 : Blk w_8 (w.heap.size) 25 [.slice A0_0 n0_0 c0_0, .slice A0_1 n0_1 c0_1] := (by repeat (first | (with_reducible exact BX0.out) | (with_reducible refine Blk.drew ?_) | (with_reducible refine Blk.ext ?_ (by with_reducible assumption)) | (with_reducible refine Blk.out ?_ (by with_reducible assumption) ?ge; case ge => omega)))
  have lt0 := bc0.lt
  obtain ⟨q0_0, q0_1⟩ := blk2 bc0
  clear bc0
  have bcLw5 : Blk w_8 (w_5.heap.size) 83 [I (runBeac x0 x1 a2).ts, .slice A_5_1 n_5_1 c_5_1] := (by repeat (first | (with_reducible exact BXLw5.out) | (with_reducible refine Blk.drew ?_) | (with_reducible refine Blk.ext ?_ (by with_reducible assumption)) | (with_reducible refine Blk.out ?_ (by with_reducible assumption) ?ge; case ge => omega)))
  have ltLw5 := bcLw5.lt
  obtain ⟨qLw5_0, qLw5_1⟩ := blk2 bcLw5
  clear bcLw5
  have bcLw6 : Blk w_8 (w_6.heap.size) 42 [.slice A_6_0 n_6_0 c_6_0, .slice A_6_1 n_6_1 c_6_1] := (by repeat (first | (with_reducible exact BXLw6.out) | (with_reducible refine Blk.drew ?_) | (with_reducible refine Blk.ext ?_ (by with_reducible assumption)) | (with_reducible refine Blk.out ?_ (by with_reducible assumption) ?ge; case ge => omega)))
  have ltLw6 := bcLw6.lt
  obtain ⟨qLw6_0, qLw6_1⟩ := blk2 bcLw6
  clear bcLw6
  go_wp2_with fail
  clear q0_0 q0_1 qLw5_0 qLw5_1 qLw6_0 qLw6_1 lt0 ltLw5 ltLw6
  have bxLw8 : Blk (w_8.alloc (.cells #[I (runBeac x0 x1 a2).ts, .slice A_8_1 n_8_1 c_8_1] 83)) w_8.heap.size 83 [I (runBeac x0 x1 a2).ts, .slice A_8_1 n_8_1 c_8_1] := Blk.new _ _ _
  have BXLw8 := Lib.hid bxLw8; clear bxLw8
  have ewLw8 : Ext w_8 (w_8.alloc (.cells #[I (runBeac x0 x1 a2).ts, .slice A_8_1 n_8_1 c_8_1] 83)) := (Ext.refl _).alloc _
  have zwLw8 : w_8.heap.size + 1 ≤ (w_8.alloc (.cells #[I (runBeac x0 x1 a2).ts, .slice A_8_1 n_8_1 c_8_1] 83)).heap.size := by simp only [World.size_alloc]; omega
  generalize (w_8.alloc (.cells #[I (runBeac x0 x1 a2).ts, .slice A_8_1 n_8_1 c_8_1] 83)) = w_8b at *
  have S_5 := Lib.hid (BeaconingO_rd O_5.out (Nat.le_refl _))
  refine (eqBeaconing _ _ (runBeac x0 x1 a2) (runBeac x0 x1 a2) _ (by exact BeaconingO_rd (lo := w_7.heap.size) (hi := w_8.heap.size) (by repeat (first | (with_reducible exact O_8.out) | (with_reducible refine BeaconingO.drew ?_) | (with_reducible refine BeaconingO.ext ?_ (by with_reducible assumption) ?ge; case ge => first | omega | (simp only [World.size_drew]; omega)) | (with_reducible refine BeaconingO.out ?_ (by with_reducible assumption) ?ge; case ge => omega))) (by omega)) (by exact S_5.out.ext xo)).mono ?_
  rintro e w_9 ⟨rfl, e_9⟩
  have z_9 := e_9.size
  try rw [decide_eq_true rfl]
  have bc0 : Blk w_9 (w.heap.size) 25 [.slice A0_0 n0_0 c0_0, .slice A0_1 n0_1 c0_1] := (by repeat (first | (with_reducible exact BX0.out) | (with_reducible refine Blk.drew ?_) | (with_reducible refine Blk.ext ?_ (by with_reducible assumption)) | (with_reducible refine Blk.out ?_ (by with_reducible assumption) ?ge; case ge => omega)))
  obtain ⟨q0_0, q0_1⟩ := blk2 bc0
  clear bc0
  have bcLw5 : Blk w_9 (w_5.heap.size) 83 [I (runBeac x0 x1 a2).ts, .slice A_5_1 n_5_1 c_5_1] := (by repeat (first | (with_reducible exact BXLw5.out) | (with_reducible refine Blk.drew ?_) | (with_reducible refine Blk.ext ?_ (by with_reducible assumption)) | (with_reducible refine Blk.out ?_ (by with_reducible assumption) ?ge; case ge => omega)))
  obtain ⟨qLw5_0, qLw5_1⟩ := blk2 bcLw5
  clear bcLw5
  have bcLw6 : Blk w_9 (w_6.heap.size) 42 [.slice A_6_0 n_6_0 c_6_0, .slice A_6_1 n_6_1 c_6_1] := (by repeat (first | (with_reducible exact BXLw6.out) | (with_reducible refine Blk.drew ?_) | (with_reducible refine Blk.ext ?_ (by with_reducible assumption)) | (with_reducible refine Blk.out ?_ (by with_reducible assumption) ?ge; case ge => omega)))
  obtain ⟨qLw6_0, qLw6_1⟩ := blk2 bcLw6
  clear bcLw6
  have bcLw8 : Blk w_9 (w_8.heap.size) 83 [I (runBeac x0 x1 a2).ts, .slice A_8_1 n_8_1 c_8_1] := (by repeat (first | (with_reducible exact BXLw8.out) | (with_reducible refine Blk.drew ?_) | (with_reducible refine Blk.ext ?_ (by with_reducible assumption)) | (with_reducible refine Blk.out ?_ (by with_reducible assumption) ?ge; case ge => omega)))
  obtain ⟨qLw8_0, qLw8_1⟩ := blk2 bcLw8
  clear bcLw8
  go_wp2_with fail
  clear q0_0 q0_1 qLw5_0 qLw5_1 qLw6_0 qLw6_1 qLw8_0 qLw8_1
  have bc0 : Blk w_9 (w.heap.size) 25 [.slice A0_0 n0_0 c0_0, .slice A0_1 n0_1 c0_1] := (by repeat (first | (with_reducible exact BX0.out) | (with_reducible refine Blk.drew ?_) | (with_reducible refine Blk.ext ?_ (by with_reducible assumption)) | (with_reducible refine Blk.out ?_ (by with_reducible assumption) ?ge; case ge => omega)))
  have lt0 := bc0.lt
  obtain ⟨q0_0, q0_1⟩ := blk2 bc0
  clear bc0
  have bcLw5 : Blk w_9 (w_5.heap.size) 83 [I (runBeac x0 x1 a2).ts, .slice A_5_1 n_5_1 c_5_1] := (by repeat (first | (with_reducible exact BXLw5.out) | (with_reducible refine Blk.drew ?_) | (with_reducible refine Blk.ext ?_ (by with_reducible assumption)) | (with_reducible refine Blk.out ?_ (by with_reducible assumption) ?ge; case ge => omega)))
  have ltLw5 := bcLw5.lt
  obtain ⟨qLw5_0, qLw5_1⟩ := blk2 bcLw5
  clear bcLw5
  have bcLw6 : Blk w_9 (w_6.heap.size) 42 [.slice A_6_0 n_6_0 c_6_0, .slice A_6_1 n_6_1 c_6_1] := (by repeat (first | (with_reducible exact BXLw6.out) | (with_reducible refine Blk.drew ?_) | (with_reducible refine Blk.ext ?_ (by with_reducible assumption)) | (with_reducible refine Blk.out ?_ (by with_reducible assumption) ?ge; case ge => omega)))
  have ltLw6 := bcLw6.lt
  obtain ⟨qLw6_0, qLw6_1⟩ := blk2 bcLw6
  clear bcLw6
  have bcLw8 : Blk w_9 (w_8.heap.size) 83 [I (runBeac x0 x1 a2).ts, .slice A_8_1 n_8_1 c_8_1] := (by repeat (first | (with_reducible exact BXLw8.out) | (with_reducible refine Blk.drew ?_) | (with_reducible refine Blk.ext ?_ (by with_reducible assumption)) | (with_reducible refine Blk.out ?_ (by with_reducible assumption) ?ge; case ge => omega)))
  have ltLw8 := bcLw8.lt
  obtain ⟨qLw8_0, qLw8_1⟩ := blk2 bcLw8
  clear bcLw8
  go_region_held3 (fun W => w_9.heap.size ≤ W.heap.size ∧ ∀ b o, b < w_9.heap.size → W.cell? ⟨b, o, none⟩ = w_9.cell? ⟨b, o, none⟩)
    (first | exact ⟨Nat.le_refl _, fun _ _ _ => rfl⟩ | exact keepC (by assumption) e_11 | exact keepC (by assumption) e_10)
    (first | (go_at_call 14; (with_reducible refine Calls.mono (toTopology (.agg #[.slice A0_0 n0_0 c0_0, .slice A0_1 n0_1 c0_1]) x0 _ ?s0 ?s1) ?_); (case s0 => exact H0.out.ext xo); (case s1 => omega); rintro e w_10 ⟨u_10, rfl, o_10, e_10⟩; have z_10 : w_9.heap.size ≤ w_10.heap.size := e_10.size; have o_10 : TopologyO w_9.heap.size w_10.heap.size w_10 _ _ := o_10) | (go_at_call 19; (with_reducible refine Calls.mono (eqTopology _ _ x0 x0 _ ?s0 ?s1) ?_); (case s0 => exact TopologyO_rd (lo := w_5b.heap.size) (hi := w_6.heap.size) (by repeat (first | (with_reducible exact O_6.out) | (with_reducible refine TopologyO.drew ?_) | (with_reducible refine TopologyO.ext ?_ (by with_reducible assumption) ?ge; case ge => first | omega | (simp only [World.size_drew]; omega)) | (with_reducible refine TopologyO.out ?_ (by with_reducible assumption) ?ge; case ge => omega))) (by omega)); (case s1 => exact TopologyO_rd (lo := w_9.heap.size) (hi := w_10.heap.size) (by repeat (first | (with_reducible exact o_10) | (with_reducible refine TopologyO.drew ?_) | (with_reducible refine TopologyO.ext ?_ (by with_reducible assumption) ?ge; case ge => first | omega | (simp only [World.size_drew]; omega)) | (with_reducible refine TopologyO.out ?_ (by with_reducible assumption) ?ge; case ge => omega))) (by omega)); rintro e w_11 ⟨rfl, e_11⟩; have z_11 := e_11.size))
  clear q0_0 q0_1 qLw5_0 qLw5_1 qLw6_0 qLw6_1 qLw8_0 qLw8_1 lt0 ltLw5 ltLw6 ltLw8
  have O_10 := Lib.hid o_10; clear o_10
  obtain ⟨A_10_0, n_10_0, c_10_0, A_10_1, n_10_1, c_10_1, hv_10⟩ := O_10.out.shape
  subst hv_10
  try rw [decide_eq_true rfl]
  have bc0 : Blk w_11 (w.heap.size) 25 [.slice A0_0 n0_0 c0_0, .slice A0_1 n0_1 c0_1] := (by repeat (first | (with_reducible exact BX0.out) | (with_reducible refine Blk.drew ?_) | (with_reducible refine Blk.ext ?_ (by with_reducible assumption)) | (with_reducible refine Blk.out ?_ (by with_reducible assumption) ?ge; case ge => omega)))
  obtain ⟨q0_0, q0_1⟩ := blk2 bc0
  clear bc0
  have bcLw5 : Blk w_11 (w_5.heap.size) 83 [I (runBeac x0 x1 a2).ts, .slice A_5_1 n_5_1 c_5_1] := (by repeat (first | (with_reducible exact BXLw5.out) | (with_reducible refine Blk.drew ?_) | (with_reducible refine Blk.ext ?_ (by with_reducible assumption)) | (with_reducible refine Blk.out ?_ (by with_reducible assumption) ?ge; case ge => omega)))
  obtain ⟨qLw5_0, qLw5_1⟩ := blk2 bcLw5
  clear bcLw5
  have bcLw6 : Blk w_11 (w_6.heap.size) 42 [.slice A_6_0 n_6_0 c_6_0, .slice A_6_1 n_6_1 c_6_1] := (by repeat (first | (with_reducible exact BXLw6.out) | (with_reducible refine Blk.drew ?_) | (with_reducible refine Blk.ext ?_ (by with_reducible assumption)) | (with_reducible refine Blk.out ?_ (by with_reducible assumption) ?ge; case ge => omega)))
  obtain ⟨qLw6_0, qLw6_1⟩ := blk2 bcLw6
  clear bcLw6
  have bcLw8 : Blk w_11 (w_8.heap.size) 83 [I (runBeac x0 x1 a2).ts, .slice A_8_1 n_8_1 c_8_1] := (by repeat (first | (with_reducible exact BXLw8.out) | (with_reducible refine Blk.drew ?_) | (with_reducible refine Blk.ext ?_ (by with_reducible assumption)) | (with_reducible refine Blk.out ?_ (by with_reducible assumption) ?ge; case ge => omega)))
  obtain ⟨qLw8_0, qLw8_1⟩ := blk2 bcLw8
  clear bcLw8
  go_wp2_with fail
  clear q0_0 q0_1 qLw5_0 qLw5_1 qLw6_0 qLw6_1 qLw8_0 qLw8_1
  refine (toPolicyS (.slice A1 x1.length c1) x1 _ (by exact H1.out.ext xo) (by omega)).mono ?_
  rintro e w_12 ⟨u_12, rfl, o_12, e_12⟩
  have z_12 := e_12.size
  have O_12 := Lib.hid o_12; clear o_12
  have bc0 : Blk w_12 (w.heap.size) 25 [.slice A0_0 n0_0 c0_0, .slice A0_1 n0_1 c0_1] := (by repeat (first | (with_reducible exact BX0.out) | (with_reducible refine Blk.drew ?_) | (with_reducible refine Blk.ext ?_ (by with_reducible assumption)) | (with_reducible refine Blk.out ?_ (by with_reducible assumption) ?ge; case ge => omega)))
  obtain ⟨q0_0, q0_1⟩ := blk2 bc0
  clear bc0
  have bcLw5 : Blk w_12 (w_5.heap.size) 83 [I (runBeac x0 x1 a2).ts, .slice A_5_1 n_5_1 c_5_1] := (by repeat (first | (with_reducible exact BXLw5.out) | (with_reducible refine Blk.drew ?_) | (with_reducible refine Blk.ext ?_ (by with_reducible assumption)) | (with_reducible refine Blk.out ?_ (by with_reducible assumption) ?ge; case ge => omega)))
  obtain ⟨qLw5_0, qLw5_1⟩ := blk2 bcLw5
  clear bcLw5
  have bcLw6 : Blk w_12 (w_6.heap.size) 42 [.slice A_6_0 n_6_0 c_6_0, .slice A_6_1 n_6_1 c_6_1] := (by repeat (first | (with_reducible exact BXLw6.out) | (with_reducible refine Blk.drew ?_) | (with_reducible refine Blk.ext ?_ (by with_reducible assumption)) | (with_reducible refine Blk.out ?_ (by with_reducible assumption) ?ge; case ge => omega)))
  obtain ⟨qLw6_0, qLw6_1⟩ := blk2 bcLw6
  clear bcLw6
  have bcLw8 : Blk w_12 (w_8.heap.size) 83 [I (runBeac x0 x1 a2).ts, .slice A_8_1 n_8_1 c_8_1] := (by repeat (first | (with_reducible exact BXLw8.out) | (with_reducible refine Blk.drew ?_) | (with_reducible refine Blk.ext ?_ (by with_reducible assumption)) | (with_reducible refine Blk.out ?_ (by with_reducible assumption) ?ge; case ge => omega)))
  obtain ⟨qLw8_0, qLw8_1⟩ := blk2 bcLw8
  clear bcLw8
  go_wp2_with fail
  clear q0_0 q0_1 qLw5_0 qLw5_1 qLw6_0 qLw6_1 qLw8_0 qLw8_1
  refine (eqPolicyS _ _ x1 x1 _ (by exact PolicySO_rd (lo := w_6b.heap.size) (hi := w_7.heap.size) (by repeat (first | (with_reducible exact O_7.out) | (with_reducible refine Own.drew ?_) | (with_reducible refine Own.ext ?_ (by with_reducible assumption) ?ge; case ge => first | omega | (simp only [World.size_drew]; omega)) | (with_reducible refine Own.out ?_ (by with_reducible assumption) ?ge; case ge => omega)))) (by exact PolicySO_rd (lo := w_11.heap.size) (hi := w_12.heap.size) (by repeat (first | (with_reducible exact O_12.out) | (with_reducible refine Own.drew ?_) | (with_reducible refine Own.ext ?_ (by with_reducible assumption) ?ge; case ge => first | omega | (simp only [World.size_drew]; omega)) | (with_reducible refine Own.out ?_ (by with_reducible assumption) ?ge; case ge => omega))))).mono ?_
  rintro e w_13 ⟨rfl, e_13⟩
  have z_13 := e_13.size
  try rw [decide_eq_true rfl]
  have bc0 : Blk w_13 (w.heap.size) 25 [.slice A0_0 n0_0 c0_0, .slice A0_1 n0_1 c0_1] := (by repeat (first | (with_reducible exact BX0.out) | (with_reducible refine Blk.drew ?_) | (with_reducible refine Blk.ext ?_ (by with_reducible assumption)) | (with_reducible refine Blk.out ?_ (by with_reducible assumption) ?ge; case ge => omega)))
  obtain ⟨q0_0, q0_1⟩ := blk2 bc0
  clear bc0
  have bcLw5 : Blk w_13 (w_5.heap.size) 83 [I (runBeac x0 x1 a2).ts, .slice A_5_1 n_5_1 c_5_1] := (by repeat (first | (with_reducible exact BXLw5.out) | (with_reducible refine Blk.drew ?_) | (with_reducible refine Blk.ext ?_ (by with_reducible assumption)) | (with_reducible refine Blk.out ?_ (by with_reducible assumption) ?ge; case ge => omega)))
  obtain ⟨qLw5_0, qLw5_1⟩ := blk2 bcLw5
  clear bcLw5
  have bcLw6 : Blk w_13 (w_6.heap.size) 42 [.slice A_6_0 n_6_0 c_6_0, .slice A_6_1 n_6_1 c_6_1] := (by repeat (first | (with_reducible exact BXLw6.out) | (with_reducible refine Blk.drew ?_) | (with_reducible refine Blk.ext ?_ (by with_reducible assumption)) | (with_reducible refine Blk.out ?_ (by with_reducible assumption) ?ge; case ge => omega)))
  obtain ⟨qLw6_0, qLw6_1⟩ := blk2 bcLw6
  clear bcLw6
  have bcLw8 : Blk w_13 (w_8.heap.size) 83 [I (runBeac x0 x1 a2).ts, .slice A_8_1 n_8_1 c_8_1] := (by repeat (first | (with_reducible exact BXLw8.out) | (with_reducible refine Blk.drew ?_) | (with_reducible refine Blk.ext ?_ (by with_reducible assumption)) | (with_reducible refine Blk.out ?_ (by with_reducible assumption) ?ge; case ge => omega)))
  obtain ⟨qLw8_0, qLw8_1⟩ := blk2 bcLw8
  clear bcLw8
  go_wp2_with fail
  clear q0_0 q0_1 qLw5_0 qLw5_1 qLw6_0 qLw6_1 qLw8_0 qLw8_1
  have hcntr_242 := BeaconStoreCnt_sum (runBeac x0 x1 a2).stores
  have hres : (0 + ((runBeac x0 x1 a2).stores.map BeaconStoreCnt).sum) ≤ 100000000000 := by have h : totS (fun y => totS (fun y => y.seg.hops.length) y.beacons) (runBeac x0 x1 a2).stores ≤ 1000 := small_tot (runTo_small x0 x1 a2 8); omega
  refine (markTopology _ (x0) 1 w_5b.heap.size w_6.heap.size _ (by exact (by repeat (first | (with_reducible exact O_6.out) | (with_reducible refine TopologyO.drew ?_) | (with_reducible refine TopologyO.ext ?_ (by with_reducible assumption) ?ge; case ge => first | omega | (simp only [World.size_drew]; omega)) | (with_reducible refine TopologyO.out ?_ (by with_reducible assumption) ?ge; case ge => omega)))) (by omega) (by omega)).mono ?_
  rintro e w_14 ⟨rfl, o_14, e_14⟩
  have z_14 := e_14.size
  have O_14 := Lib.hid o_14; clear o_14
  have bc0 : Blk w_14 (w.heap.size) 25 [.slice A0_0 n0_0 c0_0, .slice A0_1 n0_1 c0_1] := (by repeat (first | (with_reducible exact BX0.out) | (with_reducible refine Blk.drew ?_) | (with_reducible refine Blk.ext ?_ (by with_reducible assumption)) | (with_reducible refine Blk.out ?_ (by with_reducible assumption) ?ge; case ge => omega)))
  obtain ⟨q0_0, q0_1⟩ := blk2 bc0
  clear bc0
  have bcLw5 : Blk w_14 (w_5.heap.size) 83 [I (runBeac x0 x1 a2).ts, .slice A_5_1 n_5_1 c_5_1] := (by repeat (first | (with_reducible exact BXLw5.out) | (with_reducible refine Blk.drew ?_) | (with_reducible refine Blk.ext ?_ (by with_reducible assumption)) | (with_reducible refine Blk.out ?_ (by with_reducible assumption) ?ge; case ge => omega)))
  obtain ⟨qLw5_0, qLw5_1⟩ := blk2 bcLw5
  clear bcLw5
  have bcLw6 : Blk w_14 (w_6.heap.size) 42 [.slice A_6_0 n_6_0 c_6_0, .slice A_6_1 n_6_1 c_6_1] := (by repeat (first | (with_reducible exact BXLw6.out) | (with_reducible refine Blk.drew ?_) | (with_reducible refine Blk.ext ?_ (by with_reducible assumption)) | (with_reducible refine Blk.out ?_ (by with_reducible assumption) ?ge; case ge => omega)))
  obtain ⟨qLw6_0, qLw6_1⟩ := blk2 bcLw6
  clear bcLw6
  have bcLw8 : Blk w_14 (w_8.heap.size) 83 [I (runBeac x0 x1 a2).ts, .slice A_8_1 n_8_1 c_8_1] := (by repeat (first | (with_reducible exact BXLw8.out) | (with_reducible refine Blk.drew ?_) | (with_reducible refine Blk.ext ?_ (by with_reducible assumption)) | (with_reducible refine Blk.out ?_ (by with_reducible assumption) ?ge; case ge => omega)))
  obtain ⟨qLw8_0, qLw8_1⟩ := blk2 bcLw8
  clear bcLw8
  go_wp2_with fail
  clear q0_0 q0_1 qLw5_0 qLw5_1 qLw6_0 qLw6_1 qLw8_0 qLw8_1
  refine (markPolicyS _ (x1) ((1 + 3 * x0.ases.length) + 5 * x0.links.length) w_6b.heap.size w_7.heap.size _ (by exact (by repeat (first | (with_reducible exact O_7.out) | (with_reducible refine Own.drew ?_) | (with_reducible refine Own.ext ?_ (by with_reducible assumption) ?ge; case ge => first | omega | (simp only [World.size_drew]; omega)) | (with_reducible refine Own.out ?_ (by with_reducible assumption) ?ge; case ge => omega)))) (by omega)).mono ?_
  rintro e w_15 ⟨rfl, o_15, e_15⟩
  have z_15 := e_15.size
  have O_15 := Lib.hid o_15; clear o_15
  have bc0 : Blk w_15 (w.heap.size) 25 [.slice A0_0 n0_0 c0_0, .slice A0_1 n0_1 c0_1] := (by repeat (first | (with_reducible exact BX0.out) | (with_reducible refine Blk.drew ?_) | (with_reducible refine Blk.ext ?_ (by with_reducible assumption)) | (with_reducible refine Blk.out ?_ (by with_reducible assumption) ?ge; case ge => omega)))
  obtain ⟨q0_0, q0_1⟩ := blk2 bc0
  clear bc0
  have bcLw5 : Blk w_15 (w_5.heap.size) 83 [I (runBeac x0 x1 a2).ts, .slice A_5_1 n_5_1 c_5_1] := (by repeat (first | (with_reducible exact BXLw5.out) | (with_reducible refine Blk.drew ?_) | (with_reducible refine Blk.ext ?_ (by with_reducible assumption)) | (with_reducible refine Blk.out ?_ (by with_reducible assumption) ?ge; case ge => omega)))
  obtain ⟨qLw5_0, qLw5_1⟩ := blk2 bcLw5
  clear bcLw5
  have bcLw6 : Blk w_15 (w_6.heap.size) 42 [.slice A_6_0 n_6_0 c_6_0, .slice A_6_1 n_6_1 c_6_1] := (by repeat (first | (with_reducible exact BXLw6.out) | (with_reducible refine Blk.drew ?_) | (with_reducible refine Blk.ext ?_ (by with_reducible assumption)) | (with_reducible refine Blk.out ?_ (by with_reducible assumption) ?ge; case ge => omega)))
  obtain ⟨qLw6_0, qLw6_1⟩ := blk2 bcLw6
  clear bcLw6
  have bcLw8 : Blk w_15 (w_8.heap.size) 83 [I (runBeac x0 x1 a2).ts, .slice A_8_1 n_8_1 c_8_1] := (by repeat (first | (with_reducible exact BXLw8.out) | (with_reducible refine Blk.drew ?_) | (with_reducible refine Blk.ext ?_ (by with_reducible assumption)) | (with_reducible refine Blk.out ?_ (by with_reducible assumption) ?ge; case ge => omega)))
  obtain ⟨qLw8_0, qLw8_1⟩ := blk2 bcLw8
  clear bcLw8
  go_wp2_with fail
  clear q0_0 q0_1 qLw5_0 qLw5_1 qLw6_0 qLw6_1 qLw8_0 qLw8_1
  refine (eqBeaconing _ _ (runBeac x0 x1 a2) (runBeac x0 x1 a2) _ (by exact BeaconingO_rd (lo := w_7.heap.size) (hi := w_8.heap.size) (by repeat (first | (with_reducible exact O_8.out) | (with_reducible refine BeaconingO.drew ?_) | (with_reducible refine BeaconingO.ext ?_ (by with_reducible assumption) ?ge; case ge => first | omega | (simp only [World.size_drew]; omega)) | (with_reducible refine BeaconingO.out ?_ (by with_reducible assumption) ?ge; case ge => omega))) (by omega)) (by exact S_5.out.ext xo)).mono ?_
  rintro e w_16 ⟨rfl, e_16⟩
  have z_16 := e_16.size
  try rw [decide_eq_true rfl]
  have bc0 : Blk w_16 (w.heap.size) 25 [.slice A0_0 n0_0 c0_0, .slice A0_1 n0_1 c0_1] := (by repeat (first | (with_reducible exact BX0.out) | (with_reducible refine Blk.drew ?_) | (with_reducible refine Blk.ext ?_ (by with_reducible assumption)) | (with_reducible refine Blk.out ?_ (by with_reducible assumption) ?ge; case ge => omega)))
  obtain ⟨q0_0, q0_1⟩ := blk2 bc0
  clear bc0
  have bcLw5 : Blk w_16 (w_5.heap.size) 83 [I (runBeac x0 x1 a2).ts, .slice A_5_1 n_5_1 c_5_1] := (by repeat (first | (with_reducible exact BXLw5.out) | (with_reducible refine Blk.drew ?_) | (with_reducible refine Blk.ext ?_ (by with_reducible assumption)) | (with_reducible refine Blk.out ?_ (by with_reducible assumption) ?ge; case ge => omega)))
  obtain ⟨qLw5_0, qLw5_1⟩ := blk2 bcLw5
  clear bcLw5
  have bcLw6 : Blk w_16 (w_6.heap.size) 42 [.slice A_6_0 n_6_0 c_6_0, .slice A_6_1 n_6_1 c_6_1] := (by repeat (first | (with_reducible exact BXLw6.out) | (with_reducible refine Blk.drew ?_) | (with_reducible refine Blk.ext ?_ (by with_reducible assumption)) | (with_reducible refine Blk.out ?_ (by with_reducible assumption) ?ge; case ge => omega)))
  obtain ⟨qLw6_0, qLw6_1⟩ := blk2 bcLw6
  clear bcLw6
  have bcLw8 : Blk w_16 (w_8.heap.size) 83 [I (runBeac x0 x1 a2).ts, .slice A_8_1 n_8_1 c_8_1] := (by repeat (first | (with_reducible exact BXLw8.out) | (with_reducible refine Blk.drew ?_) | (with_reducible refine Blk.ext ?_ (by with_reducible assumption)) | (with_reducible refine Blk.out ?_ (by with_reducible assumption) ?ge; case ge => omega)))
  obtain ⟨qLw8_0, qLw8_1⟩ := blk2 bcLw8
  clear bcLw8
  go_wp2_with fail
  clear q0_0 q0_1 qLw5_0 qLw5_1 qLw6_0 qLw6_1 qLw8_0 qLw8_1
  refine (markBeaconing _ (runBeac x0 x1 a2) 1 w_7.heap.size w_8.heap.size _ (by exact (by repeat (first | (with_reducible exact O_8.out) | (with_reducible refine BeaconingO.drew ?_) | (with_reducible refine BeaconingO.ext ?_ (by with_reducible assumption) ?ge; case ge => first | omega | (simp only [World.size_drew]; omega)) | (with_reducible refine BeaconingO.out ?_ (by with_reducible assumption) ?ge; case ge => omega)))) (by omega) (by omega)).mono ?_
  rintro e w_17 ⟨rfl, o_17, e_17⟩
  have z_17 := e_17.size
  have O_17 := Lib.hid o_17; clear o_17
  have bc0 : Blk w_17 (w.heap.size) 25 [.slice A0_0 n0_0 c0_0, .slice A0_1 n0_1 c0_1] := (by repeat (first | (with_reducible exact BX0.out) | (with_reducible refine Blk.drew ?_) | (with_reducible refine Blk.ext ?_ (by with_reducible assumption)) | (with_reducible refine Blk.out ?_ (by with_reducible assumption) ?ge; case ge => omega)))
  obtain ⟨q0_0, q0_1⟩ := blk2 bc0
  clear bc0
  have bcLw5 : Blk w_17 (w_5.heap.size) 83 [I (runBeac x0 x1 a2).ts, .slice A_5_1 n_5_1 c_5_1] := (by repeat (first | (with_reducible exact BXLw5.out) | (with_reducible refine Blk.drew ?_) | (with_reducible refine Blk.ext ?_ (by with_reducible assumption)) | (with_reducible refine Blk.out ?_ (by with_reducible assumption) ?ge; case ge => omega)))
  obtain ⟨qLw5_0, qLw5_1⟩ := blk2 bcLw5
  clear bcLw5
  have bcLw6 : Blk w_17 (w_6.heap.size) 42 [.slice A_6_0 n_6_0 c_6_0, .slice A_6_1 n_6_1 c_6_1] := (by repeat (first | (with_reducible exact BXLw6.out) | (with_reducible refine Blk.drew ?_) | (with_reducible refine Blk.ext ?_ (by with_reducible assumption)) | (with_reducible refine Blk.out ?_ (by with_reducible assumption) ?ge; case ge => omega)))
  obtain ⟨qLw6_0, qLw6_1⟩ := blk2 bcLw6
  clear bcLw6
  have bcLw8 : Blk w_17 (w_8.heap.size) 83 [I (runBeac x0 x1 a2).ts, .slice A_8_1 n_8_1 c_8_1] := (by repeat (first | (with_reducible exact BXLw8.out) | (with_reducible refine Blk.drew ?_) | (with_reducible refine Blk.ext ?_ (by with_reducible assumption)) | (with_reducible refine Blk.out ?_ (by with_reducible assumption) ?ge; case ge => omega)))
  obtain ⟨qLw8_0, qLw8_1⟩ := blk2 bcLw8
  clear bcLw8
  go_wp2_with fail
  clear q0_0 q0_1 qLw5_0 qLw5_1 qLw6_0 qLw6_1 qLw8_0 qLw8_1
  refine (heldBeaconing _ (runBeac x0 x1 a2) 1 _ (by exact BeaconingO_rd (lo := w_7.heap.size) (hi := w_8.heap.size) (by repeat (first | (with_reducible exact O_17.out) | (with_reducible refine BeaconingO.drew ?_) | (with_reducible refine BeaconingO.ext ?_ (by with_reducible assumption) ?ge; case ge => first | omega | (simp only [World.size_drew]; omega)) | (with_reducible refine BeaconingO.out ?_ (by with_reducible assumption) ?ge; case ge => omega))) (by omega)) (by omega)).mono ?_
  rintro e w_18 ⟨rfl, e_18⟩
  have z_18 := e_18.size
  have bc0 : Blk w_18 (w.heap.size) 25 [.slice A0_0 n0_0 c0_0, .slice A0_1 n0_1 c0_1] := (by repeat (first | (with_reducible exact BX0.out) | (with_reducible refine Blk.drew ?_) | (with_reducible refine Blk.ext ?_ (by with_reducible assumption)) | (with_reducible refine Blk.out ?_ (by with_reducible assumption) ?ge; case ge => omega)))
  obtain ⟨q0_0, q0_1⟩ := blk2 bc0
  clear bc0
  have bcLw5 : Blk w_18 (w_5.heap.size) 83 [I (runBeac x0 x1 a2).ts, .slice A_5_1 n_5_1 c_5_1] := (by repeat (first | (with_reducible exact BXLw5.out) | (with_reducible refine Blk.drew ?_) | (with_reducible refine Blk.ext ?_ (by with_reducible assumption)) | (with_reducible refine Blk.out ?_ (by with_reducible assumption) ?ge; case ge => omega)))
  obtain ⟨qLw5_0, qLw5_1⟩ := blk2 bcLw5
  clear bcLw5
  have bcLw6 : Blk w_18 (w_6.heap.size) 42 [.slice A_6_0 n_6_0 c_6_0, .slice A_6_1 n_6_1 c_6_1] := (by repeat (first | (with_reducible exact BXLw6.out) | (with_reducible refine Blk.drew ?_) | (with_reducible refine Blk.ext ?_ (by with_reducible assumption)) | (with_reducible refine Blk.out ?_ (by with_reducible assumption) ?ge; case ge => omega)))
  obtain ⟨qLw6_0, qLw6_1⟩ := blk2 bcLw6
  clear bcLw6
  have bcLw8 : Blk w_18 (w_8.heap.size) 83 [I (runBeac x0 x1 a2).ts, .slice A_8_1 n_8_1 c_8_1] := (by repeat (first | (with_reducible exact BXLw8.out) | (with_reducible refine Blk.drew ?_) | (with_reducible refine Blk.ext ?_ (by with_reducible assumption)) | (with_reducible refine Blk.out ?_ (by with_reducible assumption) ?ge; case ge => omega)))
  obtain ⟨qLw8_0, qLw8_1⟩ := blk2 bcLw8
  clear bcLw8
  go_wp2_with fail
  clear q0_0 q0_1 qLw5_0 qLw5_1 qLw6_0 qLw6_1 qLw8_0 qLw8_1
  refine (toTopology (.agg #[.slice A0_0 n0_0 c0_0, .slice A0_1 n0_1 c0_1]) x0 _ (by exact H0.out.ext xo) (by omega)).mono ?_
  rintro e w_19 ⟨u_19, rfl, o_19, e_19⟩
  have z_19 := e_19.size
  have O_19 := Lib.hid o_19; clear o_19
  obtain ⟨A_19_0, n_19_0, c_19_0, A_19_1, n_19_1, c_19_1, hv_19⟩ := O_19.out.shape
  subst hv_19
  have bc0 : Blk w_19 (w.heap.size) 25 [.slice A0_0 n0_0 c0_0, .slice A0_1 n0_1 c0_1] := (by repeat (first | (with_reducible exact BX0.out) | (with_reducible refine Blk.drew ?_) | (with_reducible refine Blk.ext ?_ (by with_reducible assumption)) | (with_reducible refine Blk.out ?_ (by with_reducible assumption) ?ge; case ge => omega)))
  obtain ⟨q0_0, q0_1⟩ := blk2 bc0
  clear bc0
  have bcLw5 : Blk w_19 (w_5.heap.size) 83 [I (runBeac x0 x1 a2).ts, .slice A_5_1 n_5_1 c_5_1] := (by repeat (first | (with_reducible exact BXLw5.out) | (with_reducible refine Blk.drew ?_) | (with_reducible refine Blk.ext ?_ (by with_reducible assumption)) | (with_reducible refine Blk.out ?_ (by with_reducible assumption) ?ge; case ge => omega)))
  obtain ⟨qLw5_0, qLw5_1⟩ := blk2 bcLw5
  clear bcLw5
  have bcLw6 : Blk w_19 (w_6.heap.size) 42 [.slice A_6_0 n_6_0 c_6_0, .slice A_6_1 n_6_1 c_6_1] := (by repeat (first | (with_reducible exact BXLw6.out) | (with_reducible refine Blk.drew ?_) | (with_reducible refine Blk.ext ?_ (by with_reducible assumption)) | (with_reducible refine Blk.out ?_ (by with_reducible assumption) ?ge; case ge => omega)))
  obtain ⟨qLw6_0, qLw6_1⟩ := blk2 bcLw6
  clear bcLw6
  have bcLw8 : Blk w_19 (w_8.heap.size) 83 [I (runBeac x0 x1 a2).ts, .slice A_8_1 n_8_1 c_8_1] := (by repeat (first | (with_reducible exact BXLw8.out) | (with_reducible refine Blk.drew ?_) | (with_reducible refine Blk.ext ?_ (by with_reducible assumption)) | (with_reducible refine Blk.out ?_ (by with_reducible assumption) ?ge; case ge => omega)))
  obtain ⟨qLw8_0, qLw8_1⟩ := blk2 bcLw8
  clear bcLw8
  go_wp2_with fail
  clear q0_0 q0_1 qLw5_0 qLw5_1 qLw6_0 qLw6_1 qLw8_0 qLw8_1
  refine (toPolicyS (.slice A1 x1.length c1) x1 _ (by exact H1.out.ext xo) (by omega)).mono ?_
  rintro e w_20 ⟨u_20, rfl, o_20, e_20⟩
  have z_20 := e_20.size
  have O_20 := Lib.hid o_20; clear o_20
  have bc0 : Blk w_20 (w.heap.size) 25 [.slice A0_0 n0_0 c0_0, .slice A0_1 n0_1 c0_1] := (by repeat (first | (with_reducible exact BX0.out) | (with_reducible refine Blk.drew ?_) | (with_reducible refine Blk.ext ?_ (by with_reducible assumption)) | (with_reducible refine Blk.out ?_ (by with_reducible assumption) ?ge; case ge => omega)))
  obtain ⟨q0_0, q0_1⟩ := blk2 bc0
  clear bc0
  have bcLw5 : Blk w_20 (w_5.heap.size) 83 [I (runBeac x0 x1 a2).ts, .slice A_5_1 n_5_1 c_5_1] := (by repeat (first | (with_reducible exact BXLw5.out) | (with_reducible refine Blk.drew ?_) | (with_reducible refine Blk.ext ?_ (by with_reducible assumption)) | (with_reducible refine Blk.out ?_ (by with_reducible assumption) ?ge; case ge => omega)))
  obtain ⟨qLw5_0, qLw5_1⟩ := blk2 bcLw5
  clear bcLw5
  have bcLw6 : Blk w_20 (w_6.heap.size) 42 [.slice A_6_0 n_6_0 c_6_0, .slice A_6_1 n_6_1 c_6_1] := (by repeat (first | (with_reducible exact BXLw6.out) | (with_reducible refine Blk.drew ?_) | (with_reducible refine Blk.ext ?_ (by with_reducible assumption)) | (with_reducible refine Blk.out ?_ (by with_reducible assumption) ?ge; case ge => omega)))
  obtain ⟨qLw6_0, qLw6_1⟩ := blk2 bcLw6
  clear bcLw6
  have bcLw8 : Blk w_20 (w_8.heap.size) 83 [I (runBeac x0 x1 a2).ts, .slice A_8_1 n_8_1 c_8_1] := (by repeat (first | (with_reducible exact BXLw8.out) | (with_reducible refine Blk.drew ?_) | (with_reducible refine Blk.ext ?_ (by with_reducible assumption)) | (with_reducible refine Blk.out ?_ (by with_reducible assumption) ?ge; case ge => omega)))
  obtain ⟨qLw8_0, qLw8_1⟩ := blk2 bcLw8
  clear bcLw8
  go_wp2_with fail
  clear q0_0 q0_1 qLw5_0 qLw5_1 qLw6_0 qLw6_1 qLw8_0 qLw8_1
  refine (impl_RunBeaconing _ _ a2 x0 x1 _ (by exact TopologyO_rd (lo := w_18.heap.size) (hi := w_19.heap.size) (by repeat (first | (with_reducible exact O_19.out) | (with_reducible refine TopologyO.drew ?_) | (with_reducible refine TopologyO.ext ?_ (by with_reducible assumption) ?ge; case ge => first | omega | (simp only [World.size_drew]; omega)) | (with_reducible refine TopologyO.out ?_ (by with_reducible assumption) ?ge; case ge => omega))) (by omega)) (by exact PolicySO_rd (lo := w_19.heap.size) (hi := w_20.heap.size) (by repeat (first | (with_reducible exact O_20.out) | (with_reducible refine Own.drew ?_) | (with_reducible refine Own.ext ?_ (by with_reducible assumption) ?ge; case ge => first | omega | (simp only [World.size_drew]; omega)) | (with_reducible refine Own.out ?_ (by with_reducible assumption) ?ge; case ge => omega))))).mono ?_
  rintro e w_21 ⟨u_21, rfl, o_21, e_21⟩
  have z_21 := e_21.size
  have O_21 := Lib.hid o_21; clear o_21
  obtain ⟨A_21_1, n_21_1, c_21_1, hv_21⟩ := O_21.out.shape
  subst hv_21
  have bc0 : Blk w_21 (w.heap.size) 25 [.slice A0_0 n0_0 c0_0, .slice A0_1 n0_1 c0_1] := (by repeat (first | (with_reducible exact BX0.out) | (with_reducible refine Blk.drew ?_) | (with_reducible refine Blk.ext ?_ (by with_reducible assumption)) | (with_reducible refine Blk.out ?_ (by with_reducible assumption) ?ge; case ge => omega)))
  have lt0 := bc0.lt
  obtain ⟨q0_0, q0_1⟩ := blk2 bc0
  clear bc0
  have bcLw5 : Blk w_21 (w_5.heap.size) 83 [I (runBeac x0 x1 a2).ts, .slice A_5_1 n_5_1 c_5_1] := (by repeat (first | (with_reducible exact BXLw5.out) | (with_reducible refine Blk.drew ?_) | (with_reducible refine Blk.ext ?_ (by with_reducible assumption)) | (with_reducible refine Blk.out ?_ (by with_reducible assumption) ?ge; case ge => omega)))
  have ltLw5 := bcLw5.lt
  obtain ⟨qLw5_0, qLw5_1⟩ := blk2 bcLw5
  clear bcLw5
  have bcLw6 : Blk w_21 (w_6.heap.size) 42 [.slice A_6_0 n_6_0 c_6_0, .slice A_6_1 n_6_1 c_6_1] := (by repeat (first | (with_reducible exact BXLw6.out) | (with_reducible refine Blk.drew ?_) | (with_reducible refine Blk.ext ?_ (by with_reducible assumption)) | (with_reducible refine Blk.out ?_ (by with_reducible assumption) ?ge; case ge => omega)))
  have ltLw6 := bcLw6.lt
  obtain ⟨qLw6_0, qLw6_1⟩ := blk2 bcLw6
  clear bcLw6
  have bcLw8 : Blk w_21 (w_8.heap.size) 83 [I (runBeac x0 x1 a2).ts, .slice A_8_1 n_8_1 c_8_1] := (by repeat (first | (with_reducible exact BXLw8.out) | (with_reducible refine Blk.drew ?_) | (with_reducible refine Blk.ext ?_ (by with_reducible assumption)) | (with_reducible refine Blk.out ?_ (by with_reducible assumption) ?ge; case ge => omega)))
  have ltLw8 := bcLw8.lt
  obtain ⟨qLw8_0, qLw8_1⟩ := blk2 bcLw8
  clear bcLw8
  go_wp2_with fail
  clear q0_0 q0_1 qLw5_0 qLw5_1 qLw6_0 qLw6_1 qLw8_0 qLw8_1 lt0 ltLw5 ltLw6 ltLw8
  have bxLw21 : Blk (w_21.alloc (.cells #[I (runBeac x0 x1 a2).ts, .slice A_21_1 n_21_1 c_21_1] 83)) w_21.heap.size 83 [I (runBeac x0 x1 a2).ts, .slice A_21_1 n_21_1 c_21_1] := Blk.new _ _ _
  have BXLw21 := Lib.hid bxLw21; clear bxLw21
  have ewLw21 : Ext w_21 (w_21.alloc (.cells #[I (runBeac x0 x1 a2).ts, .slice A_21_1 n_21_1 c_21_1] 83)) := (Ext.refl _).alloc _
  have zwLw21 : w_21.heap.size + 1 ≤ (w_21.alloc (.cells #[I (runBeac x0 x1 a2).ts, .slice A_21_1 n_21_1 c_21_1] 83)).heap.size := by simp only [World.size_alloc]; omega
  generalize (w_21.alloc (.cells #[I (runBeac x0 x1 a2).ts, .slice A_21_1 n_21_1 c_21_1] 83)) = w_21b at *
  refine (eqBeaconing _ _ (runBeac x0 x1 a2) (runBeac x0 x1 a2) _ (by exact BeaconingO_rd (lo := w_20.heap.size) (hi := w_21.heap.size) (by repeat (first | (with_reducible exact O_21.out) | (with_reducible refine BeaconingO.drew ?_) | (with_reducible refine BeaconingO.ext ?_ (by with_reducible assumption) ?ge; case ge => first | omega | (simp only [World.size_drew]; omega)) | (with_reducible refine BeaconingO.out ?_ (by with_reducible assumption) ?ge; case ge => omega))) (by omega)) (by exact S_5.out.ext xo)).mono ?_
  rintro e w_22 ⟨rfl, e_22⟩
  have z_22 := e_22.size
  try rw [decide_eq_true rfl]
  have bc0 : Blk w_22 (w.heap.size) 25 [.slice A0_0 n0_0 c0_0, .slice A0_1 n0_1 c0_1] := (by repeat (first | (with_reducible exact BX0.out) | (with_reducible refine Blk.drew ?_) | (with_reducible refine Blk.ext ?_ (by with_reducible assumption)) | (with_reducible refine Blk.out ?_ (by with_reducible assumption) ?ge; case ge => omega)))
  obtain ⟨q0_0, q0_1⟩ := blk2 bc0
  clear bc0
  have bcLw5 : Blk w_22 (w_5.heap.size) 83 [I (runBeac x0 x1 a2).ts, .slice A_5_1 n_5_1 c_5_1] := (by repeat (first | (with_reducible exact BXLw5.out) | (with_reducible refine Blk.drew ?_) | (with_reducible refine Blk.ext ?_ (by with_reducible assumption)) | (with_reducible refine Blk.out ?_ (by with_reducible assumption) ?ge; case ge => omega)))
  obtain ⟨qLw5_0, qLw5_1⟩ := blk2 bcLw5
  clear bcLw5
  have bcLw6 : Blk w_22 (w_6.heap.size) 42 [.slice A_6_0 n_6_0 c_6_0, .slice A_6_1 n_6_1 c_6_1] := (by repeat (first | (with_reducible exact BXLw6.out) | (with_reducible refine Blk.drew ?_) | (with_reducible refine Blk.ext ?_ (by with_reducible assumption)) | (with_reducible refine Blk.out ?_ (by with_reducible assumption) ?ge; case ge => omega)))
  obtain ⟨qLw6_0, qLw6_1⟩ := blk2 bcLw6
  clear bcLw6
  have bcLw8 : Blk w_22 (w_8.heap.size) 83 [I (runBeac x0 x1 a2).ts, .slice A_8_1 n_8_1 c_8_1] := (by repeat (first | (with_reducible exact BXLw8.out) | (with_reducible refine Blk.drew ?_) | (with_reducible refine Blk.ext ?_ (by with_reducible assumption)) | (with_reducible refine Blk.out ?_ (by with_reducible assumption) ?ge; case ge => omega)))
  obtain ⟨qLw8_0, qLw8_1⟩ := blk2 bcLw8
  clear bcLw8
  have bcLw21 : Blk w_22 (w_21.heap.size) 83 [I (runBeac x0 x1 a2).ts, .slice A_21_1 n_21_1 c_21_1] := (by repeat (first | (with_reducible exact BXLw21.out) | (with_reducible refine Blk.drew ?_) | (with_reducible refine Blk.ext ?_ (by with_reducible assumption)) | (with_reducible refine Blk.out ?_ (by with_reducible assumption) ?ge; case ge => omega)))
  obtain ⟨qLw21_0, qLw21_1⟩ := blk2 bcLw21
  clear bcLw21
  go_wp2_with fail
  clear q0_0 q0_1 qLw5_0 qLw5_1 qLw6_0 qLw6_1 qLw8_0 qLw8_1 qLw21_0 qLw21_1
  refine (heldBeaconing _ (runBeac x0 x1 a2) 1 _ (by exact BeaconingO_rd (lo := w_7.heap.size) (hi := w_8.heap.size) (by repeat (first | (with_reducible exact O_17.out) | (with_reducible refine BeaconingO.drew ?_) | (with_reducible refine BeaconingO.ext ?_ (by with_reducible assumption) ?ge; case ge => first | omega | (simp only [World.size_drew]; omega)) | (with_reducible refine BeaconingO.out ?_ (by with_reducible assumption) ?ge; case ge => omega))) (by omega)) (by omega)).mono ?_
  rintro e w_23 ⟨rfl, e_23⟩
  have z_23 := e_23.size
  have bc0 : Blk w_23 (w.heap.size) 25 [.slice A0_0 n0_0 c0_0, .slice A0_1 n0_1 c0_1] := (by repeat (first | (with_reducible exact BX0.out) | (with_reducible refine Blk.drew ?_) | (with_reducible refine Blk.ext ?_ (by with_reducible assumption)) | (with_reducible refine Blk.out ?_ (by with_reducible assumption) ?ge; case ge => omega)))
  obtain ⟨q0_0, q0_1⟩ := blk2 bc0
  clear bc0
  have bcLw5 : Blk w_23 (w_5.heap.size) 83 [I (runBeac x0 x1 a2).ts, .slice A_5_1 n_5_1 c_5_1] := (by repeat (first | (with_reducible exact BXLw5.out) | (with_reducible refine Blk.drew ?_) | (with_reducible refine Blk.ext ?_ (by with_reducible assumption)) | (with_reducible refine Blk.out ?_ (by with_reducible assumption) ?ge; case ge => omega)))
  obtain ⟨qLw5_0, qLw5_1⟩ := blk2 bcLw5
  clear bcLw5
  have bcLw6 : Blk w_23 (w_6.heap.size) 42 [.slice A_6_0 n_6_0 c_6_0, .slice A_6_1 n_6_1 c_6_1] := (by repeat (first | (with_reducible exact BXLw6.out) | (with_reducible refine Blk.drew ?_) | (with_reducible refine Blk.ext ?_ (by with_reducible assumption)) | (with_reducible refine Blk.out ?_ (by with_reducible assumption) ?ge; case ge => omega)))
  obtain ⟨qLw6_0, qLw6_1⟩ := blk2 bcLw6
  clear bcLw6
  have bcLw8 : Blk w_23 (w_8.heap.size) 83 [I (runBeac x0 x1 a2).ts, .slice A_8_1 n_8_1 c_8_1] := (by repeat (first | (with_reducible exact BXLw8.out) | (with_reducible refine Blk.drew ?_) | (with_reducible refine Blk.ext ?_ (by with_reducible assumption)) | (with_reducible refine Blk.out ?_ (by with_reducible assumption) ?ge; case ge => omega)))
  obtain ⟨qLw8_0, qLw8_1⟩ := blk2 bcLw8
  clear bcLw8
  have bcLw21 : Blk w_23 (w_21.heap.size) 83 [I (runBeac x0 x1 a2).ts, .slice A_21_1 n_21_1 c_21_1] := (by repeat (first | (with_reducible exact BXLw21.out) | (with_reducible refine Blk.drew ?_) | (with_reducible refine Blk.ext ?_ (by with_reducible assumption)) | (with_reducible refine Blk.out ?_ (by with_reducible assumption) ?ge; case ge => omega)))
  obtain ⟨qLw21_0, qLw21_1⟩ := blk2 bcLw21
  clear bcLw21
  go_wp2_with fail
  clear q0_0 q0_1 qLw5_0 qLw5_1 qLw6_0 qLw6_1 qLw8_0 qLw8_1 qLw21_0 qLw21_1
  go_ret
  exact ⟨rfl, xo⟩
set_option maxRecDepth 100000 in
theorem lifted (os : Os) (started : os.Started) (H : Type) (enc : TypeId × Value → H) :
    ReturnsInHanded {} Tryz.checked os 9 .any (Rows.fnExactRunBeaconingSpec.pre6 enc Tryz.prog Tryz.f9 Rows.fnExactRunBeaconingRow.domain false) (Rows.fnExactRunBeaconingSpec.post enc Tryz.prog Tryz.f9 false true false false) := by
  refine returnsInHanded_of_change (C := Tryz.checked) own started (by kernel_rfl) Tryz.func9
    (ChangeSpec.witness6 (enc := enc) (C := Tryz.checked) false ⟨#[], #[.agg #[.slice none 0 0, .slice none 0 0], .slice none 0 0, .int .i64 0], []⟩ 8 (by kernel_rfl) (by kernel_rfl) (by kernel_rfl) (by kernel_rfl)) ?_
  intro W base args ds gs before hval0 hW hcnd _
  have hval : ∀ (j : Nat) t v, Tryz.f9.params[j]? = some t → args[j]? = some v → Value.okWide Tryz.prog W .any base t v := hval0
  have hW' := hW
  obtain ⟨p, q, hA0, hV, rfl, hfz, hnd⟩ := hW
  have hA : DataW.TrodAll enc Tryz.prog W 0 (fun _ => true) true Tryz.f9.params.toList args.toList ds p := hA0
  rw [Tryz.params9] at hA hval
  obtain ⟨v0, vs0, d0, ds0, p0, q0, hargs, rfl, rfl, h0, r0⟩ := trodAll_cons hA
  obtain ⟨v1, vs1, d1, ds1, p1, q1, rfl, rfl, rfl, h1, r1⟩ := trodAll_cons r0
  obtain ⟨v2, vs2, d2, ds2, p2, q2, rfl, rfl, rfl, h2, r2⟩ := trodAll_cons r1
  obtain ⟨rfl, rfl, rfl⟩ := trodAll_nil r2
  obtain rfl : args = #[v0, v1, v2] := by cases args; simp_all
  obtain ⟨rfl, rfl⟩ := trodVars_none hV
  have k0 := h0
  have lt0 : ∀ x ∈ p0, x.block < W.heap.size := by obtain ⟨m, hm⟩ := k0; exact DataW.trod_lt m _ _ _ hm
  obtain ⟨cs0, rfl, _⟩ := okWide_struct Tryz.underlying25 (hval 0 25 v0 rfl rfl)
  obtain ⟨x0, y0⟩ : ∃ d, TopologyV W.heap.size W (.agg cs0) d := by
    obtain ⟨fuel, hf⟩ := h0
    obtain ⟨d, A0, n0, c0, A1, n1, c1, e, s0, s1⟩ := read_Topology hf
    have e1 : cs0 = #[.slice A0 n0 c0, .slice A1 n1 c1] := by cases cs0; simpa [Value.cells] using e
    exact ⟨d, ⟨_, _, _, _, _, _, by rw [e1], s0, s1⟩⟩
  have k1 := h1
  have lt1 : ∀ x ∈ p1, x.block < W.heap.size := by obtain ⟨m, hm⟩ := k1; exact DataW.trod_lt m _ _ _ hm
  obtain ⟨a1, len1, cap1, rfl⟩ := okWide_slice Tryz.underlying72 (hval 1 72 v1 rfl rfl)
  obtain ⟨x1, y1⟩ : ∃ ds, PolicyS W.heap.size W (.slice a1 len1 cap1) ds := by
    obtain ⟨fuel, hf⟩ := h1
    obtain ⟨A, n, c, ds, e, hs⟩ := read_PolicyS hf
    simp only [Value.cells, List.cons.injEq, and_true] at e
    rw [← e] at hs
    exact ⟨ds, hs⟩
  obtain ⟨a2, rfl, rfl, rfl, w2⟩ := open_int Tryz.underlying3 (hval 2 3 v2 rfl rfl) h2
  clear hA0 hval0
  refine (walk _ x0 _ x1 a2 W y0 y1).mono fun e W' ⟨he, bel⟩ => ?_
  subst he
  exact ⟨_, rfl, _, _, _, [], _, [], hW', trodAll_mk1 (shut_bool Tryz.underlying4 _), (trodAll_cons_mk (Below.trod laidOut (by kernel_rfl) (of_decide_eq_true (by kernel_rfl)) k0 bel.below lt0) (trodAll_cons_mk (Below.trod laidOut (by kernel_rfl) (of_decide_eq_true (by kernel_rfl)) k1 bel.below lt1) (trodAll_cons_mk (shut_int Tryz.underlying3 w2) trodAll_mk0))), rfl, bel.below.frame _, fun h => by cases h⟩

theorem and2 {a b : Bool} (h : a = true) (k : b = true) : (a && b) = true := by rw [h, k]; rfl
set_option maxRecDepth 100000 in
set_option maxHeartbeats 4000000 in
theorem over : Rows.fnExactRunBeaconingRow.holds Tryz.pinned (OpenSpec.ofChange Rows.fnExactRunBeaconingSpec) :=
  OpenClaim.holds_of_wide 9 Tryz.f9 rfl rfl rfl rfl rfl rfl rfl ⟨rfl, rfl, rfl, rfl, rfl⟩ rfl rfl rfl rfl rfl (by as_aux_lemma => kernel_rfl) Tryz.func9 (by unfold joinedFacts; (repeat' (with_reducible refine and2 ?_ ?_)); (all_goals (as_aux_lemma => kernel_rfl)))
    (of_decide_eq_true (by as_aux_lemma => kernel_rfl)) (by unfold Func.isWrapper; first | (rw [if_pos (by decide +kernel)]; as_aux_lemma => kernel_rfl) | (rw [if_neg (by decide +kernel)]; exact ⟨rfl, rfl⟩))
    (fun os started H enc _ => lifted os started H enc)

/-- The statement. -/
theorem proved : Rows.FnExactRunBeaconingSaid := over
#print axioms proved
end Go.Proofs.YtdcfidlngbhpcaaGreat.lawRunBeaconing
