/- The law FnExactDatabaseUsable returns true for every input and changes no argument. No conditions. -/
import Derived.Test.YtcalbcjheenmgaaL16h
import Derived.Test.YtcalbcjheenmgaaRead
namespace Go.Proofs.Ytcalbcjheenmgaa.lawDatabaseUsable
open Go.RowKit
set_option linter.unusedVariables false
open Go.ChangeShapes Go.WideShapes Go.ChangeAt
theorem own : ownKnob Try.prog.godebug = none := by kernel_rfl
theorem laidOut : laidOutB Try.prog = true := by kernel_rfl

set_option maxRecDepth 100000 in
set_option maxHeartbeats 1000000 in
theorem walk (v0 : Value) (x0 : DTopology) (v1 : Value) (x1 : DSegmentDatabase) (a2 : Int) (w : World) (h0 : TopologyV w.heap.size w v0 x0) (h1 : SegmentDatabaseV w.heap.size w v1 x1) :
    Calls Try.prog 8 #[v0, v1, I a2] w fun e w' => e = .returned (.bool true) ∧ Ext w w' := by
  have H0 := Lib.hid h0
  obtain ⟨A0_0, n0_0, c0_0, A0_1, n0_1, c0_1, rfl, -⟩ := h0
  have H1 := Lib.hid h1
  obtain ⟨A1_0, n1_0, c1_0, A1_1, n1_1, c1_1, rfl, -⟩ := h1
  go_enter Try.func8, Try.ntmps8
  go_wp2_with fail
  have bx0 : Blk ((w.alloc (.cells #[.slice A0_0 n0_0 c0_0, .slice A0_1 n0_1 c0_1] 63)).alloc (.cells #[.slice A1_0 n1_0 c1_0, .slice A1_1 n1_1 c1_1] 83)) (w.heap.size) 63 [.slice A0_0 n0_0 c0_0, .slice A0_1 n0_1 c0_1] := by simpa using (Blk.new w 63 [.slice A0_0 n0_0 c0_0, .slice A0_1 n0_1 c0_1]).alloc _
  have BX0 := Lib.hid bx0; clear bx0
  have bx1 : Blk ((w.alloc (.cells #[.slice A0_0 n0_0 c0_0, .slice A0_1 n0_1 c0_1] 63)).alloc (.cells #[.slice A1_0 n1_0 c1_0, .slice A1_1 n1_1 c1_1] 83)) (w.heap.size + 1) 83 [.slice A1_0 n1_0 c1_0, .slice A1_1 n1_1 c1_1] := by simpa using Blk.new (w.alloc (.cells #[.slice A0_0 n0_0 c0_0, .slice A0_1 n0_1 c0_1] 63)) 83 [.slice A1_0 n1_0 c1_0, .slice A1_1 n1_1 c1_1]
  have BX1 := Lib.hid bx1; clear bx1
  have ew : Ext w ((w.alloc (.cells #[.slice A0_0 n0_0 c0_0, .slice A0_1 n0_1 c0_1] 63)).alloc (.cells #[.slice A1_0 n1_0 c1_0, .slice A1_1 n1_1 c1_1] 83)) := (by repeat (first | (with_reducible exact Ext.refl _) | (with_reducible assumption) | (with_reducible refine Ext.alloc ?_ _) | (with_reducible refine Ext.drew ?_) | (with_reducible refine Ext.out ?_ (by with_reducible assumption) ?ge; case ge => omega) | (with_reducible refine Ext.trans ?_ (by with_reducible assumption))))
  have zw : w.heap.size + 2 ≤ ((w.alloc (.cells #[.slice A0_0 n0_0 c0_0, .slice A0_1 n0_1 c0_1] 63)).alloc (.cells #[.slice A1_0 n1_0 c1_0, .slice A1_1 n1_1 c1_1] 83)).heap.size := by simp only [World.size_alloc]; omega
  generalize ((w.alloc (.cells #[.slice A0_0 n0_0 c0_0, .slice A0_1 n0_1 c0_1] 63)).alloc (.cells #[.slice A1_0 n1_0 c1_0, .slice A1_1 n1_1 c1_1] 83)) = w0 at *
  refine (szTopology _ x0 (1048576) _ (by exact H0.out.ext (by repeat (first | (with_reducible exact Ext.refl _) | (with_reducible assumption) | (with_reducible refine Ext.alloc ?_ _) | (with_reducible refine Ext.drew ?_) | (with_reducible refine Ext.out ?_ (by with_reducible assumption) ?ge; case ge => omega) | (with_reducible refine Ext.trans ?_ (by with_reducible assumption))))) (by omega) (by omega)).mono ?_
  rintro e w_1 ⟨rfl, e_1⟩
  have z_1 := e_1.size
  by_cases hlt0 : 1048576 < ((x0.ases.length + x0.links.length : Nat) : Int)
  · rw [szR_neg hlt0]
    go_wp2_with fail
    go_ret
    exact ⟨rfl, (by repeat (first | (with_reducible exact Ext.refl _) | (with_reducible assumption) | (with_reducible refine Ext.alloc ?_ _) | (with_reducible refine Ext.drew ?_) | (with_reducible refine Ext.out ?_ (by with_reducible assumption) ?ge; case ge => omega) | (with_reducible refine Ext.trans ?_ (by with_reducible assumption))))⟩
  rw [szR_pos (by omega)]
  have hb0 : x0.ases.length + x0.links.length ≤ 1048576 := by omega
  have bc0 : Blk w_1 (w.heap.size) 63 [.slice A0_0 n0_0 c0_0, .slice A0_1 n0_1 c0_1] := (by repeat (first | (with_reducible exact BX0.out) | (with_reducible refine Blk.drew ?_) | (with_reducible refine Blk.ext ?_ (by with_reducible assumption)) | (with_reducible refine Blk.out ?_ (by with_reducible assumption) ?ge; case ge => omega)))
  obtain ⟨q0_0, q0_1⟩ := blk2 bc0
  clear bc0
  have bc1 : Blk w_1 (w.heap.size + 1) 83 [.slice A1_0 n1_0 c1_0, .slice A1_1 n1_1 c1_1] := (by repeat (first | (with_reducible exact BX1.out) | (with_reducible refine Blk.drew ?_) | (with_reducible refine Blk.ext ?_ (by with_reducible assumption)) | (with_reducible refine Blk.out ?_ (by with_reducible assumption) ?ge; case ge => omega)))
  obtain ⟨q1_0, q1_1⟩ := blk2 bc1
  clear bc1
  go_wp2_with fail
  clear q0_0 q0_1 q1_0 q1_1
  refine (szSegmentDatabase _ x1 (1048576 - ((x0.ases.length + x0.links.length : Nat) : Int)) _ (by exact H1.out.ext (by repeat (first | (with_reducible exact Ext.refl _) | (with_reducible assumption) | (with_reducible refine Ext.alloc ?_ _) | (with_reducible refine Ext.drew ?_) | (with_reducible refine Ext.out ?_ (by with_reducible assumption) ?ge; case ge => omega) | (with_reducible refine Ext.trans ?_ (by with_reducible assumption))))) (by omega) (by omega)).mono ?_
  rintro e w_2 ⟨rfl, e_2⟩
  have z_2 := e_2.size
  by_cases hlt1 : 1048576 - ((x0.ases.length + x0.links.length : Nat) : Int) < ((totS (fun y => y.hops.length) x1.down + totS (fun y => y.hops.length) x1.core : Nat) : Int)
  · rw [szR_neg hlt1]
    go_wp2_with fail
    go_ret
    exact ⟨rfl, (by repeat (first | (with_reducible exact Ext.refl _) | (with_reducible assumption) | (with_reducible refine Ext.alloc ?_ _) | (with_reducible refine Ext.drew ?_) | (with_reducible refine Ext.out ?_ (by with_reducible assumption) ?ge; case ge => omega) | (with_reducible refine Ext.trans ?_ (by with_reducible assumption))))⟩
  rw [szR_pos (by omega)]
  have hb1 : totS (fun y => y.hops.length) x1.down + totS (fun y => y.hops.length) x1.core ≤ 1048576 := by omega
  have bc0 : Blk w_2 (w.heap.size) 63 [.slice A0_0 n0_0 c0_0, .slice A0_1 n0_1 c0_1] := (by repeat (first | (with_reducible exact BX0.out) | (with_reducible refine Blk.drew ?_) | (with_reducible refine Blk.ext ?_ (by with_reducible assumption)) | (with_reducible refine Blk.out ?_ (by with_reducible assumption) ?ge; case ge => omega)))
  obtain ⟨q0_0, q0_1⟩ := blk2 bc0
  clear bc0
  have bc1 : Blk w_2 (w.heap.size + 1) 83 [.slice A1_0 n1_0 c1_0, .slice A1_1 n1_1 c1_1] := (by repeat (first | (with_reducible exact BX1.out) | (with_reducible refine Blk.drew ?_) | (with_reducible refine Blk.ext ?_ (by with_reducible assumption)) | (with_reducible refine Blk.out ?_ (by with_reducible assumption) ?ge; case ge => omega)))
  obtain ⟨q1_0, q1_1⟩ := blk2 bc1
  clear bc1
  go_wp2_with fail
  clear q0_0 q0_1 q1_0 q1_1
  have bc0 : Blk w_2 (w.heap.size) 63 [.slice A0_0 n0_0 c0_0, .slice A0_1 n0_1 c0_1] := (by repeat (first | (with_reducible exact BX0.out) | (with_reducible refine Blk.drew ?_) | (with_reducible refine Blk.ext ?_ (by with_reducible assumption)) | (with_reducible refine Blk.out ?_ (by with_reducible assumption) ?ge; case ge => omega)))
  have lt0 := bc0.lt
  obtain ⟨q0_0, q0_1⟩ := blk2 bc0
  clear bc0
  have bc1 : Blk w_2 (w.heap.size + 1) 83 [.slice A1_0 n1_0 c1_0, .slice A1_1 n1_1 c1_1] := (by repeat (first | (with_reducible exact BX1.out) | (with_reducible refine Blk.drew ?_) | (with_reducible refine Blk.ext ?_ (by with_reducible assumption)) | (with_reducible refine Blk.out ?_ (by with_reducible assumption) ?ge; case ge => omega)))
  have lt1 := bc1.lt
  obtain ⟨q1_0, q1_1⟩ := blk2 bc1
  clear bc1
  go_region_held3 (fun W => w_2.heap.size ≤ W.heap.size ∧ ∀ b o, b < w_2.heap.size → W.cell? ⟨b, o, none⟩ = w_2.cell? ⟨b, o, none⟩)
    (first | exact ⟨Nat.le_refl _, fun _ _ _ => rfl⟩ | exact keepC (by assumption) e_5 | exact keepC (by assumption) e_4 | exact keepC (by assumption) e_3)
    (first | (go_at_call 34; (with_reducible refine Calls.mono (toTopology (.agg #[.slice A0_0 n0_0 c0_0, .slice A0_1 n0_1 c0_1]) x0 _ ?s0 ?s1) ?_); (case s0 => exact H0.out.ext (by repeat (first | (with_reducible exact Ext.refl _) | (with_reducible assumption) | (with_reducible refine Ext.alloc ?_ _) | (with_reducible refine Ext.drew ?_) | (with_reducible refine Ext.out ?_ (by with_reducible assumption) ?ge; case ge => omega) | (with_reducible refine Ext.trans ?_ (by with_reducible assumption))))); (case s1 => omega); rintro e w_3 ⟨u_3, rfl, o_3, e_3⟩; have z_3 : w_2.heap.size ≤ w_3.heap.size := e_3.size; have o_3 : TopologyO w_2.heap.size w_3.heap.size w_3 _ _ := o_3) | (go_at_call 40; (with_reducible refine Calls.mono (toSegmentDatabase (.agg #[.slice A1_0 n1_0 c1_0, .slice A1_1 n1_1 c1_1]) x1 _ ?s0 ?s1) ?_); (case s0 => exact H1.out.ext (by repeat (first | (with_reducible exact Ext.refl _) | (with_reducible assumption) | (with_reducible refine Ext.alloc ?_ _) | (with_reducible refine Ext.drew ?_) | (with_reducible refine Ext.out ?_ (by with_reducible assumption) ?ge; case ge => omega) | (with_reducible refine Ext.trans ?_ (by with_reducible assumption))))); (case s1 => omega); rintro e w_4 ⟨u_4, rfl, o_4, e_4⟩; have z_4 := e_4.size) | (go_at_call 46; (with_reducible refine Calls.mono (spec_DatabaseUsable _ _ a2 x0 x1 _ ?s0 ?s1 ?s2) ?_); (case s0 => exact TopologyO_rd (lo := w_2.heap.size) (hi := w_3.heap.size) (by repeat (first | (with_reducible exact o_3) | (with_reducible refine TopologyO.drew ?_) | (with_reducible refine TopologyO.ext ?_ (by with_reducible assumption) ?ge; case ge => first | omega | (simp only [World.size_drew]; omega)) | (with_reducible refine TopologyO.out ?_ (by with_reducible assumption) ?ge; case ge => omega))) (by omega)); (case s1 => exact SegmentDatabaseO_rd (lo := w_3.heap.size) (hi := w_4.heap.size) (by repeat (first | (with_reducible exact o_4) | (with_reducible refine SegmentDatabaseO.drew ?_) | (with_reducible refine SegmentDatabaseO.ext ?_ (by with_reducible assumption) ?ge; case ge => first | omega | (simp only [World.size_drew]; omega)) | (with_reducible refine SegmentDatabaseO.out ?_ (by with_reducible assumption) ?ge; case ge => omega))) (by omega)); (case s2 => exact hb1); rintro e w_5 ⟨rfl, e_5⟩; have z_5 := e_5.size))
  clear q0_0 q0_1 q1_0 q1_1 lt0 lt1
  have O_3 := Lib.hid o_3; clear o_3
  obtain ⟨A_3_0, n_3_0, c_3_0, A_3_1, n_3_1, c_3_1, hv_3⟩ := O_3.out.shape
  subst hv_3
  have O_4 := Lib.hid o_4; clear o_4
  obtain ⟨A_4_0, n_4_0, c_4_0, A_4_1, n_4_1, c_4_1, hv_4⟩ := O_4.out.shape
  subst hv_4
  have bc0 : Blk w_5 (w.heap.size) 63 [.slice A0_0 n0_0 c0_0, .slice A0_1 n0_1 c0_1] := (by repeat (first | (with_reducible exact BX0.out) | (with_reducible refine Blk.drew ?_) | (with_reducible refine Blk.ext ?_ (by with_reducible assumption)) | (with_reducible refine Blk.out ?_ (by with_reducible assumption) ?ge; case ge => omega)))
  obtain ⟨q0_0, q0_1⟩ := blk2 bc0
  clear bc0
  have bc1 : Blk w_5 (w.heap.size + 1) 83 [.slice A1_0 n1_0 c1_0, .slice A1_1 n1_1 c1_1] := (by repeat (first | (with_reducible exact BX1.out) | (with_reducible refine Blk.drew ?_) | (with_reducible refine Blk.ext ?_ (by with_reducible assumption)) | (with_reducible refine Blk.out ?_ (by with_reducible assumption) ?ge; case ge => omega)))
  obtain ⟨q1_0, q1_1⟩ := blk2 bc1
  clear bc1
  go_wp2_with fail
  clear q0_0 q0_1 q1_0 q1_1
  refine (toTopology (.agg #[.slice A0_0 n0_0 c0_0, .slice A0_1 n0_1 c0_1]) x0 _ (by exact H0.out.ext (by repeat (first | (with_reducible exact Ext.refl _) | (with_reducible assumption) | (with_reducible refine Ext.alloc ?_ _) | (with_reducible refine Ext.drew ?_) | (with_reducible refine Ext.out ?_ (by with_reducible assumption) ?ge; case ge => omega) | (with_reducible refine Ext.trans ?_ (by with_reducible assumption))))) (by omega)).mono ?_
  rintro e w_6 ⟨u_6, rfl, o_6, e_6⟩
  have z_6 := e_6.size
  have O_6 := Lib.hid o_6; clear o_6
  obtain ⟨A_6_0, n_6_0, c_6_0, A_6_1, n_6_1, c_6_1, hv_6⟩ := O_6.out.shape
  subst hv_6
  have bc0 : Blk w_6 (w.heap.size) 63 [.slice A0_0 n0_0 c0_0, .slice A0_1 n0_1 c0_1] := (by repeat (first | (with_reducible exact BX0.out) | (with_reducible refine Blk.drew ?_) | (with_reducible refine Blk.ext ?_ (by with_reducible assumption)) | (with_reducible refine Blk.out ?_ (by with_reducible assumption) ?ge; case ge => omega)))
  have lt0 := bc0.lt
  obtain ⟨q0_0, q0_1⟩ := blk2 bc0
  clear bc0
  have bc1 : Blk w_6 (w.heap.size + 1) 83 [.slice A1_0 n1_0 c1_0, .slice A1_1 n1_1 c1_1] := (by repeat (first | (with_reducible exact BX1.out) | (with_reducible refine Blk.drew ?_) | (with_reducible refine Blk.ext ?_ (by with_reducible assumption)) | (with_reducible refine Blk.out ?_ (by with_reducible assumption) ?ge; case ge => omega)))
  have lt1 := bc1.lt
  obtain ⟨q1_0, q1_1⟩ := blk2 bc1
  clear bc1
  go_wp2_with fail
  clear q0_0 q0_1 q1_0 q1_1 lt0 lt1
  have bxLw6 : Blk (w_6.alloc (.cells #[.slice A_6_0 n_6_0 c_6_0, .slice A_6_1 n_6_1 c_6_1] 73)) w_6.heap.size 73 [.slice A_6_0 n_6_0 c_6_0, .slice A_6_1 n_6_1 c_6_1] := Blk.new _ _ _
  have BXLw6 := Lib.hid bxLw6; clear bxLw6
  have ewLw6 : Ext w_6 (w_6.alloc (.cells #[.slice A_6_0 n_6_0 c_6_0, .slice A_6_1 n_6_1 c_6_1] 73)) := (Ext.refl _).alloc _
  have zwLw6 : w_6.heap.size + 1 ≤ (w_6.alloc (.cells #[.slice A_6_0 n_6_0 c_6_0, .slice A_6_1 n_6_1 c_6_1] 73)).heap.size := by simp only [World.size_alloc]; omega
  generalize (w_6.alloc (.cells #[.slice A_6_0 n_6_0 c_6_0, .slice A_6_1 n_6_1 c_6_1] 73)) = w_6b at *
  refine (toSegmentDatabase (.agg #[.slice A1_0 n1_0 c1_0, .slice A1_1 n1_1 c1_1]) x1 _ (by exact H1.out.ext (by repeat (first | (with_reducible exact Ext.refl _) | (with_reducible assumption) | (with_reducible refine Ext.alloc ?_ _) | (with_reducible refine Ext.drew ?_) | (with_reducible refine Ext.out ?_ (by with_reducible assumption) ?ge; case ge => omega) | (with_reducible refine Ext.trans ?_ (by with_reducible assumption))))) (by omega)).mono ?_
  rintro e w_7 ⟨u_7, rfl, o_7, e_7⟩
  have z_7 := e_7.size
  have O_7 := Lib.hid o_7; clear o_7
  obtain ⟨A_7_0, n_7_0, c_7_0, A_7_1, n_7_1, c_7_1, hv_7⟩ := O_7.out.shape
  subst hv_7
  have bc0 : Blk w_7 (w.heap.size) 63 [.slice A0_0 n0_0 c0_0, .slice A0_1 n0_1 c0_1] := (by repeat (first | (with_reducible exact BX0.out) | (with_reducible refine Blk.drew ?_) | (with_reducible refine Blk.ext ?_ (by with_reducible assumption)) | (with_reducible refine Blk.out ?_ (by with_reducible assumption) ?ge; case ge => omega)))
  have lt0 := bc0.lt
  obtain ⟨q0_0, q0_1⟩ := blk2 bc0
  clear bc0
  have bc1 : Blk w_7 (w.heap.size + 1) 83 [.slice A1_0 n1_0 c1_0, .slice A1_1 n1_1 c1_1] := (by repeat (first | (with_reducible exact BX1.out) | (with_reducible refine Blk.drew ?_) | (with_reducible refine Blk.ext ?_ (by with_reducible assumption)) | (with_reducible refine Blk.out ?_ (by with_reducible assumption) ?ge; case ge => omega)))
  have lt1 := bc1.lt
  obtain ⟨q1_0, q1_1⟩ := blk2 bc1
  clear bc1
  have bcLw6 : Blk w_7 (w_6.heap.size) 73 [.slice A_6_0 n_6_0 c_6_0, .slice A_6_1 n_6_1 c_6_1] := (by repeat (first | (with_reducible exact BXLw6.out) | (with_reducible refine Blk.drew ?_) | (with_reducible refine Blk.ext ?_ (by with_reducible assumption)) | (with_reducible refine Blk.out ?_ (by with_reducible assumption) ?ge; case ge => omega)))
  have ltLw6 := bcLw6.lt
  obtain ⟨qLw6_0, qLw6_1⟩ := blk2 bcLw6
  clear bcLw6
  go_wp2_with fail
  clear q0_0 q0_1 q1_0 q1_1 qLw6_0 qLw6_1 lt0 lt1 ltLw6
  have bxLw7 : Blk (w_7.alloc (.cells #[.slice A_7_0 n_7_0 c_7_0, .slice A_7_1 n_7_1 c_7_1] 87)) w_7.heap.size 87 [.slice A_7_0 n_7_0 c_7_0, .slice A_7_1 n_7_1 c_7_1] := Blk.new _ _ _
  have BXLw7 := Lib.hid bxLw7; clear bxLw7
  have ewLw7 : Ext w_7 (w_7.alloc (.cells #[.slice A_7_0 n_7_0 c_7_0, .slice A_7_1 n_7_1 c_7_1] 87)) := (Ext.refl _).alloc _
  have zwLw7 : w_7.heap.size + 1 ≤ (w_7.alloc (.cells #[.slice A_7_0 n_7_0 c_7_0, .slice A_7_1 n_7_1 c_7_1] 87)).heap.size := by simp only [World.size_alloc]; omega
  generalize (w_7.alloc (.cells #[.slice A_7_0 n_7_0 c_7_0, .slice A_7_1 n_7_1 c_7_1] 87)) = w_7b at *
  refine (impl_DatabaseUsable _ _ a2 x0 x1 _ (by exact TopologyO_rd (lo := w_5.heap.size) (hi := w_6.heap.size) (by repeat (first | (with_reducible exact O_6.out) | (with_reducible refine TopologyO.drew ?_) | (with_reducible refine TopologyO.ext ?_ (by with_reducible assumption) ?ge; case ge => first | omega | (simp only [World.size_drew]; omega)) | (with_reducible refine TopologyO.out ?_ (by with_reducible assumption) ?ge; case ge => omega))) (by omega)) (by exact SegmentDatabaseO_rd (lo := w_6b.heap.size) (hi := w_7.heap.size) (by repeat (first | (with_reducible exact O_7.out) | (with_reducible refine SegmentDatabaseO.drew ?_) | (with_reducible refine SegmentDatabaseO.ext ?_ (by with_reducible assumption) ?ge; case ge => first | omega | (simp only [World.size_drew]; omega)) | (with_reducible refine SegmentDatabaseO.out ?_ (by with_reducible assumption) ?ge; case ge => omega))) (by omega)) (by exact hb1)).mono ?_
  rintro e w_8 ⟨rfl, e_8⟩
  have z_8 := e_8.size
  generalize dbUsable x0 x1 a2 = r at *
  have bc0 : Blk w_8 (w.heap.size) 63 [.slice A0_0 n0_0 c0_0, .slice A0_1 n0_1 c0_1] := (by repeat (first | (with_reducible exact BX0.out) | (with_reducible refine Blk.drew ?_) | (with_reducible refine Blk.ext ?_ (by with_reducible assumption)) | (with_reducible refine Blk.out ?_ (by with_reducible assumption) ?ge; case ge => omega)))
  obtain ⟨q0_0, q0_1⟩ := blk2 bc0
  clear bc0
  have bc1 : Blk w_8 (w.heap.size + 1) 83 [.slice A1_0 n1_0 c1_0, .slice A1_1 n1_1 c1_1] := (by repeat (first | (with_reducible exact BX1.out) | (with_reducible refine Blk.drew ?_) | (with_reducible refine Blk.ext ?_ (by with_reducible assumption)) | (with_reducible refine Blk.out ?_ (by with_reducible assumption) ?ge; case ge => omega)))
  obtain ⟨q1_0, q1_1⟩ := blk2 bc1
  clear bc1
  have bcLw6 : Blk w_8 (w_6.heap.size) 73 [.slice A_6_0 n_6_0 c_6_0, .slice A_6_1 n_6_1 c_6_1] := (by repeat (first | (with_reducible exact BXLw6.out) | (with_reducible refine Blk.drew ?_) | (with_reducible refine Blk.ext ?_ (by with_reducible assumption)) | (with_reducible refine Blk.out ?_ (by with_reducible assumption) ?ge; case ge => omega)))
  obtain ⟨qLw6_0, qLw6_1⟩ := blk2 bcLw6
  clear bcLw6
  have bcLw7 : Blk w_8 (w_7.heap.size) 87 [.slice A_7_0 n_7_0 c_7_0, .slice A_7_1 n_7_1 c_7_1] := (by repeat (first | (with_reducible exact BXLw7.out) | (with_reducible refine Blk.drew ?_) | (with_reducible refine Blk.ext ?_ (by with_reducible assumption)) | (with_reducible refine Blk.out ?_ (by with_reducible assumption) ?ge; case ge => omega)))
  obtain ⟨qLw7_0, qLw7_1⟩ := blk2 bcLw7
  clear bcLw7
  go_wp2_with fail
  clear q0_0 q0_1 q1_0 q1_1 qLw6_0 qLw6_1 qLw7_0 qLw7_1
  have bc0 : Blk w_8 (w.heap.size) 63 [.slice A0_0 n0_0 c0_0, .slice A0_1 n0_1 c0_1] := (by repeat (first | (with_reducible exact BX0.out) | (with_reducible refine Blk.drew ?_) | (with_reducible refine Blk.ext ?_ (by with_reducible assumption)) | (with_reducible refine Blk.out ?_ (by with_reducible assumption) ?ge; case ge => omega)))
  have lt0 := bc0.lt
  obtain ⟨q0_0, q0_1⟩ := blk2 bc0
  clear bc0
  have bc1 : Blk w_8 (w.heap.size + 1) 83 [.slice A1_0 n1_0 c1_0, .slice A1_1 n1_1 c1_1] := (by repeat (first | (with_reducible exact BX1.out) | (with_reducible refine Blk.drew ?_) | (with_reducible refine Blk.ext ?_ (by with_reducible assumption)) | (with_reducible refine Blk.out ?_ (by with_reducible assumption) ?ge; case ge => omega)))
  have lt1 := bc1.lt
  obtain ⟨q1_0, q1_1⟩ := blk2 bc1
  clear bc1
  have bcLw6 : Blk w_8 (w_6.heap.size) 73 [.slice A_6_0 n_6_0 c_6_0, .slice A_6_1 n_6_1 c_6_1] := (by repeat (first | (with_reducible exact BXLw6.out) | (with_reducible refine Blk.drew ?_) | (with_reducible refine Blk.ext ?_ (by with_reducible assumption)) | (with_reducible refine Blk.out ?_ (by with_reducible assumption) ?ge; case ge => omega)))
  have ltLw6 := bcLw6.lt
  obtain ⟨qLw6_0, qLw6_1⟩ := blk2 bcLw6
  clear bcLw6
  have bcLw7 : Blk w_8 (w_7.heap.size) 87 [.slice A_7_0 n_7_0 c_7_0, .slice A_7_1 n_7_1 c_7_1] := (by repeat (first | (with_reducible exact BXLw7.out) | (with_reducible refine Blk.drew ?_) | (with_reducible refine Blk.ext ?_ (by with_reducible assumption)) | (with_reducible refine Blk.out ?_ (by with_reducible assumption) ?ge; case ge => omega)))
  have ltLw7 := bcLw7.lt
  obtain ⟨qLw7_0, qLw7_1⟩ := blk2 bcLw7
  clear bcLw7
  go_region_held3 (fun W => w_8.heap.size ≤ W.heap.size ∧ ∀ b o, b < w_8.heap.size → W.cell? ⟨b, o, none⟩ = w_8.cell? ⟨b, o, none⟩)
    (first | exact ⟨Nat.le_refl _, fun _ _ _ => rfl⟩ | exact keepC (by assumption) e_10 | exact keepC (by assumption) e_9)
    (first | (go_at_call 34; (with_reducible refine Calls.mono (toTopology (.agg #[.slice A0_0 n0_0 c0_0, .slice A0_1 n0_1 c0_1]) x0 _ ?s0 ?s1) ?_); (case s0 => exact H0.out.ext (by repeat (first | (with_reducible exact Ext.refl _) | (with_reducible assumption) | (with_reducible refine Ext.alloc ?_ _) | (with_reducible refine Ext.drew ?_) | (with_reducible refine Ext.out ?_ (by with_reducible assumption) ?ge; case ge => omega) | (with_reducible refine Ext.trans ?_ (by with_reducible assumption))))); (case s1 => omega); rintro e w_9 ⟨u_9, rfl, o_9, e_9⟩; have z_9 : w_8.heap.size ≤ w_9.heap.size := e_9.size; have o_9 : TopologyO w_8.heap.size w_9.heap.size w_9 _ _ := o_9) | (go_at_call 37; (with_reducible refine Calls.mono (eqTopology _ _ x0 x0 _ ?s0 ?s1) ?_); (case s0 => exact TopologyO_rd (lo := w_5.heap.size) (hi := w_6.heap.size) (by repeat (first | (with_reducible exact O_6.out) | (with_reducible refine TopologyO.drew ?_) | (with_reducible refine TopologyO.ext ?_ (by with_reducible assumption) ?ge; case ge => first | omega | (simp only [World.size_drew]; omega)) | (with_reducible refine TopologyO.out ?_ (by with_reducible assumption) ?ge; case ge => omega))) (by omega)); (case s1 => exact TopologyO_rd (lo := w_8.heap.size) (hi := w_9.heap.size) (by repeat (first | (with_reducible exact o_9) | (with_reducible refine TopologyO.drew ?_) | (with_reducible refine TopologyO.ext ?_ (by with_reducible assumption) ?ge; case ge => first | omega | (simp only [World.size_drew]; omega)) | (with_reducible refine TopologyO.out ?_ (by with_reducible assumption) ?ge; case ge => omega))) (by omega)); rintro e w_10 ⟨rfl, e_10⟩; have z_10 := e_10.size))
  clear q0_0 q0_1 q1_0 q1_1 qLw6_0 qLw6_1 qLw7_0 qLw7_1 lt0 lt1 ltLw6 ltLw7
  have O_9 := Lib.hid o_9; clear o_9
  obtain ⟨A_9_0, n_9_0, c_9_0, A_9_1, n_9_1, c_9_1, hv_9⟩ := O_9.out.shape
  subst hv_9
  try rw [decide_eq_true rfl]
  have bc0 : Blk w_10 (w.heap.size) 63 [.slice A0_0 n0_0 c0_0, .slice A0_1 n0_1 c0_1] := (by repeat (first | (with_reducible exact BX0.out) | (with_reducible refine Blk.drew ?_) | (with_reducible refine Blk.ext ?_ (by with_reducible assumption)) | (with_reducible refine Blk.out ?_ (by with_reducible assumption) ?ge; case ge => omega)))
  obtain ⟨q0_0, q0_1⟩ := blk2 bc0
  clear bc0
  have bc1 : Blk w_10 (w.heap.size + 1) 83 [.slice A1_0 n1_0 c1_0, .slice A1_1 n1_1 c1_1] := (by repeat (first | (with_reducible exact BX1.out) | (with_reducible refine Blk.drew ?_) | (with_reducible refine Blk.ext ?_ (by with_reducible assumption)) | (with_reducible refine Blk.out ?_ (by with_reducible assumption) ?ge; case ge => omega)))
  obtain ⟨q1_0, q1_1⟩ := blk2 bc1
  clear bc1
  have bcLw6 : Blk w_10 (w_6.heap.size) 73 [.slice A_6_0 n_6_0 c_6_0, .slice A_6_1 n_6_1 c_6_1] := (by repeat (first | (with_reducible exact BXLw6.out) | (with_reducible refine Blk.drew ?_) | (with_reducible refine Blk.ext ?_ (by with_reducible assumption)) | (with_reducible refine Blk.out ?_ (by with_reducible assumption) ?ge; case ge => omega)))
  obtain ⟨qLw6_0, qLw6_1⟩ := blk2 bcLw6
  clear bcLw6
  have bcLw7 : Blk w_10 (w_7.heap.size) 87 [.slice A_7_0 n_7_0 c_7_0, .slice A_7_1 n_7_1 c_7_1] := (by repeat (first | (with_reducible exact BXLw7.out) | (with_reducible refine Blk.drew ?_) | (with_reducible refine Blk.ext ?_ (by with_reducible assumption)) | (with_reducible refine Blk.out ?_ (by with_reducible assumption) ?ge; case ge => omega)))
  obtain ⟨qLw7_0, qLw7_1⟩ := blk2 bcLw7
  clear bcLw7
  go_wp2_with fail
  clear q0_0 q0_1 q1_0 q1_1 qLw6_0 qLw6_1 qLw7_0 qLw7_1
  have bc0 : Blk w_10 (w.heap.size) 63 [.slice A0_0 n0_0 c0_0, .slice A0_1 n0_1 c0_1] := (by repeat (first | (with_reducible exact BX0.out) | (with_reducible refine Blk.drew ?_) | (with_reducible refine Blk.ext ?_ (by with_reducible assumption)) | (with_reducible refine Blk.out ?_ (by with_reducible assumption) ?ge; case ge => omega)))
  have lt0 := bc0.lt
  obtain ⟨q0_0, q0_1⟩ := blk2 bc0
  clear bc0
  have bc1 : Blk w_10 (w.heap.size + 1) 83 [.slice A1_0 n1_0 c1_0, .slice A1_1 n1_1 c1_1] := (by repeat (first | (with_reducible exact BX1.out) | (with_reducible refine Blk.drew ?_) | (with_reducible refine Blk.ext ?_ (by with_reducible assumption)) | (with_reducible refine Blk.out ?_ (by with_reducible assumption) ?ge; case ge => omega)))
  have lt1 := bc1.lt
  obtain ⟨q1_0, q1_1⟩ := blk2 bc1
  clear bc1
  have bcLw6 : Blk w_10 (w_6.heap.size) 73 [.slice A_6_0 n_6_0 c_6_0, .slice A_6_1 n_6_1 c_6_1] := (by repeat (first | (with_reducible exact BXLw6.out) | (with_reducible refine Blk.drew ?_) | (with_reducible refine Blk.ext ?_ (by with_reducible assumption)) | (with_reducible refine Blk.out ?_ (by with_reducible assumption) ?ge; case ge => omega)))
  have ltLw6 := bcLw6.lt
  obtain ⟨qLw6_0, qLw6_1⟩ := blk2 bcLw6
  clear bcLw6
  have bcLw7 : Blk w_10 (w_7.heap.size) 87 [.slice A_7_0 n_7_0 c_7_0, .slice A_7_1 n_7_1 c_7_1] := (by repeat (first | (with_reducible exact BXLw7.out) | (with_reducible refine Blk.drew ?_) | (with_reducible refine Blk.ext ?_ (by with_reducible assumption)) | (with_reducible refine Blk.out ?_ (by with_reducible assumption) ?ge; case ge => omega)))
  have ltLw7 := bcLw7.lt
  obtain ⟨qLw7_0, qLw7_1⟩ := blk2 bcLw7
  clear bcLw7
  go_region_held3 (fun W => w_10.heap.size ≤ W.heap.size ∧ ∀ b o, b < w_10.heap.size → W.cell? ⟨b, o, none⟩ = w_10.cell? ⟨b, o, none⟩)
    (first | exact ⟨Nat.le_refl _, fun _ _ _ => rfl⟩ | exact keepC (by assumption) e_12 | exact keepC (by assumption) e_11)
    (first | (go_at_call 40; (with_reducible refine Calls.mono (toSegmentDatabase (.agg #[.slice A1_0 n1_0 c1_0, .slice A1_1 n1_1 c1_1]) x1 _ ?s0 ?s1) ?_); (case s0 => exact H1.out.ext (by repeat (first | (with_reducible exact Ext.refl _) | (with_reducible assumption) | (with_reducible refine Ext.alloc ?_ _) | (with_reducible refine Ext.drew ?_) | (with_reducible refine Ext.out ?_ (by with_reducible assumption) ?ge; case ge => omega) | (with_reducible refine Ext.trans ?_ (by with_reducible assumption))))); (case s1 => omega); rintro e w_11 ⟨u_11, rfl, o_11, e_11⟩; have z_11 : w_10.heap.size ≤ w_11.heap.size := e_11.size; have o_11 : SegmentDatabaseO w_10.heap.size w_11.heap.size w_11 _ _ := o_11) | (go_at_call 42; (with_reducible refine Calls.mono (eqSegmentDatabase _ _ x1 x1 _ ?s0 ?s1) ?_); (case s0 => exact SegmentDatabaseO_rd (lo := w_6b.heap.size) (hi := w_7.heap.size) (by repeat (first | (with_reducible exact O_7.out) | (with_reducible refine SegmentDatabaseO.drew ?_) | (with_reducible refine SegmentDatabaseO.ext ?_ (by with_reducible assumption) ?ge; case ge => first | omega | (simp only [World.size_drew]; omega)) | (with_reducible refine SegmentDatabaseO.out ?_ (by with_reducible assumption) ?ge; case ge => omega))) (by omega)); (case s1 => exact SegmentDatabaseO_rd (lo := w_10.heap.size) (hi := w_11.heap.size) (by repeat (first | (with_reducible exact o_11) | (with_reducible refine SegmentDatabaseO.drew ?_) | (with_reducible refine SegmentDatabaseO.ext ?_ (by with_reducible assumption) ?ge; case ge => first | omega | (simp only [World.size_drew]; omega)) | (with_reducible refine SegmentDatabaseO.out ?_ (by with_reducible assumption) ?ge; case ge => omega))) (by omega)); rintro e w_12 ⟨rfl, e_12⟩; have z_12 := e_12.size))
  clear q0_0 q0_1 q1_0 q1_1 qLw6_0 qLw6_1 qLw7_0 qLw7_1 lt0 lt1 ltLw6 ltLw7
  have O_11 := Lib.hid o_11; clear o_11
  obtain ⟨A_11_0, n_11_0, c_11_0, A_11_1, n_11_1, c_11_1, hv_11⟩ := O_11.out.shape
  subst hv_11
  try rw [decide_eq_true rfl]
  have bc0 : Blk w_12 (w.heap.size) 63 [.slice A0_0 n0_0 c0_0, .slice A0_1 n0_1 c0_1] := (by repeat (first | (with_reducible exact BX0.out) | (with_reducible refine Blk.drew ?_) | (with_reducible refine Blk.ext ?_ (by with_reducible assumption)) | (with_reducible refine Blk.out ?_ (by with_reducible assumption) ?ge; case ge => omega)))
  obtain ⟨q0_0, q0_1⟩ := blk2 bc0
  clear bc0
  have bc1 : Blk w_12 (w.heap.size + 1) 83 [.slice A1_0 n1_0 c1_0, .slice A1_1 n1_1 c1_1] := (by repeat (first | (with_reducible exact BX1.out) | (with_reducible refine Blk.drew ?_) | (with_reducible refine Blk.ext ?_ (by with_reducible assumption)) | (with_reducible refine Blk.out ?_ (by with_reducible assumption) ?ge; case ge => omega)))
  obtain ⟨q1_0, q1_1⟩ := blk2 bc1
  clear bc1
  have bcLw6 : Blk w_12 (w_6.heap.size) 73 [.slice A_6_0 n_6_0 c_6_0, .slice A_6_1 n_6_1 c_6_1] := (by repeat (first | (with_reducible exact BXLw6.out) | (with_reducible refine Blk.drew ?_) | (with_reducible refine Blk.ext ?_ (by with_reducible assumption)) | (with_reducible refine Blk.out ?_ (by with_reducible assumption) ?ge; case ge => omega)))
  obtain ⟨qLw6_0, qLw6_1⟩ := blk2 bcLw6
  clear bcLw6
  have bcLw7 : Blk w_12 (w_7.heap.size) 87 [.slice A_7_0 n_7_0 c_7_0, .slice A_7_1 n_7_1 c_7_1] := (by repeat (first | (with_reducible exact BXLw7.out) | (with_reducible refine Blk.drew ?_) | (with_reducible refine Blk.ext ?_ (by with_reducible assumption)) | (with_reducible refine Blk.out ?_ (by with_reducible assumption) ?ge; case ge => omega)))
  obtain ⟨qLw7_0, qLw7_1⟩ := blk2 bcLw7
  clear bcLw7
  go_wp2_with fail
  clear q0_0 q0_1 q1_0 q1_1 qLw6_0 qLw6_1 qLw7_0 qLw7_1
  go_ret
  exact ⟨rfl, (by repeat (first | (with_reducible exact Ext.refl _) | (with_reducible assumption) | (with_reducible refine Ext.alloc ?_ _) | (with_reducible refine Ext.drew ?_) | (with_reducible refine Ext.out ?_ (by with_reducible assumption) ?ge; case ge => omega) | (with_reducible refine Ext.trans ?_ (by with_reducible assumption))))⟩
set_option maxRecDepth 100000 in
theorem lifted (os : Os) (started : os.Started) (H : Type) (enc : TypeId × Value → H) :
    ReturnsInHanded {} Try.checked os 8 .any (Rows.fnExactDatabaseUsableSpec.pre6 enc Try.prog Try.f8 Rows.fnExactDatabaseUsableRow.domain false) (Rows.fnExactDatabaseUsableSpec.post enc Try.prog Try.f8 false true false false) := by
  refine returnsInHanded_of_change (C := Try.checked) own started (by kernel_rfl) Try.func8
    (ChangeSpec.witness6 (enc := enc) (C := Try.checked) false ⟨#[], #[.agg #[.slice none 0 0, .slice none 0 0], .agg #[.slice none 0 0, .slice none 0 0], .int .i64 0], []⟩ 8 (by kernel_rfl) (by kernel_rfl) (by kernel_rfl) (by kernel_rfl)) ?_
  intro W base args ds gs before hval0 hW hcnd _
  have hval : ∀ (j : Nat) t v, Try.f8.params[j]? = some t → args[j]? = some v → Value.okWide Try.prog W .any base t v := hval0
  have hW' := hW
  obtain ⟨p, q, hA0, hV, rfl, hfz, hnd⟩ := hW
  have hA : DataW.TrodAll enc Try.prog W 0 (fun _ => true) true Try.f8.params.toList args.toList ds p := hA0
  rw [Try.params8] at hA hval
  obtain ⟨v0, vs0, d0, ds0, p0, q0, hargs, rfl, rfl, h0, r0⟩ := trodAll_cons hA
  obtain ⟨v1, vs1, d1, ds1, p1, q1, rfl, rfl, rfl, h1, r1⟩ := trodAll_cons r0
  obtain ⟨v2, vs2, d2, ds2, p2, q2, rfl, rfl, rfl, h2, r2⟩ := trodAll_cons r1
  obtain ⟨rfl, rfl, rfl⟩ := trodAll_nil r2
  obtain rfl : args = #[v0, v1, v2] := by cases args; simp_all
  obtain ⟨rfl, rfl⟩ := trodVars_none hV
  have k0 := h0
  have lt0 : ∀ x ∈ p0, x.block < W.heap.size := by obtain ⟨m, hm⟩ := k0; exact DataW.trod_lt m _ _ _ hm
  obtain ⟨cs0, rfl, _⟩ := okWide_struct Try.underlying63 (hval 0 63 v0 rfl rfl)
  obtain ⟨x0, y0⟩ : ∃ d, TopologyV W.heap.size W (.agg cs0) d := by
    obtain ⟨fuel, hf⟩ := h0
    obtain ⟨d, A0, n0, c0, A1, n1, c1, e, s0, s1⟩ := read_Topology hf
    have e1 : cs0 = #[.slice A0 n0 c0, .slice A1 n1 c1] := by cases cs0; simpa [Value.cells] using e
    exact ⟨d, ⟨_, _, _, _, _, _, by rw [e1], s0, s1⟩⟩
  have k1 := h1
  have lt1 : ∀ x ∈ p1, x.block < W.heap.size := by obtain ⟨m, hm⟩ := k1; exact DataW.trod_lt m _ _ _ hm
  obtain ⟨cs1, rfl, _⟩ := okWide_struct Try.underlying83 (hval 1 83 v1 rfl rfl)
  obtain ⟨x1, y1⟩ : ∃ d, SegmentDatabaseV W.heap.size W (.agg cs1) d := by
    obtain ⟨fuel, hf⟩ := h1
    obtain ⟨d, A0, n0, c0, A1, n1, c1, e, s0, s1⟩ := read_SegmentDatabase hf
    have e1 : cs1 = #[.slice A0 n0 c0, .slice A1 n1 c1] := by cases cs1; simpa [Value.cells] using e
    exact ⟨d, ⟨_, _, _, _, _, _, by rw [e1], s0, s1⟩⟩
  obtain ⟨a2, rfl, rfl, rfl, w2⟩ := open_int Try.underlying3 (hval 2 3 v2 rfl rfl) h2
  clear hA0 hval0
  refine (walk _ x0 _ x1 a2 W y0 y1).mono fun e W' ⟨he, bel⟩ => ?_
  subst he
  exact ⟨_, rfl, _, _, _, [], _, [], hW', trodAll_mk1 (shut_bool Try.underlying4 _), (trodAll_cons_mk (Below.trod laidOut (by kernel_rfl) (of_decide_eq_true (by kernel_rfl)) k0 bel.below lt0) (trodAll_cons_mk (Below.trod laidOut (by kernel_rfl) (of_decide_eq_true (by kernel_rfl)) k1 bel.below lt1) (trodAll_cons_mk (shut_int Try.underlying3 w2) trodAll_mk0))), rfl, bel.below.frame _, fun h => by cases h⟩

theorem over : Rows.fnExactDatabaseUsableRow.holds Try.pinned (OpenSpec.ofChange Rows.fnExactDatabaseUsableSpec) :=
  OpenClaim.holds_of_wide 8 Try.f8 rfl rfl rfl rfl rfl rfl rfl ⟨rfl, rfl, rfl, rfl, rfl⟩ rfl rfl rfl rfl rfl (by kernel_rfl) Try.func8 (by kernel_rfl)
    (of_decide_eq_true (by kernel_rfl)) (by unfold Func.isWrapper; first | (rw [if_pos (by decide +kernel)]; kernel_rfl) | (rw [if_neg (by decide +kernel)]; exact ⟨rfl, rfl⟩))
    (fun os started H enc _ => lifted os started H enc)

/-- The statement. -/
theorem proved : Rows.FnExactDatabaseUsableSaid := over
#print axioms proved
end Go.Proofs.Ytcalbcjheenmgaa.lawDatabaseUsable
