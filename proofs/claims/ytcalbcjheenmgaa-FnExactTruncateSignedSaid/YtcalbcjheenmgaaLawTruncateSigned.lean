/- The law FnExactTruncateSigned returns true for every input and changes no argument. No conditions. -/
import Derived.Test.YtcalbcjheenmgaaL20d
import Derived.Test.YtcalbcjheenmgaaRead
namespace Go.Proofs.Ytcalbcjheenmgaa.lawTruncateSigned
open Go.RowKit
set_option linter.unusedVariables false
open Go.ChangeShapes Go.WideShapes Go.ChangeAt
theorem own : ownKnob Try.prog.godebug = none := by kernel_rfl
theorem laidOut : laidOutB Try.prog = true := by kernel_rfl

set_option maxRecDepth 100000 in
set_option maxHeartbeats 1000000 in
theorem walk (v0 : Value) (x0 : DSignedSegment) (a1 : Int) (w : World) (h0 : SignedSegmentV w.heap.size w v0 x0) :
    Calls Try.prog 4 #[v0, I a1] w fun e w' => e = .returned (.bool true) ∧ Ext w w' := by
  have H0 := Lib.hid h0
  obtain ⟨A0_2, n0_2, c0_2, A0_3, n0_3, c0_3, rfl, -⟩ := h0
  go_enter Try.func4, Try.ntmps4
  go_wp2_with fail
  have bx0 : Blk (w.alloc (.cells #[I x0.seg.ts, I x0.seg.beta, .slice A0_2 n0_2 c0_2, .slice A0_3 n0_3 c0_3] 40)) (w.heap.size) 40 [I x0.seg.ts, I x0.seg.beta, .slice A0_2 n0_2 c0_2, .slice A0_3 n0_3 c0_3] := by simpa using Blk.new w 40 [I x0.seg.ts, I x0.seg.beta, .slice A0_2 n0_2 c0_2, .slice A0_3 n0_3 c0_3]
  have BX0 := Lib.hid bx0; clear bx0
  have ew : Ext w (w.alloc (.cells #[I x0.seg.ts, I x0.seg.beta, .slice A0_2 n0_2 c0_2, .slice A0_3 n0_3 c0_3] 40)) := (by repeat (first | (with_reducible exact Ext.refl _) | (with_reducible assumption) | (with_reducible refine Ext.alloc ?_ _) | (with_reducible refine Ext.drew ?_) | (with_reducible refine Ext.out ?_ (by with_reducible assumption) ?ge; case ge => omega) | (with_reducible refine Ext.trans ?_ (by with_reducible assumption))))
  have zw : w.heap.size + 1 ≤ (w.alloc (.cells #[I x0.seg.ts, I x0.seg.beta, .slice A0_2 n0_2 c0_2, .slice A0_3 n0_3 c0_3] 40)).heap.size := by simp only [World.size_alloc]; omega
  generalize (w.alloc (.cells #[I x0.seg.ts, I x0.seg.beta, .slice A0_2 n0_2 c0_2, .slice A0_3 n0_3 c0_3] 40)) = w0 at *
  refine (szSignedSegment _ x0 (1048576) _ (by exact H0.out.ext (by repeat (first | (with_reducible exact Ext.refl _) | (with_reducible assumption) | (with_reducible refine Ext.alloc ?_ _) | (with_reducible refine Ext.drew ?_) | (with_reducible refine Ext.out ?_ (by with_reducible assumption) ?ge; case ge => omega) | (with_reducible refine Ext.trans ?_ (by with_reducible assumption))))) (by omega) (by omega)).mono ?_
  rintro e w_1 ⟨rfl, e_1⟩
  have z_1 := e_1.size
  by_cases hlt0 : 1048576 < ((x0.seg.hops.length + x0.sigs.length : Nat) : Int)
  · rw [szR_neg hlt0]
    go_wp2_with fail
    go_ret
    exact ⟨rfl, (by repeat (first | (with_reducible exact Ext.refl _) | (with_reducible assumption) | (with_reducible refine Ext.alloc ?_ _) | (with_reducible refine Ext.drew ?_) | (with_reducible refine Ext.out ?_ (by with_reducible assumption) ?ge; case ge => omega) | (with_reducible refine Ext.trans ?_ (by with_reducible assumption))))⟩
  rw [szR_pos (by omega)]
  have hb0 : x0.seg.hops.length + x0.sigs.length ≤ 1048576 := by omega
  have bc0 : Blk w_1 (w.heap.size) 40 [I x0.seg.ts, I x0.seg.beta, .slice A0_2 n0_2 c0_2, .slice A0_3 n0_3 c0_3] := (by repeat (first | (with_reducible exact BX0.out) | (with_reducible refine Blk.drew ?_) | (with_reducible refine Blk.ext ?_ (by with_reducible assumption)) | (with_reducible refine Blk.out ?_ (by with_reducible assumption) ?ge; case ge => omega)))
  obtain ⟨q0_0, q0_1, q0_2, q0_3⟩ := blk4 bc0
  clear bc0
  go_wp2_with fail
  clear q0_0 q0_1 q0_2 q0_3
  refine (toSignedSegment (.agg #[I x0.seg.ts, I x0.seg.beta, .slice A0_2 n0_2 c0_2, .slice A0_3 n0_3 c0_3]) x0 _ (by exact H0.out.ext (by repeat (first | (with_reducible exact Ext.refl _) | (with_reducible assumption) | (with_reducible refine Ext.alloc ?_ _) | (with_reducible refine Ext.drew ?_) | (with_reducible refine Ext.out ?_ (by with_reducible assumption) ?ge; case ge => omega) | (with_reducible refine Ext.trans ?_ (by with_reducible assumption))))) (by omega)).mono ?_
  rintro e w_2 ⟨u_2, rfl, o_2, e_2⟩
  have z_2 := e_2.size
  have O_2 := Lib.hid o_2; clear o_2
  obtain ⟨A_2_2, n_2_2, c_2_2, A_2_3, n_2_3, c_2_3, hv_2⟩ := O_2.out.shape
  subst hv_2
  have bc0 : Blk w_2 (w.heap.size) 40 [I x0.seg.ts, I x0.seg.beta, .slice A0_2 n0_2 c0_2, .slice A0_3 n0_3 c0_3] := (by repeat (first | (with_reducible exact BX0.out) | (with_reducible refine Blk.drew ?_) | (with_reducible refine Blk.ext ?_ (by with_reducible assumption)) | (with_reducible refine Blk.out ?_ (by with_reducible assumption) ?ge; case ge => omega)))
  obtain ⟨q0_0, q0_1, q0_2, q0_3⟩ := blk4 bc0
  clear bc0
  go_wp2_with fail
  clear q0_0 q0_1 q0_2 q0_3
  refine (spec_TruncateSigned _ a1 x0 _ (by exact SignedSegmentO_rd (lo := w_1.heap.size) (hi := w_2.heap.size) (by repeat (first | (with_reducible exact O_2.out) | (with_reducible refine SignedSegmentO.drew ?_) | (with_reducible refine SignedSegmentO.ext ?_ (by with_reducible assumption) ?ge; case ge => first | omega | (simp only [World.size_drew]; omega)) | (with_reducible refine SignedSegmentO.out ?_ (by with_reducible assumption) ?ge; case ge => omega))) (by omega)) (by omega)).mono ?_
  rintro e w_3 ⟨u_3, rfl, o_3, e_3⟩
  have z_3 := e_3.size
  have O_3 := Lib.hid o_3; clear o_3
  obtain ⟨A_3_2, n_3_2, c_3_2, A_3_3, n_3_3, c_3_3, hv_3⟩ := O_3.out.shape
  subst hv_3
  have bc0 : Blk w_3 (w.heap.size) 40 [I x0.seg.ts, I x0.seg.beta, .slice A0_2 n0_2 c0_2, .slice A0_3 n0_3 c0_3] := (by repeat (first | (with_reducible exact BX0.out) | (with_reducible refine Blk.drew ?_) | (with_reducible refine Blk.ext ?_ (by with_reducible assumption)) | (with_reducible refine Blk.out ?_ (by with_reducible assumption) ?ge; case ge => omega)))
  have lt0 := bc0.lt
  obtain ⟨q0_0, q0_1, q0_2, q0_3⟩ := blk4 bc0
  clear bc0
  go_wp2_with fail
  clear q0_0 q0_1 q0_2 q0_3 lt0
  have bxLw3 : Blk (w_3.alloc (.cells #[I (truncSigned x0 a1).seg.ts, I (truncSigned x0 a1).seg.beta, .slice A_3_2 n_3_2 c_3_2, .slice A_3_3 n_3_3 c_3_3] 43)) w_3.heap.size 43 [I (truncSigned x0 a1).seg.ts, I (truncSigned x0 a1).seg.beta, .slice A_3_2 n_3_2 c_3_2, .slice A_3_3 n_3_3 c_3_3] := Blk.new _ _ _
  have BXLw3 := Lib.hid bxLw3; clear bxLw3
  have ewLw3 : Ext w_3 (w_3.alloc (.cells #[I (truncSigned x0 a1).seg.ts, I (truncSigned x0 a1).seg.beta, .slice A_3_2 n_3_2 c_3_2, .slice A_3_3 n_3_3 c_3_3] 43)) := (Ext.refl _).alloc _
  have zwLw3 : w_3.heap.size + 1 ≤ (w_3.alloc (.cells #[I (truncSigned x0 a1).seg.ts, I (truncSigned x0 a1).seg.beta, .slice A_3_2 n_3_2 c_3_2, .slice A_3_3 n_3_3 c_3_3] 43)).heap.size := by simp only [World.size_alloc]; omega
  generalize (w_3.alloc (.cells #[I (truncSigned x0 a1).seg.ts, I (truncSigned x0 a1).seg.beta, .slice A_3_2 n_3_2 c_3_2, .slice A_3_3 n_3_3 c_3_3] 43)) = w_3b at *
  refine (toSignedSegment (.agg #[I x0.seg.ts, I x0.seg.beta, .slice A0_2 n0_2 c0_2, .slice A0_3 n0_3 c0_3]) x0 _ (by exact H0.out.ext (by repeat (first | (with_reducible exact Ext.refl _) | (with_reducible assumption) | (with_reducible refine Ext.alloc ?_ _) | (with_reducible refine Ext.drew ?_) | (with_reducible refine Ext.out ?_ (by with_reducible assumption) ?ge; case ge => omega) | (with_reducible refine Ext.trans ?_ (by with_reducible assumption))))) (by omega)).mono ?_
  rintro e w_4 ⟨u_4, rfl, o_4, e_4⟩
  have z_4 := e_4.size
  have O_4 := Lib.hid o_4; clear o_4
  obtain ⟨A_4_2, n_4_2, c_4_2, A_4_3, n_4_3, c_4_3, hv_4⟩ := O_4.out.shape
  subst hv_4
  have bc0 : Blk w_4 (w.heap.size) 40 [I x0.seg.ts, I x0.seg.beta, .slice A0_2 n0_2 c0_2, .slice A0_3 n0_3 c0_3] := (by repeat (first | (with_reducible exact BX0.out) | (with_reducible refine Blk.drew ?_) | (with_reducible refine Blk.ext ?_ (by with_reducible assumption)) | (with_reducible refine Blk.out ?_ (by with_reducible assumption) ?ge; case ge => omega)))
  have lt0 := bc0.lt
  obtain ⟨q0_0, q0_1, q0_2, q0_3⟩ := blk4 bc0
  clear bc0
  have bcLw3 : Blk w_4 (w_3.heap.size) 43 [I (truncSigned x0 a1).seg.ts, I (truncSigned x0 a1).seg.beta, .slice A_3_2 n_3_2 c_3_2, .slice A_3_3 n_3_3 c_3_3] := (by repeat (first | (with_reducible exact BXLw3.out) | (with_reducible refine Blk.drew ?_) | (with_reducible refine Blk.ext ?_ (by with_reducible assumption)) | (with_reducible refine Blk.out ?_ (by with_reducible assumption) ?ge; case ge => omega)))
  have ltLw3 := bcLw3.lt
  obtain ⟨qLw3_0, qLw3_1, qLw3_2, qLw3_3⟩ := blk4 bcLw3
  clear bcLw3
  go_wp2_with fail
  clear q0_0 q0_1 q0_2 q0_3 qLw3_0 qLw3_1 qLw3_2 qLw3_3 lt0 ltLw3
  have bxLw4 : Blk (w_4.alloc (.cells #[I x0.seg.ts, I x0.seg.beta, .slice A_4_2 n_4_2 c_4_2, .slice A_4_3 n_4_3 c_4_3] 43)) w_4.heap.size 43 [I x0.seg.ts, I x0.seg.beta, .slice A_4_2 n_4_2 c_4_2, .slice A_4_3 n_4_3 c_4_3] := Blk.new _ _ _
  have BXLw4 := Lib.hid bxLw4; clear bxLw4
  have ewLw4 : Ext w_4 (w_4.alloc (.cells #[I x0.seg.ts, I x0.seg.beta, .slice A_4_2 n_4_2 c_4_2, .slice A_4_3 n_4_3 c_4_3] 43)) := (Ext.refl _).alloc _
  have zwLw4 : w_4.heap.size + 1 ≤ (w_4.alloc (.cells #[I x0.seg.ts, I x0.seg.beta, .slice A_4_2 n_4_2 c_4_2, .slice A_4_3 n_4_3 c_4_3] 43)).heap.size := by simp only [World.size_alloc]; omega
  generalize (w_4.alloc (.cells #[I x0.seg.ts, I x0.seg.beta, .slice A_4_2 n_4_2 c_4_2, .slice A_4_3 n_4_3 c_4_3] 43)) = w_4b at *
  refine (impl_TruncateSigned _ a1 x0 _ (by exact SignedSegmentO_rd (lo := w_3b.heap.size) (hi := w_4.heap.size) (by repeat (first | (with_reducible exact O_4.out) | (with_reducible refine SignedSegmentO.drew ?_) | (with_reducible refine SignedSegmentO.ext ?_ (by with_reducible assumption) ?ge; case ge => first | omega | (simp only [World.size_drew]; omega)) | (with_reducible refine SignedSegmentO.out ?_ (by with_reducible assumption) ?ge; case ge => omega))) (by omega)) (by omega)).mono ?_
  rintro e w_5 ⟨u_5, rfl, o_5, e_5⟩
  have z_5 := e_5.size
  have O_5 := Lib.hid o_5; clear o_5
  obtain ⟨A_5_2, n_5_2, c_5_2, A_5_3, n_5_3, c_5_3, hv_5⟩ := O_5.out.shape
  subst hv_5
  have bc0 : Blk w_5 (w.heap.size) 40 [I x0.seg.ts, I x0.seg.beta, .slice A0_2 n0_2 c0_2, .slice A0_3 n0_3 c0_3] := (by repeat (first | (with_reducible exact BX0.out) | (with_reducible refine Blk.drew ?_) | (with_reducible refine Blk.ext ?_ (by with_reducible assumption)) | (with_reducible refine Blk.out ?_ (by with_reducible assumption) ?ge; case ge => omega)))
  have lt0 := bc0.lt
  obtain ⟨q0_0, q0_1, q0_2, q0_3⟩ := blk4 bc0
  clear bc0
  have bcLw3 : Blk w_5 (w_3.heap.size) 43 [I (truncSigned x0 a1).seg.ts, I (truncSigned x0 a1).seg.beta, .slice A_3_2 n_3_2 c_3_2, .slice A_3_3 n_3_3 c_3_3] := (by repeat (first | (with_reducible exact BXLw3.out) | (with_reducible refine Blk.drew ?_) | (with_reducible refine Blk.ext ?_ (by with_reducible assumption)) | (with_reducible refine Blk.out ?_ (by with_reducible assumption) ?ge; case ge => omega)))
  have ltLw3 := bcLw3.lt
  obtain ⟨qLw3_0, qLw3_1, qLw3_2, qLw3_3⟩ := blk4 bcLw3
  clear bcLw3
  have bcLw4 : Blk w_5 (w_4.heap.size) 43 [I x0.seg.ts, I x0.seg.beta, .slice A_4_2 n_4_2 c_4_2, .slice A_4_3 n_4_3 c_4_3] := (by repeat (first | (with_reducible exact BXLw4.out) | (with_reducible refine Blk.drew ?_) | (with_reducible refine Blk.ext ?_ (by with_reducible assumption)) | (with_reducible refine Blk.out ?_ (by with_reducible assumption) ?ge; case ge => omega)))
  have ltLw4 := bcLw4.lt
  obtain ⟨qLw4_0, qLw4_1, qLw4_2, qLw4_3⟩ := blk4 bcLw4
  clear bcLw4
  go_wp2_with fail
  clear q0_0 q0_1 q0_2 q0_3 qLw3_0 qLw3_1 qLw3_2 qLw3_3 qLw4_0 qLw4_1 qLw4_2 qLw4_3 lt0 ltLw3 ltLw4
  have bxLw5 : Blk (w_5.alloc (.cells #[I (truncSigned x0 a1).seg.ts, I (truncSigned x0 a1).seg.beta, .slice A_5_2 n_5_2 c_5_2, .slice A_5_3 n_5_3 c_5_3] 43)) w_5.heap.size 43 [I (truncSigned x0 a1).seg.ts, I (truncSigned x0 a1).seg.beta, .slice A_5_2 n_5_2 c_5_2, .slice A_5_3 n_5_3 c_5_3] := Blk.new _ _ _
  have BXLw5 := Lib.hid bxLw5; clear bxLw5
  have ewLw5 : Ext w_5 (w_5.alloc (.cells #[I (truncSigned x0 a1).seg.ts, I (truncSigned x0 a1).seg.beta, .slice A_5_2 n_5_2 c_5_2, .slice A_5_3 n_5_3 c_5_3] 43)) := (Ext.refl _).alloc _
  have zwLw5 : w_5.heap.size + 1 ≤ (w_5.alloc (.cells #[I (truncSigned x0 a1).seg.ts, I (truncSigned x0 a1).seg.beta, .slice A_5_2 n_5_2 c_5_2, .slice A_5_3 n_5_3 c_5_3] 43)).heap.size := by simp only [World.size_alloc]; omega
  generalize (w_5.alloc (.cells #[I (truncSigned x0 a1).seg.ts, I (truncSigned x0 a1).seg.beta, .slice A_5_2 n_5_2 c_5_2, .slice A_5_3 n_5_3 c_5_3] 43)) = w_5b at *
  have S_3 := Lib.hid O_3.out
  refine (eqSignedSegment _ _ (truncSigned x0 a1) (truncSigned x0 a1) _ (by exact SignedSegmentO_rd (lo := w_4b.heap.size) (hi := w_5.heap.size) (by repeat (first | (with_reducible exact O_5.out) | (with_reducible refine SignedSegmentO.drew ?_) | (with_reducible refine SignedSegmentO.ext ?_ (by with_reducible assumption) ?ge; case ge => first | omega | (simp only [World.size_drew]; omega)) | (with_reducible refine SignedSegmentO.out ?_ (by with_reducible assumption) ?ge; case ge => omega))) (by omega)) (by exact S_3.out.ext (by repeat (first | (with_reducible exact Ext.refl _) | (with_reducible assumption) | (with_reducible refine Ext.alloc ?_ _) | (with_reducible refine Ext.drew ?_) | (with_reducible refine Ext.out ?_ (by with_reducible assumption) ?ge; case ge => omega) | (with_reducible refine Ext.trans ?_ (by with_reducible assumption)))))).mono ?_
  rintro e w_6 ⟨rfl, e_6⟩
  have z_6 := e_6.size
  try rw [decide_eq_true rfl]
  have bc0 : Blk w_6 (w.heap.size) 40 [I x0.seg.ts, I x0.seg.beta, .slice A0_2 n0_2 c0_2, .slice A0_3 n0_3 c0_3] := (by repeat (first | (with_reducible exact BX0.out) | (with_reducible refine Blk.drew ?_) | (with_reducible refine Blk.ext ?_ (by with_reducible assumption)) | (with_reducible refine Blk.out ?_ (by with_reducible assumption) ?ge; case ge => omega)))
  obtain ⟨q0_0, q0_1, q0_2, q0_3⟩ := blk4 bc0
  clear bc0
  have bcLw3 : Blk w_6 (w_3.heap.size) 43 [I (truncSigned x0 a1).seg.ts, I (truncSigned x0 a1).seg.beta, .slice A_3_2 n_3_2 c_3_2, .slice A_3_3 n_3_3 c_3_3] := (by repeat (first | (with_reducible exact BXLw3.out) | (with_reducible refine Blk.drew ?_) | (with_reducible refine Blk.ext ?_ (by with_reducible assumption)) | (with_reducible refine Blk.out ?_ (by with_reducible assumption) ?ge; case ge => omega)))
  obtain ⟨qLw3_0, qLw3_1, qLw3_2, qLw3_3⟩ := blk4 bcLw3
  clear bcLw3
  have bcLw4 : Blk w_6 (w_4.heap.size) 43 [I x0.seg.ts, I x0.seg.beta, .slice A_4_2 n_4_2 c_4_2, .slice A_4_3 n_4_3 c_4_3] := (by repeat (first | (with_reducible exact BXLw4.out) | (with_reducible refine Blk.drew ?_) | (with_reducible refine Blk.ext ?_ (by with_reducible assumption)) | (with_reducible refine Blk.out ?_ (by with_reducible assumption) ?ge; case ge => omega)))
  obtain ⟨qLw4_0, qLw4_1, qLw4_2, qLw4_3⟩ := blk4 bcLw4
  clear bcLw4
  have bcLw5 : Blk w_6 (w_5.heap.size) 43 [I (truncSigned x0 a1).seg.ts, I (truncSigned x0 a1).seg.beta, .slice A_5_2 n_5_2 c_5_2, .slice A_5_3 n_5_3 c_5_3] := (by repeat (first | (with_reducible exact BXLw5.out) | (with_reducible refine Blk.drew ?_) | (with_reducible refine Blk.ext ?_ (by with_reducible assumption)) | (with_reducible refine Blk.out ?_ (by with_reducible assumption) ?ge; case ge => omega)))
  obtain ⟨qLw5_0, qLw5_1, qLw5_2, qLw5_3⟩ := blk4 bcLw5
  clear bcLw5
  go_wp2_with fail
  clear q0_0 q0_1 q0_2 q0_3 qLw3_0 qLw3_1 qLw3_2 qLw3_3 qLw4_0 qLw4_1 qLw4_2 qLw4_3 qLw5_0 qLw5_1 qLw5_2 qLw5_3
  have bc0 : Blk w_6 (w.heap.size) 40 [I x0.seg.ts, I x0.seg.beta, .slice A0_2 n0_2 c0_2, .slice A0_3 n0_3 c0_3] := (by repeat (first | (with_reducible exact BX0.out) | (with_reducible refine Blk.drew ?_) | (with_reducible refine Blk.ext ?_ (by with_reducible assumption)) | (with_reducible refine Blk.out ?_ (by with_reducible assumption) ?ge; case ge => omega)))
  have lt0 := bc0.lt
  obtain ⟨q0_0, q0_1, q0_2, q0_3⟩ := blk4 bc0
  clear bc0
  have bcLw3 : Blk w_6 (w_3.heap.size) 43 [I (truncSigned x0 a1).seg.ts, I (truncSigned x0 a1).seg.beta, .slice A_3_2 n_3_2 c_3_2, .slice A_3_3 n_3_3 c_3_3] := (by repeat (first | (with_reducible exact BXLw3.out) | (with_reducible refine Blk.drew ?_) | (with_reducible refine Blk.ext ?_ (by with_reducible assumption)) | (with_reducible refine Blk.out ?_ (by with_reducible assumption) ?ge; case ge => omega)))
  have ltLw3 := bcLw3.lt
  obtain ⟨qLw3_0, qLw3_1, qLw3_2, qLw3_3⟩ := blk4 bcLw3
  clear bcLw3
  have bcLw4 : Blk w_6 (w_4.heap.size) 43 [I x0.seg.ts, I x0.seg.beta, .slice A_4_2 n_4_2 c_4_2, .slice A_4_3 n_4_3 c_4_3] := (by repeat (first | (with_reducible exact BXLw4.out) | (with_reducible refine Blk.drew ?_) | (with_reducible refine Blk.ext ?_ (by with_reducible assumption)) | (with_reducible refine Blk.out ?_ (by with_reducible assumption) ?ge; case ge => omega)))
  have ltLw4 := bcLw4.lt
  obtain ⟨qLw4_0, qLw4_1, qLw4_2, qLw4_3⟩ := blk4 bcLw4
  clear bcLw4
  have bcLw5 : Blk w_6 (w_5.heap.size) 43 [I (truncSigned x0 a1).seg.ts, I (truncSigned x0 a1).seg.beta, .slice A_5_2 n_5_2 c_5_2, .slice A_5_3 n_5_3 c_5_3] := (by repeat (first | (with_reducible exact BXLw5.out) | (with_reducible refine Blk.drew ?_) | (with_reducible refine Blk.ext ?_ (by with_reducible assumption)) | (with_reducible refine Blk.out ?_ (by with_reducible assumption) ?ge; case ge => omega)))
  have ltLw5 := bcLw5.lt
  obtain ⟨qLw5_0, qLw5_1, qLw5_2, qLw5_3⟩ := blk4 bcLw5
  clear bcLw5
  go_region_held3 (fun W => w_6.heap.size ≤ W.heap.size ∧ ∀ b o, b < w_6.heap.size → W.cell? ⟨b, o, none⟩ = w_6.cell? ⟨b, o, none⟩)
    (first | exact ⟨Nat.le_refl _, fun _ _ _ => rfl⟩ | exact keepC (by assumption) e_8 | exact keepC (by assumption) e_7)
    (first | (go_at_call 22; (with_reducible refine Calls.mono (toSignedSegment (.agg #[I x0.seg.ts, I x0.seg.beta, .slice A0_2 n0_2 c0_2, .slice A0_3 n0_3 c0_3]) x0 _ ?s0 ?s1) ?_); (case s0 => exact H0.out.ext (by repeat (first | (with_reducible exact Ext.refl _) | (with_reducible assumption) | (with_reducible refine Ext.alloc ?_ _) | (with_reducible refine Ext.drew ?_) | (with_reducible refine Ext.out ?_ (by with_reducible assumption) ?ge; case ge => omega) | (with_reducible refine Ext.trans ?_ (by with_reducible assumption))))); (case s1 => omega); rintro e w_7 ⟨u_7, rfl, o_7, e_7⟩; have z_7 : w_6.heap.size ≤ w_7.heap.size := e_7.size; have o_7 : SignedSegmentO w_6.heap.size w_7.heap.size w_7 _ _ := o_7) | (go_at_call 24; (with_reducible refine Calls.mono (eqSignedSegment _ _ x0 x0 _ ?s0 ?s1) ?_); (case s0 => exact SignedSegmentO_rd (lo := w_3b.heap.size) (hi := w_4.heap.size) (by repeat (first | (with_reducible exact O_4.out) | (with_reducible refine SignedSegmentO.drew ?_) | (with_reducible refine SignedSegmentO.ext ?_ (by with_reducible assumption) ?ge; case ge => first | omega | (simp only [World.size_drew]; omega)) | (with_reducible refine SignedSegmentO.out ?_ (by with_reducible assumption) ?ge; case ge => omega))) (by omega)); (case s1 => exact SignedSegmentO_rd (lo := w_6.heap.size) (hi := w_7.heap.size) (by repeat (first | (with_reducible exact o_7) | (with_reducible refine SignedSegmentO.drew ?_) | (with_reducible refine SignedSegmentO.ext ?_ (by with_reducible assumption) ?ge; case ge => first | omega | (simp only [World.size_drew]; omega)) | (with_reducible refine SignedSegmentO.out ?_ (by with_reducible assumption) ?ge; case ge => omega))) (by omega)); rintro e w_8 ⟨rfl, e_8⟩; have z_8 := e_8.size))
  clear q0_0 q0_1 q0_2 q0_3 qLw3_0 qLw3_1 qLw3_2 qLw3_3 qLw4_0 qLw4_1 qLw4_2 qLw4_3 qLw5_0 qLw5_1 qLw5_2 qLw5_3 lt0 ltLw3 ltLw4 ltLw5
  have O_7 := Lib.hid o_7; clear o_7
  obtain ⟨A_7_2, n_7_2, c_7_2, A_7_3, n_7_3, c_7_3, hv_7⟩ := O_7.out.shape
  subst hv_7
  try rw [decide_eq_true rfl]
  have bc0 : Blk w_8 (w.heap.size) 40 [I x0.seg.ts, I x0.seg.beta, .slice A0_2 n0_2 c0_2, .slice A0_3 n0_3 c0_3] := (by repeat (first | (with_reducible exact BX0.out) | (with_reducible refine Blk.drew ?_) | (with_reducible refine Blk.ext ?_ (by with_reducible assumption)) | (with_reducible refine Blk.out ?_ (by with_reducible assumption) ?ge; case ge => omega)))
  obtain ⟨q0_0, q0_1, q0_2, q0_3⟩ := blk4 bc0
  clear bc0
  have bcLw3 : Blk w_8 (w_3.heap.size) 43 [I (truncSigned x0 a1).seg.ts, I (truncSigned x0 a1).seg.beta, .slice A_3_2 n_3_2 c_3_2, .slice A_3_3 n_3_3 c_3_3] := (by repeat (first | (with_reducible exact BXLw3.out) | (with_reducible refine Blk.drew ?_) | (with_reducible refine Blk.ext ?_ (by with_reducible assumption)) | (with_reducible refine Blk.out ?_ (by with_reducible assumption) ?ge; case ge => omega)))
  obtain ⟨qLw3_0, qLw3_1, qLw3_2, qLw3_3⟩ := blk4 bcLw3
  clear bcLw3
  have bcLw4 : Blk w_8 (w_4.heap.size) 43 [I x0.seg.ts, I x0.seg.beta, .slice A_4_2 n_4_2 c_4_2, .slice A_4_3 n_4_3 c_4_3] := (by repeat (first | (with_reducible exact BXLw4.out) | (with_reducible refine Blk.drew ?_) | (with_reducible refine Blk.ext ?_ (by with_reducible assumption)) | (with_reducible refine Blk.out ?_ (by with_reducible assumption) ?ge; case ge => omega)))
  obtain ⟨qLw4_0, qLw4_1, qLw4_2, qLw4_3⟩ := blk4 bcLw4
  clear bcLw4
  have bcLw5 : Blk w_8 (w_5.heap.size) 43 [I (truncSigned x0 a1).seg.ts, I (truncSigned x0 a1).seg.beta, .slice A_5_2 n_5_2 c_5_2, .slice A_5_3 n_5_3 c_5_3] := (by repeat (first | (with_reducible exact BXLw5.out) | (with_reducible refine Blk.drew ?_) | (with_reducible refine Blk.ext ?_ (by with_reducible assumption)) | (with_reducible refine Blk.out ?_ (by with_reducible assumption) ?ge; case ge => omega)))
  obtain ⟨qLw5_0, qLw5_1, qLw5_2, qLw5_3⟩ := blk4 bcLw5
  clear bcLw5
  go_wp2_with fail
  clear q0_0 q0_1 q0_2 q0_3 qLw3_0 qLw3_1 qLw3_2 qLw3_3 qLw4_0 qLw4_1 qLw4_2 qLw4_3 qLw5_0 qLw5_1 qLw5_2 qLw5_3
  have hres : ((0 + 5 * (truncSigned x0 a1).seg.hops.length) + (truncSigned x0 a1).sigs.length) ≤ 100000000000 := by have h := truncSigned_len x0 a1; omega
  refine (markSignedSegment _ (x0) 1 w_3b.heap.size w_4.heap.size _ (by exact (by repeat (first | (with_reducible exact O_4.out) | (with_reducible refine SignedSegmentO.drew ?_) | (with_reducible refine SignedSegmentO.ext ?_ (by with_reducible assumption) ?ge; case ge => first | omega | (simp only [World.size_drew]; omega)) | (with_reducible refine SignedSegmentO.out ?_ (by with_reducible assumption) ?ge; case ge => omega)))) (by omega) (by omega)).mono ?_
  rintro e w_9 ⟨rfl, o_9, e_9⟩
  have z_9 := e_9.size
  have O_9 := Lib.hid o_9; clear o_9
  have bc0 : Blk w_9 (w.heap.size) 40 [I x0.seg.ts, I x0.seg.beta, .slice A0_2 n0_2 c0_2, .slice A0_3 n0_3 c0_3] := (by repeat (first | (with_reducible exact BX0.out) | (with_reducible refine Blk.drew ?_) | (with_reducible refine Blk.ext ?_ (by with_reducible assumption)) | (with_reducible refine Blk.out ?_ (by with_reducible assumption) ?ge; case ge => omega)))
  obtain ⟨q0_0, q0_1, q0_2, q0_3⟩ := blk4 bc0
  clear bc0
  have bcLw3 : Blk w_9 (w_3.heap.size) 43 [I (truncSigned x0 a1).seg.ts, I (truncSigned x0 a1).seg.beta, .slice A_3_2 n_3_2 c_3_2, .slice A_3_3 n_3_3 c_3_3] := (by repeat (first | (with_reducible exact BXLw3.out) | (with_reducible refine Blk.drew ?_) | (with_reducible refine Blk.ext ?_ (by with_reducible assumption)) | (with_reducible refine Blk.out ?_ (by with_reducible assumption) ?ge; case ge => omega)))
  obtain ⟨qLw3_0, qLw3_1, qLw3_2, qLw3_3⟩ := blk4 bcLw3
  clear bcLw3
  have bcLw4 : Blk w_9 (w_4.heap.size) 43 [I x0.seg.ts, I x0.seg.beta, .slice A_4_2 n_4_2 c_4_2, .slice A_4_3 n_4_3 c_4_3] := (by repeat (first | (with_reducible exact BXLw4.out) | (with_reducible refine Blk.drew ?_) | (with_reducible refine Blk.ext ?_ (by with_reducible assumption)) | (with_reducible refine Blk.out ?_ (by with_reducible assumption) ?ge; case ge => omega)))
  obtain ⟨qLw4_0, qLw4_1, qLw4_2, qLw4_3⟩ := blk4 bcLw4
  clear bcLw4
  have bcLw5 : Blk w_9 (w_5.heap.size) 43 [I (truncSigned x0 a1).seg.ts, I (truncSigned x0 a1).seg.beta, .slice A_5_2 n_5_2 c_5_2, .slice A_5_3 n_5_3 c_5_3] := (by repeat (first | (with_reducible exact BXLw5.out) | (with_reducible refine Blk.drew ?_) | (with_reducible refine Blk.ext ?_ (by with_reducible assumption)) | (with_reducible refine Blk.out ?_ (by with_reducible assumption) ?ge; case ge => omega)))
  obtain ⟨qLw5_0, qLw5_1, qLw5_2, qLw5_3⟩ := blk4 bcLw5
  clear bcLw5
  go_wp2_with fail
  clear q0_0 q0_1 q0_2 q0_3 qLw3_0 qLw3_1 qLw3_2 qLw3_3 qLw4_0 qLw4_1 qLw4_2 qLw4_3 qLw5_0 qLw5_1 qLw5_2 qLw5_3
  refine (eqSignedSegment _ _ (truncSigned x0 a1) (truncSigned x0 a1) _ (by exact SignedSegmentO_rd (lo := w_4b.heap.size) (hi := w_5.heap.size) (by repeat (first | (with_reducible exact O_5.out) | (with_reducible refine SignedSegmentO.drew ?_) | (with_reducible refine SignedSegmentO.ext ?_ (by with_reducible assumption) ?ge; case ge => first | omega | (simp only [World.size_drew]; omega)) | (with_reducible refine SignedSegmentO.out ?_ (by with_reducible assumption) ?ge; case ge => omega))) (by omega)) (by exact S_3.out.ext (by repeat (first | (with_reducible exact Ext.refl _) | (with_reducible assumption) | (with_reducible refine Ext.alloc ?_ _) | (with_reducible refine Ext.drew ?_) | (with_reducible refine Ext.out ?_ (by with_reducible assumption) ?ge; case ge => omega) | (with_reducible refine Ext.trans ?_ (by with_reducible assumption)))))).mono ?_
  rintro e w_10 ⟨rfl, e_10⟩
  have z_10 := e_10.size
  try rw [decide_eq_true rfl]
  have bc0 : Blk w_10 (w.heap.size) 40 [I x0.seg.ts, I x0.seg.beta, .slice A0_2 n0_2 c0_2, .slice A0_3 n0_3 c0_3] := (by repeat (first | (with_reducible exact BX0.out) | (with_reducible refine Blk.drew ?_) | (with_reducible refine Blk.ext ?_ (by with_reducible assumption)) | (with_reducible refine Blk.out ?_ (by with_reducible assumption) ?ge; case ge => omega)))
  obtain ⟨q0_0, q0_1, q0_2, q0_3⟩ := blk4 bc0
  clear bc0
  have bcLw3 : Blk w_10 (w_3.heap.size) 43 [I (truncSigned x0 a1).seg.ts, I (truncSigned x0 a1).seg.beta, .slice A_3_2 n_3_2 c_3_2, .slice A_3_3 n_3_3 c_3_3] := (by repeat (first | (with_reducible exact BXLw3.out) | (with_reducible refine Blk.drew ?_) | (with_reducible refine Blk.ext ?_ (by with_reducible assumption)) | (with_reducible refine Blk.out ?_ (by with_reducible assumption) ?ge; case ge => omega)))
  obtain ⟨qLw3_0, qLw3_1, qLw3_2, qLw3_3⟩ := blk4 bcLw3
  clear bcLw3
  have bcLw4 : Blk w_10 (w_4.heap.size) 43 [I x0.seg.ts, I x0.seg.beta, .slice A_4_2 n_4_2 c_4_2, .slice A_4_3 n_4_3 c_4_3] := (by repeat (first | (with_reducible exact BXLw4.out) | (with_reducible refine Blk.drew ?_) | (with_reducible refine Blk.ext ?_ (by with_reducible assumption)) | (with_reducible refine Blk.out ?_ (by with_reducible assumption) ?ge; case ge => omega)))
  obtain ⟨qLw4_0, qLw4_1, qLw4_2, qLw4_3⟩ := blk4 bcLw4
  clear bcLw4
  have bcLw5 : Blk w_10 (w_5.heap.size) 43 [I (truncSigned x0 a1).seg.ts, I (truncSigned x0 a1).seg.beta, .slice A_5_2 n_5_2 c_5_2, .slice A_5_3 n_5_3 c_5_3] := (by repeat (first | (with_reducible exact BXLw5.out) | (with_reducible refine Blk.drew ?_) | (with_reducible refine Blk.ext ?_ (by with_reducible assumption)) | (with_reducible refine Blk.out ?_ (by with_reducible assumption) ?ge; case ge => omega)))
  obtain ⟨qLw5_0, qLw5_1, qLw5_2, qLw5_3⟩ := blk4 bcLw5
  clear bcLw5
  go_wp2_with fail
  clear q0_0 q0_1 q0_2 q0_3 qLw3_0 qLw3_1 qLw3_2 qLw3_3 qLw4_0 qLw4_1 qLw4_2 qLw4_3 qLw5_0 qLw5_1 qLw5_2 qLw5_3
  refine (markSignedSegment _ (truncSigned x0 a1) 1 w_4b.heap.size w_5.heap.size _ (by exact (by repeat (first | (with_reducible exact O_5.out) | (with_reducible refine SignedSegmentO.drew ?_) | (with_reducible refine SignedSegmentO.ext ?_ (by with_reducible assumption) ?ge; case ge => first | omega | (simp only [World.size_drew]; omega)) | (with_reducible refine SignedSegmentO.out ?_ (by with_reducible assumption) ?ge; case ge => omega)))) (by omega) (by omega)).mono ?_
  rintro e w_11 ⟨rfl, o_11, e_11⟩
  have z_11 := e_11.size
  have O_11 := Lib.hid o_11; clear o_11
  have bc0 : Blk w_11 (w.heap.size) 40 [I x0.seg.ts, I x0.seg.beta, .slice A0_2 n0_2 c0_2, .slice A0_3 n0_3 c0_3] := (by repeat (first | (with_reducible exact BX0.out) | (with_reducible refine Blk.drew ?_) | (with_reducible refine Blk.ext ?_ (by with_reducible assumption)) | (with_reducible refine Blk.out ?_ (by with_reducible assumption) ?ge; case ge => omega)))
  obtain ⟨q0_0, q0_1, q0_2, q0_3⟩ := blk4 bc0
  clear bc0
  have bcLw3 : Blk w_11 (w_3.heap.size) 43 [I (truncSigned x0 a1).seg.ts, I (truncSigned x0 a1).seg.beta, .slice A_3_2 n_3_2 c_3_2, .slice A_3_3 n_3_3 c_3_3] := (by repeat (first | (with_reducible exact BXLw3.out) | (with_reducible refine Blk.drew ?_) | (with_reducible refine Blk.ext ?_ (by with_reducible assumption)) | (with_reducible refine Blk.out ?_ (by with_reducible assumption) ?ge; case ge => omega)))
  obtain ⟨qLw3_0, qLw3_1, qLw3_2, qLw3_3⟩ := blk4 bcLw3
  clear bcLw3
  have bcLw4 : Blk w_11 (w_4.heap.size) 43 [I x0.seg.ts, I x0.seg.beta, .slice A_4_2 n_4_2 c_4_2, .slice A_4_3 n_4_3 c_4_3] := (by repeat (first | (with_reducible exact BXLw4.out) | (with_reducible refine Blk.drew ?_) | (with_reducible refine Blk.ext ?_ (by with_reducible assumption)) | (with_reducible refine Blk.out ?_ (by with_reducible assumption) ?ge; case ge => omega)))
  obtain ⟨qLw4_0, qLw4_1, qLw4_2, qLw4_3⟩ := blk4 bcLw4
  clear bcLw4
  have bcLw5 : Blk w_11 (w_5.heap.size) 43 [I (truncSigned x0 a1).seg.ts, I (truncSigned x0 a1).seg.beta, .slice A_5_2 n_5_2 c_5_2, .slice A_5_3 n_5_3 c_5_3] := (by repeat (first | (with_reducible exact BXLw5.out) | (with_reducible refine Blk.drew ?_) | (with_reducible refine Blk.ext ?_ (by with_reducible assumption)) | (with_reducible refine Blk.out ?_ (by with_reducible assumption) ?ge; case ge => omega)))
  obtain ⟨qLw5_0, qLw5_1, qLw5_2, qLw5_3⟩ := blk4 bcLw5
  clear bcLw5
  go_wp2_with fail
  clear q0_0 q0_1 q0_2 q0_3 qLw3_0 qLw3_1 qLw3_2 qLw3_3 qLw4_0 qLw4_1 qLw4_2 qLw4_3 qLw5_0 qLw5_1 qLw5_2 qLw5_3
  refine (heldSignedSegment _ (truncSigned x0 a1) 1 _ (by exact SignedSegmentO_rd (lo := w_4b.heap.size) (hi := w_5.heap.size) (by repeat (first | (with_reducible exact O_11.out) | (with_reducible refine SignedSegmentO.drew ?_) | (with_reducible refine SignedSegmentO.ext ?_ (by with_reducible assumption) ?ge; case ge => first | omega | (simp only [World.size_drew]; omega)) | (with_reducible refine SignedSegmentO.out ?_ (by with_reducible assumption) ?ge; case ge => omega))) (by omega)) (by omega)).mono ?_
  rintro e w_12 ⟨rfl, e_12⟩
  have z_12 := e_12.size
  have bc0 : Blk w_12 (w.heap.size) 40 [I x0.seg.ts, I x0.seg.beta, .slice A0_2 n0_2 c0_2, .slice A0_3 n0_3 c0_3] := (by repeat (first | (with_reducible exact BX0.out) | (with_reducible refine Blk.drew ?_) | (with_reducible refine Blk.ext ?_ (by with_reducible assumption)) | (with_reducible refine Blk.out ?_ (by with_reducible assumption) ?ge; case ge => omega)))
  obtain ⟨q0_0, q0_1, q0_2, q0_3⟩ := blk4 bc0
  clear bc0
  have bcLw3 : Blk w_12 (w_3.heap.size) 43 [I (truncSigned x0 a1).seg.ts, I (truncSigned x0 a1).seg.beta, .slice A_3_2 n_3_2 c_3_2, .slice A_3_3 n_3_3 c_3_3] := (by repeat (first | (with_reducible exact BXLw3.out) | (with_reducible refine Blk.drew ?_) | (with_reducible refine Blk.ext ?_ (by with_reducible assumption)) | (with_reducible refine Blk.out ?_ (by with_reducible assumption) ?ge; case ge => omega)))
  obtain ⟨qLw3_0, qLw3_1, qLw3_2, qLw3_3⟩ := blk4 bcLw3
  clear bcLw3
  have bcLw4 : Blk w_12 (w_4.heap.size) 43 [I x0.seg.ts, I x0.seg.beta, .slice A_4_2 n_4_2 c_4_2, .slice A_4_3 n_4_3 c_4_3] := (by repeat (first | (with_reducible exact BXLw4.out) | (with_reducible refine Blk.drew ?_) | (with_reducible refine Blk.ext ?_ (by with_reducible assumption)) | (with_reducible refine Blk.out ?_ (by with_reducible assumption) ?ge; case ge => omega)))
  obtain ⟨qLw4_0, qLw4_1, qLw4_2, qLw4_3⟩ := blk4 bcLw4
  clear bcLw4
  have bcLw5 : Blk w_12 (w_5.heap.size) 43 [I (truncSigned x0 a1).seg.ts, I (truncSigned x0 a1).seg.beta, .slice A_5_2 n_5_2 c_5_2, .slice A_5_3 n_5_3 c_5_3] := (by repeat (first | (with_reducible exact BXLw5.out) | (with_reducible refine Blk.drew ?_) | (with_reducible refine Blk.ext ?_ (by with_reducible assumption)) | (with_reducible refine Blk.out ?_ (by with_reducible assumption) ?ge; case ge => omega)))
  obtain ⟨qLw5_0, qLw5_1, qLw5_2, qLw5_3⟩ := blk4 bcLw5
  clear bcLw5
  go_wp2_with fail
  clear q0_0 q0_1 q0_2 q0_3 qLw3_0 qLw3_1 qLw3_2 qLw3_3 qLw4_0 qLw4_1 qLw4_2 qLw4_3 qLw5_0 qLw5_1 qLw5_2 qLw5_3
  refine (toSignedSegment (.agg #[I x0.seg.ts, I x0.seg.beta, .slice A0_2 n0_2 c0_2, .slice A0_3 n0_3 c0_3]) x0 _ (by exact H0.out.ext (by repeat (first | (with_reducible exact Ext.refl _) | (with_reducible assumption) | (with_reducible refine Ext.alloc ?_ _) | (with_reducible refine Ext.drew ?_) | (with_reducible refine Ext.out ?_ (by with_reducible assumption) ?ge; case ge => omega) | (with_reducible refine Ext.trans ?_ (by with_reducible assumption))))) (by omega)).mono ?_
  rintro e w_13 ⟨u_13, rfl, o_13, e_13⟩
  have z_13 := e_13.size
  have O_13 := Lib.hid o_13; clear o_13
  obtain ⟨A_13_2, n_13_2, c_13_2, A_13_3, n_13_3, c_13_3, hv_13⟩ := O_13.out.shape
  subst hv_13
  have bc0 : Blk w_13 (w.heap.size) 40 [I x0.seg.ts, I x0.seg.beta, .slice A0_2 n0_2 c0_2, .slice A0_3 n0_3 c0_3] := (by repeat (first | (with_reducible exact BX0.out) | (with_reducible refine Blk.drew ?_) | (with_reducible refine Blk.ext ?_ (by with_reducible assumption)) | (with_reducible refine Blk.out ?_ (by with_reducible assumption) ?ge; case ge => omega)))
  obtain ⟨q0_0, q0_1, q0_2, q0_3⟩ := blk4 bc0
  clear bc0
  have bcLw3 : Blk w_13 (w_3.heap.size) 43 [I (truncSigned x0 a1).seg.ts, I (truncSigned x0 a1).seg.beta, .slice A_3_2 n_3_2 c_3_2, .slice A_3_3 n_3_3 c_3_3] := (by repeat (first | (with_reducible exact BXLw3.out) | (with_reducible refine Blk.drew ?_) | (with_reducible refine Blk.ext ?_ (by with_reducible assumption)) | (with_reducible refine Blk.out ?_ (by with_reducible assumption) ?ge; case ge => omega)))
  obtain ⟨qLw3_0, qLw3_1, qLw3_2, qLw3_3⟩ := blk4 bcLw3
  clear bcLw3
  have bcLw4 : Blk w_13 (w_4.heap.size) 43 [I x0.seg.ts, I x0.seg.beta, .slice A_4_2 n_4_2 c_4_2, .slice A_4_3 n_4_3 c_4_3] := (by repeat (first | (with_reducible exact BXLw4.out) | (with_reducible refine Blk.drew ?_) | (with_reducible refine Blk.ext ?_ (by with_reducible assumption)) | (with_reducible refine Blk.out ?_ (by with_reducible assumption) ?ge; case ge => omega)))
  obtain ⟨qLw4_0, qLw4_1, qLw4_2, qLw4_3⟩ := blk4 bcLw4
  clear bcLw4
  have bcLw5 : Blk w_13 (w_5.heap.size) 43 [I (truncSigned x0 a1).seg.ts, I (truncSigned x0 a1).seg.beta, .slice A_5_2 n_5_2 c_5_2, .slice A_5_3 n_5_3 c_5_3] := (by repeat (first | (with_reducible exact BXLw5.out) | (with_reducible refine Blk.drew ?_) | (with_reducible refine Blk.ext ?_ (by with_reducible assumption)) | (with_reducible refine Blk.out ?_ (by with_reducible assumption) ?ge; case ge => omega)))
  obtain ⟨qLw5_0, qLw5_1, qLw5_2, qLw5_3⟩ := blk4 bcLw5
  clear bcLw5
  go_wp2_with fail
  clear q0_0 q0_1 q0_2 q0_3 qLw3_0 qLw3_1 qLw3_2 qLw3_3 qLw4_0 qLw4_1 qLw4_2 qLw4_3 qLw5_0 qLw5_1 qLw5_2 qLw5_3
  refine (impl_TruncateSigned _ a1 x0 _ (by exact SignedSegmentO_rd (lo := w_12.heap.size) (hi := w_13.heap.size) (by repeat (first | (with_reducible exact O_13.out) | (with_reducible refine SignedSegmentO.drew ?_) | (with_reducible refine SignedSegmentO.ext ?_ (by with_reducible assumption) ?ge; case ge => first | omega | (simp only [World.size_drew]; omega)) | (with_reducible refine SignedSegmentO.out ?_ (by with_reducible assumption) ?ge; case ge => omega))) (by omega)) (by omega)).mono ?_
  rintro e w_14 ⟨u_14, rfl, o_14, e_14⟩
  have z_14 := e_14.size
  have O_14 := Lib.hid o_14; clear o_14
  obtain ⟨A_14_2, n_14_2, c_14_2, A_14_3, n_14_3, c_14_3, hv_14⟩ := O_14.out.shape
  subst hv_14
  have bc0 : Blk w_14 (w.heap.size) 40 [I x0.seg.ts, I x0.seg.beta, .slice A0_2 n0_2 c0_2, .slice A0_3 n0_3 c0_3] := (by repeat (first | (with_reducible exact BX0.out) | (with_reducible refine Blk.drew ?_) | (with_reducible refine Blk.ext ?_ (by with_reducible assumption)) | (with_reducible refine Blk.out ?_ (by with_reducible assumption) ?ge; case ge => omega)))
  have lt0 := bc0.lt
  obtain ⟨q0_0, q0_1, q0_2, q0_3⟩ := blk4 bc0
  clear bc0
  have bcLw3 : Blk w_14 (w_3.heap.size) 43 [I (truncSigned x0 a1).seg.ts, I (truncSigned x0 a1).seg.beta, .slice A_3_2 n_3_2 c_3_2, .slice A_3_3 n_3_3 c_3_3] := (by repeat (first | (with_reducible exact BXLw3.out) | (with_reducible refine Blk.drew ?_) | (with_reducible refine Blk.ext ?_ (by with_reducible assumption)) | (with_reducible refine Blk.out ?_ (by with_reducible assumption) ?ge; case ge => omega)))
  have ltLw3 := bcLw3.lt
  obtain ⟨qLw3_0, qLw3_1, qLw3_2, qLw3_3⟩ := blk4 bcLw3
  clear bcLw3
  have bcLw4 : Blk w_14 (w_4.heap.size) 43 [I x0.seg.ts, I x0.seg.beta, .slice A_4_2 n_4_2 c_4_2, .slice A_4_3 n_4_3 c_4_3] := (by repeat (first | (with_reducible exact BXLw4.out) | (with_reducible refine Blk.drew ?_) | (with_reducible refine Blk.ext ?_ (by with_reducible assumption)) | (with_reducible refine Blk.out ?_ (by with_reducible assumption) ?ge; case ge => omega)))
  have ltLw4 := bcLw4.lt
  obtain ⟨qLw4_0, qLw4_1, qLw4_2, qLw4_3⟩ := blk4 bcLw4
  clear bcLw4
  have bcLw5 : Blk w_14 (w_5.heap.size) 43 [I (truncSigned x0 a1).seg.ts, I (truncSigned x0 a1).seg.beta, .slice A_5_2 n_5_2 c_5_2, .slice A_5_3 n_5_3 c_5_3] := (by repeat (first | (with_reducible exact BXLw5.out) | (with_reducible refine Blk.drew ?_) | (with_reducible refine Blk.ext ?_ (by with_reducible assumption)) | (with_reducible refine Blk.out ?_ (by with_reducible assumption) ?ge; case ge => omega)))
  have ltLw5 := bcLw5.lt
  obtain ⟨qLw5_0, qLw5_1, qLw5_2, qLw5_3⟩ := blk4 bcLw5
  clear bcLw5
  go_wp2_with fail
  clear q0_0 q0_1 q0_2 q0_3 qLw3_0 qLw3_1 qLw3_2 qLw3_3 qLw4_0 qLw4_1 qLw4_2 qLw4_3 qLw5_0 qLw5_1 qLw5_2 qLw5_3 lt0 ltLw3 ltLw4 ltLw5
  have bxLw14 : Blk (w_14.alloc (.cells #[I (truncSigned x0 a1).seg.ts, I (truncSigned x0 a1).seg.beta, .slice A_14_2 n_14_2 c_14_2, .slice A_14_3 n_14_3 c_14_3] 43)) w_14.heap.size 43 [I (truncSigned x0 a1).seg.ts, I (truncSigned x0 a1).seg.beta, .slice A_14_2 n_14_2 c_14_2, .slice A_14_3 n_14_3 c_14_3] := Blk.new _ _ _
  have BXLw14 := Lib.hid bxLw14; clear bxLw14
  have ewLw14 : Ext w_14 (w_14.alloc (.cells #[I (truncSigned x0 a1).seg.ts, I (truncSigned x0 a1).seg.beta, .slice A_14_2 n_14_2 c_14_2, .slice A_14_3 n_14_3 c_14_3] 43)) := (Ext.refl _).alloc _
  have zwLw14 : w_14.heap.size + 1 ≤ (w_14.alloc (.cells #[I (truncSigned x0 a1).seg.ts, I (truncSigned x0 a1).seg.beta, .slice A_14_2 n_14_2 c_14_2, .slice A_14_3 n_14_3 c_14_3] 43)).heap.size := by simp only [World.size_alloc]; omega
  generalize (w_14.alloc (.cells #[I (truncSigned x0 a1).seg.ts, I (truncSigned x0 a1).seg.beta, .slice A_14_2 n_14_2 c_14_2, .slice A_14_3 n_14_3 c_14_3] 43)) = w_14b at *
  refine (eqSignedSegment _ _ (truncSigned x0 a1) (truncSigned x0 a1) _ (by exact SignedSegmentO_rd (lo := w_13.heap.size) (hi := w_14.heap.size) (by repeat (first | (with_reducible exact O_14.out) | (with_reducible refine SignedSegmentO.drew ?_) | (with_reducible refine SignedSegmentO.ext ?_ (by with_reducible assumption) ?ge; case ge => first | omega | (simp only [World.size_drew]; omega)) | (with_reducible refine SignedSegmentO.out ?_ (by with_reducible assumption) ?ge; case ge => omega))) (by omega)) (by exact S_3.out.ext (by repeat (first | (with_reducible exact Ext.refl _) | (with_reducible assumption) | (with_reducible refine Ext.alloc ?_ _) | (with_reducible refine Ext.drew ?_) | (with_reducible refine Ext.out ?_ (by with_reducible assumption) ?ge; case ge => omega) | (with_reducible refine Ext.trans ?_ (by with_reducible assumption)))))).mono ?_
  rintro e w_15 ⟨rfl, e_15⟩
  have z_15 := e_15.size
  try rw [decide_eq_true rfl]
  have bc0 : Blk w_15 (w.heap.size) 40 [I x0.seg.ts, I x0.seg.beta, .slice A0_2 n0_2 c0_2, .slice A0_3 n0_3 c0_3] := (by repeat (first | (with_reducible exact BX0.out) | (with_reducible refine Blk.drew ?_) | (with_reducible refine Blk.ext ?_ (by with_reducible assumption)) | (with_reducible refine Blk.out ?_ (by with_reducible assumption) ?ge; case ge => omega)))
  obtain ⟨q0_0, q0_1, q0_2, q0_3⟩ := blk4 bc0
  clear bc0
  have bcLw3 : Blk w_15 (w_3.heap.size) 43 [I (truncSigned x0 a1).seg.ts, I (truncSigned x0 a1).seg.beta, .slice A_3_2 n_3_2 c_3_2, .slice A_3_3 n_3_3 c_3_3] := (by repeat (first | (with_reducible exact BXLw3.out) | (with_reducible refine Blk.drew ?_) | (with_reducible refine Blk.ext ?_ (by with_reducible assumption)) | (with_reducible refine Blk.out ?_ (by with_reducible assumption) ?ge; case ge => omega)))
  obtain ⟨qLw3_0, qLw3_1, qLw3_2, qLw3_3⟩ := blk4 bcLw3
  clear bcLw3
  have bcLw4 : Blk w_15 (w_4.heap.size) 43 [I x0.seg.ts, I x0.seg.beta, .slice A_4_2 n_4_2 c_4_2, .slice A_4_3 n_4_3 c_4_3] := (by repeat (first | (with_reducible exact BXLw4.out) | (with_reducible refine Blk.drew ?_) | (with_reducible refine Blk.ext ?_ (by with_reducible assumption)) | (with_reducible refine Blk.out ?_ (by with_reducible assumption) ?ge; case ge => omega)))
  obtain ⟨qLw4_0, qLw4_1, qLw4_2, qLw4_3⟩ := blk4 bcLw4
  clear bcLw4
  have bcLw5 : Blk w_15 (w_5.heap.size) 43 [I (truncSigned x0 a1).seg.ts, I (truncSigned x0 a1).seg.beta, .slice A_5_2 n_5_2 c_5_2, .slice A_5_3 n_5_3 c_5_3] := (by repeat (first | (with_reducible exact BXLw5.out) | (with_reducible refine Blk.drew ?_) | (with_reducible refine Blk.ext ?_ (by with_reducible assumption)) | (with_reducible refine Blk.out ?_ (by with_reducible assumption) ?ge; case ge => omega)))
  obtain ⟨qLw5_0, qLw5_1, qLw5_2, qLw5_3⟩ := blk4 bcLw5
  clear bcLw5
  have bcLw14 : Blk w_15 (w_14.heap.size) 43 [I (truncSigned x0 a1).seg.ts, I (truncSigned x0 a1).seg.beta, .slice A_14_2 n_14_2 c_14_2, .slice A_14_3 n_14_3 c_14_3] := (by repeat (first | (with_reducible exact BXLw14.out) | (with_reducible refine Blk.drew ?_) | (with_reducible refine Blk.ext ?_ (by with_reducible assumption)) | (with_reducible refine Blk.out ?_ (by with_reducible assumption) ?ge; case ge => omega)))
  obtain ⟨qLw14_0, qLw14_1, qLw14_2, qLw14_3⟩ := blk4 bcLw14
  clear bcLw14
  go_wp2_with fail
  clear q0_0 q0_1 q0_2 q0_3 qLw3_0 qLw3_1 qLw3_2 qLw3_3 qLw4_0 qLw4_1 qLw4_2 qLw4_3 qLw5_0 qLw5_1 qLw5_2 qLw5_3 qLw14_0 qLw14_1 qLw14_2 qLw14_3
  refine (heldSignedSegment _ (truncSigned x0 a1) 1 _ (by exact SignedSegmentO_rd (lo := w_4b.heap.size) (hi := w_5.heap.size) (by repeat (first | (with_reducible exact O_11.out) | (with_reducible refine SignedSegmentO.drew ?_) | (with_reducible refine SignedSegmentO.ext ?_ (by with_reducible assumption) ?ge; case ge => first | omega | (simp only [World.size_drew]; omega)) | (with_reducible refine SignedSegmentO.out ?_ (by with_reducible assumption) ?ge; case ge => omega))) (by omega)) (by omega)).mono ?_
  rintro e w_16 ⟨rfl, e_16⟩
  have z_16 := e_16.size
  have bc0 : Blk w_16 (w.heap.size) 40 [I x0.seg.ts, I x0.seg.beta, .slice A0_2 n0_2 c0_2, .slice A0_3 n0_3 c0_3] := (by repeat (first | (with_reducible exact BX0.out) | (with_reducible refine Blk.drew ?_) | (with_reducible refine Blk.ext ?_ (by with_reducible assumption)) | (with_reducible refine Blk.out ?_ (by with_reducible assumption) ?ge; case ge => omega)))
  obtain ⟨q0_0, q0_1, q0_2, q0_3⟩ := blk4 bc0
  clear bc0
  have bcLw3 : Blk w_16 (w_3.heap.size) 43 [I (truncSigned x0 a1).seg.ts, I (truncSigned x0 a1).seg.beta, .slice A_3_2 n_3_2 c_3_2, .slice A_3_3 n_3_3 c_3_3] := (by repeat (first | (with_reducible exact BXLw3.out) | (with_reducible refine Blk.drew ?_) | (with_reducible refine Blk.ext ?_ (by with_reducible assumption)) | (with_reducible refine Blk.out ?_ (by with_reducible assumption) ?ge; case ge => omega)))
  obtain ⟨qLw3_0, qLw3_1, qLw3_2, qLw3_3⟩ := blk4 bcLw3
  clear bcLw3
  have bcLw4 : Blk w_16 (w_4.heap.size) 43 [I x0.seg.ts, I x0.seg.beta, .slice A_4_2 n_4_2 c_4_2, .slice A_4_3 n_4_3 c_4_3] := (by repeat (first | (with_reducible exact BXLw4.out) | (with_reducible refine Blk.drew ?_) | (with_reducible refine Blk.ext ?_ (by with_reducible assumption)) | (with_reducible refine Blk.out ?_ (by with_reducible assumption) ?ge; case ge => omega)))
  obtain ⟨qLw4_0, qLw4_1, qLw4_2, qLw4_3⟩ := blk4 bcLw4
  clear bcLw4
  have bcLw5 : Blk w_16 (w_5.heap.size) 43 [I (truncSigned x0 a1).seg.ts, I (truncSigned x0 a1).seg.beta, .slice A_5_2 n_5_2 c_5_2, .slice A_5_3 n_5_3 c_5_3] := (by repeat (first | (with_reducible exact BXLw5.out) | (with_reducible refine Blk.drew ?_) | (with_reducible refine Blk.ext ?_ (by with_reducible assumption)) | (with_reducible refine Blk.out ?_ (by with_reducible assumption) ?ge; case ge => omega)))
  obtain ⟨qLw5_0, qLw5_1, qLw5_2, qLw5_3⟩ := blk4 bcLw5
  clear bcLw5
  have bcLw14 : Blk w_16 (w_14.heap.size) 43 [I (truncSigned x0 a1).seg.ts, I (truncSigned x0 a1).seg.beta, .slice A_14_2 n_14_2 c_14_2, .slice A_14_3 n_14_3 c_14_3] := (by repeat (first | (with_reducible exact BXLw14.out) | (with_reducible refine Blk.drew ?_) | (with_reducible refine Blk.ext ?_ (by with_reducible assumption)) | (with_reducible refine Blk.out ?_ (by with_reducible assumption) ?ge; case ge => omega)))
  obtain ⟨qLw14_0, qLw14_1, qLw14_2, qLw14_3⟩ := blk4 bcLw14
  clear bcLw14
  go_wp2_with fail
  clear q0_0 q0_1 q0_2 q0_3 qLw3_0 qLw3_1 qLw3_2 qLw3_3 qLw4_0 qLw4_1 qLw4_2 qLw4_3 qLw5_0 qLw5_1 qLw5_2 qLw5_3 qLw14_0 qLw14_1 qLw14_2 qLw14_3
  go_ret
  exact ⟨rfl, (by repeat (first | (with_reducible exact Ext.refl _) | (with_reducible assumption) | (with_reducible refine Ext.alloc ?_ _) | (with_reducible refine Ext.drew ?_) | (with_reducible refine Ext.out ?_ (by with_reducible assumption) ?ge; case ge => omega) | (with_reducible refine Ext.trans ?_ (by with_reducible assumption))))⟩
set_option maxRecDepth 100000 in
theorem lifted (os : Os) (started : os.Started) (H : Type) (enc : TypeId × Value → H) :
    ReturnsInHanded {} Try.checked os 4 .any (Rows.fnExactTruncateSignedSpec.pre6 enc Try.prog Try.f4 Rows.fnExactTruncateSignedRow.domain false) (Rows.fnExactTruncateSignedSpec.post enc Try.prog Try.f4 false true false false) := by
  refine returnsInHanded_of_change (C := Try.checked) own started (by kernel_rfl) Try.func4
    (ChangeSpec.witness6 (enc := enc) (C := Try.checked) false ⟨#[], #[.agg #[.int .i64 0, .int .i64 0, .slice none 0 0, .slice none 0 0], .int .i64 0], []⟩ 8 (by kernel_rfl) (by kernel_rfl) (by kernel_rfl) (by kernel_rfl)) ?_
  intro W base args ds gs before hval0 hW hcnd _
  have hval : ∀ (j : Nat) t v, Try.f4.params[j]? = some t → args[j]? = some v → Value.okWide Try.prog W .any base t v := hval0
  have hW' := hW
  obtain ⟨p, q, hA0, hV, rfl, hfz, hnd⟩ := hW
  have hA : DataW.TrodAll enc Try.prog W 0 (fun _ => true) true Try.f4.params.toList args.toList ds p := hA0
  rw [Try.params4] at hA hval
  obtain ⟨v0, vs0, d0, ds0, p0, q0, hargs, rfl, rfl, h0, r0⟩ := trodAll_cons hA
  obtain ⟨v1, vs1, d1, ds1, p1, q1, rfl, rfl, rfl, h1, r1⟩ := trodAll_cons r0
  obtain ⟨rfl, rfl, rfl⟩ := trodAll_nil r1
  obtain rfl : args = #[v0, v1] := by cases args; simp_all
  obtain ⟨rfl, rfl⟩ := trodVars_none hV
  have k0 := h0
  have lt0 : ∀ x ∈ p0, x.block < W.heap.size := by obtain ⟨m, hm⟩ := k0; exact DataW.trod_lt m _ _ _ hm
  obtain ⟨cs0, rfl, _⟩ := okWide_struct Try.underlying40 (hval 0 40 v0 rfl rfl)
  obtain ⟨x0, y0⟩ : ∃ d, SignedSegmentV W.heap.size W (.agg cs0) d := by
    obtain ⟨fuel, hf⟩ := h0
    obtain ⟨d, A2, n2, c2, A3, n3, c3, e, s2, s3⟩ := read_SignedSegment hf
    have e1 : cs0 = #[I d.seg.ts, I d.seg.beta, .slice A2 n2 c2, .slice A3 n3 c3] := by cases cs0; simpa [Value.cells] using e
    exact ⟨d, ⟨_, _, _, _, _, _, by rw [e1], s2, s3⟩⟩
  obtain ⟨a1, rfl, rfl, rfl, w1⟩ := open_int Try.underlying3 (hval 1 3 v1 rfl rfl) h1
  clear hA0 hval0
  refine (walk _ x0 a1 W y0).mono fun e W' ⟨he, bel⟩ => ?_
  subst he
  exact ⟨_, rfl, _, _, _, [], _, [], hW', trodAll_mk1 (shut_bool Try.underlying4 _), (trodAll_cons_mk (Below.trod laidOut (by kernel_rfl) (of_decide_eq_true (by kernel_rfl)) k0 bel.below lt0) (trodAll_cons_mk (shut_int Try.underlying3 w1) trodAll_mk0)), rfl, bel.below.frame _, fun h => by cases h⟩

theorem over : Rows.fnExactTruncateSignedRow.holds Try.pinned (OpenSpec.ofChange Rows.fnExactTruncateSignedSpec) :=
  OpenClaim.holds_of_wide 4 Try.f4 rfl rfl rfl rfl rfl rfl rfl ⟨rfl, rfl, rfl, rfl, rfl⟩ rfl rfl rfl rfl rfl (by kernel_rfl) Try.func4 (by kernel_rfl)
    (of_decide_eq_true (by kernel_rfl)) (by unfold Func.isWrapper; first | (rw [if_pos (by decide +kernel)]; kernel_rfl) | (rw [if_neg (by decide +kernel)]; exact ⟨rfl, rfl⟩))
    (fun os started H enc _ => lifted os started H enc)

/-- The statement. -/
theorem proved : Rows.FnExactTruncateSignedSaid := over
#print axioms proved
end Go.Proofs.Ytcalbcjheenmgaa.lawTruncateSigned
