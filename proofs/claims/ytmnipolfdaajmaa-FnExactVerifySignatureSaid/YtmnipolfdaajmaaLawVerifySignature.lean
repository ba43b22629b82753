/- The law FnExactVerifySignature returns true for every input and changes no argument. No conditions. -/
import Derived.Test.YtmnipolfdaajmaaL17b
import Derived.Test.YtmnipolfdaajmaaRead
namespace Go.Proofs.Ytmnipolfdaajmaa.lawVerifySignature
open Go.RowKit
set_option linter.unusedVariables false
open Go.ChangeShapes Go.WideShapes Go.ChangeAt
theorem own : ownKnob Try.prog.godebug = none := by kernel_rfl
theorem laidOut : laidOutB Try.prog = true := by kernel_rfl

set_option maxRecDepth 100000 in
set_option maxHeartbeats 1000000 in
theorem walk (v0 : Value) (x0 : DTopology) (x1 : DSignature) (v2 : Value) (x2 : List Int) (w : World) (h0 : TopologyV w.heap.size w v0 x0) (h2 : IntS w.heap.size w v2 x2) :
    Calls Try.prog 7 #[v0, .agg #[I x1.asn, I x1.value], v2] w fun e w' => e = .returned (.bool true) ∧ Ext w w' := by
  have H0 := Lib.hid h0
  obtain ⟨A0_0, n0_0, c0_0, A0_1, n0_1, c0_1, rfl, -⟩ := h0
  obtain ⟨A2, n2, c2, rfl, hl2, hn2, hm2, -⟩ := id h2
  subst hl2
  unfold maxLen at hm2
  have H2 := Lib.hid h2; clear h2
  by_cases hs2 : (1048576 : Int) < (x2.length : Int)
  · go_enter Try.func7, Try.ntmps7
    go_wp2_with fail
    go_ret
    exact ⟨rfl, (by repeat (first | (with_reducible exact Ext.refl _) | (with_reducible assumption) | (with_reducible refine Ext.alloc ?_ _) | (with_reducible refine Ext.drew ?_) | (with_reducible refine Ext.out ?_ (by with_reducible assumption) ?ge; case ge => omega) | (with_reducible refine Ext.trans ?_ (by with_reducible assumption))))⟩
  have hb2 : x2.length ≤ 1048576 := by omega
  go_enter Try.func7, Try.ntmps7
  go_wp2_with fail
  have bx0 : Blk ((w.alloc (.cells #[.slice A0_0 n0_0 c0_0, .slice A0_1 n0_1 c0_1] 71)).alloc (.cells #[I x1.asn, I x1.value] 73)) (w.heap.size) 71 [.slice A0_0 n0_0 c0_0, .slice A0_1 n0_1 c0_1] := by simpa using (Blk.new w 71 [.slice A0_0 n0_0 c0_0, .slice A0_1 n0_1 c0_1]).alloc _
  have BX0 := Lib.hid bx0; clear bx0
  have bx1 : Blk ((w.alloc (.cells #[.slice A0_0 n0_0 c0_0, .slice A0_1 n0_1 c0_1] 71)).alloc (.cells #[I x1.asn, I x1.value] 73)) (w.heap.size + 1) 73 [I x1.asn, I x1.value] := by simpa using Blk.new (w.alloc (.cells #[.slice A0_0 n0_0 c0_0, .slice A0_1 n0_1 c0_1] 71)) 73 [I x1.asn, I x1.value]
  have BX1 := Lib.hid bx1; clear bx1
  have ew : Ext w ((w.alloc (.cells #[.slice A0_0 n0_0 c0_0, .slice A0_1 n0_1 c0_1] 71)).alloc (.cells #[I x1.asn, I x1.value] 73)) := (by repeat (first | (with_reducible exact Ext.refl _) | (with_reducible assumption) | (with_reducible refine Ext.alloc ?_ _) | (with_reducible refine Ext.drew ?_) | (with_reducible refine Ext.out ?_ (by with_reducible assumption) ?ge; case ge => omega) | (with_reducible refine Ext.trans ?_ (by with_reducible assumption))))
  have zw : w.heap.size + 2 ≤ ((w.alloc (.cells #[.slice A0_0 n0_0 c0_0, .slice A0_1 n0_1 c0_1] 71)).alloc (.cells #[I x1.asn, I x1.value] 73)).heap.size := by simp only [World.size_alloc]; omega
  generalize ((w.alloc (.cells #[.slice A0_0 n0_0 c0_0, .slice A0_1 n0_1 c0_1] 71)).alloc (.cells #[I x1.asn, I x1.value] 73)) = w0 at *
  refine (szTopology _ x0 (1048576) _ (by exact H0.out.ext (by repeat (first | (with_reducible exact Ext.refl _) | (with_reducible assumption) | (with_reducible refine Ext.alloc ?_ _) | (with_reducible refine Ext.drew ?_) | (with_reducible refine Ext.out ?_ (by with_reducible assumption) ?ge; case ge => omega) | (with_reducible refine Ext.trans ?_ (by with_reducible assumption))))) (by omega) (by omega)).mono ?_
  rintro e w_1 ⟨rfl, e_1⟩
  have z_1 := e_1.size
  by_cases hlt0 : 1048576 < ((x0.ases.length + x0.links.length : Nat) : Int)
  · rw [szR_neg hlt0]
    go_wp2_with fail
    go_ret
    exact ⟨rfl, (by repeat (first | (with_reducible exact Ext.refl _) | (with_reducible assumption) | (with_reducible refine Ext.alloc ?_ _) | (with_reducible refine Ext.drew ?_) | (with_reducible refine Ext.out ?_ (by with_reducible assumption) ?ge; case ge => omega) | (with_reducible refine Ext.trans ?_ (by with_reducible assumption))))⟩
  rw [szR_pos (by omega)]
  have hb0 : x0.ases.length + x0.links.length ≤ 1048576 := by omega
  have bc0 : Blk w_1 (w.heap.size) 71 [.slice A0_0 n0_0 c0_0, .slice A0_1 n0_1 c0_1] := (by repeat (first | (with_reducible exact BX0.out) | (with_reducible refine Blk.drew ?_) | (with_reducible refine Blk.ext ?_ (by with_reducible assumption)) | (with_reducible refine Blk.out ?_ (by with_reducible assumption) ?ge; case ge => omega)))
  obtain ⟨q0_0, q0_1⟩ := blk2 bc0
  clear bc0
  have bc1 : Blk w_1 (w.heap.size + 1) 73 [I x1.asn, I x1.value] := (by repeat (first | (with_reducible exact BX1.out) | (with_reducible refine Blk.drew ?_) | (with_reducible refine Blk.ext ?_ (by with_reducible assumption)) | (with_reducible refine Blk.out ?_ (by with_reducible assumption) ?ge; case ge => omega)))
  obtain ⟨q1_0, q1_1⟩ := blk2 bc1
  clear bc1
  go_wp2_with fail
  clear q0_0 q0_1 q1_0 q1_1
  have bc0 : Blk w_1 (w.heap.size) 71 [.slice A0_0 n0_0 c0_0, .slice A0_1 n0_1 c0_1] := (by repeat (first | (with_reducible exact BX0.out) | (with_reducible refine Blk.drew ?_) | (with_reducible refine Blk.ext ?_ (by with_reducible assumption)) | (with_reducible refine Blk.out ?_ (by with_reducible assumption) ?ge; case ge => omega)))
  have lt0 := bc0.lt
  obtain ⟨q0_0, q0_1⟩ := blk2 bc0
  clear bc0
  have bc1 : Blk w_1 (w.heap.size + 1) 73 [I x1.asn, I x1.value] := (by repeat (first | (with_reducible exact BX1.out) | (with_reducible refine Blk.drew ?_) | (with_reducible refine Blk.ext ?_ (by with_reducible assumption)) | (with_reducible refine Blk.out ?_ (by with_reducible assumption) ?ge; case ge => omega)))
  have lt1 := bc1.lt
  obtain ⟨q1_0, q1_1⟩ := blk2 bc1
  clear bc1
  go_region_held3 (fun W => w_1.heap.size ≤ W.heap.size ∧ ∀ b o, b < w_1.heap.size → W.cell? ⟨b, o, none⟩ = w_1.cell? ⟨b, o, none⟩)
    (first | exact ⟨Nat.le_refl _, fun _ _ _ => rfl⟩ | exact keepC (by assumption) e_5 | exact keepC (by assumption) e_4 | exact keepC (by assumption) e_3 | exact keepC (by assumption) e_2)
    (first | (go_at_call 41; (with_reducible refine Calls.mono (toTopology (.agg #[.slice A0_0 n0_0 c0_0, .slice A0_1 n0_1 c0_1]) x0 _ ?s0 ?s1) ?_); (case s0 => exact H0.out.ext (by repeat (first | (with_reducible exact Ext.refl _) | (with_reducible assumption) | (with_reducible refine Ext.alloc ?_ _) | (with_reducible refine Ext.drew ?_) | (with_reducible refine Ext.out ?_ (by with_reducible assumption) ?ge; case ge => omega) | (with_reducible refine Ext.trans ?_ (by with_reducible assumption))))); (case s1 => omega); rintro e w_2 ⟨u_2, rfl, o_2, e_2⟩; have z_2 : w_1.heap.size ≤ w_2.heap.size := e_2.size; have o_2 : TopologyO w_1.heap.size w_2.heap.size w_2 _ _ := o_2) | (go_at_call 42; (with_reducible refine Calls.mono (toSignature x1 _) ?_); rintro e w_3 ⟨rfl, e_3⟩; have z_3 := e_3.size) | (go_at_call 43; (with_reducible refine Calls.mono (toIntS (.slice A2 x2.length c2) x2 _ ?s0 ?s1) ?_); (case s0 => exact H2.out.ext (by repeat (first | (with_reducible exact Ext.refl _) | (with_reducible assumption) | (with_reducible refine Ext.alloc ?_ _) | (with_reducible refine Ext.drew ?_) | (with_reducible refine Ext.out ?_ (by with_reducible assumption) ?ge; case ge => omega) | (with_reducible refine Ext.trans ?_ (by with_reducible assumption))))); (case s1 => omega); rintro e w_4 ⟨u_4, rfl, o_4, e_4⟩; have z_4 := e_4.size) | (go_at_call 40; (with_reducible refine Calls.mono (spec_VerifySignature _ x1 _ x0 x2 _ ?s0 ?s1 ?s2) ?_); (case s0 => exact TopologyO_rd (lo := w_1.heap.size) (hi := w_2.heap.size) (by repeat (first | (with_reducible exact o_2) | (with_reducible refine TopologyO.drew ?_) | (with_reducible refine TopologyO.ext ?_ (by with_reducible assumption) ?ge; case ge => first | omega | (simp only [World.size_drew]; omega)) | (with_reducible refine TopologyO.out ?_ (by with_reducible assumption) ?ge; case ge => omega))) (by omega)); (case s1 => exact IntSO_rd (lo := w_3.heap.size) (hi := w_4.heap.size) (by repeat (first | (with_reducible exact o_4) | (with_reducible refine Own.drew ?_) | (with_reducible refine Own.ext ?_ (by with_reducible assumption) ?ge; case ge => first | omega | (simp only [World.size_drew]; omega)) | (with_reducible refine Own.out ?_ (by with_reducible assumption) ?ge; case ge => omega)))); (case s2 => omega); rintro e w_5 ⟨rfl, e_5⟩; have z_5 := e_5.size))
  clear q0_0 q0_1 q1_0 q1_1 lt0 lt1
  have O_2 := Lib.hid o_2; clear o_2
  obtain ⟨A_2_0, n_2_0, c_2_0, A_2_1, n_2_1, c_2_1, hv_2⟩ := O_2.out.shape
  subst hv_2
  have O_4 := Lib.hid o_4; clear o_4
  have bc0 : Blk w_5 (w.heap.size) 71 [.slice A0_0 n0_0 c0_0, .slice A0_1 n0_1 c0_1] := (by repeat (first | (with_reducible exact BX0.out) | (with_reducible refine Blk.drew ?_) | (with_reducible refine Blk.ext ?_ (by with_reducible assumption)) | (with_reducible refine Blk.out ?_ (by with_reducible assumption) ?ge; case ge => omega)))
  obtain ⟨q0_0, q0_1⟩ := blk2 bc0
  clear bc0
  have bc1 : Blk w_5 (w.heap.size + 1) 73 [I x1.asn, I x1.value] := (by repeat (first | (with_reducible exact BX1.out) | (with_reducible refine Blk.drew ?_) | (with_reducible refine Blk.ext ?_ (by with_reducible assumption)) | (with_reducible refine Blk.out ?_ (by with_reducible assumption) ?ge; case ge => omega)))
  obtain ⟨q1_0, q1_1⟩ := blk2 bc1
  clear bc1
  go_wp2_with fail
  clear q0_0 q0_1 q1_0 q1_1
  refine (toTopology (.agg #[.slice A0_0 n0_0 c0_0, .slice A0_1 n0_1 c0_1]) x0 _ (by exact H0.out.ext (by repeat (first | (with_reducible exact Ext.refl _) | (with_reducible assumption) | (with_reducible refine Ext.alloc ?_ _) | (with_reducible refine Ext.drew ?_) | (with_reducible refine Ext.out ?_ (by with_reducible assumption) ?ge; case ge => omega) | (with_reducible refine Ext.trans ?_ (by with_reducible assumption))))) (by omega)).mono ?_
  rintro e w_6 ⟨u_6, rfl, o_6, e_6⟩
  have z_6 := e_6.size
  have O_6 := Lib.hid o_6; clear o_6
  obtain ⟨A_6_0, n_6_0, c_6_0, A_6_1, n_6_1, c_6_1, hv_6⟩ := O_6.out.shape
  subst hv_6
  have bc0 : Blk w_6 (w.heap.size) 71 [.slice A0_0 n0_0 c0_0, .slice A0_1 n0_1 c0_1] := (by repeat (first | (with_reducible exact BX0.out) | (with_reducible refine Blk.drew ?_) | (with_reducible refine Blk.ext ?_ (by with_reducible assumption)) | (with_reducible refine Blk.out ?_ (by with_reducible assumption) ?ge; case ge => omega)))
  have lt0 := bc0.lt
  obtain ⟨q0_0, q0_1⟩ := blk2 bc0
  clear bc0
  have bc1 : Blk w_6 (w.heap.size + 1) 73 [I x1.asn, I x1.value] := (by repeat (first | (with_reducible exact BX1.out) | (with_reducible refine Blk.drew ?_) | (with_reducible refine Blk.ext ?_ (by with_reducible assumption)) | (with_reducible refine Blk.out ?_ (by with_reducible assumption) ?ge; case ge => omega)))
  have lt1 := bc1.lt
  obtain ⟨q1_0, q1_1⟩ := blk2 bc1
  clear bc1
  go_wp2_with fail
  clear q0_0 q0_1 q1_0 q1_1 lt0 lt1
  have bxLw6 : Blk (w_6.alloc (.cells #[.slice A_6_0 n_6_0 c_6_0, .slice A_6_1 n_6_1 c_6_1] 79)) w_6.heap.size 79 [.slice A_6_0 n_6_0 c_6_0, .slice A_6_1 n_6_1 c_6_1] := Blk.new _ _ _
  have BXLw6 := Lib.hid bxLw6; clear bxLw6
  have ewLw6 : Ext w_6 (w_6.alloc (.cells #[.slice A_6_0 n_6_0 c_6_0, .slice A_6_1 n_6_1 c_6_1] 79)) := (Ext.refl _).alloc _
  have zwLw6 : w_6.heap.size + 1 ≤ (w_6.alloc (.cells #[.slice A_6_0 n_6_0 c_6_0, .slice A_6_1 n_6_1 c_6_1] 79)).heap.size := by simp only [World.size_alloc]; omega
  generalize (w_6.alloc (.cells #[.slice A_6_0 n_6_0 c_6_0, .slice A_6_1 n_6_1 c_6_1] 79)) = w_6b at *
  refine (toIntS (.slice A2 x2.length c2) x2 _ (by exact H2.out.ext (by repeat (first | (with_reducible exact Ext.refl _) | (with_reducible assumption) | (with_reducible refine Ext.alloc ?_ _) | (with_reducible refine Ext.drew ?_) | (with_reducible refine Ext.out ?_ (by with_reducible assumption) ?ge; case ge => omega) | (with_reducible refine Ext.trans ?_ (by with_reducible assumption))))) (by omega)).mono ?_
  rintro e w_7 ⟨u_7, rfl, o_7, e_7⟩
  have z_7 := e_7.size
  have O_7 := Lib.hid o_7; clear o_7
  have bc0 : Blk w_7 (w.heap.size) 71 [.slice A0_0 n0_0 c0_0, .slice A0_1 n0_1 c0_1] := (by repeat (first | (with_reducible exact BX0.out) | (with_reducible refine Blk.drew ?_) | (with_reducible refine Blk.ext ?_ (by with_reducible assumption)) | (with_reducible refine Blk.out ?_ (by with_reducible assumption) ?ge; case ge => omega)))
  obtain ⟨q0_0, q0_1⟩ := blk2 bc0
  clear bc0
  have bc1 : Blk w_7 (w.heap.size + 1) 73 [I x1.asn, I x1.value] := (by repeat (first | (with_reducible exact BX1.out) | (with_reducible refine Blk.drew ?_) | (with_reducible refine Blk.ext ?_ (by with_reducible assumption)) | (with_reducible refine Blk.out ?_ (by with_reducible assumption) ?ge; case ge => omega)))
  obtain ⟨q1_0, q1_1⟩ := blk2 bc1
  clear bc1
  have bcLw6 : Blk w_7 (w_6.heap.size) 79 [.slice A_6_0 n_6_0 c_6_0, .slice A_6_1 n_6_1 c_6_1] := (by repeat (first | (with_reducible exact BXLw6.out) | (with_reducible refine Blk.drew ?_) | (with_reducible refine Blk.ext ?_ (by with_reducible assumption)) | (with_reducible refine Blk.out ?_ (by with_reducible assumption) ?ge; case ge => omega)))
  obtain ⟨qLw6_0, qLw6_1⟩ := blk2 bcLw6
  clear bcLw6
  go_wp2_with fail
  clear q0_0 q0_1 q1_0 q1_1 qLw6_0 qLw6_1
  have bc0 : Blk w_7 (w.heap.size) 71 [.slice A0_0 n0_0 c0_0, .slice A0_1 n0_1 c0_1] := (by repeat (first | (with_reducible exact BX0.out) | (with_reducible refine Blk.drew ?_) | (with_reducible refine Blk.ext ?_ (by with_reducible assumption)) | (with_reducible refine Blk.out ?_ (by with_reducible assumption) ?ge; case ge => omega)))
  have lt0 := bc0.lt
  obtain ⟨q0_0, q0_1⟩ := blk2 bc0
  clear bc0
  have bc1 : Blk w_7 (w.heap.size + 1) 73 [I x1.asn, I x1.value] := (by repeat (first | (with_reducible exact BX1.out) | (with_reducible refine Blk.drew ?_) | (with_reducible refine Blk.ext ?_ (by with_reducible assumption)) | (with_reducible refine Blk.out ?_ (by with_reducible assumption) ?ge; case ge => omega)))
  have lt1 := bc1.lt
  obtain ⟨q1_0, q1_1⟩ := blk2 bc1
  clear bc1
  have bcLw6 : Blk w_7 (w_6.heap.size) 79 [.slice A_6_0 n_6_0 c_6_0, .slice A_6_1 n_6_1 c_6_1] := (by repeat (first | (with_reducible exact BXLw6.out) | (with_reducible refine Blk.drew ?_) | (with_reducible refine Blk.ext ?_ (by with_reducible assumption)) | (with_reducible refine Blk.out ?_ (by with_reducible assumption) ?ge; case ge => omega)))
  have ltLw6 := bcLw6.lt
  obtain ⟨qLw6_0, qLw6_1⟩ := blk2 bcLw6
  clear bcLw6
  go_region_held3 (fun W => w_7.heap.size ≤ W.heap.size ∧ ∀ b o, b < w_7.heap.size → W.cell? ⟨b, o, none⟩ = w_7.cell? ⟨b, o, none⟩)
    (first | exact ⟨Nat.le_refl _, fun _ _ _ => rfl⟩ | exact keepC (by assumption) e_9 | exact keepC (by assumption) e_8)
    (first | (go_at_call 42; (with_reducible refine Calls.mono (toSignature x1 _) ?_); rintro e w_8 ⟨rfl, e_8⟩; have z_8 : w_7.heap.size ≤ w_8.heap.size := e_8.size) | (go_at_call 44; (with_reducible refine Calls.mono (impl_VerifySignature _ x1 _ x0 x2 _ ?s0 ?s1 ?s2) ?_); (case s0 => exact TopologyO_rd (lo := w_5.heap.size) (hi := w_6.heap.size) (by repeat (first | (with_reducible exact O_6.out) | (with_reducible refine TopologyO.drew ?_) | (with_reducible refine TopologyO.ext ?_ (by with_reducible assumption) ?ge; case ge => first | omega | (simp only [World.size_drew]; omega)) | (with_reducible refine TopologyO.out ?_ (by with_reducible assumption) ?ge; case ge => omega))) (by omega)); (case s1 => exact IntSO_rd (lo := w_6b.heap.size) (hi := w_7.heap.size) (by repeat (first | (with_reducible exact O_7.out) | (with_reducible refine Own.drew ?_) | (with_reducible refine Own.ext ?_ (by with_reducible assumption) ?ge; case ge => first | omega | (simp only [World.size_drew]; omega)) | (with_reducible refine Own.out ?_ (by with_reducible assumption) ?ge; case ge => omega)))); (case s2 => omega); rintro e w_9 ⟨rfl, e_9⟩; have z_9 := e_9.size))
  clear q0_0 q0_1 q1_0 q1_1 qLw6_0 qLw6_1 lt0 lt1 ltLw6
  generalize verifySig x0 x1 x2 = r at *
  have bc0 : Blk w_9 (w.heap.size) 71 [.slice A0_0 n0_0 c0_0, .slice A0_1 n0_1 c0_1] := (by repeat (first | (with_reducible exact BX0.out) | (with_reducible refine Blk.drew ?_) | (with_reducible refine Blk.ext ?_ (by with_reducible assumption)) | (with_reducible refine Blk.out ?_ (by with_reducible assumption) ?ge; case ge => omega)))
  obtain ⟨q0_0, q0_1⟩ := blk2 bc0
  clear bc0
  have bc1 : Blk w_9 (w.heap.size + 1) 73 [I x1.asn, I x1.value] := (by repeat (first | (with_reducible exact BX1.out) | (with_reducible refine Blk.drew ?_) | (with_reducible refine Blk.ext ?_ (by with_reducible assumption)) | (with_reducible refine Blk.out ?_ (by with_reducible assumption) ?ge; case ge => omega)))
  obtain ⟨q1_0, q1_1⟩ := blk2 bc1
  clear bc1
  have bcLw6 : Blk w_9 (w_6.heap.size) 79 [.slice A_6_0 n_6_0 c_6_0, .slice A_6_1 n_6_1 c_6_1] := (by repeat (first | (with_reducible exact BXLw6.out) | (with_reducible refine Blk.drew ?_) | (with_reducible refine Blk.ext ?_ (by with_reducible assumption)) | (with_reducible refine Blk.out ?_ (by with_reducible assumption) ?ge; case ge => omega)))
  obtain ⟨qLw6_0, qLw6_1⟩ := blk2 bcLw6
  clear bcLw6
  go_wp2_with fail
  clear q0_0 q0_1 q1_0 q1_1 qLw6_0 qLw6_1
  have bc0 : Blk w_9 (w.heap.size) 71 [.slice A0_0 n0_0 c0_0, .slice A0_1 n0_1 c0_1] := (by repeat (first | (with_reducible exact BX0.out) | (with_reducible refine Blk.drew ?_) | (with_reducible refine Blk.ext ?_ (by with_reducible assumption)) | (with_reducible refine Blk.out ?_ (by with_reducible assumption) ?ge; case ge => omega)))
  have lt0 := bc0.lt
  obtain ⟨q0_0, q0_1⟩ := blk2 bc0
  clear bc0
  have bc1 : Blk w_9 (w.heap.size + 1) 73 [I x1.asn, I x1.value] := (by repeat (first | (with_reducible exact BX1.out) | (with_reducible refine Blk.drew ?_) | (with_reducible refine Blk.ext ?_ (by with_reducible assumption)) | (with_reducible refine Blk.out ?_ (by with_reducible assumption) ?ge; case ge => omega)))
  have lt1 := bc1.lt
  obtain ⟨q1_0, q1_1⟩ := blk2 bc1
  clear bc1
  have bcLw6 : Blk w_9 (w_6.heap.size) 79 [.slice A_6_0 n_6_0 c_6_0, .slice A_6_1 n_6_1 c_6_1] := (by repeat (first | (with_reducible exact BXLw6.out) | (with_reducible refine Blk.drew ?_) | (with_reducible refine Blk.ext ?_ (by with_reducible assumption)) | (with_reducible refine Blk.out ?_ (by with_reducible assumption) ?ge; case ge => omega)))
  have ltLw6 := bcLw6.lt
  obtain ⟨qLw6_0, qLw6_1⟩ := blk2 bcLw6
  clear bcLw6
  go_region_held3 (fun W => w_9.heap.size ≤ W.heap.size ∧ ∀ b o, b < w_9.heap.size → W.cell? ⟨b, o, none⟩ = w_9.cell? ⟨b, o, none⟩)
    (first | exact ⟨Nat.le_refl _, fun _ _ _ => rfl⟩ | exact keepC (by assumption) e_11 | exact keepC (by assumption) e_10)
    (first | (go_at_call 41; (with_reducible refine Calls.mono (toTopology (.agg #[.slice A0_0 n0_0 c0_0, .slice A0_1 n0_1 c0_1]) x0 _ ?s0 ?s1) ?_); (case s0 => exact H0.out.ext (by repeat (first | (with_reducible exact Ext.refl _) | (with_reducible assumption) | (with_reducible refine Ext.alloc ?_ _) | (with_reducible refine Ext.drew ?_) | (with_reducible refine Ext.out ?_ (by with_reducible assumption) ?ge; case ge => omega) | (with_reducible refine Ext.trans ?_ (by with_reducible assumption))))); (case s1 => omega); rintro e w_10 ⟨u_10, rfl, o_10, e_10⟩; have z_10 : w_9.heap.size ≤ w_10.heap.size := e_10.size; have o_10 : TopologyO w_9.heap.size w_10.heap.size w_10 _ _ := o_10) | (go_at_call 45; (with_reducible refine Calls.mono (eqTopology _ _ x0 x0 _ ?s0 ?s1) ?_); (case s0 => exact TopologyO_rd (lo := w_5.heap.size) (hi := w_6.heap.size) (by repeat (first | (with_reducible exact O_6.out) | (with_reducible refine TopologyO.drew ?_) | (with_reducible refine TopologyO.ext ?_ (by with_reducible assumption) ?ge; case ge => first | omega | (simp only [World.size_drew]; omega)) | (with_reducible refine TopologyO.out ?_ (by with_reducible assumption) ?ge; case ge => omega))) (by omega)); (case s1 => exact TopologyO_rd (lo := w_9.heap.size) (hi := w_10.heap.size) (by repeat (first | (with_reducible exact o_10) | (with_reducible refine TopologyO.drew ?_) | (with_reducible refine TopologyO.ext ?_ (by with_reducible assumption) ?ge; case ge => first | omega | (simp only [World.size_drew]; omega)) | (with_reducible refine TopologyO.out ?_ (by with_reducible assumption) ?ge; case ge => omega))) (by omega)); rintro e w_11 ⟨rfl, e_11⟩; have z_11 := e_11.size))
  clear q0_0 q0_1 q1_0 q1_1 qLw6_0 qLw6_1 lt0 lt1 ltLw6
  have O_10 := Lib.hid o_10; clear o_10
  obtain ⟨A_10_0, n_10_0, c_10_0, A_10_1, n_10_1, c_10_1, hv_10⟩ := O_10.out.shape
  subst hv_10
  try rw [decide_eq_true rfl]
  have bc0 : Blk w_11 (w.heap.size) 71 [.slice A0_0 n0_0 c0_0, .slice A0_1 n0_1 c0_1] := (by repeat (first | (with_reducible exact BX0.out) | (with_reducible refine Blk.drew ?_) | (with_reducible refine Blk.ext ?_ (by with_reducible assumption)) | (with_reducible refine Blk.out ?_ (by with_reducible assumption) ?ge; case ge => omega)))
  obtain ⟨q0_0, q0_1⟩ := blk2 bc0
  clear bc0
  have bc1 : Blk w_11 (w.heap.size + 1) 73 [I x1.asn, I x1.value] := (by repeat (first | (with_reducible exact BX1.out) | (with_reducible refine Blk.drew ?_) | (with_reducible refine Blk.ext ?_ (by with_reducible assumption)) | (with_reducible refine Blk.out ?_ (by with_reducible assumption) ?ge; case ge => omega)))
  obtain ⟨q1_0, q1_1⟩ := blk2 bc1
  clear bc1
  have bcLw6 : Blk w_11 (w_6.heap.size) 79 [.slice A_6_0 n_6_0 c_6_0, .slice A_6_1 n_6_1 c_6_1] := (by repeat (first | (with_reducible exact BXLw6.out) | (with_reducible refine Blk.drew ?_) | (with_reducible refine Blk.ext ?_ (by with_reducible assumption)) | (with_reducible refine Blk.out ?_ (by with_reducible assumption) ?ge; case ge => omega)))
  obtain ⟨qLw6_0, qLw6_1⟩ := blk2 bcLw6
  clear bcLw6
  go_wp2_with fail
  clear q0_0 q0_1 q1_0 q1_1 qLw6_0 qLw6_1
  refine (toIntS (.slice A2 x2.length c2) x2 _ (by exact H2.out.ext (by repeat (first | (with_reducible exact Ext.refl _) | (with_reducible assumption) | (with_reducible refine Ext.alloc ?_ _) | (with_reducible refine Ext.drew ?_) | (with_reducible refine Ext.out ?_ (by with_reducible assumption) ?ge; case ge => omega) | (with_reducible refine Ext.trans ?_ (by with_reducible assumption))))) (by omega)).mono ?_
  rintro e w_12 ⟨u_12, rfl, o_12, e_12⟩
  have z_12 := e_12.size
  have O_12 := Lib.hid o_12; clear o_12
  have bc0 : Blk w_12 (w.heap.size) 71 [.slice A0_0 n0_0 c0_0, .slice A0_1 n0_1 c0_1] := (by repeat (first | (with_reducible exact BX0.out) | (with_reducible refine Blk.drew ?_) | (with_reducible refine Blk.ext ?_ (by with_reducible assumption)) | (with_reducible refine Blk.out ?_ (by with_reducible assumption) ?ge; case ge => omega)))
  obtain ⟨q0_0, q0_1⟩ := blk2 bc0
  clear bc0
  have bc1 : Blk w_12 (w.heap.size + 1) 73 [I x1.asn, I x1.value] := (by repeat (first | (with_reducible exact BX1.out) | (with_reducible refine Blk.drew ?_) | (with_reducible refine Blk.ext ?_ (by with_reducible assumption)) | (with_reducible refine Blk.out ?_ (by with_reducible assumption) ?ge; case ge => omega)))
  obtain ⟨q1_0, q1_1⟩ := blk2 bc1
  clear bc1
  have bcLw6 : Blk w_12 (w_6.heap.size) 79 [.slice A_6_0 n_6_0 c_6_0, .slice A_6_1 n_6_1 c_6_1] := (by repeat (first | (with_reducible exact BXLw6.out) | (with_reducible refine Blk.drew ?_) | (with_reducible refine Blk.ext ?_ (by with_reducible assumption)) | (with_reducible refine Blk.out ?_ (by with_reducible assumption) ?ge; case ge => omega)))
  obtain ⟨qLw6_0, qLw6_1⟩ := blk2 bcLw6
  clear bcLw6
  go_wp2_with fail
  clear q0_0 q0_1 q1_0 q1_1 qLw6_0 qLw6_1
  refine (eqIntS _ _ x2 x2 _ (by exact IntSO_rd (lo := w_6b.heap.size) (hi := w_7.heap.size) (by repeat (first | (with_reducible exact O_7.out) | (with_reducible refine Own.drew ?_) | (with_reducible refine Own.ext ?_ (by with_reducible assumption) ?ge; case ge => first | omega | (simp only [World.size_drew]; omega)) | (with_reducible refine Own.out ?_ (by with_reducible assumption) ?ge; case ge => omega)))) (by exact IntSO_rd (lo := w_11.heap.size) (hi := w_12.heap.size) (by repeat (first | (with_reducible exact O_12.out) | (with_reducible refine Own.drew ?_) | (with_reducible refine Own.ext ?_ (by with_reducible assumption) ?ge; case ge => first | omega | (simp only [World.size_drew]; omega)) | (with_reducible refine Own.out ?_ (by with_reducible assumption) ?ge; case ge => omega))))).mono ?_
  rintro e w_13 ⟨rfl, e_13⟩
  have z_13 := e_13.size
  try rw [decide_eq_true rfl]
  have bc0 : Blk w_13 (w.heap.size) 71 [.slice A0_0 n0_0 c0_0, .slice A0_1 n0_1 c0_1] := (by repeat (first | (with_reducible exact BX0.out) | (with_reducible refine Blk.drew ?_) | (with_reducible refine Blk.ext ?_ (by with_reducible assumption)) | (with_reducible refine Blk.out ?_ (by with_reducible assumption) ?ge; case ge => omega)))
  obtain ⟨q0_0, q0_1⟩ := blk2 bc0
  clear bc0
  have bc1 : Blk w_13 (w.heap.size + 1) 73 [I x1.asn, I x1.value] := (by repeat (first | (with_reducible exact BX1.out) | (with_reducible refine Blk.drew ?_) | (with_reducible refine Blk.ext ?_ (by with_reducible assumption)) | (with_reducible refine Blk.out ?_ (by with_reducible assumption) ?ge; case ge => omega)))
  obtain ⟨q1_0, q1_1⟩ := blk2 bc1
  clear bc1
  have bcLw6 : Blk w_13 (w_6.heap.size) 79 [.slice A_6_0 n_6_0 c_6_0, .slice A_6_1 n_6_1 c_6_1] := (by repeat (first | (with_reducible exact BXLw6.out) | (with_reducible refine Blk.drew ?_) | (with_reducible refine Blk.ext ?_ (by with_reducible assumption)) | (with_reducible refine Blk.out ?_ (by with_reducible assumption) ?ge; case ge => omega)))
  obtain ⟨qLw6_0, qLw6_1⟩ := blk2 bcLw6
  clear bcLw6
  go_wp2_with fail
  clear q0_0 q0_1 q1_0 q1_1 qLw6_0 qLw6_1
  go_ret
  exact ⟨rfl, (by repeat (first | (with_reducible exact Ext.refl _) | (with_reducible assumption) | (with_reducible refine Ext.alloc ?_ _) | (with_reducible refine Ext.drew ?_) | (with_reducible refine Ext.out ?_ (by with_reducible assumption) ?ge; case ge => omega) | (with_reducible refine Ext.trans ?_ (by with_reducible assumption))))⟩
set_option maxRecDepth 100000 in
theorem lifted (os : Os) (started : os.Started) (H : Type) (enc : TypeId × Value → H) :
    ReturnsInHanded {} Try.checked os 7 .any (Rows.fnExactVerifySignatureSpec.pre6 enc Try.prog Try.f7 Rows.fnExactVerifySignatureRow.domain false) (Rows.fnExactVerifySignatureSpec.post enc Try.prog Try.f7 false true false false) := by
  refine returnsInHanded_of_change (C := Try.checked) own started (by kernel_rfl) Try.func7
    (ChangeSpec.witness6 (enc := enc) (C := Try.checked) false ⟨#[], #[.agg #[.slice none 0 0, .slice none 0 0], .agg #[.int .i64 0, .int .i64 0], .slice none 0 0], []⟩ 8 (by kernel_rfl) (by kernel_rfl) (by kernel_rfl) (by kernel_rfl)) ?_
  intro W base args ds gs before hval0 hW hcnd _
  have hval : ∀ (j : Nat) t v, Try.f7.params[j]? = some t → args[j]? = some v → Value.okWide Try.prog W .any base t v := hval0
  have hW' := hW
  obtain ⟨p, q, hA0, hV, rfl, hfz, hnd⟩ := hW
  have hA : DataW.TrodAll enc Try.prog W 0 (fun _ => true) true Try.f7.params.toList args.toList ds p := hA0
  rw [Try.params7] at hA hval
  obtain ⟨v0, vs0, d0, ds0, p0, q0, hargs, rfl, rfl, h0, r0⟩ := trodAll_cons hA
  obtain ⟨v1, vs1, d1, ds1, p1, q1, rfl, rfl, rfl, h1, r1⟩ := trodAll_cons r0
  obtain ⟨v2, vs2, d2, ds2, p2, q2, rfl, rfl, rfl, h2, r2⟩ := trodAll_cons r1
  obtain ⟨rfl, rfl, rfl⟩ := trodAll_nil r2
  obtain rfl : args = #[v0, v1, v2] := by cases args; simp_all
  obtain ⟨rfl, rfl⟩ := trodVars_none hV
  have k0 := h0
  have lt0 : ∀ x ∈ p0, x.block < W.heap.size := by obtain ⟨m, hm⟩ := k0; exact DataW.trod_lt m _ _ _ hm
  obtain ⟨cs0, rfl, _⟩ := okWide_struct Try.underlying71 (hval 0 71 v0 rfl rfl)
  obtain ⟨x0, y0⟩ : ∃ d, TopologyV W.heap.size W (.agg cs0) d := by
    obtain ⟨fuel, hf⟩ := h0
    obtain ⟨d, A0, n0, c0, A1, n1, c1, e, s0, s1⟩ := read_Topology hf
    have e1 : cs0 = #[.slice A0 n0 c0, .slice A1 n1 c1] := by cases cs0; simpa [Value.cells] using e
    exact ⟨d, ⟨_, _, _, _, _, _, by rw [e1], s0, s1⟩⟩
  have k1 := h1
  have lt1 : ∀ x ∈ p1, x.block < W.heap.size := by obtain ⟨m, hm⟩ := k1; exact DataW.trod_lt m _ _ _ hm
  obtain ⟨cs1, rfl, _⟩ := okWide_struct Try.underlying73 (hval 1 73 v1 rfl rfl)
  obtain ⟨x1, y1⟩ : ∃ d, SignatureV W.heap.size W (.agg cs1) d := by
    obtain ⟨fuel, hf⟩ := h1
    obtain ⟨d, e⟩ := read_Signature hf
    have e1 : cs1 = #[I d.asn, I d.value] := by cases cs1; simpa [Value.cells] using e
    exact ⟨d, by unfold SignatureV; rw [e1]⟩
  obtain rfl : cs1 = #[I x1.asn, I x1.value] := by simpa [SignatureV] using y1
  have k2 := h2
  have lt2 : ∀ x ∈ p2, x.block < W.heap.size := by obtain ⟨m, hm⟩ := k2; exact DataW.trod_lt m _ _ _ hm
  obtain ⟨a2, len2, cap2, rfl⟩ := okWide_slice Try.underlying26 (hval 2 26 v2 rfl rfl)
  obtain ⟨x2, y2⟩ : ∃ ds, IntS W.heap.size W (.slice a2 len2 cap2) ds := by
    obtain ⟨fuel, hf⟩ := h2
    obtain ⟨A, n, c, ds, e, hs⟩ := read_IntS hf
    simp only [Value.cells, List.cons.injEq, and_true] at e
    rw [← e] at hs
    exact ⟨ds, hs⟩
  clear hA0 hval0
  refine (walk _ x0 x1 _ x2 W y0 y2).mono fun e W' ⟨he, bel⟩ => ?_
  subst he
  exact ⟨_, rfl, _, _, _, [], _, [], hW', trodAll_mk1 (shut_bool Try.underlying4 _), (trodAll_cons_mk (Below.trod laidOut (by kernel_rfl) (of_decide_eq_true (by kernel_rfl)) k0 bel.below lt0) (trodAll_cons_mk (Below.trod laidOut (by kernel_rfl) (of_decide_eq_true (by kernel_rfl)) k1 bel.below lt1) (trodAll_cons_mk (Below.trod laidOut (by kernel_rfl) (of_decide_eq_true (by kernel_rfl)) k2 bel.below lt2) trodAll_mk0))), rfl, bel.below.frame _, fun h => by cases h⟩

theorem over : Rows.fnExactVerifySignatureRow.holds Try.pinned (OpenSpec.ofChange Rows.fnExactVerifySignatureSpec) :=
  OpenClaim.holds_of_wide 7 Try.f7 rfl rfl rfl rfl rfl rfl rfl ⟨rfl, rfl, rfl, rfl, rfl⟩ rfl rfl rfl rfl rfl (by kernel_rfl) Try.func7 (by kernel_rfl)
    (of_decide_eq_true (by kernel_rfl)) (by unfold Func.isWrapper; first | (rw [if_pos (by decide +kernel)]; kernel_rfl) | (rw [if_neg (by decide +kernel)]; exact ⟨rfl, rfl⟩))
    (fun os started H enc _ => lifted os started H enc)

/-- The statement. -/
theorem proved : Rows.FnExactVerifySignatureSaid := over
#print axioms proved
end Go.Proofs.Ytmnipolfdaajmaa.lawVerifySignature
