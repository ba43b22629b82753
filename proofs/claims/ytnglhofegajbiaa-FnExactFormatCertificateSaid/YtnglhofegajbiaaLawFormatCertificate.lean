/- The law FnExactFormatCertificate returns true for every input and changes no argument. No conditions. -/
import Derived.Test.YtnglhofegajbiaaL19d
import Derived.Test.YtnglhofegajbiaaRead
namespace Go.Proofs.Ytnglhofegajbiaa.lawFormatCertificate
open Go.RowKit
set_option linter.unusedVariables false
open Go.ChangeShapes Go.WideShapes Go.ChangeAt
theorem own : ownKnob Try.prog.godebug = none := by kernel_rfl
theorem laidOut : laidOutB Try.prog = true := by kernel_rfl

set_option maxRecDepth 100000 in
set_option maxHeartbeats 1000000 in
theorem walk (v0 : Value) (x0 : DTopology) (x1 : DCertificate) (w : World) (h0 : TopologyV w.heap.size w v0 x0) :
    Calls Try.prog 4 #[v0, .agg #[I x1.asn, I x1.keyDigest, I x1.rootVersion, I x1.notBefore, I x1.notAfter, I x1.sig.asn, I x1.sig.value]] w fun e w' => e = .returned (.bool true) ∧ Ext w w' := by
  have H0 := Lib.hid h0
  obtain ⟨A0_0, n0_0, c0_0, A0_1, n0_1, c0_1, rfl, -⟩ := h0
  go_enter Try.func4, Try.ntmps4
  go_wp2_with fail
  have bx0 : Blk ((w.alloc (.cells #[.slice A0_0 n0_0 c0_0, .slice A0_1 n0_1 c0_1] 36)).alloc (.cells #[I x1.asn, I x1.keyDigest, I x1.rootVersion, I x1.notBefore, I x1.notAfter, I x1.sig.asn, I x1.sig.value] 40)) (w.heap.size) 36 [.slice A0_0 n0_0 c0_0, .slice A0_1 n0_1 c0_1] := by simpa using (Blk.new w 36 [.slice A0_0 n0_0 c0_0, .slice A0_1 n0_1 c0_1]).alloc _
  have BX0 := Lib.hid bx0; clear bx0
  have bx1 : Blk ((w.alloc (.cells #[.slice A0_0 n0_0 c0_0, .slice A0_1 n0_1 c0_1] 36)).alloc (.cells #[I x1.asn, I x1.keyDigest, I x1.rootVersion, I x1.notBefore, I x1.notAfter, I x1.sig.asn, I x1.sig.value] 40)) (w.heap.size + 1) 40 [I x1.asn, I x1.keyDigest, I x1.rootVersion, I x1.notBefore, I x1.notAfter, I x1.sig.asn, I x1.sig.value] := by simpa using Blk.new (w.alloc (.cells #[.slice A0_0 n0_0 c0_0, .slice A0_1 n0_1 c0_1] 36)) 40 [I x1.asn, I x1.keyDigest, I x1.rootVersion, I x1.notBefore, I x1.notAfter, I x1.sig.asn, I x1.sig.value]
  have BX1 := Lib.hid bx1; clear bx1
  have ew : Ext w ((w.alloc (.cells #[.slice A0_0 n0_0 c0_0, .slice A0_1 n0_1 c0_1] 36)).alloc (.cells #[I x1.asn, I x1.keyDigest, I x1.rootVersion, I x1.notBefore, I x1.notAfter, I x1.sig.asn, I x1.sig.value] 40)) := (by repeat (first | (with_reducible exact Ext.refl _) | (with_reducible assumption) | (with_reducible refine Ext.alloc ?_ _) | (with_reducible refine Ext.drew ?_) | (with_reducible refine Ext.out ?_ (by with_reducible assumption) ?ge; case ge => omega) | (with_reducible refine Ext.trans ?_ (by with_reducible assumption))))
  have zw : w.heap.size + 2 ≤ ((w.alloc (.cells #[.slice A0_0 n0_0 c0_0, .slice A0_1 n0_1 c0_1] 36)).alloc (.cells #[I x1.asn, I x1.keyDigest, I x1.rootVersion, I x1.notBefore, I x1.notAfter, I x1.sig.asn, I x1.sig.value] 40)).heap.size := by simp only [World.size_alloc]; omega
  generalize ((w.alloc (.cells #[.slice A0_0 n0_0 c0_0, .slice A0_1 n0_1 c0_1] 36)).alloc (.cells #[I x1.asn, I x1.keyDigest, I x1.rootVersion, I x1.notBefore, I x1.notAfter, I x1.sig.asn, I x1.sig.value] 40)) = w0 at *
  refine (szTopology _ x0 (1048576) _ (by exact H0.out.ext (by repeat (first | (with_reducible exact Ext.refl _) | (with_reducible assumption) | (with_reducible refine Ext.alloc ?_ _) | (with_reducible refine Ext.drew ?_) | (with_reducible refine Ext.out ?_ (by with_reducible assumption) ?ge; case ge => omega) | (with_reducible refine Ext.trans ?_ (by with_reducible assumption))))) (by omega) (by omega)).mono ?_
  rintro e w_1 ⟨rfl, e_1⟩
  have z_1 := e_1.size
  by_cases hlt0 : 1048576 < ((x0.ases.length + x0.links.length : Nat) : Int)
  · rw [szR_neg hlt0]
    go_wp2_with fail
    go_ret
    exact ⟨rfl, (by repeat (first | (with_reducible exact Ext.refl _) | (with_reducible assumption) | (with_reducible refine Ext.alloc ?_ _) | (with_reducible refine Ext.drew ?_) | (with_reducible refine Ext.out ?_ (by with_reducible assumption) ?ge; case ge => omega) | (with_reducible refine Ext.trans ?_ (by with_reducible assumption))))⟩
  rw [szR_pos (by omega)]
  have hb0 : x0.ases.length + x0.links.length ≤ 1048576 := by omega
  have bc0 : Blk w_1 (w.heap.size) 36 [.slice A0_0 n0_0 c0_0, .slice A0_1 n0_1 c0_1] := (by repeat (first | (with_reducible exact BX0.out) | (with_reducible refine Blk.drew ?_) | (with_reducible refine Blk.ext ?_ (by with_reducible assumption)) | (with_reducible refine Blk.out ?_ (by with_reducible assumption) ?ge; case ge => omega)))
  obtain ⟨q0_0, q0_1⟩ := blk2 bc0
  clear bc0
  have bc1 : Blk w_1 (w.heap.size + 1) 40 [I x1.asn, I x1.keyDigest, I x1.rootVersion, I x1.notBefore, I x1.notAfter, I x1.sig.asn, I x1.sig.value] := (by repeat (first | (with_reducible exact BX1.out) | (with_reducible refine Blk.drew ?_) | (with_reducible refine Blk.ext ?_ (by with_reducible assumption)) | (with_reducible refine Blk.out ?_ (by with_reducible assumption) ?ge; case ge => omega)))
  obtain ⟨q1_0, q1_1, q1_2, q1_3, q1_4, q1_5, q1_6⟩ := blk7 bc1
  clear bc1
  go_wp2_with fail
  clear q0_0 q0_1 q1_0 q1_1 q1_2 q1_3 q1_4 q1_5 q1_6
  have bc0 : Blk w_1 (w.heap.size) 36 [.slice A0_0 n0_0 c0_0, .slice A0_1 n0_1 c0_1] := (by repeat (first | (with_reducible exact BX0.out) | (with_reducible refine Blk.drew ?_) | (with_reducible refine Blk.ext ?_ (by with_reducible assumption)) | (with_reducible refine Blk.out ?_ (by with_reducible assumption) ?ge; case ge => omega)))
  have lt0 := bc0.lt
  obtain ⟨q0_0, q0_1⟩ := blk2 bc0
  clear bc0
  have bc1 : Blk w_1 (w.heap.size + 1) 40 [I x1.asn, I x1.keyDigest, I x1.rootVersion, I x1.notBefore, I x1.notAfter, I x1.sig.asn, I x1.sig.value] := (by repeat (first | (with_reducible exact BX1.out) | (with_reducible refine Blk.drew ?_) | (with_reducible refine Blk.ext ?_ (by with_reducible assumption)) | (with_reducible refine Blk.out ?_ (by with_reducible assumption) ?ge; case ge => omega)))
  have lt1 := bc1.lt
  obtain ⟨q1_0, q1_1, q1_2, q1_3, q1_4, q1_5, q1_6⟩ := blk7 bc1
  clear bc1
  go_region_held3 (fun W => w_1.heap.size ≤ W.heap.size ∧ ∀ b o, b < w_1.heap.size → W.cell? ⟨b, o, none⟩ = w_1.cell? ⟨b, o, none⟩)
    (first | exact ⟨Nat.le_refl _, fun _ _ _ => rfl⟩ | exact keepC (by assumption) e_4 | exact keepC (by assumption) e_3 | exact keepC (by assumption) e_2)
    (first | (go_at_call 12; (with_reducible refine Calls.mono (toTopology (.agg #[.slice A0_0 n0_0 c0_0, .slice A0_1 n0_1 c0_1]) x0 _ ?s0 ?s1) ?_); (case s0 => exact H0.out.ext (by repeat (first | (with_reducible exact Ext.refl _) | (with_reducible assumption) | (with_reducible refine Ext.alloc ?_ _) | (with_reducible refine Ext.drew ?_) | (with_reducible refine Ext.out ?_ (by with_reducible assumption) ?ge; case ge => omega) | (with_reducible refine Ext.trans ?_ (by with_reducible assumption))))); (case s1 => omega); rintro e w_2 ⟨u_2, rfl, o_2, e_2⟩; have z_2 : w_1.heap.size ≤ w_2.heap.size := e_2.size; have o_2 : TopologyO w_1.heap.size w_2.heap.size w_2 _ _ := o_2) | (go_at_call 13; (with_reducible refine Calls.mono (toCertificate x1 _) ?_); rintro e w_3 ⟨rfl, e_3⟩; have z_3 := e_3.size) | (go_at_call 11; (with_reducible refine Calls.mono (spec_FormatCertificate _ x1 x0 _ ?s0) ?_); (case s0 => exact TopologyO_rd (lo := w_1.heap.size) (hi := w_2.heap.size) (by repeat (first | (with_reducible exact o_2) | (with_reducible refine TopologyO.drew ?_) | (with_reducible refine TopologyO.ext ?_ (by with_reducible assumption) ?ge; case ge => first | omega | (simp only [World.size_drew]; omega)) | (with_reducible refine TopologyO.out ?_ (by with_reducible assumption) ?ge; case ge => omega))) (by omega)); rintro e w_4 ⟨rfl, e_4⟩; have z_4 := e_4.size))
  clear q0_0 q0_1 q1_0 q1_1 q1_2 q1_3 q1_4 q1_5 q1_6 lt0 lt1
  have O_2 := Lib.hid o_2; clear o_2
  obtain ⟨A_2_0, n_2_0, c_2_0, A_2_1, n_2_1, c_2_1, hv_2⟩ := O_2.out.shape
  subst hv_2
  have bc0 : Blk w_4 (w.heap.size) 36 [.slice A0_0 n0_0 c0_0, .slice A0_1 n0_1 c0_1] := (by repeat (first | (with_reducible exact BX0.out) | (with_reducible refine Blk.drew ?_) | (with_reducible refine Blk.ext ?_ (by with_reducible assumption)) | (with_reducible refine Blk.out ?_ (by with_reducible assumption) ?ge; case ge => omega)))
  obtain ⟨q0_0, q0_1⟩ := blk2 bc0
  clear bc0
  have bc1 : Blk w_4 (w.heap.size + 1) 40 [I x1.asn, I x1.keyDigest, I x1.rootVersion, I x1.notBefore, I x1.notAfter, I x1.sig.asn, I x1.sig.value] := (by repeat (first | (with_reducible exact BX1.out) | (with_reducible refine Blk.drew ?_) | (with_reducible refine Blk.ext ?_ (by with_reducible assumption)) | (with_reducible refine Blk.out ?_ (by with_reducible assumption) ?ge; case ge => omega)))
  obtain ⟨q1_0, q1_1, q1_2, q1_3, q1_4, q1_5, q1_6⟩ := blk7 bc1
  clear bc1
  go_wp2_with fail
  clear q0_0 q0_1 q1_0 q1_1 q1_2 q1_3 q1_4 q1_5 q1_6
  refine (toTopology (.agg #[.slice A0_0 n0_0 c0_0, .slice A0_1 n0_1 c0_1]) x0 _ (by exact H0.out.ext (by repeat (first | (with_reducible exact Ext.refl _) | (with_reducible assumption) | (with_reducible refine Ext.alloc ?_ _) | (with_reducible refine Ext.drew ?_) | (with_reducible refine Ext.out ?_ (by with_reducible assumption) ?ge; case ge => omega) | (with_reducible refine Ext.trans ?_ (by with_reducible assumption))))) (by omega)).mono ?_
  rintro e w_5 ⟨u_5, rfl, o_5, e_5⟩
  have z_5 := e_5.size
  have O_5 := Lib.hid o_5; clear o_5
  obtain ⟨A_5_0, n_5_0, c_5_0, A_5_1, n_5_1, c_5_1, hv_5⟩ := O_5.out.shape
  subst hv_5
  have bc0 : Blk w_5 (w.heap.size) 36 [.slice A0_0 n0_0 c0_0, .slice A0_1 n0_1 c0_1] := (by repeat (first | (with_reducible exact BX0.out) | (with_reducible refine Blk.drew ?_) | (with_reducible refine Blk.ext ?_ (by with_reducible assumption)) | (with_reducible refine Blk.out ?_ (by with_reducible assumption) ?ge; case ge => omega)))
  have lt0 := bc0.lt
  obtain ⟨q0_0, q0_1⟩ := blk2 bc0
  clear bc0
  have bc1 : Blk w_5 (w.heap.size + 1) 40 [I x1.asn, I x1.keyDigest, I x1.rootVersion, I x1.notBefore, I x1.notAfter, I x1.sig.asn, I x1.sig.value] := (by repeat (first | (with_reducible exact BX1.out) | (with_reducible refine Blk.drew ?_) | (with_reducible refine Blk.ext ?_ (by with_reducible assumption)) | (with_reducible refine Blk.out ?_ (by with_reducible assumption) ?ge; case ge => omega)))
  have lt1 := bc1.lt
  obtain ⟨q1_0, q1_1, q1_2, q1_3, q1_4, q1_5, q1_6⟩ := blk7 bc1
  clear bc1
  go_wp2_with fail
  clear q0_0 q0_1 q1_0 q1_1 q1_2 q1_3 q1_4 q1_5 q1_6 lt0 lt1
  have bxLw5 : Blk (w_5.alloc (.cells #[.slice A_5_0 n_5_0 c_5_0, .slice A_5_1 n_5_1 c_5_1] 46)) w_5.heap.size 46 [.slice A_5_0 n_5_0 c_5_0, .slice A_5_1 n_5_1 c_5_1] := Blk.new _ _ _
  have BXLw5 := Lib.hid bxLw5; clear bxLw5
  have ewLw5 : Ext w_5 (w_5.alloc (.cells #[.slice A_5_0 n_5_0 c_5_0, .slice A_5_1 n_5_1 c_5_1] 46)) := (Ext.refl _).alloc _
  have zwLw5 : w_5.heap.size + 1 ≤ (w_5.alloc (.cells #[.slice A_5_0 n_5_0 c_5_0, .slice A_5_1 n_5_1 c_5_1] 46)).heap.size := by simp only [World.size_alloc]; omega
  generalize (w_5.alloc (.cells #[.slice A_5_0 n_5_0 c_5_0, .slice A_5_1 n_5_1 c_5_1] 46)) = w_5b at *
  have bc0 : Blk w_5b (w.heap.size) 36 [.slice A0_0 n0_0 c0_0, .slice A0_1 n0_1 c0_1] := (by repeat (first | (with_reducible exact BX0.out) | (with_reducible refine Blk.drew ?_) | (with_reducible refine Blk.ext ?_ (by with_reducible assumption)) | (with_reducible refine Blk.out ?_ (by with_reducible assumption) ?ge; case ge => omega)))
  have lt0 := bc0.lt
  obtain ⟨q0_0, q0_1⟩ := blk2 bc0
  clear bc0
  have bc1 : Blk w_5b (w.heap.size + 1) 40 [I x1.asn, I x1.keyDigest, I x1.rootVersion, I x1.notBefore, I x1.notAfter, I x1.sig.asn, I x1.sig.value] := (by repeat (first | (with_reducible exact BX1.out) | (with_reducible refine Blk.drew ?_) | (with_reducible refine Blk.ext ?_ (by with_reducible assumption)) | (with_reducible refine Blk.out ?_ (by with_reducible assumption) ?ge; case ge => omega)))
  have lt1 := bc1.lt
  obtain ⟨q1_0, q1_1, q1_2, q1_3, q1_4, q1_5, q1_6⟩ := blk7 bc1
  clear bc1
  have bcLw5 : Blk w_5b (w_5.heap.size) 46 [.slice A_5_0 n_5_0 c_5_0, .slice A_5_1 n_5_1 c_5_1] := (by repeat (first | (with_reducible exact BXLw5.out) | (with_reducible refine Blk.drew ?_) | (with_reducible refine Blk.ext ?_ (by with_reducible assumption)) | (with_reducible refine Blk.out ?_ (by with_reducible assumption) ?ge; case ge => omega)))
  have ltLw5 := bcLw5.lt
  obtain ⟨qLw5_0, qLw5_1⟩ := blk2 bcLw5
  clear bcLw5
  go_region_held3 (fun W => w_5b.heap.size ≤ W.heap.size ∧ ∀ b o, b < w_5b.heap.size → W.cell? ⟨b, o, none⟩ = w_5b.cell? ⟨b, o, none⟩)
    (first | exact ⟨Nat.le_refl _, fun _ _ _ => rfl⟩ | exact keepC (by assumption) e_7 | exact keepC (by assumption) e_6)
    (first | (go_at_call 13; (with_reducible refine Calls.mono (toCertificate x1 _) ?_); rintro e w_6 ⟨rfl, e_6⟩; have z_6 : w_5b.heap.size ≤ w_6.heap.size := e_6.size) | (go_at_call 14; (with_reducible refine Calls.mono (impl_FormatCertificate _ x1 x0 _ ?s0) ?_); (case s0 => exact TopologyO_rd (lo := w_4.heap.size) (hi := w_5.heap.size) (by repeat (first | (with_reducible exact O_5.out) | (with_reducible refine TopologyO.drew ?_) | (with_reducible refine TopologyO.ext ?_ (by with_reducible assumption) ?ge; case ge => first | omega | (simp only [World.size_drew]; omega)) | (with_reducible refine TopologyO.out ?_ (by with_reducible assumption) ?ge; case ge => omega))) (by omega)); rintro e w_7 ⟨rfl, e_7⟩; have z_7 := e_7.size))
  clear q0_0 q0_1 q1_0 q1_1 q1_2 q1_3 q1_4 q1_5 q1_6 qLw5_0 qLw5_1 lt0 lt1 ltLw5
  generalize fmtCert x0 x1 = r at *
  have bc0 : Blk w_7 (w.heap.size) 36 [.slice A0_0 n0_0 c0_0, .slice A0_1 n0_1 c0_1] := (by repeat (first | (with_reducible exact BX0.out) | (with_reducible refine Blk.drew ?_) | (with_reducible refine Blk.ext ?_ (by with_reducible assumption)) | (with_reducible refine Blk.out ?_ (by with_reducible assumption) ?ge; case ge => omega)))
  obtain ⟨q0_0, q0_1⟩ := blk2 bc0
  clear bc0
  have bc1 : Blk w_7 (w.heap.size + 1) 40 [I x1.asn, I x1.keyDigest, I x1.rootVersion, I x1.notBefore, I x1.notAfter, I x1.sig.asn, I x1.sig.value] := (by repeat (first | (with_reducible exact BX1.out) | (with_reducible refine Blk.drew ?_) | (with_reducible refine Blk.ext ?_ (by with_reducible assumption)) | (with_reducible refine Blk.out ?_ (by with_reducible assumption) ?ge; case ge => omega)))
  obtain ⟨q1_0, q1_1, q1_2, q1_3, q1_4, q1_5, q1_6⟩ := blk7 bc1
  clear bc1
  have bcLw5 : Blk w_7 (w_5.heap.size) 46 [.slice A_5_0 n_5_0 c_5_0, .slice A_5_1 n_5_1 c_5_1] := (by repeat (first | (with_reducible exact BXLw5.out) | (with_reducible refine Blk.drew ?_) | (with_reducible refine Blk.ext ?_ (by with_reducible assumption)) | (with_reducible refine Blk.out ?_ (by with_reducible assumption) ?ge; case ge => omega)))
  obtain ⟨qLw5_0, qLw5_1⟩ := blk2 bcLw5
  clear bcLw5
  go_wp2_with fail
  clear q0_0 q0_1 q1_0 q1_1 q1_2 q1_3 q1_4 q1_5 q1_6 qLw5_0 qLw5_1
  have bc0 : Blk w_7 (w.heap.size) 36 [.slice A0_0 n0_0 c0_0, .slice A0_1 n0_1 c0_1] := (by repeat (first | (with_reducible exact BX0.out) | (with_reducible refine Blk.drew ?_) | (with_reducible refine Blk.ext ?_ (by with_reducible assumption)) | (with_reducible refine Blk.out ?_ (by with_reducible assumption) ?ge; case ge => omega)))
  have lt0 := bc0.lt
  obtain ⟨q0_0, q0_1⟩ := blk2 bc0
  clear bc0
  have bc1 : Blk w_7 (w.heap.size + 1) 40 [I x1.asn, I x1.keyDigest, I x1.rootVersion, I x1.notBefore, I x1.notAfter, I x1.sig.asn, I x1.sig.value] := (by repeat (first | (with_reducible exact BX1.out) | (with_reducible refine Blk.drew ?_) | (with_reducible refine Blk.ext ?_ (by with_reducible assumption)) | (with_reducible refine Blk.out ?_ (by with_reducible assumption) ?ge; case ge => omega)))
  have lt1 := bc1.lt
  obtain ⟨q1_0, q1_1, q1_2, q1_3, q1_4, q1_5, q1_6⟩ := blk7 bc1
  clear bc1
  have bcLw5 : Blk w_7 (w_5.heap.size) 46 [.slice A_5_0 n_5_0 c_5_0, .slice A_5_1 n_5_1 c_5_1] := (by repeat (first | (with_reducible exact BXLw5.out) | (with_reducible refine Blk.drew ?_) | (with_reducible refine Blk.ext ?_ (by with_reducible assumption)) | (with_reducible refine Blk.out ?_ (by with_reducible assumption) ?ge; case ge => omega)))
  have ltLw5 := bcLw5.lt
  obtain ⟨qLw5_0, qLw5_1⟩ := blk2 bcLw5
  clear bcLw5
  go_region_held3 (fun W => w_7.heap.size ≤ W.heap.size ∧ ∀ b o, b < w_7.heap.size → W.cell? ⟨b, o, none⟩ = w_7.cell? ⟨b, o, none⟩)
    (first | exact ⟨Nat.le_refl _, fun _ _ _ => rfl⟩ | exact keepC (by assumption) e_9 | exact keepC (by assumption) e_8)
    (first | (go_at_call 12; (with_reducible refine Calls.mono (toTopology (.agg #[.slice A0_0 n0_0 c0_0, .slice A0_1 n0_1 c0_1]) x0 _ ?s0 ?s1) ?_); (case s0 => exact H0.out.ext (by repeat (first | (with_reducible exact Ext.refl _) | (with_reducible assumption) | (with_reducible refine Ext.alloc ?_ _) | (with_reducible refine Ext.drew ?_) | (with_reducible refine Ext.out ?_ (by with_reducible assumption) ?ge; case ge => omega) | (with_reducible refine Ext.trans ?_ (by with_reducible assumption))))); (case s1 => omega); rintro e w_8 ⟨u_8, rfl, o_8, e_8⟩; have z_8 : w_7.heap.size ≤ w_8.heap.size := e_8.size; have o_8 : TopologyO w_7.heap.size w_8.heap.size w_8 _ _ := o_8) | (go_at_call 15; (with_reducible refine Calls.mono (eqTopology _ _ x0 x0 _ ?s0 ?s1) ?_); (case s0 => exact TopologyO_rd (lo := w_4.heap.size) (hi := w_5.heap.size) (by repeat (first | (with_reducible exact O_5.out) | (with_reducible refine TopologyO.drew ?_) | (with_reducible refine TopologyO.ext ?_ (by with_reducible assumption) ?ge; case ge => first | omega | (simp only [World.size_drew]; omega)) | (with_reducible refine TopologyO.out ?_ (by with_reducible assumption) ?ge; case ge => omega))) (by omega)); (case s1 => exact TopologyO_rd (lo := w_7.heap.size) (hi := w_8.heap.size) (by repeat (first | (with_reducible exact o_8) | (with_reducible refine TopologyO.drew ?_) | (with_reducible refine TopologyO.ext ?_ (by with_reducible assumption) ?ge; case ge => first | omega | (simp only [World.size_drew]; omega)) | (with_reducible refine TopologyO.out ?_ (by with_reducible assumption) ?ge; case ge => omega))) (by omega)); rintro e w_9 ⟨rfl, e_9⟩; have z_9 := e_9.size))
  clear q0_0 q0_1 q1_0 q1_1 q1_2 q1_3 q1_4 q1_5 q1_6 qLw5_0 qLw5_1 lt0 lt1 ltLw5
  have O_8 := Lib.hid o_8; clear o_8
  obtain ⟨A_8_0, n_8_0, c_8_0, A_8_1, n_8_1, c_8_1, hv_8⟩ := O_8.out.shape
  subst hv_8
  try rw [decide_eq_true rfl]
  have bc0 : Blk w_9 (w.heap.size) 36 [.slice A0_0 n0_0 c0_0, .slice A0_1 n0_1 c0_1] := (by repeat (first | (with_reducible exact BX0.out) | (with_reducible refine Blk.drew ?_) | (with_reducible refine Blk.ext ?_ (by with_reducible assumption)) | (with_reducible refine Blk.out ?_ (by with_reducible assumption) ?ge; case ge => omega)))
  obtain ⟨q0_0, q0_1⟩ := blk2 bc0
  clear bc0
  have bc1 : Blk w_9 (w.heap.size + 1) 40 [I x1.asn, I x1.keyDigest, I x1.rootVersion, I x1.notBefore, I x1.notAfter, I x1.sig.asn, I x1.sig.value] := (by repeat (first | (with_reducible exact BX1.out) | (with_reducible refine Blk.drew ?_) | (with_reducible refine Blk.ext ?_ (by with_reducible assumption)) | (with_reducible refine Blk.out ?_ (by with_reducible assumption) ?ge; case ge => omega)))
  obtain ⟨q1_0, q1_1, q1_2, q1_3, q1_4, q1_5, q1_6⟩ := blk7 bc1
  clear bc1
  have bcLw5 : Blk w_9 (w_5.heap.size) 46 [.slice A_5_0 n_5_0 c_5_0, .slice A_5_1 n_5_1 c_5_1] := (by repeat (first | (with_reducible exact BXLw5.out) | (with_reducible refine Blk.drew ?_) | (with_reducible refine Blk.ext ?_ (by with_reducible assumption)) | (with_reducible refine Blk.out ?_ (by with_reducible assumption) ?ge; case ge => omega)))
  obtain ⟨qLw5_0, qLw5_1⟩ := blk2 bcLw5
  clear bcLw5
  go_wp2_with fail
  clear q0_0 q0_1 q1_0 q1_1 q1_2 q1_3 q1_4 q1_5 q1_6 qLw5_0 qLw5_1
  go_ret
  exact ⟨rfl, (by repeat (first | (with_reducible exact Ext.refl _) | (with_reducible assumption) | (with_reducible refine Ext.alloc ?_ _) | (with_reducible refine Ext.drew ?_) | (with_reducible refine Ext.out ?_ (by with_reducible assumption) ?ge; case ge => omega) | (with_reducible refine Ext.trans ?_ (by with_reducible assumption))))⟩
set_option maxRecDepth 100000 in
theorem lifted (os : Os) (started : os.Started) (H : Type) (enc : TypeId × Value → H) :
    ReturnsInHanded {} Try.checked os 4 .any (Rows.fnExactFormatCertificateSpec.pre6 enc Try.prog Try.f4 Rows.fnExactFormatCertificateRow.domain false) (Rows.fnExactFormatCertificateSpec.post enc Try.prog Try.f4 false true false false) := by
  refine returnsInHanded_of_change (C := Try.checked) own started (by kernel_rfl) Try.func4
    (ChangeSpec.witness6 (enc := enc) (C := Try.checked) false ⟨#[], #[.agg #[.slice none 0 0, .slice none 0 0], .agg #[.int .i64 0, .int .i64 0, .int .i64 0, .int .i64 0, .int .i64 0, .int .i64 0, .int .i64 0]], []⟩ 8 (by kernel_rfl) (by kernel_rfl) (by kernel_rfl) (by kernel_rfl)) ?_
  intro W base args ds gs before hval0 hW hcnd _
  have hval : ∀ (j : Nat) t v, Try.f4.params[j]? = some t → args[j]? = some v → Value.okWide Try.prog W .any base t v := hval0
  have hW' := hW
  obtain ⟨p, q, hA0, hV, rfl, hfz, hnd⟩ := hW
  have hA : DataW.TrodAll enc Try.prog W 0 (fun _ => true) true Try.f4.params.toList args.toList ds p := hA0
  rw [Try.params4] at hA hval
  obtain ⟨v0, vs0, d0, ds0, p0, q0, hargs, rfl, rfl, h0, r0⟩ := trodAll_cons hA
  obtain ⟨v1, vs1, d1, ds1, p1, q1, rfl, rfl, rfl, h1, r1⟩ := trodAll_cons r0
  obtain ⟨rfl, rfl, rfl⟩ := trodAll_nil r1
  obtain rfl : args = #[v0, v1] := by cases args; simp_all
  obtain ⟨rfl, rfl⟩ := trodVars_none hV
  have k0 := h0
  have lt0 : ∀ x ∈ p0, x.block < W.heap.size := by obtain ⟨m, hm⟩ := k0; exact DataW.trod_lt m _ _ _ hm
  obtain ⟨cs0, rfl, _⟩ := okWide_struct Try.underlying36 (hval 0 36 v0 rfl rfl)
  obtain ⟨x0, y0⟩ : ∃ d, TopologyV W.heap.size W (.agg cs0) d := by
    obtain ⟨fuel, hf⟩ := h0
    obtain ⟨d, A0, n0, c0, A1, n1, c1, e, s0, s1⟩ := read_Topology hf
    have e1 : cs0 = #[.slice A0 n0 c0, .slice A1 n1 c1] := by cases cs0; simpa [Value.cells] using e
    exact ⟨d, ⟨_, _, _, _, _, _, by rw [e1], s0, s1⟩⟩
  have k1 := h1
  have lt1 : ∀ x ∈ p1, x.block < W.heap.size := by obtain ⟨m, hm⟩ := k1; exact DataW.trod_lt m _ _ _ hm
  obtain ⟨cs1, rfl, _⟩ := okWide_struct Try.underlying40 (hval 1 40 v1 rfl rfl)
  obtain ⟨x1, y1⟩ : ∃ d, CertificateV W.heap.size W (.agg cs1) d := by
    obtain ⟨fuel, hf⟩ := h1
    obtain ⟨d, e⟩ := read_Certificate hf
    have e1 : cs1 = #[I d.asn, I d.keyDigest, I d.rootVersion, I d.notBefore, I d.notAfter, I d.sig.asn, I d.sig.value] := by cases cs1; simpa [Value.cells] using e
    exact ⟨d, by unfold CertificateV; rw [e1]⟩
  obtain rfl : cs1 = #[I x1.asn, I x1.keyDigest, I x1.rootVersion, I x1.notBefore, I x1.notAfter, I x1.sig.asn, I x1.sig.value] := by simpa [CertificateV] using y1
  clear hA0 hval0
  refine (walk _ x0 x1 W y0).mono fun e W' ⟨he, bel⟩ => ?_
  subst he
  exact ⟨_, rfl, _, _, _, [], _, [], hW', trodAll_mk1 (shut_bool Try.underlying4 _), (trodAll_cons_mk (Below.trod laidOut (by kernel_rfl) (of_decide_eq_true (by kernel_rfl)) k0 bel.below lt0) (trodAll_cons_mk (Below.trod laidOut (by kernel_rfl) (of_decide_eq_true (by kernel_rfl)) k1 bel.below lt1) trodAll_mk0)), rfl, bel.below.frame _, fun h => by cases h⟩

theorem over : Rows.fnExactFormatCertificateRow.holds Try.pinned (OpenSpec.ofChange Rows.fnExactFormatCertificateSpec) :=
  OpenClaim.holds_of_wide 4 Try.f4 rfl rfl rfl rfl rfl rfl rfl ⟨rfl, rfl, rfl, rfl, rfl⟩ rfl rfl rfl rfl rfl (by kernel_rfl) Try.func4 (by kernel_rfl)
    (of_decide_eq_true (by kernel_rfl)) (by unfold Func.isWrapper; first | (rw [if_pos (by decide +kernel)]; kernel_rfl) | (rw [if_neg (by decide +kernel)]; exact ⟨rfl, rfl⟩))
    (fun os started H enc _ => lifted os started H enc)

/-- The statement. -/
theorem proved : Rows.FnExactFormatCertificateSaid := over
#print axioms proved
end Go.Proofs.Ytnglhofegajbiaa.lawFormatCertificate
