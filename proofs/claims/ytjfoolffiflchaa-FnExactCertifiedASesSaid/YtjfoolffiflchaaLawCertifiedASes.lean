/- The law FnExactCertifiedASes returns true for every input and changes no argument. No conditions. -/
import Derived.Test.YtjfoolffiflchaaL19c
import Derived.Test.YtjfoolffiflchaaRead
namespace Go.Proofs.Ytjfoolffiflchaa.lawCertifiedASes
open Go.RowKit
set_option linter.unusedVariables false
open Go.ChangeShapes Go.WideShapes Go.ChangeAt
theorem own : ownKnob Try.prog.godebug = none := by kernel_rfl
theorem laidOut : laidOutB Try.prog = true := by kernel_rfl

set_option maxRecDepth 100000 in
set_option maxHeartbeats 1000000 in
theorem walk (v0 : Value) (x0 : DTopology) (v1 : Value) (x1 : List DTrustRoot) (v2 : Value) (x2 : List DCertificate) (a3 : Int) (w : World) (h0 : TopologyV w.heap.size w v0 x0) (h1 : TrustRootS w.heap.size w v1 x1) (h2 : CertificateS w.heap.size w v2 x2) :
    Calls Try.prog 12 #[v0, v1, v2, I a3] w fun e w' => e = .returned (.bool true) ∧ Ext w w' := by
  have H0 := Lib.hid h0
  obtain ⟨A0_0, n0_0, c0_0, A0_1, n0_1, c0_1, rfl, -⟩ := h0
  obtain ⟨A1, n1, c1, rfl, hl1, hn1, hm1, -⟩ := id h1
  subst hl1
  unfold maxLen at hm1
  have H1 := Lib.hid h1; clear h1
  obtain ⟨A2, n2, c2, rfl, hl2, hn2, hm2, -⟩ := id h2
  subst hl2
  unfold maxLen at hm2
  have H2 := Lib.hid h2; clear h2
  go_enter Try.func12, Try.ntmps12
  go_wp2_with fail
  have bx0 : Blk (w.alloc (.cells #[.slice A0_0 n0_0 c0_0, .slice A0_1 n0_1 c0_1] 25)) (w.heap.size) 25 [.slice A0_0 n0_0 c0_0, .slice A0_1 n0_1 c0_1] := by simpa using Blk.new w 25 [.slice A0_0 n0_0 c0_0, .slice A0_1 n0_1 c0_1]
  have BX0 := Lib.hid bx0; clear bx0
  have ew : Ext w (w.alloc (.cells #[.slice A0_0 n0_0 c0_0, .slice A0_1 n0_1 c0_1] 25)) := (by repeat (first | (with_reducible exact Ext.refl _) | (with_reducible assumption) | (with_reducible refine Ext.alloc ?_ _) | (with_reducible refine Ext.drew ?_) | (with_reducible refine Ext.out ?_ (by with_reducible assumption) ?ge; case ge => omega) | (with_reducible refine Ext.trans ?_ (by with_reducible assumption))))
  have zw : w.heap.size + 1 ≤ (w.alloc (.cells #[.slice A0_0 n0_0 c0_0, .slice A0_1 n0_1 c0_1] 25)).heap.size := by simp only [World.size_alloc]; omega
  generalize (w.alloc (.cells #[.slice A0_0 n0_0 c0_0, .slice A0_1 n0_1 c0_1] 25)) = w0 at *
  refine (szTopology _ x0 (1048576) _ (by exact H0.out.ext (by repeat (first | (with_reducible exact Ext.refl _) | (with_reducible assumption) | (with_reducible refine Ext.alloc ?_ _) | (with_reducible refine Ext.drew ?_) | (with_reducible refine Ext.out ?_ (by with_reducible assumption) ?ge; case ge => omega) | (with_reducible refine Ext.trans ?_ (by with_reducible assumption))))) (by omega) (by omega)).mono ?_
  rintro e w_1 ⟨rfl, e_1⟩
  have z_1 := e_1.size
  by_cases hlt0 : 1048576 < ((x0.ases.length + x0.links.length : Nat) : Int)
  · rw [szR_neg hlt0]
    go_wp2_with fail
    go_ret
    exact ⟨rfl, (by repeat (first | (with_reducible exact Ext.refl _) | (with_reducible assumption) | (with_reducible refine Ext.alloc ?_ _) | (with_reducible refine Ext.drew ?_) | (with_reducible refine Ext.out ?_ (by with_reducible assumption) ?ge; case ge => omega) | (with_reducible refine Ext.trans ?_ (by with_reducible assumption))))⟩
  rw [szR_pos (by omega)]
  have hb0 : x0.ases.length + x0.links.length ≤ 1048576 := by omega
  have bc0 : Blk w_1 (w.heap.size) 25 [.slice A0_0 n0_0 c0_0, .slice A0_1 n0_1 c0_1] := (by repeat (first | (with_reducible exact BX0.out) | (with_reducible refine Blk.drew ?_) | (with_reducible refine Blk.ext ?_ (by with_reducible assumption)) | (with_reducible refine Blk.out ?_ (by with_reducible assumption) ?ge; case ge => omega)))
  obtain ⟨q0_0, q0_1⟩ := blk2 bc0
  clear bc0
  go_wp2_with fail
  clear q0_0 q0_1
  refine (szTrustRootS _ x1 (1048576 - ((x0.ases.length + x0.links.length : Nat) : Int)) _ (by exact H1.out.ext (by repeat (first | (with_reducible exact Ext.refl _) | (with_reducible assumption) | (with_reducible refine Ext.alloc ?_ _) | (with_reducible refine Ext.drew ?_) | (with_reducible refine Ext.out ?_ (by with_reducible assumption) ?ge; case ge => omega) | (with_reducible refine Ext.trans ?_ (by with_reducible assumption))))) (by omega) (by omega)).mono ?_
  rintro e w_2 ⟨rfl, e_2⟩
  have z_2 := e_2.size
  by_cases hlt1 : 1048576 - ((x0.ases.length + x0.links.length : Nat) : Int) < ((totS (fun y => y.sigs.length) x1 : Nat) : Int)
  · rw [szR_neg hlt1]
    go_wp2_with fail
    go_ret
    exact ⟨rfl, (by repeat (first | (with_reducible exact Ext.refl _) | (with_reducible assumption) | (with_reducible refine Ext.alloc ?_ _) | (with_reducible refine Ext.drew ?_) | (with_reducible refine Ext.out ?_ (by with_reducible assumption) ?ge; case ge => omega) | (with_reducible refine Ext.trans ?_ (by with_reducible assumption))))⟩
  rw [szR_pos (by omega)]
  have hb1 : totS (fun y => y.sigs.length) x1 ≤ 1048576 := by omega
  have bc0 : Blk w_2 (w.heap.size) 25 [.slice A0_0 n0_0 c0_0, .slice A0_1 n0_1 c0_1] := (by repeat (first | (with_reducible exact BX0.out) | (with_reducible refine Blk.drew ?_) | (with_reducible refine Blk.ext ?_ (by with_reducible assumption)) | (with_reducible refine Blk.out ?_ (by with_reducible assumption) ?ge; case ge => omega)))
  obtain ⟨q0_0, q0_1⟩ := blk2 bc0
  clear bc0
  go_wp2_with fail
  clear q0_0 q0_1
  refine (szCertificateS _ x2 (1048576 - ((x0.ases.length + x0.links.length : Nat) : Int) - ((totS (fun y => y.sigs.length) x1 : Nat) : Int)) _ (by exact H2.out.ext (by repeat (first | (with_reducible exact Ext.refl _) | (with_reducible assumption) | (with_reducible refine Ext.alloc ?_ _) | (with_reducible refine Ext.drew ?_) | (with_reducible refine Ext.out ?_ (by with_reducible assumption) ?ge; case ge => omega) | (with_reducible refine Ext.trans ?_ (by with_reducible assumption))))) (by omega) (by omega)).mono ?_
  rintro e w_3 ⟨rfl, e_3⟩
  have z_3 := e_3.size
  by_cases hlt2 : 1048576 - ((x0.ases.length + x0.links.length : Nat) : Int) - ((totS (fun y => y.sigs.length) x1 : Nat) : Int) < ((x2.length : Nat) : Int)
  · rw [szR_neg hlt2]
    go_wp2_with fail
    go_ret
    exact ⟨rfl, (by repeat (first | (with_reducible exact Ext.refl _) | (with_reducible assumption) | (with_reducible refine Ext.alloc ?_ _) | (with_reducible refine Ext.drew ?_) | (with_reducible refine Ext.out ?_ (by with_reducible assumption) ?ge; case ge => omega) | (with_reducible refine Ext.trans ?_ (by with_reducible assumption))))⟩
  rw [szR_pos (by omega)]
  have hb2 : x2.length ≤ 1048576 := by omega
  have bc0 : Blk w_3 (w.heap.size) 25 [.slice A0_0 n0_0 c0_0, .slice A0_1 n0_1 c0_1] := (by repeat (first | (with_reducible exact BX0.out) | (with_reducible refine Blk.drew ?_) | (with_reducible refine Blk.ext ?_ (by with_reducible assumption)) | (with_reducible refine Blk.out ?_ (by with_reducible assumption) ?ge; case ge => omega)))
  obtain ⟨q0_0, q0_1⟩ := blk2 bc0
  clear bc0
  go_wp2_with fail
  clear q0_0 q0_1
  refine (toTopology (.agg #[.slice A0_0 n0_0 c0_0, .slice A0_1 n0_1 c0_1]) x0 _ (by exact H0.out.ext (by repeat (first | (with_reducible exact Ext.refl _) | (with_reducible assumption) | (with_reducible refine Ext.alloc ?_ _) | (with_reducible refine Ext.drew ?_) | (with_reducible refine Ext.out ?_ (by with_reducible assumption) ?ge; case ge => omega) | (with_reducible refine Ext.trans ?_ (by with_reducible assumption))))) (by omega)).mono ?_
  rintro e w_4 ⟨u_4, rfl, o_4, e_4⟩
  have z_4 := e_4.size
  have O_4 := Lib.hid o_4; clear o_4
  obtain ⟨A_4_0, n_4_0, c_4_0, A_4_1, n_4_1, c_4_1, hv_4⟩ := O_4.out.shape
  subst hv_4
  have bc0 : Blk w_4 (w.heap.size) 25 [.slice A0_0 n0_0 c0_0, .slice A0_1 n0_1 c0_1] := (by repeat (first | (with_reducible exact BX0.out) | (with_reducible refine Blk.drew ?_) | (with_reducible refine Blk.ext ?_ (by with_reducible assumption)) | (with_reducible refine Blk.out ?_ (by with_reducible assumption) ?ge; case ge => omega)))
  obtain ⟨q0_0, q0_1⟩ := blk2 bc0
  clear bc0
  go_wp2_with fail
  clear q0_0 q0_1
  refine (toTrustRootS (.slice A1 x1.length c1) x1 _ (by exact H1.out.ext (by repeat (first | (with_reducible exact Ext.refl _) | (with_reducible assumption) | (with_reducible refine Ext.alloc ?_ _) | (with_reducible refine Ext.drew ?_) | (with_reducible refine Ext.out ?_ (by with_reducible assumption) ?ge; case ge => omega) | (with_reducible refine Ext.trans ?_ (by with_reducible assumption))))) (by omega)).mono ?_
  rintro e w_5 ⟨u_5, rfl, o_5, e_5⟩
  have z_5 := e_5.size
  have O_5 := Lib.hid o_5; clear o_5
  have bc0 : Blk w_5 (w.heap.size) 25 [.slice A0_0 n0_0 c0_0, .slice A0_1 n0_1 c0_1] := (by repeat (first | (with_reducible exact BX0.out) | (with_reducible refine Blk.drew ?_) | (with_reducible refine Blk.ext ?_ (by with_reducible assumption)) | (with_reducible refine Blk.out ?_ (by with_reducible assumption) ?ge; case ge => omega)))
  obtain ⟨q0_0, q0_1⟩ := blk2 bc0
  clear bc0
  go_wp2_with fail
  clear q0_0 q0_1
  refine (toCertificateS (.slice A2 x2.length c2) x2 _ (by exact H2.out.ext (by repeat (first | (with_reducible exact Ext.refl _) | (with_reducible assumption) | (with_reducible refine Ext.alloc ?_ _) | (with_reducible refine Ext.drew ?_) | (with_reducible refine Ext.out ?_ (by with_reducible assumption) ?ge; case ge => omega) | (with_reducible refine Ext.trans ?_ (by with_reducible assumption))))) (by omega)).mono ?_
  rintro e w_6 ⟨u_6, rfl, o_6, e_6⟩
  have z_6 := e_6.size
  have O_6 := Lib.hid o_6; clear o_6
  have bc0 : Blk w_6 (w.heap.size) 25 [.slice A0_0 n0_0 c0_0, .slice A0_1 n0_1 c0_1] := (by repeat (first | (with_reducible exact BX0.out) | (with_reducible refine Blk.drew ?_) | (with_reducible refine Blk.ext ?_ (by with_reducible assumption)) | (with_reducible refine Blk.out ?_ (by with_reducible assumption) ?ge; case ge => omega)))
  obtain ⟨q0_0, q0_1⟩ := blk2 bc0
  clear bc0
  go_wp2_with fail
  clear q0_0 q0_1
  refine (spec_CertifiedASes _ _ _ a3 x0 x1 x2 _ (by exact TopologyO_rd (lo := w_3.heap.size) (hi := w_4.heap.size) (by repeat (first | (with_reducible exact O_4.out) | (with_reducible refine TopologyO.drew ?_) | (with_reducible refine TopologyO.ext ?_ (by with_reducible assumption) ?ge; case ge => first | omega | (simp only [World.size_drew]; omega)) | (with_reducible refine TopologyO.out ?_ (by with_reducible assumption) ?ge; case ge => omega))) (by omega)) (by exact TrustRootSO_rd (lo := w_4.heap.size) (hi := w_5.heap.size) (by repeat (first | (with_reducible exact O_5.out) | (with_reducible refine TrustRootSO_drew ?_) | (with_reducible refine TrustRootSO_ext ?_ (by with_reducible assumption) ?ge; case ge => first | omega | (simp only [World.size_drew]; omega)) | (with_reducible refine TrustRootSO_out ?_ (by with_reducible assumption) ?ge; case ge => omega))) (by omega)) (by exact CertificateSO_rd (lo := w_5.heap.size) (hi := w_6.heap.size) (by repeat (first | (with_reducible exact O_6.out) | (with_reducible refine Own.drew ?_) | (with_reducible refine Own.ext ?_ (by with_reducible assumption) ?ge; case ge => first | omega | (simp only [World.size_drew]; omega)) | (with_reducible refine Own.out ?_ (by with_reducible assumption) ?ge; case ge => omega))))).mono ?_
  rintro e w_7 ⟨rfl, e_7⟩
  have z_7 := e_7.size
  have bc0 : Blk w_7 (w.heap.size) 25 [.slice A0_0 n0_0 c0_0, .slice A0_1 n0_1 c0_1] := (by repeat (first | (with_reducible exact BX0.out) | (with_reducible refine Blk.drew ?_) | (with_reducible refine Blk.ext ?_ (by with_reducible assumption)) | (with_reducible refine Blk.out ?_ (by with_reducible assumption) ?ge; case ge => omega)))
  obtain ⟨q0_0, q0_1⟩ := blk2 bc0
  clear bc0
  go_wp2_with fail
  clear q0_0 q0_1
  refine (toTopology (.agg #[.slice A0_0 n0_0 c0_0, .slice A0_1 n0_1 c0_1]) x0 _ (by exact H0.out.ext (by repeat (first | (with_reducible exact Ext.refl _) | (with_reducible assumption) | (with_reducible refine Ext.alloc ?_ _) | (with_reducible refine Ext.drew ?_) | (with_reducible refine Ext.out ?_ (by with_reducible assumption) ?ge; case ge => omega) | (with_reducible refine Ext.trans ?_ (by with_reducible assumption))))) (by omega)).mono ?_
  rintro e w_8 ⟨u_8, rfl, o_8, e_8⟩
  have z_8 := e_8.size
  have O_8 := Lib.hid o_8; clear o_8
  obtain ⟨A_8_0, n_8_0, c_8_0, A_8_1, n_8_1, c_8_1, hv_8⟩ := O_8.out.shape
  subst hv_8
  have bc0 : Blk w_8 (w.heap.size) 25 [.slice A0_0 n0_0 c0_0, .slice A0_1 n0_1 c0_1] := (by repeat (first | (with_reducible exact BX0.out) | (with_reducible refine Blk.drew ?_) | (with_reducible refine Blk.ext ?_ (by with_reducible assumption)) | (with_reducible refine Blk.out ?_ (by with_reducible assumption) ?ge; case ge => omega)))
  have lt0 := bc0.lt
  obtain ⟨q0_0, q0_1⟩ := blk2 bc0
  clear bc0
  go_wp2_with fail
  clear q0_0 q0_1 lt0
  have bxLw8 : Blk (w_8.alloc (.cells #[.slice A_8_0 n_8_0 c_8_0, .slice A_8_1 n_8_1 c_8_1] 35)) w_8.heap.size 35 [.slice A_8_0 n_8_0 c_8_0, .slice A_8_1 n_8_1 c_8_1] := Blk.new _ _ _
  have BXLw8 := Lib.hid bxLw8; clear bxLw8
  have ewLw8 : Ext w_8 (w_8.alloc (.cells #[.slice A_8_0 n_8_0 c_8_0, .slice A_8_1 n_8_1 c_8_1] 35)) := (Ext.refl _).alloc _
  have zwLw8 : w_8.heap.size + 1 ≤ (w_8.alloc (.cells #[.slice A_8_0 n_8_0 c_8_0, .slice A_8_1 n_8_1 c_8_1] 35)).heap.size := by simp only [World.size_alloc]; omega
  generalize (w_8.alloc (.cells #[.slice A_8_0 n_8_0 c_8_0, .slice A_8_1 n_8_1 c_8_1] 35)) = w_8b at *
  refine (toTrustRootS (.slice A1 x1.length c1) x1 _ (by exact H1.out.ext (by repeat (first | (with_reducible exact Ext.refl _) | (with_reducible assumption) | (with_reducible refine Ext.alloc ?_ _) | (with_reducible refine Ext.drew ?_) | (with_reducible refine Ext.out ?_ (by with_reducible assumption) ?ge; case ge => omega) | (with_reducible refine Ext.trans ?_ (by with_reducible assumption))))) (by omega)).mono ?_
  rintro e w_9 ⟨u_9, rfl, o_9, e_9⟩
  have z_9 := e_9.size
  have O_9 := Lib.hid o_9; clear o_9
  have bc0 : Blk w_9 (w.heap.size) 25 [.slice A0_0 n0_0 c0_0, .slice A0_1 n0_1 c0_1] := (by repeat (first | (with_reducible exact BX0.out) | (with_reducible refine Blk.drew ?_) | (with_reducible refine Blk.ext ?_ (by with_reducible assumption)) | (with_reducible refine Blk.out ?_ (by with_reducible assumption) ?ge; case ge => omega)))
  obtain ⟨q0_0, q0_1⟩ := blk2 bc0
  clear bc0
  have bcLw8 : Blk w_9 (w_8.heap.size) 35 [.slice A_8_0 n_8_0 c_8_0, .slice A_8_1 n_8_1 c_8_1] := (by repeat (first | (with_reducible exact BXLw8.out) | (with_reducible refine Blk.drew ?_) | (with_reducible refine Blk.ext ?_ (by with_reducible assumption)) | (with_reducible refine Blk.out ?_ (by with_reducible assumption) ?ge; case ge => omega)))
  obtain ⟨qLw8_0, qLw8_1⟩ := blk2 bcLw8
  clear bcLw8
  go_wp2_with fail
  clear q0_0 q0_1 qLw8_0 qLw8_1
  refine (toCertificateS (.slice A2 x2.length c2) x2 _ (by exact H2.out.ext (by repeat (first | (with_reducible exact Ext.refl _) | (with_reducible assumption) | (with_reducible refine Ext.alloc ?_ _) | (with_reducible refine Ext.drew ?_) | (with_reducible refine Ext.out ?_ (by with_reducible assumption) ?ge; case ge => omega) | (with_reducible refine Ext.trans ?_ (by with_reducible assumption))))) (by omega)).mono ?_
  rintro e w_10 ⟨u_10, rfl, o_10, e_10⟩
  have z_10 := e_10.size
  have O_10 := Lib.hid o_10; clear o_10
  have bc0 : Blk w_10 (w.heap.size) 25 [.slice A0_0 n0_0 c0_0, .slice A0_1 n0_1 c0_1] := (by repeat (first | (with_reducible exact BX0.out) | (with_reducible refine Blk.drew ?_) | (with_reducible refine Blk.ext ?_ (by with_reducible assumption)) | (with_reducible refine Blk.out ?_ (by with_reducible assumption) ?ge; case ge => omega)))
  obtain ⟨q0_0, q0_1⟩ := blk2 bc0
  clear bc0
  have bcLw8 : Blk w_10 (w_8.heap.size) 35 [.slice A_8_0 n_8_0 c_8_0, .slice A_8_1 n_8_1 c_8_1] := (by repeat (first | (with_reducible exact BXLw8.out) | (with_reducible refine Blk.drew ?_) | (with_reducible refine Blk.ext ?_ (by with_reducible assumption)) | (with_reducible refine Blk.out ?_ (by with_reducible assumption) ?ge; case ge => omega)))
  obtain ⟨qLw8_0, qLw8_1⟩ := blk2 bcLw8
  clear bcLw8
  go_wp2_with fail
  clear q0_0 q0_1 qLw8_0 qLw8_1
  refine (impl_CertifiedASes _ _ _ a3 x0 x1 x2 _ (by exact TopologyO_rd (lo := w_7.heap.size) (hi := w_8.heap.size) (by repeat (first | (with_reducible exact O_8.out) | (with_reducible refine TopologyO.drew ?_) | (with_reducible refine TopologyO.ext ?_ (by with_reducible assumption) ?ge; case ge => first | omega | (simp only [World.size_drew]; omega)) | (with_reducible refine TopologyO.out ?_ (by with_reducible assumption) ?ge; case ge => omega))) (by omega)) (by exact TrustRootSO_rd (lo := w_8b.heap.size) (hi := w_9.heap.size) (by repeat (first | (with_reducible exact O_9.out) | (with_reducible refine TrustRootSO_drew ?_) | (with_reducible refine TrustRootSO_ext ?_ (by with_reducible assumption) ?ge; case ge => first | omega | (simp only [World.size_drew]; omega)) | (with_reducible refine TrustRootSO_out ?_ (by with_reducible assumption) ?ge; case ge => omega))) (by omega)) (by exact CertificateSO_rd (lo := w_9.heap.size) (hi := w_10.heap.size) (by repeat (first | (with_reducible exact O_10.out) | (with_reducible refine Own.drew ?_) | (with_reducible refine Own.ext ?_ (by with_reducible assumption) ?ge; case ge => first | omega | (simp only [World.size_drew]; omega)) | (with_reducible refine Own.out ?_ (by with_reducible assumption) ?ge; case ge => omega))))).mono ?_
  rintro e w_11 ⟨rfl, e_11⟩
  have z_11 := e_11.size
  generalize certASes x0 x1 x2 a3 = r at *
  have bc0 : Blk w_11 (w.heap.size) 25 [.slice A0_0 n0_0 c0_0, .slice A0_1 n0_1 c0_1] := (by repeat (first | (with_reducible exact BX0.out) | (with_reducible refine Blk.drew ?_) | (with_reducible refine Blk.ext ?_ (by with_reducible assumption)) | (with_reducible refine Blk.out ?_ (by with_reducible assumption) ?ge; case ge => omega)))
  obtain ⟨q0_0, q0_1⟩ := blk2 bc0
  clear bc0
  have bcLw8 : Blk w_11 (w_8.heap.size) 35 [.slice A_8_0 n_8_0 c_8_0, .slice A_8_1 n_8_1 c_8_1] := (by repeat (first | (with_reducible exact BXLw8.out) | (with_reducible refine Blk.drew ?_) | (with_reducible refine Blk.ext ?_ (by with_reducible assumption)) | (with_reducible refine Blk.out ?_ (by with_reducible assumption) ?ge; case ge => omega)))
  obtain ⟨qLw8_0, qLw8_1⟩ := blk2 bcLw8
  clear bcLw8
  go_wp2_with fail
  clear q0_0 q0_1 qLw8_0 qLw8_1
  have bc0 : Blk w_11 (w.heap.size) 25 [.slice A0_0 n0_0 c0_0, .slice A0_1 n0_1 c0_1] := (by repeat (first | (with_reducible exact BX0.out) | (with_reducible refine Blk.drew ?_) | (with_reducible refine Blk.ext ?_ (by with_reducible assumption)) | (with_reducible refine Blk.out ?_ (by with_reducible assumption) ?ge; case ge => omega)))
  have lt0 := bc0.lt
  obtain ⟨q0_0, q0_1⟩ := blk2 bc0
  clear bc0
  have bcLw8 : Blk w_11 (w_8.heap.size) 35 [.slice A_8_0 n_8_0 c_8_0, .slice A_8_1 n_8_1 c_8_1] := (by repeat (first | (with_reducible exact BXLw8.out) | (with_reducible refine Blk.drew ?_) | (with_reducible refine Blk.ext ?_ (by with_reducible assumption)) | (with_reducible refine Blk.out ?_ (by with_reducible assumption) ?ge; case ge => omega)))
  have ltLw8 := bcLw8.lt
  obtain ⟨qLw8_0, qLw8_1⟩ := blk2 bcLw8
  clear bcLw8
  go_region_held3 (fun W => w_11.heap.size ≤ W.heap.size ∧ ∀ b o, b < w_11.heap.size → W.cell? ⟨b, o, none⟩ = w_11.cell? ⟨b, o, none⟩)
    (first | exact ⟨Nat.le_refl _, fun _ _ _ => rfl⟩ | exact keepC (by assumption) e_13 | exact keepC (by assumption) e_12)
    (first | (go_at_call 18; (with_reducible refine Calls.mono (toTopology (.agg #[.slice A0_0 n0_0 c0_0, .slice A0_1 n0_1 c0_1]) x0 _ ?s0 ?s1) ?_); (case s0 => exact H0.out.ext (by repeat (first | (with_reducible exact Ext.refl _) | (with_reducible assumption) | (with_reducible refine Ext.alloc ?_ _) | (with_reducible refine Ext.drew ?_) | (with_reducible refine Ext.out ?_ (by with_reducible assumption) ?ge; case ge => omega) | (with_reducible refine Ext.trans ?_ (by with_reducible assumption))))); (case s1 => omega); rintro e w_12 ⟨u_12, rfl, o_12, e_12⟩; have z_12 : w_11.heap.size ≤ w_12.heap.size := e_12.size; have o_12 : TopologyO w_11.heap.size w_12.heap.size w_12 _ _ := o_12) | (go_at_call 21; (with_reducible refine Calls.mono (eqTopology _ _ x0 x0 _ ?s0 ?s1) ?_); (case s0 => exact TopologyO_rd (lo := w_7.heap.size) (hi := w_8.heap.size) (by repeat (first | (with_reducible exact O_8.out) | (with_reducible refine TopologyO.drew ?_) | (with_reducible refine TopologyO.ext ?_ (by with_reducible assumption) ?ge; case ge => first | omega | (simp only [World.size_drew]; omega)) | (with_reducible refine TopologyO.out ?_ (by with_reducible assumption) ?ge; case ge => omega))) (by omega)); (case s1 => exact TopologyO_rd (lo := w_11.heap.size) (hi := w_12.heap.size) (by repeat (first | (with_reducible exact o_12) | (with_reducible refine TopologyO.drew ?_) | (with_reducible refine TopologyO.ext ?_ (by with_reducible assumption) ?ge; case ge => first | omega | (simp only [World.size_drew]; omega)) | (with_reducible refine TopologyO.out ?_ (by with_reducible assumption) ?ge; case ge => omega))) (by omega)); rintro e w_13 ⟨rfl, e_13⟩; have z_13 := e_13.size))
  clear q0_0 q0_1 qLw8_0 qLw8_1 lt0 ltLw8
  have O_12 := Lib.hid o_12; clear o_12
  obtain ⟨A_12_0, n_12_0, c_12_0, A_12_1, n_12_1, c_12_1, hv_12⟩ := O_12.out.shape
  subst hv_12
  try rw [decide_eq_true rfl]
  have bc0 : Blk w_13 (w.heap.size) 25 [.slice A0_0 n0_0 c0_0, .slice A0_1 n0_1 c0_1] := (by repeat (first | (with_reducible exact BX0.out) | (with_reducible refine Blk.drew ?_) | (with_reducible refine Blk.ext ?_ (by with_reducible assumption)) | (with_reducible refine Blk.out ?_ (by with_reducible assumption) ?ge; case ge => omega)))
  obtain ⟨q0_0, q0_1⟩ := blk2 bc0
  clear bc0
  have bcLw8 : Blk w_13 (w_8.heap.size) 35 [.slice A_8_0 n_8_0 c_8_0, .slice A_8_1 n_8_1 c_8_1] := (by repeat (first | (with_reducible exact BXLw8.out) | (with_reducible refine Blk.drew ?_) | (with_reducible refine Blk.ext ?_ (by with_reducible assumption)) | (with_reducible refine Blk.out ?_ (by with_reducible assumption) ?ge; case ge => omega)))
  obtain ⟨qLw8_0, qLw8_1⟩ := blk2 bcLw8
  clear bcLw8
  go_wp2_with fail
  clear q0_0 q0_1 qLw8_0 qLw8_1
  refine (toTrustRootS (.slice A1 x1.length c1) x1 _ (by exact H1.out.ext (by repeat (first | (with_reducible exact Ext.refl _) | (with_reducible assumption) | (with_reducible refine Ext.alloc ?_ _) | (with_reducible refine Ext.drew ?_) | (with_reducible refine Ext.out ?_ (by with_reducible assumption) ?ge; case ge => omega) | (with_reducible refine Ext.trans ?_ (by with_reducible assumption))))) (by omega)).mono ?_
  rintro e w_14 ⟨u_14, rfl, o_14, e_14⟩
  have z_14 := e_14.size
  have O_14 := Lib.hid o_14; clear o_14
  have bc0 : Blk w_14 (w.heap.size) 25 [.slice A0_0 n0_0 c0_0, .slice A0_1 n0_1 c0_1] := (by repeat (first | (with_reducible exact BX0.out) | (with_reducible refine Blk.drew ?_) | (with_reducible refine Blk.ext ?_ (by with_reducible assumption)) | (with_reducible refine Blk.out ?_ (by with_reducible assumption) ?ge; case ge => omega)))
  obtain ⟨q0_0, q0_1⟩ := blk2 bc0
  clear bc0
  have bcLw8 : Blk w_14 (w_8.heap.size) 35 [.slice A_8_0 n_8_0 c_8_0, .slice A_8_1 n_8_1 c_8_1] := (by repeat (first | (with_reducible exact BXLw8.out) | (with_reducible refine Blk.drew ?_) | (with_reducible refine Blk.ext ?_ (by with_reducible assumption)) | (with_reducible refine Blk.out ?_ (by with_reducible assumption) ?ge; case ge => omega)))
  obtain ⟨qLw8_0, qLw8_1⟩ := blk2 bcLw8
  clear bcLw8
  go_wp2_with fail
  clear q0_0 q0_1 qLw8_0 qLw8_1
  refine (eqTrustRootS _ _ x1 x1 _ (by exact TrustRootSO_rd (lo := w_8b.heap.size) (hi := w_9.heap.size) (by repeat (first | (with_reducible exact O_9.out) | (with_reducible refine TrustRootSO_drew ?_) | (with_reducible refine TrustRootSO_ext ?_ (by with_reducible assumption) ?ge; case ge => first | omega | (simp only [World.size_drew]; omega)) | (with_reducible refine TrustRootSO_out ?_ (by with_reducible assumption) ?ge; case ge => omega))) (by omega)) (by exact TrustRootSO_rd (lo := w_13.heap.size) (hi := w_14.heap.size) (by repeat (first | (with_reducible exact O_14.out) | (with_reducible refine TrustRootSO_drew ?_) | (with_reducible refine TrustRootSO_ext ?_ (by with_reducible assumption) ?ge; case ge => first | omega | (simp only [World.size_drew]; omega)) | (with_reducible refine TrustRootSO_out ?_ (by with_reducible assumption) ?ge; case ge => omega))) (by omega))).mono ?_
  rintro e w_15 ⟨rfl, e_15⟩
  have z_15 := e_15.size
  try rw [decide_eq_true rfl]
  have bc0 : Blk w_15 (w.heap.size) 25 [.slice A0_0 n0_0 c0_0, .slice A0_1 n0_1 c0_1] := (by repeat (first | (with_reducible exact BX0.out) | (with_reducible refine Blk.drew ?_) | (with_reducible refine Blk.ext ?_ (by with_reducible assumption)) | (with_reducible refine Blk.out ?_ (by with_reducible assumption) ?ge; case ge => omega)))
  obtain ⟨q0_0, q0_1⟩ := blk2 bc0
  clear bc0
  have bcLw8 : Blk w_15 (w_8.heap.size) 35 [.slice A_8_0 n_8_0 c_8_0, .slice A_8_1 n_8_1 c_8_1] := (by repeat (first | (with_reducible exact BXLw8.out) | (with_reducible refine Blk.drew ?_) | (with_reducible refine Blk.ext ?_ (by with_reducible assumption)) | (with_reducible refine Blk.out ?_ (by with_reducible assumption) ?ge; case ge => omega)))
  obtain ⟨qLw8_0, qLw8_1⟩ := blk2 bcLw8
  clear bcLw8
  go_wp2_with fail
  clear q0_0 q0_1 qLw8_0 qLw8_1
  refine (toCertificateS (.slice A2 x2.length c2) x2 _ (by exact H2.out.ext (by repeat (first | (with_reducible exact Ext.refl _) | (with_reducible assumption) | (with_reducible refine Ext.alloc ?_ _) | (with_reducible refine Ext.drew ?_) | (with_reducible refine Ext.out ?_ (by with_reducible assumption) ?ge; case ge => omega) | (with_reducible refine Ext.trans ?_ (by with_reducible assumption))))) (by omega)).mono ?_
  rintro e w_16 ⟨u_16, rfl, o_16, e_16⟩
  have z_16 := e_16.size
  have O_16 := Lib.hid o_16; clear o_16
  have bc0 : Blk w_16 (w.heap.size) 25 [.slice A0_0 n0_0 c0_0, .slice A0_1 n0_1 c0_1] := (by repeat (first | (with_reducible exact BX0.out) | (with_reducible refine Blk.drew ?_) | (with_reducible refine Blk.ext ?_ (by with_reducible assumption)) | (with_reducible refine Blk.out ?_ (by with_reducible assumption) ?ge; case ge => omega)))
  obtain ⟨q0_0, q0_1⟩ := blk2 bc0
  clear bc0
  have bcLw8 : Blk w_16 (w_8.heap.size) 35 [.slice A_8_0 n_8_0 c_8_0, .slice A_8_1 n_8_1 c_8_1] := (by repeat (first | (with_reducible exact BXLw8.out) | (with_reducible refine Blk.drew ?_) | (with_reducible refine Blk.ext ?_ (by with_reducible assumption)) | (with_reducible refine Blk.out ?_ (by with_reducible assumption) ?ge; case ge => omega)))
  obtain ⟨qLw8_0, qLw8_1⟩ := blk2 bcLw8
  clear bcLw8
  go_wp2_with fail
  clear q0_0 q0_1 qLw8_0 qLw8_1
  refine (eqCertificateS _ _ x2 x2 _ (by exact CertificateSO_rd (lo := w_9.heap.size) (hi := w_10.heap.size) (by repeat (first | (with_reducible exact O_10.out) | (with_reducible refine Own.drew ?_) | (with_reducible refine Own.ext ?_ (by with_reducible assumption) ?ge; case ge => first | omega | (simp only [World.size_drew]; omega)) | (with_reducible refine Own.out ?_ (by with_reducible assumption) ?ge; case ge => omega)))) (by exact CertificateSO_rd (lo := w_15.heap.size) (hi := w_16.heap.size) (by repeat (first | (with_reducible exact O_16.out) | (with_reducible refine Own.drew ?_) | (with_reducible refine Own.ext ?_ (by with_reducible assumption) ?ge; case ge => first | omega | (simp only [World.size_drew]; omega)) | (with_reducible refine Own.out ?_ (by with_reducible assumption) ?ge; case ge => omega))))).mono ?_
  rintro e w_17 ⟨rfl, e_17⟩
  have z_17 := e_17.size
  try rw [decide_eq_true rfl]
  have bc0 : Blk w_17 (w.heap.size) 25 [.slice A0_0 n0_0 c0_0, .slice A0_1 n0_1 c0_1] := (by repeat (first | (with_reducible exact BX0.out) | (with_reducible refine Blk.drew ?_) | (with_reducible refine Blk.ext ?_ (by with_reducible assumption)) | (with_reducible refine Blk.out ?_ (by with_reducible assumption) ?ge; case ge => omega)))
  obtain ⟨q0_0, q0_1⟩ := blk2 bc0
  clear bc0
  have bcLw8 : Blk w_17 (w_8.heap.size) 35 [.slice A_8_0 n_8_0 c_8_0, .slice A_8_1 n_8_1 c_8_1] := (by repeat (first | (with_reducible exact BXLw8.out) | (with_reducible refine Blk.drew ?_) | (with_reducible refine Blk.ext ?_ (by with_reducible assumption)) | (with_reducible refine Blk.out ?_ (by with_reducible assumption) ?ge; case ge => omega)))
  obtain ⟨qLw8_0, qLw8_1⟩ := blk2 bcLw8
  clear bcLw8
  go_wp2_with fail
  clear q0_0 q0_1 qLw8_0 qLw8_1
  go_ret
  exact ⟨rfl, (by repeat (first | (with_reducible exact Ext.refl _) | (with_reducible assumption) | (with_reducible refine Ext.alloc ?_ _) | (with_reducible refine Ext.drew ?_) | (with_reducible refine Ext.out ?_ (by with_reducible assumption) ?ge; case ge => omega) | (with_reducible refine Ext.trans ?_ (by with_reducible assumption))))⟩
set_option maxRecDepth 100000 in
theorem lifted (os : Os) (started : os.Started) (H : Type) (enc : TypeId × Value → H) :
    ReturnsInHanded {} Try.checked os 12 .any (Rows.fnExactCertifiedASesSpec.pre6 enc Try.prog Try.f12 Rows.fnExactCertifiedASesRow.domain false) (Rows.fnExactCertifiedASesSpec.post enc Try.prog Try.f12 false true false false) := by
  refine returnsInHanded_of_change (C := Try.checked) own started (by kernel_rfl) Try.func12
    (ChangeSpec.witness6 (enc := enc) (C := Try.checked) false ⟨#[], #[.agg #[.slice none 0 0, .slice none 0 0], .slice none 0 0, .slice none 0 0, .int .i64 0], []⟩ 8 (by kernel_rfl) (by kernel_rfl) (by kernel_rfl) (by kernel_rfl)) ?_
  intro W base args ds gs before hval0 hW hcnd _
  have hval : ∀ (j : Nat) t v, Try.f12.params[j]? = some t → args[j]? = some v → Value.okWide Try.prog W .any base t v := hval0
  have hW' := hW
  obtain ⟨p, q, hA0, hV, rfl, hfz, hnd⟩ := hW
  have hA : DataW.TrodAll enc Try.prog W 0 (fun _ => true) true Try.f12.params.toList args.toList ds p := hA0
  rw [Try.params12] at hA hval
  obtain ⟨v0, vs0, d0, ds0, p0, q0, hargs, rfl, rfl, h0, r0⟩ := trodAll_cons hA
  obtain ⟨v1, vs1, d1, ds1, p1, q1, rfl, rfl, rfl, h1, r1⟩ := trodAll_cons r0
  obtain ⟨v2, vs2, d2, ds2, p2, q2, rfl, rfl, rfl, h2, r2⟩ := trodAll_cons r1
  obtain ⟨v3, vs3, d3, ds3, p3, q3, rfl, rfl, rfl, h3, r3⟩ := trodAll_cons r2
  obtain ⟨rfl, rfl, rfl⟩ := trodAll_nil r3
  obtain rfl : args = #[v0, v1, v2, v3] := by cases args; simp_all
  obtain ⟨rfl, rfl⟩ := trodVars_none hV
  have k0 := h0
  have lt0 : ∀ x ∈ p0, x.block < W.heap.size := by obtain ⟨m, hm⟩ := k0; exact DataW.trod_lt m _ _ _ hm
  obtain ⟨cs0, rfl, _⟩ := okWide_struct Try.underlying25 (hval 0 25 v0 rfl rfl)
  obtain ⟨x0, y0⟩ : ∃ d, TopologyV W.heap.size W (.agg cs0) d := by
    obtain ⟨fuel, hf⟩ := h0
    obtain ⟨d, A0, n0, c0, A1, n1, c1, e, s0, s1⟩ := read_Topology hf
    have e1 : cs0 = #[.slice A0 n0 c0, .slice A1 n1 c1] := by cases cs0; simpa [Value.cells] using e
    exact ⟨d, ⟨_, _, _, _, _, _, by rw [e1], s0, s1⟩⟩
  have k1 := h1
  have lt1 : ∀ x ∈ p1, x.block < W.heap.size := by obtain ⟨m, hm⟩ := k1; exact DataW.trod_lt m _ _ _ hm
  obtain ⟨a1, len1, cap1, rfl⟩ := okWide_slice Try.underlying54 (hval 1 54 v1 rfl rfl)
  obtain ⟨x1, y1⟩ : ∃ ds, TrustRootS W.heap.size W (.slice a1 len1 cap1) ds := by
    obtain ⟨fuel, hf⟩ := h1
    obtain ⟨A, n, c, ds, e, hs⟩ := read_TrustRootS hf
    simp only [Value.cells, List.cons.injEq, and_true] at e
    rw [← e] at hs
    exact ⟨ds, hs⟩
  have k2 := h2
  have lt2 : ∀ x ∈ p2, x.block < W.heap.size := by obtain ⟨m, hm⟩ := k2; exact DataW.trod_lt m _ _ _ hm
  obtain ⟨a2, len2, cap2, rfl⟩ := okWide_slice Try.underlying73 (hval 2 73 v2 rfl rfl)
  obtain ⟨x2, y2⟩ : ∃ ds, CertificateS W.heap.size W (.slice a2 len2 cap2) ds := by
    obtain ⟨fuel, hf⟩ := h2
    obtain ⟨A, n, c, ds, e, hs⟩ := read_CertificateS hf
    simp only [Value.cells, List.cons.injEq, and_true] at e
    rw [← e] at hs
    exact ⟨ds, hs⟩
  obtain ⟨a3, rfl, rfl, rfl, w3⟩ := open_int Try.underlying3 (hval 3 3 v3 rfl rfl) h3
  clear hA0 hval0
  refine (walk _ x0 _ x1 _ x2 a3 W y0 y1 y2).mono fun e W' ⟨he, bel⟩ => ?_
  subst he
  exact ⟨_, rfl, _, _, _, [], _, [], hW', trodAll_mk1 (shut_bool Try.underlying4 _), (trodAll_cons_mk (Below.trod laidOut (by kernel_rfl) (of_decide_eq_true (by kernel_rfl)) k0 bel.below lt0) (trodAll_cons_mk (Below.trod laidOut (by kernel_rfl) (of_decide_eq_true (by kernel_rfl)) k1 bel.below lt1) (trodAll_cons_mk (Below.trod laidOut (by kernel_rfl) (of_decide_eq_true (by kernel_rfl)) k2 bel.below lt2) (trodAll_cons_mk (shut_int Try.underlying3 w3) trodAll_mk0)))), rfl, bel.below.frame _, fun h => by cases h⟩

theorem over : Rows.fnExactCertifiedASesRow.holds Try.pinned (OpenSpec.ofChange Rows.fnExactCertifiedASesSpec) :=
  OpenClaim.holds_of_wide 12 Try.f12 rfl rfl rfl rfl rfl rfl rfl ⟨rfl, rfl, rfl, rfl, rfl⟩ rfl rfl rfl rfl rfl (by kernel_rfl) Try.func12 (by kernel_rfl)
    (of_decide_eq_true (by kernel_rfl)) (by unfold Func.isWrapper; first | (rw [if_pos (by decide +kernel)]; kernel_rfl) | (rw [if_neg (by decide +kernel)]; exact ⟨rfl, rfl⟩))
    (fun os started H enc _ => lifted os started H enc)

/-- The statement. -/
theorem proved : Rows.FnExactCertifiedASesSaid := over
#print axioms proved
end Go.Proofs.Ytjfoolffiflchaa.lawCertifiedASes
