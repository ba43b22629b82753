/- The law FnExactFilterSigned returns true for every input and changes no argument. No conditions. -/
import Derived.Test.YtbojbgicmdgfaaaGreatGL20f
import Derived.Test.YtbojbgicmdgfaaaGreatRead
namespace Go.Proofs.YtbojbgicmdgfaaaGreat.lawFilterSigned
open Go.RowKit
set_option linter.unusedVariables false
open Go.ChangeShapes Go.WideShapes Go.ChangeAt
theorem own : ownKnob Tryz.prog.godebug = none := by kernel_rfl
theorem laidOut : laidOutB Tryz.prog = true := by kernel_rfl

set_option maxRecDepth 100000 in
set_option maxHeartbeats 1000000 in
theorem walk (v0 : Value) (x0 : DTopology) (v1 : Value) (x1 : List DTrustRoot) (v2 : Value) (x2 : List DCertificate) (v3 : Value) (x3 : List DSignedSegment) (a4 : Int) (w : World) (h0 : TopologyV w.heap.size w v0 x0) (h1 : TrustRootS w.heap.size w v1 x1) (h2 : CertificateS w.heap.size w v2 x2) (h3 : SignedSegmentS w.heap.size w v3 x3) :
    Calls Tryz.prog 7 #[v0, v1, v2, v3, I a4] w fun e w' => e = .returned (.bool true) ∧ Ext w w' := by
  have H0 := Lib.hid h0
  obtain ⟨A0_0, n0_0, c0_0, A0_1, n0_1, c0_1, rfl, -⟩ := h0
  obtain ⟨A1, n1, c1, rfl, hl1, hn1, hm1, -⟩ := id h1
  subst hl1
  unfold maxLen at hm1
  have H1 := Lib.hid h1; clear h1
  obtain ⟨A2, n2, c2, rfl, hl2, hn2, hm2, -⟩ := id h2
  subst hl2
  unfold maxLen at hm2
  have H2 := Lib.hid h2; clear h2
  obtain ⟨A3, n3, c3, rfl, hl3, hn3, hm3, -⟩ := id h3
  subst hl3
  unfold maxLen at hm3
  have H3 := Lib.hid h3; clear h3
  go_enter Tryz.func7, Tryz.ntmps7
  go_wp2_with fail
  have bx0 : Blk (w.alloc (.cells #[.slice A0_0 n0_0 c0_0, .slice A0_1 n0_1 c0_1] 25)) (w.heap.size) 25 [.slice A0_0 n0_0 c0_0, .slice A0_1 n0_1 c0_1] := by simpa using Blk.new w 25 [.slice A0_0 n0_0 c0_0, .slice A0_1 n0_1 c0_1]
  have BX0 := Lib.hid bx0; clear bx0
  have ew : Ext w (w.alloc (.cells #[.slice A0_0 n0_0 c0_0, .slice A0_1 n0_1 c0_1] 25)) := xo
  have zw : w.heap.size + 1 ≤ (w.alloc (.cells #[.slice A0_0 n0_0 c0_0, .slice A0_1 n0_1 c0_1] 25)).heap.size := by simp only [World.size_alloc]; omega
  generalize (w.alloc (.cells #[.slice A0_0 n0_0 c0_0, .slice A0_1 n0_1 c0_1] 25)) = w0 at *
  refine (szTopology _ x0 (1048576) _ (by exact H0.out.ext xo) (by omega) (by omega)).mono ?_
  rintro e w_1 ⟨rfl, e_1⟩
  have z_1 := e_1.size
  by_cases hlt0 : 1048576 < ((x0.ases.length + x0.links.length : Nat) : Int)
  · rw [szR_neg hlt0]
    go_wp2_with fail
    go_ret
    exact ⟨rfl, xo⟩
  rw [szR_pos (by omega)]
  have hb0 : x0.ases.length + x0.links.length ≤ 1048576 := by omega
  have bc0 : Blk w_1 (w.heap.size) 25 [.slice A0_0 n0_0 c0_0, .slice A0_1 n0_1 c0_1] := (by repeat (first | (with_reducible exact BX0.out) | (with_reducible refine Blk.drew ?_) | (with_reducible refine Blk.ext ?_ (by with_reducible assumption)) | (with_reducible refine Blk.out ?_ (by with_reducible assumption) ?ge; case ge => omega)))
  obtain ⟨q0_0, q0_1⟩ := blk2 bc0
  clear bc0
  go_wp2_with fail
  clear q0_0 q0_1
  refine (szTrustRootS _ x1 (1048576 - ((x0.ases.length + x0.links.length : Nat) : Int)) _ (by exact H1.out.ext xo) (by omega) (by omega)).mono ?_
  rintro e w_2 ⟨rfl, e_2⟩
  have z_2 := e_2.size
  by_cases hlt1 : 1048576 - ((x0.ases.length + x0.links.length : Nat) : Int) < ((totS (fun y => y.sigs.length) x1 : Nat) : Int)
  · rw [szR_neg hlt1]
    go_wp2_with fail
    go_ret
    exact ⟨rfl, xo⟩
  rw [szR_pos (by omega)]
  have hb1 : totS (fun y => y.sigs.length) x1 ≤ 1048576 := by omega
  have bc0 : Blk w_2 (w.heap.size) 25 [.slice A0_0 n0_0 c0_0, .slice A0_1 n0_1 c0_1] := (by repeat (first | (with_reducible exact BX0.out) | (with_reducible refine Blk.drew ?_) | (with_reducible refine Blk.ext ?_ (by with_reducible assumption)) | (with_reducible refine Blk.out ?_ (by with_reducible assumption) ?ge; case ge => omega)))
  obtain ⟨q0_0, q0_1⟩ := blk2 bc0
  clear bc0
  go_wp2_with fail
  clear q0_0 q0_1
  refine (szCertificateS _ x2 (1048576 - ((x0.ases.length + x0.links.length : Nat) : Int) - ((totS (fun y => y.sigs.length) x1 : Nat) : Int)) _ (by exact H2.out.ext xo) (by omega) (by omega)).mono ?_
  rintro e w_3 ⟨rfl, e_3⟩
  have z_3 := e_3.size
  by_cases hlt2 : 1048576 - ((x0.ases.length + x0.links.length : Nat) : Int) - ((totS (fun y => y.sigs.length) x1 : Nat) : Int) < ((x2.length : Nat) : Int)
  · rw [szR_neg hlt2]
    go_wp2_with fail
    go_ret
    exact ⟨rfl, xo⟩
  rw [szR_pos (by omega)]
  have hb2 : x2.length ≤ 1048576 := by omega
  have bc0 : Blk w_3 (w.heap.size) 25 [.slice A0_0 n0_0 c0_0, .slice A0_1 n0_1 c0_1] := (by repeat (first | (with_reducible exact BX0.out) | (with_reducible refine Blk.drew ?_) | (with_reducible refine Blk.ext ?_ (by with_reducible assumption)) | (with_reducible refine Blk.out ?_ (by with_reducible assumption) ?ge; case ge => omega)))
  obtain ⟨q0_0, q0_1⟩ := blk2 bc0
  clear bc0
  go_wp2_with fail
  clear q0_0 q0_1
  refine (szSignedSegmentS _ x3 (1048576 - ((x0.ases.length + x0.links.length : Nat) : Int) - ((totS (fun y => y.sigs.length) x1 : Nat) : Int) - ((x2.length : Nat) : Int)) _ (by exact H3.out.ext xo) (by omega) (by omega)).mono ?_
  rintro e w_4 ⟨rfl, e_4⟩
  have z_4 := e_4.size
  by_cases hlt3 : 1048576 - ((x0.ases.length + x0.links.length : Nat) : Int) - ((totS (fun y => y.sigs.length) x1 : Nat) : Int) - ((x2.length : Nat) : Int) < ((totS (fun y => y.seg.hops.length + y.sigs.length) x3 : Nat) : Int)
  · rw [szR_neg hlt3]
    go_wp2_with fail
    go_ret
    exact ⟨rfl, xo⟩
  rw [szR_pos (by omega)]
  have hb3 : totS (fun y => y.seg.hops.length + y.sigs.length) x3 ≤ 1048576 := by omega
  have bc0 : Blk w_4 (w.heap.size) 25 [.slice A0_0 n0_0 c0_0, .slice A0_1 n0_1 c0_1] := (by repeat (first | (with_reducible exact BX0.out) | (with_reducible refine Blk.drew ?_) | (with_reducible refine Blk.ext ?_ (by with_reducible assumption)) | (with_reducible refine Blk.out ?_ (by with_reducible assumption) ?ge; case ge => omega)))
  obtain ⟨q0_0, q0_1⟩ := blk2 bc0
  clear bc0
  go_wp2_with fail
  clear q0_0 q0_1
  refine (toTopology (.agg #[.slice A0_0 n0_0 c0_0, .slice A0_1 n0_1 c0_1]) x0 _ (by exact H0.out.ext xo) (by omega)).mono ?_
  rintro e w_5 ⟨u_5, rfl, o_5, e_5⟩
  have z_5 := e_5.size
  have O_5 := Lib.hid o_5; clear o_5
  obtain ⟨A_5_0, n_5_0, c_5_0, A_5_1, n_5_1, c_5_1, hv_5⟩ := O_5.out.shape
  subst hv_5
  have bc0 : Blk w_5 (w.heap.size) 25 [.slice A0_0 n0_0 c0_0, .slice A0_1 n0_1 c0_1] := (by repeat (first | (with_reducible exact BX0.out) | (with_reducible refine Blk.drew ?_) | (with_reducible refine Blk.ext ?_ (by with_reducible assumption)) | (with_reducible refine Blk.out ?_ (by with_reducible assumption) ?ge; case ge => omega)))
  obtain ⟨q0_0, q0_1⟩ := blk2 bc0
  clear bc0
  go_wp2_with fail
  clear q0_0 q0_1
  refine (toTrustRootS (.slice A1 x1.length c1) x1 _ (by exact H1.out.ext xo) (by omega)).mono ?_
  rintro e w_6 ⟨u_6, rfl, o_6, e_6⟩
  have z_6 := e_6.size
  have O_6 := Lib.hid o_6; clear o_6
  have bc0 : Blk w_6 (w.heap.size) 25 [.slice A0_0 n0_0 c0_0, .slice A0_1 n0_1 c0_1] := (by repeat (first | (with_reducible exact BX0.out) | (with_reducible refine Blk.drew ?_) | (with_reducible refine Blk.ext ?_ (by with_reducible assumption)) | (with_reducible refine Blk.out ?_ (by with_reducible assumption) ?ge; case ge => omega)))
  obtain ⟨q0_0, q0_1⟩ := blk2 bc0
  clear bc0
  go_wp2_with fail
  clear q0_0 q0_1
  refine (toCertificateS (.slice A2 x2.length c2) x2 _ (by exact H2.out.ext xo) (by omega)).mono ?_
  rintro e w_7 ⟨u_7, rfl, o_7, e_7⟩
  have z_7 := e_7.size
  have O_7 := Lib.hid o_7; clear o_7
  have bc0 : Blk w_7 (w.heap.size) 25 [.slice A0_0 n0_0 c0_0, .slice A0_1 n0_1 c0_1] := (by repeat (first | (with_reducible exact BX0.out) | (with_reducible refine Blk.drew ?_) | (with_reducible refine Blk.ext ?_ (by with_reducible assumption)) | (with_reducible refine Blk.out ?_ (by with_reducible assumption) ?ge; case ge => omega)))
  obtain ⟨q0_0, q0_1⟩ := blk2 bc0
  clear bc0
  go_wp2_with fail
  clear q0_0 q0_1
  refine (toSignedSegmentS (.slice A3 x3.length c3) x3 _ (by exact H3.out.ext xo) (by omega)).mono ?_
  rintro e w_8 ⟨u_8, rfl, o_8, e_8⟩
  have z_8 := e_8.size
  have O_8 := Lib.hid o_8; clear o_8
  have bc0 : Blk w_8 (w.heap.size) 25 [.slice A0_0 n0_0 c0_0, .slice A0_1 n0_1 c0_1] := (by repeat (first | (with_reducible exact BX0.out) | (with_reducible refine Blk.drew ?_) | (with_reducible refine Blk.ext ?_ (by with_reducible assumption)) | (with_reducible refine Blk.out ?_ (by with_reducible assumption) ?ge; case ge => omega)))
  obtain ⟨q0_0, q0_1⟩ := blk2 bc0
  clear bc0
  go_wp2_with fail
  clear q0_0 q0_1
  refine (spec_FilterSigned _ _ _ _ a4 x0 x1 x2 x3 _ (by exact TopologyO_rd (lo := w_4.heap.size) (hi := w_5.heap.size) (by repeat (first | (with_reducible exact O_5.out) | (with_reducible refine TopologyO.drew ?_) | (with_reducible refine TopologyO.ext ?_ (by with_reducible assumption) ?ge; case ge => first | omega | (simp only [World.size_drew]; omega)) | (with_reducible refine TopologyO.out ?_ (by with_reducible assumption) ?ge; case ge => omega))) (by omega)) (by exact TrustRootSO_rd (lo := w_5.heap.size) (hi := w_6.heap.size) (by repeat (first | (with_reducible exact O_6.out) | (with_reducible refine TrustRootSO_drew ?_) | (with_reducible refine TrustRootSO_ext ?_ (by with_reducible assumption) ?ge; case ge => first | omega | (simp only [World.size_drew]; omega)) | (with_reducible refine TrustRootSO_out ?_ (by with_reducible assumption) ?ge; case ge => omega))) (by omega)) (by exact CertificateSO_rd (lo := w_6.heap.size) (hi := w_7.heap.size) (by repeat (first | (with_reducible exact O_7.out) | (with_reducible refine Own.drew ?_) | (with_reducible refine Own.ext ?_ (by with_reducible assumption) ?ge; case ge => first | omega | (simp only [World.size_drew]; omega)) | (with_reducible refine Own.out ?_ (by with_reducible assumption) ?ge; case ge => omega)))) (by exact SignedSegmentSO_rd (lo := w_7.heap.size) (hi := w_8.heap.size) (by repeat (first | (with_reducible exact O_8.out) | (with_reducible refine SignedSegmentSO_drew ?_) | (with_reducible refine SignedSegmentSO_ext ?_ (by with_reducible assumption) ?ge; case ge => first | omega | (simp only [World.size_drew]; omega)) | (with_reducible refine SignedSegmentSO_out ?_ (by with_reducible assumption) ?ge; case ge => omega))) (by omega)) (by exact hb3)).mono ?_
  rintro e w_9 ⟨u_9, rfl, o_9, e_9⟩
  have z_9 := e_9.size
  have O_9 := Lib.hid o_9; clear o_9
  have bc0 : Blk w_9 (w.heap.size) 25 [.slice A0_0 n0_0 c0_0, .slice A0_1 n0_1 c0_1] := (by repeat (first | (with_reducible exact BX0.out) | (with_reducible refine Blk.drew ?_) | (with_reducible refine Blk.ext ?_ (by with_reducible assumption)) | (with_reducible refine Blk.out ?_ (by with_reducible assumption) ?ge; case ge => omega)))
  obtain ⟨q0_0, q0_1⟩ := blk2 bc0
  clear bc0
  go_wp2_with fail
  clear q0_0 q0_1
  refine (toTopology (.agg #[.slice A0_0 n0_0 c0_0, .slice A0_1 n0_1 c0_1]) x0 _ (by exact H0.out.ext xo) (by omega)).mono ?_
  rintro e w_10 ⟨u_10, rfl, o_10, e_10⟩
  have z_10 := e_10.size
  have O_10 := Lib.hid o_10; clear o_10
  obtain ⟨A_10_0, n_10_0, c_10_0, A_10_1, n_10_1, c_10_1, hv_10⟩ := O_10.out.shape
  subst hv_10
  have bc0 : Blk w_10 (w.heap.size) 25 [.slice A0_0 n0_0 c0_0, .slice A0_1 n0_1 c0_1] := (by repeat (first | (with_reducible exact BX0.out) | (with_reducible refine Blk.drew ?_) | (with_reducible refine Blk.ext ?_ (by with_reducible assumption)) | (with_reducible refine Blk.out ?_ (by with_reducible assumption) ?ge; case ge => omega)))
  have lt0 := bc0.lt
  obtain ⟨q0_0, q0_1⟩ := blk2 bc0
  clear bc0
  go_wp2_with fail
  clear q0_0 q0_1 lt0
  have bxLw10 : Blk (w_10.alloc (.cells #[.slice A_10_0 n_10_0 c_10_0, .slice A_10_1 n_10_1 c_10_1] 42)) w_10.heap.size 42 [.slice A_10_0 n_10_0 c_10_0, .slice A_10_1 n_10_1 c_10_1] := Blk.new _ _ _
  have BXLw10 := Lib.hid bxLw10; clear bxLw10
  have ewLw10 : Ext w_10 (w_10.alloc (.cells #[.slice A_10_0 n_10_0 c_10_0, .slice A_10_1 n_10_1 c_10_1] 42)) := (Ext.refl _).alloc _
  have zwLw10 : w_10.heap.size + 1 ≤ (w_10.alloc (.cells #[.slice A_10_0 n_10_0 c_10_0, .slice A_10_1 n_10_1 c_10_1] 42)).heap.size := by simp only [World.size_alloc]; omega
  generalize (w_10.alloc (.cells #[.slice A_10_0 n_10_0 c_10_0, .slice A_10_1 n_10_1 c_10_1] 42)) = w_10b at *
  refine (toTrustRootS (.slice A1 x1.length c1) x1 _ (by exact H1.out.ext xo) (by omega)).mono ?_
  rintro e w_11 ⟨u_11, rfl, o_11, e_11⟩
  have z_11 := e_11.size
  have O_11 := Lib.hid o_11; clear o_11
  have bc0 : Blk w_11 (w.heap.size) 25 [.slice A0_0 n0_0 c0_0, .slice A0_1 n0_1 c0_1] := (by repeat (first | (with_reducible exact BX0.out) | (with_reducible refine Blk.drew ?_) | (with_reducible refine Blk.ext ?_ (by with_reducible assumption)) | (with_reducible refine Blk.out ?_ (by with_reducible assumption) ?ge; case ge => omega)))
  obtain ⟨q0_0, q0_1⟩ := blk2 bc0
  clear bc0
  have bcLw10 : Blk w_11 (w_10.heap.size) 42 [.slice A_10_0 n_10_0 c_10_0, .slice A_10_1 n_10_1 c_10_1] := (by repeat (first | (with_reducible exact BXLw10.out) | (with_reducible refine Blk.drew ?_) | (with_reducible refine Blk.ext ?_ (by with_reducible assumption)) | (with_reducible refine Blk.out ?_ (by with_reducible assumption) ?ge; case ge => omega)))
  obtain ⟨qLw10_0, qLw10_1⟩ := blk2 bcLw10
  clear bcLw10
  go_wp2_with fail
  clear q0_0 q0_1 qLw10_0 qLw10_1
  refine (toCertificateS (.slice A2 x2.length c2) x2 _ (by exact H2.out.ext xo) (by omega)).mono ?_
  rintro e w_12 ⟨u_12, rfl, o_12, e_12⟩
  have z_12 := e_12.size
  have O_12 := Lib.hid o_12; clear o_12
  have bc0 : Blk w_12 (w.heap.size) 25 [.slice A0_0 n0_0 c0_0, .slice A0_1 n0_1 c0_1] := (by repeat (first | (with_reducible exact BX0.out) | (with_reducible refine Blk.drew ?_) | (with_reducible refine Blk.ext ?_ (by with_reducible assumption)) | (with_reducible refine Blk.out ?_ (by with_reducible assumption) ?ge; case ge => omega)))
  obtain ⟨q0_0, q0_1⟩ := blk2 bc0
  clear bc0
  have bcLw10 : Blk w_12 (w_10.heap.size) 42 [.slice A_10_0 n_10_0 c_10_0, .slice A_10_1 n_10_1 c_10_1] := (by repeat (first | (with_reducible exact BXLw10.out) | (with_reducible refine Blk.drew ?_) | (with_reducible refine Blk.ext ?_ (by with_reducible assumption)) | (with_reducible refine Blk.out ?_ (by with_reducible assumption) ?ge; case ge => omega)))
  obtain ⟨qLw10_0, qLw10_1⟩ := blk2 bcLw10
  clear bcLw10
  go_wp2_with fail
  clear q0_0 q0_1 qLw10_0 qLw10_1
  refine (toSignedSegmentS (.slice A3 x3.length c3) x3 _ (by exact H3.out.ext xo) (by omega)).mono ?_
  rintro e w_13 ⟨u_13, rfl, o_13, e_13⟩
  have z_13 := e_13.size
  have O_13 := Lib.hid o_13; clear o_13
  have bc0 : Blk w_13 (w.heap.size) 25 [.slice A0_0 n0_0 c0_0, .slice A0_1 n0_1 c0_1] := (by repeat (first | (with_reducible exact BX0.out) | (with_reducible refine Blk.drew ?_) | (with_reducible refine Blk.ext ?_ (by with_reducible assumption)) | (with_reducible refine Blk.out ?_ (by with_reducible assumption) ?ge; case ge => omega)))
  obtain ⟨q0_0, q0_1⟩ := blk2 bc0
  clear bc0
  have bcLw10 : Blk w_13 (w_10.heap.size) 42 [.slice A_10_0 n_10_0 c_10_0, .slice A_10_1 n_10_1 c_10_1] := (by repeat (first | (with_reducible exact BXLw10.out) | (with_reducible refine Blk.drew ?_) | (with_reducible refine Blk.ext ?_ (by with_reducible assumption)) | (with_reducible refine Blk.out ?_ (by with_reducible assumption) ?ge; case ge => omega)))
  obtain ⟨qLw10_0, qLw10_1⟩ := blk2 bcLw10
  clear bcLw10
  go_wp2_with fail
  clear q0_0 q0_1 qLw10_0 qLw10_1
  refine (impl_FilterSigned _ _ _ _ a4 x0 x1 x2 x3 _ (by exact TopologyO_rd (lo := w_9.heap.size) (hi := w_10.heap.size) (by repeat (first | (with_reducible exact O_10.out) | (with_reducible refine TopologyO.drew ?_) | (with_reducible refine TopologyO.ext ?_ (by with_reducible assumption) ?ge; case ge => first | omega | (simp only [World.size_drew]; omega)) | (with_reducible refine TopologyO.out ?_ (by with_reducible assumption) ?ge; case ge => omega))) (by omega)) (by exact TrustRootSO_rd (lo := w_10b.heap.size) (hi := w_11.heap.size) (by repeat (first | (with_reducible exact O_11.out) | (with_reducible refine TrustRootSO_drew ?_) | (with_reducible refine TrustRootSO_ext ?_ (by with_reducible assumption) ?ge; case ge => first | omega | (simp only [World.size_drew]; omega)) | (with_reducible refine TrustRootSO_out ?_ (by with_reducible assumption) ?ge; case ge => omega))) (by omega)) (by exact CertificateSO_rd (lo := w_11.heap.size) (hi := w_12.heap.size) (by repeat (first | (with_reducible exact O_12.out) | (with_reducible refine Own.drew ?_) | (with_reducible refine Own.ext ?_ (by with_reducible assumption) ?ge; case ge => first | omega | (simp only [World.size_drew]; omega)) | (with_reducible refine Own.out ?_ (by with_reducible assumption) ?ge; case ge => omega)))) (by exact SignedSegmentSO_rd (lo := w_12.heap.size) (hi := w_13.heap.size) (by repeat (first | (with_reducible exact O_13.out) | (with_reducible refine SignedSegmentSO_drew ?_) | (with_reducible refine SignedSegmentSO_ext ?_ (by with_reducible assumption) ?ge; case ge => first | omega | (simp only [World.size_drew]; omega)) | (with_reducible refine SignedSegmentSO_out ?_ (by with_reducible assumption) ?ge; case ge => omega))) (by omega)) (by exact hb3)).mono ?_
  rintro e w_14 ⟨u_14, rfl, o_14, e_14⟩
  have z_14 := e_14.size
  have O_14 := Lib.hid o_14; clear o_14
  have bc0 : Blk w_14 (w.heap.size) 25 [.slice A0_0 n0_0 c0_0, .slice A0_1 n0_1 c0_1] := (by repeat (first | (with_reducible exact BX0.out) | (with_reducible refine Blk.drew ?_) | (with_reducible refine Blk.ext ?_ (by with_reducible assumption)) | (with_reducible refine Blk.out ?_ (by with_reducible assumption) ?ge; case ge => omega)))
  obtain ⟨q0_0, q0_1⟩ := blk2 bc0
  clear bc0
  have bcLw10 : Blk w_14 (w_10.heap.size) 42 [.slice A_10_0 n_10_0 c_10_0, .slice A_10_1 n_10_1 c_10_1] := (by repeat (first | (with_reducible exact BXLw10.out) | (with_reducible refine Blk.drew ?_) | (with_reducible refine Blk.ext ?_ (by with_reducible assumption)) | (with_reducible refine Blk.out ?_ (by with_reducible assumption) ?ge; case ge => omega)))
  obtain ⟨qLw10_0, qLw10_1⟩ := blk2 bcLw10
  clear bcLw10
  go_wp2_with fail
  clear q0_0 q0_1 qLw10_0 qLw10_1
  have S_9 := Lib.hid (SegmentSO_rd O_9.out (Nat.le_refl _))
  refine (eqSegmentS _ _ (filtSigned x0 x1 x2 x3 a4) (filtSigned x0 x1 x2 x3 a4) _ (by exact SegmentSO_rd (lo := w_13.heap.size) (hi := w_14.heap.size) (by repeat (first | (with_reducible exact O_14.out) | (with_reducible refine SegmentSO_drew ?_) | (with_reducible refine SegmentSO_ext ?_ (by with_reducible assumption) ?ge; case ge => first | omega | (simp only [World.size_drew]; omega)) | (with_reducible refine SegmentSO_out ?_ (by with_reducible assumption) ?ge; case ge => omega))) (by omega)) (by exact S_9.out.ext xo)).mono ?_
  rintro e w_15 ⟨rfl, e_15⟩
  have z_15 := e_15.size
  try rw [decide_eq_true rfl]
  have bc0 : Blk w_15 (w.heap.size) 25 [.slice A0_0 n0_0 c0_0, .slice A0_1 n0_1 c0_1] := (by repeat (first | (with_reducible exact BX0.out) | (with_reducible refine Blk.drew ?_) | (with_reducible refine Blk.ext ?_ (by with_reducible assumption)) | (with_reducible refine Blk.out ?_ (by with_reducible assumption) ?ge; case ge => omega)))
  obtain ⟨q0_0, q0_1⟩ := blk2 bc0
  clear bc0
  have bcLw10 : Blk w_15 (w_10.heap.size) 42 [.slice A_10_0 n_10_0 c_10_0, .slice A_10_1 n_10_1 c_10_1] := (by repeat (first | (with_reducible exact BXLw10.out) | (with_reducible refine Blk.drew ?_) | (with_reducible refine Blk.ext ?_ (by with_reducible assumption)) | (with_reducible refine Blk.out ?_ (by with_reducible assumption) ?ge; case ge => omega)))
  obtain ⟨qLw10_0, qLw10_1⟩ := blk2 bcLw10
  clear bcLw10
  go_wp2_with fail
  clear q0_0 q0_1 qLw10_0 qLw10_1
  have bc0 : Blk w_15 (w.heap.size) 25 [.slice A0_0 n0_0 c0_0, .slice A0_1 n0_1 c0_1] := (by repeat (first | (with_reducible exact BX0.out) | (with_reducible refine Blk.drew ?_) | (with_reducible refine Blk.ext ?_ (by with_reducible assumption)) | (with_reducible refine Blk.out ?_ (by with_reducible assumption) ?ge; case ge => omega)))
  have lt0 := bc0.lt
  obtain ⟨q0_0, q0_1⟩ := blk2 bc0
  clear bc0
  have bcLw10 : Blk w_15 (w_10.heap.size) 42 [.slice A_10_0 n_10_0 c_10_0, .slice A_10_1 n_10_1 c_10_1] := (by repeat (first | (with_reducible exact BXLw10.out) | (with_reducible refine Blk.drew ?_) | (with_reducible refine Blk.ext ?_ (by with_reducible assumption)) | (with_reducible refine Blk.out ?_ (by with_reducible assumption) ?ge; case ge => omega)))
  have ltLw10 := bcLw10.lt
  obtain ⟨qLw10_0, qLw10_1⟩ := blk2 bcLw10
  clear bcLw10
  go_region_held3 (fun W => w_15.heap.size ≤ W.heap.size ∧ ∀ b o, b < w_15.heap.size → W.cell? ⟨b, o, none⟩ = w_15.cell? ⟨b, o, none⟩)
    (first | exact ⟨Nat.le_refl _, fun _ _ _ => rfl⟩ | exact keepC (by assumption) e_17 | exact keepC (by assumption) e_16)
    (first | (go_at_call 16; (with_reducible refine Calls.mono (toTopology (.agg #[.slice A0_0 n0_0 c0_0, .slice A0_1 n0_1 c0_1]) x0 _ ?s0 ?s1) ?_); (case s0 => exact H0.out.ext xo); (case s1 => omega); rintro e w_16 ⟨u_16, rfl, o_16, e_16⟩; have z_16 : w_15.heap.size ≤ w_16.heap.size := e_16.size; have o_16 : TopologyO w_15.heap.size w_16.heap.size w_16 _ _ := o_16) | (go_at_call 21; (with_reducible refine Calls.mono (eqTopology _ _ x0 x0 _ ?s0 ?s1) ?_); (case s0 => exact TopologyO_rd (lo := w_9.heap.size) (hi := w_10.heap.size) (by repeat (first | (with_reducible exact O_10.out) | (with_reducible refine TopologyO.drew ?_) | (with_reducible refine TopologyO.ext ?_ (by with_reducible assumption) ?ge; case ge => first | omega | (simp only [World.size_drew]; omega)) | (with_reducible refine TopologyO.out ?_ (by with_reducible assumption) ?ge; case ge => omega))) (by omega)); (case s1 => exact TopologyO_rd (lo := w_15.heap.size) (hi := w_16.heap.size) (by repeat (first | (with_reducible exact o_16) | (with_reducible refine TopologyO.drew ?_) | (with_reducible refine TopologyO.ext ?_ (by with_reducible assumption) ?ge; case ge => first | omega | (simp only [World.size_drew]; omega)) | (with_reducible refine TopologyO.out ?_ (by with_reducible assumption) ?ge; case ge => omega))) (by omega)); rintro e w_17 ⟨rfl, e_17⟩; have z_17 := e_17.size))
  clear q0_0 q0_1 qLw10_0 qLw10_1 lt0 ltLw10
  have O_16 := Lib.hid o_16; clear o_16
  obtain ⟨A_16_0, n_16_0, c_16_0, A_16_1, n_16_1, c_16_1, hv_16⟩ := O_16.out.shape
  subst hv_16
  try rw [decide_eq_true rfl]
  have bc0 : Blk w_17 (w.heap.size) 25 [.slice A0_0 n0_0 c0_0, .slice A0_1 n0_1 c0_1] := (by repeat (first | (with_reducible exact BX0.out) | (with_reducible refine Blk.drew ?_) | (with_reducible refine Blk.ext ?_ (by with_reducible assumption)) | (with_reducible refine Blk.out ?_ (by with_reducible assumption) ?ge; case ge => omega)))
  obtain ⟨q0_0, q0_1⟩ := blk2 bc0
  clear bc0
  have bcLw10 : Blk w_17 (w_10.heap.size) 42 [.slice A_10_0 n_10_0 c_10_0, .slice A_10_1 n_10_1 c_10_1] := (by repeat (first | (with_reducible exact BXLw10.out) | (with_reducible refine Blk.drew ?_) | (with_reducible refine Blk.ext ?_ (by with_reducible assumption)) | (with_reducible refine Blk.out ?_ (by with_reducible assumption) ?ge; case ge => omega)))
  obtain ⟨qLw10_0, qLw10_1⟩ := blk2 bcLw10
  clear bcLw10
  go_wp2_with fail
  clear q0_0 q0_1 qLw10_0 qLw10_1
  refine (toTrustRootS (.slice A1 x1.length c1) x1 _ (by exact H1.out.ext xo) (by omega)).mono ?_
  rintro e w_18 ⟨u_18, rfl, o_18, e_18⟩
  have z_18 := e_18.size
  have O_18 := Lib.hid o_18; clear o_18
  have bc0 : Blk w_18 (w.heap.size) 25 [.slice A0_0 n0_0 c0_0, .slice A0_1 n0_1 c0_1] := (by repeat (first | (with_reducible exact BX0.out) | (with_reducible refine Blk.drew ?_) | (with_reducible refine Blk.ext ?_ (by with_reducible assumption)) | (with_reducible refine Blk.out ?_ (by with_reducible assumption) ?ge; case ge => omega)))
  obtain ⟨q0_0, q0_1⟩ := blk2 bc0
  clear bc0
  have bcLw10 : Blk w_18 (w_10.heap.size) 42 [.slice A_10_0 n_10_0 c_10_0, .slice A_10_1 n_10_1 c_10_1] := (by repeat (first | (with_reducible exact BXLw10.out) | (with_reducible refine Blk.drew ?_) | (with_reducible refine Blk.ext ?_ (by with_reducible assumption)) | (with_reducible refine Blk.out ?_ (by with_reducible assumption) ?ge; case ge => omega)))
  obtain ⟨qLw10_0, qLw10_1⟩ := blk2 bcLw10
  clear bcLw10
  go_wp2_with fail
  clear q0_0 q0_1 qLw10_0 qLw10_1
  refine (eqTrustRootS _ _ x1 x1 _ (by exact TrustRootSO_rd (lo := w_10b.heap.size) (hi := w_11.heap.size) (by repeat (first | (with_reducible exact O_11.out) | (with_reducible refine TrustRootSO_drew ?_) | (with_reducible refine TrustRootSO_ext ?_ (by with_reducible assumption) ?ge; case ge => first | omega | (simp only [World.size_drew]; omega)) | (with_reducible refine TrustRootSO_out ?_ (by with_reducible assumption) ?ge; case ge => omega))) (by omega)) (by exact TrustRootSO_rd (lo := w_17.heap.size) (hi := w_18.heap.size) (by repeat (first | (with_reducible exact O_18.out) | (with_reducible refine TrustRootSO_drew ?_) | (with_reducible refine TrustRootSO_ext ?_ (by with_reducible assumption) ?ge; case ge => first | omega | (simp only [World.size_drew]; omega)) | (with_reducible refine TrustRootSO_out ?_ (by with_reducible assumption) ?ge; case ge => omega))) (by omega))).mono ?_
  rintro e w_19 ⟨rfl, e_19⟩
  have z_19 := e_19.size
  try rw [decide_eq_true rfl]
  have bc0 : Blk w_19 (w.heap.size) 25 [.slice A0_0 n0_0 c0_0, .slice A0_1 n0_1 c0_1] := (by repeat (first | (with_reducible exact BX0.out) | (with_reducible refine Blk.drew ?_) | (with_reducible refine Blk.ext ?_ (by with_reducible assumption)) | (with_reducible refine Blk.out ?_ (by with_reducible assumption) ?ge; case ge => omega)))
  obtain ⟨q0_0, q0_1⟩ := blk2 bc0
  clear bc0
  have bcLw10 : Blk w_19 (w_10.heap.size) 42 [.slice A_10_0 n_10_0 c_10_0, .slice A_10_1 n_10_1 c_10_1] := (by repeat (first | (with_reducible exact BXLw10.out) | (with_reducible refine Blk.drew ?_) | (with_reducible refine Blk.ext ?_ (by with_reducible assumption)) | (with_reducible refine Blk.out ?_ (by with_reducible assumption) ?ge; case ge => omega)))
  obtain ⟨qLw10_0, qLw10_1⟩ := blk2 bcLw10
  clear bcLw10
  go_wp2_with fail
  clear q0_0 q0_1 qLw10_0 qLw10_1
  refine (toCertificateS (.slice A2 x2.length c2) x2 _ (by exact H2.out.ext xo) (by omega)).mono ?_
  rintro e w_20 ⟨u_20, rfl, o_20, e_20⟩
  have z_20 := e_20.size
  have O_20 := Lib.hid o_20; clear o_20
  have bc0 : Blk w_20 (w.heap.size) 25 [.slice A0_0 n0_0 c0_0, .slice A0_1 n0_1 c0_1] := (by repeat (first | (with_reducible exact BX0.out) | (with_reducible refine Blk.drew ?_) | (with_reducible refine Blk.ext ?_ (by with_reducible assumption)) | (with_reducible refine Blk.out ?_ (by with_reducible assumption) ?ge; case ge => omega)))
  obtain ⟨q0_0, q0_1⟩ := blk2 bc0
  clear bc0
  have bcLw10 : Blk w_20 (w_10.heap.size) 42 [.slice A_10_0 n_10_0 c_10_0, .slice A_10_1 n_10_1 c_10_1] := (by repeat (first | (with_reducible exact BXLw10.out) | (with_reducible refine Blk.drew ?_) | (with_reducible refine Blk.ext ?_ (by with_reducible assumption)) | (with_reducible refine Blk.out ?_ (by with_reducible assumption) ?ge; case ge => omega)))
  obtain ⟨qLw10_0, qLw10_1⟩ := blk2 bcLw10
  clear bcLw10
  go_wp2_with fail
  clear q0_0 q0_1 qLw10_0 qLw10_1
  refine (eqCertificateS _ _ x2 x2 _ (by exact CertificateSO_rd (lo := w_11.heap.size) (hi := w_12.heap.size) (by repeat (first | (with_reducible exact O_12.out) | (with_reducible refine Own.drew ?_) | (with_reducible refine Own.ext ?_ (by with_reducible assumption) ?ge; case ge => first | omega | (simp only [World.size_drew]; omega)) | (with_reducible refine Own.out ?_ (by with_reducible assumption) ?ge; case ge => omega)))) (by exact CertificateSO_rd (lo := w_19.heap.size) (hi := w_20.heap.size) (by repeat (first | (with_reducible exact O_20.out) | (with_reducible refine Own.drew ?_) | (with_reducible refine Own.ext ?_ (by with_reducible assumption) ?ge; case ge => first | omega | (simp only [World.size_drew]; omega)) | (with_reducible refine Own.out ?_ (by with_reducible assumption) ?ge; case ge => omega))))).mono ?_
  rintro e w_21 ⟨rfl, e_21⟩
  have z_21 := e_21.size
  try rw [decide_eq_true rfl]
  have bc0 : Blk w_21 (w.heap.size) 25 [.slice A0_0 n0_0 c0_0, .slice A0_1 n0_1 c0_1] := (by repeat (first | (with_reducible exact BX0.out) | (with_reducible refine Blk.drew ?_) | (with_reducible refine Blk.ext ?_ (by with_reducible assumption)) | (with_reducible refine Blk.out ?_ (by with_reducible assumption) ?ge; case ge => omega)))
  obtain ⟨q0_0, q0_1⟩ := blk2 bc0
  clear bc0
  have bcLw10 : Blk w_21 (w_10.heap.size) 42 [.slice A_10_0 n_10_0 c_10_0, .slice A_10_1 n_10_1 c_10_1] := (by repeat (first | (with_reducible exact BXLw10.out) | (with_reducible refine Blk.drew ?_) | (with_reducible refine Blk.ext ?_ (by with_reducible assumption)) | (with_reducible refine Blk.out ?_ (by with_reducible assumption) ?ge; case ge => omega)))
  obtain ⟨qLw10_0, qLw10_1⟩ := blk2 bcLw10
  clear bcLw10
  go_wp2_with fail
  clear q0_0 q0_1 qLw10_0 qLw10_1
  refine (toSignedSegmentS (.slice A3 x3.length c3) x3 _ (by exact H3.out.ext xo) (by omega)).mono ?_
  rintro e w_22 ⟨u_22, rfl, o_22, e_22⟩
  have z_22 := e_22.size
  have O_22 := Lib.hid o_22; clear o_22
  have bc0 : Blk w_22 (w.heap.size) 25 [.slice A0_0 n0_0 c0_0, .slice A0_1 n0_1 c0_1] := (by repeat (first | (with_reducible exact BX0.out) | (with_reducible refine Blk.drew ?_) | (with_reducible refine Blk.ext ?_ (by with_reducible assumption)) | (with_reducible refine Blk.out ?_ (by with_reducible assumption) ?ge; case ge => omega)))
  obtain ⟨q0_0, q0_1⟩ := blk2 bc0
  clear bc0
  have bcLw10 : Blk w_22 (w_10.heap.size) 42 [.slice A_10_0 n_10_0 c_10_0, .slice A_10_1 n_10_1 c_10_1] := (by repeat (first | (with_reducible exact BXLw10.out) | (with_reducible refine Blk.drew ?_) | (with_reducible refine Blk.ext ?_ (by with_reducible assumption)) | (with_reducible refine Blk.out ?_ (by with_reducible assumption) ?ge; case ge => omega)))
  obtain ⟨qLw10_0, qLw10_1⟩ := blk2 bcLw10
  clear bcLw10
  go_wp2_with fail
  clear q0_0 q0_1 qLw10_0 qLw10_1
  refine (eqSignedSegmentS _ _ x3 x3 _ (by exact SignedSegmentSO_rd (lo := w_12.heap.size) (hi := w_13.heap.size) (by repeat (first | (with_reducible exact O_13.out) | (with_reducible refine SignedSegmentSO_drew ?_) | (with_reducible refine SignedSegmentSO_ext ?_ (by with_reducible assumption) ?ge; case ge => first | omega | (simp only [World.size_drew]; omega)) | (with_reducible refine SignedSegmentSO_out ?_ (by with_reducible assumption) ?ge; case ge => omega))) (by omega)) (by exact SignedSegmentSO_rd (lo := w_21.heap.size) (hi := w_22.heap.size) (by repeat (first | (with_reducible exact O_22.out) | (with_reducible refine SignedSegmentSO_drew ?_) | (with_reducible refine SignedSegmentSO_ext ?_ (by with_reducible assumption) ?ge; case ge => first | omega | (simp only [World.size_drew]; omega)) | (with_reducible refine SignedSegmentSO_out ?_ (by with_reducible assumption) ?ge; case ge => omega))) (by omega))).mono ?_
  rintro e w_23 ⟨rfl, e_23⟩
  have z_23 := e_23.size
  try rw [decide_eq_true rfl]
  have bc0 : Blk w_23 (w.heap.size) 25 [.slice A0_0 n0_0 c0_0, .slice A0_1 n0_1 c0_1] := (by repeat (first | (with_reducible exact BX0.out) | (with_reducible refine Blk.drew ?_) | (with_reducible refine Blk.ext ?_ (by with_reducible assumption)) | (with_reducible refine Blk.out ?_ (by with_reducible assumption) ?ge; case ge => omega)))
  obtain ⟨q0_0, q0_1⟩ := blk2 bc0
  clear bc0
  have bcLw10 : Blk w_23 (w_10.heap.size) 42 [.slice A_10_0 n_10_0 c_10_0, .slice A_10_1 n_10_1 c_10_1] := (by repeat (first | (with_reducible exact BXLw10.out) | (with_reducible refine Blk.drew ?_) | (with_reducible refine Blk.ext ?_ (by with_reducible assumption)) | (with_reducible refine Blk.out ?_ (by with_reducible assumption) ?ge; case ge => omega)))
  obtain ⟨qLw10_0, qLw10_1⟩ := blk2 bcLw10
  clear bcLw10
  go_wp2_with fail
  clear q0_0 q0_1 qLw10_0 qLw10_1
  have hcnt1_304 := TrustRootCnt_sum x1
  have hcnt3_305 := SignedSegmentCnt_sum x3
  have hcntr_306 := SegmentCnt_sum (filtSigned x0 x1 x2 x3 a4)
  have hres : (0 + ((filtSigned x0 x1 x2 x3 a4).map SegmentCnt).sum) ≤ 100000000000 := by have h : totS (fun y => y.hops.length) (filtSigned x0 x1 x2 x3 a4) ≤ totS (fun y => y.seg.hops.length + y.sigs.length) x3 := sigdOf_tot _ _ _ _ _; omega
  refine (markTopology _ (x0) 1 w_9.heap.size w_10.heap.size _ (by exact (by repeat (first | (with_reducible exact O_10.out) | (with_reducible refine TopologyO.drew ?_) | (with_reducible refine TopologyO.ext ?_ (by with_reducible assumption) ?ge; case ge => first | omega | (simp only [World.size_drew]; omega)) | (with_reducible refine TopologyO.out ?_ (by with_reducible assumption) ?ge; case ge => omega)))) (by omega) (by omega)).mono ?_
  rintro e w_24 ⟨rfl, o_24, e_24⟩
  have z_24 := e_24.size
  have O_24 := Lib.hid o_24; clear o_24
  have bc0 : Blk w_24 (w.heap.size) 25 [.slice A0_0 n0_0 c0_0, .slice A0_1 n0_1 c0_1] := (by repeat (first | (with_reducible exact BX0.out) | (with_reducible refine Blk.drew ?_) | (with_reducible refine Blk.ext ?_ (by with_reducible assumption)) | (with_reducible refine Blk.out ?_ (by with_reducible assumption) ?ge; case ge => omega)))
  obtain ⟨q0_0, q0_1⟩ := blk2 bc0
  clear bc0
  have bcLw10 : Blk w_24 (w_10.heap.size) 42 [.slice A_10_0 n_10_0 c_10_0, .slice A_10_1 n_10_1 c_10_1] := (by repeat (first | (with_reducible exact BXLw10.out) | (with_reducible refine Blk.drew ?_) | (with_reducible refine Blk.ext ?_ (by with_reducible assumption)) | (with_reducible refine Blk.out ?_ (by with_reducible assumption) ?ge; case ge => omega)))
  obtain ⟨qLw10_0, qLw10_1⟩ := blk2 bcLw10
  clear bcLw10
  go_wp2_with fail
  clear q0_0 q0_1 qLw10_0 qLw10_1
  refine (markTrustRootS _ (x1) ((1 + 3 * x0.ases.length) + 5 * x0.links.length) w_10b.heap.size w_11.heap.size _ (by exact (by repeat (first | (with_reducible exact O_11.out) | (with_reducible refine TrustRootSO_drew ?_) | (with_reducible refine TrustRootSO_ext ?_ (by with_reducible assumption) ?ge; case ge => first | omega | (simp only [World.size_drew]; omega)) | (with_reducible refine TrustRootSO_out ?_ (by with_reducible assumption) ?ge; case ge => omega)))) (by omega)).mono ?_
  rintro e w_25 ⟨rfl, o_25, e_25⟩
  have z_25 := e_25.size
  have O_25 := Lib.hid o_25; clear o_25
  have bc0 : Blk w_25 (w.heap.size) 25 [.slice A0_0 n0_0 c0_0, .slice A0_1 n0_1 c0_1] := (by repeat (first | (with_reducible exact BX0.out) | (with_reducible refine Blk.drew ?_) | (with_reducible refine Blk.ext ?_ (by with_reducible assumption)) | (with_reducible refine Blk.out ?_ (by with_reducible assumption) ?ge; case ge => omega)))
  obtain ⟨q0_0, q0_1⟩ := blk2 bc0
  clear bc0
  have bcLw10 : Blk w_25 (w_10.heap.size) 42 [.slice A_10_0 n_10_0 c_10_0, .slice A_10_1 n_10_1 c_10_1] := (by repeat (first | (with_reducible exact BXLw10.out) | (with_reducible refine Blk.drew ?_) | (with_reducible refine Blk.ext ?_ (by with_reducible assumption)) | (with_reducible refine Blk.out ?_ (by with_reducible assumption) ?ge; case ge => omega)))
  obtain ⟨qLw10_0, qLw10_1⟩ := blk2 bcLw10
  clear bcLw10
  go_wp2_with fail
  clear q0_0 q0_1 qLw10_0 qLw10_1
  refine (markCertificateS _ (x2) (((1 + 3 * x0.ases.length) + 5 * x0.links.length) + (x1.map TrustRootCnt).sum) w_11.heap.size w_12.heap.size _ (by exact (by repeat (first | (with_reducible exact O_12.out) | (with_reducible refine Own.drew ?_) | (with_reducible refine Own.ext ?_ (by with_reducible assumption) ?ge; case ge => first | omega | (simp only [World.size_drew]; omega)) | (with_reducible refine Own.out ?_ (by with_reducible assumption) ?ge; case ge => omega)))) (by omega)).mono ?_
  rintro e w_26 ⟨rfl, o_26, e_26⟩
  have z_26 := e_26.size
  have O_26 := Lib.hid o_26; clear o_26
  have bc0 : Blk w_26 (w.heap.size) 25 [.slice A0_0 n0_0 c0_0, .slice A0_1 n0_1 c0_1] := (by repeat (first | (with_reducible exact BX0.out) | (with_reducible refine Blk.drew ?_) | (with_reducible refine Blk.ext ?_ (by with_reducible assumption)) | (with_reducible refine Blk.out ?_ (by with_reducible assumption) ?ge; case ge => omega)))
  obtain ⟨q0_0, q0_1⟩ := blk2 bc0
  clear bc0
  have bcLw10 : Blk w_26 (w_10.heap.size) 42 [.slice A_10_0 n_10_0 c_10_0, .slice A_10_1 n_10_1 c_10_1] := (by repeat (first | (with_reducible exact BXLw10.out) | (with_reducible refine Blk.drew ?_) | (with_reducible refine Blk.ext ?_ (by with_reducible assumption)) | (with_reducible refine Blk.out ?_ (by with_reducible assumption) ?ge; case ge => omega)))
  obtain ⟨qLw10_0, qLw10_1⟩ := blk2 bcLw10
  clear bcLw10
  go_wp2_with fail
  clear q0_0 q0_1 qLw10_0 qLw10_1
  refine (markSignedSegmentS _ (x3) ((((1 + 3 * x0.ases.length) + 5 * x0.links.length) + (x1.map TrustRootCnt).sum) + 7 * x2.length) w_12.heap.size w_13.heap.size _ (by exact (by repeat (first | (with_reducible exact O_13.out) | (with_reducible refine SignedSegmentSO_drew ?_) | (with_reducible refine SignedSegmentSO_ext ?_ (by with_reducible assumption) ?ge; case ge => first | omega | (simp only [World.size_drew]; omega)) | (with_reducible refine SignedSegmentSO_out ?_ (by with_reducible assumption) ?ge; case ge => omega)))) (by omega)).mono ?_
  rintro e w_27 ⟨rfl, o_27, e_27⟩
  have z_27 := e_27.size
  have O_27 := Lib.hid o_27; clear o_27
  have bc0 : Blk w_27 (w.heap.size) 25 [.slice A0_0 n0_0 c0_0, .slice A0_1 n0_1 c0_1] := (by repeat (first | (with_reducible exact BX0.out) | (with_reducible refine Blk.drew ?_) | (with_reducible refine Blk.ext ?_ (by with_reducible assumption)) | (with_reducible refine Blk.out ?_ (by with_reducible assumption) ?ge; case ge => omega)))
  obtain ⟨q0_0, q0_1⟩ := blk2 bc0
  clear bc0
  have bcLw10 : Blk w_27 (w_10.heap.size) 42 [.slice A_10_0 n_10_0 c_10_0, .slice A_10_1 n_10_1 c_10_1] := (by repeat (first | (with_reducible exact BXLw10.out) | (with_reducible refine Blk.drew ?_) | (with_reducible refine Blk.ext ?_ (by with_reducible assumption)) | (with_reducible refine Blk.out ?_ (by with_reducible assumption) ?ge; case ge => omega)))
  obtain ⟨qLw10_0, qLw10_1⟩ := blk2 bcLw10
  clear bcLw10
  go_wp2_with fail
  clear q0_0 q0_1 qLw10_0 qLw10_1
  refine (eqSegmentS _ _ (filtSigned x0 x1 x2 x3 a4) (filtSigned x0 x1 x2 x3 a4) _ (by exact SegmentSO_rd (lo := w_13.heap.size) (hi := w_14.heap.size) (by repeat (first | (with_reducible exact O_14.out) | (with_reducible refine SegmentSO_drew ?_) | (with_reducible refine SegmentSO_ext ?_ (by with_reducible assumption) ?ge; case ge => first | omega | (simp only [World.size_drew]; omega)) | (with_reducible refine SegmentSO_out ?_ (by with_reducible assumption) ?ge; case ge => omega))) (by omega)) (by exact S_9.out.ext xo)).mono ?_
  rintro e w_28 ⟨rfl, e_28⟩
  have z_28 := e_28.size
  try rw [decide_eq_true rfl]
  have bc0 : Blk w_28 (w.heap.size) 25 [.slice A0_0 n0_0 c0_0, .slice A0_1 n0_1 c0_1] := (by repeat (first | (with_reducible exact BX0.out) | (with_reducible refine Blk.drew ?_) | (with_reducible refine Blk.ext ?_ (by with_reducible assumption)) | (with_reducible refine Blk.out ?_ (by with_reducible assumption) ?ge; case ge => omega)))
  obtain ⟨q0_0, q0_1⟩ := blk2 bc0
  clear bc0
  have bcLw10 : Blk w_28 (w_10.heap.size) 42 [.slice A_10_0 n_10_0 c_10_0, .slice A_10_1 n_10_1 c_10_1] := (by repeat (first | (with_reducible exact BXLw10.out) | (with_reducible refine Blk.drew ?_) | (with_reducible refine Blk.ext ?_ (by with_reducible assumption)) | (with_reducible refine Blk.out ?_ (by with_reducible assumption) ?ge; case ge => omega)))
  obtain ⟨qLw10_0, qLw10_1⟩ := blk2 bcLw10
  clear bcLw10
  go_wp2_with fail
  clear q0_0 q0_1 qLw10_0 qLw10_1
  refine (markSegmentS _ (filtSigned x0 x1 x2 x3 a4) 1 w_13.heap.size w_14.heap.size _ (by exact (by repeat (first | (with_reducible exact O_14.out) | (with_reducible refine SegmentSO_drew ?_) | (with_reducible refine SegmentSO_ext ?_ (by with_reducible assumption) ?ge; case ge => first | omega | (simp only [World.size_drew]; omega)) | (with_reducible refine SegmentSO_out ?_ (by with_reducible assumption) ?ge; case ge => omega)))) (by omega)).mono ?_
  rintro e w_29 ⟨rfl, o_29, e_29⟩
  have z_29 := e_29.size
  have O_29 := Lib.hid o_29; clear o_29
  have bc0 : Blk w_29 (w.heap.size) 25 [.slice A0_0 n0_0 c0_0, .slice A0_1 n0_1 c0_1] := (by repeat (first | (with_reducible exact BX0.out) | (with_reducible refine Blk.drew ?_) | (with_reducible refine Blk.ext ?_ (by with_reducible assumption)) | (with_reducible refine Blk.out ?_ (by with_reducible assumption) ?ge; case ge => omega)))
  obtain ⟨q0_0, q0_1⟩ := blk2 bc0
  clear bc0
  have bcLw10 : Blk w_29 (w_10.heap.size) 42 [.slice A_10_0 n_10_0 c_10_0, .slice A_10_1 n_10_1 c_10_1] := (by repeat (first | (with_reducible exact BXLw10.out) | (with_reducible refine Blk.drew ?_) | (with_reducible refine Blk.ext ?_ (by with_reducible assumption)) | (with_reducible refine Blk.out ?_ (by with_reducible assumption) ?ge; case ge => omega)))
  obtain ⟨qLw10_0, qLw10_1⟩ := blk2 bcLw10
  clear bcLw10
  go_wp2_with fail
  clear q0_0 q0_1 qLw10_0 qLw10_1
  refine (heldSegmentS _ (filtSigned x0 x1 x2 x3 a4) 1 _ (by exact SegmentSO_rd (lo := w_13.heap.size) (hi := w_14.heap.size) (xs := (numS SegmentNumE SegmentCnt 1 (filtSigned x0 x1 x2 x3 a4))) (by repeat (first | (with_reducible exact O_29.out) | (with_reducible refine SegmentSO_drew ?_) | (with_reducible refine SegmentSO_ext ?_ (by with_reducible assumption) ?ge; case ge => first | omega | (simp only [World.size_drew]; omega)) | (with_reducible refine SegmentSO_out ?_ (by with_reducible assumption) ?ge; case ge => omega))) (by omega)) (by omega)).mono ?_
  rintro e w_30 ⟨rfl, e_30⟩
  have z_30 := e_30.size
  have bc0 : Blk w_30 (w.heap.size) 25 [.slice A0_0 n0_0 c0_0, .slice A0_1 n0_1 c0_1] := (by repeat (first | (with_reducible exact BX0.out) | (with_reducible refine Blk.drew ?_) | (with_reducible refine Blk.ext ?_ (by with_reducible assumption)) | (with_reducible refine Blk.out ?_ (by with_reducible assumption) ?ge; case ge => omega)))
  obtain ⟨q0_0, q0_1⟩ := blk2 bc0
  clear bc0
  have bcLw10 : Blk w_30 (w_10.heap.size) 42 [.slice A_10_0 n_10_0 c_10_0, .slice A_10_1 n_10_1 c_10_1] := (by repeat (first | (with_reducible exact BXLw10.out) | (with_reducible refine Blk.drew ?_) | (with_reducible refine Blk.ext ?_ (by with_reducible assumption)) | (with_reducible refine Blk.out ?_ (by with_reducible assumption) ?ge; case ge => omega)))
  obtain ⟨qLw10_0, qLw10_1⟩ := blk2 bcLw10
  clear bcLw10
  go_wp2_with fail
  clear q0_0 q0_1 qLw10_0 qLw10_1
  refine (toTopology (.agg #[.slice A0_0 n0_0 c0_0, .slice A0_1 n0_1 c0_1]) x0 _ (by exact H0.out.ext xo) (by omega)).mono ?_
  rintro e w_31 ⟨u_31, rfl, o_31, e_31⟩
  have z_31 := e_31.size
  have O_31 := Lib.hid o_31; clear o_31
  obtain ⟨A_31_0, n_31_0, c_31_0, A_31_1, n_31_1, c_31_1, hv_31⟩ := O_31.out.shape
  subst hv_31
  have bc0 : Blk w_31 (w.heap.size) 25 [.slice A0_0 n0_0 c0_0, .slice A0_1 n0_1 c0_1] := (by repeat (first | (with_reducible exact BX0.out) | (with_reducible refine Blk.drew ?_) | (with_reducible refine Blk.ext ?_ (by with_reducible assumption)) | (with_reducible refine Blk.out ?_ (by with_reducible assumption) ?ge; case ge => omega)))
  obtain ⟨q0_0, q0_1⟩ := blk2 bc0
  clear bc0
  have bcLw10 : Blk w_31 (w_10.heap.size) 42 [.slice A_10_0 n_10_0 c_10_0, .slice A_10_1 n_10_1 c_10_1] := (by repeat (first | (with_reducible exact BXLw10.out) | (with_reducible refine Blk.drew ?_) | (with_reducible refine Blk.ext ?_ (by with_reducible assumption)) | (with_reducible refine Blk.out ?_ (by with_reducible assumption) ?ge; case ge => omega)))
  obtain ⟨qLw10_0, qLw10_1⟩ := blk2 bcLw10
  clear bcLw10
  go_wp2_with fail
  clear q0_0 q0_1 qLw10_0 qLw10_1
  refine (toTrustRootS (.slice A1 x1.length c1) x1 _ (by exact H1.out.ext xo) (by omega)).mono ?_
  rintro e w_32 ⟨u_32, rfl, o_32, e_32⟩
  have z_32 := e_32.size
  have O_32 := Lib.hid o_32; clear o_32
  have bc0 : Blk w_32 (w.heap.size) 25 [.slice A0_0 n0_0 c0_0, .slice A0_1 n0_1 c0_1] := (by repeat (first | (with_reducible exact BX0.out) | (with_reducible refine Blk.drew ?_) | (with_reducible refine Blk.ext ?_ (by with_reducible assumption)) | (with_reducible refine Blk.out ?_ (by with_reducible assumption) ?ge; case ge => omega)))
  obtain ⟨q0_0, q0_1⟩ := blk2 bc0
  clear bc0
  have bcLw10 : Blk w_32 (w_10.heap.size) 42 [.slice A_10_0 n_10_0 c_10_0, .slice A_10_1 n_10_1 c_10_1] := (by repeat (first | (with_reducible exact BXLw10.out) | (with_reducible refine Blk.drew ?_) | (with_reducible refine Blk.ext ?_ (by with_reducible assumption)) | (with_reducible refine Blk.out ?_ (by with_reducible assumption) ?ge; case ge => omega)))
  obtain ⟨qLw10_0, qLw10_1⟩ := blk2 bcLw10
  clear bcLw10
  go_wp2_with fail
  clear q0_0 q0_1 qLw10_0 qLw10_1
  refine (toCertificateS (.slice A2 x2.length c2) x2 _ (by exact H2.out.ext xo) (by omega)).mono ?_
  rintro e w_33 ⟨u_33, rfl, o_33, e_33⟩
  have z_33 := e_33.size
  have O_33 := Lib.hid o_33; clear o_33
  have bc0 : Blk w_33 (w.heap.size) 25 [.slice A0_0 n0_0 c0_0, .slice A0_1 n0_1 c0_1] := (by repeat (first | (with_reducible exact BX0.out) | (with_reducible refine Blk.drew ?_) | (with_reducible refine Blk.ext ?_ (by with_reducible assumption)) | (with_reducible refine Blk.out ?_ (by with_reducible assumption) ?ge; case ge => omega)))
  obtain ⟨q0_0, q0_1⟩ := blk2 bc0
  clear bc0
  have bcLw10 : Blk w_33 (w_10.heap.size) 42 [.slice A_10_0 n_10_0 c_10_0, .slice A_10_1 n_10_1 c_10_1] := (by repeat (first | (with_reducible exact BXLw10.out) | (with_reducible refine Blk.drew ?_) | (with_reducible refine Blk.ext ?_ (by with_reducible assumption)) | (with_reducible refine Blk.out ?_ (by with_reducible assumption) ?ge; case ge => omega)))
  obtain ⟨qLw10_0, qLw10_1⟩ := blk2 bcLw10
  clear bcLw10
  go_wp2_with fail
  clear q0_0 q0_1 qLw10_0 qLw10_1
  refine (toSignedSegmentS (.slice A3 x3.length c3) x3 _ (by exact H3.out.ext xo) (by omega)).mono ?_
  rintro e w_34 ⟨u_34, rfl, o_34, e_34⟩
  have z_34 := e_34.size
  have O_34 := Lib.hid o_34; clear o_34
  have bc0 : Blk w_34 (w.heap.size) 25 [.slice A0_0 n0_0 c0_0, .slice A0_1 n0_1 c0_1] := (by repeat (first | (with_reducible exact BX0.out) | (with_reducible refine Blk.drew ?_) | (with_reducible refine Blk.ext ?_ (by with_reducible assumption)) | (with_reducible refine Blk.out ?_ (by with_reducible assumption) ?ge; case ge => omega)))
  obtain ⟨q0_0, q0_1⟩ := blk2 bc0
  clear bc0
  have bcLw10 : Blk w_34 (w_10.heap.size) 42 [.slice A_10_0 n_10_0 c_10_0, .slice A_10_1 n_10_1 c_10_1] := (by repeat (first | (with_reducible exact BXLw10.out) | (with_reducible refine Blk.drew ?_) | (with_reducible refine Blk.ext ?_ (by with_reducible assumption)) | (with_reducible refine Blk.out ?_ (by with_reducible assumption) ?ge; case ge => omega)))
  obtain ⟨qLw10_0, qLw10_1⟩ := blk2 bcLw10
  clear bcLw10
  go_wp2_with fail
  clear q0_0 q0_1 qLw10_0 qLw10_1
  refine (impl_FilterSigned _ _ _ _ a4 x0 x1 x2 x3 _ (by exact TopologyO_rd (lo := w_30.heap.size) (hi := w_31.heap.size) (by repeat (first | (with_reducible exact O_31.out) | (with_reducible refine TopologyO.drew ?_) | (with_reducible refine TopologyO.ext ?_ (by with_reducible assumption) ?ge; case ge => first | omega | (simp only [World.size_drew]; omega)) | (with_reducible refine TopologyO.out ?_ (by with_reducible assumption) ?ge; case ge => omega))) (by omega)) (by exact TrustRootSO_rd (lo := w_31.heap.size) (hi := w_32.heap.size) (by repeat (first | (with_reducible exact O_32.out) | (with_reducible refine TrustRootSO_drew ?_) | (with_reducible refine TrustRootSO_ext ?_ (by with_reducible assumption) ?ge; case ge => first | omega | (simp only [World.size_drew]; omega)) | (with_reducible refine TrustRootSO_out ?_ (by with_reducible assumption) ?ge; case ge => omega))) (by omega)) (by exact CertificateSO_rd (lo := w_32.heap.size) (hi := w_33.heap.size) (by repeat (first | (with_reducible exact O_33.out) | (with_reducible refine Own.drew ?_) | (with_reducible refine Own.ext ?_ (by with_reducible assumption) ?ge; case ge => first | omega | (simp only [World.size_drew]; omega)) | (with_reducible refine Own.out ?_ (by with_reducible assumption) ?ge; case ge => omega)))) (by exact SignedSegmentSO_rd (lo := w_33.heap.size) (hi := w_34.heap.size) (by repeat (first | (with_reducible exact O_34.out) | (with_reducible refine SignedSegmentSO_drew ?_) | (with_reducible refine SignedSegmentSO_ext ?_ (by with_reducible assumption) ?ge; case ge => first | omega | (simp only [World.size_drew]; omega)) | (with_reducible refine SignedSegmentSO_out ?_ (by with_reducible assumption) ?ge; case ge => omega))) (by omega)) (by exact hb3)).mono ?_
  rintro e w_35 ⟨u_35, rfl, o_35, e_35⟩
  have z_35 := e_35.size
  have O_35 := Lib.hid o_35; clear o_35
  have bc0 : Blk w_35 (w.heap.size) 25 [.slice A0_0 n0_0 c0_0, .slice A0_1 n0_1 c0_1] := (by repeat (first | (with_reducible exact BX0.out) | (with_reducible refine Blk.drew ?_) | (with_reducible refine Blk.ext ?_ (by with_reducible assumption)) | (with_reducible refine Blk.out ?_ (by with_reducible assumption) ?ge; case ge => omega)))
  obtain ⟨q0_0, q0_1⟩ := blk2 bc0
  clear bc0
  have bcLw10 : Blk w_35 (w_10.heap.size) 42 [.slice A_10_0 n_10_0 c_10_0, .slice A_10_1 n_10_1 c_10_1] := (by repeat (first | (with_reducible exact BXLw10.out) | (with_reducible refine Blk.drew ?_) | (with_reducible refine Blk.ext ?_ (by with_reducible assumption)) | (with_reducible refine Blk.out ?_ (by with_reducible assumption) ?ge; case ge => omega)))
  obtain ⟨qLw10_0, qLw10_1⟩ := blk2 bcLw10
  clear bcLw10
  go_wp2_with fail
  clear q0_0 q0_1 qLw10_0 qLw10_1
  refine (eqSegmentS _ _ (filtSigned x0 x1 x2 x3 a4) (filtSigned x0 x1 x2 x3 a4) _ (by exact SegmentSO_rd (lo := w_34.heap.size) (hi := w_35.heap.size) (by repeat (first | (with_reducible exact O_35.out) | (with_reducible refine SegmentSO_drew ?_) | (with_reducible refine SegmentSO_ext ?_ (by with_reducible assumption) ?ge; case ge => first | omega | (simp only [World.size_drew]; omega)) | (with_reducible refine SegmentSO_out ?_ (by with_reducible assumption) ?ge; case ge => omega))) (by omega)) (by exact S_9.out.ext xo)).mono ?_
  rintro e w_36 ⟨rfl, e_36⟩
  have z_36 := e_36.size
  try rw [decide_eq_true rfl]
  have bc0 : Blk w_36 (w.heap.size) 25 [.slice A0_0 n0_0 c0_0, .slice A0_1 n0_1 c0_1] := (by repeat (first | (with_reducible exact BX0.out) | (with_reducible refine Blk.drew ?_) | (with_reducible refine Blk.ext ?_ (by with_reducible assumption)) | (with_reducible refine Blk.out ?_ (by with_reducible assumption) ?ge; case ge => omega)))
  obtain ⟨q0_0, q0_1⟩ := blk2 bc0
  clear bc0
  have bcLw10 : Blk w_36 (w_10.heap.size) 42 [.slice A_10_0 n_10_0 c_10_0, .slice A_10_1 n_10_1 c_10_1] := (by repeat (first | (with_reducible exact BXLw10.out) | (with_reducible refine Blk.drew ?_) | (with_reducible refine Blk.ext ?_ (by with_reducible assumption)) | (with_reducible refine Blk.out ?_ (by with_reducible assumption) ?ge; case ge => omega)))
  obtain ⟨qLw10_0, qLw10_1⟩ := blk2 bcLw10
  clear bcLw10
  go_wp2_with fail
  clear q0_0 q0_1 qLw10_0 qLw10_1
  refine (heldSegmentS _ (filtSigned x0 x1 x2 x3 a4) 1 _ (by exact SegmentSO_rd (lo := w_13.heap.size) (hi := w_14.heap.size) (xs := (numS SegmentNumE SegmentCnt 1 (filtSigned x0 x1 x2 x3 a4))) (by repeat (first | (with_reducible exact O_29.out) | (with_reducible refine SegmentSO_drew ?_) | (with_reducible refine SegmentSO_ext ?_ (by with_reducible assumption) ?ge; case ge => first | omega | (simp only [World.size_drew]; omega)) | (with_reducible refine SegmentSO_out ?_ (by with_reducible assumption) ?ge; case ge => omega))) (by omega)) (by omega)).mono ?_
  rintro e w_37 ⟨rfl, e_37⟩
  have z_37 := e_37.size
  have bc0 : Blk w_37 (w.heap.size) 25 [.slice A0_0 n0_0 c0_0, .slice A0_1 n0_1 c0_1] := (by repeat (first | (with_reducible exact BX0.out) | (with_reducible refine Blk.drew ?_) | (with_reducible refine Blk.ext ?_ (by with_reducible assumption)) | (with_reducible refine Blk.out ?_ (by with_reducible assumption) ?ge; case ge => omega)))
  obtain ⟨q0_0, q0_1⟩ := blk2 bc0
  clear bc0
  have bcLw10 : Blk w_37 (w_10.heap.size) 42 [.slice A_10_0 n_10_0 c_10_0, .slice A_10_1 n_10_1 c_10_1] := (by repeat (first | (with_reducible exact BXLw10.out) | (with_reducible refine Blk.drew ?_) | (with_reducible refine Blk.ext ?_ (by with_reducible assumption)) | (with_reducible refine Blk.out ?_ (by with_reducible assumption) ?ge; case ge => omega)))
  obtain ⟨qLw10_0, qLw10_1⟩ := blk2 bcLw10
  clear bcLw10
  go_wp2_with fail
  clear q0_0 q0_1 qLw10_0 qLw10_1
  go_ret
  exact ⟨rfl, xo⟩
set_option maxRecDepth 100000 in
theorem lifted (os : Os) (started : os.Started) (H : Type) (enc : TypeId × Value → H) :
    ReturnsInHanded {} Tryz.checked os 7 .any (Rows.fnExactFilterSignedSpec.pre6 enc Tryz.prog Tryz.f7 Rows.fnExactFilterSignedRow.domain false) (Rows.fnExactFilterSignedSpec.post enc Tryz.prog Tryz.f7 false true false false) := by
  refine returnsInHanded_of_change (C := Tryz.checked) own started (by kernel_rfl) Tryz.func7
    (ChangeSpec.witness6 (enc := enc) (C := Tryz.checked) false ⟨#[], #[.agg #[.slice none 0 0, .slice none 0 0], .slice none 0 0, .slice none 0 0, .slice none 0 0, .int .i64 0], []⟩ 8 (by kernel_rfl) (by kernel_rfl) (by kernel_rfl) (by kernel_rfl)) ?_
  intro W base args ds gs before hval0 hW hcnd _
  have hval : ∀ (j : Nat) t v, Tryz.f7.params[j]? = some t → args[j]? = some v → Value.okWide Tryz.prog W .any base t v := hval0
  have hW' := hW
  obtain ⟨p, q, hA0, hV, rfl, hfz, hnd⟩ := hW
  have hA : DataW.TrodAll enc Tryz.prog W 0 (fun _ => true) true Tryz.f7.params.toList args.toList ds p := hA0
  rw [Tryz.params7] at hA hval
  obtain ⟨v0, vs0, d0, ds0, p0, q0, hargs, rfl, rfl, h0, r0⟩ := trodAll_cons hA
  obtain ⟨v1, vs1, d1, ds1, p1, q1, rfl, rfl, rfl, h1, r1⟩ := trodAll_cons r0
  obtain ⟨v2, vs2, d2, ds2, p2, q2, rfl, rfl, rfl, h2, r2⟩ := trodAll_cons r1
  obtain ⟨v3, vs3, d3, ds3, p3, q3, rfl, rfl, rfl, h3, r3⟩ := trodAll_cons r2
  obtain ⟨v4, vs4, d4, ds4, p4, q4, rfl, rfl, rfl, h4, r4⟩ := trodAll_cons r3
  obtain ⟨rfl, rfl, rfl⟩ := trodAll_nil r4
  obtain rfl : args = #[v0, v1, v2, v3, v4] := by cases args; simp_all
  obtain ⟨rfl, rfl⟩ := trodVars_none hV
  have k0 := h0
  have lt0 : ∀ x ∈ p0, x.block < W.heap.size := by obtain ⟨m, hm⟩ := k0; exact DataW.trod_lt m _ _ _ hm
  obtain ⟨cs0, rfl, _⟩ := okWide_struct Tryz.underlying25 (hval 0 25 v0 rfl rfl)
  obtain ⟨x0, y0⟩ : ∃ d, TopologyV W.heap.size W (.agg cs0) d := by
    obtain ⟨fuel, hf⟩ := h0
    obtain ⟨d, A0, n0, c0, A1, n1, c1, e, s0, s1⟩ := read_Topology hf
    have e1 : cs0 = #[.slice A0 n0 c0, .slice A1 n1 c1] := by cases cs0; simpa [Value.cells] using e
    exact ⟨d, ⟨_, _, _, _, _, _, by rw [e1], s0, s1⟩⟩
  have k1 := h1
  have lt1 : ∀ x ∈ p1, x.block < W.heap.size := by obtain ⟨m, hm⟩ := k1; exact DataW.trod_lt m _ _ _ hm
  obtain ⟨a1, len1, cap1, rfl⟩ := okWide_slice Tryz.underlying90 (hval 1 90 v1 rfl rfl)
  obtain ⟨x1, y1⟩ : ∃ ds, TrustRootS W.heap.size W (.slice a1 len1 cap1) ds := by
    obtain ⟨fuel, hf⟩ := h1
    obtain ⟨A, n, c, ds, e, hs⟩ := read_TrustRootS hf
    simp only [Value.cells, List.cons.injEq, and_true] at e
    rw [← e] at hs
    exact ⟨ds, hs⟩
  have k2 := h2
  have lt2 : ∀ x ∈ p2, x.block < W.heap.size := by obtain ⟨m, hm⟩ := k2; exact DataW.trod_lt m _ _ _ hm
  obtain ⟨a2, len2, cap2, rfl⟩ := okWide_slice Tryz.underlying91 (hval 2 91 v2 rfl rfl)
  obtain ⟨x2, y2⟩ : ∃ ds, CertificateS W.heap.size W (.slice a2 len2 cap2) ds := by
    obtain ⟨fuel, hf⟩ := h2
    obtain ⟨A, n, c, ds, e, hs⟩ := read_CertificateS hf
    simp only [Value.cells, List.cons.injEq, and_true] at e
    rw [← e] at hs
    exact ⟨ds, hs⟩
  have k3 := h3
  have lt3 : ∀ x ∈ p3, x.block < W.heap.size := by obtain ⟨m, hm⟩ := k3; exact DataW.trod_lt m _ _ _ hm
  obtain ⟨a3, len3, cap3, rfl⟩ := okWide_slice Tryz.underlying110 (hval 3 110 v3 rfl rfl)
  obtain ⟨x3, y3⟩ : ∃ ds, SignedSegmentS W.heap.size W (.slice a3 len3 cap3) ds := by
    obtain ⟨fuel, hf⟩ := h3
    obtain ⟨A, n, c, ds, e, hs⟩ := read_SignedSegmentS hf
    simp only [Value.cells, List.cons.injEq, and_true] at e
    rw [← e] at hs
    exact ⟨ds, hs⟩
  obtain ⟨a4, rfl, rfl, rfl, w4⟩ := open_int Tryz.underlying3 (hval 4 3 v4 rfl rfl) h4
  clear hA0 hval0
  refine (walk _ x0 _ x1 _ x2 _ x3 a4 W y0 y1 y2 y3).mono fun e W' ⟨he, bel⟩ => ?_
  subst he
  exact ⟨_, rfl, _, _, _, [], _, [], hW', trodAll_mk1 (shut_bool Tryz.underlying4 _), (trodAll_cons_mk (Below.trod laidOut (by kernel_rfl) (of_decide_eq_true (by kernel_rfl)) k0 bel.below lt0) (trodAll_cons_mk (Below.trod laidOut (by kernel_rfl) (of_decide_eq_true (by kernel_rfl)) k1 bel.below lt1) (trodAll_cons_mk (Below.trod laidOut (by kernel_rfl) (of_decide_eq_true (by kernel_rfl)) k2 bel.below lt2) (trodAll_cons_mk (Below.trod laidOut (by kernel_rfl) (of_decide_eq_true (by kernel_rfl)) k3 bel.below lt3) (trodAll_cons_mk (shut_int Tryz.underlying3 w4) trodAll_mk0))))), rfl, bel.below.frame _, fun h => by cases h⟩

theorem and2 {a b : Bool} (h : a = true) (k : b = true) : (a && b) = true := by rw [h, k]; rfl
set_option maxRecDepth 100000 in
set_option maxHeartbeats 4000000 in
theorem over : Rows.fnExactFilterSignedRow.holds Tryz.pinned (OpenSpec.ofChange Rows.fnExactFilterSignedSpec) :=
  OpenClaim.holds_of_wide 7 Tryz.f7 rfl rfl rfl rfl rfl rfl rfl ⟨rfl, rfl, rfl, rfl, rfl⟩ rfl rfl rfl rfl rfl (by as_aux_lemma => kernel_rfl) Tryz.func7 (by unfold joinedFacts; (repeat' (with_reducible refine and2 ?_ ?_)); (all_goals (as_aux_lemma => kernel_rfl)))
    (of_decide_eq_true (by as_aux_lemma => kernel_rfl)) (by unfold Func.isWrapper; first | (rw [if_pos (by decide +kernel)]; as_aux_lemma => kernel_rfl) | (rw [if_neg (by decide +kernel)]; exact ⟨rfl, rfl⟩))
    (fun os started H enc _ => lifted os started H enc)

/-- The statement. -/
theorem proved : Rows.FnExactFilterSignedSaid := over
#print axioms proved
end Go.Proofs.YtbojbgicmdgfaaaGreat.lawFilterSigned
