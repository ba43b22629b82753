/- The law FnExactSignedSegmentValid returns true for every input and changes no argument. No conditions. -/
import Derived.Test.YtbojbgicmdgfaaaGreatGL20f
import Derived.Test.YtbojbgicmdgfaaaGreatRead
namespace Go.Proofs.YtbojbgicmdgfaaaGreat.lawSignedSegmentValid
open Go.RowKit
set_option linter.unusedVariables false
open Go.ChangeShapes Go.WideShapes Go.ChangeAt
theorem own : ownKnob Tryz.prog.godebug = none := by kernel_rfl
theorem laidOut : laidOutB Tryz.prog = true := by kernel_rfl

set_option maxRecDepth 100000 in
set_option maxHeartbeats 1000000 in
theorem walk (v0 : Value) (x0 : DTopology) (v1 : Value) (x1 : List DTrustRoot) (v2 : Value) (x2 : List DCertificate) (v3 : Value) (x3 : DSignedSegment) (a4 : Int) (w : World) (h0 : TopologyV w.heap.size w v0 x0) (h1 : TrustRootS w.heap.size w v1 x1) (h2 : CertificateS w.heap.size w v2 x2) (h3 : SignedSegmentV w.heap.size w v3 x3) :
    Calls Tryz.prog 6 #[v0, v1, v2, v3, I a4] w fun e w' => e = .returned (.bool true) ∧ Ext w w' := by
  have H0 := Lib.hid h0
  obtain ⟨A0_0, n0_0, c0_0, A0_1, n0_1, c0_1, rfl, -⟩ := h0
  obtain ⟨A1, n1, c1, rfl, hl1, hn1, hm1, -⟩ := id h1
  subst hl1
  unfold maxLen at hm1
  have H1 := Lib.hid h1; clear h1
  obtain ⟨A2, n2, c2, rfl, hl2, hn2, hm2, -⟩ := id h2
  subst hl2
  unfold maxLen at hm2
  have H2 := Lib.hid h2; clear h2
  have H3 := Lib.hid h3
  obtain ⟨A3_2, n3_2, c3_2, A3_3, n3_3, c3_3, rfl, -⟩ := h3
  go_enter Tryz.func6, Tryz.ntmps6
  go_wp2_with fail
  have bx0 : Blk ((w.alloc (.cells #[.slice A0_0 n0_0 c0_0, .slice A0_1 n0_1 c0_1] 25)).alloc (.cells #[I x3.seg.ts, I x3.seg.beta, .slice A3_2 n3_2 c3_2, .slice A3_3 n3_3 c3_3] 94)) (w.heap.size) 25 [.slice A0_0 n0_0 c0_0, .slice A0_1 n0_1 c0_1] := by simpa using (Blk.new w 25 [.slice A0_0 n0_0 c0_0, .slice A0_1 n0_1 c0_1]).alloc _
  have BX0 := Lib.hid bx0; clear bx0
  have bx3 : Blk ((w.alloc (.cells #[.slice A0_0 n0_0 c0_0, .slice A0_1 n0_1 c0_1] 25)).alloc (.cells #[I x3.seg.ts, I x3.seg.beta, .slice A3_2 n3_2 c3_2, .slice A3_3 n3_3 c3_3] 94)) (w.heap.size + 1) 94 [I x3.seg.ts, I x3.seg.beta, .slice A3_2 n3_2 c3_2, .slice A3_3 n3_3 c3_3] := by simpa using Blk.new (w.alloc (.cells #[.slice A0_0 n0_0 c0_0, .slice A0_1 n0_1 c0_1] 25)) 94 [I x3.seg.ts, I x3.seg.beta, .slice A3_2 n3_2 c3_2, .slice A3_3 n3_3 c3_3]
  have BX3 := Lib.hid bx3; clear bx3
  have ew : Ext w ((w.alloc (.cells #[.slice A0_0 n0_0 c0_0, .slice A0_1 n0_1 c0_1] 25)).alloc (.cells #[I x3.seg.ts, I x3.seg.beta, .slice A3_2 n3_2 c3_2, .slice A3_3 n3_3 c3_3] 94)) := xo
  have zw : w.heap.size + 2 ≤ ((w.alloc (.cells #[.slice A0_0 n0_0 c0_0, .slice A0_1 n0_1 c0_1] 25)).alloc (.cells #[I x3.seg.ts, I x3.seg.beta, .slice A3_2 n3_2 c3_2, .slice A3_3 n3_3 c3_3] 94)).heap.size := by simp only [World.size_alloc]; omega
  generalize ((w.alloc (.cells #[.slice A0_0 n0_0 c0_0, .slice A0_1 n0_1 c0_1] 25)).alloc (.cells #[I x3.seg.ts, I x3.seg.beta, .slice A3_2 n3_2 c3_2, .slice A3_3 n3_3 c3_3] 94)) = w0 at *
  refine (szTopology _ x0 (1048576) _ (by exact H0.out.ext xo) (by omega) (by omega)).mono ?_
  rintro e w_1 ⟨rfl, e_1⟩
  have z_1 := e_1.size
  by_cases hlt0 : 1048576 < ((x0.ases.length + x0.links.length : Nat) : Int)
  · rw [szR_neg hlt0]
    go_wp2_with fail
    go_ret
    exact ⟨rfl, xo⟩
  rw [szR_pos (by omega)]
  have hb0 : x0.ases.length + x0.links.length ≤ 1048576 := by omega
  have bc0 : Blk w_1 (w.heap.size) 25 [.slice A0_0 n0_0 c0_0, .slice A0_1 n0_1 c0_1] := (by repeat (first | (with_reducible exact BX0.out) | (with_reducible refine Blk.drew ?_) | (with_reducible refine Blk.ext ?_ (by with_reducible assumption)) | (with_reducible refine Blk.out ?_ (by with_reducible assumption) ?ge; case ge => omega)))
  obtain ⟨q0_0, q0_1⟩ := blk2 bc0
  clear bc0
  have bc3 : Blk w_1 (w.heap.size + 1) 94 [I x3.seg.ts, I x3.seg.beta, .slice A3_2 n3_2 c3_2, .slice A3_3 n3_3 c3_3] := (by repeat (first | (with_reducible exact BX3.out) | (with_reducible refine Blk.drew ?_) | (with_reducible refine Blk.ext ?_ (by with_reducible assumption)) | (with_reducible refine Blk.out ?_ (by with_reducible assumption) ?ge; case ge => omega)))
  obtain ⟨q3_0, q3_1, q3_2, q3_3⟩ := blk4 bc3
  clear bc3
  go_wp2_with fail
  clear q0_0 q0_1 q3_0 q3_1 q3_2 q3_3
  refine (szTrustRootS _ x1 (1048576 - ((x0.ases.length + x0.links.length : Nat) : Int)) _ (by exact H1.out.ext xo) (by omega) (by omega)).mono ?_
  rintro e w_2 ⟨rfl, e_2⟩
  have z_2 := e_2.size
  by_cases hlt1 : 1048576 - ((x0.ases.length + x0.links.length : Nat) : Int) < ((totS (fun y => y.sigs.length) x1 : Nat) : Int)
  · rw [szR_neg hlt1]
    go_wp2_with fail
    go_ret
    exact ⟨rfl, xo⟩
  rw [szR_pos (by omega)]
  have hb1 : totS (fun y => y.sigs.length) x1 ≤ 1048576 := by omega
  have bc0 : Blk w_2 (w.heap.size) 25 [.slice A0_0 n0_0 c0_0, .slice A0_1 n0_1 c0_1] := (by repeat (first | (with_reducible exact BX0.out) | (with_reducible refine Blk.drew ?_) | (with_reducible refine Blk.ext ?_ (by with_reducible assumption)) | (with_reducible refine Blk.out ?_ (by with_reducible assumption) ?ge; case ge => omega)))
  obtain ⟨q0_0, q0_1⟩ := blk2 bc0
  clear bc0
  have bc3 : Blk w_2 (w.heap.size + 1) 94 [I x3.seg.ts, I x3.seg.beta, .slice A3_2 n3_2 c3_2, .slice A3_3 n3_3 c3_3] := (by repeat (first | (with_reducible exact BX3.out) | (with_reducible refine Blk.drew ?_) | (with_reducible refine Blk.ext ?_ (by with_reducible assumption)) | (with_reducible refine Blk.out ?_ (by with_reducible assumption) ?ge; case ge => omega)))
  obtain ⟨q3_0, q3_1, q3_2, q3_3⟩ := blk4 bc3
  clear bc3
  go_wp2_with fail
  clear q0_0 q0_1 q3_0 q3_1 q3_2 q3_3
  refine (szCertificateS _ x2 (1048576 - ((x0.ases.length + x0.links.length : Nat) : Int) - ((totS (fun y => y.sigs.length) x1 : Nat) : Int)) _ (by exact H2.out.ext xo) (by omega) (by omega)).mono ?_
  rintro e w_3 ⟨rfl, e_3⟩
  have z_3 := e_3.size
  by_cases hlt2 : 1048576 - ((x0.ases.length + x0.links.length : Nat) : Int) - ((totS (fun y => y.sigs.length) x1 : Nat) : Int) < ((x2.length : Nat) : Int)
  · rw [szR_neg hlt2]
    go_wp2_with fail
    go_ret
    exact ⟨rfl, xo⟩
  rw [szR_pos (by omega)]
  have hb2 : x2.length ≤ 1048576 := by omega
  have bc0 : Blk w_3 (w.heap.size) 25 [.slice A0_0 n0_0 c0_0, .slice A0_1 n0_1 c0_1] := (by repeat (first | (with_reducible exact BX0.out) | (with_reducible refine Blk.drew ?_) | (with_reducible refine Blk.ext ?_ (by with_reducible assumption)) | (with_reducible refine Blk.out ?_ (by with_reducible assumption) ?ge; case ge => omega)))
  obtain ⟨q0_0, q0_1⟩ := blk2 bc0
  clear bc0
  have bc3 : Blk w_3 (w.heap.size + 1) 94 [I x3.seg.ts, I x3.seg.beta, .slice A3_2 n3_2 c3_2, .slice A3_3 n3_3 c3_3] := (by repeat (first | (with_reducible exact BX3.out) | (with_reducible refine Blk.drew ?_) | (with_reducible refine Blk.ext ?_ (by with_reducible assumption)) | (with_reducible refine Blk.out ?_ (by with_reducible assumption) ?ge; case ge => omega)))
  obtain ⟨q3_0, q3_1, q3_2, q3_3⟩ := blk4 bc3
  clear bc3
  go_wp2_with fail
  clear q0_0 q0_1 q3_0 q3_1 q3_2 q3_3
  refine (szSignedSegment _ x3 (1048576 - ((x0.ases.length + x0.links.length : Nat) : Int) - ((totS (fun y => y.sigs.length) x1 : Nat) : Int) - ((x2.length : Nat) : Int)) _ (by exact H3.out.ext xo) (by omega) (by omega)).mono ?_
  rintro e w_4 ⟨rfl, e_4⟩
  have z_4 := e_4.size
  by_cases hlt3 : 1048576 - ((x0.ases.length + x0.links.length : Nat) : Int) - ((totS (fun y => y.sigs.length) x1 : Nat) : Int) - ((x2.length : Nat) : Int) < ((x3.seg.hops.length + x3.sigs.length : Nat) : Int)
  · rw [szR_neg hlt3]
    go_wp2_with fail
    go_ret
    exact ⟨rfl, xo⟩
  rw [szR_pos (by omega)]
  have hb3 : x3.seg.hops.length + x3.sigs.length ≤ 1048576 := by omega
  have bc0 : Blk w_4 (w.heap.size) 25 [.slice A0_0 n0_0 c0_0, .slice A0_1 n0_1 c0_1] := (by repeat (first | (with_reducible exact BX0.out) | (with_reducible refine Blk.drew ?_) | (with_reducible refine Blk.ext ?_ (by with_reducible assumption)) | (with_reducible refine Blk.out ?_ (by with_reducible assumption) ?ge; case ge => omega)))
  obtain ⟨q0_0, q0_1⟩ := blk2 bc0
  clear bc0
  have bc3 : Blk w_4 (w.heap.size + 1) 94 [I x3.seg.ts, I x3.seg.beta, .slice A3_2 n3_2 c3_2, .slice A3_3 n3_3 c3_3] := (by repeat (first | (with_reducible exact BX3.out) | (with_reducible refine Blk.drew ?_) | (with_reducible refine Blk.ext ?_ (by with_reducible assumption)) | (with_reducible refine Blk.out ?_ (by with_reducible assumption) ?ge; case ge => omega)))
  obtain ⟨q3_0, q3_1, q3_2, q3_3⟩ := blk4 bc3
  clear bc3
  go_wp2_with fail
  clear q0_0 q0_1 q3_0 q3_1 q3_2 q3_3
  have bc0 : Blk w_4 (w.heap.size) 25 [.slice A0_0 n0_0 c0_0, .slice A0_1 n0_1 c0_1] := (by repeat (first | (with_reducible exact BX0.out) | (with_reducible refine Blk.drew ?_) | (with_reducible refine Blk.ext ?_ (by with_reducible assumption)) | (with_reducible refine Blk.out ?_ (by with_reducible assumption) ?ge; case ge => omega)))
  have lt0 := bc0.lt
  obtain ⟨q0_0, q0_1⟩ := blk2 bc0
  clear bc0
  have bc3 : Blk w_4 (w.heap.size + 1) 94 [I x3.seg.ts, I x3.seg.beta, .slice A3_2 n3_2 c3_2, .slice A3_3 n3_3 c3_3] := (by repeat (first | (with_reducible exact BX3.out) | (with_reducible refine Blk.drew ?_) | (with_reducible refine Blk.ext ?_ (by with_reducible assumption)) | (with_reducible refine Blk.out ?_ (by with_reducible assumption) ?ge; case ge => omega)))
  have lt3 := bc3.lt
  obtain ⟨q3_0, q3_1, q3_2, q3_3⟩ := blk4 bc3
  clear bc3
  go_region_held3 (fun W => w_4.heap.size ≤ W.heap.size ∧ ∀ b o, b < w_4.heap.size → W.cell? ⟨b, o, none⟩ = w_4.cell? ⟨b, o, none⟩)
    (first | exact ⟨Nat.le_refl _, fun _ _ _ => rfl⟩ | exact keepC (by assumption) e_9 | exact keepC (by assumption) e_8 | exact keepC (by assumption) e_7 | exact keepC (by assumption) e_6 | exact keepC (by assumption) e_5)
    (first | (go_at_call 16; (with_reducible refine Calls.mono (toTopology (.agg #[.slice A0_0 n0_0 c0_0, .slice A0_1 n0_1 c0_1]) x0 _ ?s0 ?s1) ?_); (case s0 => exact H0.out.ext xo); (case s1 => omega); rintro e w_5 ⟨u_5, rfl, o_5, e_5⟩; have z_5 : w_4.heap.size ≤ w_5.heap.size := e_5.size; have o_5 : TopologyO w_4.heap.size w_5.heap.size w_5 _ _ := o_5) | (go_at_call 52; (with_reducible refine Calls.mono (toTrustRootS (.slice A1 x1.length c1) x1 _ ?s0 ?s1) ?_); (case s0 => exact H1.out.ext xo); (case s1 => omega); rintro e w_6 ⟨u_6, rfl, o_6, e_6⟩; have z_6 := e_6.size) | (go_at_call 53; (with_reducible refine Calls.mono (toCertificateS (.slice A2 x2.length c2) x2 _ ?s0 ?s1) ?_); (case s0 => exact H2.out.ext xo); (case s1 => omega); rintro e w_7 ⟨u_7, rfl, o_7, e_7⟩; have z_7 := e_7.size) | (go_at_call 54; (with_reducible refine Calls.mono (toSignedSegment (.agg #[I x3.seg.ts, I x3.seg.beta, .slice A3_2 n3_2 c3_2, .slice A3_3 n3_3 c3_3]) x3 _ ?s0 ?s1) ?_); (case s0 => exact H3.out.ext xo); (case s1 => omega); rintro e w_8 ⟨u_8, rfl, o_8, e_8⟩; have z_8 := e_8.size) | (go_at_call 51; (with_reducible refine Calls.mono (spec_SignedSegmentValid _ _ _ _ a4 x0 x1 x2 x3 _ ?s0 ?s1 ?s2 ?s3 ?s4) ?_); (case s0 => exact TopologyO_rd (lo := w_4.heap.size) (hi := w_5.heap.size) (by repeat (first | (with_reducible exact o_5) | (with_reducible refine TopologyO.drew ?_) | (with_reducible refine TopologyO.ext ?_ (by with_reducible assumption) ?ge; case ge => first | omega | (simp only [World.size_drew]; omega)) | (with_reducible refine TopologyO.out ?_ (by with_reducible assumption) ?ge; case ge => omega))) (by omega)); (case s1 => exact TrustRootSO_rd (lo := w_5.heap.size) (hi := w_6.heap.size) (by repeat (first | (with_reducible exact o_6) | (with_reducible refine TrustRootSO_drew ?_) | (with_reducible refine TrustRootSO_ext ?_ (by with_reducible assumption) ?ge; case ge => first | omega | (simp only [World.size_drew]; omega)) | (with_reducible refine TrustRootSO_out ?_ (by with_reducible assumption) ?ge; case ge => omega))) (by omega)); (case s2 => exact CertificateSO_rd (lo := w_6.heap.size) (hi := w_7.heap.size) (by repeat (first | (with_reducible exact o_7) | (with_reducible refine Own.drew ?_) | (with_reducible refine Own.ext ?_ (by with_reducible assumption) ?ge; case ge => first | omega | (simp only [World.size_drew]; omega)) | (with_reducible refine Own.out ?_ (by with_reducible assumption) ?ge; case ge => omega)))); (case s3 => exact SignedSegmentO_rd (lo := w_7.heap.size) (hi := w_8.heap.size) (by repeat (first | (with_reducible exact o_8) | (with_reducible refine SignedSegmentO.drew ?_) | (with_reducible refine SignedSegmentO.ext ?_ (by with_reducible assumption) ?ge; case ge => first | omega | (simp only [World.size_drew]; omega)) | (with_reducible refine SignedSegmentO.out ?_ (by with_reducible assumption) ?ge; case ge => omega))) (by omega)); (case s4 => omega); rintro e w_9 ⟨rfl, e_9⟩; have z_9 := e_9.size))
  clear q0_0 q0_1 q3_0 q3_1 q3_2 q3_3 lt0 lt3
  have O_5 := Lib.hid o_5; clear o_5
  obtain ⟨A_5_0, n_5_0, c_5_0, A_5_1, n_5_1, c_5_1, hv_5⟩ := O_5.out.shape
  subst hv_5
  have O_6 := Lib.hid o_6; clear o_6
  have O_7 := Lib.hid o_7; clear o_7
  have O_8 := Lib.hid o_8; clear o_8
  obtain ⟨A_8_2, n_8_2, c_8_2, A_8_3, n_8_3, c_8_3, hv_8⟩ := O_8.out.shape
  subst hv_8
  have bc0 : Blk w_9 (w.heap.size) 25 [.slice A0_0 n0_0 c0_0, .slice A0_1 n0_1 c0_1] := (by repeat (first | (with_reducible exact BX0.out) | (with_reducible refine Blk.drew ?_) | (with_reducible refine Blk.ext ?_ (by with_reducible assumption)) | (with_reducible refine Blk.out ?_ (by with_reducible assumption) ?ge; case ge => omega)))
  obtain ⟨q0_0, q0_1⟩ := blk2 bc0
  clear bc0
  have bc3 : Blk w_9 (w.heap.size + 1) 94 [I x3.seg.ts, I x3.seg.beta, .slice A3_2 n3_2 c3_2, .slice A3_3 n3_3 c3_3] := (by repeat (first | (with_reducible exact BX3.out) | (with_reducible refine Blk.drew ?_) | (with_reducible refine Blk.ext ?_ (by with_reducible assumption)) | (with_reducible refine Blk.out ?_ (by with_reducible assumption) ?ge; case ge => omega)))
  obtain ⟨q3_0, q3_1, q3_2, q3_3⟩ := blk4 bc3
  clear bc3
  go_wp2_with fail
  clear q0_0 q0_1 q3_0 q3_1 q3_2 q3_3
  refine (toTopology (.agg #[.slice A0_0 n0_0 c0_0, .slice A0_1 n0_1 c0_1]) x0 _ (by exact H0.out.ext xo) (by omega)).mono ?_
  rintro e w_10 ⟨u_10, rfl, o_10, e_10⟩
  have z_10 := e_10.size
  have O_10 := Lib.hid o_10; clear o_10
  obtain ⟨A_10_0, n_10_0, c_10_0, A_10_1, n_10_1, c_10_1, hv_10⟩ := O_10.out.shape
  subst hv_10
  have bc0 : Blk w_10 (w.heap.size) 25 [.slice A0_0 n0_0 c0_0, .slice A0_1 n0_1 c0_1] := (by repeat (first | (with_reducible exact BX0.out) | (with_reducible refine Blk.drew ?_) | (with_reducible refine Blk.ext ?_ (by with_reducible assumption)) | (with_reducible refine Blk.out ?_ (by with_reducible assumption) ?ge; case ge => omega)))
  have lt0 := bc0.lt
  obtain ⟨q0_0, q0_1⟩ := blk2 bc0
  clear bc0
  have bc3 : Blk w_10 (w.heap.size + 1) 94 [I x3.seg.ts, I x3.seg.beta, .slice A3_2 n3_2 c3_2, .slice A3_3 n3_3 c3_3] := (by repeat (first | (with_reducible exact BX3.out) | (with_reducible refine Blk.drew ?_) | (with_reducible refine Blk.ext ?_ (by with_reducible assumption)) | (with_reducible refine Blk.out ?_ (by with_reducible assumption) ?ge; case ge => omega)))
  have lt3 := bc3.lt
  obtain ⟨q3_0, q3_1, q3_2, q3_3⟩ := blk4 bc3
  clear bc3
  go_wp2_with fail
  clear q0_0 q0_1 q3_0 q3_1 q3_2 q3_3 lt0 lt3
  have bxLw10 : Blk (w_10.alloc (.cells #[.slice A_10_0 n_10_0 c_10_0, .slice A_10_1 n_10_1 c_10_1] 42)) w_10.heap.size 42 [.slice A_10_0 n_10_0 c_10_0, .slice A_10_1 n_10_1 c_10_1] := Blk.new _ _ _
  have BXLw10 := Lib.hid bxLw10; clear bxLw10
  have ewLw10 : Ext w_10 (w_10.alloc (.cells #[.slice A_10_0 n_10_0 c_10_0, .slice A_10_1 n_10_1 c_10_1] 42)) := (Ext.refl _).alloc _
  have zwLw10 : w_10.heap.size + 1 ≤ (w_10.alloc (.cells #[.slice A_10_0 n_10_0 c_10_0, .slice A_10_1 n_10_1 c_10_1] 42)).heap.size := by simp only [World.size_alloc]; omega
  generalize (w_10.alloc (.cells #[.slice A_10_0 n_10_0 c_10_0, .slice A_10_1 n_10_1 c_10_1] 42)) = w_10b at *
  refine (toTrustRootS (.slice A1 x1.length c1) x1 _ (by exact H1.out.ext xo) (by omega)).mono ?_
  rintro e w_11 ⟨u_11, rfl, o_11, e_11⟩
  have z_11 := e_11.size
  have O_11 := Lib.hid o_11; clear o_11
  have bc0 : Blk w_11 (w.heap.size) 25 [.slice A0_0 n0_0 c0_0, .slice A0_1 n0_1 c0_1] := (by repeat (first | (with_reducible exact BX0.out) | (with_reducible refine Blk.drew ?_) | (with_reducible refine Blk.ext ?_ (by with_reducible assumption)) | (with_reducible refine Blk.out ?_ (by with_reducible assumption) ?ge; case ge => omega)))
  obtain ⟨q0_0, q0_1⟩ := blk2 bc0
  clear bc0
  have bc3 : Blk w_11 (w.heap.size + 1) 94 [I x3.seg.ts, I x3.seg.beta, .slice A3_2 n3_2 c3_2, .slice A3_3 n3_3 c3_3] := (by repeat (first | (with_reducible exact BX3.out) | (with_reducible refine Blk.drew ?_) | (with_reducible refine Blk.ext ?_ (by with_reducible assumption)) | (with_reducible refine Blk.out ?_ (by with_reducible assumption) ?ge; case ge => omega)))
  obtain ⟨q3_0, q3_1, q3_2, q3_3⟩ := blk4 bc3
  clear bc3
  have bcLw10 : Blk w_11 (w_10.heap.size) 42 [.slice A_10_0 n_10_0 c_10_0, .slice A_10_1 n_10_1 c_10_1] := (by repeat (first | (with_reducible exact BXLw10.out) | (with_reducible refine Blk.drew ?_) | (with_reducible refine Blk.ext ?_ (by with_reducible assumption)) | (with_reducible refine Blk.out ?_ (by with_reducible assumption) ?ge; case ge => omega)))
  obtain ⟨qLw10_0, qLw10_1⟩ := blk2 bcLw10
  clear bcLw10
  go_wp2_with fail
  clear q0_0 q0_1 q3_0 q3_1 q3_2 q3_3 qLw10_0 qLw10_1
  refine (toCertificateS (.slice A2 x2.length c2) x2 _ (by exact H2.out.ext xo) (by omega)).mono ?_
  rintro e w_12 ⟨u_12, rfl, o_12, e_12⟩
  have z_12 := e_12.size
  have O_12 := Lib.hid o_12; clear o_12
  have bc0 : Blk w_12 (w.heap.size) 25 [.slice A0_0 n0_0 c0_0, .slice A0_1 n0_1 c0_1] := (by repeat (first | (with_reducible exact BX0.out) | (with_reducible refine Blk.drew ?_) | (with_reducible refine Blk.ext ?_ (by with_reducible assumption)) | (with_reducible refine Blk.out ?_ (by with_reducible assumption) ?ge; case ge => omega)))
  obtain ⟨q0_0, q0_1⟩ := blk2 bc0
  clear bc0
  have bc3 : Blk w_12 (w.heap.size + 1) 94 [I x3.seg.ts, I x3.seg.beta, .slice A3_2 n3_2 c3_2, .slice A3_3 n3_3 c3_3] := (by repeat (first | (with_reducible exact BX3.out) | (with_reducible refine Blk.drew ?_) | (with_reducible refine Blk.ext ?_ (by with_reducible assumption)) | (with_reducible refine Blk.out ?_ (by with_reducible assumption) ?ge; case ge => omega)))
  obtain ⟨q3_0, q3_1, q3_2, q3_3⟩ := blk4 bc3
  clear bc3
  have bcLw10 : Blk w_12 (w_10.heap.size) 42 [.slice A_10_0 n_10_0 c_10_0, .slice A_10_1 n_10_1 c_10_1] := (by repeat (first | (with_reducible exact BXLw10.out) | (with_reducible refine Blk.drew ?_) | (with_reducible refine Blk.ext ?_ (by with_reducible assumption)) | (with_reducible refine Blk.out ?_ (by with_reducible assumption) ?ge; case ge => omega)))
  obtain ⟨qLw10_0, qLw10_1⟩ := blk2 bcLw10
  clear bcLw10
  go_wp2_with fail
  clear q0_0 q0_1 q3_0 q3_1 q3_2 q3_3 qLw10_0 qLw10_1
  refine (toSignedSegment (.agg #[I x3.seg.ts, I x3.seg.beta, .slice A3_2 n3_2 c3_2, .slice A3_3 n3_3 c3_3]) x3 _ (by exact H3.out.ext xo) (by omega)).mono ?_
  rintro e w_13 ⟨u_13, rfl, o_13, e_13⟩
  have z_13 := e_13.size
  have O_13 := Lib.hid o_13; clear o_13
  obtain ⟨A_13_2, n_13_2, c_13_2, A_13_3, n_13_3, c_13_3, hv_13⟩ := O_13.out.shape
  subst hv_13
  have bc0 : Blk w_13 (w.heap.size) 25 [.slice A0_0 n0_0 c0_0, .slice A0_1 n0_1 c0_1] := (by repeat (first | (with_reducible exact BX0.out) | (with_reducible refine Blk.drew ?_) | (with_reducible refine Blk.ext ?_ (by with_reducible assumption)) | (with_reducible refine Blk.out ?_ (by with_reducible assumption) ?ge; case ge => omega)))
  have lt0 := bc0.lt
  obtain ⟨q0_0, q0_1⟩ := blk2 bc0
  clear bc0
  have bc3 : Blk w_13 (w.heap.size + 1) 94 [I x3.seg.ts, I x3.seg.beta, .slice A3_2 n3_2 c3_2, .slice A3_3 n3_3 c3_3] := (by repeat (first | (with_reducible exact BX3.out) | (with_reducible refine Blk.drew ?_) | (with_reducible refine Blk.ext ?_ (by with_reducible assumption)) | (with_reducible refine Blk.out ?_ (by with_reducible assumption) ?ge; case ge => omega)))
  have lt3 := bc3.lt
  obtain ⟨q3_0, q3_1, q3_2, q3_3⟩ := blk4 bc3
  clear bc3
  have bcLw10 : Blk w_13 (w_10.heap.size) 42 [.slice A_10_0 n_10_0 c_10_0, .slice A_10_1 n_10_1 c_10_1] := (by repeat (first | (with_reducible exact BXLw10.out) | (with_reducible refine Blk.drew ?_) | (with_reducible refine Blk.ext ?_ (by with_reducible assumption)) | (with_reducible refine Blk.out ?_ (by with_reducible assumption) ?ge; case ge => omega)))
  have ltLw10 := bcLw10.lt
  obtain ⟨qLw10_0, qLw10_1⟩ := blk2 bcLw10
  clear bcLw10
  go_wp2_with fail
  clear q0_0 q0_1 q3_0 q3_1 q3_2 q3_3 qLw10_0 qLw10_1 lt0 lt3 ltLw10
  have bxLw13 : Blk (w_13.alloc (.cells #[I x3.seg.ts, I x3.seg.beta, .slice A_13_2 n_13_2 c_13_2, .slice A_13_3 n_13_3 c_13_3] 104)) w_13.heap.size 104 [I x3.seg.ts, I x3.seg.beta, .slice A_13_2 n_13_2 c_13_2, .slice A_13_3 n_13_3 c_13_3] := Blk.new _ _ _
  have BXLw13 := Lib.hid bxLw13; clear bxLw13
  have ewLw13 : Ext w_13 (w_13.alloc (.cells #[I x3.seg.ts, I x3.seg.beta, .slice A_13_2 n_13_2 c_13_2, .slice A_13_3 n_13_3 c_13_3] 104)) := (Ext.refl _).alloc _
  have zwLw13 : w_13.heap.size + 1 ≤ (w_13.alloc (.cells #[I x3.seg.ts, I x3.seg.beta, .slice A_13_2 n_13_2 c_13_2, .slice A_13_3 n_13_3 c_13_3] 104)).heap.size := by simp only [World.size_alloc]; omega
  generalize (w_13.alloc (.cells #[I x3.seg.ts, I x3.seg.beta, .slice A_13_2 n_13_2 c_13_2, .slice A_13_3 n_13_3 c_13_3] 104)) = w_13b at *
  refine (impl_SignedSegmentValid _ _ _ _ a4 x0 x1 x2 x3 _ (by exact TopologyO_rd (lo := w_9.heap.size) (hi := w_10.heap.size) (by repeat (first | (with_reducible exact O_10.out) | (with_reducible refine TopologyO.drew ?_) | (with_reducible refine TopologyO.ext ?_ (by with_reducible assumption) ?ge; case ge => first | omega | (simp only [World.size_drew]; omega)) | (with_reducible refine TopologyO.out ?_ (by with_reducible assumption) ?ge; case ge => omega))) (by omega)) (by exact TrustRootSO_rd (lo := w_10b.heap.size) (hi := w_11.heap.size) (by repeat (first | (with_reducible exact O_11.out) | (with_reducible refine TrustRootSO_drew ?_) | (with_reducible refine TrustRootSO_ext ?_ (by with_reducible assumption) ?ge; case ge => first | omega | (simp only [World.size_drew]; omega)) | (with_reducible refine TrustRootSO_out ?_ (by with_reducible assumption) ?ge; case ge => omega))) (by omega)) (by exact CertificateSO_rd (lo := w_11.heap.size) (hi := w_12.heap.size) (by repeat (first | (with_reducible exact O_12.out) | (with_reducible refine Own.drew ?_) | (with_reducible refine Own.ext ?_ (by with_reducible assumption) ?ge; case ge => first | omega | (simp only [World.size_drew]; omega)) | (with_reducible refine Own.out ?_ (by with_reducible assumption) ?ge; case ge => omega)))) (by exact SignedSegmentO_rd (lo := w_12.heap.size) (hi := w_13.heap.size) (by repeat (first | (with_reducible exact O_13.out) | (with_reducible refine SignedSegmentO.drew ?_) | (with_reducible refine SignedSegmentO.ext ?_ (by with_reducible assumption) ?ge; case ge => first | omega | (simp only [World.size_drew]; omega)) | (with_reducible refine SignedSegmentO.out ?_ (by with_reducible assumption) ?ge; case ge => omega))) (by omega)) (by omega)).mono ?_
  rintro e w_14 ⟨rfl, e_14⟩
  have z_14 := e_14.size
  generalize signedValid x0 x1 x2 x3 a4 = r at *
  have bc0 : Blk w_14 (w.heap.size) 25 [.slice A0_0 n0_0 c0_0, .slice A0_1 n0_1 c0_1] := (by repeat (first | (with_reducible exact BX0.out) | (with_reducible refine Blk.drew ?_) | (with_reducible refine Blk.ext ?_ (by with_reducible assumption)) | (with_reducible refine Blk.out ?_ (by with_reducible assumption) ?ge; case ge => omega)))
  obtain ⟨q0_0, q0_1⟩ := blk2 bc0
  clear bc0
  have bc3 : Blk w_14 (w.heap.size + 1) 94 [I x3.seg.ts, I x3.seg.beta, .slice A3_2 n3_2 c3_2, .slice A3_3 n3_3 c3_3] := (by repeat (first | (with_reducible exact BX3.out) | (with_reducible refine Blk.drew ?_) | (with_reducible refine Blk.ext ?_ (by with_reducible assumption)) | (with_reducible refine Blk.out ?_ (by with_reducible assumption) ?ge; case ge => omega)))
  obtain ⟨q3_0, q3_1, q3_2, q3_3⟩ := blk4 bc3
  clear bc3
  have bcLw10 : Blk w_14 (w_10.heap.size) 42 [.slice A_10_0 n_10_0 c_10_0, .slice A_10_1 n_10_1 c_10_1] := (by repeat (first | (with_reducible exact BXLw10.out) | (with_reducible refine Blk.drew ?_) | (with_reducible refine Blk.ext ?_ (by with_reducible assumption)) | (with_reducible refine Blk.out ?_ (by with_reducible assumption) ?ge; case ge => omega)))
  obtain ⟨qLw10_0, qLw10_1⟩ := blk2 bcLw10
  clear bcLw10
  have bcLw13 : Blk w_14 (w_13.heap.size) 104 [I x3.seg.ts, I x3.seg.beta, .slice A_13_2 n_13_2 c_13_2, .slice A_13_3 n_13_3 c_13_3] := (by repeat (first | (with_reducible exact BXLw13.out) | (with_reducible refine Blk.drew ?_) | (with_reducible refine Blk.ext ?_ (by with_reducible assumption)) | (with_reducible refine Blk.out ?_ (by with_reducible assumption) ?ge; case ge => omega)))
  obtain ⟨qLw13_0, qLw13_1, qLw13_2, qLw13_3⟩ := blk4 bcLw13
  clear bcLw13
  go_wp2_with fail
  clear q0_0 q0_1 q3_0 q3_1 q3_2 q3_3 qLw10_0 qLw10_1 qLw13_0 qLw13_1 qLw13_2 qLw13_3
  have bc0 : Blk w_14 (w.heap.size) 25 [.slice A0_0 n0_0 c0_0, .slice A0_1 n0_1 c0_1] := (by repeat (first | (with_reducible exact BX0.out) | (with_reducible refine Blk.drew ?_) | (with_reducible refine Blk.ext ?_ (by with_reducible assumption)) | (with_reducible refine Blk.out ?_ (by with_reducible assumption) ?ge; case ge => omega)))
  have lt0 := bc0.lt
  obtain ⟨q0_0, q0_1⟩ := blk2 bc0
  clear bc0
  have bc3 : Blk w_14 (w.heap.size + 1) 94 [I x3.seg.ts, I x3.seg.beta, .slice A3_2 n3_2 c3_2, .slice A3_3 n3_3 c3_3] := (by repeat (first | (with_reducible exact BX3.out) | (with_reducible refine Blk.drew ?_) | (with_reducible refine Blk.ext ?_ (by with_reducible assumption)) | (with_reducible refine Blk.out ?_ (by with_reducible assumption) ?ge; case ge => omega)))
  have lt3 := bc3.lt
  obtain ⟨q3_0, q3_1, q3_2, q3_3⟩ := blk4 bc3
  clear bc3
  have bcLw10 : Blk w_14 (w_10.heap.size) 42 [.slice A_10_0 n_10_0 c_10_0, .slice A_10_1 n_10_1 c_10_1] := (by repeat (first | (with_reducible exact BXLw10.out) | (with_reducible refine Blk.drew ?_) | (with_reducible refine Blk.ext ?_ (by with_reducible assumption)) | (with_reducible refine Blk.out ?_ (by with_reducible assumption) ?ge; case ge => omega)))
  have ltLw10 := bcLw10.lt
  obtain ⟨qLw10_0, qLw10_1⟩ := blk2 bcLw10
  clear bcLw10
  have bcLw13 : Blk w_14 (w_13.heap.size) 104 [I x3.seg.ts, I x3.seg.beta, .slice A_13_2 n_13_2 c_13_2, .slice A_13_3 n_13_3 c_13_3] := (by repeat (first | (with_reducible exact BXLw13.out) | (with_reducible refine Blk.drew ?_) | (with_reducible refine Blk.ext ?_ (by with_reducible assumption)) | (with_reducible refine Blk.out ?_ (by with_reducible assumption) ?ge; case ge => omega)))
  have ltLw13 := bcLw13.lt
  obtain ⟨qLw13_0, qLw13_1, qLw13_2, qLw13_3⟩ := blk4 bcLw13
  clear bcLw13
  go_region_held3 (fun W => w_14.heap.size ≤ W.heap.size ∧ ∀ b o, b < w_14.heap.size → W.cell? ⟨b, o, none⟩ = w_14.cell? ⟨b, o, none⟩)
    (first | exact ⟨Nat.le_refl _, fun _ _ _ => rfl⟩ | exact keepC (by assumption) e_16 | exact keepC (by assumption) e_15)
    (first | (go_at_call 16; (with_reducible refine Calls.mono (toTopology (.agg #[.slice A0_0 n0_0 c0_0, .slice A0_1 n0_1 c0_1]) x0 _ ?s0 ?s1) ?_); (case s0 => exact H0.out.ext xo); (case s1 => omega); rintro e w_15 ⟨u_15, rfl, o_15, e_15⟩; have z_15 : w_14.heap.size ≤ w_15.heap.size := e_15.size; have o_15 : TopologyO w_14.heap.size w_15.heap.size w_15 _ _ := o_15) | (go_at_call 21; (with_reducible refine Calls.mono (eqTopology _ _ x0 x0 _ ?s0 ?s1) ?_); (case s0 => exact TopologyO_rd (lo := w_9.heap.size) (hi := w_10.heap.size) (by repeat (first | (with_reducible exact O_10.out) | (with_reducible refine TopologyO.drew ?_) | (with_reducible refine TopologyO.ext ?_ (by with_reducible assumption) ?ge; case ge => first | omega | (simp only [World.size_drew]; omega)) | (with_reducible refine TopologyO.out ?_ (by with_reducible assumption) ?ge; case ge => omega))) (by omega)); (case s1 => exact TopologyO_rd (lo := w_14.heap.size) (hi := w_15.heap.size) (by repeat (first | (with_reducible exact o_15) | (with_reducible refine TopologyO.drew ?_) | (with_reducible refine TopologyO.ext ?_ (by with_reducible assumption) ?ge; case ge => first | omega | (simp only [World.size_drew]; omega)) | (with_reducible refine TopologyO.out ?_ (by with_reducible assumption) ?ge; case ge => omega))) (by omega)); rintro e w_16 ⟨rfl, e_16⟩; have z_16 := e_16.size))
  clear q0_0 q0_1 q3_0 q3_1 q3_2 q3_3 qLw10_0 qLw10_1 qLw13_0 qLw13_1 qLw13_2 qLw13_3 lt0 lt3 ltLw10 ltLw13
  have O_15 := Lib.hid o_15; clear o_15
  obtain ⟨A_15_0, n_15_0, c_15_0, A_15_1, n_15_1, c_15_1, hv_15⟩ := O_15.out.shape
  subst hv_15
  try rw [decide_eq_true rfl]
  have bc0 : Blk w_16 (w.heap.size) 25 [.slice A0_0 n0_0 c0_0, .slice A0_1 n0_1 c0_1] := (by repeat (first | (with_reducible exact BX0.out) | (with_reducible refine Blk.drew ?_) | (with_reducible refine Blk.ext ?_ (by with_reducible assumption)) | (with_reducible refine Blk.out ?_ (by with_reducible assumption) ?ge; case ge => omega)))
  obtain ⟨q0_0, q0_1⟩ := blk2 bc0
  clear bc0
  have bc3 : Blk w_16 (w.heap.size + 1) 94 [I x3.seg.ts, I x3.seg.beta, .slice A3_2 n3_2 c3_2, .slice A3_3 n3_3 c3_3] := (by repeat (first | (with_reducible exact BX3.out) | (with_reducible refine Blk.drew ?_) | (with_reducible refine Blk.ext ?_ (by with_reducible assumption)) | (with_reducible refine Blk.out ?_ (by with_reducible assumption) ?ge; case ge => omega)))
  obtain ⟨q3_0, q3_1, q3_2, q3_3⟩ := blk4 bc3
  clear bc3
  have bcLw10 : Blk w_16 (w_10.heap.size) 42 [.slice A_10_0 n_10_0 c_10_0, .slice A_10_1 n_10_1 c_10_1] := (by repeat (first | (with_reducible exact BXLw10.out) | (with_reducible refine Blk.drew ?_) | (with_reducible refine Blk.ext ?_ (by with_reducible assumption)) | (with_reducible refine Blk.out ?_ (by with_reducible assumption) ?ge; case ge => omega)))
  obtain ⟨qLw10_0, qLw10_1⟩ := blk2 bcLw10
  clear bcLw10
  have bcLw13 : Blk w_16 (w_13.heap.size) 104 [I x3.seg.ts, I x3.seg.beta, .slice A_13_2 n_13_2 c_13_2, .slice A_13_3 n_13_3 c_13_3] := (by repeat (first | (with_reducible exact BXLw13.out) | (with_reducible refine Blk.drew ?_) | (with_reducible refine Blk.ext ?_ (by with_reducible assumption)) | (with_reducible refine Blk.out ?_ (by with_reducible assumption) ?ge; case ge => omega)))
  obtain ⟨qLw13_0, qLw13_1, qLw13_2, qLw13_3⟩ := blk4 bcLw13
  clear bcLw13
  go_wp2_with fail
  clear q0_0 q0_1 q3_0 q3_1 q3_2 q3_3 qLw10_0 qLw10_1 qLw13_0 qLw13_1 qLw13_2 qLw13_3
  refine (toTrustRootS (.slice A1 x1.length c1) x1 _ (by exact H1.out.ext xo) (by omega)).mono ?_
  rintro e w_17 ⟨u_17, rfl, o_17, e_17⟩
  have z_17 := e_17.size
  have O_17 := Lib.hid o_17; clear o_17
  have bc0 : Blk w_17 (w.heap.size) 25 [.slice A0_0 n0_0 c0_0, .slice A0_1 n0_1 c0_1] := (by repeat (first | (with_reducible exact BX0.out) | (with_reducible refine Blk.drew ?_) | (with_reducible refine Blk.ext ?_ (by with_reducible assumption)) | (with_reducible refine Blk.out ?_ (by with_reducible assumption) ?ge; case ge => omega)))
  obtain ⟨q0_0, q0_1⟩ := blk2 bc0
  clear bc0
  have bc3 : Blk w_17 (w.heap.size + 1) 94 [I x3.seg.ts, I x3.seg.beta, .slice A3_2 n3_2 c3_2, .slice A3_3 n3_3 c3_3] := (by repeat (first | (with_reducible exact BX3.out) | (with_reducible refine Blk.drew ?_) | (with_reducible refine Blk.ext ?_ (by with_reducible assumption)) | (with_reducible refine Blk.out ?_ (by with_reducible assumption) ?ge; case ge => omega)))
  obtain ⟨q3_0, q3_1, q3_2, q3_3⟩ := blk4 bc3
  clear bc3
  have bcLw10 : Blk w_17 (w_10.heap.size) 42 [.slice A_10_0 n_10_0 c_10_0, .slice A_10_1 n_10_1 c_10_1] := (by repeat (first | (with_reducible exact BXLw10.out) | (with_reducible refine Blk.drew ?_) | (with_reducible refine Blk.ext ?_ (by with_reducible assumption)) | (with_reducible refine Blk.out ?_ (by with_reducible assumption) ?ge; case ge => omega)))
  obtain ⟨qLw10_0, qLw10_1⟩ := blk2 bcLw10
  clear bcLw10
  have bcLw13 : Blk w_17 (w_13.heap.size) 104 [I x3.seg.ts, I x3.seg.beta, .slice A_13_2 n_13_2 c_13_2, .slice A_13_3 n_13_3 c_13_3] := (by repeat (first | (with_reducible exact BXLw13.out) | (with_reducible refine Blk.drew ?_) | (with_reducible refine Blk.ext ?_ (by with_reducible assumption)) | (with_reducible refine Blk.out ?_ (by with_reducible assumption) ?ge; case ge => omega)))
  obtain ⟨qLw13_0, qLw13_1, qLw13_2, qLw13_3⟩ := blk4 bcLw13
  clear bcLw13
  go_wp2_with fail
  clear q0_0 q0_1 q3_0 q3_1 q3_2 q3_3 qLw10_0 qLw10_1 qLw13_0 qLw13_1 qLw13_2 qLw13_3
  refine (eqTrustRootS _ _ x1 x1 _ (by exact TrustRootSO_rd (lo := w_10b.heap.size) (hi := w_11.heap.size) (by repeat (first | (with_reducible exact O_11.out) | (with_reducible refine TrustRootSO_drew ?_) | (with_reducible refine TrustRootSO_ext ?_ (by with_reducible assumption) ?ge; case ge => first | omega | (simp only [World.size_drew]; omega)) | (with_reducible refine TrustRootSO_out ?_ (by with_reducible assumption) ?ge; case ge => omega))) (by omega)) (by exact TrustRootSO_rd (lo := w_16.heap.size) (hi := w_17.heap.size) (by repeat (first | (with_reducible exact O_17.out) | (with_reducible refine TrustRootSO_drew ?_) | (with_reducible refine TrustRootSO_ext ?_ (by with_reducible assumption) ?ge; case ge => first | omega | (simp only [World.size_drew]; omega)) | (with_reducible refine TrustRootSO_out ?_ (by with_reducible assumption) ?ge; case ge => omega))) (by omega))).mono ?_
  rintro e w_18 ⟨rfl, e_18⟩
  have z_18 := e_18.size
  try rw [decide_eq_true rfl]
  have bc0 : Blk w_18 (w.heap.size) 25 [.slice A0_0 n0_0 c0_0, .slice A0_1 n0_1 c0_1] := (by repeat (first | (with_reducible exact BX0.out) | (with_reducible refine Blk.drew ?_) | (with_reducible refine Blk.ext ?_ (by with_reducible assumption)) | (with_reducible refine Blk.out ?_ (by with_reducible assumption) ?ge; case ge => omega)))
  obtain ⟨q0_0, q0_1⟩ := blk2 bc0
  clear bc0
  have bc3 : Blk w_18 (w.heap.size + 1) 94 [I x3.seg.ts, I x3.seg.beta, .slice A3_2 n3_2 c3_2, .slice A3_3 n3_3 c3_3] := (by repeat (first | (with_reducible exact BX3.out) | (with_reducible refine Blk.drew ?_) | (with_reducible refine Blk.ext ?_ (by with_reducible assumption)) | (with_reducible refine Blk.out ?_ (by with_reducible assumption) ?ge; case ge => omega)))
  obtain ⟨q3_0, q3_1, q3_2, q3_3⟩ := blk4 bc3
  clear bc3
  have bcLw10 : Blk w_18 (w_10.heap.size) 42 [.slice A_10_0 n_10_0 c_10_0, .slice A_10_1 n_10_1 c_10_1] := (by repeat (first | (with_reducible exact BXLw10.out) | (with_reducible refine Blk.drew ?_) | (with_reducible refine Blk.ext ?_ (by with_reducible assumption)) | (with_reducible refine Blk.out ?_ (by with_reducible assumption) ?ge; case ge => omega)))
  obtain ⟨qLw10_0, qLw10_1⟩ := blk2 bcLw10
  clear bcLw10
  have bcLw13 : Blk w_18 (w_13.heap.size) 104 [I x3.seg.ts, I x3.seg.beta, .slice A_13_2 n_13_2 c_13_2, .slice A_13_3 n_13_3 c_13_3] := (by repeat (first | (with_reducible exact BXLw13.out) | (with_reducible refine Blk.drew ?_) | (with_reducible refine Blk.ext ?_ (by with_reducible assumption)) | (with_reducible refine Blk.out ?_ (by with_reducible assumption) ?ge; case ge => omega)))
  obtain ⟨qLw13_0, qLw13_1, qLw13_2, qLw13_3⟩ := blk4 bcLw13
  clear bcLw13
  go_wp2_with fail
  clear q0_0 q0_1 q3_0 q3_1 q3_2 q3_3 qLw10_0 qLw10_1 qLw13_0 qLw13_1 qLw13_2 qLw13_3
  refine (toCertificateS (.slice A2 x2.length c2) x2 _ (by exact H2.out.ext xo) (by omega)).mono ?_
  rintro e w_19 ⟨u_19, rfl, o_19, e_19⟩
  have z_19 := e_19.size
  have O_19 := Lib.hid o_19; clear o_19
  have bc0 : Blk w_19 (w.heap.size) 25 [.slice A0_0 n0_0 c0_0, .slice A0_1 n0_1 c0_1] := (by repeat (first | (with_reducible exact BX0.out) | (with_reducible refine Blk.drew ?_) | (with_reducible refine Blk.ext ?_ (by with_reducible assumption)) | (with_reducible refine Blk.out ?_ (by with_reducible assumption) ?ge; case ge => omega)))
  obtain ⟨q0_0, q0_1⟩ := blk2 bc0
  clear bc0
  have bc3 : Blk w_19 (w.heap.size + 1) 94 [I x3.seg.ts, I x3.seg.beta, .slice A3_2 n3_2 c3_2, .slice A3_3 n3_3 c3_3] := (by repeat (first | (with_reducible exact BX3.out) | (with_reducible refine Blk.drew ?_) | (with_reducible refine Blk.ext ?_ (by with_reducible assumption)) | (with_reducible refine Blk.out ?_ (by with_reducible assumption) ?ge; case ge => omega)))
  obtain ⟨q3_0, q3_1, q3_2, q3_3⟩ := blk4 bc3
  clear bc3
  have bcLw10 : Blk w_19 (w_10.heap.size) 42 [.slice A_10_0 n_10_0 c_10_0, .slice A_10_1 n_10_1 c_10_1] := (by repeat (first | (with_reducible exact BXLw10.out) | (with_reducible refine Blk.drew ?_) | (with_reducible refine Blk.ext ?_ (by with_reducible assumption)) | (with_reducible refine Blk.out ?_ (by with_reducible assumption) ?ge; case ge => omega)))
  obtain ⟨qLw10_0, qLw10_1⟩ := blk2 bcLw10
  clear bcLw10
  have bcLw13 : Blk w_19 (w_13.heap.size) 104 [I x3.seg.ts, I x3.seg.beta, .slice A_13_2 n_13_2 c_13_2, .slice A_13_3 n_13_3 c_13_3] := (by repeat (first | (with_reducible exact BXLw13.out) | (with_reducible refine Blk.drew ?_) | (with_reducible refine Blk.ext ?_ (by with_reducible assumption)) | (with_reducible refine Blk.out ?_ (by with_reducible assumption) ?ge; case ge => omega)))
  obtain ⟨qLw13_0, qLw13_1, qLw13_2, qLw13_3⟩ := blk4 bcLw13
  clear bcLw13
  go_wp2_with fail
  clear q0_0 q0_1 q3_0 q3_1 q3_2 q3_3 qLw10_0 qLw10_1 qLw13_0 qLw13_1 qLw13_2 qLw13_3
  refine (eqCertificateS _ _ x2 x2 _ (by exact CertificateSO_rd (lo := w_11.heap.size) (hi := w_12.heap.size) (by repeat (first | (with_reducible exact O_12.out) | (with_reducible refine Own.drew ?_) | (with_reducible refine Own.ext ?_ (by with_reducible assumption) ?ge; case ge => first | omega | (simp only [World.size_drew]; omega)) | (with_reducible refine Own.out ?_ (by with_reducible assumption) ?ge; case ge => omega)))) (by exact CertificateSO_rd (lo := w_18.heap.size) (hi := w_19.heap.size) (by repeat (first | (with_reducible exact O_19.out) | (with_reducible refine Own.drew ?_) | (with_reducible refine Own.ext ?_ (by with_reducible assumption) ?ge; case ge => first | omega | (simp only [World.size_drew]; omega)) | (with_reducible refine Own.out ?_ (by with_reducible assumption) ?ge; case ge => omega))))).mono ?_
  rintro e w_20 ⟨rfl, e_20⟩
  have z_20 := e_20.size
  try rw [decide_eq_true rfl]
  have bc0 : Blk w_20 (w.heap.size) 25 [.slice A0_0 n0_0 c0_0, .slice A0_1 n0_1 c0_1] := (by repeat (first | (with_reducible exact BX0.out) | (with_reducible refine Blk.drew ?_) | (with_reducible refine Blk.ext ?_ (by with_reducible assumption)) | (with_reducible refine Blk.out ?_ (by with_reducible assumption) ?ge; case ge => omega)))
  obtain ⟨q0_0, q0_1⟩ := blk2 bc0
  clear bc0
  have bc3 : Blk w_20 (w.heap.size + 1) 94 [I x3.seg.ts, I x3.seg.beta, .slice A3_2 n3_2 c3_2, .slice A3_3 n3_3 c3_3] := (by repeat (first | (with_reducible exact BX3.out) | (with_reducible refine Blk.drew ?_) | (with_reducible refine Blk.ext ?_ (by with_reducible assumption)) | (with_reducible refine Blk.out ?_ (by with_reducible assumption) ?ge; case ge => omega)))
  obtain ⟨q3_0, q3_1, q3_2, q3_3⟩ := blk4 bc3
  clear bc3
  have bcLw10 : Blk w_20 (w_10.heap.size) 42 [.slice A_10_0 n_10_0 c_10_0, .slice A_10_1 n_10_1 c_10_1] := (by repeat (first | (with_reducible exact BXLw10.out) | (with_reducible refine Blk.drew ?_) | (with_reducible refine Blk.ext ?_ (by with_reducible assumption)) | (with_reducible refine Blk.out ?_ (by with_reducible assumption) ?ge; case ge => omega)))
  obtain ⟨qLw10_0, qLw10_1⟩ := blk2 bcLw10
  clear bcLw10
  have bcLw13 : Blk w_20 (w_13.heap.size) 104 [I x3.seg.ts, I x3.seg.beta, .slice A_13_2 n_13_2 c_13_2, .slice A_13_3 n_13_3 c_13_3] := (by repeat (first | (with_reducible exact BXLw13.out) | (with_reducible refine Blk.drew ?_) | (with_reducible refine Blk.ext ?_ (by with_reducible assumption)) | (with_reducible refine Blk.out ?_ (by with_reducible assumption) ?ge; case ge => omega)))
  obtain ⟨qLw13_0, qLw13_1, qLw13_2, qLw13_3⟩ := blk4 bcLw13
  clear bcLw13
  go_wp2_with fail
  clear q0_0 q0_1 q3_0 q3_1 q3_2 q3_3 qLw10_0 qLw10_1 qLw13_0 qLw13_1 qLw13_2 qLw13_3
  have bc0 : Blk w_20 (w.heap.size) 25 [.slice A0_0 n0_0 c0_0, .slice A0_1 n0_1 c0_1] := (by repeat (first | (with_reducible exact BX0.out) | (with_reducible refine Blk.drew ?_) | (with_reducible refine Blk.ext ?_ (by with_reducible assumption)) | (with_reducible refine Blk.out ?_ (by with_reducible assumption) ?ge; case ge => omega)))
  have lt0 := bc0.lt
  obtain ⟨q0_0, q0_1⟩ := blk2 bc0
  clear bc0
  have bc3 : Blk w_20 (w.heap.size + 1) 94 [I x3.seg.ts, I x3.seg.beta, .slice A3_2 n3_2 c3_2, .slice A3_3 n3_3 c3_3] := (by repeat (first | (with_reducible exact BX3.out) | (with_reducible refine Blk.drew ?_) | (with_reducible refine Blk.ext ?_ (by with_reducible assumption)) | (with_reducible refine Blk.out ?_ (by with_reducible assumption) ?ge; case ge => omega)))
  have lt3 := bc3.lt
  obtain ⟨q3_0, q3_1, q3_2, q3_3⟩ := blk4 bc3
  clear bc3
  have bcLw10 : Blk w_20 (w_10.heap.size) 42 [.slice A_10_0 n_10_0 c_10_0, .slice A_10_1 n_10_1 c_10_1] := (by repeat (first | (with_reducible exact BXLw10.out) | (with_reducible refine Blk.drew ?_) | (with_reducible refine Blk.ext ?_ (by with_reducible assumption)) | (with_reducible refine Blk.out ?_ (by with_reducible assumption) ?ge; case ge => omega)))
  have ltLw10 := bcLw10.lt
  obtain ⟨qLw10_0, qLw10_1⟩ := blk2 bcLw10
  clear bcLw10
  have bcLw13 : Blk w_20 (w_13.heap.size) 104 [I x3.seg.ts, I x3.seg.beta, .slice A_13_2 n_13_2 c_13_2, .slice A_13_3 n_13_3 c_13_3] := (by repeat (first | (with_reducible exact BXLw13.out) | (with_reducible refine Blk.drew ?_) | (with_reducible refine Blk.ext ?_ (by with_reducible assumption)) | (with_reducible refine Blk.out ?_ (by with_reducible assumption) ?ge; case ge => omega)))
  have ltLw13 := bcLw13.lt
  obtain ⟨qLw13_0, qLw13_1, qLw13_2, qLw13_3⟩ := blk4 bcLw13
  clear bcLw13
  go_region_held3 (fun W => w_20.heap.size ≤ W.heap.size ∧ ∀ b o, b < w_20.heap.size → W.cell? ⟨b, o, none⟩ = w_20.cell? ⟨b, o, none⟩)
    (first | exact ⟨Nat.le_refl _, fun _ _ _ => rfl⟩ | exact keepC (by assumption) e_22 | exact keepC (by assumption) e_21)
    (first | (go_at_call 54; (with_reducible refine Calls.mono (toSignedSegment (.agg #[I x3.seg.ts, I x3.seg.beta, .slice A3_2 n3_2 c3_2, .slice A3_3 n3_3 c3_3]) x3 _ ?s0 ?s1) ?_); (case s0 => exact H3.out.ext xo); (case s1 => omega); rintro e w_21 ⟨u_21, rfl, o_21, e_21⟩; have z_21 : w_20.heap.size ≤ w_21.heap.size := e_21.size; have o_21 : SignedSegmentO w_20.heap.size w_21.heap.size w_21 _ _ := o_21) | (go_at_call 58; (with_reducible refine Calls.mono (eqSignedSegment _ _ x3 x3 _ ?s0 ?s1) ?_); (case s0 => exact SignedSegmentO_rd (lo := w_12.heap.size) (hi := w_13.heap.size) (by repeat (first | (with_reducible exact O_13.out) | (with_reducible refine SignedSegmentO.drew ?_) | (with_reducible refine SignedSegmentO.ext ?_ (by with_reducible assumption) ?ge; case ge => first | omega | (simp only [World.size_drew]; omega)) | (with_reducible refine SignedSegmentO.out ?_ (by with_reducible assumption) ?ge; case ge => omega))) (by omega)); (case s1 => exact SignedSegmentO_rd (lo := w_20.heap.size) (hi := w_21.heap.size) (by repeat (first | (with_reducible exact o_21) | (with_reducible refine SignedSegmentO.drew ?_) | (with_reducible refine SignedSegmentO.ext ?_ (by with_reducible assumption) ?ge; case ge => first | omega | (simp only [World.size_drew]; omega)) | (with_reducible refine SignedSegmentO.out ?_ (by with_reducible assumption) ?ge; case ge => omega))) (by omega)); rintro e w_22 ⟨rfl, e_22⟩; have z_22 := e_22.size))
  clear q0_0 q0_1 q3_0 q3_1 q3_2 q3_3 qLw10_0 qLw10_1 qLw13_0 qLw13_1 qLw13_2 qLw13_3 lt0 lt3 ltLw10 ltLw13
  have O_21 := Lib.hid o_21; clear o_21
  obtain ⟨A_21_2, n_21_2, c_21_2, A_21_3, n_21_3, c_21_3, hv_21⟩ := O_21.out.shape
  subst hv_21
  try rw [decide_eq_true rfl]
  have bc0 : Blk w_22 (w.heap.size) 25 [.slice A0_0 n0_0 c0_0, .slice A0_1 n0_1 c0_1] := (by repeat (first | (with_reducible exact BX0.out) | (with_reducible refine Blk.drew ?_) | (with_reducible refine Blk.ext ?_ (by with_reducible assumption)) | (with_reducible refine Blk.out ?_ (by with_reducible assumption) ?ge; case ge => omega)))
  obtain ⟨q0_0, q0_1⟩ := blk2 bc0
  clear bc0
  have bc3 : Blk w_22 (w.heap.size + 1) 94 [I x3.seg.ts, I x3.seg.beta, .slice A3_2 n3_2 c3_2, .slice A3_3 n3_3 c3_3] := (by repeat (first | (with_reducible exact BX3.out) | (with_reducible refine Blk.drew ?_) | (with_reducible refine Blk.ext ?_ (by with_reducible assumption)) | (with_reducible refine Blk.out ?_ (by with_reducible assumption) ?ge; case ge => omega)))
  obtain ⟨q3_0, q3_1, q3_2, q3_3⟩ := blk4 bc3
  clear bc3
  have bcLw10 : Blk w_22 (w_10.heap.size) 42 [.slice A_10_0 n_10_0 c_10_0, .slice A_10_1 n_10_1 c_10_1] := (by repeat (first | (with_reducible exact BXLw10.out) | (with_reducible refine Blk.drew ?_) | (with_reducible refine Blk.ext ?_ (by with_reducible assumption)) | (with_reducible refine Blk.out ?_ (by with_reducible assumption) ?ge; case ge => omega)))
  obtain ⟨qLw10_0, qLw10_1⟩ := blk2 bcLw10
  clear bcLw10
  have bcLw13 : Blk w_22 (w_13.heap.size) 104 [I x3.seg.ts, I x3.seg.beta, .slice A_13_2 n_13_2 c_13_2, .slice A_13_3 n_13_3 c_13_3] := (by repeat (first | (with_reducible exact BXLw13.out) | (with_reducible refine Blk.drew ?_) | (with_reducible refine Blk.ext ?_ (by with_reducible assumption)) | (with_reducible refine Blk.out ?_ (by with_reducible assumption) ?ge; case ge => omega)))
  obtain ⟨qLw13_0, qLw13_1, qLw13_2, qLw13_3⟩ := blk4 bcLw13
  clear bcLw13
  go_wp2_with fail
  clear q0_0 q0_1 q3_0 q3_1 q3_2 q3_3 qLw10_0 qLw10_1 qLw13_0 qLw13_1 qLw13_2 qLw13_3
  go_ret
  exact ⟨rfl, xo⟩
set_option maxRecDepth 100000 in
theorem lifted (os : Os) (started : os.Started) (H : Type) (enc : TypeId × Value → H) :
    ReturnsInHanded {} Tryz.checked os 6 .any (Rows.fnExactSignedSegmentValidSpec.pre6 enc Tryz.prog Tryz.f6 Rows.fnExactSignedSegmentValidRow.domain false) (Rows.fnExactSignedSegmentValidSpec.post enc Tryz.prog Tryz.f6 false true false false) := by
  refine returnsInHanded_of_change (C := Tryz.checked) own started (by kernel_rfl) Tryz.func6
    (ChangeSpec.witness6 (enc := enc) (C := Tryz.checked) false ⟨#[], #[.agg #[.slice none 0 0, .slice none 0 0], .slice none 0 0, .slice none 0 0, .agg #[.int .i64 0, .int .i64 0, .slice none 0 0, .slice none 0 0], .int .i64 0], []⟩ 8 (by kernel_rfl) (by kernel_rfl) (by kernel_rfl) (by kernel_rfl)) ?_
  intro W base args ds gs before hval0 hW hcnd _
  have hval : ∀ (j : Nat) t v, Tryz.f6.params[j]? = some t → args[j]? = some v → Value.okWide Tryz.prog W .any base t v := hval0
  have hW' := hW
  obtain ⟨p, q, hA0, hV, rfl, hfz, hnd⟩ := hW
  have hA : DataW.TrodAll enc Tryz.prog W 0 (fun _ => true) true Tryz.f6.params.toList args.toList ds p := hA0
  rw [Tryz.params6] at hA hval
  obtain ⟨v0, vs0, d0, ds0, p0, q0, hargs, rfl, rfl, h0, r0⟩ := trodAll_cons hA
  obtain ⟨v1, vs1, d1, ds1, p1, q1, rfl, rfl, rfl, h1, r1⟩ := trodAll_cons r0
  obtain ⟨v2, vs2, d2, ds2, p2, q2, rfl, rfl, rfl, h2, r2⟩ := trodAll_cons r1
  obtain ⟨v3, vs3, d3, ds3, p3, q3, rfl, rfl, rfl, h3, r3⟩ := trodAll_cons r2
  obtain ⟨v4, vs4, d4, ds4, p4, q4, rfl, rfl, rfl, h4, r4⟩ := trodAll_cons r3
  obtain ⟨rfl, rfl, rfl⟩ := trodAll_nil r4
  obtain rfl : args = #[v0, v1, v2, v3, v4] := by cases args; simp_all
  obtain ⟨rfl, rfl⟩ := trodVars_none hV
  have k0 := h0
  have lt0 : ∀ x ∈ p0, x.block < W.heap.size := by obtain ⟨m, hm⟩ := k0; exact DataW.trod_lt m _ _ _ hm
  obtain ⟨cs0, rfl, _⟩ := okWide_struct Tryz.underlying25 (hval 0 25 v0 rfl rfl)
  obtain ⟨x0, y0⟩ : ∃ d, TopologyV W.heap.size W (.agg cs0) d := by
    obtain ⟨fuel, hf⟩ := h0
    obtain ⟨d, A0, n0, c0, A1, n1, c1, e, s0, s1⟩ := read_Topology hf
    have e1 : cs0 = #[.slice A0 n0 c0, .slice A1 n1 c1] := by cases cs0; simpa [Value.cells] using e
    exact ⟨d, ⟨_, _, _, _, _, _, by rw [e1], s0, s1⟩⟩
  have k1 := h1
  have lt1 : ∀ x ∈ p1, x.block < W.heap.size := by obtain ⟨m, hm⟩ := k1; exact DataW.trod_lt m _ _ _ hm
  obtain ⟨a1, len1, cap1, rfl⟩ := okWide_slice Tryz.underlying90 (hval 1 90 v1 rfl rfl)
  obtain ⟨x1, y1⟩ : ∃ ds, TrustRootS W.heap.size W (.slice a1 len1 cap1) ds := by
    obtain ⟨fuel, hf⟩ := h1
    obtain ⟨A, n, c, ds, e, hs⟩ := read_TrustRootS hf
    simp only [Value.cells, List.cons.injEq, and_true] at e
    rw [← e] at hs
    exact ⟨ds, hs⟩
  have k2 := h2
  have lt2 : ∀ x ∈ p2, x.block < W.heap.size := by obtain ⟨m, hm⟩ := k2; exact DataW.trod_lt m _ _ _ hm
  obtain ⟨a2, len2, cap2, rfl⟩ := okWide_slice Tryz.underlying91 (hval 2 91 v2 rfl rfl)
  obtain ⟨x2, y2⟩ : ∃ ds, CertificateS W.heap.size W (.slice a2 len2 cap2) ds := by
    obtain ⟨fuel, hf⟩ := h2
    obtain ⟨A, n, c, ds, e, hs⟩ := read_CertificateS hf
    simp only [Value.cells, List.cons.injEq, and_true] at e
    rw [← e] at hs
    exact ⟨ds, hs⟩
  have k3 := h3
  have lt3 : ∀ x ∈ p3, x.block < W.heap.size := by obtain ⟨m, hm⟩ := k3; exact DataW.trod_lt m _ _ _ hm
  obtain ⟨cs3, rfl, _⟩ := okWide_struct Tryz.underlying94 (hval 3 94 v3 rfl rfl)
  obtain ⟨x3, y3⟩ : ∃ d, SignedSegmentV W.heap.size W (.agg cs3) d := by
    obtain ⟨fuel, hf⟩ := h3
    obtain ⟨d, A2, n2, c2, A3, n3, c3, e, s2, s3⟩ := read_SignedSegment hf
    have e1 : cs3 = #[I d.seg.ts, I d.seg.beta, .slice A2 n2 c2, .slice A3 n3 c3] := by cases cs3; simpa [Value.cells] using e
    exact ⟨d, ⟨_, _, _, _, _, _, by rw [e1], s2, s3⟩⟩
  obtain ⟨a4, rfl, rfl, rfl, w4⟩ := open_int Tryz.underlying3 (hval 4 3 v4 rfl rfl) h4
  clear hA0 hval0
  refine (walk _ x0 _ x1 _ x2 _ x3 a4 W y0 y1 y2 y3).mono fun e W' ⟨he, bel⟩ => ?_
  subst he
  exact ⟨_, rfl, _, _, _, [], _, [], hW', trodAll_mk1 (shut_bool Tryz.underlying4 _), (trodAll_cons_mk (Below.trod laidOut (by kernel_rfl) (of_decide_eq_true (by kernel_rfl)) k0 bel.below lt0) (trodAll_cons_mk (Below.trod laidOut (by kernel_rfl) (of_decide_eq_true (by kernel_rfl)) k1 bel.below lt1) (trodAll_cons_mk (Below.trod laidOut (by kernel_rfl) (of_decide_eq_true (by kernel_rfl)) k2 bel.below lt2) (trodAll_cons_mk (Below.trod laidOut (by kernel_rfl) (of_decide_eq_true (by kernel_rfl)) k3 bel.below lt3) (trodAll_cons_mk (shut_int Tryz.underlying3 w4) trodAll_mk0))))), rfl, bel.below.frame _, fun h => by cases h⟩

theorem and2 {a b : Bool} (h : a = true) (k : b = true) : (a && b) = true := by rw [h, k]; rfl
set_option maxRecDepth 100000 in
set_option maxHeartbeats 4000000 in
theorem over : Rows.fnExactSignedSegmentValidRow.holds Tryz.pinned (OpenSpec.ofChange Rows.fnExactSignedSegmentValidSpec) :=
  OpenClaim.holds_of_wide 6 Tryz.f6 rfl rfl rfl rfl rfl rfl rfl ⟨rfl, rfl, rfl, rfl, rfl⟩ rfl rfl rfl rfl rfl (by as_aux_lemma => kernel_rfl) Tryz.func6 (by unfold joinedFacts; (repeat' (with_reducible refine and2 ?_ ?_)); (all_goals (as_aux_lemma => kernel_rfl)))
    (of_decide_eq_true (by as_aux_lemma => kernel_rfl)) (by unfold Func.isWrapper; first | (rw [if_pos (by decide +kernel)]; as_aux_lemma => kernel_rfl) | (rw [if_neg (by decide +kernel)]; exact ⟨rfl, rfl⟩))
    (fun os started H enc _ => lifted os started H enc)

/-- The statement. -/
theorem proved : Rows.FnExactSignedSegmentValidSaid := over
#print axioms proved
end Go.Proofs.YtbojbgicmdgfaaaGreat.lawSignedSegmentValid
