/- The law FnExactFormatRoot returns true for every input and changes no argument. No conditions. -/
import Derived.Test.YtnglhofegajbiaaL18h
import Derived.Test.YtnglhofegajbiaaRead
namespace Go.Proofs.Ytnglhofegajbiaa.lawFormatRoot
open Go.RowKit
set_option linter.unusedVariables false
open Go.ChangeShapes Go.WideShapes Go.ChangeAt
theorem own : ownKnob Try.prog.godebug = none := by kernel_rfl
theorem laidOut : laidOutB Try.prog = true := by kernel_rfl

set_option maxRecDepth 100000 in
set_option maxHeartbeats 1000000 in
theorem walk (v0 : Value) (x0 : DTrustRoot) (w : World) (h0 : TrustRootV w.heap.size w v0 x0) :
    Calls Try.prog 3 #[v0] w fun e w' => e = .returned (.bool true) ∧ Ext w w' := by
  have H0 := Lib.hid h0
  obtain ⟨A0_6, n0_6, c0_6, rfl, -⟩ := h0
  go_enter Try.func3, Try.ntmps3
  go_wp2_with fail
  have bx0 : Blk (w.alloc (.cells #[I x0.isd, I x0.version, I x0.notBefore, I x0.notAfter, I x0.voters, I x0.quorum, .slice A0_6 n0_6 c0_6] 24)) (w.heap.size) 24 [I x0.isd, I x0.version, I x0.notBefore, I x0.notAfter, I x0.voters, I x0.quorum, .slice A0_6 n0_6 c0_6] := by simpa using Blk.new w 24 [I x0.isd, I x0.version, I x0.notBefore, I x0.notAfter, I x0.voters, I x0.quorum, .slice A0_6 n0_6 c0_6]
  have BX0 := Lib.hid bx0; clear bx0
  have ew : Ext w (w.alloc (.cells #[I x0.isd, I x0.version, I x0.notBefore, I x0.notAfter, I x0.voters, I x0.quorum, .slice A0_6 n0_6 c0_6] 24)) := (by repeat (first | (with_reducible exact Ext.refl _) | (with_reducible assumption) | (with_reducible refine Ext.alloc ?_ _) | (with_reducible refine Ext.drew ?_) | (with_reducible refine Ext.out ?_ (by with_reducible assumption) ?ge; case ge => omega) | (with_reducible refine Ext.trans ?_ (by with_reducible assumption))))
  have zw : w.heap.size + 1 ≤ (w.alloc (.cells #[I x0.isd, I x0.version, I x0.notBefore, I x0.notAfter, I x0.voters, I x0.quorum, .slice A0_6 n0_6 c0_6] 24)).heap.size := by simp only [World.size_alloc]; omega
  generalize (w.alloc (.cells #[I x0.isd, I x0.version, I x0.notBefore, I x0.notAfter, I x0.voters, I x0.quorum, .slice A0_6 n0_6 c0_6] 24)) = w0 at *
  refine (szTrustRoot _ x0 (1048576) _ (by exact H0.out.ext (by repeat (first | (with_reducible exact Ext.refl _) | (with_reducible assumption) | (with_reducible refine Ext.alloc ?_ _) | (with_reducible refine Ext.drew ?_) | (with_reducible refine Ext.out ?_ (by with_reducible assumption) ?ge; case ge => omega) | (with_reducible refine Ext.trans ?_ (by with_reducible assumption))))) (by omega) (by omega)).mono ?_
  rintro e w_1 ⟨rfl, e_1⟩
  have z_1 := e_1.size
  by_cases hlt0 : 1048576 < ((x0.sigs.length : Nat) : Int)
  · rw [szR_neg hlt0]
    go_wp2_with fail
    go_ret
    exact ⟨rfl, (by repeat (first | (with_reducible exact Ext.refl _) | (with_reducible assumption) | (with_reducible refine Ext.alloc ?_ _) | (with_reducible refine Ext.drew ?_) | (with_reducible refine Ext.out ?_ (by with_reducible assumption) ?ge; case ge => omega) | (with_reducible refine Ext.trans ?_ (by with_reducible assumption))))⟩
  rw [szR_pos (by omega)]
  have hb0 : x0.sigs.length ≤ 1048576 := by omega
  have bc0 : Blk w_1 (w.heap.size) 24 [I x0.isd, I x0.version, I x0.notBefore, I x0.notAfter, I x0.voters, I x0.quorum, .slice A0_6 n0_6 c0_6] := (by repeat (first | (with_reducible exact BX0.out) | (with_reducible refine Blk.drew ?_) | (with_reducible refine Blk.ext ?_ (by with_reducible assumption)) | (with_reducible refine Blk.out ?_ (by with_reducible assumption) ?ge; case ge => omega)))
  obtain ⟨q0_0, q0_1, q0_2, q0_3, q0_4, q0_5, q0_6⟩ := blk7 bc0
  clear bc0
  go_wp2_with fail
  clear q0_0 q0_1 q0_2 q0_3 q0_4 q0_5 q0_6
  refine (toTrustRoot (.agg #[I x0.isd, I x0.version, I x0.notBefore, I x0.notAfter, I x0.voters, I x0.quorum, .slice A0_6 n0_6 c0_6]) x0 _ (by exact H0.out.ext (by repeat (first | (with_reducible exact Ext.refl _) | (with_reducible assumption) | (with_reducible refine Ext.alloc ?_ _) | (with_reducible refine Ext.drew ?_) | (with_reducible refine Ext.out ?_ (by with_reducible assumption) ?ge; case ge => omega) | (with_reducible refine Ext.trans ?_ (by with_reducible assumption))))) (by omega)).mono ?_
  rintro e w_2 ⟨u_2, rfl, o_2, e_2⟩
  have z_2 := e_2.size
  have O_2 := Lib.hid o_2; clear o_2
  obtain ⟨A_2_6, n_2_6, c_2_6, hv_2⟩ := O_2.out.shape
  subst hv_2
  have bc0 : Blk w_2 (w.heap.size) 24 [I x0.isd, I x0.version, I x0.notBefore, I x0.notAfter, I x0.voters, I x0.quorum, .slice A0_6 n0_6 c0_6] := (by repeat (first | (with_reducible exact BX0.out) | (with_reducible refine Blk.drew ?_) | (with_reducible refine Blk.ext ?_ (by with_reducible assumption)) | (with_reducible refine Blk.out ?_ (by with_reducible assumption) ?ge; case ge => omega)))
  obtain ⟨q0_0, q0_1, q0_2, q0_3, q0_4, q0_5, q0_6⟩ := blk7 bc0
  clear bc0
  go_wp2_with fail
  clear q0_0 q0_1 q0_2 q0_3 q0_4 q0_5 q0_6
  refine (spec_FormatRoot _ x0 _ (by exact TrustRootO_rd (lo := w_1.heap.size) (hi := w_2.heap.size) (by repeat (first | (with_reducible exact O_2.out) | (with_reducible refine TrustRootO.drew ?_) | (with_reducible refine TrustRootO.ext ?_ (by with_reducible assumption) ?ge; case ge => first | omega | (simp only [World.size_drew]; omega)) | (with_reducible refine TrustRootO.out ?_ (by with_reducible assumption) ?ge; case ge => omega))) (by omega))).mono ?_
  rintro e w_3 ⟨rfl, e_3⟩
  have z_3 := e_3.size
  have bc0 : Blk w_3 (w.heap.size) 24 [I x0.isd, I x0.version, I x0.notBefore, I x0.notAfter, I x0.voters, I x0.quorum, .slice A0_6 n0_6 c0_6] := (by repeat (first | (with_reducible exact BX0.out) | (with_reducible refine Blk.drew ?_) | (with_reducible refine Blk.ext ?_ (by with_reducible assumption)) | (with_reducible refine Blk.out ?_ (by with_reducible assumption) ?ge; case ge => omega)))
  obtain ⟨q0_0, q0_1, q0_2, q0_3, q0_4, q0_5, q0_6⟩ := blk7 bc0
  clear bc0
  go_wp2_with fail
  clear q0_0 q0_1 q0_2 q0_3 q0_4 q0_5 q0_6
  refine (toTrustRoot (.agg #[I x0.isd, I x0.version, I x0.notBefore, I x0.notAfter, I x0.voters, I x0.quorum, .slice A0_6 n0_6 c0_6]) x0 _ (by exact H0.out.ext (by repeat (first | (with_reducible exact Ext.refl _) | (with_reducible assumption) | (with_reducible refine Ext.alloc ?_ _) | (with_reducible refine Ext.drew ?_) | (with_reducible refine Ext.out ?_ (by with_reducible assumption) ?ge; case ge => omega) | (with_reducible refine Ext.trans ?_ (by with_reducible assumption))))) (by omega)).mono ?_
  rintro e w_4 ⟨u_4, rfl, o_4, e_4⟩
  have z_4 := e_4.size
  have O_4 := Lib.hid o_4; clear o_4
  obtain ⟨A_4_6, n_4_6, c_4_6, hv_4⟩ := O_4.out.shape
  subst hv_4
  have bc0 : Blk w_4 (w.heap.size) 24 [I x0.isd, I x0.version, I x0.notBefore, I x0.notAfter, I x0.voters, I x0.quorum, .slice A0_6 n0_6 c0_6] := (by repeat (first | (with_reducible exact BX0.out) | (with_reducible refine Blk.drew ?_) | (with_reducible refine Blk.ext ?_ (by with_reducible assumption)) | (with_reducible refine Blk.out ?_ (by with_reducible assumption) ?ge; case ge => omega)))
  have lt0 := bc0.lt
  obtain ⟨q0_0, q0_1, q0_2, q0_3, q0_4, q0_5, q0_6⟩ := blk7 bc0
  clear bc0
  go_wp2_with fail
  clear q0_0 q0_1 q0_2 q0_3 q0_4 q0_5 q0_6 lt0
  have bxLw4 : Blk (w_4.alloc (.cells #[I x0.isd, I x0.version, I x0.notBefore, I x0.notAfter, I x0.voters, I x0.quorum, .slice A_4_6 n_4_6 c_4_6] 29)) w_4.heap.size 29 [I x0.isd, I x0.version, I x0.notBefore, I x0.notAfter, I x0.voters, I x0.quorum, .slice A_4_6 n_4_6 c_4_6] := Blk.new _ _ _
  have BXLw4 := Lib.hid bxLw4; clear bxLw4
  have ewLw4 : Ext w_4 (w_4.alloc (.cells #[I x0.isd, I x0.version, I x0.notBefore, I x0.notAfter, I x0.voters, I x0.quorum, .slice A_4_6 n_4_6 c_4_6] 29)) := (Ext.refl _).alloc _
  have zwLw4 : w_4.heap.size + 1 ≤ (w_4.alloc (.cells #[I x0.isd, I x0.version, I x0.notBefore, I x0.notAfter, I x0.voters, I x0.quorum, .slice A_4_6 n_4_6 c_4_6] 29)).heap.size := by simp only [World.size_alloc]; omega
  generalize (w_4.alloc (.cells #[I x0.isd, I x0.version, I x0.notBefore, I x0.notAfter, I x0.voters, I x0.quorum, .slice A_4_6 n_4_6 c_4_6] 29)) = w_4b at *
  refine (impl_FormatRoot _ x0 _ (by exact TrustRootO_rd (lo := w_3.heap.size) (hi := w_4.heap.size) (by repeat (first | (with_reducible exact O_4.out) | (with_reducible refine TrustRootO.drew ?_) | (with_reducible refine TrustRootO.ext ?_ (by with_reducible assumption) ?ge; case ge => first | omega | (simp only [World.size_drew]; omega)) | (with_reducible refine TrustRootO.out ?_ (by with_reducible assumption) ?ge; case ge => omega))) (by omega))).mono ?_
  rintro e w_5 ⟨rfl, e_5⟩
  have z_5 := e_5.size
  generalize fmtRoot x0 = r at *
  have bc0 : Blk w_5 (w.heap.size) 24 [I x0.isd, I x0.version, I x0.notBefore, I x0.notAfter, I x0.voters, I x0.quorum, .slice A0_6 n0_6 c0_6] := (by repeat (first | (with_reducible exact BX0.out) | (with_reducible refine Blk.drew ?_) | (with_reducible refine Blk.ext ?_ (by with_reducible assumption)) | (with_reducible refine Blk.out ?_ (by with_reducible assumption) ?ge; case ge => omega)))
  obtain ⟨q0_0, q0_1, q0_2, q0_3, q0_4, q0_5, q0_6⟩ := blk7 bc0
  clear bc0
  have bcLw4 : Blk w_5 (w_4.heap.size) 29 [I x0.isd, I x0.version, I x0.notBefore, I x0.notAfter, I x0.voters, I x0.quorum, .slice A_4_6 n_4_6 c_4_6] := (by repeat (first | (with_reducible exact BXLw4.out) | (with_reducible refine Blk.drew ?_) | (with_reducible refine Blk.ext ?_ (by with_reducible assumption)) | (with_reducible refine Blk.out ?_ (by with_reducible assumption) ?ge; case ge => omega)))
  obtain ⟨qLw4_0, qLw4_1, qLw4_2, qLw4_3, qLw4_4, qLw4_5, qLw4_6⟩ := blk7 bcLw4
  clear bcLw4
  go_wp2_with fail
  clear q0_0 q0_1 q0_2 q0_3 q0_4 q0_5 q0_6 qLw4_0 qLw4_1 qLw4_2 qLw4_3 qLw4_4 qLw4_5 qLw4_6
  have bc0 : Blk w_5 (w.heap.size) 24 [I x0.isd, I x0.version, I x0.notBefore, I x0.notAfter, I x0.voters, I x0.quorum, .slice A0_6 n0_6 c0_6] := (by repeat (first | (with_reducible exact BX0.out) | (with_reducible refine Blk.drew ?_) | (with_reducible refine Blk.ext ?_ (by with_reducible assumption)) | (with_reducible refine Blk.out ?_ (by with_reducible assumption) ?ge; case ge => omega)))
  have lt0 := bc0.lt
  obtain ⟨q0_0, q0_1, q0_2, q0_3, q0_4, q0_5, q0_6⟩ := blk7 bc0
  clear bc0
  have bcLw4 : Blk w_5 (w_4.heap.size) 29 [I x0.isd, I x0.version, I x0.notBefore, I x0.notAfter, I x0.voters, I x0.quorum, .slice A_4_6 n_4_6 c_4_6] := (by repeat (first | (with_reducible exact BXLw4.out) | (with_reducible refine Blk.drew ?_) | (with_reducible refine Blk.ext ?_ (by with_reducible assumption)) | (with_reducible refine Blk.out ?_ (by with_reducible assumption) ?ge; case ge => omega)))
  have ltLw4 := bcLw4.lt
  obtain ⟨qLw4_0, qLw4_1, qLw4_2, qLw4_3, qLw4_4, qLw4_5, qLw4_6⟩ := blk7 bcLw4
  clear bcLw4
  go_region_held3 (fun W => w_5.heap.size ≤ W.heap.size ∧ ∀ b o, b < w_5.heap.size → W.cell? ⟨b, o, none⟩ = w_5.cell? ⟨b, o, none⟩)
    (first | exact ⟨Nat.le_refl _, fun _ _ _ => rfl⟩ | exact keepC (by assumption) e_7 | exact keepC (by assumption) e_6)
    (first | (go_at_call 7; (with_reducible refine Calls.mono (toTrustRoot (.agg #[I x0.isd, I x0.version, I x0.notBefore, I x0.notAfter, I x0.voters, I x0.quorum, .slice A0_6 n0_6 c0_6]) x0 _ ?s0 ?s1) ?_); (case s0 => exact H0.out.ext (by repeat (first | (with_reducible exact Ext.refl _) | (with_reducible assumption) | (with_reducible refine Ext.alloc ?_ _) | (with_reducible refine Ext.drew ?_) | (with_reducible refine Ext.out ?_ (by with_reducible assumption) ?ge; case ge => omega) | (with_reducible refine Ext.trans ?_ (by with_reducible assumption))))); (case s1 => omega); rintro e w_6 ⟨u_6, rfl, o_6, e_6⟩; have z_6 : w_5.heap.size ≤ w_6.heap.size := e_6.size; have o_6 : TrustRootO w_5.heap.size w_6.heap.size w_6 _ _ := o_6) | (go_at_call 9; (with_reducible refine Calls.mono (eqTrustRoot _ _ x0 x0 _ ?s0 ?s1) ?_); (case s0 => exact TrustRootO_rd (lo := w_3.heap.size) (hi := w_4.heap.size) (by repeat (first | (with_reducible exact O_4.out) | (with_reducible refine TrustRootO.drew ?_) | (with_reducible refine TrustRootO.ext ?_ (by with_reducible assumption) ?ge; case ge => first | omega | (simp only [World.size_drew]; omega)) | (with_reducible refine TrustRootO.out ?_ (by with_reducible assumption) ?ge; case ge => omega))) (by omega)); (case s1 => exact TrustRootO_rd (lo := w_5.heap.size) (hi := w_6.heap.size) (by repeat (first | (with_reducible exact o_6) | (with_reducible refine TrustRootO.drew ?_) | (with_reducible refine TrustRootO.ext ?_ (by with_reducible assumption) ?ge; case ge => first | omega | (simp only [World.size_drew]; omega)) | (with_reducible refine TrustRootO.out ?_ (by with_reducible assumption) ?ge; case ge => omega))) (by omega)); rintro e w_7 ⟨rfl, e_7⟩; have z_7 := e_7.size))
  clear q0_0 q0_1 q0_2 q0_3 q0_4 q0_5 q0_6 qLw4_0 qLw4_1 qLw4_2 qLw4_3 qLw4_4 qLw4_5 qLw4_6 lt0 ltLw4
  have O_6 := Lib.hid o_6; clear o_6
  obtain ⟨A_6_6, n_6_6, c_6_6, hv_6⟩ := O_6.out.shape
  subst hv_6
  try rw [decide_eq_true rfl]
  have bc0 : Blk w_7 (w.heap.size) 24 [I x0.isd, I x0.version, I x0.notBefore, I x0.notAfter, I x0.voters, I x0.quorum, .slice A0_6 n0_6 c0_6] := (by repeat (first | (with_reducible exact BX0.out) | (with_reducible refine Blk.drew ?_) | (with_reducible refine Blk.ext ?_ (by with_reducible assumption)) | (with_reducible refine Blk.out ?_ (by with_reducible assumption) ?ge; case ge => omega)))
  obtain ⟨q0_0, q0_1, q0_2, q0_3, q0_4, q0_5, q0_6⟩ := blk7 bc0
  clear bc0
  have bcLw4 : Blk w_7 (w_4.heap.size) 29 [I x0.isd, I x0.version, I x0.notBefore, I x0.notAfter, I x0.voters, I x0.quorum, .slice A_4_6 n_4_6 c_4_6] := (by repeat (first | (with_reducible exact BXLw4.out) | (with_reducible refine Blk.drew ?_) | (with_reducible refine Blk.ext ?_ (by with_reducible assumption)) | (with_reducible refine Blk.out ?_ (by with_reducible assumption) ?ge; case ge => omega)))
  obtain ⟨qLw4_0, qLw4_1, qLw4_2, qLw4_3, qLw4_4, qLw4_5, qLw4_6⟩ := blk7 bcLw4
  clear bcLw4
  go_wp2_with fail
  clear q0_0 q0_1 q0_2 q0_3 q0_4 q0_5 q0_6 qLw4_0 qLw4_1 qLw4_2 qLw4_3 qLw4_4 qLw4_5 qLw4_6
  go_ret
  exact ⟨rfl, (by repeat (first | (with_reducible exact Ext.refl _) | (with_reducible assumption) | (with_reducible refine Ext.alloc ?_ _) | (with_reducible refine Ext.drew ?_) | (with_reducible refine Ext.out ?_ (by with_reducible assumption) ?ge; case ge => omega) | (with_reducible refine Ext.trans ?_ (by with_reducible assumption))))⟩
set_option maxRecDepth 100000 in
theorem lifted (os : Os) (started : os.Started) (H : Type) (enc : TypeId × Value → H) :
    ReturnsInHanded {} Try.checked os 3 .any (Rows.fnExactFormatRootSpec.pre6 enc Try.prog Try.f3 Rows.fnExactFormatRootRow.domain false) (Rows.fnExactFormatRootSpec.post enc Try.prog Try.f3 false true false false) := by
  refine returnsInHanded_of_change (C := Try.checked) own started (by kernel_rfl) Try.func3
    (ChangeSpec.witness6 (enc := enc) (C := Try.checked) false ⟨#[], #[.agg #[.int .i64 0, .int .i64 0, .int .i64 0, .int .i64 0, .int .i64 0, .int .i64 0, .slice none 0 0]], []⟩ 8 (by kernel_rfl) (by kernel_rfl) (by kernel_rfl) (by kernel_rfl)) ?_
  intro W base args ds gs before hval0 hW hcnd _
  have hval : ∀ (j : Nat) t v, Try.f3.params[j]? = some t → args[j]? = some v → Value.okWide Try.prog W .any base t v := hval0
  have hW' := hW
  obtain ⟨p, q, hA0, hV, rfl, hfz, hnd⟩ := hW
  have hA : DataW.TrodAll enc Try.prog W 0 (fun _ => true) true Try.f3.params.toList args.toList ds p := hA0
  rw [Try.params3] at hA hval
  obtain ⟨v0, vs0, d0, ds0, p0, q0, hargs, rfl, rfl, h0, r0⟩ := trodAll_cons hA
  obtain ⟨rfl, rfl, rfl⟩ := trodAll_nil r0
  obtain rfl : args = #[v0] := by cases args; simp_all
  obtain ⟨rfl, rfl⟩ := trodVars_none hV
  have k0 := h0
  have lt0 : ∀ x ∈ p0, x.block < W.heap.size := by obtain ⟨m, hm⟩ := k0; exact DataW.trod_lt m _ _ _ hm
  obtain ⟨cs0, rfl, _⟩ := okWide_struct Try.underlying24 (hval 0 24 v0 rfl rfl)
  obtain ⟨x0, y0⟩ : ∃ d, TrustRootV W.heap.size W (.agg cs0) d := by
    obtain ⟨fuel, hf⟩ := h0
    obtain ⟨d, A6, n6, c6, e, s6⟩ := read_TrustRoot hf
    have e1 : cs0 = #[I d.isd, I d.version, I d.notBefore, I d.notAfter, I d.voters, I d.quorum, .slice A6 n6 c6] := by cases cs0; simpa [Value.cells] using e
    exact ⟨d, ⟨_, _, _, by rw [e1], s6⟩⟩
  clear hA0 hval0
  refine (walk _ x0 W y0).mono fun e W' ⟨he, bel⟩ => ?_
  subst he
  exact ⟨_, rfl, _, _, _, [], _, [], hW', trodAll_mk1 (shut_bool Try.underlying4 _), (trodAll_cons_mk (Below.trod laidOut (by kernel_rfl) (of_decide_eq_true (by kernel_rfl)) k0 bel.below lt0) trodAll_mk0), rfl, bel.below.frame _, fun h => by cases h⟩

theorem over : Rows.fnExactFormatRootRow.holds Try.pinned (OpenSpec.ofChange Rows.fnExactFormatRootSpec) :=
  OpenClaim.holds_of_wide 3 Try.f3 rfl rfl rfl rfl rfl rfl rfl ⟨rfl, rfl, rfl, rfl, rfl⟩ rfl rfl rfl rfl rfl (by kernel_rfl) Try.func3 (by kernel_rfl)
    (of_decide_eq_true (by kernel_rfl)) (by unfold Func.isWrapper; first | (rw [if_pos (by decide +kernel)]; kernel_rfl) | (rw [if_neg (by decide +kernel)]; exact ⟨rfl, rfl⟩))
    (fun os started H enc _ => lifted os started H enc)

/-- The statement. -/
theorem proved : Rows.FnExactFormatRootSaid := over
#print axioms proved
end Go.Proofs.Ytnglhofegajbiaa.lawFormatRoot
