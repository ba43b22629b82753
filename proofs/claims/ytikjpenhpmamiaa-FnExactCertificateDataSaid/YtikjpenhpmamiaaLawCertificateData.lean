/- The law FnExactCertificateData returns true for every input and changes no argument. No conditions. -/
import Derived.Test.YtikjpenhpmamiaaL19
import Derived.Test.YtikjpenhpmamiaaRead
namespace Go.Proofs.Ytikjpenhpmamiaa.lawCertificateData
open Go.RowKit
set_option linter.unusedVariables false
open Go.ChangeShapes Go.WideShapes Go.ChangeAt
theorem own : ownKnob Try.prog.godebug = none := by kernel_rfl
theorem laidOut : laidOutB Try.prog = true := by kernel_rfl

set_option maxRecDepth 100000 in
set_option maxHeartbeats 1000000 in
theorem walk (x0 : DCertificate) (w : World)  :
    Calls Try.prog 4 #[.agg #[I x0.asn, I x0.keyDigest, I x0.rootVersion, I x0.notBefore, I x0.notAfter, I x0.sig.asn, I x0.sig.value]] w fun e w' => e = .returned (.bool true) ∧ Ext w w' := by
  go_enter Try.func4, Try.ntmps4
  go_wp2_with fail
  have bx0 : Blk (w.alloc (.cells #[I x0.asn, I x0.keyDigest, I x0.rootVersion, I x0.notBefore, I x0.notAfter, I x0.sig.asn, I x0.sig.value] 26)) (w.heap.size) 26 [I x0.asn, I x0.keyDigest, I x0.rootVersion, I x0.notBefore, I x0.notAfter, I x0.sig.asn, I x0.sig.value] := by simpa using Blk.new w 26 [I x0.asn, I x0.keyDigest, I x0.rootVersion, I x0.notBefore, I x0.notAfter, I x0.sig.asn, I x0.sig.value]
  have BX0 := Lib.hid bx0; clear bx0
  have ew : Ext w (w.alloc (.cells #[I x0.asn, I x0.keyDigest, I x0.rootVersion, I x0.notBefore, I x0.notAfter, I x0.sig.asn, I x0.sig.value] 26)) := (by repeat (first | (with_reducible exact Ext.refl _) | (with_reducible assumption) | (with_reducible refine Ext.alloc ?_ _) | (with_reducible refine Ext.drew ?_) | (with_reducible refine Ext.out ?_ (by with_reducible assumption) ?ge; case ge => omega) | (with_reducible refine Ext.trans ?_ (by with_reducible assumption))))
  have zw : w.heap.size + 1 ≤ (w.alloc (.cells #[I x0.asn, I x0.keyDigest, I x0.rootVersion, I x0.notBefore, I x0.notAfter, I x0.sig.asn, I x0.sig.value] 26)).heap.size := by simp only [World.size_alloc]; omega
  generalize (w.alloc (.cells #[I x0.asn, I x0.keyDigest, I x0.rootVersion, I x0.notBefore, I x0.notAfter, I x0.sig.asn, I x0.sig.value] 26)) = w0 at *
  refine (toCertificate x0 _).mono ?_
  rintro e w_1 ⟨rfl, e_1⟩
  have z_1 := e_1.size
  have bc0 := BX0.out.ext (w' := w_1) (by repeat (first | (with_reducible exact Ext.refl _) | (with_reducible assumption) | (with_reducible refine Ext.alloc ?_ _) | (with_reducible refine Ext.drew ?_) | (with_reducible refine Ext.out ?_ (by with_reducible assumption) ?ge; case ge => omega) | (with_reducible refine Ext.trans ?_ (by with_reducible assumption))))
  obtain ⟨q0_0, q0_1, q0_2, q0_3, q0_4, q0_5, q0_6⟩ := blk7 bc0
  clear bc0
  go_wp2_with fail
  clear q0_0 q0_1 q0_2 q0_3 q0_4 q0_5 q0_6
  refine (spec_CertificateData x0 _).mono ?_
  rintro e w_2 ⟨u_2, rfl, o_2, e_2⟩
  have z_2 := e_2.size
  have O_2 := Lib.hid o_2; clear o_2
  have bc0 := BX0.out.ext (w' := w_2) (by repeat (first | (with_reducible exact Ext.refl _) | (with_reducible assumption) | (with_reducible refine Ext.alloc ?_ _) | (with_reducible refine Ext.drew ?_) | (with_reducible refine Ext.out ?_ (by with_reducible assumption) ?ge; case ge => omega) | (with_reducible refine Ext.trans ?_ (by with_reducible assumption))))
  obtain ⟨q0_0, q0_1, q0_2, q0_3, q0_4, q0_5, q0_6⟩ := blk7 bc0
  clear bc0
  go_wp2_with fail
  clear q0_0 q0_1 q0_2 q0_3 q0_4 q0_5 q0_6
  refine (toCertificate x0 _).mono ?_
  rintro e w_3 ⟨rfl, e_3⟩
  have z_3 := e_3.size
  have bc0 := BX0.out.ext (w' := w_3) (by repeat (first | (with_reducible exact Ext.refl _) | (with_reducible assumption) | (with_reducible refine Ext.alloc ?_ _) | (with_reducible refine Ext.drew ?_) | (with_reducible refine Ext.out ?_ (by with_reducible assumption) ?ge; case ge => omega) | (with_reducible refine Ext.trans ?_ (by with_reducible assumption))))
  obtain ⟨q0_0, q0_1, q0_2, q0_3, q0_4, q0_5, q0_6⟩ := blk7 bc0
  clear bc0
  go_wp2_with fail
  clear q0_0 q0_1 q0_2 q0_3 q0_4 q0_5 q0_6
  refine (impl_CertificateData x0 _).mono ?_
  rintro e w_4 ⟨u_4, rfl, o_4, e_4⟩
  have z_4 := e_4.size
  have O_4 := Lib.hid o_4; clear o_4
  have bc0 := BX0.out.ext (w' := w_4) (by repeat (first | (with_reducible exact Ext.refl _) | (with_reducible assumption) | (with_reducible refine Ext.alloc ?_ _) | (with_reducible refine Ext.drew ?_) | (with_reducible refine Ext.out ?_ (by with_reducible assumption) ?ge; case ge => omega) | (with_reducible refine Ext.trans ?_ (by with_reducible assumption))))
  obtain ⟨q0_0, q0_1, q0_2, q0_3, q0_4, q0_5, q0_6⟩ := blk7 bc0
  clear bc0
  go_wp2_with fail
  clear q0_0 q0_1 q0_2 q0_3 q0_4 q0_5 q0_6
  have S_2 := Lib.hid (IntSO_rd O_2.out)
  refine (eqIntS _ _ (certData x0) (certData x0) _ (by exact IntSO_rd (lo := w_3.heap.size) (hi := w_4.heap.size) (by repeat (first | (with_reducible exact O_4.out) | (with_reducible refine Own.drew ?_) | (with_reducible refine Own.ext ?_ (by with_reducible assumption) ?ge; case ge => first | omega | (simp only [World.size_drew]; omega)) | (with_reducible refine Own.out ?_ (by with_reducible assumption) ?ge; case ge => omega)))) (by exact S_2.out.ext (by repeat (first | (with_reducible exact Ext.refl _) | (with_reducible assumption) | (with_reducible refine Ext.alloc ?_ _) | (with_reducible refine Ext.drew ?_) | (with_reducible refine Ext.out ?_ (by with_reducible assumption) ?ge; case ge => omega) | (with_reducible refine Ext.trans ?_ (by with_reducible assumption)))))).mono ?_
  rintro e w_5 ⟨rfl, e_5⟩
  have z_5 := e_5.size
  rw [decide_eq_true rfl]
  have bc0 := BX0.out.ext (w' := w_5) (by repeat (first | (with_reducible exact Ext.refl _) | (with_reducible assumption) | (with_reducible refine Ext.alloc ?_ _) | (with_reducible refine Ext.drew ?_) | (with_reducible refine Ext.out ?_ (by with_reducible assumption) ?ge; case ge => omega) | (with_reducible refine Ext.trans ?_ (by with_reducible assumption))))
  obtain ⟨q0_0, q0_1, q0_2, q0_3, q0_4, q0_5, q0_6⟩ := blk7 bc0
  clear bc0
  go_wp2_with fail
  clear q0_0 q0_1 q0_2 q0_3 q0_4 q0_5 q0_6
  have hres : (certData x0).length ≤ 100000000000 := by simp [certData]
  refine (markIntS _ (certData x0) 1 w_3.heap.size w_4.heap.size _ (by exact (by repeat (first | (with_reducible exact O_4.out) | (with_reducible refine Own.drew ?_) | (with_reducible refine Own.ext ?_ (by with_reducible assumption) ?ge; case ge => first | omega | (simp only [World.size_drew]; omega)) | (with_reducible refine Own.out ?_ (by with_reducible assumption) ?ge; case ge => omega)))) (by omega)).mono ?_
  rintro e w_6 ⟨rfl, o_6, e_6⟩
  have z_6 := e_6.size
  have O_6 := Lib.hid o_6; clear o_6
  have bc0 := BX0.out.ext (w' := w_6) (by repeat (first | (with_reducible exact Ext.refl _) | (with_reducible assumption) | (with_reducible refine Ext.alloc ?_ _) | (with_reducible refine Ext.drew ?_) | (with_reducible refine Ext.out ?_ (by with_reducible assumption) ?ge; case ge => omega) | (with_reducible refine Ext.trans ?_ (by with_reducible assumption))))
  obtain ⟨q0_0, q0_1, q0_2, q0_3, q0_4, q0_5, q0_6⟩ := blk7 bc0
  clear bc0
  go_wp2_with fail
  clear q0_0 q0_1 q0_2 q0_3 q0_4 q0_5 q0_6
  refine (heldIntS _ (certData x0).length 1 _ (by exact IntSO_rd (lo := w_3.heap.size) (hi := w_4.heap.size) (xs := (intsNum 1 (certData x0).length)) (by unfold IntSO; rw [intsNum_len]; exact (by repeat (first | (with_reducible exact O_6.out) | (with_reducible refine Own.drew ?_) | (with_reducible refine Own.ext ?_ (by with_reducible assumption) ?ge; case ge => first | omega | (simp only [World.size_drew]; omega)) | (with_reducible refine Own.out ?_ (by with_reducible assumption) ?ge; case ge => omega))))) (by omega)).mono ?_
  rintro e w_7 ⟨rfl, e_7⟩
  have z_7 := e_7.size
  have bc0 := BX0.out.ext (w' := w_7) (by repeat (first | (with_reducible exact Ext.refl _) | (with_reducible assumption) | (with_reducible refine Ext.alloc ?_ _) | (with_reducible refine Ext.drew ?_) | (with_reducible refine Ext.out ?_ (by with_reducible assumption) ?ge; case ge => omega) | (with_reducible refine Ext.trans ?_ (by with_reducible assumption))))
  obtain ⟨q0_0, q0_1, q0_2, q0_3, q0_4, q0_5, q0_6⟩ := blk7 bc0
  clear bc0
  go_wp2_with fail
  clear q0_0 q0_1 q0_2 q0_3 q0_4 q0_5 q0_6
  refine (toCertificate x0 _).mono ?_
  rintro e w_8 ⟨rfl, e_8⟩
  have z_8 := e_8.size
  have bc0 := BX0.out.ext (w' := w_8) (by repeat (first | (with_reducible exact Ext.refl _) | (with_reducible assumption) | (with_reducible refine Ext.alloc ?_ _) | (with_reducible refine Ext.drew ?_) | (with_reducible refine Ext.out ?_ (by with_reducible assumption) ?ge; case ge => omega) | (with_reducible refine Ext.trans ?_ (by with_reducible assumption))))
  obtain ⟨q0_0, q0_1, q0_2, q0_3, q0_4, q0_5, q0_6⟩ := blk7 bc0
  clear bc0
  go_wp2_with fail
  clear q0_0 q0_1 q0_2 q0_3 q0_4 q0_5 q0_6
  refine (impl_CertificateData x0 _).mono ?_
  rintro e w_9 ⟨u_9, rfl, o_9, e_9⟩
  have z_9 := e_9.size
  have O_9 := Lib.hid o_9; clear o_9
  have bc0 := BX0.out.ext (w' := w_9) (by repeat (first | (with_reducible exact Ext.refl _) | (with_reducible assumption) | (with_reducible refine Ext.alloc ?_ _) | (with_reducible refine Ext.drew ?_) | (with_reducible refine Ext.out ?_ (by with_reducible assumption) ?ge; case ge => omega) | (with_reducible refine Ext.trans ?_ (by with_reducible assumption))))
  obtain ⟨q0_0, q0_1, q0_2, q0_3, q0_4, q0_5, q0_6⟩ := blk7 bc0
  clear bc0
  go_wp2_with fail
  clear q0_0 q0_1 q0_2 q0_3 q0_4 q0_5 q0_6
  refine (eqIntS _ _ (certData x0) (certData x0) _ (by exact IntSO_rd (lo := w_8.heap.size) (hi := w_9.heap.size) (by repeat (first | (with_reducible exact O_9.out) | (with_reducible refine Own.drew ?_) | (with_reducible refine Own.ext ?_ (by with_reducible assumption) ?ge; case ge => first | omega | (simp only [World.size_drew]; omega)) | (with_reducible refine Own.out ?_ (by with_reducible assumption) ?ge; case ge => omega)))) (by exact S_2.out.ext (by repeat (first | (with_reducible exact Ext.refl _) | (with_reducible assumption) | (with_reducible refine Ext.alloc ?_ _) | (with_reducible refine Ext.drew ?_) | (with_reducible refine Ext.out ?_ (by with_reducible assumption) ?ge; case ge => omega) | (with_reducible refine Ext.trans ?_ (by with_reducible assumption)))))).mono ?_
  rintro e w_10 ⟨rfl, e_10⟩
  have z_10 := e_10.size
  rw [decide_eq_true rfl]
  have bc0 := BX0.out.ext (w' := w_10) (by repeat (first | (with_reducible exact Ext.refl _) | (with_reducible assumption) | (with_reducible refine Ext.alloc ?_ _) | (with_reducible refine Ext.drew ?_) | (with_reducible refine Ext.out ?_ (by with_reducible assumption) ?ge; case ge => omega) | (with_reducible refine Ext.trans ?_ (by with_reducible assumption))))
  obtain ⟨q0_0, q0_1, q0_2, q0_3, q0_4, q0_5, q0_6⟩ := blk7 bc0
  clear bc0
  go_wp2_with fail
  clear q0_0 q0_1 q0_2 q0_3 q0_4 q0_5 q0_6
  refine (heldIntS _ (certData x0).length 1 _ (by exact IntSO_rd (lo := w_3.heap.size) (hi := w_4.heap.size) (xs := (intsNum 1 (certData x0).length)) (by unfold IntSO; rw [intsNum_len]; exact (by repeat (first | (with_reducible exact O_6.out) | (with_reducible refine Own.drew ?_) | (with_reducible refine Own.ext ?_ (by with_reducible assumption) ?ge; case ge => first | omega | (simp only [World.size_drew]; omega)) | (with_reducible refine Own.out ?_ (by with_reducible assumption) ?ge; case ge => omega))))) (by omega)).mono ?_
  rintro e w_11 ⟨rfl, e_11⟩
  have z_11 := e_11.size
  have bc0 := BX0.out.ext (w' := w_11) (by repeat (first | (with_reducible exact Ext.refl _) | (with_reducible assumption) | (with_reducible refine Ext.alloc ?_ _) | (with_reducible refine Ext.drew ?_) | (with_reducible refine Ext.out ?_ (by with_reducible assumption) ?ge; case ge => omega) | (with_reducible refine Ext.trans ?_ (by with_reducible assumption))))
  obtain ⟨q0_0, q0_1, q0_2, q0_3, q0_4, q0_5, q0_6⟩ := blk7 bc0
  clear bc0
  go_wp2_with fail
  clear q0_0 q0_1 q0_2 q0_3 q0_4 q0_5 q0_6
  go_ret
  exact ⟨rfl, (by repeat (first | (with_reducible exact Ext.refl _) | (with_reducible assumption) | (with_reducible refine Ext.alloc ?_ _) | (with_reducible refine Ext.drew ?_) | (with_reducible refine Ext.out ?_ (by with_reducible assumption) ?ge; case ge => omega) | (with_reducible refine Ext.trans ?_ (by with_reducible assumption))))⟩
set_option maxRecDepth 100000 in
theorem lifted (os : Os) (started : os.Started) (H : Type) (enc : TypeId × Value → H) :
    ReturnsInHanded {} Try.checked os 4 .any (Rows.fnExactCertificateDataSpec.pre6 enc Try.prog Try.f4 Rows.fnExactCertificateDataRow.domain false) (Rows.fnExactCertificateDataSpec.post enc Try.prog Try.f4 false true false false) := by
  refine returnsInHanded_of_change (C := Try.checked) own started (by kernel_rfl) Try.func4
    (ChangeSpec.witness6 (enc := enc) (C := Try.checked) false ⟨#[], #[.agg #[.int .i64 0, .int .i64 0, .int .i64 0, .int .i64 0, .int .i64 0, .int .i64 0, .int .i64 0]], []⟩ 8 (by kernel_rfl) (by kernel_rfl) (by kernel_rfl) (by kernel_rfl)) ?_
  intro W base args ds gs before hval0 hW hcnd _
  have hval : ∀ (j : Nat) t v, Try.f4.params[j]? = some t → args[j]? = some v → Value.okWide Try.prog W .any base t v := hval0
  have hW' := hW
  obtain ⟨p, q, hA0, hV, rfl, hfz, hnd⟩ := hW
  have hA : DataW.TrodAll enc Try.prog W 0 (fun _ => true) true Try.f4.params.toList args.toList ds p := hA0
  rw [Try.params4] at hA hval
  obtain ⟨v0, vs0, d0, ds0, p0, q0, hargs, rfl, rfl, h0, r0⟩ := trodAll_cons hA
  obtain ⟨rfl, rfl, rfl⟩ := trodAll_nil r0
  obtain rfl : args = #[v0] := by cases args; simp_all
  obtain ⟨rfl, rfl⟩ := trodVars_none hV
  have k0 := h0
  have lt0 : ∀ x ∈ p0, x.block < W.heap.size := by obtain ⟨m, hm⟩ := k0; exact DataW.trod_lt m _ _ _ hm
  obtain ⟨cs0, rfl, _⟩ := okWide_struct Try.underlying26 (hval 0 26 v0 rfl rfl)
  obtain ⟨x0, y0⟩ : ∃ d, CertificateV W.heap.size W (.agg cs0) d := by
    obtain ⟨fuel, hf⟩ := h0
    obtain ⟨d, e⟩ := read_Certificate hf
    have e1 : cs0 = #[I d.asn, I d.keyDigest, I d.rootVersion, I d.notBefore, I d.notAfter, I d.sig.asn, I d.sig.value] := by cases cs0; simpa [Value.cells] using e
    exact ⟨d, by unfold CertificateV; rw [e1]⟩
  obtain rfl : cs0 = #[I x0.asn, I x0.keyDigest, I x0.rootVersion, I x0.notBefore, I x0.notAfter, I x0.sig.asn, I x0.sig.value] := by simpa [CertificateV] using y0
  clear hA0 hval0
  refine (walk x0 W ).mono fun e W' ⟨he, bel⟩ => ?_
  subst he
  exact ⟨_, rfl, _, _, _, [], _, [], hW', trodAll_mk1 (shut_bool Try.underlying4 _), (trodAll_cons_mk (Below.trod laidOut (by kernel_rfl) (of_decide_eq_true (by kernel_rfl)) k0 bel.below lt0) trodAll_mk0), rfl, bel.below.frame _, fun h => by cases h⟩

theorem over : Rows.fnExactCertificateDataRow.holds Try.pinned (OpenSpec.ofChange Rows.fnExactCertificateDataSpec) :=
  OpenClaim.holds_of_wide 4 Try.f4 rfl rfl rfl rfl rfl rfl rfl ⟨rfl, rfl, rfl, rfl, rfl⟩ rfl rfl rfl rfl rfl (by kernel_rfl) Try.func4 (by kernel_rfl)
    (of_decide_eq_true (by kernel_rfl)) (by unfold Func.isWrapper; first | (rw [if_pos (by decide +kernel)]; kernel_rfl) | (rw [if_neg (by decide +kernel)]; exact ⟨rfl, rfl⟩))
    (fun os started H enc _ => lifted os started H enc)

/-- The statement. -/
theorem proved : Rows.FnExactCertificateDataSaid := over
#print axioms proved
end Go.Proofs.Ytikjpenhpmamiaa.lawCertificateData
