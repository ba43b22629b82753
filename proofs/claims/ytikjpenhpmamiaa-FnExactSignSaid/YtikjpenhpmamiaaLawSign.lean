/- The law FnExactSign returns true for every input and changes no argument. No conditions. -/
import Derived.Test.YtikjpenhpmamiaaL03
import Derived.Test.YtikjpenhpmamiaaRead
namespace Go.Proofs.Ytikjpenhpmamiaa.lawSign
open Go.RowKit
set_option linter.unusedVariables false
open Go.ChangeShapes Go.WideShapes Go.ChangeAt
theorem own : ownKnob Try.prog.godebug = none := by kernel_rfl
theorem laidOut : laidOutB Try.prog = true := by kernel_rfl

set_option maxRecDepth 100000 in
set_option maxHeartbeats 1000000 in
theorem walk (a0 : Int) (v1 : Value) (x1 : List Int) (w : World) (h1 : IntS w.heap.size w v1 x1) :
    Calls Try.prog 5 #[I a0, v1] w fun e w' => e = .returned (.bool true) ∧ Ext w w' := by
  obtain ⟨A1, n1, c1, rfl, hl1, hn1, hm1, -⟩ := id h1
  subst hl1
  unfold maxLen at hm1
  have H1 := Lib.hid h1; clear h1
  by_cases hs1 : (1048576 : Int) < (x1.length : Int)
  · go_enter Try.func5, Try.ntmps5
    go_wp2_with fail
    go_ret
    exact ⟨rfl, (by repeat (first | (with_reducible exact Ext.refl _) | (with_reducible assumption) | (with_reducible refine Ext.alloc ?_ _) | (with_reducible refine Ext.out ?_ (by with_reducible assumption) ?ge; case ge => omega) | (with_reducible refine Ext.trans ?_ (by with_reducible assumption))))⟩
  have hb1 : x1.length ≤ 1048576 := by omega
  go_enter Try.func5, Try.ntmps5
  go_wp2_with fail
  refine (toIntS _ x1 _ (by exact H1.out.ext (by repeat (first | (with_reducible exact Ext.refl _) | (with_reducible assumption) | (with_reducible refine Ext.alloc ?_ _) | (with_reducible refine Ext.out ?_ (by with_reducible assumption) ?ge; case ge => omega) | (with_reducible refine Ext.trans ?_ (by with_reducible assumption))))) (by omega)).mono ?_
  rintro e w_1 ⟨u_1, rfl, o_1, e_1⟩
  have z_1 := e_1.size
  have O_1 := Lib.hid o_1; clear o_1
  go_wp2_with fail
  refine (spec_Sign a0 u_1 x1 _ (by exact IntSO_rd (lo := w.heap.size) (hi := w_1.heap.size) (by repeat (first | (with_reducible exact O_1.out) | (with_reducible refine Own.ext ?_ (by with_reducible assumption) ?ge; case ge => omega) | (with_reducible refine Own.out ?_ (by with_reducible assumption) ?ge; case ge => omega)))) (by omega)).mono ?_
  rintro e w_2 ⟨rfl, e_2⟩
  have z_2 := e_2.size
  go_wp2_with fail
  refine (toIntS _ x1 _ (by exact H1.out.ext (by repeat (first | (with_reducible exact Ext.refl _) | (with_reducible assumption) | (with_reducible refine Ext.alloc ?_ _) | (with_reducible refine Ext.out ?_ (by with_reducible assumption) ?ge; case ge => omega) | (with_reducible refine Ext.trans ?_ (by with_reducible assumption))))) (by omega)).mono ?_
  rintro e w_3 ⟨u_3, rfl, o_3, e_3⟩
  have z_3 := e_3.size
  have O_3 := Lib.hid o_3; clear o_3
  go_wp2_with fail
  refine (impl_Sign a0 u_3 x1 _ (by exact IntSO_rd (lo := w_2.heap.size) (hi := w_3.heap.size) (by repeat (first | (with_reducible exact O_3.out) | (with_reducible refine Own.ext ?_ (by with_reducible assumption) ?ge; case ge => omega) | (with_reducible refine Own.out ?_ (by with_reducible assumption) ?ge; case ge => omega)))) (by omega)).mono ?_
  rintro e w_4 ⟨rfl, e_4⟩
  have z_4 := e_4.size
  generalize sign a0 x1 = r at *
  go_wp2_with fail
  refine (toIntS _ x1 _ (by exact H1.out.ext (by repeat (first | (with_reducible exact Ext.refl _) | (with_reducible assumption) | (with_reducible refine Ext.alloc ?_ _) | (with_reducible refine Ext.out ?_ (by with_reducible assumption) ?ge; case ge => omega) | (with_reducible refine Ext.trans ?_ (by with_reducible assumption))))) (by omega)).mono ?_
  rintro e w_5 ⟨u_5, rfl, o_5, e_5⟩
  have z_5 := e_5.size
  have O_5 := Lib.hid o_5; clear o_5
  go_wp2_with fail
  refine (eqIntS _ _ (x1) (x1) _ (by exact IntSO_rd (lo := w_2.heap.size) (hi := w_3.heap.size) (by repeat (first | (with_reducible exact O_3.out) | (with_reducible refine Own.ext ?_ (by with_reducible assumption) ?ge; case ge => omega) | (with_reducible refine Own.out ?_ (by with_reducible assumption) ?ge; case ge => omega)))) (by exact IntSO_rd (lo := w_4.heap.size) (hi := w_5.heap.size) (by repeat (first | (with_reducible exact O_5.out) | (with_reducible refine Own.ext ?_ (by with_reducible assumption) ?ge; case ge => omega) | (with_reducible refine Own.out ?_ (by with_reducible assumption) ?ge; case ge => omega))))).mono ?_
  rintro e w_6 ⟨rfl, e_6⟩
  have z_6 := e_6.size
  rw [decide_eq_true rfl]
  go_wp2_with fail
  go_ret
  exact ⟨rfl, (by repeat (first | (with_reducible exact Ext.refl _) | (with_reducible assumption) | (with_reducible refine Ext.alloc ?_ _) | (with_reducible refine Ext.out ?_ (by with_reducible assumption) ?ge; case ge => omega) | (with_reducible refine Ext.trans ?_ (by with_reducible assumption))))⟩
set_option maxRecDepth 100000 in
theorem lifted (os : Os) (started : os.Started) (H : Type) (enc : TypeId × Value → H) :
    ReturnsInHanded {} Try.checked os 5 .any (Rows.fnExactSignSpec.pre6 enc Try.prog Try.f5 Rows.fnExactSignRow.domain false) (Rows.fnExactSignSpec.post enc Try.prog Try.f5 false true false false) := by
  refine returnsInHanded_of_change (C := Try.checked) own started (by kernel_rfl) Try.func5
    (ChangeSpec.witness6 (enc := enc) (C := Try.checked) false ⟨#[], #[.int .i64 0, .slice none 0 0], []⟩ 8 (by kernel_rfl) (by kernel_rfl) (by kernel_rfl) (by kernel_rfl)) ?_
  intro W base args ds gs before hval0 hW hcnd _
  have hval : ∀ (j : Nat) t v, Try.f5.params[j]? = some t → args[j]? = some v → Value.okWide Try.prog W .any base t v := hval0
  have hW' := hW
  obtain ⟨p, q, hA0, hV, rfl, hfz, hnd⟩ := hW
  have hA : DataW.TrodAll enc Try.prog W 0 (fun _ => true) true Try.f5.params.toList args.toList ds p := hA0
  rw [Try.params5] at hA hval
  obtain ⟨v0, vs0, d0, ds0, p0, q0, hargs, rfl, rfl, h0, r0⟩ := trodAll_cons hA
  obtain ⟨v1, vs1, d1, ds1, p1, q1, rfl, rfl, rfl, h1, r1⟩ := trodAll_cons r0
  obtain ⟨rfl, rfl, rfl⟩ := trodAll_nil r1
  obtain rfl : args = #[v0, v1] := by cases args; simp_all
  obtain ⟨rfl, rfl⟩ := trodVars_none hV
  obtain ⟨a0, rfl, rfl, rfl, w0⟩ := open_int Try.underlying3 (hval 0 3 v0 rfl rfl) h0
  have k1 := h1
  have lt1 : ∀ x ∈ p1, x.block < W.heap.size := by obtain ⟨m, hm⟩ := k1; exact DataW.trod_lt m _ _ _ hm
  obtain ⟨a1, len1, cap1, rfl⟩ := okWide_slice Try.underlying27 (hval 1 27 v1 rfl rfl)
  obtain ⟨x1, y1⟩ : ∃ ds, IntS W.heap.size W (.slice a1 len1 cap1) ds := by
    obtain ⟨fuel, hf⟩ := h1
    obtain ⟨A, n, c, ds, e, hs⟩ := read_IntS hf
    simp only [Value.cells, List.cons.injEq, and_true] at e
    rw [← e] at hs
    exact ⟨ds, hs⟩
  clear hA0 hval0
  refine (walk a0 _ x1 W y1).mono fun e W' ⟨he, bel⟩ => ?_
  subst he
  exact ⟨_, rfl, _, _, _, [], _, [], hW', trodAll_mk1 (shut_bool Try.underlying4 _), (trodAll_cons_mk (shut_int Try.underlying3 w0) (trodAll_cons_mk (Below.trod laidOut (by kernel_rfl) (of_decide_eq_true (by kernel_rfl)) k1 bel.below lt1) trodAll_mk0)), rfl, bel.below.frame _, fun h => by cases h⟩

theorem over : Rows.fnExactSignRow.holds Try.pinned (OpenSpec.ofChange Rows.fnExactSignSpec) :=
  OpenClaim.holds_of_wide 5 Try.f5 rfl rfl rfl rfl rfl rfl rfl ⟨rfl, rfl, rfl, rfl, rfl⟩ rfl rfl rfl rfl rfl (by kernel_rfl) Try.func5 (by kernel_rfl)
    (of_decide_eq_true (by kernel_rfl)) (by unfold Func.isWrapper; first | (rw [if_pos (by decide +kernel)]; kernel_rfl) | (rw [if_neg (by decide +kernel)]; exact ⟨rfl, rfl⟩))
    (fun os started H enc _ => lifted os started H enc)

/-- The statement. -/
theorem proved : Rows.FnExactSignSaid := over
#print axioms proved
end Go.Proofs.Ytikjpenhpmamiaa.lawSign
