/- Contracts of the reference's draws of numbers: l1Num, l2Ints. No conditions. -/
import Derived.Test.YtmlfnfflpacchaaD9
namespace Go.Proofs.Ytmlfnfflpacchaa
open Go.RowKit
set_option linter.unusedVariables false
/-- A small number. -/
def Small (x : Int) : Prop := 0 ≤ x ∧ x ≤ 1000000000000
theorem small_mul {x y : Int} (h0 : 0 ≤ x) (h1 : x < 1000000) (h2 : 0 ≤ y) (h3 : y < 1000000) : Small (wrap64 (x * y)) := by
  have h4 : 0 ≤ x * y := Int.mul_nonneg h0 h2
  have h5 : x * y ≤ 1000000 * 1000000 := Int.mul_le_mul (by omega) (by omega) h2 (by omega)
  have e : wrap64 (x * y) = x * y := (IntWalk.i64_left _).symm.trans (IntWalk.i64_in _ (by omega))
  rw [e]
  exact ⟨h4, by omega⟩
set_option maxRecDepth 100000 in
set_option maxHeartbeats 1000000 in
theorem spec_l1Num (g : Nat) (w : World) (hc : Cur w g) : Calls Try.prog 138 #[.pointer (some ⟨g, 0, none⟩)] w fun e w' => ∃ x : Int, e = .returned (I x) ∧ Small x ∧ D g w w' := by
  have HC := Lib.hid hc
  have hgw := hc.lt
  clear hc
  go_enter Try.func138, Try.ntmps138
  go_wp2_with fail
  refine (spec_l1Below g 4 w HC.out (by omega)).mono ?_
  rintro e w1 ⟨b, rfl, -, d1⟩
  have z1 := d1.size
  by_cases h0 : b = 0
  · subst h0
    go_wp2_with fail
    refine (spec_l1Below g 2000 w1 (d1.cur HC.out) (by omega)).mono ?_
    rintro e w2 ⟨x, rfl, ⟨x0, x1, -⟩, d2⟩
    have x1 := x1 (by omega)
    go_wp2_with fail
    go_ret
    exact ⟨_, rfl, ⟨x0, by omega⟩, xd⟩
  have q0 : (b == 0) = false := beq_eq_false_iff_ne.2 h0
  by_cases h1 : b = 1
  · subst h1
    go_wp2_with fail
    have dn : D g w1 (w1.alloc (.cells #[I 0, I 1, I 127, I 128, I 2147483646, I 2147483647, I 1000000000000] 3)) := D.alloc (D.refl _ _) (by omega) _
    refine (spec_l1Int g _ [0, 1, 127, 128, 2147483646, 2147483647, 1000000000000] _ (dn.cur (d1.cur HC.out)) (own_newN w1 3 1 7 (g + 1) w1.heap.size [I 0, I 1, I 127, I 128, I 2147483646, I 2147483647, I 1000000000000] rfl rfl (by unfold maxLen; omega) (by omega)) (by decide) (by decide)).mono ?_
    rintro e w2 ⟨x, rfl, hx, d2⟩
    go_wp2_with fail
    go_ret
    refine ⟨_, rfl, ?_, D.trans d1 (D.trans dn d2)⟩
    simp only [List.mem_cons, List.not_mem_nil, or_false] at hx
    unfold Small
    omega
  have q1 : (b == 1) = false := beq_eq_false_iff_ne.2 h1
  by_cases h2 : b = 2
  · subst h2
    go_wp2_with fail
    refine (spec_l1Below g 1000000 w1 (d1.cur HC.out) (by omega)).mono ?_
    rintro e w2 ⟨x, rfl, ⟨x0, x1, -⟩, d2⟩
    have x1 := x1 (by omega)
    have z2 := d2.size
    go_wp2_with fail
    refine (spec_l1Below g 1000000 w2 ((D.trans d1 d2).cur HC.out) (by omega)).mono ?_
    rintro e w3 ⟨y, rfl, ⟨y0, y1, -⟩, d3⟩
    have y1 := y1 (by omega)
    go_wp2_with fail
    go_ret
    exact ⟨_, rfl, small_mul x0 x1 y0 y1, xd⟩
  have q2 : (b == 2) = false := beq_eq_false_iff_ne.2 h2
  go_wp2_with fail
  refine (spec_l1Below g 20 w1 (d1.cur HC.out) (by omega)).mono ?_
  rintro e w2 ⟨x, rfl, ⟨x0, x1, -⟩, d2⟩
  have x1 := x1 (by omega)
  go_wp2_with fail
  go_ret
  exact ⟨_, rfl, ⟨x0, by omega⟩, xd⟩
set_option maxRecDepth 100000 in
set_option maxHeartbeats 1000000 in
theorem spec_l2Ints (g : Nat) (most : Nat) (w : World) (hc : Cur w g) (hm : most ≤ 100) : Calls Try.prog 95 #[.pointer (some ⟨g, 0, none⟩), I (most : Int)] w fun e w' => ∃ v', e = .returned v' ∧ (∃ xs : List Int, IntSO w.heap.size w'.heap.size w' v' xs ∧ xs.length ≤ most ∧ ∀ x ∈ xs, Small x) ∧ D g w w' := by
  have HC := Lib.hid hc
  have hgw := hc.lt
  clear hc
  have wm : IntKind.i64.wrap ((most : Int) + 1) = (most : Int) + 1 := IntWalk.i64_in _ (by omega)
  go_enter Try.func95, Try.ntmps95
  go_wp2_with fail
  refine name_calls (fun W => D g w W ∧ W.heap.size = w.heap.size + 1 ∧ IntSO w.heap.size W.heap.size W (.slice (some ⟨w.heap.size, 0, none⟩) 0 0) []) ⟨D.alloc (D.refl _ _) hgw _, by simp only [World.size_alloc], own_zero' _ _ _ _ _ rfl (Nat.le_refl _)⟩ ?_
  rintro w0 ⟨d0, z0, hz⟩
  have HZ := Lib.hid hz; clear hz
  refine (spec_l1Below g ((most : Int) + 1) w0 (d0.cur HC.out) (by omega)).mono ?_
  rintro e w1 ⟨x1, rfl, ⟨x1a, x1b, -⟩, d1⟩
  have x1b := x1b (by omega)
  obtain ⟨c1, rfl⟩ : ∃ c1 : Nat, x1 = (c1 : Int) := ⟨x1.toNat, by omega⟩
  go_wp2_with fail
  go_loopw [5, 6] (fun v i wr => ∃ (kk : Nat) (xs : List Int), kk ≤ most ∧ i = I kk ∧ IntSO w.heap.size wr.heap.size wr v xs ∧ xs.length + kk ≤ most ∧ (∀ x ∈ xs, Small x) ∧ D g w wr) (fun _ i _ => (intOf i).toNat)
  case atStart => exact ⟨c1, [], by omega, rfl, Own.dUp HZ.out d1 (by omega), by simp; omega, by simp, D.trans d0 d1⟩
  case round =>
    obtain ⟨kk, xs, hkk, rfl, hno, hlk, hsm, hd⟩ := hrel
    obtain ⟨av, nv, cv, hvv⟩ := hno.slice
    subst hvv
    obtain ⟨hnv, -⟩ := NO.row hno
    subst hnv
    have HNO := Lib.hid hno; have HSM := Lib.hid hsm; clear hno hsm
    have zr := hd.size
    have hgr : g < wr.heap.size := by omega
    by_cases hk0 : 0 < kk
    · obtain ⟨km, rfl⟩ : ∃ km : Nat, kk = km + 1 := ⟨kk - 1, by omega⟩
      have i2 : (0 : Int) < ((km + 1 : Nat) : Int) := by omega
      go_wp2_with fail
      refine (spec_l1Num g wr (hd.cur HC.out)).mono ?_
      rintro e w2 ⟨y, rfl, hy, d2⟩
      have z2 := d2.size
      have HN2 := Lib.hid (Own.dUp HNO.out d2 (by omega))
      go_wp2_with (at_builtin; refine hold ?_)
      refine unhold (wpList_appL w.heap.size rfl (.tmp 16) (.tmp 19) _ rfl 3 (.int .i64 0) 1 8 Try.underlying38 info_int rfl (by omega) (.slice av xs.length cv) xs.length (xs.map I) rfl _ 1 1 [I y] rfl (by exact (Own.ext HN2.out (w' := w2.alloc _) xe (Nat.le_refl _)).lt_size) (row_one _ _ _ _ _ (by first | rfl | simp) rfl) (one_ints [y]) (by simp only [World.size_alloc]; omega) (by unfold maxLen; omega) (by omega) ?_)
      intro v8 w8 o8 hg8
      have h57 := (Own.ext HN2.out (w' := w2.alloc (.cells #[I y] 3)) xe (Nat.le_refl _)).lt_size
      have d8 : D g w w8 := D.grown (w := w2.alloc (.cells #[I y] 3)) (D.alloc (D.trans hd d2) (by omega) _) hgw hg8 (fun j hj => by have := (h57.1.lt j hj).1; omega)
      have o9 : IntSO w.heap.size w8.heap.size w8 v8 (xs ++ [y]) := by
        unfold IntSO
        rw [List.length_append, List.length_singleton, List.map_append]
        exact o8
      have O9 := Lib.hid o9; clear o8 o9 hg8 h57
      go_wp2_with (at_builtin; refine hold ?_)
      go_roundw
      case rel => exact ⟨km, xs ++ [y], by omega, by go_num, O9.out, by simp; omega, fun r hr => by rcases List.mem_append.1 hr with hr | hr; exact HSM.out r hr; (have e : r = y := by simpa using hr); subst e; exact hy, d8⟩
      case measure => first | (simp [intOf]; done) | (simp [intOf]; omega)
    · have i2 : ¬ (0 : Int) < (kk : Int) := by omega
      go_wp2_with fail
      go_ret
      exact ⟨_, rfl, ⟨xs, HNO.out, by omega, HSM.out⟩, hd⟩
end Go.Proofs.Ytmlfnfflpacchaa
