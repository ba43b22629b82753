/- Contracts of the reference's draws of policies and of topologies with a thing turned: l12Draw, l12List, l5Any. No conditions. -/
import Derived.Test.YtpkcoinoiaaebaaGreatGD4
import Derived.Test.YtpkcoinoiaaebaaGreatDK
import Derived.Test.YtpkcoinoiaaebaaGreatGHS
import Derived.Test.YtpkcoinoiaaebaaGreatGL13
import Derived.Deep.Cut
import Derived.Test.YtpkcoinoiaaebaaGreatL15b
import Derived.Test.YtpkcoinoiaaebaaGreatL15h
import Derived.Test.YtpkcoinoiaaebaaGreatGP31
namespace Go.Proofs.YtpkcoinoiaaebaaGreat
open Go.RowKit
set_option linter.unusedVariables false
set_option maxRecDepth 100000 in
set_option maxHeartbeats 1000000 in
theorem spec_l12Draw (g : Nat) (w : World) (hc : Cur w g) : Calls Tryz.prog 33 #[.pointer (some ⟨g, 0, none⟩)] w fun e w' => (∃ p : DPolicy, e = .returned (.agg #[I p.maxLen, I p.denied, I p.closed, I p.life])) ∧ D g w w' := by
  have HC := Lib.hid hc
  have hgw := hc.lt
  clear hc
  go_enter Tryz.func33, Tryz.ntmps33
  go_wp2_with fail
  refine name_calls (fun W => Ext w W ∧ W.heap.size = w.heap.size + 1 ∧ Blk W w.heap.size 63 [I 0, I 0, I 0, I 0]) ⟨xe, by simp only [World.size_alloc], xb⟩ ?_
  rintro wa ⟨ea, za_, br⟩
  obtain ⟨za, za'⟩ := le_both za_
  clear za_
  have BR := Lib.hid br; clear br
  refine (spec_DefaultPolicy wa).mono ?_
  rintro e w1 ⟨rfl, e1⟩
  have z1 := e1.size
  have ew1 : Ext w w1 := Ext.trans ea e1
  go_wp2_with fail
  refine name_calls (fun W => D g w W ∧ w1.heap.size < W.heap.size ∧ Blk W w.heap.size 63 [I 0, I 0, I 0, I 0] ∧ ∃ p0 p1 p2 p3 : Int, Blk W w1.heap.size 63 [I p0, I p1, I p2, I p3]) ⟨D.of_ext xe hgw, by simp only [World.size_alloc]; omega, BR.out.ext (w' := w1.alloc (.cells #[I 8, I 0, I 0, I 100] 63)) xe, 8, 0, 0, 100, xb⟩ ?_
  rintro w2 ⟨d2, z2, br2, p2_0, p2_1, p2_2, p2_3, bp2⟩
  have BR2 := Lib.hid br2; have BP2 := Lib.hid bp2; clear br2 bp2
  have nb1 : ¬ w.heap.size = w1.heap.size := by omega
  have nb2 : ¬ w1.heap.size = w.heap.size := by omega
  refine (spec_l1Once g 2 w2 (d2.cur HC.out) (by omega)).mono ?_
  rintro e w3 ⟨b3, rfl, e3⟩
  have z3 := e3.size
  have d3 : D g w w3 := D.trans d2 e3
  have BR3 := Lib.hid (BR2.out.d e3 (by omega)); have BP3 := Lib.hid (BP2.out.d e3 (by omega))
  cases b3
  · go_wp2_with fail
    refine (spec_l1Below g 7 w3 (d3.cur HC.out) (by omega)).mono ?_
    rintro e w4 ⟨x4, rfl, ⟨x4a, x4b, -⟩, e4⟩
    have x4b := x4b (by omega)
    have hw4 : wrap64 (1 + x4) = 1 + x4 := IntWalk.wrap64_in _ (by omega)
    have hx4 : (0 : Int) ≤ 1 + x4 := by omega
    have z4 := e4.size
    have d4 : D g w w4 := D.trans d3 e4
    have BR4 := Lib.hid (BR3.out.d e4 (by omega)); have BP4 := Lib.hid (BP3.out.d e4 (by omega))
    have bp := BP4.out.ext (w' := w4) xe
    have lbp := bp.lt
    obtain ⟨qbp_0, qbp_1, qbp_2, qbp_3⟩ := blk4 bp
    have fbp_0 := bp.frozen 0
    have fbp_1 := bp.frozen 1
    have fbp_2 := bp.frozen 2
    have fbp_3 := bp.frozen 3
    clear bp
    go_wp2_with fail
    refine name_calls (fun W => D g w W ∧ w1.heap.size < W.heap.size ∧ Blk W w.heap.size 63 [I 0, I 0, I 0, I 0] ∧ ∃ p0 p1 p2 p3 : Int, Blk W w1.heap.size 63 [I p0, I p1, I p2, I p3]) ⟨D.setNew d4 hgw (by dsimp only; omega) _, by simp only [World.size_setCell]; omega, BR4.out.far (by dsimp only; omega) _, _, p2_1, p2_2, p2_3, BP4.out.set_ 0 _⟩ ?_
    clear lbp qbp_0 qbp_1 qbp_2 qbp_3 fbp_0 fbp_1 fbp_2 fbp_3
    rintro w5 ⟨d5, z5, br5, p5_0, p5_1, p5_2, p5_3, bp5⟩
    have BR5 := Lib.hid br5; have BP5 := Lib.hid bp5; clear br5 bp5
    refine (spec_l1Below g 100 w5 (d5.cur HC.out) (by omega)).mono ?_
    rintro e w6 ⟨x6, rfl, ⟨x6a, x6b, -⟩, e6⟩
    have x6b := x6b (by omega)
    have hw6 : wrap64 (1 + x6) = 1 + x6 := IntWalk.wrap64_in _ (by omega)
    have hx6 : (0 : Int) ≤ 1 + x6 := by omega
    have z6 := e6.size
    have d6 : D g w w6 := D.trans d5 e6
    have BR6 := Lib.hid (BR5.out.d e6 (by omega)); have BP6 := Lib.hid (BP5.out.d e6 (by omega))
    have bp := BP6.out.ext (w' := w6) xe
    have lbp := bp.lt
    obtain ⟨qbp_0, qbp_1, qbp_2, qbp_3⟩ := blk4 bp
    have fbp_0 := bp.frozen 0
    have fbp_1 := bp.frozen 1
    have fbp_2 := bp.frozen 2
    have fbp_3 := bp.frozen 3
    clear bp
    go_wp2_with fail
    refine name_calls (fun W => D g w W ∧ w1.heap.size < W.heap.size ∧ Blk W w.heap.size 63 [I 0, I 0, I 0, I 0] ∧ ∃ p0 p1 p2 p3 : Int, Blk W w1.heap.size 63 [I p0, I p1, I p2, I p3]) ⟨D.setNew d6 hgw (by dsimp only; omega) _, by simp only [World.size_setCell]; omega, BR6.out.far (by dsimp only; omega) _, p5_0, p5_1, p5_2, _, BP6.out.set_ 3 _⟩ ?_
    clear lbp qbp_0 qbp_1 qbp_2 qbp_3 fbp_0 fbp_1 fbp_2 fbp_3
    rintro w7 ⟨d7, z7, br7, p7_0, p7_1, p7_2, p7_3, bp7⟩
    have BR7 := Lib.hid br7; have BP7 := Lib.hid bp7; clear br7 bp7
    refine (spec_l1Once g 3 w7 (d7.cur HC.out) (by omega)).mono ?_
    rintro e w8 ⟨b8, rfl, e8⟩
    have z8 := e8.size
    have d8 : D g w w8 := D.trans d7 e8
    have BR8 := Lib.hid (BR7.out.d e8 (by omega)); have BP8 := Lib.hid (BP7.out.d e8 (by omega))
    cases b8
    · go_wp2_with fail
      refine (spec_l1Once g 3 w8 (d8.cur HC.out) (by omega)).mono ?_
      rintro e w9 ⟨b9, rfl, e9⟩
      have z9 := e9.size
      have d9 : D g w w9 := D.trans d8 e9
      have BR9 := Lib.hid (BR8.out.d e9 (by omega)); have BP9 := Lib.hid (BP8.out.d e9 (by omega))
      cases b9
      · skip
        have bp := BP9.out.ext (w' := w9) xe
        have lbp := bp.lt
        obtain ⟨qbp_0, qbp_1, qbp_2, qbp_3⟩ := blk4 bp
        have fbp_0 := bp.frozen 0
        have fbp_1 := bp.frozen 1
        have fbp_2 := bp.frozen 2
        have fbp_3 := bp.frozen 3
        clear bp
        have br := BR9.out.ext (w' := w9) xe
        have lbr := br.lt
        obtain ⟨qbr_0, qbr_1, qbr_2, qbr_3⟩ := blk4 br
        have fbr_0 := br.frozen 0
        have fbr_1 := br.frozen 1
        have fbr_2 := br.frozen 2
        have fbr_3 := br.frozen 3
        clear br
        go_wp2_with fail
        refine bodyPost_ret (v := .agg #[I p7_0, I p7_1, I p7_2, I p7_3]) (by simp [results, Tryz.results33, go_sem, *]) rfl ⟨⟨⟨p7_0, p7_1, p7_2, p7_3⟩, rfl⟩, ?_⟩
        exact D.setNew (D.setNew (D.setNew (D.setNew d9 hgw (by dsimp only; omega) _) hgw (by dsimp only; omega) _) hgw (by dsimp only; omega) _) hgw (by dsimp only; omega) _
      · go_wp2_with fail
        refine (spec_l1Below g 6 w9 (d9.cur HC.out) (by omega)).mono ?_
        rintro e w10 ⟨x10, rfl, ⟨x10a, x10b, -⟩, e10⟩
        have x10b := x10b (by omega)
        have hw10 : wrap64 (1 + x10) = 1 + x10 := IntWalk.wrap64_in _ (by omega)
        have hx10 : (0 : Int) ≤ 1 + x10 := by omega
        have z10 := e10.size
        have d10 : D g w w10 := D.trans d9 e10
        have BR10 := Lib.hid (BR9.out.d e10 (by omega)); have BP10 := Lib.hid (BP9.out.d e10 (by omega))
        have bp := BP10.out.ext (w' := w10) xe
        have lbp := bp.lt
        obtain ⟨qbp_0, qbp_1, qbp_2, qbp_3⟩ := blk4 bp
        have fbp_0 := bp.frozen 0
        have fbp_1 := bp.frozen 1
        have fbp_2 := bp.frozen 2
        have fbp_3 := bp.frozen 3
        clear bp
        have br := BR10.out.ext (w' := w10) xe
        have lbr := br.lt
        obtain ⟨qbr_0, qbr_1, qbr_2, qbr_3⟩ := blk4 br
        have fbr_0 := br.frozen 0
        have fbr_1 := br.frozen 1
        have fbr_2 := br.frozen 2
        have fbr_3 := br.frozen 3
        clear br
        go_wp2_with fail
        refine bodyPost_ret (v := .agg #[I p7_0, I p7_1, I (wrap64 (2 ^ (1 + x10).toNat)), I p7_3]) (by simp [results, Tryz.results33, go_sem, *]) rfl ⟨⟨⟨p7_0, p7_1, wrap64 (2 ^ (1 + x10).toNat), p7_3⟩, rfl⟩, ?_⟩
        exact D.setNew (D.setNew (D.setNew (D.setNew (D.setNew d10 hgw (by dsimp only; omega) _) hgw (by dsimp only; omega) _) hgw (by dsimp only; omega) _) hgw (by dsimp only; omega) _) hgw (by dsimp only; omega) _
    · go_wp2_with fail
      refine (spec_l1Below g 8 w8 (d8.cur HC.out) (by omega)).mono ?_
      rintro e w9 ⟨x9, rfl, ⟨x9a, x9b, -⟩, e9⟩
      have x9b := x9b (by omega)
      have hw9 : wrap64 (1 + x9) = 1 + x9 := IntWalk.wrap64_in _ (by omega)
      have hx9 : (0 : Int) ≤ 1 + x9 := by omega
      have z9 := e9.size
      have d9 : D g w w9 := D.trans d8 e9
      have BR9 := Lib.hid (BR8.out.d e9 (by omega)); have BP9 := Lib.hid (BP8.out.d e9 (by omega))
      have bp := BP9.out.ext (w' := w9) xe
      have lbp := bp.lt
      obtain ⟨qbp_0, qbp_1, qbp_2, qbp_3⟩ := blk4 bp
      have fbp_0 := bp.frozen 0
      have fbp_1 := bp.frozen 1
      have fbp_2 := bp.frozen 2
      have fbp_3 := bp.frozen 3
      clear bp
      go_wp2_with fail
      refine name_calls (fun W => D g w W ∧ w1.heap.size < W.heap.size ∧ Blk W w.heap.size 63 [I 0, I 0, I 0, I 0] ∧ ∃ p0 p1 p2 p3 : Int, Blk W w1.heap.size 63 [I p0, I p1, I p2, I p3]) ⟨D.setNew d9 hgw (by dsimp only; omega) _, by simp only [World.size_setCell]; omega, BR9.out.far (by dsimp only; omega) _, p7_0, _, p7_2, p7_3, BP9.out.set_ 1 _⟩ ?_
      clear lbp qbp_0 qbp_1 qbp_2 qbp_3 fbp_0 fbp_1 fbp_2 fbp_3
      rintro w10 ⟨d10, z10, br10, p10_0, p10_1, p10_2, p10_3, bp10⟩
      have BR10 := Lib.hid br10; have BP10 := Lib.hid bp10; clear br10 bp10
      refine (spec_l1Once g 3 w10 (d10.cur HC.out) (by omega)).mono ?_
      rintro e w11 ⟨b11, rfl, e11⟩
      have z11 := e11.size
      have d11 : D g w w11 := D.trans d10 e11
      have BR11 := Lib.hid (BR10.out.d e11 (by omega)); have BP11 := Lib.hid (BP10.out.d e11 (by omega))
      cases b11
      · skip
        have bp := BP11.out.ext (w' := w11) xe
        have lbp := bp.lt
        obtain ⟨qbp_0, qbp_1, qbp_2, qbp_3⟩ := blk4 bp
        have fbp_0 := bp.frozen 0
        have fbp_1 := bp.frozen 1
        have fbp_2 := bp.frozen 2
        have fbp_3 := bp.frozen 3
        clear bp
        have br := BR11.out.ext (w' := w11) xe
        have lbr := br.lt
        obtain ⟨qbr_0, qbr_1, qbr_2, qbr_3⟩ := blk4 br
        have fbr_0 := br.frozen 0
        have fbr_1 := br.frozen 1
        have fbr_2 := br.frozen 2
        have fbr_3 := br.frozen 3
        clear br
        go_wp2_with fail
        refine bodyPost_ret (v := .agg #[I p10_0, I p10_1, I p10_2, I p10_3]) (by simp [results, Tryz.results33, go_sem, *]) rfl ⟨⟨⟨p10_0, p10_1, p10_2, p10_3⟩, rfl⟩, ?_⟩
        exact D.setNew (D.setNew (D.setNew (D.setNew d11 hgw (by dsimp only; omega) _) hgw (by dsimp only; omega) _) hgw (by dsimp only; omega) _) hgw (by dsimp only; omega) _
      · go_wp2_with fail
        refine (spec_l1Below g 6 w11 (d11.cur HC.out) (by omega)).mono ?_
        rintro e w12 ⟨x12, rfl, ⟨x12a, x12b, -⟩, e12⟩
        have x12b := x12b (by omega)
        have hw12 : wrap64 (1 + x12) = 1 + x12 := IntWalk.wrap64_in _ (by omega)
        have hx12 : (0 : Int) ≤ 1 + x12 := by omega
        have z12 := e12.size
        have d12 : D g w w12 := D.trans d11 e12
        have BR12 := Lib.hid (BR11.out.d e12 (by omega)); have BP12 := Lib.hid (BP11.out.d e12 (by omega))
        have bp := BP12.out.ext (w' := w12) xe
        have lbp := bp.lt
        obtain ⟨qbp_0, qbp_1, qbp_2, qbp_3⟩ := blk4 bp
        have fbp_0 := bp.frozen 0
        have fbp_1 := bp.frozen 1
        have fbp_2 := bp.frozen 2
        have fbp_3 := bp.frozen 3
        clear bp
        have br := BR12.out.ext (w' := w12) xe
        have lbr := br.lt
        obtain ⟨qbr_0, qbr_1, qbr_2, qbr_3⟩ := blk4 br
        have fbr_0 := br.frozen 0
        have fbr_1 := br.frozen 1
        have fbr_2 := br.frozen 2
        have fbr_3 := br.frozen 3
        clear br
        go_wp2_with fail
        refine bodyPost_ret (v := .agg #[I p10_0, I p10_1, I (wrap64 (2 ^ (1 + x12).toNat)), I p10_3]) (by simp [results, Tryz.results33, go_sem, *]) rfl ⟨⟨⟨p10_0, p10_1, wrap64 (2 ^ (1 + x12).toNat), p10_3⟩, rfl⟩, ?_⟩
        exact D.setNew (D.setNew (D.setNew (D.setNew (D.setNew d12 hgw (by dsimp only; omega) _) hgw (by dsimp only; omega) _) hgw (by dsimp only; omega) _) hgw (by dsimp only; omega) _) hgw (by dsimp only; omega) _
  · skip
    have bp := BP3.out.ext (w' := w3) xe
    have lbp := bp.lt
    obtain ⟨qbp_0, qbp_1, qbp_2, qbp_3⟩ := blk4 bp
    have fbp_0 := bp.frozen 0
    have fbp_1 := bp.frozen 1
    have fbp_2 := bp.frozen 2
    have fbp_3 := bp.frozen 3
    clear bp
    have br := BR3.out.ext (w' := w3) xe
    have lbr := br.lt
    obtain ⟨qbr_0, qbr_1, qbr_2, qbr_3⟩ := blk4 br
    have fbr_0 := br.frozen 0
    have fbr_1 := br.frozen 1
    have fbr_2 := br.frozen 2
    have fbr_3 := br.frozen 3
    clear br
    go_wp2_with fail
    refine bodyPost_ret (v := .agg #[I p2_0, I p2_1, I p2_2, I p2_3]) (by simp [results, Tryz.results33, go_sem, *]) rfl ⟨⟨⟨p2_0, p2_1, p2_2, p2_3⟩, rfl⟩, ?_⟩
    exact D.setNew (D.setNew (D.setNew (D.setNew d3 hgw (by dsimp only; omega) _) hgw (by dsimp only; omega) _) hgw (by dsimp only; omega) _) hgw (by dsimp only; omega) _
set_option maxRecDepth 100000 in
set_option maxHeartbeats 1000000 in
theorem spec_l12List (g n : Nat) (w : World) (hc : Cur w g) (hn : n ≤ 100) : Calls Tryz.prog 14 #[.pointer (some ⟨g, 0, none⟩), I (n : Int)] w fun e w' => ∃ v', e = .returned v' ∧ (∃ l : List DPolicy, PolicySO w.heap.size w'.heap.size w' v' l ∧ l.length = n) ∧ D g w w' := by
  have HC := Lib.hid hc
  have hgw := hc.lt
  clear hc
  go_enter Tryz.func14, Tryz.ntmps14
  go_wp2_with fail
  refine name_wp (fun W => D g w W ∧ W.heap.size = w.heap.size + 1 ∧ PolicySO w.heap.size W.heap.size W (.slice (some ⟨w.heap.size, 0, none⟩) 0 0) []) ⟨D.alloc (D.refl _ _) hgw _, by simp only [World.size_alloc], own_zero' _ _ _ _ _ rfl (Nat.le_refl _)⟩ ?_
  rintro w0 ⟨d0, z0, hz⟩
  have HZ := Lib.hid hz; clear hz
  go_loopw [5, 6] (fun v i wr => ∃ (k : Nat) (xs : List DPolicy), k ≤ n ∧ i = I k ∧ PolicySO w.heap.size wr.heap.size wr v xs ∧ xs.length = k ∧ D g w wr) (fun _ i _ => n - (intOf i).toNat)
  case atStart => exact ⟨0, [], by omega, rfl, HZ.out, rfl, d0⟩
  case round =>
    obtain ⟨k, xs, hk, rfl, hno, hlk, hd⟩ := hrel
    obtain ⟨av, nv, cv, hvv⟩ := hno.slice
    subst hvv
    obtain ⟨hnv, -⟩ := NO.row hno
    subst hnv
    have HNO := Lib.hid hno; have HLK := Lib.hid hlk; clear hno hlk
    have zr := hd.size
    have hxl : xs.length ≤ k := Nat.le_of_eq HLK.out
    by_cases hlt : k < n
    · have i2 : (k : Int) < (n : Int) := by omega
      go_wp2_with fail
      refine (spec_l12Draw g wr (hd.cur HC.out)).mono ?_
      rintro e w2 ⟨⟨y, rfl⟩, d2⟩
      have z2 := d2.size
      have HN2 := Lib.hid (Own.dUp HNO.out d2 (by omega))
      go_wp2_with (at_builtin; refine hold ?_)
      refine unhold (wpList_appL w.heap.size rfl (.tmp 16) (.tmp 18) _ rfl 63 _ 4 32 Tryz.underlying28 info_Policy rfl (by omega) (.slice av xs.length cv) xs.length (xs.flatMap PolicyC) rfl _ 1 1 _ rfl (by exact (Own.ext HN2.out (w' := (w2.alloc _).alloc _) xe (Nat.le_refl _)).lt_size) (row_one _ _ _ _ _ (by first | rfl | simp) rfl) (one_Policy [y]) (by simp only [World.size_alloc]; omega) (by unfold maxLen; omega) (by omega) ?_)
      intro v8 w8 o8 hg8
      have h57 := (Own.ext HN2.out (w' := (w2.alloc (.cells #[I y.maxLen, I y.denied, I y.closed, I y.life] 63)).alloc (.cells #[I y.maxLen, I y.denied, I y.closed, I y.life] 63)) xe (Nat.le_refl _)).lt_size
      have d8 : D g w w8 := D.grown (w := (w2.alloc (.cells #[I y.maxLen, I y.denied, I y.closed, I y.life] 63)).alloc (.cells #[I y.maxLen, I y.denied, I y.closed, I y.life] 63)) (D.alloc (D.alloc (D.trans hd d2) hgw _) hgw _) hgw hg8 (fun j hj => by have := (h57.1.lt j hj).1; omega)
      have o9 : PolicySO w.heap.size w8.heap.size w8 v8 (xs ++ [y]) := by
        unfold PolicySO
        rw [List.length_append, List.length_singleton, List.flatMap_append]
        exact o8
      have O9 := Lib.hid o9; clear o8 o9 hg8 h57
      go_wp2_with (at_builtin; refine hold ?_)
      go_roundw
      case rel => exact ⟨k + 1, xs ++ [y], by omega, by go_num, O9.out, by (have := HLK.out; simp; omega), d8⟩
      case measure => first | (simp [intOf]; done) | (simp [intOf]; omega)
    · obtain rfl : k = n := by omega
      have i2 : ¬ (k : Int) < (k : Int) := by omega
      go_wp2_with fail
      go_ret
      exact ⟨_, rfl, ⟨xs, HNO.out, HLK.out⟩, hd⟩
/-- A topology whose lists are a call's own, in any order of blocks. -/
def TopoL (lo : Nat) (W : World) (v : Value) (t : DTopology) : Prop := ∃ A0 c0 A1 c1, v = .agg #[.slice A0 t.ases.length c0, .slice A1 t.links.length c1] ∧ ASSO lo W.heap.size W (.slice A0 t.ases.length c0) t.ases ∧ LinkSO lo W.heap.size W (.slice A1 t.links.length c1) t.links
theorem TopoL.d {lo g : Nat} {w w' : World} {v : Value} {t : DTopology} (h : TopoL lo w v t) (hd : D g w w') (hg : g < lo) : TopoL lo w' v t := by
  obtain ⟨A0, c0, A1, c1, e, h0, h1⟩ := h
  exact ⟨A0, c0, A1, c1, e, Own.dUp h0 hd hg, Own.dUp h1 hd hg⟩
theorem TopoL.far {lo : Nat} {w : World} {v : Value} {t : DTopology} (h : TopoL lo w v t) {p : Addr} (hp : p.block < lo) (u : Value) : TopoL lo (w.setCell p u) v t := by
  obtain ⟨A0, c0, A1, c1, e, h0, h1⟩ := h
  refine ⟨A0, c0, A1, c1, e, ?_, ?_⟩
  · simp only [World.size_setCell]; exact Own.setCell h0 (.inl hp) _
  · simp only [World.size_setCell]; exact Own.setCell h1 (.inl hp) _
theorem TopoL.kp {lo m : Nat} {a b : World} {v : Value} {t : DTopology} (h : TopoL lo a v t) (hk : Kp m a b) (hm : m ≤ lo) : TopoL lo b v t := by
  obtain ⟨A0, c0, A1, c1, e, h0, h1⟩ := h
  refine ⟨A0, c0, A1, c1, e, ?_, ?_⟩
  · rw [hk.size]; exact h0.keep fun k h1 _ _ => hk.same k (by omega)
  · rw [hk.size]; exact h1.keep fun k h1 _ _ => hk.same k (by omega)
theorem TopoL.shape {lo : Nat} {w : World} {v : Value} {t : DTopology} (h : TopoL lo w v t) : ∃ A0 c0 A1 c1, v = .agg #[.slice A0 t.ases.length c0, .slice A1 t.links.length c1] := by
  obtain ⟨A0, c0, A1, c1, e, -⟩ := h
  exact ⟨A0, c0, A1, c1, e⟩
end Go.Proofs.YtpkcoinoiaaebaaGreat
namespace Go.Proofs.YtpkcoinoiaaebaaGreat
open Go.RowKit
set_option linter.unusedVariables false
theorem BeaconingO.d {lo hi g : Nat} {w w' : World} {v : Value} {x : DBeaconing} (h : BeaconingO lo hi w v x) (hd : D g w w') (hg : g < lo) : BeaconingO lo hi w' v x := h.keep fun k h1 _ h3 => hd.block h3 (by omega)
theorem BeaconingO.dUp {lo g : Nat} {w w' : World} {v : Value} {x : DBeaconing} (h : BeaconingO lo w.heap.size w v x) (hd : D g w w') (hg : g < lo) : BeaconingO lo w'.heap.size w' v x := (h.d hd hg).more (Nat.le_refl _) hd.size
theorem BeaconingO.kp {lo hi m : Nat} {a b : World} {v : Value} {x : DBeaconing} (h : BeaconingO lo hi a v x) (hk : Kp m a b) (hm : m ≤ lo) (hh : hi ≤ a.heap.size) : BeaconingV b.heap.size b v x :=
  BeaconingO_rd ((h.keep fun k h1 _ _ => hk.same k (by omega)).more (Nat.le_refl _) (by rw [hk.size]; exact hh)) (Nat.le_refl _)
theorem PolicySO.kp {lo hi m : Nat} {a b : World} {v : Value} {t : List DPolicy} (h : PolicySO lo hi a v t) (hk : Kp m a b) (hm : m ≤ lo) (hh : hi ≤ a.heap.size) : PolicyS b.heap.size b v t :=
  PolicySO_rd (Own.more (lo' := lo) (hi' := b.heap.size) (h.keep fun k h1 _ _ => hk.same k (by omega)) (Nat.le_refl _) (by rw [hk.size]; exact hh))
/-- Beacons of one's own, few and short. -/
def BeacF (lo : Nat) (v : Value) (W : World) : Prop := ∃ b, BeaconingO lo W.heap.size W v b ∧ Small b.stores
theorem BeacF.d {lo g : Nat} {v : Value} {W W' : World} (h : BeacF lo v W) (hd : D g W W') (hg : g < lo) : BeacF lo v W' := by
  obtain ⟨x, ho, hx⟩ := h
  exact ⟨x, ho.dUp hd hg, hx⟩
theorem BeacF.vals {lo : Nat} {v : Value} {W : World} (h : BeacF lo v W) : ∃ (ts : Int) (A : Option Addr) (n c : Nat), v = .agg #[I ts, .slice A n c] := by
  obtain ⟨x, ho, -⟩ := h
  obtain ⟨A, n, c, e⟩ := ho.shape
  exact ⟨_, _, _, _, e⟩
end Go.Proofs.YtpkcoinoiaaebaaGreat

