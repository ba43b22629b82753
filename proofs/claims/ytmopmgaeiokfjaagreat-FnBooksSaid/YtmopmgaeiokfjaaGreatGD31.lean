/- Contracts of the reference's draws of policies and of topologies with a thing turned: l12Draw, l12List, l5Any. No conditions. -/
import Derived.Test.YtmopmgaeiokfjaaGreatGD4
import Derived.Test.YtmopmgaeiokfjaaGreatDK
import Derived.Test.YtmopmgaeiokfjaaGreatGHS
import Derived.Test.YtmopmgaeiokfjaaGreatGL13
import Derived.Deep.Cut
import Derived.Test.YtmopmgaeiokfjaaGreatL15b
import Derived.Test.YtmopmgaeiokfjaaGreatL15h
import Derived.Test.YtmopmgaeiokfjaaGreatGP31
set_option maxRecDepth 100000
set_option maxHeartbeats 4000000
namespace Go.Proofs.YtmopmgaeiokfjaaGreat
open Go.RowKit
set_option linter.unusedVariables false
theorem spec_l12Draw (g : Nat) (w : World) (hc : Cur w g) : Calls Tryz.prog 111 #[.pointer (some ⟨g, 0, none⟩)] w fun e w' => (∃ p : DPolicy, e = .returned (.agg #[I p.maxLen, I p.denied, I p.closed, I p.life])) ∧ D g w w' := by
 have HC := Lib.hid hc;have hgw := hc.lt;clear hc
 go_enter Tryz.func111, Tryz.ntmps111
 go_wp2_with fail
 refine name_calls (fun W => Ext w W ∧ W.heap.size = w.heap.size + 1 ∧ Blk W w.heap.size 82 [I 0, I 0, I 0, I 0]) ⟨xe, by simp only [World.size_alloc], xb⟩ ?_;rintro wa ⟨ea, za_, br⟩;obtain ⟨za, za'⟩ := le_both za_;clear za_;have BR := Lib.hid br; clear br;refine (spec_DefaultPolicy wa).mono ?_;rintro e w1 ⟨rfl, e1⟩;have z1 := e1.size;have ew1 : Ext w w1 := Ext.trans ea e1;go_wp2_with fail
 refine name_calls (fun W => D g w W ∧ w1.heap.size < W.heap.size ∧ Blk W w.heap.size 82 [I 0, I 0, I 0, I 0] ∧ ∃ p0 p1 p2 p3 : Int, Blk W w1.heap.size 82 [I p0, I p1, I p2, I p3]) ⟨D.of_ext xe hgw, by simp only [World.size_alloc]; omega, BR.out.ext (w' := w1.alloc (.cells #[I 8, I 0, I 0, I 100] 82)) xe, 8, 0, 0, 100, xb⟩ ?_;rintro w2 ⟨d2, z2, br2, p2_0, p2_1, p2_2, p2_3, bp2⟩;have BR2 := Lib.hid br2; have BP2 := Lib.hid bp2; clear br2 bp2
 have nb1 : ¬ w.heap.size = w1.heap.size := by omega
 have nb2 : ¬ w1.heap.size = w.heap.size := by omega
 refine (spec_l1Once g 2 w2 (d2.cur HC.out) (by omega)).mono ?_;rintro e w3 ⟨b3, rfl, e3⟩;have z3 := e3.size;have d3 : D g w w3 := D.trans d2 e3;have BR3 := Lib.hid (BR2.out.d e3 (by omega)); have BP3 := Lib.hid (BP2.out.d e3 (by omega));cases b3
 · go_wp2_with fail
   refine (spec_l1Below g 7 w3 (d3.cur HC.out) (by omega)).mono ?_;rintro e w4 ⟨x4, rfl, ⟨x4a, x4b, -⟩, e4⟩;have x4b := x4b (by omega);have hw4 : wrap64 (1 + x4) = 1 + x4 := IntWalk.wrap64_in _ (by omega)
   have hx4 : (0 : Int) ≤ 1 + x4 := by omega
   have z4 := e4.size;have d4 : D g w w4 := D.trans d3 e4;have BR4 := Lib.hid (BR3.out.d e4 (by omega)); have BP4 := Lib.hid (BP3.out.d e4 (by omega));have bp := BP4.out.ext (w' := w4) xe;have lbp := bp.lt;obtain ⟨qbp_0, qbp_1, qbp_2, qbp_3⟩ := blk4 bp;have fbp_0 := bp.frozen 0;have fbp_1 := bp.frozen 1;have fbp_2 := bp.frozen 2;have fbp_3 := bp.frozen 3;clear bp;go_wp2_with fail
   refine name_calls (fun W => D g w W ∧ w1.heap.size < W.heap.size ∧ Blk W w.heap.size 82 [I 0, I 0, I 0, I 0] ∧ ∃ p0 p1 p2 p3 : Int, Blk W w1.heap.size 82 [I p0, I p1, I p2, I p3]) ⟨D.setNew d4 hgw (by dsimp only; omega) _, by simp only [World.size_setCell]; omega, BR4.out.far (by dsimp only; omega) _, _, p2_1, p2_2, p2_3, BP4.out.set_ 0 _⟩ ?_;clear lbp qbp_0 qbp_1 qbp_2 qbp_3 fbp_0 fbp_1 fbp_2 fbp_3;rintro w5 ⟨d5, z5, br5, p5_0, p5_1, p5_2, p5_3, bp5⟩;have BR5 := Lib.hid br5; have BP5 := Lib.hid bp5; clear br5 bp5;refine (spec_l1Below g 100 w5 (d5.cur HC.out) (by omega)).mono ?_;rintro e w6 ⟨x6, rfl, ⟨x6a, x6b, -⟩, e6⟩;have x6b := x6b (by omega);have hw6 : wrap64 (1 + x6) = 1 + x6 := IntWalk.wrap64_in _ (by omega)
   have hx6 : (0 : Int) ≤ 1 + x6 := by omega
   have z6 := e6.size;have d6 : D g w w6 := D.trans d5 e6;have BR6 := Lib.hid (BR5.out.d e6 (by omega)); have BP6 := Lib.hid (BP5.out.d e6 (by omega));have bp := BP6.out.ext (w' := w6) xe;have lbp := bp.lt;obtain ⟨qbp_0, qbp_1, qbp_2, qbp_3⟩ := blk4 bp;have fbp_0 := bp.frozen 0;have fbp_1 := bp.frozen 1;have fbp_2 := bp.frozen 2;have fbp_3 := bp.frozen 3;clear bp;go_wp2_with fail
   refine name_calls (fun W => D g w W ∧ w1.heap.size < W.heap.size ∧ Blk W w.heap.size 82 [I 0, I 0, I 0, I 0] ∧ ∃ p0 p1 p2 p3 : Int, Blk W w1.heap.size 82 [I p0, I p1, I p2, I p3]) ⟨D.setNew d6 hgw (by dsimp only; omega) _, by simp only [World.size_setCell]; omega, BR6.out.far (by dsimp only; omega) _, p5_0, p5_1, p5_2, _, BP6.out.set_ 3 _⟩ ?_;clear lbp qbp_0 qbp_1 qbp_2 qbp_3 fbp_0 fbp_1 fbp_2 fbp_3;rintro w7 ⟨d7, z7, br7, p7_0, p7_1, p7_2, p7_3, bp7⟩;have BR7 := Lib.hid br7; have BP7 := Lib.hid bp7; clear br7 bp7;refine (spec_l1Once g 3 w7 (d7.cur HC.out) (by omega)).mono ?_;rintro e w8 ⟨b8, rfl, e8⟩;have z8 := e8.size;have d8 : D g w w8 := D.trans d7 e8;have BR8 := Lib.hid (BR7.out.d e8 (by omega)); have BP8 := Lib.hid (BP7.out.d e8 (by omega));cases b8
   · go_wp2_with fail
     refine (spec_l1Once g 3 w8 (d8.cur HC.out) (by omega)).mono ?_;rintro e w9 ⟨b9, rfl, e9⟩;have z9 := e9.size;have d9 : D g w w9 := D.trans d8 e9;have BR9 := Lib.hid (BR8.out.d e9 (by omega)); have BP9 := Lib.hid (BP8.out.d e9 (by omega));cases b9
     · skip
       have bp := BP9.out.ext (w' := w9) xe;have lbp := bp.lt;obtain ⟨qbp_0, qbp_1, qbp_2, qbp_3⟩ := blk4 bp;have fbp_0 := bp.frozen 0;have fbp_1 := bp.frozen 1;have fbp_2 := bp.frozen 2;have fbp_3 := bp.frozen 3;clear bp;have br := BR9.out.ext (w' := w9) xe;have lbr := br.lt;obtain ⟨qbr_0, qbr_1, qbr_2, qbr_3⟩ := blk4 br;have fbr_0 := br.frozen 0;have fbr_1 := br.frozen 1;have fbr_2 := br.frozen 2;have fbr_3 := br.frozen 3;clear br;go_wp2_with fail
       refine bodyPost_ret (v := .agg #[I p7_0, I p7_1, I p7_2, I p7_3]) (by simp [results, Tryz.results111, go_sem, *]) rfl ⟨⟨⟨p7_0, p7_1, p7_2, p7_3⟩, rfl⟩, ?_⟩;exact D.setNew (D.setNew (D.setNew (D.setNew d9 hgw (by dsimp only; omega) _) hgw (by dsimp only; omega) _) hgw (by dsimp only; omega) _) hgw (by dsimp only; omega) _
     · go_wp2_with fail
       refine (spec_l1Below g 6 w9 (d9.cur HC.out) (by omega)).mono ?_;rintro e w10 ⟨x10, rfl, ⟨x10a, x10b, -⟩, e10⟩;have x10b := x10b (by omega);have hw10 : wrap64 (1 + x10) = 1 + x10 := IntWalk.wrap64_in _ (by omega)
       have hx10 : (0 : Int) ≤ 1 + x10 := by omega
       have z10 := e10.size;have d10 : D g w w10 := D.trans d9 e10;have BR10 := Lib.hid (BR9.out.d e10 (by omega)); have BP10 := Lib.hid (BP9.out.d e10 (by omega));have bp := BP10.out.ext (w' := w10) xe;have lbp := bp.lt;obtain ⟨qbp_0, qbp_1, qbp_2, qbp_3⟩ := blk4 bp;have fbp_0 := bp.frozen 0;have fbp_1 := bp.frozen 1;have fbp_2 := bp.frozen 2;have fbp_3 := bp.frozen 3;clear bp;have br := BR10.out.ext (w' := w10) xe;have lbr := br.lt;obtain ⟨qbr_0, qbr_1, qbr_2, qbr_3⟩ := blk4 br;have fbr_0 := br.frozen 0;have fbr_1 := br.frozen 1;have fbr_2 := br.frozen 2;have fbr_3 := br.frozen 3;clear br;go_wp2_with fail
       refine bodyPost_ret (v := .agg #[I p7_0, I p7_1, I (wrap64 (2 ^ (1 + x10).toNat)), I p7_3]) (by simp [results, Tryz.results111, go_sem, *]) rfl ⟨⟨⟨p7_0, p7_1, wrap64 (2 ^ (1 + x10).toNat), p7_3⟩, rfl⟩, ?_⟩;exact D.setNew (D.setNew (D.setNew (D.setNew (D.setNew d10 hgw (by dsimp only; omega) _) hgw (by dsimp only; omega) _) hgw (by dsimp only; omega) _) hgw (by dsimp only; omega) _) hgw (by dsimp only; omega) _
   · go_wp2_with fail
     refine (spec_l1Below g 8 w8 (d8.cur HC.out) (by omega)).mono ?_;rintro e w9 ⟨x9, rfl, ⟨x9a, x9b, -⟩, e9⟩;have x9b := x9b (by omega);have hw9 : wrap64 (1 + x9) = 1 + x9 := IntWalk.wrap64_in _ (by omega)
     have hx9 : (0 : Int) ≤ 1 + x9 := by omega
     have z9 := e9.size;have d9 : D g w w9 := D.trans d8 e9;have BR9 := Lib.hid (BR8.out.d e9 (by omega)); have BP9 := Lib.hid (BP8.out.d e9 (by omega));have bp := BP9.out.ext (w' := w9) xe;have lbp := bp.lt;obtain ⟨qbp_0, qbp_1, qbp_2, qbp_3⟩ := blk4 bp;have fbp_0 := bp.frozen 0;have fbp_1 := bp.frozen 1;have fbp_2 := bp.frozen 2;have fbp_3 := bp.frozen 3;clear bp;go_wp2_with fail
     refine name_calls (fun W => D g w W ∧ w1.heap.size < W.heap.size ∧ Blk W w.heap.size 82 [I 0, I 0, I 0, I 0] ∧ ∃ p0 p1 p2 p3 : Int, Blk W w1.heap.size 82 [I p0, I p1, I p2, I p3]) ⟨D.setNew d9 hgw (by dsimp only; omega) _, by simp only [World.size_setCell]; omega, BR9.out.far (by dsimp only; omega) _, p7_0, _, p7_2, p7_3, BP9.out.set_ 1 _⟩ ?_;clear lbp qbp_0 qbp_1 qbp_2 qbp_3 fbp_0 fbp_1 fbp_2 fbp_3;rintro w10 ⟨d10, z10, br10, p10_0, p10_1, p10_2, p10_3, bp10⟩;have BR10 := Lib.hid br10; have BP10 := Lib.hid bp10; clear br10 bp10;refine (spec_l1Once g 3 w10 (d10.cur HC.out) (by omega)).mono ?_;rintro e w11 ⟨b11, rfl, e11⟩;have z11 := e11.size;have d11 : D g w w11 := D.trans d10 e11;have BR11 := Lib.hid (BR10.out.d e11 (by omega)); have BP11 := Lib.hid (BP10.out.d e11 (by omega));cases b11
     · skip
       have bp := BP11.out.ext (w' := w11) xe;have lbp := bp.lt;obtain ⟨qbp_0, qbp_1, qbp_2, qbp_3⟩ := blk4 bp;have fbp_0 := bp.frozen 0;have fbp_1 := bp.frozen 1;have fbp_2 := bp.frozen 2;have fbp_3 := bp.frozen 3;clear bp;have br := BR11.out.ext (w' := w11) xe;have lbr := br.lt;obtain ⟨qbr_0, qbr_1, qbr_2, qbr_3⟩ := blk4 br;have fbr_0 := br.frozen 0;have fbr_1 := br.frozen 1;have fbr_2 := br.frozen 2;have fbr_3 := br.frozen 3;clear br;go_wp2_with fail
       refine bodyPost_ret (v := .agg #[I p10_0, I p10_1, I p10_2, I p10_3]) (by simp [results, Tryz.results111, go_sem, *]) rfl ⟨⟨⟨p10_0, p10_1, p10_2, p10_3⟩, rfl⟩, ?_⟩;exact D.setNew (D.setNew (D.setNew (D.setNew d11 hgw (by dsimp only; omega) _) hgw (by dsimp only; omega) _) hgw (by dsimp only; omega) _) hgw (by dsimp only; omega) _
     · go_wp2_with fail
       refine (spec_l1Below g 6 w11 (d11.cur HC.out) (by omega)).mono ?_;rintro e w12 ⟨x12, rfl, ⟨x12a, x12b, -⟩, e12⟩;have x12b := x12b (by omega);have hw12 : wrap64 (1 + x12) = 1 + x12 := IntWalk.wrap64_in _ (by omega)
       have hx12 : (0 : Int) ≤ 1 + x12 := by omega
       have z12 := e12.size;have d12 : D g w w12 := D.trans d11 e12;have BR12 := Lib.hid (BR11.out.d e12 (by omega)); have BP12 := Lib.hid (BP11.out.d e12 (by omega));have bp := BP12.out.ext (w' := w12) xe;have lbp := bp.lt;obtain ⟨qbp_0, qbp_1, qbp_2, qbp_3⟩ := blk4 bp;have fbp_0 := bp.frozen 0;have fbp_1 := bp.frozen 1;have fbp_2 := bp.frozen 2;have fbp_3 := bp.frozen 3;clear bp;have br := BR12.out.ext (w' := w12) xe;have lbr := br.lt;obtain ⟨qbr_0, qbr_1, qbr_2, qbr_3⟩ := blk4 br;have fbr_0 := br.frozen 0;have fbr_1 := br.frozen 1;have fbr_2 := br.frozen 2;have fbr_3 := br.frozen 3;clear br;go_wp2_with fail
       refine bodyPost_ret (v := .agg #[I p10_0, I p10_1, I (wrap64 (2 ^ (1 + x12).toNat)), I p10_3]) (by simp [results, Tryz.results111, go_sem, *]) rfl ⟨⟨⟨p10_0, p10_1, wrap64 (2 ^ (1 + x12).toNat), p10_3⟩, rfl⟩, ?_⟩;exact D.setNew (D.setNew (D.setNew (D.setNew (D.setNew d12 hgw (by dsimp only; omega) _) hgw (by dsimp only; omega) _) hgw (by dsimp only; omega) _) hgw (by dsimp only; omega) _) hgw (by dsimp only; omega) _
 · skip
   have bp := BP3.out.ext (w' := w3) xe;have lbp := bp.lt;obtain ⟨qbp_0, qbp_1, qbp_2, qbp_3⟩ := blk4 bp;have fbp_0 := bp.frozen 0;have fbp_1 := bp.frozen 1;have fbp_2 := bp.frozen 2;have fbp_3 := bp.frozen 3;clear bp;have br := BR3.out.ext (w' := w3) xe;have lbr := br.lt;obtain ⟨qbr_0, qbr_1, qbr_2, qbr_3⟩ := blk4 br;have fbr_0 := br.frozen 0;have fbr_1 := br.frozen 1;have fbr_2 := br.frozen 2;have fbr_3 := br.frozen 3;clear br;go_wp2_with fail
   refine bodyPost_ret (v := .agg #[I p2_0, I p2_1, I p2_2, I p2_3]) (by simp [results, Tryz.results111, go_sem, *]) rfl ⟨⟨⟨p2_0, p2_1, p2_2, p2_3⟩, rfl⟩, ?_⟩;exact D.setNew (D.setNew (D.setNew (D.setNew d3 hgw (by dsimp only; omega) _) hgw (by dsimp only; omega) _) hgw (by dsimp only; omega) _) hgw (by dsimp only; omega) _
theorem spec_l12List (g n : Nat) (w : World) (hc : Cur w g) (hn : n ≤ 100) : Calls Tryz.prog 72 #[.pointer (some ⟨g, 0, none⟩), I (n : Int)] w fun e w' => ∃ v', e = .returned v' ∧ (∃ l : List DPolicy, PolicySO w.heap.size w'.heap.size w' v' l ∧ l.length = n) ∧ D g w w' := by
 have HC := Lib.hid hc;have hgw := hc.lt;clear hc
 go_enter Tryz.func72, Tryz.ntmps72
 go_wp2_with fail
 refine name_wp (fun W => D g w W ∧ W.heap.size = w.heap.size + 1 ∧ PolicySO w.heap.size W.heap.size W (.slice (some ⟨w.heap.size, 0, none⟩) 0 0) []) ⟨D.alloc (D.refl _ _) hgw _, by simp only [World.size_alloc], own_zero' _ _ _ _ _ rfl (Nat.le_refl _)⟩ ?_;rintro w0 ⟨d0, z0, hz⟩;have HZ := Lib.hid hz; clear hz
 go_loopw [5, 6] (fun v i wr => ∃ (k : Nat) (xs : List DPolicy), k ≤ n ∧ i = I k ∧ PolicySO w.heap.size wr.heap.size wr v xs ∧ xs.length = k ∧ D g w wr) (fun _ i _ => n - (intOf i).toNat)
 case atStart => exact ⟨0, [], by omega, rfl, HZ.out, rfl, d0⟩
 case round =>
  obtain ⟨k, xs, hk, rfl, hno, hlk, hd⟩ := hrel;obtain ⟨av, nv, cv, hvv⟩ := hno.slice;subst hvv;obtain ⟨hnv, -⟩ := NO.row hno;subst hnv;have HNO := Lib.hid hno; have HLK := Lib.hid hlk; clear hno hlk;have zr := hd.size;have hxl : xs.length ≤ k := Nat.le_of_eq HLK.out;by_cases hlt : k < n
  · have i2 : (k : Int) < (n : Int) := by omega
    go_wp2_with fail
    refine (spec_l12Draw g wr (hd.cur HC.out)).mono ?_;rintro e w2 ⟨⟨y, rfl⟩, d2⟩;have z2 := d2.size;have HN2 := Lib.hid (Own.dUp HNO.out d2 (by omega));go_wp2_with (at_builtin; refine hold ?_)
    refine unhold (wpList_appL w.heap.size rfl (.tmp 16) (.tmp 18) _ rfl 82 _ 4 32 Tryz.underlying37 info_Policy rfl (by omega) (.slice av xs.length cv) xs.length (xs.flatMap PolicyC) rfl _ 1 1 _ rfl (by exact (Own.ext HN2.out (w' := (w2.alloc _).alloc _) xe (Nat.le_refl _)).lt_size) (row_one _ _ _ _ _ (by first | rfl | simp) rfl) (one_Policy [y]) (by simp only [World.size_alloc]; omega) (by unfold maxLen; omega) (by omega) ?_);intro v8 w8 o8 hg8;have h57 := (Own.ext HN2.out (w' := (w2.alloc (.cells #[I y.maxLen, I y.denied, I y.closed, I y.life] 82)).alloc (.cells #[I y.maxLen, I y.denied, I y.closed, I y.life] 82)) xe (Nat.le_refl _)).lt_size;have d8 : D g w w8 := D.grown (w := (w2.alloc (.cells #[I y.maxLen, I y.denied, I y.closed, I y.life] 82)).alloc (.cells #[I y.maxLen, I y.denied, I y.closed, I y.life] 82)) (D.alloc (D.alloc (D.trans hd d2) hgw _) hgw _) hgw hg8 (fun j hj => by have := (h57.1.lt j hj).1; omega)
    have o9 : PolicySO w.heap.size w8.heap.size w8 v8 (xs ++ [y]) := by
     unfold PolicySO;rw [List.length_append, List.length_singleton, List.flatMap_append];exact o8
    have O9 := Lib.hid o9; clear o8 o9 hg8 h57;go_wp2_with (at_builtin; refine hold ?_)
    go_roundw
    case rel => exact ⟨k + 1, xs ++ [y], by omega, by go_num, O9.out, by (have := HLK.out; simp; omega), d8⟩
    case measure => first | (simp [intOf]; done) | (simp [intOf]; omega)
  · obtain rfl : k = n := by omega
    have i2 : ¬ (k : Int) < (k : Int) := by omega
    go_wp2_with fail
    go_ret
    exact ⟨_, rfl, ⟨xs, HNO.out, HLK.out⟩, hd⟩
theorem BeaconingO.d {lo hi g : Nat} {w w' : World} {v : Value} {x : DBeaconing} (h : BeaconingO lo hi w v x) (hd : D g w w') (hg : g < lo) : BeaconingO lo hi w' v x := h.keep fun k h1 _ h3 => hd.block h3 (by omega)
theorem BeaconingO.dUp {lo g : Nat} {w w' : World} {v : Value} {x : DBeaconing} (h : BeaconingO lo w.heap.size w v x) (hd : D g w w') (hg : g < lo) : BeaconingO lo w'.heap.size w' v x := (h.d hd hg).more (Nat.le_refl _) hd.size
theorem BeaconingO.kp {lo hi m : Nat} {a b : World} {v : Value} {x : DBeaconing} (h : BeaconingO lo hi a v x) (hk : Kp m a b) (hm : m ≤ lo) (hh : hi ≤ a.heap.size) : BeaconingV b.heap.size b v x :=
 BeaconingO_rd ((h.keep fun k h1 _ _ => hk.same k (by omega)).more (Nat.le_refl _) (by rw [hk.size]; exact hh)) (Nat.le_refl _)
theorem PolicySO.kp {lo hi m : Nat} {a b : World} {v : Value} {t : List DPolicy} (h : PolicySO lo hi a v t) (hk : Kp m a b) (hm : m ≤ lo) (hh : hi ≤ a.heap.size) : PolicyS b.heap.size b v t :=
 PolicySO_rd (Own.more (lo' := lo) (hi' := b.heap.size) (h.keep fun k h1 _ _ => hk.same k (by omega)) (Nat.le_refl _) (by rw [hk.size]; exact hh))
def BeacF (lo : Nat) (v : Value) (W : World) : Prop := ∃ b, BeaconingO lo W.heap.size W v b ∧ Small b.stores
theorem BeacF.d {lo g : Nat} {v : Value} {W W' : World} (h : BeacF lo v W) (hd : D g W W') (hg : g < lo) : BeacF lo v W' := by
 obtain ⟨x, ho, hx⟩ := h;exact ⟨x, ho.dUp hd hg, hx⟩
theorem BeacF.vals {lo : Nat} {v : Value} {W : World} (h : BeacF lo v W) : ∃ (ts : Int) (A : Option Addr) (n c : Nat), v = .agg #[I ts, .slice A n c] := by
 obtain ⟨x, ho, -⟩ := h;obtain ⟨A, n, c, e⟩ := ho.shape;exact ⟨_, _, _, _, e⟩
theorem spec_l15Draw (g : Nat) (w : World) (hc : Cur w g) : Calls Tryz.prog 37 #[.pointer (some ⟨g, 0, none⟩)] w fun e w' => (∃ vt vl vx, e = .returned (.tuple #[vt, vl, vx]) ∧ ∃ t l b, TopologyO w.heap.size w'.heap.size w' vt t ∧ DrawnTopo t ∧ PolicySO w.heap.size w'.heap.size w' vl l ∧ l.length = t.ases.length ∧ BeaconingO w.heap.size w'.heap.size w' vx b ∧ Small b.stores) ∧ D g w w' := by
 have HC := Lib.hid hc;have hgw := hc.lt;clear hc
 go_enter Tryz.func37, Tryz.ntmps37
 go_wp2_with fail
 refine name_calls (fun W => D g w W ∧ W.heap.size = w.heap.size + 1 + 1 ∧ Blk W w.heap.size 27 [.slice none 0 0, .slice none 0 0] ∧ Blk W (w.heap.size + 1) 40 [I 0, .slice none 0 0]) ⟨xd, by simp only [World.size_alloc], xb, xb⟩ ?_;rintro wa ⟨da, za_, br0, br1⟩;obtain ⟨za, za'⟩ := le_both za_;clear za_;have B0 := Lib.hid br0; have B1 := Lib.hid br1; clear br0 br1;have HCA := Lib.hid (da.cur HC.out);refine (spec_l5Draw g wa HCA.out).mono ?_;rintro e w2 ⟨v1, rfl, ⟨t, ot, hdt⟩, d2⟩;have z2 := d2.size;obtain ⟨At_0, nt_0, ct_0, At_1, nt_1, ct_1, rfl, st_0, st_1⟩ := ot.v;obtain ⟨lt_0, kt_0, mt_0⟩ := st_0.len;subst lt_0;have OT := Lib.hid ot; have HDT := Lib.hid hdt; clear ot st_0 st_1;have ht8 : t.ases.length ≤ 8 := hdt.2.1;clear hdt;go_wp2_with fail
 refine name_calls (fun W => Ext w2 W ∧ W.heap.size = w2.heap.size + 1 ∧ Blk W w2.heap.size 27 [.slice At_0 t.ases.length ct_0, .slice At_1 nt_1 ct_1]) ⟨xe, by simp only [World.size_alloc], xb⟩ ?_;rintro wx ⟨ex, zx_, b5⟩;obtain ⟨zx, zx'⟩ := le_both zx_;clear zx_;have BTX := Lib.hid b5; clear b5;have dax : D g wa wx := D.trans d2 (D.of_ext ex (by omega));have OTX := Lib.hid (OT.out.ext ex (Nat.le_refl _));refine (spec_l12List g t.ases.length wx (dax.cur HCA.out) (by omega)).mono ?_;rintro e w3 ⟨v3, rfl, ⟨l, ol, hll⟩, d3⟩;obtain ⟨Al, nl, cl, rfl⟩ := ol.slice;have OL := Lib.hid ol; clear ol;have z3 := d3.size;have da3 : D g wa w3 := D.trans dax d3;have BT3 := Lib.hid (BTX.out.d d3 (by omega));have OT3 := Lib.hid (OTX.out.d d3 (by omega));have HC3 := Lib.hid (da3.cur HCA.out)
 have hg3 : g < w3.heap.size := by omega
 have nb0 : ¬ w2.heap.size = g := by omega
 have b4_ := BT3.out.ext (w' := w3) xe;have lb4_ := b4_.lt;obtain ⟨qb4__0, qb4__1⟩ := blk2 b4_;have fb4__0 := b4_.frozen 0;have fb4__1 := b4_.frozen 1;clear b4_;go_wp2_with fail
 refine wp_region_LT 5 (E := D g) (w0 := w3) (G := fun τ => match τ with | 7 => some (fun v W => Zero1 40 w3.heap.size [I 0, .slice none 0 0] v W) | 18 => some (fun v W => ∃ x : Int, v = I x) | 19 => some (fun v W => BeacF w3.heap.size v W) | _ => none) (D.refl g) (fun h k => D.trans h k) (by kernel_rfl) (by kernel_rfl) (by kernel_rfl) (by kernel_rfl) (by kernel_rfl) (by kernel_rfl) (by intro t φ hG; split at hG; all_goals first | (cases hG; done) | (cases Option.some.inj hG; intro v W W' hE hv; first | exact hv | exact hv.d hE (by omega) | (obtain ⟨y, hy⟩ := hv; exact ⟨y, Fresh1.d hy hE (by omega)⟩))) (D.drew (by exact D.refl _ _)) ?_;simp only [List.take_succ_cons, List.take_zero]
 repeat' (first
  | ((with_reducible refine wpL_skip ?_ ?_ ?_)
     · rfl
     · rfl
     simp only [putS])
  | ((with_reducible refine wpL_quiet ?_ ?_ ?_ ?_)
     · rfl
     · rfl
     · rfl
     apply Exists.intro
     refine ⟨fun W hW hS => ?_, ?_⟩
     · have hC := (D.facts hW).1
       go_simp
       first | done | (with_reducible rfl) | (rw [if_neg (by omega)]; exact ⟨rfl, rfl⟩) | rfl
     first | (with_reducible refine wpL_boolT ?_) | (with_reducible refine wpL_boolF ?_) | (with_reducible refine wpL_bool (fun hB => ?_) (fun hB => ?_)) | skip
     all_goals simp only [putS])
  | ((refine wpL_grow ?_ rfl rfl ?_ ?_)
     · rfl
     · intro W hW hS
       have hC := (D.facts hW).1;unfold growAt
       go_simp
       simp only [growUpon]
       first | (exact ⟨D.of_ext ((Ext.refl _).alloc _) (Nat.lt_of_lt_of_le hg3 hW.size), ⟨_, rfl, hW.size, Blk.new _ _ _⟩⟩) | (go_at_call 38; (with_reducible refine Calls.mono (spec_l1Below g 30 _ (hW.cur HC3.out) (by omega)) ?_); rintro e w9 ⟨x, rfl, hx, d9⟩; exact ⟨_, rfl, d9, ⟨x, rfl⟩⟩) | (go_at_call 73; (with_reducible refine Calls.mono (spec_NewBeaconing _ x18 t _ (by exact TopologyO_rd (OT3.out.d hW (by omega)) (by have h5 := D.size hW; omega))) ?_); rintro e w9_ ⟨v9, rfl, o9, e9⟩; exact ⟨_, rfl, D.of_ext e9 (by have h5 := D.size hW; omega), ⟨_, BeaconingO.more o9 (D.size hW) (Nat.le_refl _), newBeac_small t x18⟩⟩)
     intro v W' hW' hv
     first | ((with_reducible refine intro_at 7 _ ?_); obtain ⟨g7, rfl, hg7, hb7⟩ := hv) | ((with_reducible refine intro_at 18 _ ?_); obtain ⟨x18, rfl⟩ := hv) | (obtain ⟨ts4, A4, n4, c4, rfl⟩ := BeacF.vals hv) | (obtain ⟨A5, n5, c5, rfl, -⟩ := id hv; clear hv) | (obtain ⟨A5, n5, c5, rfl⟩ := NO.slice hv) | skip
     all_goals simp only [putS]))
 refine wpL_nil (fun w4 e4 hL => ?_);obtain ⟨b0, ob0, sb0⟩ : BeacF w3.heap.size (.agg #[I ts4, .slice A4 n4 c4]) w4 := hL 19;obtain ⟨gb, hvb, hgb, hbb⟩ : Zero1 40 w3.heap.size [I 0, .slice none 0 0] _ w4 := hL 7;cases hvb;clear hL lb4_ qb4__0 qb4__1 fb4__0 fb4__1;have OB := Lib.hid ob0; have SB := Lib.hid sb0; have HBB := Lib.hid hbb; clear ob0 sb0 hbb;have z4 := e4.size;have gb4 := HBB.out.lt;have b7_ := HBB.out.ext (w' := w4) xe;have lb7_ := b7_.lt;obtain ⟨qb7__0, qb7__1⟩ := blk2 b7_;have fb7__0 := b7_.frozen 0;have fb7__1 := b7_.frozen 1;clear b7_;simp only [List.drop_succ_cons, List.drop_zero];go_wp2_with fail
 refine name_calls (fun W => D g w3 W ∧ W.heap.size = w4.heap.size ∧ Blk W g7 40 [I ts4, .slice A4 n4 c4] ∧ BeaconingO w3.heap.size w4.heap.size W (.agg #[I ts4, .slice A4 n4 c4]) b0) ⟨D.setNew (D.setNew e4 hg3 (by dsimp only; omega) _) hg3 (by dsimp only; omega) _, by simp only [World.size_setCell], by simpa using (HBB.out.set_ 0 (I ts4)).set_ 1 (.slice A4 n4 c4), BeaconingO.setT (BeaconingO.setT OB.out HBB.out 0 _) (HBB.out.set_ 0 _) 1 _⟩ ?_;clear lb7_ qb7__0 qb7__1 fb7__0 fb7__1;rintro w5 ⟨d35, z5_, b7, ob5⟩;obtain ⟨z5, z5'⟩ := le_both z5_;clear z5_;have B7 := Lib.hid b7; have OB5 := Lib.hid ob5; clear b7 ob5;refine (spec_l1Below g 4 w5 (d35.cur HC3.out) (by omega)).mono ?_;rintro e w6 ⟨x6, rfl, ⟨x6a, x6b, -⟩, d6⟩;have x6b := x6b (by omega)
 obtain ⟨c6, rfl⟩ : ∃ c : Nat, x6 = (c : Int) := ⟨x6.toNat, by omega⟩
 have z6 := d6.size
 have nb1 : ¬ g7 = g := by omega
 go_wp2_with fail
 go_loopw [8] (fun i wr => ∃ (k : Nat) (y : DBeaconing) (yt : Int) (yA : Option Addr) (yn yc : Nat), k ≤ 3 ∧ i = I k ∧ Blk wr g7 40 [I yt, .slice yA yn yc] ∧ BeaconingO w3.heap.size wr.heap.size wr (.agg #[I yt, .slice yA yn yc]) y ∧ Small y.stores ∧ D g w3 wr) (fun i _ => (intOf i).toNat)
 case atStart => exact ⟨c6, b0, ts4, A4, n4, c4, by omega, rfl, B7.out.d d6 (by omega), (OB5.out.d d6 (by omega)).more (Nat.le_refl _) (by omega), SB.out, D.trans d35 d6⟩
 case round =>
  obtain ⟨k, y, yt, yA, yn, yc, hk, rfl, hb, hy, hs, hd⟩ := hrel;have HB7 := Lib.hid hb; have HY := Lib.hid hy; have HS := Lib.hid hs; clear hb hy hs;have zr := hd.size;have d3r : D g w3 wr := hd;have BTr := Lib.hid (BT3.out.d d3r (by omega)); have OTr := Lib.hid (OT3.out.d d3r (by omega)); have OLr := Lib.hid (Own.dUp OL.out d3r (by omega));have b4_ := BTr.out.ext (w' := wr) xe;have lb4_ := b4_.lt;obtain ⟨qb4__0, qb4__1⟩ := blk2 b4_;have fb4__0 := b4_.frozen 0;have fb4__1 := b4_.frozen 1;clear b4_;have b7_ := HB7.out.ext (w' := wr) xe;have lb7_ := b7_.lt;obtain ⟨qb7__0, qb7__1⟩ := blk2 b7_;have fb7__0 := b7_.frozen 0;have fb7__1 := b7_.frozen 1;clear b7_;by_cases hk0 : 0 < k
  · obtain ⟨km, rfl⟩ : ∃ km : Nat, k = km + 1 := ⟨k - 1, by omega⟩
    have i2 : (0 : Int) < ((km + 1 : Nat) : Int) := by omega
    have hst := small_tot HS.out;have HSR := Lib.hid (runRound_small (t := t) (l := l) HS.out);go_wp2_with fail
    refine (spec_RunBeaconRound _ _ _ t l y wr (by exact TopologyO_rd OTr.out (by omega)) (by exact PolicySO_rd OLr.out) (by exact BeaconingO_rd HY.out (Nat.le_refl _)) (by omega)).mono ?_;rintro e w7 ⟨v7, rfl, o7, e7⟩
    generalize runRound t l y = y7 at *
    obtain ⟨A7, n7, c7, hv7⟩ := o7.shape;subst hv7;have O7 := Lib.hid o7; clear o7;have z7 := e7.size;have HB8 := Lib.hid (HB7.out.ext e7);clear lb4_ qb4__0 qb4__1 fb4__0 fb4__1 lb7_ qb7__0 qb7__1 fb7__0 fb7__1;have b7_ := HB8.out.ext (w' := w7) xe;have lb7_ := b7_.lt;obtain ⟨qb7__0, qb7__1⟩ := blk2 b7_;have fb7__0 := b7_.frozen 0;have fb7__1 := b7_.frozen 1;clear b7_;go_wp2_with fail
    go_roundw
    case rel =>
     exact ⟨km, y7, y7.ts, A7, n7, c7, by omega, by go_num, by simpa using (HB8.out.set_ 0 (I y7.ts)).set_ 1 (.slice A7 n7 c7), by simp only [World.size_setCell]; exact BeaconingO.setT (BeaconingO.setT (BeaconingO.more O7.out (by omega) (Nat.le_refl _)) HB8.out 0 (I y7.ts)) (HB8.out.set_ 0 (I y7.ts)) 1 (.slice A7 n7 c7), HSR.out, D.setNew (D.setNew (D.trans hd (D.of_ext e7 (by omega))) (by omega) (by dsimp only; omega) _) (by omega) (by dsimp only; omega) _⟩
    case measure => first | (simp [intOf]; done) | (simp [intOf]; omega)
  · obtain rfl : k = 0 := by omega
    have i2 : ¬ (0 : Int) < ((0 : Nat) : Int) := by omega
    have dar : D g wa wr := D.trans da3 d3r;have B0r := Lib.hid (B0.out.d dar (by omega)); have B1r := Lib.hid (B1.out.d dar (by omega))
    have nb2 : ¬ w2.heap.size = w.heap.size := by omega
    have nb3 : ¬ w.heap.size = w2.heap.size := by omega
    have nb4 : ¬ w2.heap.size = w.heap.size + 1 := by omega
    have nb5 : ¬ w.heap.size + 1 = w2.heap.size := by omega
    have nb6 : ¬ g7 = w.heap.size := by omega
    have nb7 : ¬ w.heap.size = g7 := by omega
    have nb8 : ¬ g7 = w.heap.size + 1 := by omega
    have nb9 : ¬ w.heap.size + 1 = g7 := by omega
    have c0_ := B0r.out.ext (w' := wr) xe;have lc0_ := c0_.lt;obtain ⟨qc0__0, qc0__1⟩ := blk2 c0_;have fc0__0 := c0_.frozen 0;have fc0__1 := c0_.frozen 1;clear c0_;have c1_ := B1r.out.ext (w' := wr) xe;have lc1_ := c1_.lt;obtain ⟨qc1__0, qc1__1⟩ := blk2 c1_;have fc1__0 := c1_.frozen 0;have fc1__1 := c1_.frozen 1;clear c1_;go_wp2_with fail
    go_region
    all_goals
     go_wp2_with fail
     refine bodyPost_ret (v := .tuple #[.agg #[.slice At_0 t.ases.length ct_0, .slice At_1 nt_1 ct_1], .slice Al nl cl, .agg #[I yt, .slice yA yn yc]]) (by simp [results, Tryz.results37, go_sem, *]) rfl ⟨⟨_, _, _, rfl, t, l, y, ?_, HDT.out, ?_, hll, ?_, HS.out⟩, ?_⟩
     · exact TopologyO.more (OTr.out.keep fun k h1 _ _ => (kp (lo := wa.heap.size)).same k h1) (by omega) (Nat.le_trans (by omega) (Nat.le_of_eq (kp (lo := wa.heap.size) (a := wr)).size.symm))
     · exact Own.more (OLr.out.keep fun k h1 _ _ => (kp (lo := wa.heap.size)).same k (by omega)) (by omega) (Nat.le_of_eq (kp (lo := wa.heap.size) (a := wr)).size.symm)
     · exact BeaconingO.more (HY.out.keep fun k h1 _ _ => (kp (lo := wa.heap.size)).same k (by omega)) (by omega) (Nat.le_of_eq (kp (lo := wa.heap.size) (a := wr)).size.symm)
     · have dwr : D g w wr := D.trans da dar
       exact xd
end Go.Proofs.YtmopmgaeiokfjaaGreat
