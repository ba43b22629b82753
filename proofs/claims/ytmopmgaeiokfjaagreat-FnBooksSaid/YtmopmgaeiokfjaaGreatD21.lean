/- Contracts of the reference's draws of segments: l9Spoil, l9Draw, l9Any. No conditions. -/
import Derived.Test.YtmopmgaeiokfjaaGreatD20
import Derived.Test.YtmopmgaeiokfjaaGreatGHS
import Derived.Test.YtmopmgaeiokfjaaGreatGL9
import Derived.Deep.CutBlock
set_option maxRecDepth 100000
set_option maxHeartbeats 8000000
namespace Go.Proofs.YtmopmgaeiokfjaaGreat
open Go.RowKit
set_option linter.unusedVariables false
theorem hop_set5 : ∀ (l : List DHop) (k : Nat), k < l.length → ∀ x : DHop, ((((l.flatMap HopC).set (k * 5) (I x.asn)).set (k * 5 + 1) (I x.ing)).set (k * 5 + 2) (I x.egr) |>.set (k * 5 + 3) (I x.exp)).set (k * 5 + 4) (I x.mac) = (l.set k x).flatMap HopC
 | [], k, hk, _ => by simp at hk
 | y :: l, 0, _, x => by simp [HopC]
 | y :: l, k + 1, hk, x => by
   have h := hop_set5 l k (by simpa using hk) x
   have e : ∀ (j : Nat) (m : List Value) (u : Value), (HopC y ++ m).set ((k + 1) * 5 + j) u = HopC y ++ m.set (k * 5 + j) u := fun j m u => by
    rw [List.set_append_right _ _ (by simp [HopC]; omega)]
    congr 2
    simp only [HopC, List.length_cons, List.length_nil];omega
   have e0 : ∀ (m : List Value) (u : Value), (HopC y ++ m).set ((k + 1) * 5) u = HopC y ++ m.set (k * 5) u := fun m u => e 0 m u;rw [List.flatMap_cons, e0, e, e, e, e, h];simp
theorem HopSO.setAt {lo hi n c k : Nat} {w : World} {A : Option Addr} {l : List DHop} (h : HopSO lo hi w (.slice A n c) l) (hk : k < l.length) (x : DHop) :
 ∃ g, A = some ⟨g, 0, none⟩ ∧ lo ≤ g ∧ g < hi ∧ g < w.heap.size ∧ (∀ j, w.frozen? ⟨g, j, none⟩ = false) ∧ (∀ j, j < 5 → ∃ u, w.cell? ⟨g, k * 5 + j, none⟩ = some u) ∧ HopSO lo hi (((((w.setCell ⟨g, k * 5, none⟩ (I x.asn)).setCell ⟨g, k * 5 + 1, none⟩ (I x.ing)).setCell ⟨g, k * 5 + 2, none⟩ (I x.egr)).setCell ⟨g, k * 5 + 3, none⟩ (I x.exp)).setCell ⟨g, k * 5 + 4, none⟩ (I x.mac)) (.slice A n c) (l.set k x) := by
 have hn : n = l.length := (NO.row h).1;subst hn
 have hlen : (l.flatMap HopC).length = l.length * 5 := by
  rw [flat_len HopC 5 (fun _ => rfl)]
 have hbound : ∀ j, j < 5 → k * 5 + j < (l.flatMap HopC).length := fun j hj => by rw [hlen]; omega
 obtain ⟨g, rfl, h1, h2, h3, hf, hc0, o1⟩ := Own.cellAt h (k * 5) (hbound 0 (by omega)) (I x.asn);obtain ⟨g1, e1, -, -, -, -, -, o2⟩ := Own.cellAt o1 (k * 5 + 1) (by rw [List.length_set]; exact hbound 1 (by omega)) (I x.ing);cases e1;obtain ⟨g1, e1, -, -, -, -, -, o3⟩ := Own.cellAt o2 (k * 5 + 2) (by rw [List.length_set, List.length_set]; exact hbound 2 (by omega)) (I x.egr);cases e1;obtain ⟨g1, e1, -, -, -, -, -, o4⟩ := Own.cellAt o3 (k * 5 + 3) (by rw [List.length_set, List.length_set, List.length_set]; exact hbound 3 (by omega)) (I x.exp);cases e1;obtain ⟨g1, e1, -, -, -, -, -, o5⟩ := Own.cellAt o4 (k * 5 + 4) (by rw [List.length_set, List.length_set, List.length_set, List.length_set]; exact hbound 4 (by omega)) (I x.mac);cases e1;refine ⟨g, rfl, h1, h2, h3, fun j => ?_, fun j hj => ?_, ?_⟩
 · rcases h.cases with ⟨e, _, _⟩ | ⟨g2, cap, rest, e, _, _, hb, _⟩
   · cases e
   · simp only [Value.slice.injEq, Option.some.injEq, Addr.mk.injEq] at e
     obtain ⟨⟨rfl, -⟩, -⟩ := e;exact hb.frozen j
 · obtain ⟨g2, e2, -, -, -, -, hc, -⟩ := Own.cellAt h (k * 5 + j) (hbound j hj) (I 0)
   cases e2;exact ⟨_, hc⟩
 · unfold HopSO
   rw [List.length_set, ← hop_set5 l k hk x];exact o5
theorem Own.front {E sz lo hi n c k : Nat} {w : World} {A : Option Addr} {cs : List Value} (h : Own E sz lo hi w (.slice A n c) n cs) (hk : k ≤ n) : Own E sz lo hi w (.slice A k c) k (cs.take (k * sz)) := by
 rcases h.cases with ⟨e, h0, hcs⟩ | ⟨g, cap, rest, e, h1, h2, hb, hl, hn, hm, hs⟩
 · simp only [Value.slice.injEq] at e
   obtain ⟨rfl, rfl, rfl⟩ := e
   obtain rfl : k = 0 := by omega
   subst hcs
   simpa using Own.nil E sz lo hi w
 · simp only [Value.slice.injEq] at e
   obtain ⟨rfl, -, rfl⟩ := e;have hks : k * sz ≤ n * sz := Nat.mul_le_mul_right _ hk
   have e2 : cs ++ rest = cs.take (k * sz) ++ (cs.drop (k * sz) ++ rest) := by rw [← List.append_assoc, List.take_append_drop]
   rw [e2] at hb hs;exact Own.mk' h1 h2 hb (by rw [List.length_take]; omega) (by omega) hm hs
theorem hop_suf {lo hi n c g : Nat} {w : World} {l : List DHop} (h : HopSO lo hi w (.slice (some ⟨g, 0, none⟩) n c) l) (k : Nat) (hk : k ≤ n) : Row w 5 (some ⟨g, k * 5, none⟩) (n - k) ((l.drop k).flatMap HopC) := by
 have hn : n = l.length := (NO.row h).1;subst hn
 have hl : (l.flatMap HopC).length = l.length * 5 := by rw [flat_len HopC 5 (fun _ => rfl)]
 have hd : (l.drop k).flatMap HopC = (l.flatMap HopC).drop (k * 5) := by
  have e : l.flatMap HopC = (l.take k).flatMap HopC ++ (l.drop k).flatMap HopC := by rw [← List.flatMap_append, List.take_append_drop]
  have e5 : ((l.take k).flatMap HopC).length = k * 5 := by rw [flat_len HopC 5 (fun _ => rfl), List.length_take]; omega
  rw [e, ← e5, List.drop_left]
 refine ⟨by rw [flat_len HopC 5 (fun _ => rfl), List.length_drop], fun h0 => ⟨_, rfl, fun j u hu => ?_⟩⟩;rw [hd, List.getElem?_drop] at hu
 have hj : k * 5 + j < (l.flatMap HopC).length := by
  rcases Nat.lt_or_ge (k * 5 + j) (l.flatMap HopC).length with h1 | h1
  · exact h1
  · rw [List.getElem?_eq_none h1] at hu; cases hu
 obtain ⟨g2, e2, -, -, -, -, hc, -⟩ := Own.cellAt h (k * 5 + j) hj (I 0);cases e2;rw [List.getElem?_eq_getElem hj] at hu
 have e3 : (⟨g, k * 5, none⟩ : Addr).add j = ⟨g, k * 5 + j, none⟩ := by simp [add_none]
 rw [e3, hc];exact hu
theorem hop_suf0 {n : Nat} {w : World} {A : Option Addr} {l : List DHop} (hn : n = l.length) (k : Nat) (hk : n - k = 0) : Row w 5 A (n - k) ((l.drop k).flatMap HopC) := by
 have e : l.drop k = [] := List.drop_of_length_le (by omega);rw [e];exact ⟨by simp; omega, fun h0 => by omega⟩
theorem spec_l9Spoil (g : Nat) (vs : Value) (s : DSegment) (w : World) (hc : Cur w g) (hs : SegmentV w.heap.size w vs s) (hn : s.hops.length ≤ 100) :
 Calls Tryz.prog 63 #[.pointer (some ⟨g, 0, none⟩), vs] w fun e w' => ∃ v', e = .returned v' ∧ (∃ s' : DSegment, SegmentO w.heap.size w'.heap.size w' v' s' ∧ s'.hops.length ≤ s.hops.length) ∧ D g w w' := by
 have HC := Lib.hid hc;have hgw := hc.lt;clear hc;obtain ⟨As_2, ns_2, cs_2, rfl, ss_2⟩ := id hs;obtain ⟨ls_2, ks_2, ms_2⟩ := ss_2.len;subst ls_2;unfold maxLen at ms_2;have Rs := Lib.hid hs; clear hs;have Ss_2 := Lib.hid ss_2; clear ss_2
 go_enter Tryz.func63, Tryz.ntmps63
 go_wp2_with fail
 refine name_calls (fun W => ∃ wb, Ext w wb ∧ wb.heap.size = w.heap.size + 1 + 1 ∧ Ext wb W ∧ Blk W (w.heap.size + 1) 33 [I 0, I 0, .slice none 0 0] ∧ W = wb) ⟨_, xe, by simp only [World.size_alloc], Ext.refl _, xb, rfl⟩ ?_;rintro w0 ⟨wb, eb, zb_, e0, br, rfl⟩;obtain ⟨zb, zb'⟩ := le_both zb_;clear zb_ e0;have BR := Lib.hid br; clear br;refine (spec_l9Copy _ s w0 (by exact Rs.out.ext xe) (by omega)).mono ?_;rintro e w1 ⟨v1, rfl, o1, e1⟩;obtain ⟨u1, rfl, oh1, -⟩ := o1;obtain ⟨A, n, c, rfl⟩ := Own.slice oh1;obtain ⟨hn1, -⟩ := NO.row oh1;subst hn1;have OH := Lib.hid (show HopSO w0.heap.size w1.heap.size w1 (.slice A s.hops.length c) s.hops from oh1); clear oh1;have z1 := e1.size;have e01 : Ext w w1 := Ext.trans eb e1;have BR1 := Lib.hid (BR.out.ext e1);have lc := (HopSO_rd OH.out).len;obtain ⟨-, hlc, hmc⟩ := lc;by_cases h0 : s.hops.length = 0
 · have q0 : ((s.hops.length : Int) == 0) = true := by rw [h0]; rfl
   have HH := Lib.hid h0; clear h0;have b2 := BR1.out.ext (w' := w1) xe;have lb2 := b2.lt;obtain ⟨qb2_0, qb2_1, qb2_2⟩ := blk3 b2;have fb2_0 := b2.frozen 0;have fb2_1 := b2.frozen 1;have fb2_2 := b2.frozen 2;clear b2;go_wp2_with fail
   refine bodyPost_ret (v := .agg #[I s.ts, I s.beta, .slice A s.hops.length c]) (by simp [results, Tryz.results63, go_sem, *]) rfl ⟨_, rfl, ⟨s, ⟨_, rfl, ?_, ?_⟩, Nat.le_refl _⟩, ?_⟩
   · exact Own.more (lo := w0.heap.size) (hi := w1.heap.size) (xw OH.out) (by omega) (by simp only [World.size_setCell, World.size_alloc]; omega)
   · simp only [World.size_setCell, World.size_alloc]; omega
   · exact D.of_ext xe hgw
 · have q0 : ((s.hops.length : Int) == 0) = false := beq_eq_false_iff_ne.2 (by omega)
   go_wp2_with fail
   refine name_calls (fun W => Ext w1 W ∧ W.heap.size = w1.heap.size + 1 ∧ Blk W w1.heap.size 33 [I s.ts, I s.beta, .slice A s.hops.length c]) ⟨xe, by simp only [World.size_alloc], xb⟩ ?_;rintro w2 ⟨e2, z2_, bs⟩;obtain ⟨z2, z2'⟩ := le_both z2_;clear z2_;have BS := Lib.hid bs; clear bs;have dw2 : D g w w2 := D.of_ext (Ext.trans e01 e2) hgw;refine (spec_l1Below g (s.hops.length : Int) w2 (dw2.cur HC.out) (by omega)).mono ?_;rintro e w3 ⟨x3, rfl, ⟨x3a, x3b, -⟩, d3⟩;have x3b := x3b (by omega)
   obtain ⟨k, rfl⟩ : ∃ k : Nat, x3 = (k : Int) := ⟨x3.toNat, by omega⟩
   have z3 := d3.size;have dw3 : D g w w3 := D.trans dw2 d3
   have hkl : k < s.hops.length := by omega
   have BS3 := Lib.hid (BS.out.d d3 (by omega));have OH3 := Lib.hid ((Own.ext OH.out e2 (Nat.le_refl _)).d d3 (by omega));have BR3 := Lib.hid ((BR1.out.ext e2).d d3 (by omega));obtain ⟨bl, ol, hA, hbl, hk2, hc3⟩ := (HopSO_rd OH3.out).at_ hkl;have hx : s.hops[k] ∈ s.hops := List.getElem_mem _;clear hx
   generalize s.hops[k] = x at *
   subst hA;obtain ⟨hx0, hx1, hx2, hx3, hx4⟩ := hc3
   have i0 : (0 : Int) ≤ (k : Int) := by omega
   have i1 : (k : Int) < (s.hops.length : Int) := by omega
   have b1 := BS3.out.ext (w' := w3) xe;have lb1 := b1.lt;obtain ⟨qb1_0, qb1_1, qb1_2⟩ := blk3 b1;have fb1_0 := b1.frozen 0;have fb1_1 := b1.frozen 1;have fb1_2 := b1.frozen 2;clear b1;go_wp2_with fail
   clear lb1 qb1_0 qb1_1 qb1_2 fb1_0 fb1_1 fb1_2;refine name_calls (fun W => D g w W ∧ Ext w3 W ∧ W.heap.size = w3.heap.size + 1 ∧ Blk W w3.heap.size 91 [I x.asn, I x.ing, I x.egr, I x.exp, I x.mac]) ⟨xd, xe, by simp only [World.size_alloc], xb⟩ ?_;rintro w4 ⟨dw4, e4, z4_, bh⟩;obtain ⟨z4, z4'⟩ := le_both z4_;clear z4_ hx0 hx1 hx2 hx3 hx4 q0;have BH := Lib.hid bh; clear bh;refine (spec_l1Below g 9 w4 (dw4.cur HC.out) (by omega)).mono ?_;rintro e w5 ⟨x5, rfl, -, d5⟩;have z5 := d5.size;have dw5 : D g w w5 := D.trans dw4 d5;have BS5 := Lib.hid ((BS3.out.ext e4).d d5 (by omega));have OH5 := Lib.hid ((Own.ext OH3.out e4 (by omega)).d d5 (by omega));have BR5 := Lib.hid ((BR3.out.ext e4).d d5 (by omega));have BH5 := Lib.hid (BH.out.d d5 (by omega));have HC5 := Lib.hid (dw5.cur HC.out);go_upto_block 0 with (fail)
   go_cut [6] from 27 (fun p wx => p = I k ∧ (∃ (h : DHop) (ts be : Int), Blk wx w3.heap.size 91 [I h.asn, I h.ing, I h.egr, I h.exp, I h.mac] ∧ Blk wx w1.heap.size 33 [I ts, I be, .slice (some ⟨bl, ol, none⟩) s.hops.length c] ∧ HopSO w0.heap.size w1.heap.size wx (.slice (some ⟨bl, ol, none⟩) s.hops.length c) s.hops ∧ Blk wx (w.heap.size + 1) 33 [I 0, I 0, .slice none 0 0]) ∧ D g w wx)
   case first =>
    by_cases h0 : x5 = 0
    · subst h0
      have b3 := BH5.out.ext (w' := w5) xe;have lb3 := b3.lt;obtain ⟨qb3_0, qb3_1, qb3_2, qb3_3, qb3_4⟩ := blk5 b3;have fb3_0 := b3.frozen 0;have fb3_1 := b3.frozen 1;have fb3_2 := b3.frozen 2;have fb3_3 := b3.frozen 3;have fb3_4 := b3.frozen 4;clear b3;go_wp2_with fail
      go_meet
      case rel => exact ⟨rfl, ⟨⟨x.asn, x.ing, x.egr, wrap64 (x.exp + 1), x.mac⟩, _, _, BH5.out.set_ 3 _, BS5.out.far (by dsimp only; omega) _, Own.setCell OH5.out (.inr (by dsimp only; omega)) _, BR5.out.far (by dsimp only; omega) _⟩, D.setNew dw5 hgw (by first | omega | (dsimp only; omega)) _⟩
    have q0 : (x5 == 0) = false := beq_eq_false_iff_ne.2 h0;by_cases h1 : x5 = 1
    · subst h1
      have b3 := BH5.out.ext (w' := w5) xe;have lb3 := b3.lt;obtain ⟨qb3_0, qb3_1, qb3_2, qb3_3, qb3_4⟩ := blk5 b3;have fb3_0 := b3.frozen 0;have fb3_1 := b3.frozen 1;have fb3_2 := b3.frozen 2;have fb3_3 := b3.frozen 3;have fb3_4 := b3.frozen 4;clear b3;go_wp2_with fail
      go_meet
      case rel => exact ⟨rfl, ⟨⟨x.asn, x.ing, x.egr, x.exp, (wrap64 (x.mac + 1)).tmod 2147483647⟩, _, _, BH5.out.set_ 4 _, BS5.out.far (by dsimp only; omega) _, Own.setCell OH5.out (.inr (by dsimp only; omega)) _, BR5.out.far (by dsimp only; omega) _⟩, D.setNew dw5 hgw (by first | omega | (dsimp only; omega)) _⟩
    have q1 : (x5 == 1) = false := beq_eq_false_iff_ne.2 h1;by_cases h2 : x5 = 2
    · subst h2
      go_wp2_with fail
      refine (spec_l1Below g 7 w5 HC5.out (by omega)).mono ?_;rintro e w6 ⟨x6, rfl, -, d6⟩;have z6 := d6.size;have BH6 := Lib.hid (BH5.out.d d6 (by omega)); have BS6 := Lib.hid (BS5.out.d d6 (by omega)); have OH6 := Lib.hid (OH5.out.d d6 (by omega)); have BR6 := Lib.hid (BR5.out.d d6 (by omega));have b3 := BH6.out.ext (w' := w6) xe;have lb3 := b3.lt;obtain ⟨qb3_0, qb3_1, qb3_2, qb3_3, qb3_4⟩ := blk5 b3;have fb3_0 := b3.frozen 0;have fb3_1 := b3.frozen 1;have fb3_2 := b3.frozen 2;have fb3_3 := b3.frozen 3;have fb3_4 := b3.frozen 4;clear b3;go_wp2_with fail
      go_meet
      case rel => exact ⟨rfl, ⟨⟨x.asn, x.ing, x6, x.exp, x.mac⟩, _, _, BH6.out.set_ 2 _, BS6.out.far (by dsimp only; omega) _, Own.setCell OH6.out (.inr (by dsimp only; omega)) _, BR6.out.far (by dsimp only; omega) _⟩, D.setNew (D.trans dw5 d6) hgw (by first | omega | (dsimp only; omega)) _⟩
    have q2 : (x5 == 2) = false := beq_eq_false_iff_ne.2 h2;by_cases h3 : x5 = 3
    · subst h3
      go_wp2_with fail
      refine (spec_l1Below g 7 w5 HC5.out (by omega)).mono ?_;rintro e w6 ⟨x6, rfl, -, d6⟩;have z6 := d6.size;have BH6 := Lib.hid (BH5.out.d d6 (by omega)); have BS6 := Lib.hid (BS5.out.d d6 (by omega)); have OH6 := Lib.hid (OH5.out.d d6 (by omega)); have BR6 := Lib.hid (BR5.out.d d6 (by omega));have b3 := BH6.out.ext (w' := w6) xe;have lb3 := b3.lt;obtain ⟨qb3_0, qb3_1, qb3_2, qb3_3, qb3_4⟩ := blk5 b3;have fb3_0 := b3.frozen 0;have fb3_1 := b3.frozen 1;have fb3_2 := b3.frozen 2;have fb3_3 := b3.frozen 3;have fb3_4 := b3.frozen 4;clear b3;go_wp2_with fail
      go_meet
      case rel => exact ⟨rfl, ⟨⟨x.asn, x6, x.egr, x.exp, x.mac⟩, _, _, BH6.out.set_ 1 _, BS6.out.far (by dsimp only; omega) _, Own.setCell OH6.out (.inr (by dsimp only; omega)) _, BR6.out.far (by dsimp only; omega) _⟩, D.setNew (D.trans dw5 d6) hgw (by first | omega | (dsimp only; omega)) _⟩
    have q3 : (x5 == 3) = false := beq_eq_false_iff_ne.2 h3;by_cases h4 : x5 = 4
    · subst h4
      go_wp2_with fail
      refine (spec_l1Below g 8 w5 HC5.out (by omega)).mono ?_;rintro e w6 ⟨x6, rfl, -, d6⟩;have z6 := d6.size;have BH6 := Lib.hid (BH5.out.d d6 (by omega)); have BS6 := Lib.hid (BS5.out.d d6 (by omega)); have OH6 := Lib.hid (OH5.out.d d6 (by omega)); have BR6 := Lib.hid (BR5.out.d d6 (by omega));have b3 := BH6.out.ext (w' := w6) xe;have lb3 := b3.lt;obtain ⟨qb3_0, qb3_1, qb3_2, qb3_3, qb3_4⟩ := blk5 b3;have fb3_0 := b3.frozen 0;have fb3_1 := b3.frozen 1;have fb3_2 := b3.frozen 2;have fb3_3 := b3.frozen 3;have fb3_4 := b3.frozen 4;clear b3;go_wp2_with fail
      go_meet
      case rel => exact ⟨rfl, ⟨⟨x6, x.ing, x.egr, x.exp, x.mac⟩, _, _, BH6.out.set_ 0 _, BS6.out.far (by dsimp only; omega) _, Own.setCell OH6.out (.inr (by dsimp only; omega)) _, BR6.out.far (by dsimp only; omega) _⟩, D.setNew (D.trans dw5 d6) hgw (by first | omega | (dsimp only; omega)) _⟩
    have q4 : (x5 == 4) = false := beq_eq_false_iff_ne.2 h4;by_cases h5 : x5 = 5
    · subst h5
      have b3 := BS5.out.ext (w' := w5) xe;have lb3 := b3.lt;obtain ⟨qb3_0, qb3_1, qb3_2⟩ := blk3 b3;have fb3_0 := b3.frozen 0;have fb3_1 := b3.frozen 1;have fb3_2 := b3.frozen 2;clear b3;go_wp2_with fail
      go_meet
      case rel => exact ⟨rfl, ⟨x, _, _, BH5.out.far (by dsimp only; omega) _, BS5.out.set_ 1 _, Own.setCell OH5.out (.inr (by dsimp only; omega)) _, BR5.out.far (by dsimp only; omega) _⟩, D.setNew dw5 hgw (by first | omega | (dsimp only; omega)) _⟩
    have q5 : (x5 == 5) = false := beq_eq_false_iff_ne.2 h5;by_cases h6 : x5 = 6
    · subst h6
      have b3 := BS5.out.ext (w' := w5) xe;have lb3 := b3.lt;obtain ⟨qb3_0, qb3_1, qb3_2⟩ := blk3 b3;have fb3_0 := b3.frozen 0;have fb3_1 := b3.frozen 1;have fb3_2 := b3.frozen 2;clear b3;go_wp2_with fail
      go_meet
      case rel => exact ⟨rfl, ⟨x, _, _, BH5.out.far (by dsimp only; omega) _, BS5.out.set_ 0 _, Own.setCell OH5.out (.inr (by dsimp only; omega)) _, BR5.out.far (by dsimp only; omega) _⟩, D.setNew dw5 hgw (by first | omega | (dsimp only; omega)) _⟩
    have q6 : (x5 == 6) = false := beq_eq_false_iff_ne.2 h6;by_cases h7 : x5 = 7
    · subst h7
      have hgn := HopSO.setAt OH5.out hkl x;obtain ⟨gg, hgg, hg1, hg2, hg3, -, -, -⟩ := hgn
      obtain ⟨rfl, rfl⟩ : bl = gg ∧ ol = 0 := by simpa using hgg
      clear hgg
      have j0 : (k : Int) ≤ (s.hops.length : Int) := by omega
      have j1 : (k : Int) + 1 ≤ (s.hops.length : Int) := by omega
      have j2 : (k : Int) ≤ (c : Int) := by omega
      have j3 : (k : Int) + 1 ≤ (c : Int) := by omega
      have j4 : (0 : Int) ≤ (k : Int) + 1 := by omega
      have j5 : (k : Int) ≤ (k : Int) + 1 := by omega
      have wk : IntKind.i64.wrap ((k : Int) + 1) = (k : Int) + 1 := IntWalk.i64_in _ (by omega)
      have jt : ((k : Int) + 1).toNat = k + 1 := by omega
      rcases Nat.lt_or_ge (k + 1) c with hck | hck
      case' inl => have hcn : ¬ c = k + 1 := by omega
      case' inr => obtain rfl : c = k + 1 := by omega
      all_goals
       have b1 := BS5.out.ext (w' := w5) xe;have lb1 := b1.lt;obtain ⟨qb1_0, qb1_1, qb1_2⟩ := blk3 b1;have fb1_0 := b1.frozen 0;have fb1_1 := b1.frozen 1;have fb1_2 := b1.frozen 2;clear b1;go_wp2_with fail
       refine wp_region_LT 9 (E := Ext) (w0 := w5) (G := fun τ => match τ with | 0 => none | _ => none) Ext.refl (fun h k => Ext.trans h k) (by kernel_rfl) (by kernel_rfl) (by kernel_rfl) (by kernel_rfl) (by kernel_rfl) (by kernel_rfl) xg (Ext.drew (by exact Ext.refl _)) ?_;simp only [List.take_succ_cons, List.take_zero]
       repeat' (first
        | ((with_reducible refine wpL_skip ?_ ?_ ?_)
           · rfl
           · rfl
           simp only [putS])
        | ((with_reducible refine wpL_quiet ?_ ?_ ?_ ?_)
           · rfl
           · rfl
           · rfl
           apply Exists.intro
           refine ⟨fun W hW hS => ?_, ?_⟩
           · have hC := (Ext.facts hW).1
             go_simp
             first | done | (with_reducible rfl) | (rw [if_neg (by omega)]; exact ⟨rfl, rfl⟩) | rfl
           first | (with_reducible refine wpL_boolT ?_) | (with_reducible refine wpL_boolF ?_) | (with_reducible refine wpL_bool (fun hB => ?_) (fun hB => ?_)) | skip
           all_goals simp only [putS]))
       refine wpL_nil (fun w6 e6 hL => ?_);clear hL;simp only [List.drop_succ_cons, List.drop_zero];go_wp2_with (at_builtin; refine hold ?_)
       have OH6 := Lib.hid (Own.ext OH5.out e6 (by omega)).lt_size;have BS6 := Lib.hid (BS5.out.ext e6);have BR6 := Lib.hid (BR5.out.ext e6);have z6 := e6.size;have FR6 := Lib.hid (Own.front OH6.out (k := k) (by omega))
       first
        | refine unhold (wpList_appL w0.heap.size rfl (.tmp 72) (.tmp 77) _ rfl 91 _ 5 40 Tryz.underlying31 info_Hop rfl (by omega) (.slice (some ⟨bl, 0, none⟩) k _) k ((s.hops.flatMap HopC).take (k * 5)) rfl _ (s.hops.length - (k + 1)) _ ((s.hops.drop (k + 1)).flatMap HopC) rfl FR6.out (by exact hop_suf OH6.out (k + 1) (by omega)) (one_Hop _) (by omega) (by unfold maxLen; omega) (by omega) ?_)
        | refine unhold (wpList_appL w0.heap.size rfl (.tmp 72) (.tmp 77) _ rfl 91 _ 5 40 Tryz.underlying31 info_Hop rfl (by omega) (.slice (some ⟨bl, 0, none⟩) k _) k ((s.hops.flatMap HopC).take (k * 5)) rfl _ 0 _ ((s.hops.drop (k + 1)).flatMap HopC) rfl FR6.out (by have hz : s.hops.length - (k + 1) = 0 := (by omega); have h := hop_suf0 (A := some ⟨bl, 0, none⟩) (w := w6) (l := s.hops) rfl (k + 1) hz; rw [hz] at h; exact h) (one_Hop _) (by omega) (by unfold maxLen; omega) (by omega) ?_)
       intro v8 w8 o8 hg8
       have o8 : Own 91 5 w0.heap.size w8.heap.size w8 v8 (k + (s.hops.length - (k + 1))) ((s.hops.flatMap HopC).take (k * 5) ++ (s.hops.drop (k + 1)).flatMap HopC) := by
        first
         | exact o8
         | (have hz : s.hops.length - (k + 1) = 0 := (by omega)
            rw [hz]
            exact o8)
       obtain ⟨a8, m8, q8, hv8⟩ := o8.slice;subst hv8;have z8 : w6.heap.size ≤ w8.heap.size := hg8.size;have d8 : D g w w8 := D.grown (D.trans dw5 (D.of_ext e6 (by omega))) hgw hg8 (fun j hj => by have := (FR6.out.1.lt j hj).1; omega);have BS8 := Lib.hid (Blk.grown BS6.out hg8 (off_type FR6.out BS6.out (by decide)));have BR8 := Lib.hid (Blk.grown BR6.out hg8 (off_type FR6.out BR6.out (by decide)))
       have O8 := Lib.hid (show HopSO w0.heap.size w8.heap.size w8 (.slice a8 m8 q8) (s.hops.take k ++ s.hops.drop (k + 1)) by
        unfold HopSO
        have e1 : (s.hops.take k ++ s.hops.drop (k + 1)).length = k + (s.hops.length - (k + 1)) := by rw [List.length_append, List.length_take, List.length_drop]; omega
        have e2 : (s.hops.take k ++ s.hops.drop (k + 1)).flatMap HopC = (s.hops.flatMap HopC).take (k * 5) ++ (s.hops.drop (k + 1)).flatMap HopC := by
         rw [List.flatMap_append]
         congr 1
         have e : s.hops.flatMap HopC = (s.hops.take k).flatMap HopC ++ (s.hops.drop k).flatMap HopC := by rw [← List.flatMap_append, List.take_append_drop]
         have e5 : ((s.hops.take k).flatMap HopC).length = k * 5 := by rw [flat_len HopC 5 (fun _ => rfl), List.length_take]; omega
         rw [e, ← e5, List.take_left]
        rw [e1, e2]
        exact o8)
       have hml : (s.hops.take k ++ s.hops.drop (k + 1)).length ≤ s.hops.length := by rw [List.length_append, List.length_take, List.length_drop]; omega
       clear o8 hg8 lb1 qb1_0 qb1_1 qb1_2 fb1_0 fb1_1 fb1_2 wk jt;have b1 := BS8.out.ext (w' := w8) xe;have lb1 := b1.lt;obtain ⟨qb1_0, qb1_1, qb1_2⟩ := blk3 b1;have fb1_0 := b1.frozen 0;have fb1_1 := b1.frozen 1;have fb1_2 := b1.frozen 2;clear b1;have b2 := BR8.out.ext (w' := w8) xe;have lb2 := b2.lt;obtain ⟨qb2_0, qb2_1, qb2_2⟩ := blk3 b2;have fb2_0 := b2.frozen 0;have fb2_1 := b2.frozen 1;have fb2_2 := b2.frozen 2;clear b2
       have n5 : ¬ w1.heap.size = w.heap.size + 1 := by omega
       have n6 : ¬ w.heap.size + 1 = w1.heap.size := by omega
       go_wp2_with (at_builtin; refine hold ?_)
       refine bodyPost_ret (v := .agg #[I s.ts, I s.beta, .slice a8 m8 q8]) (by simp [results, Tryz.results63, go_sem, *]) rfl ⟨_, rfl, ⟨⟨s.ts, s.beta, s.hops.take k ++ s.hops.drop (k + 1)⟩, ⟨_, rfl, ?_, ?_⟩, hml⟩, ?_⟩
       · have h9 := O8.out
         unfold HopSO at h9;have h9 := Own.setT h9 BS8.out (by decide) 2 (.slice a8 m8 q8);exact Own.more (lo := w0.heap.size) (hi := w8.heap.size) (xw h9) (by omega) (by simp only [World.size_setCell]; omega)
       · simp only [World.size_setCell]; omega
       · exact xd
    have q7 : (x5 == 7) = false := beq_eq_false_iff_ne.2 h7;clear h0 h1 h2 h3 h4 h5 h6 h7;go_wp2_with fail
    go_meet
    case rel => exact ⟨rfl, ⟨x, _, _, BH5.out, BS5.out, OH5.out, BR5.out⟩, dw5⟩
   case rest =>
    obtain ⟨rfl, ⟨h, ts, be, bh, bs, oh, brc⟩, dwc⟩ := hcut;have zc := bs.lt;have BHc := Lib.hid bh; have BSc := Lib.hid bs; have OHc := Lib.hid oh; clear bh bs oh;have BRc := Lib.hid brc; clear brc;have d5c : wc.heap.size = wc.heap.size := rfl;obtain ⟨gg, hgg, hg1, hg2, hg3, hgf, hgc, hgo⟩ := HopSO.setAt OHc.out hkl h
    obtain ⟨rfl, rfl⟩ : bl = gg ∧ ol = 0 := by simpa using hgg
    obtain ⟨f0, f1, f2, f3, f4⟩ := And.intro (hgf (k * 5)) (And.intro (hgf (k * 5 + 1)) (And.intro (hgf (k * 5 + 2)) (And.intro (hgf (k * 5 + 3)) (hgf (k * 5 + 4)))));obtain ⟨⟨y0, c0⟩, ⟨y1, c1⟩, ⟨y2, c2⟩, ⟨y3, c3⟩, ⟨y4, c4⟩⟩ := And.intro (hgc 0 (by omega)) (And.intro (hgc 1 (by omega)) (And.intro (hgc 2 (by omega)) (And.intro (hgc 3 (by omega)) (hgc 4 (by omega)))));have c0 : wc.cell? ⟨bl, k * 5, none⟩ = some y0 := c0;have HGO := Lib.hid hgo;clear hgo hgf hgc hgg d5c;have b1 := BSc.out.ext (w' := wc) xe;have lb1 := b1.lt;obtain ⟨qb1_0, qb1_1, qb1_2⟩ := blk3 b1;have fb1_0 := b1.frozen 0;have fb1_1 := b1.frozen 1;have fb1_2 := b1.frozen 2;clear b1;have b3 := BHc.out.ext (w' := wc) xe;have lb3 := b3.lt;obtain ⟨qb3_0, qb3_1, qb3_2, qb3_3, qb3_4⟩ := blk5 b3;have fb3_0 := b3.frozen 0;have fb3_1 := b3.frozen 1;have fb3_2 := b3.frozen 2;have fb3_3 := b3.frozen 3;have fb3_4 := b3.frozen 4;clear b3;have b2 := BRc.out.ext (w' := wc) xe;have lb2 := b2.lt;obtain ⟨qb2_0, qb2_1, qb2_2⟩ := blk3 b2;have fb2_0 := b2.frozen 0;have fb2_1 := b2.frozen 1;have fb2_2 := b2.frozen 2;clear b2
    have n1 : ¬ bl = w1.heap.size := by omega
    have n2 : ¬ w1.heap.size = bl := by omega
    have n3 : ¬ bl = w.heap.size + 1 := by omega
    have n4 : ¬ w.heap.size + 1 = bl := by omega
    go_wp2_with fail
    refine bodyPost_ret (v := .agg #[I ts, I be, .slice (some ⟨bl, 0, none⟩) s.hops.length c]) (by simp [results, Tryz.results63, go_sem, *]) rfl ⟨_, rfl, ⟨⟨ts, be, s.hops.set k h⟩, ⟨_, rfl, ?_, ?_⟩, by rw [List.length_set]; omega⟩, ?_⟩
    · rw [List.length_set]
      have h9 := HGO.out;unfold HopSO at h9;rw [List.length_set] at h9;exact Own.more (lo := w0.heap.size) (hi := w1.heap.size) (xw h9) (by omega) (by simp only [World.size_setCell]; omega)
    · simp only [World.size_setCell]; omega
    · exact xd
end Go.Proofs.YtmopmgaeiokfjaaGreat
