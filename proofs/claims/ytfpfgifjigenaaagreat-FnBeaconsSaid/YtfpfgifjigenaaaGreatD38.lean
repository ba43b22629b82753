/- Contracts of the reference's draws of a segment that may be handed on, and of a time: l13Open, l8Time. No conditions. -/
import Derived.Test.YtfpfgifjigenaaaGreatD21
import Derived.Test.YtfpfgifjigenaaaGreatDK
import Derived.Test.YtfpfgifjigenaaaGreatGL14
import Derived.Deep.CutBlock
import Derived.Deep.CutRange
namespace Go.Proofs.YtfpfgifjigenaaaGreat
open Go.RowKit
set_option linter.unusedVariables false
theorem SegmentO.front {lo hi : Nat} {w : World} {v : Value} {s : DSegment} (h : SegmentO lo hi w v s) : ∃ A c, v = .agg #[I s.ts, I s.beta, .slice A s.hops.length c] ∧ s.hops.length ≤ c := by
 obtain ⟨u, e, o, -⟩ := h
 rcases o.cases with ⟨e1, h0, _⟩ | ⟨g, cap, rest, e1, _, _, _, _, hn, _, _⟩
 · exact ⟨none, 0, by rw [e, e1, h0], by omega⟩
 · exact ⟨_, _, by rw [e, e1], hn⟩
theorem SegmentO.dd {lo hi g : Nat} {w w' : World} {v : Value} {t : DSegment} (h : SegmentO lo hi w v t) (hd : D g w w') (hg : g < lo) : SegmentO lo hi w' v t := h.keep fun k h1 _ h3 => hd.block h3 (by omega)
theorem SegmentO.far {lo hi b i : Nat} {w : World} {v u : Value} {s : DSegment} (h : SegmentO lo hi w v s) (hb : b < lo) : SegmentO lo hi (w.setCell ⟨b, i, none⟩ u) v s := h.keep fun k h1 _ _ => Below.heap_setCell _ _ _ _ (by dsimp only; omega)
theorem TopologyO.far {lo hi b i : Nat} {w : World} {v u : Value} {t : DTopology} (h : TopologyO lo hi w v t) (hb : b < lo) : TopologyO lo hi (w.setCell ⟨b, i, none⟩ u) v t := h.keep fun k h1 _ _ => Below.heap_setCell _ _ _ _ (by dsimp only; omega)
theorem SegmentO.cut {lo hi k : Nat} {w : World} {A : Option Addr} {c : Nat} {s : DSegment} (h : SegmentO lo hi w (.agg #[I s.ts, I s.beta, .slice A s.hops.length c]) s) (hk : k ≤ s.hops.length) : SegmentO lo hi w (.agg #[I s.ts, I s.beta, .slice A k c]) ⟨s.ts, s.beta, s.hops.take k⟩ := by
 obtain ⟨u, e, ow, hl⟩ := h;have e2 := congrArg Array.toList (Value.agg.inj e)
 have e3 : u = .slice A s.hops.length c := by
  have e4 : [I s.ts, I s.beta, Value.slice A s.hops.length c] = [I s.ts, I s.beta, u] := e2;simp only [List.cons.injEq, and_true, true_and] at e4;exact e4.symm
 subst e3;refine ⟨_, rfl, ?_, hl⟩;have h9 := Own.front ow hk
 have e5 : (s.hops.take k).flatMap HopC = (s.hops.flatMap HopC).take (k * 5) := by
  have e6 : s.hops.flatMap HopC = (s.hops.take k).flatMap HopC ++ (s.hops.drop k).flatMap HopC := by rw [← List.flatMap_append, List.take_append_drop]
  have e7 : ((s.hops.take k).flatMap HopC).length = k * 5 := by rw [flat_len HopC 5 (fun _ => rfl), List.length_take, Nat.min_eq_left hk]
  rw [e6, ← e7, List.take_left'];rfl
 show Own _ 5 lo hi w (.slice A k c) (s.hops.take k).length ((s.hops.take k).flatMap HopC);rw [e5, List.length_take, Nat.min_eq_left hk];exact h9
theorem GrownSeg.cut {t : DTopology} {s : DSegment} (h : GrownSeg t s) (k : Nat) : GrownSeg t ⟨s.ts, s.beta, s.hops.take k⟩ := by
 refine ⟨?_, fun x hx => h.2 x (List.mem_of_mem_take hx)⟩;have := h.1;show (s.hops.take k).length ≤ 5;rw [List.length_take];omega
structure OpenW (lc b6 b7 : Nat) (W : World) (t : DTopology) (s : DSegment) (A0 : Option Addr) (n0 c0 : Nat) (A1 : Option Addr) (n1 c1 : Nat) (A : Option Addr) (c : Nat) : Prop where
 b6 : Blk W b6 27 [.slice A0 n0 c0, .slice A1 n1 c1]
 b7 : Blk W b7 51 [I s.ts, I s.beta, .slice A s.hops.length c]
 ot : TopologyO lc W.heap.size W (.agg #[.slice A0 n0 c0, .slice A1 n1 c1]) t
 os : SegmentO lc W.heap.size W (.agg #[I s.ts, I s.beta, .slice A s.hops.length c]) s
section
variable {lc b6 b7 g : Nat} {W W' : World} {t : DTopology} {s : DSegment} {A0 : Option Addr} {n0 c0 : Nat} {A1 : Option Addr} {n1 c1 : Nat} {A : Option Addr} {c : Nat}
theorem OpenW.d (h : OpenW lc b6 b7 W t s A0 n0 c0 A1 n1 c1 A c) (hd : D g W W') (h6 : b6 ≠ g) (h7 : b7 ≠ g) (hg : g < lc) : OpenW lc b6 b7 W' t s A0 n0 c0 A1 n1 c1 A c :=
 ⟨h.b6.d hd h6, h.b7.d hd h7, (h.ot.d hd hg).more (Nat.le_refl _) hd.size, (h.os.dd hd hg).more (Nat.le_refl _) hd.size⟩
theorem OpenW.ext (h : OpenW lc b6 b7 W t s A0 n0 c0 A1 n1 c1 A c) (he : Ext W W') : OpenW lc b6 b7 W' t s A0 n0 c0 A1 n1 c1 A c :=
 ⟨h.b6.ext he, h.b7.ext he, (h.ot.ext he (Nat.le_refl _)).more (Nat.le_refl _) he.size, h.os.up he⟩
theorem OpenW.less {l : Nat} (h : OpenW lc b6 b7 W t s A0 n0 c0 A1 n1 c1 A c) (hl : l ≤ lc) : OpenW l b6 b7 W t s A0 n0 c0 A1 n1 c1 A c :=
 ⟨h.b6, h.b7, h.ot.more hl (Nat.le_refl _), h.os.more hl (Nat.le_refl _)⟩
theorem OpenW.put {x6 y6 x7 y7 z7 : Value} (h6 : Blk W b6 27 [x6, y6]) (h7 : Blk W b7 51 [x7, y7, z7]) (hne : b6 ≠ b7) (ot : TopologyO lc W.heap.size W (.agg #[.slice A0 n0 c0, .slice A1 n1 c1]) t) (os : SegmentO lc W.heap.size W (.agg #[I s.ts, I s.beta, .slice A s.hops.length c]) s) (l6 : b6 < lc) (l7 : b7 < lc) :
 OpenW lc b6 b7 (((((W.setCell ⟨b6, 0, none⟩ (.slice A0 n0 c0)).setCell ⟨b6, 1, none⟩ (.slice A1 n1 c1)).setCell ⟨b7, 0, none⟩ (I s.ts)).setCell ⟨b7, 1, none⟩ (I s.beta)).setCell ⟨b7, 2, none⟩ (.slice A s.hops.length c)) t s A0 n0 c0 A1 n1 c1 A c := by
 refine ⟨?_, ?_, ?_, ?_⟩
 · refine (((Blk.far ?_ hne _).far hne _).far hne _)
   simpa using (h6.set_ 0 (.slice A0 n0 c0)).set_ 1 (.slice A1 n1 c1)
 · have h9 := (h7.far (p := ⟨b6, 0, none⟩) (Ne.symm hne) (.slice A0 n0 c0)).far (p := ⟨b6, 1, none⟩) (Ne.symm hne) (.slice A1 n1 c1)
   simpa using ((h9.set_ 0 (I s.ts)).set_ 1 (I s.beta)).set_ 2 (.slice A s.hops.length c)
 · simp only [World.size_setCell]
   exact ((((ot.far l6).far l6).far l7).far l7).far l7
 · simp only [World.size_setCell]
   exact ((((os.far l6).far l6).far l7).far l7).far l7
theorem OpenW.cut {k : Nat} (h : OpenW lc b6 b7 W t s A0 n0 c0 A1 n1 c1 A c) (hne : b6 ≠ b7) (l7 : b7 < lc) (hk : k ≤ s.hops.length) :
 OpenW lc b6 b7 (W.setCell ⟨b7, 2, none⟩ (.slice A k c)) t ⟨s.ts, s.beta, s.hops.take k⟩ A0 n0 c0 A1 n1 c1 A c := by
 have e : (s.hops.take k).length = k := by rw [List.length_take]; omega
 refine ⟨h.b6.far hne _, ?_, ?_, ?_⟩
 · show Blk _ b7 _ [I s.ts, I s.beta, .slice A (s.hops.take k).length c]
   rw [e]
   simpa using h.b7.set_ 2 (.slice A k c)
 · simp only [World.size_setCell]
   exact h.ot.far l7
 · simp only [World.size_setCell]
   show SegmentO lc _ _ (.agg #[I s.ts, I s.beta, .slice A (s.hops.take k).length c]) _;rw [e];exact (h.os.cut hk).far l7
end
set_option maxRecDepth 100000 in
set_option maxHeartbeats 8000000 in
theorem spec_l13Open (g : Nat) (w : World) (hc : Cur w g) : Calls Tryz.prog 111 #[.pointer (some ⟨g, 0, none⟩)] w fun e w' => (∃ vt vs r i, e = .returned (.tuple #[vt, vs, I r, I i]) ∧ ∃ t s, TopologyO w.heap.size w'.heap.size w' vt t ∧ DrawnTopo t ∧ LinksOk t ∧ SegmentO w.heap.size w'.heap.size w' vs s ∧ GrownSeg t s) ∧ D g w w' := by
 have HC := Lib.hid hc;have hgw := hc.lt;clear hc
 go_enter Tryz.func111, Tryz.ntmps111
 go_wp2_with fail
 refine name_calls (fun W => D g w W ∧ W.heap.size = w.heap.size + 1 + 1 ∧ Blk W w.heap.size 27 [.slice none 0 0, .slice none 0 0] ∧ Blk W (w.heap.size + 1) 51 [I 0, I 0, .slice none 0 0]) ⟨xd, by simp only [World.size_alloc], xb, xb⟩ ?_;rintro wa ⟨da, za_, br0, br1⟩;obtain ⟨za, za'⟩ := le_both za_;clear za_;have B0 := Lib.hid br0; have B1 := Lib.hid br1; clear br0 br1;have HCA := Lib.hid (da.cur HC.out);refine (spec_l9Draw g wa HCA.out).mono ?_;rintro e w2 ⟨⟨v1, v2, rfl, t, s, ot, hdt, hlk, os, hgs⟩, d2⟩;have z2 := d2.size;obtain ⟨A0, n0, c0, A1, n1, c1, rfl⟩ := TopologyO.shape ot;obtain ⟨A, c, rfl, -⟩ := SegmentO.front os;have OT := Lib.hid ot; have OS := Lib.hid os; have HDT := Lib.hid hdt; have HLK := Lib.hid hlk; have HGS := Lib.hid hgs; clear ot os hdt hlk hgs;go_upto_block 0 with (fail)
 refine name_wp (fun W => Ext w2 W ∧ W.heap.size = w2.heap.size + 1 + 1 ∧ Blk W w2.heap.size 27 [.slice A0 n0 c0, .slice A1 n1 c1] ∧ Blk W (w2.heap.size + 1) 51 [I s.ts, I s.beta, .slice A s.hops.length c]) ⟨xe, by simp only [World.size_alloc], xb, xb⟩ ?_;rintro w3 ⟨e3, z3_, b6, b7⟩;obtain ⟨z3, z3'⟩ := le_both z3_;clear z3_;have d23 : D g w2 w3 := D.of_ext e3 (by omega);have da3 : D g wa w3 := D.trans d2 d23
 have HW3 : Hid (OpenW wa.heap.size w2.heap.size (w2.heap.size + 1) w3 t s A0 n0 c0 A1 n1 c1 A c) := ⟨b6, b7, (OT.out.ext e3 (Nat.le_refl _)).more (Nat.le_refl _) e3.size, OS.out.up e3⟩
 clear b6 b7 OT OS
 have nb6 : ¬ w2.heap.size = g := by omega
 have nb7 : ¬ w2.heap.size + 1 = g := by omega
 have nb67 : ¬ w2.heap.size = w2.heap.size + 1 := by omega
 go_cut [8] from 9 (fun _ wx => ∃ (t : DTopology) (s : DSegment) (A0 : Option Addr) (n0 c0 : Nat) (A1 : Option Addr) (n1 c1 : Nat) (A : Option Addr) (c : Nat), OpenW wa.heap.size w2.heap.size (w2.heap.size + 1) wx t s A0 n0 c0 A1 n1 c1 A c ∧ DrawnTopo t ∧ LinksOk t ∧ GrownSeg t s ∧ D g wa wx)
 case first =>
  go_wp2_with fail
  go_loopw [8] (fun i wr => ∃ (k : Nat) (t : DTopology) (s : DSegment) (A0 : Option Addr) (n0 c0 : Nat) (A1 : Option Addr) (n1 c1 : Nat) (A : Option Addr) (c : Nat), k ≤ 4 ∧ i = I k ∧ OpenW wa.heap.size w2.heap.size (w2.heap.size + 1) wr t s A0 n0 c0 A1 n1 c1 A c ∧ DrawnTopo t ∧ LinksOk t ∧ GrownSeg t s ∧ D g wa wr) (fun i _ => 4 - (intOf i).toNat)
  case atStart => exact ⟨0, t, s, A0, n0, c0, A1, n1, c1, A, c, by omega, rfl, HW3.out, HDT.out, HLK.out, HGS.out, da3⟩
  case round =>
   clear HW3 HDT HLK HGS;obtain ⟨k, t, s, A0, n0, c0, A1, n1, c1, A, c, hk, rfl, hW, hdt, hlk, hgs, hd⟩ := hrel;have HDT := Lib.hid hdt; have HLK := Lib.hid hlk; have HGS := Lib.hid hgs; have HW := Lib.hid hW; clear hdt hlk hgs hW;have zr := hd.size;have lr7 := HW.out.b7.lt
   have i0 : (0 : Int) ≤ (k : Int) := by omega
   have K6 := Lib.hid HW.out.b6; have K7 := Lib.hid HW.out.b7;have b6_ := K6.out.ext (w' := wr) xe;have lb6_ := b6_.lt;obtain ⟨qb6__0, qb6__1⟩ := blk2 b6_;have fb6__0 := b6_.frozen 0;have fb6__1 := b6_.frozen 1;clear b6_;have b7_ := K7.out.ext (w' := wr) xe;have lb7_ := b7_.lt;obtain ⟨qb7__0, qb7__1, qb7__2⟩ := blk3 b7_;have fb7__0 := b7_.frozen 0;have fb7__1 := b7_.frozen 1;have fb7__2 := b7_.frozen 2;clear b7_;by_cases hlt : k < 4
   · have i1 : (k : Int) < 4 := by omega
     by_cases h0 : s.hops.length = 0
     · have dq : ((s.hops.length : Int) == 0) = true := by rw [h0]; rfl
       clear h0;go_wp2_with fail
       clear lb6_ qb6__0 qb6__1 fb6__0 fb6__1 lb7_ qb7__0 qb7__1 qb7__2 fb7__0 fb7__1 fb7__2 dq
       obtain ⟨wc, hwc⟩ : ∃ wc, wc = wr := ⟨_, rfl⟩
       have erc : Ext wr wc := by rw [hwc]; exact Ext.refl _
       have drc : D g wa wc := by rw [hwc]; exact hd
       have HWC : Hid (OpenW wa.heap.size w2.heap.size (w2.heap.size + 1) wc t s A0 n0 c0 A1 n1 c1 A c) := by rw [hwc]; exact HW.out
       have HCR := Lib.hid (drc.cur HCA.out);rw [← hwc];clear hwc;have zc := erc.size;have lc7 := HWC.out.b7.lt;refine (spec_l9Draw g wc HCR.out).mono ?_;rintro e w5 ⟨⟨v1, v2, rfl, t5, s5, ot, hdt, hlk, os, hgs⟩, d5⟩;have z5 := d5.size;obtain ⟨B0_, m0, e0, B1_, m1, e1, rfl⟩ := TopologyO.shape ot;obtain ⟨B, eb, rfl, hbe⟩ := SegmentO.front os;have OT := Lib.hid ot; have OS := Lib.hid os; clear ot os HDT HLK HGS;have HDT := Lib.hid hdt; have HLK := Lib.hid hlk; have HGS := Lib.hid hgs; clear hdt hlk hgs;have K6 := Lib.hid (HWC.out.b6.d d5 nb6); have K7 := Lib.hid (HWC.out.b7.d d5 nb7); clear HW HWC;have dac : D g wa w5 := D.trans drc d5;have b6_ := K6.out.ext (w' := w5) xe;have lb6_ := b6_.lt;obtain ⟨qb6__0, qb6__1⟩ := blk2 b6_;have fb6__0 := b6_.frozen 0;have fb6__1 := b6_.frozen 1;clear b6_;have b7_ := K7.out.ext (w' := w5) xe;have lb7_ := b7_.lt;obtain ⟨qb7__0, qb7__1, qb7__2⟩ := blk3 b7_;have fb7__0 := b7_.frozen 0;have fb7__1 := b7_.frozen 1;have fb7__2 := b7_.frozen 2;clear b7_;have HP := Lib.hid (OpenW.put (lc := wc.heap.size) K6.out K7.out nb67 (OT.out) (OS.out) (by omega) (by omega));have hdS := Lib.hid (D.setNew (D.setNew (D.setNew (D.setNew (D.setNew dac (by omega) (p := ⟨w2.heap.size, 0, none⟩) z2 (.slice B0_ m0 e0)) (by omega) (p := ⟨w2.heap.size, 1, none⟩) z2 (.slice B1_ m1 e1)) (by omega) (p := ⟨w2.heap.size + 1, 0, none⟩) (by dsimp only; omega) (I s5.ts)) (by omega) (p := ⟨w2.heap.size + 1, 1, none⟩) (by dsimp only; omega) (I s5.beta)) (by omega) (p := ⟨w2.heap.size + 1, 2, none⟩) (by dsimp only; omega) (.slice B s5.hops.length eb));by_cases h1 : 1 < s5.hops.length
       rotate_left
       · have j1 : ¬ (1 : Int) < (s5.hops.length : Int) := by omega
         clear h1;go_wp2_with fail
         go_roundw
         case rel => exact ⟨k + 1, t5, s5, B0_, m0, e0, B1_, m1, e1, B, eb, by omega, by go_num, HP.out.less (by omega), HDT.out, HLK.out, HGS.out, hdS.out⟩
         case measure => first | (simp [intOf]; done) | (simp [intOf]; omega)
       · have j1 : (1 : Int) < (s5.hops.length : Int) := by omega
         go_wp2_with fail
         refine name_calls (fun W => OpenW wc.heap.size w2.heap.size (w2.heap.size + 1) W t5 s5 B0_ m0 e0 B1_ m1 e1 B eb ∧ D g wa W) ⟨HP.out, hdS.out⟩ ?_;rintro w6 ⟨hw6, d6⟩;have HW6 := Lib.hid hw6;clear hw6 HP hdS lb6_ qb6__0 qb6__1 fb6__0 fb6__1 lb7_ qb7__0 qb7__1 qb7__2 fb7__0 fb7__1 fb7__2;refine (spec_IsTerminated _ s5 w6 (by exact SegmentO_rd HW6.out.os (Nat.le_refl _))).mono ?_;rintro e w7 ⟨rfl, e7⟩;have z6 := d6.size;have d7 : D g wa w7 := D.trans d6 (D.of_ext e7 (by omega));have HW7 := Lib.hid (HW6.out.ext e7);cases ht : isTerm s5
         · go_wp2_with fail
           go_roundw
           case rel => exact ⟨k + 1, t5, s5, B0_, m0, e0, B1_, m1, e1, B, eb, by omega, by go_num, HW7.out.less (by omega), HDT.out, HLK.out, HGS.out, d7⟩
           case measure => first | (simp [intOf]; done) | (simp [intOf]; omega)
         · clear ht
           obtain ⟨m, hm⟩ : ∃ m, s5.hops.length = m + 1 := ⟨s5.hops.length - 1, by omega⟩
           have e9 : (s5.hops.length : Int) - 1 = (m : Int) := by omega
           have mc : m ≤ eb := by omega
           have m5 : m ≤ 5 := by have := HGS.out.1; omega
           have mi : (m : Int) ≤ (eb : Int) := by omega
           have mi0 : (0 : Int) ≤ (m : Int) := by omega
           have HM := Lib.hid hm; clear hm;have K7 := Lib.hid HW7.out.b7;have b7_ := K7.out.ext (w' := w7) xe;have lb7_ := b7_.lt;obtain ⟨qb7__0, qb7__1, qb7__2⟩ := blk3 b7_;have fb7__0 := b7_.frozen 0;have fb7__1 := b7_.frozen 1;have fb7__2 := b7_.frozen 2;clear b7_;go_wp2_with fail
           go_roundw
           case rel => exact ⟨k + 1, t5, ⟨s5.ts, s5.beta, s5.hops.take m⟩, B0_, m0, e0, B1_, m1, e1, B, eb, by omega, by go_num, (HW7.out.cut nb67 (by omega) (by have := HM.out; omega)).less (by omega), HDT.out, HLK.out, HGS.out.cut m, D.setNew d7 (by omega) (by dsimp only; omega) _⟩
           case measure => first | (simp [intOf]; done) | (simp [intOf]; omega)
     have dq : ((s.hops.length : Int) == 0) = false := beq_eq_false_iff_ne.2 (by omega);go_wp2_with fail
     refine (spec_IsTerminated _ s wr (by exact SegmentO_rd HW.out.os (Nat.le_refl _))).mono ?_;rintro e wc ⟨rfl, erc⟩;have drc : D g wa wc := D.trans hd (D.of_ext erc (by omega));have HWC := Lib.hid (HW.out.ext erc);cases ht : isTerm s
     · have HCR := Lib.hid (drc.cur HCA.out)
       clear lb6_ qb6__0 qb6__1 fb6__0 fb6__1 lb7_ qb7__0 qb7__1 qb7__2 fb7__0 fb7__1 fb7__2 dq h0 ht;go_wp2_with fail
       go_meet
       case rel => exact ⟨t, s, A0, n0, c0, A1, n1, c1, A, c, HWC.out, HDT.out, HLK.out, HGS.out, drc⟩
     · clear ht
       have HCR := Lib.hid (drc.cur HCA.out);go_wp2_with fail
       clear lb6_ qb6__0 qb6__1 fb6__0 fb6__1 lb7_ qb7__0 qb7__1 qb7__2 fb7__0 fb7__1 fb7__2 dq h0;have zc := erc.size;have lc7 := HWC.out.b7.lt;refine (spec_l9Draw g wc HCR.out).mono ?_;rintro e w5 ⟨⟨v1, v2, rfl, t5, s5, ot, hdt, hlk, os, hgs⟩, d5⟩;have z5 := d5.size;obtain ⟨B0_, m0, e0, B1_, m1, e1, rfl⟩ := TopologyO.shape ot;obtain ⟨B, eb, rfl, hbe⟩ := SegmentO.front os;have OT := Lib.hid ot; have OS := Lib.hid os; clear ot os HDT HLK HGS;have HDT := Lib.hid hdt; have HLK := Lib.hid hlk; have HGS := Lib.hid hgs; clear hdt hlk hgs;have K6 := Lib.hid (HWC.out.b6.d d5 nb6); have K7 := Lib.hid (HWC.out.b7.d d5 nb7); clear HW HWC;have dac : D g wa w5 := D.trans drc d5;have b6_ := K6.out.ext (w' := w5) xe;have lb6_ := b6_.lt;obtain ⟨qb6__0, qb6__1⟩ := blk2 b6_;have fb6__0 := b6_.frozen 0;have fb6__1 := b6_.frozen 1;clear b6_;have b7_ := K7.out.ext (w' := w5) xe;have lb7_ := b7_.lt;obtain ⟨qb7__0, qb7__1, qb7__2⟩ := blk3 b7_;have fb7__0 := b7_.frozen 0;have fb7__1 := b7_.frozen 1;have fb7__2 := b7_.frozen 2;clear b7_;have HP := Lib.hid (OpenW.put (lc := wc.heap.size) K6.out K7.out nb67 (OT.out) (OS.out) (by omega) (by omega));have hdS := Lib.hid (D.setNew (D.setNew (D.setNew (D.setNew (D.setNew dac (by omega) (p := ⟨w2.heap.size, 0, none⟩) z2 (.slice B0_ m0 e0)) (by omega) (p := ⟨w2.heap.size, 1, none⟩) z2 (.slice B1_ m1 e1)) (by omega) (p := ⟨w2.heap.size + 1, 0, none⟩) (by dsimp only; omega) (I s5.ts)) (by omega) (p := ⟨w2.heap.size + 1, 1, none⟩) (by dsimp only; omega) (I s5.beta)) (by omega) (p := ⟨w2.heap.size + 1, 2, none⟩) (by dsimp only; omega) (.slice B s5.hops.length eb));by_cases h1 : 1 < s5.hops.length
       rotate_left
       · have j1 : ¬ (1 : Int) < (s5.hops.length : Int) := by omega
         clear h1;go_wp2_with fail
         go_roundw
         case rel => exact ⟨k + 1, t5, s5, B0_, m0, e0, B1_, m1, e1, B, eb, by omega, by go_num, HP.out.less (by omega), HDT.out, HLK.out, HGS.out, hdS.out⟩
         case measure => first | (simp [intOf]; done) | (simp [intOf]; omega)
       · have j1 : (1 : Int) < (s5.hops.length : Int) := by omega
         go_wp2_with fail
         refine name_calls (fun W => OpenW wc.heap.size w2.heap.size (w2.heap.size + 1) W t5 s5 B0_ m0 e0 B1_ m1 e1 B eb ∧ D g wa W) ⟨HP.out, hdS.out⟩ ?_;rintro w6 ⟨hw6, d6⟩;have HW6 := Lib.hid hw6;clear hw6 HP hdS lb6_ qb6__0 qb6__1 fb6__0 fb6__1 lb7_ qb7__0 qb7__1 qb7__2 fb7__0 fb7__1 fb7__2;refine (spec_IsTerminated _ s5 w6 (by exact SegmentO_rd HW6.out.os (Nat.le_refl _))).mono ?_;rintro e w7 ⟨rfl, e7⟩;have z6 := d6.size;have d7 : D g wa w7 := D.trans d6 (D.of_ext e7 (by omega));have HW7 := Lib.hid (HW6.out.ext e7);cases ht : isTerm s5
         · go_wp2_with fail
           go_roundw
           case rel => exact ⟨k + 1, t5, s5, B0_, m0, e0, B1_, m1, e1, B, eb, by omega, by go_num, HW7.out.less (by omega), HDT.out, HLK.out, HGS.out, d7⟩
           case measure => first | (simp [intOf]; done) | (simp [intOf]; omega)
         · clear ht
           obtain ⟨m, hm⟩ : ∃ m, s5.hops.length = m + 1 := ⟨s5.hops.length - 1, by omega⟩
           have e9 : (s5.hops.length : Int) - 1 = (m : Int) := by omega
           have mc : m ≤ eb := by omega
           have m5 : m ≤ 5 := by have := HGS.out.1; omega
           have mi : (m : Int) ≤ (eb : Int) := by omega
           have mi0 : (0 : Int) ≤ (m : Int) := by omega
           have HM := Lib.hid hm; clear hm;have K7 := Lib.hid HW7.out.b7;have b7_ := K7.out.ext (w' := w7) xe;have lb7_ := b7_.lt;obtain ⟨qb7__0, qb7__1, qb7__2⟩ := blk3 b7_;have fb7__0 := b7_.frozen 0;have fb7__1 := b7_.frozen 1;have fb7__2 := b7_.frozen 2;clear b7_;go_wp2_with fail
           go_roundw
           case rel => exact ⟨k + 1, t5, ⟨s5.ts, s5.beta, s5.hops.take m⟩, B0_, m0, e0, B1_, m1, e1, B, eb, by omega, by go_num, (HW7.out.cut nb67 (by omega) (by have := HM.out; omega)).less (by omega), HDT.out, HLK.out, HGS.out.cut m, D.setNew d7 (by omega) (by dsimp only; omega) _⟩
           case measure => first | (simp [intOf]; done) | (simp [intOf]; omega)
   · have i1 : ¬ (k : Int) < 4 := by omega
     obtain ⟨wc, hwc⟩ : ∃ wc, wc = wr := ⟨_, rfl⟩
     have drc : D g wa wc := by rw [hwc]; exact hd
     have HWC : Hid (OpenW wa.heap.size w2.heap.size (w2.heap.size + 1) wc t s A0 n0 c0 A1 n1 c1 A c) := by rw [hwc]; exact HW.out
     have HCR := Lib.hid (drc.cur HCA.out);subst hwc;clear lb6_ qb6__0 qb6__1 fb6__0 fb6__1 lb7_ qb7__0 qb7__1 qb7__2 fb7__0 fb7__1 fb7__2;go_wp2_with fail
     go_meet
     case rel => exact ⟨t, s, A0, n0, c0, A1, n1, c1, A, c, HWC.out, HDT.out, HLK.out, HGS.out, drc⟩
 case rest =>
  obtain ⟨t, s, A0, n0, c0, A1, n1, c1, A, c, hw, hdt, hlk, hgs, drc⟩ := hcut;clear HW3 HDT HLK HGS
  obtain ⟨w8, hw8⟩ : ∃ w8, w8 = wc := ⟨_, rfl⟩
  subst hw8;have HWC := Lib.hid hw; have HDT := Lib.hid hdt; have HLK := Lib.hid hlk; have HGS := Lib.hid hgs; clear hw hdt hlk hgs;have HCR := Lib.hid (drc.cur HCA.out);have lc7 := HWC.out.b7.lt;have zc := drc.size;have K7 := Lib.hid HWC.out.b7
  go_upto_region 8 with (fail)
  go_cut [59] from 52 (fun b wx => ∃ bb : Bool, b = .bool bb ∧ (bb = false → 0 < s.hops.length) ∧ D g w8 wx)
  case first =>
   have b7_ := K7.out.ext (w' := w8) xe;have lb7_ := b7_.lt;obtain ⟨qb7__0, qb7__1, qb7__2⟩ := blk3 b7_;have fb7__0 := b7_.frozen 0;have fb7__1 := b7_.frozen 1;have fb7__2 := b7_.frozen 2;clear b7_;by_cases h0 : s.hops.length = 0
   · have dq : ((s.hops.length : Int) == 0) = true := by rw [h0]; rfl
     clear h0;go_wp2_with fail
     go_meet
     case rel => exact ⟨true, rfl, (fun h => by cases h), D.refl _ _⟩
   · have dq : ((s.hops.length : Int) == 0) = false := beq_eq_false_iff_ne.2 (by omega)
     have H0 := Lib.hid h0; clear h0;go_wp2_with fail
     refine (spec_l1Once g 8 w8 HCR.out (by omega)).mono ?_;rintro e wd ⟨bo, rfl, d8⟩;cases bo
     all_goals
      go_wp2_with fail
      go_meet
      case rel => exact ⟨_, rfl, (fun _ => by have := H0.out; omega), d8⟩
  case rest =>
   obtain ⟨bb, rfl, hbb, d8⟩ := hcut;have HBB := Lib.hid hbb; clear hbb
   obtain ⟨wd, hwd⟩ : ∃ wd, wd = wc := ⟨_, rfl⟩
   subst hwd;cases bb
   · have hpos := HBB.out rfl
     have HWD := Lib.hid (HWC.out.d d8 nb6 nb7 (by omega));have drd : D g wa wd := D.trans drc d8
     obtain ⟨m, hm⟩ : ∃ m, s.hops.length = m + 1 := ⟨s.hops.length - 1, by omega⟩
     have hml : m < s.hops.length := by omega
     have m5 : m ≤ 5 := by have := HGS.out.1; omega
     obtain ⟨A_, n_, c_, e_, sl_⟩ := SegmentO_rd HWD.out.os (Nat.le_refl _)
     have e2_ : Value.slice A s.hops.length c = .slice A_ n_ c_ := by
      have e4 : [I s.ts, I s.beta, Value.slice A s.hops.length c] = [I s.ts, I s.beta, .slice A_ n_ c_] := congrArg Array.toList (Value.agg.inj e_);simp only [List.cons.injEq, and_true, true_and] at e4;exact e4
     rw [← e2_] at sl_;clear e_ e2_;obtain ⟨b, off, hA, hb, hkl, hc⟩ := sl_.at_ hml
     generalize s.hops[m] = x at *
     clear sl_;subst hA;obtain ⟨hx_0, hx_1, hx_2, hx_3, hx_4⟩ := hc
     have e1 : (s.hops.length : Int) - 1 = (m : Int) := by omega
     have zd := d8.size;have HM := Lib.hid hm; clear hm;have K6 := Lib.hid HWD.out.b6; have K7 := Lib.hid HWD.out.b7;have b6_ := K6.out.ext (w' := wd) xe;have lb6_ := b6_.lt;obtain ⟨qb6__0, qb6__1⟩ := blk2 b6_;have fb6__0 := b6_.frozen 0;have fb6__1 := b6_.frozen 1;clear b6_;have b7_ := K7.out.ext (w' := wd) xe;have lb7_ := b7_.lt;obtain ⟨qb7__0, qb7__1, qb7__2⟩ := blk3 b7_;have fb7__0 := b7_.frozen 0;have fb7__1 := b7_.frozen 1;have fb7__2 := b7_.frozen 2;clear b7_;go_wp2_with fail
     refine name_calls (fun W => Ext wd W ∧ Blk W wd.heap.size 98 [I x.asn, I x.ing, I x.egr, I x.exp, I x.mac]) ⟨xe, xb⟩ ?_;rintro we ⟨ee, bh⟩;clear bh;refine (spec_RemoteEnd _ x.asn x.egr t _ (by exact TopologyO_rd (HWD.out.ot.ext ee (Nat.le_refl _)) ee.size)).mono ?_;rintro e wf ⟨rfl, ef⟩;have edf : Ext wd wf := Ext.trans ee ef;have zf := edf.size;have drf : D g wa wf := D.trans drd (D.of_ext edf (by omega));have HWF := Lib.hid (HWD.out.ext edf)
     generalize (remEnd t x.asn x.egr).1 = m1 at *
     generalize (remEnd t x.asn x.egr).2 = m2 at *
     clear lb6_ qb6__0 qb6__1 fb6__0 fb6__1 lb7_ qb7__0 qb7__1 qb7__2 fb7__0 fb7__1 fb7__2 hx_0 hx_1 hx_2 hx_3 hx_4;have K6 := Lib.hid HWF.out.b6; have K7 := Lib.hid HWF.out.b7;have b6_ := K6.out.ext (w' := wf) xe;have lb6_ := b6_.lt;obtain ⟨qb6__0, qb6__1⟩ := blk2 b6_;have fb6__0 := b6_.frozen 0;have fb6__1 := b6_.frozen 1;clear b6_;have b7_ := K7.out.ext (w' := wf) xe;have lb7_ := b7_.lt;obtain ⟨qb7__0, qb7__1, qb7__2⟩ := blk3 b7_;have fb7__0 := b7_.frozen 0;have fb7__1 := b7_.frozen 1;have fb7__2 := b7_.frozen 2;clear b7_
     have nw0 : ¬ w.heap.size = g := by omega
     have nw1 : ¬ w.heap.size + 1 = g := by omega
     have n1_ : ¬ w2.heap.size = w.heap.size := by omega
     have n2_ : ¬ w.heap.size = w2.heap.size := by omega
     have n3_ : ¬ w2.heap.size = w.heap.size + 1 := by omega
     have n4_ : ¬ w.heap.size + 1 = w2.heap.size := by omega
     have n5_ : ¬ w2.heap.size + 1 = w.heap.size := by omega
     have n6_ : ¬ w.heap.size = w2.heap.size + 1 := by omega
     have n7_ : ¬ w2.heap.size + 1 = w.heap.size + 1 := by omega
     have n8_ : ¬ w.heap.size + 1 = w2.heap.size + 1 := by omega
     have dwwf : D g w wf := D.trans da drf;have B0wf := Lib.hid (B0.out.d drf (by omega)); have B1wf := Lib.hid (B1.out.d drf (by omega));have c0_ := B0wf.out.ext (w' := wf) xe;have lc0_ := c0_.lt;obtain ⟨qc0__0, qc0__1⟩ := blk2 c0_;have fc0__0 := c0_.frozen 0;have fc0__1 := c0_.frozen 1;clear c0_;have c1_ := B1wf.out.ext (w' := wf) xe;have lc1_ := c1_.lt;obtain ⟨qc1__0, qc1__1, qc1__2⟩ := blk3 c1_;have fc1__0 := c1_.frozen 0;have fc1__1 := c1_.frozen 1;have fc1__2 := c1_.frozen 2;clear c1_;go_wp2_with fail
     go_region
     all_goals
      go_wp2_with fail
      refine bodyPost_ret (v := .tuple #[.agg #[.slice A0 n0 c0, .slice A1 n1 c1], .agg #[I s.ts, I s.beta, .slice (some ⟨b, off, none⟩) s.hops.length c], I m1, I m2]) (by simp [results, Tryz.results111, go_sem, *]) rfl ⟨⟨_, _, _, _, rfl, t, s, ?_, HDT.out, HLK.out, ?_, HGS.out⟩, ?_⟩
      · exact TopologyO.more (HWF.out.ot.keep fun k h1 _ _ => (kp (lo := wa.heap.size)).same k h1) (by omega) (by first | exact Nat.le_of_eq (kp (lo := wa.heap.size)).size.symm | (simp only [World.size_setCell]; omega))
      · exact SegmentO.more (HWF.out.os.keep fun k h1 _ _ => (kp (lo := wa.heap.size)).same k (by omega)) (by omega) (by first | exact Nat.le_of_eq (kp (lo := wa.heap.size)).size.symm | (simp only [World.size_setCell]; omega))
      · exact xd
   · have HWD := Lib.hid (HWC.out.d d8 nb6 nb7 (by omega))
     have drd : D g wa wd := D.trans drc d8;have zd := d8.size;have K6 := Lib.hid HWD.out.b6; have K7 := Lib.hid HWD.out.b7;have b6_ := K6.out.ext (w' := wd) xe;have lb6_ := b6_.lt;obtain ⟨qb6__0, qb6__1⟩ := blk2 b6_;have fb6__0 := b6_.frozen 0;have fb6__1 := b6_.frozen 1;clear b6_;have b7_ := K7.out.ext (w' := wd) xe;have lb7_ := b7_.lt;obtain ⟨qb7__0, qb7__1, qb7__2⟩ := blk3 b7_;have fb7__0 := b7_.frozen 0;have fb7__1 := b7_.frozen 1;have fb7__2 := b7_.frozen 2;clear b7_;go_wp2_with fail
     have nw0 : ¬ w.heap.size = g := by omega
     have nw1 : ¬ w.heap.size + 1 = g := by omega
     have n1_ : ¬ w2.heap.size = w.heap.size := by omega
     have n2_ : ¬ w.heap.size = w2.heap.size := by omega
     have n3_ : ¬ w2.heap.size = w.heap.size + 1 := by omega
     have n4_ : ¬ w.heap.size + 1 = w2.heap.size := by omega
     have n5_ : ¬ w2.heap.size + 1 = w.heap.size := by omega
     have n6_ : ¬ w.heap.size = w2.heap.size + 1 := by omega
     have n7_ : ¬ w2.heap.size + 1 = w.heap.size + 1 := by omega
     have n8_ : ¬ w.heap.size + 1 = w2.heap.size + 1 := by omega
     have dwwd : D g w wd := D.trans da drd;have B0wd := Lib.hid (B0.out.d drd (by omega)); have B1wd := Lib.hid (B1.out.d drd (by omega));have c0_ := B0wd.out.ext (w' := wd) xe;have lc0_ := c0_.lt;obtain ⟨qc0__0, qc0__1⟩ := blk2 c0_;have fc0__0 := c0_.frozen 0;have fc0__1 := c0_.frozen 1;clear c0_;have c1_ := B1wd.out.ext (w' := wd) xe;have lc1_ := c1_.lt;obtain ⟨qc1__0, qc1__1, qc1__2⟩ := blk3 c1_;have fc1__0 := c1_.frozen 0;have fc1__1 := c1_.frozen 1;have fc1__2 := c1_.frozen 2;clear c1_;have dd9 : D g wd wd.drew := D.drew (D.refl _ _);have HCD := Lib.hid (dd9.cur (drd.cur HCA.out))
     go_region_with (first
      | (go_at_call 31; (with_reducible show Calls _ _ #[_, I 7] _ _); go_loud (refine (spec_l1Below g 7 _ (by exact hcn.out) (by omega)).mono ?_; rintro e w9 ⟨x9, rfl, -, d9⟩; have dn9 : D g wd w9 := D.trans dn7 d9; have z9 := d9.size; clear hc7 hf7 hz7; obtain ⟨hc9, hf9, hz9⟩ := dn9.facts))
      | (go_at_call 31; (with_reducible show Calls _ _ #[_, I 8] _ _); go_loud (refine (spec_l1Below g 8 wd.drew (by exact HCD.out) (by omega)).mono ?_; rintro e w7 ⟨x7, rfl, -, d7⟩; have hcn := Lib.hid (d7.cur HCD.out); have dn7 : D g wd w7 := D.trans dd9 d7; have z7 := d7.size; obtain ⟨hc7, hf7, hz7⟩ := dn7.facts)))
     all_goals
      go_wp2_with fail
      refine bodyPost_ret (v := .tuple #[.agg #[.slice A0 n0 c0, .slice A1 n1 c1], .agg #[I s.ts, I s.beta, .slice A s.hops.length c], I x7, I x9]) (by simp [results, Tryz.results111, go_sem, *]) rfl ⟨⟨_, _, _, _, rfl, t, s, ?_, HDT.out, HLK.out, ?_, HGS.out⟩, ?_⟩
      · exact TopologyO.more ((((HWD.out.ot.d dn9 (by omega)).more (Nat.le_refl _) dn9.size)).keep fun k h1 _ _ => (kp (lo := wa.heap.size)).same k h1) (by omega) (by first | exact Nat.le_of_eq (kp (lo := wa.heap.size)).size.symm | (simp only [World.size_setCell]; omega))
      · exact SegmentO.more ((((HWD.out.os.dd dn9 (by omega)).more (Nat.le_refl _) dn9.size)).keep fun k h1 _ _ => (kp (lo := wa.heap.size)).same k (by omega)) (by omega) (by first | exact Nat.le_of_eq (kp (lo := wa.heap.size)).size.symm | (simp only [World.size_setCell]; omega))
      · have d09 : D g w w9 := D.trans dwwd dn9
        exact xd
end Go.Proofs.YtfpfgifjigenaaaGreat
