/- The contract of the reference's draw of beacons that came to a realm: l14Draw. No conditions. -/
import Derived.Test.YtfpfgifjigenaaaGreatD38
import Derived.Test.YtfpfgifjigenaaaGreatGL14c
import Derived.Test.YtfpfgifjigenaaaGreatL15d
namespace Go.Proofs.YtfpfgifjigenaaaGreat
open Go.RowKit
set_option linter.unusedVariables false
theorem beaconV_of {B : Nat} {w : World} {A : Option Addr} {n c : Nat} {q ts be : Int} {hops : List DHop} (h : HopS B w (.slice A n c) hops) : BeaconV B w (.agg #[I q, I ts, I be, .slice A n c]) ⟨q, ⟨ts, be, hops⟩⟩ := ⟨_, _, _, rfl, h⟩
theorem bcnTot_small {l : List DBeacon} (h : SmallS l) : bcnTot l ≤ 1000 := by
 have h1 := totS_le (fun u : DBeacon => u.seg.hops.length) 8 l h.2;have h2 := h.1;show totS (fun u : DBeacon => u.seg.hops.length) l ≤ 1000;omega
theorem NO.none0 {α : Type} {OC : World → List Nat → List Value → α → Prop} {E sz lo hi : Nat} {w : World} {v : Value} (h : Own E sz lo hi w v 0 []) : NO OC E sz lo hi w v [] := by
 refine ⟨[], [], h, ⟨rfl, rfl⟩, ?_, fun b hb => by simp at hb⟩
 cases v.ownBlock <;> simp
theorem BeaconSO.dd {lo hi g : Nat} {w w' : World} {v : Value} {l : List DBeacon} (h : BeaconSO lo hi w v l) (hd : D g w w') (hg : g < lo) : BeaconSO lo hi w' v l := NO.keep BeaconOC.keeps h fun k h1 _ h3 => hd.block h3 (by omega)
theorem BeaconSO.far {lo hi b i : Nat} {w : World} {v u : Value} {l : List DBeacon} (h : BeaconSO lo hi w v l) (hb : b < lo) : BeaconSO lo hi (w.setCell ⟨b, i, none⟩ u) v l := NO.keep BeaconOC.keeps h fun k h1 _ _ => Below.heap_setCell _ _ _ _ (by dsimp only; omega)
theorem BeaconSO.less {lo hi lo' hi' : Nat} {w : World} {v : Value} {l : List DBeacon} (h : BeaconSO lo hi w v l) (h1 : lo' ≤ lo) (h2 : hi ≤ hi') : BeaconSO lo' hi' w v l := NO.more h h1 h2
theorem HopSO.seg {lo hi : Nat} {w : World} {A : Option Addr} {n c : Nat} {ts be : Int} {hops : List DHop} (h : HopSO lo hi w (.slice A n c) hops) (hl : lo ≤ hi) : SegmentO lo hi w (.agg #[I ts, I be, .slice A n c]) ⟨ts, be, hops⟩ := ⟨_, rfl, h, hl⟩
theorem HopSO.dd {lo hi g : Nat} {w w' : World} {v : Value} {l : List DHop} (h : HopSO lo hi w v l) (hd : D g w w') (hg : g < lo) : HopSO lo hi w' v l := h.keep fun k h1 _ h3 => hd.block h3 (by omega)
set_option maxRecDepth 100000 in
set_option maxHeartbeats 8000000 in
theorem spec_l14Draw (g : Nat) (w : World) (hc : Cur w g) : Calls Tryz.prog 60 #[.pointer (some ⟨g, 0, none⟩)] w fun e w' => (∃ vt r vl vg, e = .returned (.tuple #[vt, I r, vl, vg]) ∧ ∃ (t : DTopology) (l : List DBeacon) (G : DBeacon) (AG : Option Addr) (cG m : Nat), TopologyO w.heap.size m w' vt t ∧ (w.heap.size ≤ m ∧ m ≤ w'.heap.size) ∧ DrawnTopo t ∧ BeaconSO m w'.heap.size w' vl l ∧ SmallS l ∧ vg = .agg #[I G.ing, I G.seg.ts, I G.seg.beta, .slice AG G.seg.hops.length cG] ∧ SegmentO w.heap.size w'.heap.size w' (.agg #[I G.seg.ts, I G.seg.beta, .slice AG G.seg.hops.length cG]) G.seg ∧ G.seg.hops.length ≤ 5) ∧ D g w w' := by
 have HC := Lib.hid hc;have hgw := hc.lt;clear hc
 go_enter Tryz.func60, Tryz.ntmps60
 go_wp2_with fail
 refine name_calls (fun W => D g w W ∧ W.heap.size = w.heap.size + 1 + 1 ∧ Blk W w.heap.size 27 [.slice none 0 0, .slice none 0 0] ∧ Blk W (w.heap.size + 1) 53 [I 0, I 0, I 0, .slice none 0 0]) ⟨xd, by simp only [World.size_alloc], xb, xb⟩ ?_;rintro wa ⟨da, za_, br0, br1⟩;obtain ⟨za, za'⟩ := le_both za_;clear za_;have B0 := Lib.hid br0; have B1 := Lib.hid br1; clear br0 br1;have HCA := Lib.hid (da.cur HC.out);refine (spec_l13Open g wa HCA.out).mono ?_;rintro e w2 ⟨⟨v1, v2, r, q, rfl, t, s, ot, hdt, -, os, hgs⟩, d2⟩;have z2 := d2.size;obtain ⟨A0, n0, c0, A1, n1, c1, rfl, st_0, st_1⟩ := ot.v;obtain ⟨lt_0, kt_0, mt_0⟩ := st_0.len;subst lt_0;obtain ⟨A, c, rfl, hsc⟩ := SegmentO.front os;have OT := Lib.hid ot; have OS := Lib.hid os; have HDT := Lib.hid hdt; have HAS := Lib.hid hgs.2; clear ot os hdt st_0 st_1;have hs5 := hgs.1;clear hgs;go_wp2_with fail
 refine name_calls (fun W => ∃ wb, Ext w2 wb ∧ wb.heap.size = w2.heap.size + 1 + 1 ∧ Blk wb w2.heap.size 27 [.slice A0 t.ases.length c0, .slice A1 n1 c1] ∧ Blk wb (w2.heap.size + 1) 51 [I s.ts, I s.beta, .slice A s.hops.length c] ∧ Ext wb W ∧ W.heap.size = wb.heap.size + 1 + 1 ∧ Blk W (w2.heap.size + 1 + 1) 53 [I q, I s.ts, I s.beta, .slice A s.hops.length c] ∧ BeaconSO (w2.heap.size + 1 + 1 + 1) W.heap.size W (.slice (some ⟨w2.heap.size + 1 + 1 + 1, 0, none⟩) 0 0) []) ⟨_, xe, by simp only [World.size_alloc], xb, xb, ((Ext.refl _).alloc _).alloc _, by simp only [World.size_alloc], xb, NO.none0 (own_zero' _ _ _ _ _ (by simp only [World.size_alloc]) (by simp only [World.size_alloc]; exact Nat.le_refl _))⟩ ?_;rintro w3 ⟨wb, eb, zb_, b6, b7, ebw, z3_, bg, hls⟩;obtain ⟨zb, zb'⟩ := le_both zb_;obtain ⟨z3, z3'⟩ := le_both z3_;clear zb_ z3_
 have HWB : Hid (OpenW wa.heap.size w2.heap.size (w2.heap.size + 1) wb t s A0 t.ases.length c0 A1 n1 c1 A c) := ⟨b6, b7, (OT.out.ext eb (Nat.le_refl _)).more (Nat.le_refl _) eb.size, OS.out.up eb⟩
 have BG := Lib.hid bg; have HLS := Lib.hid hls; clear b6 b7 bg hls
 have nb6 : ¬ w2.heap.size = g := by omega
 have nb7 : ¬ w2.heap.size + 1 = g := by omega
 have nb8 : ¬ w2.heap.size + 1 + 1 = g := by omega
 have dbw : D g wb w3 := D.of_ext ebw (by omega);have dab : D g wa wb := D.trans d2 (D.of_ext eb (by omega));have OS3 := Lib.hid ((OS.out.up eb).up ebw);have HC3 := Lib.hid ((D.trans dab dbw).cur HCA.out);refine (spec_l1Below g 5 w3 HC3.out (by omega)).mono ?_;rintro e w4 ⟨x4, rfl, ⟨x4a, x4b, -⟩, d4⟩;have x4b := x4b (by omega)
 obtain ⟨c4_, rfl⟩ : ∃ c : Nat, x4 = (c : Int) := ⟨x4.toNat, by omega⟩
 have z4 := d4.size;go_wp2_with fail
 have HL4 : Hid (BeaconSO (w2.heap.size + 1 + 1 + 1) w4.heap.size w4 (.slice (some ⟨w2.heap.size + 1 + 1 + 1, 0, none⟩) 0 0) []) := by
  have h1 := BeaconSO.dd (g := g) HLS.out d4 (by omega);exact h1.less (Nat.le_refl _) z4
 go_loopw [11, 12] (fun v i wr => ∃ (k : Nat) (l : List DBeacon) (G : DBeacon) (AG : Option Addr) (cG : Nat), k ≤ 4 ∧ i = I k ∧ Blk wr (w2.heap.size + 1 + 1) 53 [I G.ing, I G.seg.ts, I G.seg.beta, .slice AG G.seg.hops.length cG] ∧ SegmentO wa.heap.size wr.heap.size wr (.agg #[I G.seg.ts, I G.seg.beta, .slice AG G.seg.hops.length cG]) G.seg ∧ G.seg.hops.length ≤ 5 ∧ BeaconSO (w2.heap.size + 1 + 1 + 1) wr.heap.size wr v l ∧ SmallS l ∧ D g wb wr) (fun _ i _ => (intOf i).toNat)
 case atStart => exact ⟨c4_, [], ⟨q, s⟩, A, c, by omega, rfl, BG.out.d d4 nb8, (OS3.out.dd d4 (by omega)).more (Nat.le_refl _) z4, hs5, HL4.out, ⟨by simp, fun y hy => by simp at hy⟩, D.trans dbw d4⟩
 case round =>
  clear BG HLS OS3 HC3 HL4;obtain ⟨k, l, G, AG, cG, hk, rfl, hbg, hsg, hg5, hl, hsm, hd⟩ := hrel;have BG := Lib.hid hbg; have SG := Lib.hid hsg; have HL := Lib.hid hl; have HSM := Lib.hid hsm; clear hbg hsg hl hsm;obtain ⟨Al, nl, cl, rfl⟩ := NO.slice HL.out;have zr := hd.size;have dar : D g wa wr := D.trans dab hd;have HWr := Lib.hid (HWB.out.d hd nb6 nb7 (by omega));have HCr := Lib.hid (dar.cur HCA.out);have lbg := BG.out.lt;by_cases hk0 : 0 < k
  · obtain ⟨km, rfl⟩ : ∃ km : Nat, k = km + 1 := ⟨k - 1, by omega⟩
    have i2 : (0 : Int) < ((km + 1 : Nat) : Int) := by omega
    have K7 := Lib.hid HWr.out.b7;have b7_ := K7.out.ext (w' := wr) xe;have lb7_ := b7_.lt;obtain ⟨qb7__0, qb7__1, qb7__2⟩ := blk3 b7_;have fb7__0 := b7_.frozen 0;have fb7__1 := b7_.frozen 1;have fb7__2 := b7_.frozen 2;clear b7_;go_wp2_with fail
    clear lb7_ qb7__0 qb7__1 qb7__2 fb7__0 fb7__1 fb7__2;refine (spec_l9Copy _ s wr (by exact SegmentO_rd HWr.out.os (Nat.le_refl _)) (by omega)).mono ?_;rintro e wc ⟨vx, rfl, ox, ec⟩;have zc := ec.size;obtain ⟨Ax, cx, rfl, hcx⟩ := SegmentO.front ox
    have OX : Hid (HopSO wr.heap.size wc.heap.size wc (.slice Ax s.hops.length cx) s.hops) := by
     obtain ⟨u, e, oo, -⟩ := ox;have e4 : [I s.ts, I s.beta, Value.slice Ax s.hops.length cx] = [I s.ts, I s.beta, u] := congrArg Array.toList (Value.agg.inj e);simp only [List.cons.injEq, and_true, true_and] at e4;rw [e4];exact oo
    clear ox;have drc : D g wr wc := D.of_ext ec (by omega);have K6c := Lib.hid (HWr.out.b6.ext ec);have b6_ := K6c.out.ext (w' := wc) xe;have lb6_ := b6_.lt;obtain ⟨qb6__0, qb6__1⟩ := blk2 b6_;have fb6__0 := b6_.frozen 0;have fb6__1 := b6_.frozen 1;clear b6_;by_cases h0 : s.hops.length = 0
    · have i5 : ¬ (0 : Int) < (s.hops.length : Int) := by omega
      clear h0;go_wp2_with fail
      clear lb6_ qb6__0 qb6__1 fb6__0 fb6__1;refine name_calls (fun W => Ext wc W ∧ Blk W wc.heap.size 51 [I s.ts, I s.beta, .slice Ax s.hops.length cx]) ⟨xe, xb⟩ ?_;rintro wp ⟨ep, bx⟩;have zp := ep.size;have BX := Lib.hid bx; clear bx;have drp : D g wr wp := D.trans drc (D.of_ext ep (by omega));have OXp := Lib.hid (HopSO.dd (g := g) OX.out (D.of_ext ep (by omega)) (by omega)); clear OX;have hx5 := hs5;have HWp := Lib.hid (HWr.out.d drp nb6 nb7 (by omega));have HLp := Lib.hid ((HL.out.dd drp (by omega)).less (Nat.le_refl _) drp.size);refine (spec_StoreBeacon _ r _ _ t l ⟨q, ⟨s.ts, s.beta, s.hops⟩⟩ wp (by exact TopologyO_rd HWp.out.ot (Nat.le_refl _)) (by exact BeaconSO_rd HLp.out (Nat.le_refl _)) (beaconV_of (by exact HopSO_rd OXp.out)) (by have := bcnTot_small HSM.out; omega) (by dsimp only; omega)).mono ?_;rintro e wS ⟨vS, rfl, oS, eS⟩;obtain ⟨Av, nv, cv, rfl⟩ := NO.slice oS;have zS := eS.size;have HLS := Lib.hid (storeB_small (t := t) (r := r) (g := ⟨q, ⟨s.ts, s.beta, s.hops⟩⟩) HSM.out)
      generalize storeB t r l ⟨q, ⟨s.ts, s.beta, s.hops⟩⟩ = l2 at *
      have OS_ := Lib.hid oS; clear oS;have drS : D g wr wS := D.trans drp (D.of_ext eS (by omega));go_wp2_with fail
      refine (spec_l1Once g 3 wS ((D.trans dar drS).cur HCA.out) (by omega)).mono ?_;rintro e wT ⟨bo, rfl, dT⟩;have zT := dT.size;have drT : D g wr wT := D.trans drS dT;have dpT : D g wp wT := D.trans (D.of_ext eS (by omega)) dT;cases bo
      · go_wp2_with fail
        go_roundw
        case rel => exact ⟨km, l2, G, AG, cG, by omega, by go_num, BG.out.d drT nb8, (SG.out.dd drT (by omega)).more (Nat.le_refl _) drT.size, hg5, (OS_.out.dd dT (by omega)).less (by omega) dT.size, HLS.out, D.trans hd drT⟩
        case measure => first | (simp [intOf]; done) | (simp [intOf]; omega)
      · have BGT := Lib.hid (BG.out.d drT nb8); have BXT := Lib.hid (BX.out.d dpT (by omega))
        have OXT := Lib.hid (HopSO.dd (g := g) OXp.out dpT (by omega));have OLT := Lib.hid (OS_.out.dd dT (by omega));have bg_ := BGT.out.ext (w' := wT) xe;have lbg_ := bg_.lt;obtain ⟨qbg__0, qbg__1, qbg__2, qbg__3⟩ := blk4 bg_;have fbg__0 := bg_.frozen 0;have fbg__1 := bg_.frozen 1;have fbg__2 := bg_.frozen 2;have fbg__3 := bg_.frozen 3;clear bg_;have bx_ := BXT.out.ext (w' := wT) xe;have lbx_ := bx_.lt;obtain ⟨qbx__0, qbx__1, qbx__2⟩ := blk3 bx_;have fbx__0 := bx_.frozen 0;have fbx__1 := bx_.frozen 1;have fbx__2 := bx_.frozen 2;clear bx_;go_wp2_with fail
        go_roundw
        case rel => exact ⟨km, l2, ⟨q, ⟨s.ts, s.beta, s.hops⟩⟩, Ax, cx, by omega, by go_num, by simpa using (((BGT.out.set_ 0 (I q)).set_ 1 (I s.ts)).set_ 2 (I s.beta)).set_ 3 (.slice Ax s.hops.length cx), by simp only [World.size_setCell]; exact ((((((HopSO.seg (hops := s.hops) OXT.out (by omega)).far (by omega)).far (by omega)).far (by omega)).far (by omega)).more (by omega) (by omega)), by dsimp only; omega, by simp only [World.size_setCell]; exact ((((OLT.out.far (by omega)).far (by omega)).far (by omega)).far (by omega)).less (by omega) zT, HLS.out, D.setNew (D.setNew (D.setNew (D.setNew (D.trans hd drT) (by omega) (by dsimp only; omega) _) (by omega) (by dsimp only; omega) _) (by omega) (by dsimp only; omega) _) (by omega) (by dsimp only; omega) _⟩
        case measure => first | (simp [intOf]; done) | (simp [intOf]; omega)
    · have i5 : (0 : Int) < (s.hops.length : Int) := by omega
      clear h0;go_wp2_with fail
      refine name_calls (fun W => Ext wc W ∧ Blk W wc.heap.size 51 [I s.ts, I s.beta, .slice Ax s.hops.length cx]) ⟨xe, xb⟩ ?_;rintro wd ⟨ed, bx⟩;have zd := ed.size;have BX := Lib.hid bx; clear bx lb6_ qb6__0 qb6__1 fb6__0 fb6__1;have drd : D g wr wd := D.trans drc (D.of_ext ed (by omega));have OXd := Lib.hid (HopSO.dd (g := g) OX.out (D.of_ext ed (by omega)) (by omega)); clear OX;have lbx := BX.out.lt;refine (spec_l1Below g 1000 wd ((D.trans dar drd).cur HCA.out) (by omega)).mono ?_;rintro e we ⟨y1, rfl, -, de⟩;have ze := de.size;have BXe := Lib.hid (BX.out.d de (by omega)); have OXe := Lib.hid (HopSO.dd (g := g) OXd.out de (by omega)); clear BX OXd;have dre : D g wr we := D.trans drd de;have bx_ := BXe.out.ext (w' := we) xe;have lbx_ := bx_.lt;obtain ⟨qbx__0, qbx__1, qbx__2⟩ := blk3 bx_;have fbx__0 := bx_.frozen 0;have fbx__1 := bx_.frozen 1;have fbx__2 := bx_.frozen 2;clear bx_;go_wp2_with fail
      refine name_calls (fun W => D g wr W ∧ W.heap.size = we.heap.size ∧ Blk W wc.heap.size 51 [I s.ts, I y1, .slice Ax s.hops.length cx] ∧ HopSO wr.heap.size wc.heap.size W (.slice Ax s.hops.length cx) s.hops) ⟨D.setNew dre (by omega) (by dsimp only; omega) _, by simp only [World.size_setCell], by simpa using BXe.out.set_ 1 (I y1), Own.setCell OXe.out (.inr (by dsimp only; omega)) _⟩ ?_;rintro wf ⟨drf, zf_, bx, ox⟩;obtain ⟨zf, zf'⟩ := le_both zf_;have BXf := Lib.hid bx; have OXf := Lib.hid ox; clear bx ox zf_ BXe OXe lbx_ qbx__0 qbx__1 qbx__2 fbx__0 fbx__1 fbx__2;refine (spec_l1Below g 40 wf ((D.trans dar drf).cur HCA.out) (by omega)).mono ?_;rintro e wh ⟨y2, rfl, -, dh⟩;have zh := dh.size;have BXh := Lib.hid (BXf.out.d dh (by omega)); have OXh := Lib.hid (HopSO.dd (g := g) OXf.out dh (by omega)); clear BXf OXf;have drh : D g wr wh := D.trans drf dh;have bx_ := BXh.out.ext (w' := wh) xe;have lbx_ := bx_.lt;obtain ⟨qbx__0, qbx__1, qbx__2⟩ := blk3 bx_;have fbx__0 := bx_.frozen 0;have fbx__1 := bx_.frozen 1;have fbx__2 := bx_.frozen 2;clear bx_;go_wp2_with fail
      refine name_wp (fun W => D g wr W ∧ W.heap.size = wh.heap.size ∧ Blk W wc.heap.size 51 [I y2, I y1, .slice Ax s.hops.length cx] ∧ HopSO wr.heap.size wc.heap.size W (.slice Ax s.hops.length cx) s.hops) ⟨D.setNew drh (by omega) (by dsimp only; omega) _, by simp only [World.size_setCell], by simpa using BXh.out.set_ 0 (I y2), Own.setCell OXh.out (.inr (by dsimp only; omega)) _⟩ ?_;rintro wi ⟨dri, zi_, bx, ox⟩;obtain ⟨zi, zi'⟩ := le_both zi_;have BXi := Lib.hid bx; have OXi := Lib.hid ox; clear bx ox zi_ BXh OXh lbx_ qbx__0 qbx__1 qbx__2 fbx__0 fbx__1 fbx__2
      obtain ⟨w20, hw20⟩ : ∃ w20, w20 = wr := ⟨_, rfl⟩
      subst hw20
      go_loopw [14] (fun i wq => ∃ (j : Nat) (hops : List DHop), j ≤ s.hops.length ∧ i = I j ∧ hops.length = s.hops.length ∧ (∀ h ∈ hops, isAs t h.asn = true) ∧ Blk wq wc.heap.size 51 [I y2, I y1, .slice Ax s.hops.length cx] ∧ HopSO w20.heap.size wc.heap.size wq (.slice Ax s.hops.length cx) hops ∧ D g w20 wq) (fun i _ => s.hops.length - (intOf i).toNat)
      case atStart => exact ⟨0, s.hops, by omega, rfl, rfl, fun h hh => (HAS.out h hh).1, BXi.out, OXi.out, dri⟩
      case round =>
       clear BXi OXi;obtain ⟨j, hops, hj, rfl, hln, has, hbx, hox, hdq⟩ := hrel;have BX := Lib.hid hbx; have OX := Lib.hid hox; have HAJ := Lib.hid has; clear hbx hox has;have zq := hdq.size;have lbx := BX.out.lt;have bx_ := BX.out.ext (w' := wr) xe;have lbx_ := bx_.lt;obtain ⟨qbx__0, qbx__1, qbx__2⟩ := blk3 bx_;have fbx__0 := bx_.frozen 0;have fbx__1 := bx_.frozen 1;have fbx__2 := bx_.frozen 2;clear bx_;by_cases hlt : j < s.hops.length
       · have hlj : j < hops.length := by omega
         obtain ⟨b, off, hA, hb, hkl, hc⟩ := (HopSO_rd (xs := hops) OX.out).at_ hlt;have has := HAJ.out _ (List.getElem_mem hkl);obtain ⟨ka, hka, hal⟩ := isAs_nat has;obtain ⟨gx, hgx, -⟩ := HopSO.setAt (l := hops) OX.out hlj dHop
         obtain ⟨rfl, rfl⟩ : b = gx ∧ off = 0 := by
          rw [hA] at hgx
          simpa using hgx
         generalize hops[j] = h at *
         obtain ⟨h1, h2, h3, h4, h5⟩ := h;obtain rfl : h1 = (ka : Int) := hka;subst hA;clear hgx has;obtain ⟨hh_0, hh_1, hh_2, hh_3, hh_4⟩ := hc;dsimp only at hh_0 hh_1 hh_2 hh_3 hh_4;simp only [Nat.zero_add] at hh_0 hh_1 hh_2 hh_3 hh_4
         have j0 : (0 : Int) ≤ (j : Int) := by omega
         have j1 : (j : Int) < (s.hops.length : Int) := by omega
         have k0 : (0 : Int) ≤ (ka : Int) := by omega
         have k1 : (ka : Int) < (t.ases.length : Int) := by omega
         go_wp2_with fail
         refine name_wp (fun W => Ext wr W ∧ Blk W wr.heap.size 98 [I ka, I h2, I h3, I h4, I h5]) ⟨xe, xb⟩ ?_;rintro wj ⟨ej, bh⟩;have zj := ej.size;have BH := Lib.hid bh; clear bh hh_0 hh_1 hh_2 hh_3 hh_4 lbx_ qbx__0 qbx__1 qbx__2 fbx__0 fbx__1 fbx__2;have BXj := Lib.hid (BX.out.ext ej); have OXj := Lib.hid (HopSO.dd (g := g) OX.out (D.of_ext ej (by omega)) (by omega));have d20j : D g w20 wj := D.trans hdq (D.of_ext ej (by omega));have HCj := Lib.hid ((D.trans dar d20j).cur HCA.out)
         have hgj : g < wj.heap.size := by omega
         have lbh := BH.out.lt
         have nx : ¬ wc.heap.size = g := by omega
         have nh : ¬ wr.heap.size = g := by omega
         have bx_ := BXj.out.ext (w' := wj) xe;have lbx_ := bx_.lt;obtain ⟨qbx__0, qbx__1, qbx__2⟩ := blk3 bx_;have fbx__0 := bx_.frozen 0;have fbx__1 := bx_.frozen 1;have fbx__2 := bx_.frozen 2;clear bx_;have bh_ := BH.out.ext (w' := wj) xe;have lbh_ := bh_.lt;obtain ⟨qbh__0, qbh__1, qbh__2, qbh__3, qbh__4⟩ := blk5 bh_;have fbh__0 := bh_.frozen 0;have fbh__1 := bh_.frozen 1;have fbh__2 := bh_.frozen 2;have fbh__3 := bh_.frozen 3;have fbh__4 := bh_.frozen 4;clear bh_;refine wp_region_LT 7 (E := D g) (w0 := wj) (G := fun τ => match τ with | 61 => some (fun v W => ∃ x : Int, v = I x) | _ => none) (D.refl g) (fun h k => D.trans h k) (by kernel_rfl) (by kernel_rfl) (by kernel_rfl) (by kernel_rfl) (by kernel_rfl) (by kernel_rfl) (by intro t φ hG; split at hG; all_goals first | (cases hG; done) | (cases Option.some.inj hG; intro v W W' hE hv; first | exact hv | exact hv.d hE (by omega) | (obtain ⟨y, hy⟩ := hv; exact ⟨y, Fresh1.d hy hE (by omega)⟩))) (D.drew (by exact D.refl _ _)) ?_;simp only [List.take_succ_cons, List.take_zero]
         repeat' (first
          | ((with_reducible refine wpL_skip ?_ ?_ ?_)
             · rfl
             · rfl
             simp only [Act.put, List.setIfInBounds_toArray, List.set_cons_zero, List.set_cons_succ])
          | ((with_reducible refine wpL_quiet ?_ ?_ ?_ ?_)
             · rfl
             · rfl
             · rfl
             apply Exists.intro
             refine ⟨fun W hW hS => ?_, ?_⟩
             · have hC := (D.facts hW).1
               go_simp
               first | done | (with_reducible rfl) | (rw [if_neg (by omega)]; exact ⟨rfl, rfl⟩) | rfl
             first | (with_reducible refine wpL_boolT ?_) | (with_reducible refine wpL_boolF ?_) | (with_reducible refine wpL_bool (fun hB => ?_) (fun hB => ?_)) | skip
             all_goals simp only [Act.put, List.setIfInBounds_toArray, List.set_cons_zero, List.set_cons_succ])
          | ((refine wpL_grow ?_ rfl rfl ?_ ?_)
             · rfl
             · intro W hW hS
               have hC := (D.facts hW).1;unfold growAt
               go_simp
               simp only [growUpon]
               first | (go_at_call 31; (with_reducible refine Calls.mono (spec_l1Below g 20 _ (hW.cur HCj.out) (by omega)) ?_); rintro e w9 ⟨x, rfl, hx, d9⟩; exact ⟨_, rfl, d9, ⟨x, rfl⟩⟩)
             intro v W' hW' hv
             first | ((with_reducible refine intro_at 61 _ ?_); obtain ⟨x61, rfl⟩ := hv) | (obtain ⟨A5, n5, c5, rfl, -⟩ := id hv; clear hv) | (obtain ⟨A5, n5, c5, rfl⟩ := NO.slice hv) | skip
             all_goals simp only [Act.put, List.setIfInBounds_toArray, List.set_cons_zero, List.set_cons_succ]))
         refine wpL_nil (fun wk ek hL => ?_);clear hL lbx_ qbx__0 qbx__1 qbx__2 fbx__0 fbx__1 fbx__2 lbh_ qbh__0 qbh__1 qbh__2 qbh__3 qbh__4 fbh__0 fbh__1 fbh__2 fbh__3 fbh__4;have zk := ek.size;have BHk := Lib.hid (BH.out.d ek nh); have BXk := Lib.hid (BXj.out.d ek nx); have OXk := Lib.hid (HopSO.dd (g := g) OXj.out ek (by omega));clear BH BXj OXj;have bh_ := BHk.out.ext (w' := wk) xe;have lbh_ := bh_.lt;obtain ⟨qbh__0, qbh__1, qbh__2, qbh__3, qbh__4⟩ := blk5 bh_;have fbh__0 := bh_.frozen 0;have fbh__1 := bh_.frozen 1;have fbh__2 := bh_.frozen 2;have fbh__3 := bh_.frozen 3;have fbh__4 := bh_.frozen 4;clear bh_;simp only [List.drop_succ_cons, List.drop_zero];go_wp2_with fail
         refine name_wp (fun W => D g w20 W ∧ W.heap.size = wk.heap.size ∧ (∃ E, Blk W wr.heap.size 98 [I ka, I h2, I h3, I E, I h5]) ∧ Blk W wc.heap.size 51 [I y2, I y1, .slice (some ⟨b, 0, none⟩) s.hops.length cx] ∧ HopSO w20.heap.size wc.heap.size W (.slice (some ⟨b, 0, none⟩) s.hops.length cx) hops) ⟨D.setNew (D.trans d20j ek) (by omega) (by dsimp only; omega) _, by simp only [World.size_setCell], ⟨_, BHk.out.set_ 3 _⟩, BXk.out.far (by dsimp only; omega) _, Own.setCell OXk.out (.inr (by dsimp only; omega)) _⟩ ?_;clear lbh_ qbh__0 qbh__1 qbh__2 qbh__3 qbh__4 fbh__0 fbh__1 fbh__2 fbh__3 fbh__4 BHk BXk OXk;rintro wl ⟨dl, zl_, ⟨E, bh⟩, bx, ox⟩;obtain ⟨zl, zl'⟩ := le_both zl_;have BH := Lib.hid bh; have BXl := Lib.hid bx; have OXl := Lib.hid ox; clear bh bx ox zl_;have HWl := Lib.hid (HWr.out.d dl nb6 nb7 (by omega));have K6 := Lib.hid HWl.out.b6;obtain ⟨A0_, n0_, c0_, A1_, n1_, c1_, eA, sA, -⟩ := TopologyO_rd HWl.out.ot (Nat.le_refl _);have eA4 := congrArg Array.toList (Value.agg.inj eA);simp only [List.cons.injEq, Value.slice.injEq, and_true] at eA4;obtain ⟨⟨rfl, rfl, rfl⟩, rfl, rfl, rfl⟩ := eA4;clear eA;obtain ⟨bA, oA, hA0, hbA, hkA, hcA⟩ := sA.at_ hal
         generalize t.ases[ka] = ya at *
         clear sA;subst hA0;obtain ⟨ha_0, ha_1, ha_2⟩ := hcA;have RX := Lib.hid (SegmentO_rd (HopSO.seg (ts := y2) (be := y1) (hops := hops) OXl.out (by omega)) (by omega));have b6_ := K6.out.ext (w' := wl) xe;have lb6_ := b6_.lt;obtain ⟨qb6__0, qb6__1⟩ := blk2 b6_;have fb6__0 := b6_.frozen 0;have fb6__1 := b6_.frozen 1;clear b6_;have bx_ := BXl.out.ext (w' := wl) xe;have lbx_ := bx_.lt;obtain ⟨qbx__0, qbx__1, qbx__2⟩ := blk3 bx_;have fbx__0 := bx_.frozen 0;have fbx__1 := bx_.frozen 1;have fbx__2 := bx_.frozen 2;clear bx_;have bh_ := BH.out.ext (w' := wl) xe;have lbh_ := bh_.lt;obtain ⟨qbh__0, qbh__1, qbh__2, qbh__3, qbh__4⟩ := blk5 bh_;have fbh__0 := bh_.frozen 0;have fbh__1 := bh_.frozen 1;have fbh__2 := bh_.frozen 2;have fbh__3 := bh_.frozen 3;have fbh__4 := bh_.frozen 4;clear bh_;refine wp_region_LT 18 (E := Ext) (w0 := wl) (G := fun τ => match τ with | 78 => some (fun v W => ∃ x : Int, v = I x) | 80 => some (fun v W => ∃ x : Int, v = .agg #[I ka, I h2, I h3, I E, I x]) | _ => none) Ext.refl (fun h k => Ext.trans h k) (by kernel_rfl) (by kernel_rfl) (by kernel_rfl) (by kernel_rfl) (by kernel_rfl) (by kernel_rfl) xg (Ext.drew (by exact Ext.refl _)) ?_;simp only [List.take_succ_cons, List.take_zero]
         repeat' (first
          | ((with_reducible refine wpL_skip ?_ ?_ ?_)
             · rfl
             · rfl
             simp only [Act.put, List.setIfInBounds_toArray, List.set_cons_zero, List.set_cons_succ])
          | ((with_reducible refine wpL_quiet ?_ ?_ ?_ ?_)
             · rfl
             · rfl
             · rfl
             apply Exists.intro
             refine ⟨fun W hW hS => ?_, ?_⟩
             · have hC := (Ext.facts hW).1
               go_simp
               first | done | (with_reducible rfl) | (rw [if_neg (by omega)]; exact ⟨rfl, rfl⟩) | rfl
             first | (with_reducible refine wpL_boolT ?_) | (with_reducible refine wpL_boolF ?_) | (with_reducible refine wpL_bool (fun hB => ?_) (fun hB => ?_)) | skip
             all_goals simp only [Act.put, List.setIfInBounds_toArray, List.set_cons_zero, List.set_cons_succ])
          | ((refine wpL_grow ?_ rfl rfl ?_ ?_)
             · rfl
             · intro W hW hS
               have hC := (Ext.facts hW).1;unfold growAt
               go_simp
               simp only [growUpon]
               first | (go_at_call 112; (with_reducible refine Calls.mono (spec_BetaAt _ (j : Int) ⟨y2, y1, hops⟩ _ (by exact RX.out.ext xe) (by dsimp only; omega)) ?_); rintro e w9 ⟨rfl, e9⟩; exact ⟨_, rfl, e9, ⟨_, rfl⟩⟩) | (go_at_call 98; (with_reducible refine Calls.mono (spec_AuthenticateHop _ _ _ ⟨ka, h2, h3, E, h5⟩ _) ?_); rintro e w9 ⟨rfl, e9⟩; exact ⟨_, rfl, e9, ⟨_, rfl⟩⟩)
             intro v W' hW' hv
             first | ((with_reducible refine intro_at 78 _ ?_); obtain ⟨x78, rfl⟩ := hv) | ((with_reducible refine intro_at 80 _ ?_); obtain ⟨x80, rfl⟩ := hv) | (obtain ⟨A5, n5, c5, rfl, -⟩ := id hv; clear hv) | (obtain ⟨A5, n5, c5, rfl⟩ := NO.slice hv) | skip
             all_goals simp only [Act.put, List.setIfInBounds_toArray, List.set_cons_zero, List.set_cons_succ]))
         refine wpL_nil (fun wm em hL => ?_);clear hL lb6_ qb6__0 qb6__1 fb6__0 fb6__1 lbx_ qbx__0 qbx__1 qbx__2 fbx__0 fbx__1 fbx__2 lbh_ qbh__0 qbh__1 qbh__2 qbh__3 qbh__4 fbh__0 fbh__1 fbh__2 fbh__3 fbh__4 ha_0 ha_1 ha_2 RX;have zm := em.size;have dm : D g w20 wm := D.trans dl (D.of_ext em (by omega));have OXm := Lib.hid (HopSO.dd (g := g) OXl.out (D.of_ext em (by omega)) (by omega));have BXm := Lib.hid (BXl.out.ext em);obtain ⟨gx, hgx, gx1, gx2, gx3, gx4, gx5, gx6⟩ := HopSO.setAt (l := hops) OXm.out hlj ⟨ka, h2, h3, E, x80⟩
         obtain rfl : b = gx := by simpa using hgx
         clear hgx;have GX6 := Lib.hid gx6; clear gx6;obtain ⟨u0, hu0⟩ := gx5 0 (by omega); obtain ⟨u1_, hu1⟩ := gx5 1 (by omega); obtain ⟨u2_, hu2⟩ := gx5 2 (by omega); obtain ⟨u3_, hu3⟩ := gx5 3 (by omega); obtain ⟨u4_, hu4⟩ := gx5 4 (by omega);have hu0 : wm.cell? ⟨b, j * 5, none⟩ = some u0 := hu0;have fu0 := gx4 (j * 5); have fu1 := gx4 (j * 5 + 1); have fu2 := gx4 (j * 5 + 2); have fu3 := gx4 (j * 5 + 3); have fu4 := gx4 (j * 5 + 4);clear gx4 gx5;simp only [List.drop_succ_cons, List.drop_zero];go_wp2_with fail
         go_roundw
         case rel => exact ⟨j + 1, hops.set j ⟨ka, h2, h3, E, x80⟩, by omega, by go_num, by rw [List.length_set]; exact hln, fun y hy => by (rcases List.mem_or_eq_of_mem_set hy with h9 | rfl; exact HAJ.out y h9; unfold isAs; exact inR_iff.2 ⟨by dsimp only; omega, by dsimp only; omega⟩), ((((BXm.out.far (by dsimp only; omega) _).far (by dsimp only; omega) _).far (by dsimp only; omega) _).far (by dsimp only; omega) _).far (by dsimp only; omega) _, GX6.out, D.setNew (D.setNew (D.setNew (D.setNew (D.setNew dm (by omega) (by dsimp only; omega) _) (by omega) (by dsimp only; omega) _) (by omega) (by dsimp only; omega) _) (by omega) (by dsimp only; omega) _) (by omega) (by dsimp only; omega) _⟩
         case measure => first | (simp [intOf]; done) | (simp [intOf]; omega)
       · obtain rfl : j = s.hops.length := by omega
         have i6 : ¬ (s.hops.length : Int) < (s.hops.length : Int) := by omega
         obtain ⟨wp, hwp⟩ : ∃ wp, wp = wr := ⟨_, rfl⟩
         subst hwp;have drp : D g w20 wp := hdq;have HWp6 := Lib.hid (HWr.out.b6.d drp nb6);have b6_ := HWp6.out.ext (w' := wp) xe;have lb6_ := b6_.lt;obtain ⟨qb6__0, qb6__1⟩ := blk2 b6_;have fb6__0 := b6_.frozen 0;have fb6__1 := b6_.frozen 1;clear b6_;go_wp2_with fail
         clear lb6_ qb6__0 qb6__1 fb6__0 fb6__1 lbx_ qbx__0 qbx__1 qbx__2 fbx__0 fbx__1 fbx__2;have OXp := Lib.hid OX.out
         have hx5 : hops.length ≤ 5 := by omega
         have HWp := Lib.hid (HWr.out.d drp nb6 nb7 (by omega));have HLp := Lib.hid ((HL.out.dd drp (by omega)).less (Nat.le_refl _) drp.size);refine (spec_StoreBeacon _ r _ _ t l ⟨q, ⟨y2, y1, hops⟩⟩ wp (by exact TopologyO_rd HWp.out.ot (Nat.le_refl _)) (by exact BeaconSO_rd HLp.out (Nat.le_refl _)) (beaconV_of (by exact HopSO_rd OXp.out)) (by have := bcnTot_small HSM.out; omega) (by dsimp only; omega)).mono ?_;rintro e wS ⟨vS, rfl, oS, eS⟩;obtain ⟨Av, nv, cv, rfl⟩ := NO.slice oS;have zS := eS.size;have HLS := Lib.hid (storeB_small (t := t) (r := r) (g := ⟨q, ⟨y2, y1, hops⟩⟩) HSM.out)
         generalize storeB t r l ⟨q, ⟨y2, y1, hops⟩⟩ = l2 at *
         have OS_ := Lib.hid oS; clear oS;have drS : D g w20 wS := D.trans drp (D.of_ext eS (by omega));go_wp2_with fail
         refine (spec_l1Once g 3 wS ((D.trans dar drS).cur HCA.out) (by omega)).mono ?_;rintro e wT ⟨bo, rfl, dT⟩;have zT := dT.size;have drT : D g w20 wT := D.trans drS dT;have dpT : D g wp wT := D.trans (D.of_ext eS (by omega)) dT;cases bo
         · go_wp2_with fail
           go_roundw
           case rel => exact ⟨km, l2, G, AG, cG, by omega, by go_num, BG.out.d drT nb8, (SG.out.dd drT (by omega)).more (Nat.le_refl _) drT.size, hg5, (OS_.out.dd dT (by omega)).less (by omega) dT.size, HLS.out, D.trans hd drT⟩
           case measure => first | (simp [intOf]; done) | (simp [intOf]; omega)
         · have BGT := Lib.hid (BG.out.d drT nb8); have BXT := Lib.hid (BX.out.d dpT (by omega))
           have OXT := Lib.hid (HopSO.dd (g := g) OXp.out dpT (by omega));have OLT := Lib.hid (OS_.out.dd dT (by omega));have bg_ := BGT.out.ext (w' := wT) xe;have lbg_ := bg_.lt;obtain ⟨qbg__0, qbg__1, qbg__2, qbg__3⟩ := blk4 bg_;have fbg__0 := bg_.frozen 0;have fbg__1 := bg_.frozen 1;have fbg__2 := bg_.frozen 2;have fbg__3 := bg_.frozen 3;clear bg_;have bx_ := BXT.out.ext (w' := wT) xe;have lbx_ := bx_.lt;obtain ⟨qbx__0, qbx__1, qbx__2⟩ := blk3 bx_;have fbx__0 := bx_.frozen 0;have fbx__1 := bx_.frozen 1;have fbx__2 := bx_.frozen 2;clear bx_;go_wp2_with fail
           go_roundw
           case rel => exact ⟨km, l2, ⟨q, ⟨y2, y1, hops⟩⟩, Ax, cx, by omega, by go_num, by simpa [hln] using (((BGT.out.set_ 0 (I q)).set_ 1 (I y2)).set_ 2 (I y1)).set_ 3 (.slice Ax s.hops.length cx), by simp only [World.size_setCell]; show SegmentO _ _ _ (.agg #[I y2, I y1, .slice Ax hops.length cx]) _; rw [hln]; exact ((((((HopSO.seg (hops := hops) OXT.out (by omega)).far (by omega)).far (by omega)).far (by omega)).far (by omega)).more (by omega) (by omega)), by dsimp only; omega, by simp only [World.size_setCell]; exact ((((OLT.out.far (by omega)).far (by omega)).far (by omega)).far (by omega)).less (by omega) zT, HLS.out, D.setNew (D.setNew (D.setNew (D.setNew (D.trans hd drT) (by omega) (by dsimp only; omega) _) (by omega) (by dsimp only; omega) _) (by omega) (by dsimp only; omega) _) (by omega) (by dsimp only; omega) _⟩
           case measure => first | (simp [intOf]; done) | (simp [intOf]; omega)
  · obtain rfl : k = 0 := by omega
    have i2 : ¬ (0 : Int) < ((0 : Nat) : Int) := by omega
    go_wp2_with fail
    refine (spec_l1Once g 6 wr HCr.out (by omega)).mono ?_;rintro e wt ⟨bo, rfl, dt⟩;have zt := dt.size;have dbt : D g wb wt := D.trans hd dt;have BGt := Lib.hid (BG.out.d dt nb8); have SGt := Lib.hid ((SG.out.dd dt (by omega)).more (Nat.le_refl _) zt); have HLt := Lib.hid ((HL.out.dd dt (by omega)).less (Nat.le_refl _) zt);clear BG SG HL HCr HWr;cases bo
    case' true =>
     have bg_ := BGt.out.ext (w' := wt) xe;have lbg_ := bg_.lt;obtain ⟨qbg__0, qbg__1, qbg__2, qbg__3⟩ := blk4 bg_;have fbg__0 := bg_.frozen 0;have fbg__1 := bg_.frozen 1;have fbg__2 := bg_.frozen 2;have fbg__3 := bg_.frozen 3;clear bg_;go_wp2_with fail
     refine (spec_l9Spoil g _ G.seg wt ((D.trans dab dbt).cur HCA.out) (by exact SegmentO_rd SGt.out (Nat.le_refl _)) (by omega)).mono ?_;rintro e wu ⟨vu, rfl, ⟨s9, o9, hs9⟩, du⟩;obtain ⟨A9, c9, rfl, -⟩ := SegmentO.front o9;have O9 := Lib.hid o9; clear o9;have zu := du.size;have BGu := Lib.hid (BGt.out.d du nb8);clear lbg_ qbg__0 qbg__1 qbg__2 qbg__3 fbg__0 fbg__1 fbg__2 fbg__3;have bg_ := BGu.out.ext (w' := wu) xe;have lbg_ := bg_.lt;obtain ⟨qbg__0, qbg__1, qbg__2, qbg__3⟩ := blk4 bg_;have fbg__0 := bg_.frozen 0;have fbg__1 := bg_.frozen 1;have fbg__2 := bg_.frozen 2;have fbg__3 := bg_.frozen 3;clear bg_;go_wp2_with fail
     clear lbg_ qbg__0 qbg__1 qbg__2 qbg__3 fbg__0 fbg__1 fbg__2 fbg__3;refine name_wp (fun W => ∃ (G' : DBeacon) (AG' : Option Addr) (cG' : Nat), Blk W (w2.heap.size + 1 + 1) 53 [I G'.ing, I G'.seg.ts, I G'.seg.beta, .slice AG' G'.seg.hops.length cG'] ∧ SegmentO wa.heap.size W.heap.size W (.agg #[I G'.seg.ts, I G'.seg.beta, .slice AG' G'.seg.hops.length cG']) G'.seg ∧ G'.seg.hops.length ≤ 5 ∧ BeaconSO (w2.heap.size + 1 + 1 + 1) W.heap.size W (.slice Al nl cl) l ∧ D g wb W) ⟨⟨G.ing, s9⟩, A9, c9, by simpa using ((BGu.out.set_ 1 (I s9.ts)).set_ 2 (I s9.beta)).set_ 3 (.slice A9 s9.hops.length c9), by simp only [World.size_setCell]; exact ((((O9.out.far (by omega)).far (by omega)).far (by omega)).more (by omega) (Nat.le_refl _)), by dsimp only; omega, by simp only [World.size_setCell]; exact ((((HLt.out.dd du (by omega)).far (by omega)).far (by omega)).far (by omega)).less (Nat.le_refl _) zu, D.setNew (D.setNew (D.setNew (D.trans dbt du) (by omega) (by dsimp only; omega) _) (by omega) (by dsimp only; omega) _) (by omega) (by dsimp only; omega) _⟩ ?_
    case' false =>
     go_wp2_with fail
     refine name_wp (fun W => ∃ (G' : DBeacon) (AG' : Option Addr) (cG' : Nat), Blk W (w2.heap.size + 1 + 1) 53 [I G'.ing, I G'.seg.ts, I G'.seg.beta, .slice AG' G'.seg.hops.length cG'] ∧ SegmentO wa.heap.size W.heap.size W (.agg #[I G'.seg.ts, I G'.seg.beta, .slice AG' G'.seg.hops.length cG']) G'.seg ∧ G'.seg.hops.length ≤ 5 ∧ BeaconSO (w2.heap.size + 1 + 1 + 1) W.heap.size W (.slice Al nl cl) l ∧ D g wb W) ⟨G, AG, cG, BGt.out, SGt.out, hg5, HLt.out, dbt⟩ ?_
    all_goals
     clear hg5;rintro wv ⟨G, AG, cG, bg, sg, hg5, hl, dbv⟩;have BGv := Lib.hid bg; have SGv := Lib.hid sg; have HLv := Lib.hid hl; clear bg sg hl;have zv := dbv.size;have dav : D g wa wv := D.trans dab dbv;have dwv : D g w wv := D.trans da dav;have HWv := Lib.hid (HWB.out.d dbv nb6 nb7 (by omega));have K6 := Lib.hid HWv.out.b6;have B0v := Lib.hid (B0.out.d dav (by omega)); have B1v := Lib.hid (B1.out.d dav (by omega))
     have nn1 : ¬ w2.heap.size = w.heap.size := by omega
     have nn2 : ¬ w.heap.size = w2.heap.size := by omega
     have nn3 : ¬ w2.heap.size = w.heap.size + 1 := by omega
     have nn4 : ¬ w.heap.size + 1 = w2.heap.size := by omega
     have nn5 : ¬ w2.heap.size + 1 + 1 = w.heap.size := by omega
     have nn6 : ¬ w.heap.size = w2.heap.size + 1 + 1 := by omega
     have nn7 : ¬ w2.heap.size + 1 + 1 = w.heap.size + 1 := by omega
     have nn8 : ¬ w.heap.size + 1 = w2.heap.size + 1 + 1 := by omega
     have b6_ := K6.out.ext (w' := wv) xe;have lb6_ := b6_.lt;obtain ⟨qb6__0, qb6__1⟩ := blk2 b6_;have fb6__0 := b6_.frozen 0;have fb6__1 := b6_.frozen 1;clear b6_;have bg_ := BGv.out.ext (w' := wv) xe;have lbg_ := bg_.lt;obtain ⟨qbg__0, qbg__1, qbg__2, qbg__3⟩ := blk4 bg_;have fbg__0 := bg_.frozen 0;have fbg__1 := bg_.frozen 1;have fbg__2 := bg_.frozen 2;have fbg__3 := bg_.frozen 3;clear bg_;have c0_ := B0v.out.ext (w' := wv) xe;have lc0_ := c0_.lt;obtain ⟨qc0__0, qc0__1⟩ := blk2 c0_;have fc0__0 := c0_.frozen 0;have fc0__1 := c0_.frozen 1;clear c0_;have c1_ := B1v.out.ext (w' := wv) xe;have lc1_ := c1_.lt;obtain ⟨qc1__0, qc1__1, qc1__2, qc1__3⟩ := blk4 c1_;have fc1__0 := c1_.frozen 0;have fc1__1 := c1_.frozen 1;have fc1__2 := c1_.frozen 2;have fc1__3 := c1_.frozen 3;clear c1_;go_region
     all_goals
      go_wp2_with fail
      refine bodyPost_ret (v := .tuple #[.agg #[.slice A0 t.ases.length c0, .slice A1 n1 c1], I r, .slice Al nl cl, .agg #[I G.ing, I G.seg.ts, I G.seg.beta, .slice AG G.seg.hops.length cG]]) (by simp [results, Tryz.results60, go_sem, *]) rfl ⟨⟨_, _, _, _, rfl, t, l, G, AG, cG, w2.heap.size, ?_, ⟨by omega, Nat.le_trans (show w2.heap.size ≤ wv.heap.size by omega) (Nat.le_of_eq (kp (lo := wa.heap.size) (a := wv)).size.symm)⟩, HDT.out, ?_, HSM.out, rfl, ?_, hg5⟩, ?_⟩
      · exact TopologyO.more (((OT.out.ext eb (Nat.le_refl _)).d dbv (by omega)).keep fun k h1 _ _ => (kp (lo := wa.heap.size)).same k h1) (by omega) (Nat.le_refl _)
      · exact BeaconSO.less (NO.keep BeaconOC.keeps HLv.out fun k h1 _ _ => (kp (lo := wa.heap.size)).same k (by omega)) (by omega) (by first | exact Nat.le_of_eq (kp (lo := wa.heap.size)).size.symm | (simp only [World.size_setCell]; omega))
      · exact SegmentO.more (SGv.out.keep fun k h1 _ _ => (kp (lo := wa.heap.size)).same k (by omega)) (by omega) (by first | exact Nat.le_of_eq (kp (lo := wa.heap.size)).size.symm | (simp only [World.size_setCell]; omega))
      · exact xd
end Go.Proofs.YtfpfgifjigenaaaGreat
