/- Contracts of the program's and the reference's functions on beaconing: DeliverBeacons. No conditions. -/
import Derived.Test.YtmopmgaeiokfjaaGreatL15f
import Derived.Test.YtmopmgaeiokfjaaGreatGL14c
import Derived.Test.YtmopmgaeiokfjaaGreatGL5d
import Derived.Test.YtmopmgaeiokfjaaGreatGGrow
import Derived.Test.YtmopmgaeiokfjaaGreatGHB
set_option maxRecDepth 100000
set_option maxHeartbeats 1000000
namespace Go.Proofs.YtmopmgaeiokfjaaGreat
open Go.RowKit
set_option linter.unusedVariables false
theorem bcnV {B : Nat} {w : World} {A : Option Addr} {n c : Nat} {x : DBeacon} (h : HopS B w (.slice A n c) x.seg.hops) : BeaconV B w (.agg #[I x.ing, I x.seg.ts, I x.seg.beta, .slice A n c]) x := ⟨_, _, _, rfl, h⟩
theorem own_off2 {T sz lo hi n g T' : Nat} {w : World} {v : Value} {cs cs' : List Value} (hv : Own T sz lo hi w v n cs) (hb : Blk w g T' cs') (hne : T ≠ T') : v.ownBlock ≠ some g := fun e => ownsRow_typed hv.1 hb hne (by simp [e])
theorem delStep_no {t : DTopology} {st : List DBeaconStore} {m : DBeaconMessage} {n : Nat} (hl : st.length = n) (h : inR m.to 0 ((n : Int) - 1) = false) : delStep t st m = st := by
 unfold delStep;rw [hl, h];rfl
theorem delStep_yes {t : DTopology} {st : List DBeaconStore} {m : DBeaconMessage} {n j : Nat} (hl : st.length = n) (h : inR m.to 0 ((n : Int) - 1) = true) (hj : m.to = (j : Int)) : delStep t st m = st.set j ⟨storeB t j (st.getD j dStr).beacons m.beacon⟩ := by
 unfold delStep;rw [hl, h, hj];rfl
theorem setStore {W : World} {lo hi hi' : Nat} {A B : Option Addr} {n c p q : Nat} {ds : List DBeaconStore} {j : Nat} {l : List DBeacon} (h : BeaconStoreSO lo hi W (.slice A n c) ds) (hj : j < ds.length) (ho : BeaconSO hi hi' W (.slice B p q) l) (hh : hi ≤ hi') :
 ∃ g, A = some ⟨g, 0, none⟩ ∧ lo ≤ g ∧ g < hi ∧ g < W.heap.size ∧ W.frozen? ⟨g, j, none⟩ = false ∧ (Value.slice A n c).ownBlock = some g ∧ BeaconStoreSO lo hi' (W.setCell ⟨g, j, none⟩ (.slice B p q)) (.slice A n c) (ds.set j ⟨l⟩) := by
 have hm : BeaconStoreO hi hi' W (.agg #[.slice B p q]) ⟨l⟩ := ⟨_, rfl, ho, hh⟩
 obtain ⟨a0, k0, q0, fp, e, hoc, hn, hb⟩ := hm.to_oc;have e5 : [Value.slice B p q] = [.slice a0 k0 q0] := congrArg Array.toList (Value.agg.inj e);rw [← e5] at hoc;obtain ⟨g, rfl, -, h1, h2, h3, h4, h5⟩ := NO.setAt1 BeaconStoreOC.keeps h hj hoc hn hb hh;exact ⟨g, rfl, h1, h2, h3, h4, rfl, h5⟩
theorem storesRow {W : World} {lo hi : Nat} {A : Option Addr} {n c : Nat} {ds : List DBeaconStore} (h : BeaconStoreSO lo hi W (.slice A n c) ds) (h0 : 0 < ds.length) : ∃ g, A = some ⟨g, 0, none⟩ := by
 obtain ⟨cs, fp, ho, _⟩ := h
 rcases ho.cases with ⟨e, h1, _⟩ | ⟨g, cap, rest, e, _⟩
 · omega
 · cases e
   exact ⟨g, rfl⟩
theorem delB_no {t : DTopology} {x : DBeaconing} {l : List DBeaconMessage} (h : validTop t = false) : delB t x l = x := by
 unfold delB;rw [h];rfl
theorem delB_yes {t : DTopology} {x : DBeaconing} {l : List DBeaconMessage} (h : validTop t = true) : delB t x l = ⟨x.ts, l.foldl (delStep t) x.stores⟩ := by
 unfold delB;rw [h];rfl
theorem spec_DeliverBeacons (vt vx vl : Value) (t : DTopology) (x : DBeaconing) (l : List DBeaconMessage) (w : World) (ht : TopologyV w.heap.size w vt t) (hx : BeaconingV w.heap.size w vx x) (hl : BeaconMessageS w.heap.size w vl l) (hn : stTot x.stores ≤ 1048576) (hm : ∀ m ∈ l, m.beacon.seg.hops.length ≤ 1048576) :
 Calls Tryz.prog 115 #[vt, vx, vl] w fun e w' => ∃ v', e = .returned v' ∧ BeaconingO w.heap.size w'.heap.size w' v' (delB t x l) ∧ Ext w w' := by
 obtain ⟨At_0, nt_0, ct_0, At_1, nt_1, ct_1, rfl, st_0, st_1⟩ := id ht;obtain ⟨lt_0, kt_0, mt_0⟩ := st_0.len;subst lt_0;unfold maxLen at mt_0;obtain ⟨lt_1, kt_1, mt_1⟩ := st_1.len;subst lt_1;unfold maxLen at mt_1;have Rt := Lib.hid ht; clear ht;have St_0 := Lib.hid st_0; clear st_0;have St_1 := Lib.hid st_1; clear st_1;obtain ⟨Ax_1, nx_1, cx_1, rfl, sx_1⟩ := id hx;obtain ⟨lx_1, kx_1, mx_1⟩ := sx_1.len;subst lx_1;unfold maxLen at mx_1;have Rx := Lib.hid hx; clear hx;have Sx_1 := Lib.hid sx_1; clear sx_1;obtain ⟨Al, nl, cl, rfl, ll, kl, ml, -⟩ := id hl;subst ll;unfold maxLen at ml;have Rl := Lib.hid hl; clear hl;have hdl : x.stores.length ≤ 1048576 := Nat.le_trans (totS_len (fun y : DBeaconStore => bcnTot y.beacons) x.stores) hn
 go_enter Tryz.func115, Tryz.ntmps115
 go_wp2_with fail
 refine name_calls (fun W => Ext w W ∧ Blk W w.heap.size 27 [.slice At_0 t.ases.length ct_0, .slice At_1 t.links.length ct_1] ∧ Blk W (w.heap.size + 1) 40 [I x.ts, .slice Ax_1 x.stores.length cx_1] ∧ Blk W (w.heap.size + 1 + 1) 40 [I 0, .slice none 0 0]) ⟨xe, xb, xb, xb⟩ ?_;rintro w0 ⟨ew0, bt, bx, br⟩;have lr := br.lt;have Bt := Lib.hid bt; have Bx := Lib.hid bx; have BR := Lib.hid br; clear bt bx br;refine (spec_l15Copy _ x _ (by exact Rx.out.ext xe) hn).mono ?_;rintro e w1 ⟨v1, rfl, ⟨u1, rfl, ho1, -⟩, e1⟩;obtain ⟨A1, n1, c1, rfl⟩ := NO.slice ho1;obtain ⟨A1', n1', c1', hv1, ln1, -, -, -⟩ := id (BeaconStoreSO_rd ho1 (Nat.le_refl _));cases hv1;subst ln1;have O1 := Lib.hid ho1; clear ho1;have z0 := ew0.size; have z1 := e1.size;go_wp2_with fail
 refine name_wp (fun W => Ext w1 W ∧ Blk W w1.heap.size 40 [I x.ts, .slice A1 x.stores.length c1]) ⟨xe, xb⟩ ?_;rintro w2 ⟨e2, b7⟩;have B7 := Lib.hid b7; clear b7;have z2 := e2.size;have l7 := B7.out.lt;cases hv : validTop t
 · have HF := Lib.hid (delB_no (x := x) (l := l) hv)
   have HV := Lib.hid hv; clear hv
   go_loopw [8] (fun i wr => i = I 0 ∧ Ext w2 wr) (fun i _ => l.length - (intOf i).toNat)
   case atStart => exact ⟨rfl, Ext.refl _⟩
   case round =>
    obtain ⟨rfl, he⟩ := hrel;have zr := he.size;have bt := Bt.out.ext (w' := wr) xe;have lt := bt.lt;obtain ⟨pt_0, pt_1⟩ := blk2 bt;clear bt;by_cases hlt : 0 < l.length
    · have i1 : (0 : Int) < (l.length : Int) := by omega
      go_wp2_with fail
      refine (spec_ValidTopology _ (t) _ (by exact Rt.out.ext xe)).mono ?_;rintro e w4 ⟨rfl, ew4⟩;have z4 := ew4.size;rw [HV.out];have b7 := B7.out.ext (w' := w4) xe;have lb7 := b7.lt;obtain ⟨qb7_0, qb7_1⟩ := blk2 b7;have fb7_0 := b7.frozen 0;have fb7_1 := b7.frozen 1;clear b7;have br := BR.out.ext (w' := w4) xe;have lbr := br.lt;obtain ⟨qbr_0, qbr_1⟩ := blk2 br;have fbr_0 := br.frozen 0;have fbr_1 := br.frozen 1;clear br;go_wp2_with fail
      refine bodyPost_ret (v := .agg #[I x.ts, .slice A1 x.stores.length c1]) (by simp [results, Tryz.results115, go_sem, *]) rfl ⟨_, rfl, ?_, xe⟩;rw [HF.out];simp only [World.size_setCell];refine ⟨_, rfl, NO.more (NO.keep BeaconStoreOC.keeps (NO.at' BeaconStoreOC.keeps O1.out (w' := w4) xe) ?_) (by omega) (by omega), by omega⟩;intro k h1 h2 h3;rw [Below.heap_setCell _ _ _ _ (by dsimp only; omega), Below.heap_setCell _ _ _ _ (by dsimp only; omega)]
    · have i1 : ¬ (0 : Int) < (l.length : Int) := by omega
      have b7 := B7.out.ext (w' := wr) xe;have lb7 := b7.lt;obtain ⟨qb7_0, qb7_1⟩ := blk2 b7;have fb7_0 := b7.frozen 0;have fb7_1 := b7.frozen 1;clear b7;have br := BR.out.ext (w' := wr) xe;have lbr := br.lt;obtain ⟨qbr_0, qbr_1⟩ := blk2 br;have fbr_0 := br.frozen 0;have fbr_1 := br.frozen 1;clear br;go_wp2_with fail
      refine bodyPost_ret (v := .agg #[I x.ts, .slice A1 x.stores.length c1]) (by simp [results, Tryz.results115, go_sem, *]) rfl ⟨_, rfl, ?_, xe⟩;rw [HF.out];simp only [World.size_setCell];refine ⟨_, rfl, NO.more (NO.keep BeaconStoreOC.keeps (NO.at' BeaconStoreOC.keeps O1.out (w' := wr) xe) ?_) (by omega) (by omega), by omega⟩;intro k h1 h2 h3;rw [Below.heap_setCell _ _ _ _ (by dsimp only; omega), Below.heap_setCell _ _ _ _ (by dsimp only; omega)]
 have HF := Lib.hid (delB_yes (x := x) (l := l) hv);have HV := Lib.hid hv; clear hv;have HWR : Hid (IntKind.i64.wrap ((x.stores.length : Int) - 1) = (x.stores.length : Int) - 1) := IntWalk.i64_in _ (by omega)
 go_loopw [8] (fun i wr => ∃ k : Nat, k ≤ l.length ∧ i = I k ∧ w2.heap.size ≤ wr.heap.size ∧ BeaconStoreSO w0.heap.size wr.heap.size wr (.slice A1 x.stores.length c1) ((l.take k).foldl (delStep t) x.stores) ∧ Blk wr w1.heap.size 40 [I x.ts, .slice A1 x.stores.length c1] ∧ Ext w0 wr) (fun i _ => l.length - (intOf i).toNat)
 case atStart => exact ⟨0, by omega, rfl, Nat.le_refl _, NO.more (NO.at' BeaconStoreOC.keeps O1.out (w' := w2) xe) (Nat.le_refl _) (by omega), B7.out, xe⟩
 case round =>
  obtain ⟨k, hk, rfl, zr2, hno, hb7, he⟩ := hrel;have HNO := Lib.hid hno; have HB7 := Lib.hid hb7; clear hno hb7;have zr := he.size;have bt := Bt.out.ext (w' := wr) xe;have lt := bt.lt;obtain ⟨pt_0, pt_1⟩ := blk2 bt;clear bt;by_cases hlt : k < l.length
  · have k0 : (0 : Int) ≤ (k : Int) := by omega
    have k1 : (k : Int) < (l.length : Int) := by omega
    go_wp2_with fail
    refine (spec_ValidTopology _ (t) _ (by exact Rt.out.ext xe)).mono ?_;rintro e w4 ⟨rfl, ew4⟩;have z4 := ew4.size;rw [HV.out];clear pt_0 pt_1 lt;obtain ⟨b, off, hA, hb, hkl, hc⟩ := Rl.out.at_ hlt;have hyl := hm l[k] (List.getElem_mem hkl);have HX := Lib.hid (delFold_snoc t l x.stores k hkl);have hfl : ((l.take k).foldl (delStep t) x.stores).length = x.stores.length := delFold_len t _ _;have HBC : Hid (∀ j, bcnTot (((l.take k).foldl (delStep t) x.stores).getD j dStr).beacons ≤ 10000000) := fun j => delFold_bcn t (l.take k) x.stores j hn
    generalize l[k] = m at *
    generalize (l.take k).foldl (delStep t) x.stores = ds at *
    subst hA;obtain ⟨Am_4, nm_4, cm_4, hm_0, hm_1, hm_2, hm_3, hm_4, sm_4⟩ := hc;obtain ⟨lm_4, km_4, mm_4⟩ := sm_4.len;subst lm_4;unfold maxLen at mm_4
    have Rm : Hid (BeaconMessageV w.heap.size w (.agg #[I m.to, I m.beacon.ing, I m.beacon.seg.ts, I m.beacon.seg.beta, .slice Am_4 m.beacon.seg.hops.length cm_4]) m) := ⟨_, _, _, rfl, sm_4⟩
    have Sm_4 := Lib.hid sm_4; clear sm_4
    have hbw : b < w4.heap.size := by omega
    cases hr : inR m.to 0 ((x.stores.length : Int) - 1)
    · have HS := Lib.hid (HX.out.trans (delStep_no hfl hr))
      have HR := Lib.hid hr; clear hr;obtain ⟨ku_0, ku_1, ku_2, ku_3, ku_4⟩ := And.intro ((Ext.cell (a := w) (b := w4) xe hb).trans hm_0) (And.intro ((Ext.cell (a := w) (b := w4) xe hb).trans hm_1) (And.intro ((Ext.cell (a := w) (b := w4) xe hb).trans hm_2) (And.intro ((Ext.cell (a := w) (b := w4) xe hb).trans hm_3) ((Ext.cell (a := w) (b := w4) xe hb).trans hm_4))));have b7 := HB7.out.ext (w' := w4) xe;have lb7 := b7.lt;obtain ⟨qb7_0, qb7_1⟩ := blk2 b7;have fb7_0 := b7.frozen 0;have fb7_1 := b7.frozen 1;clear b7;go_wp2_with fail
      refine wp_region_L (E := Ext) (w0 := w4) (G := fun τ => match τ with | 31 => some (fun v W => v = .bool false) | _ => none) Ext.refl (fun h k => Ext.trans h k) (by kernel_rfl) (by kernel_rfl) xg (Ext.drew (by exact Ext.refl _)) ?_
      repeat' (first
       | ((with_reducible refine wpL_skip ?_ ?_ ?_)
          · rfl
          · rfl
          simp only [putS])
       | ((with_reducible refine wpL_quiet ?_ ?_ ?_ ?_)
          · rfl
          · rfl
          · rfl
          apply Exists.intro
          refine ⟨fun W hW hS => ?_, ?_⟩
          · have hC := (Ext.facts hW).1
            go_simp
            first | done | (with_reducible rfl) | (rw [if_neg (by omega)]; exact ⟨rfl, rfl⟩) | rfl
          first | (with_reducible refine wpL_boolT ?_) | (with_reducible refine wpL_boolF ?_) | (with_reducible refine wpL_bool (fun hB => ?_) (fun hB => ?_)) | skip
          all_goals simp only [putS])
       | ((refine wpL_call ?_ rfl rfl ?_ ?_ ?_)
          · rfl
          · rfl
          · intro W hW hS
            have hC := (Ext.facts hW).1;unfold growAt
            go_simp
            simp only [growUpon]
            first | (go_at_call 78; (with_reducible refine Calls.mono (spec_l1In _ _ _ _) ?_); rintro e w9 ⟨rfl, rfl⟩; exact ⟨_, rfl, Ext.refl _, by first | rw [HR.out] | rw [HWR.out, HR.out]⟩)
          first | (with_reducible refine wpL_boolT ?_) | (with_reducible refine wpL_boolF ?_) | (with_reducible refine wpL_bool (fun hB => ?_) (fun hB => ?_)) | skip
          all_goals simp only [putS])
       | ((refine wpL_grow ?_ rfl rfl ?_ ?_)
          · rfl
          · intro W hW hS
            have hC := (Ext.facts hW).1;unfold growAt
            go_simp
            simp only [growUpon]
            first | (go_at_call 78; (with_reducible refine Calls.mono (spec_l1In _ _ _ _) ?_); rintro e w9 ⟨rfl, rfl⟩; exact ⟨_, rfl, Ext.refl _, by first | rw [HR.out] | rw [HWR.out, HR.out]⟩)
          intro v W' hW' hv
          first | (subst hv) | (obtain ⟨A5, n5, c5, rfl, -⟩ := id hv; clear hv) | (obtain ⟨A5, n5, c5, rfl⟩ := NO.slice hv) | skip
          all_goals simp only [putS]))
      refine wpL_nil (fun w5 e5 hL => ?_);clear hL ku_0 ku_1 ku_2 ku_3 ku_4 lb7 qb7_0 qb7_1 fb7_0 fb7_1;have z5 := e5.size;go_wp2_with fail
      go_roundw
      case rel => exact ⟨k + 1, by omega, by go_num, by omega, by rw [HS.out]; exact NO.up BeaconStoreOC.keeps HNO.out (w' := w5) xe (Nat.le_refl _), HB7.out.ext xe, xe⟩
      case measure => simp [intOf]; omega
    · obtain ⟨h0, h1⟩ := inR_iff.1 hr
      obtain ⟨j, hj⟩ : ∃ j : Nat, m.to = (j : Int) := ⟨m.to.toNat, by omega⟩
      have hjl : j < ds.length := by omega
      have HS := Lib.hid (HX.out.trans (delStep_yes hfl hr hj));rw [hj] at hr hm_0 Rm;have HR := Lib.hid hr; clear hr;obtain ⟨g, hg⟩ := storesRow HNO.out (by omega);subst hg;obtain ⟨b2, off2, hA2, hb2, hkl2, hc2⟩ := (BeaconStoreSO_rd HNO.out (Nat.le_refl _)).at_ (k := j) (by omega);cases hA2
      have hbc : bcnTot ds[j].beacons ≤ 10000000 := by rw [← getD_is (d := dStr) hkl2]; exact HBC.out j
      have HGD := Lib.hid (getD_is (d := dStr) hkl2)
      generalize ds[j] = z at *
      obtain ⟨Az_0, nz_0, cz_0, hz_0, sz_0⟩ := hc2;obtain ⟨lz_0, kz_0, mz_0⟩ := sz_0.len;subst lz_0;unfold maxLen at mz_0
      have Rz : Hid (BeaconStoreV wr.heap.size wr (.agg #[.slice Az_0 z.beacons.length cz_0]) z) := ⟨_, _, _, rfl, sz_0⟩
      have Sz_0 := Lib.hid sz_0; clear sz_0
      have j0 : (0 : Int) ≤ (j : Int) := by omega
      have j1 : (j : Int) < (x.stores.length : Int) := by omega
      have gz : wr.cell? ⟨g, j, none⟩ = some (.slice Az_0 z.beacons.length cz_0) := by simpa only [Nat.zero_add] using hz_0
      obtain ⟨ku_0, ku_1, ku_2, ku_3, ku_4⟩ := And.intro ((Ext.cell (a := w) (b := w4) xe hb).trans hm_0) (And.intro ((Ext.cell (a := w) (b := w4) xe hb).trans hm_1) (And.intro ((Ext.cell (a := w) (b := w4) xe hb).trans hm_2) (And.intro ((Ext.cell (a := w) (b := w4) xe hb).trans hm_3) ((Ext.cell (a := w) (b := w4) xe hb).trans hm_4))));have b7 := HB7.out.ext (w' := w4) xe;have lb7 := b7.lt;obtain ⟨qb7_0, qb7_1⟩ := blk2 b7;have fb7_0 := b7.frozen 0;have fb7_1 := b7.frozen 1;clear b7;go_wp2_with fail
      refine wp_region_L (E := Ext) (w0 := w4) (G := fun τ => match τ with | 31 => some (fun v W => v = .bool true) | _ => none) Ext.refl (fun h k => Ext.trans h k) (by kernel_rfl) (by kernel_rfl) xg (Ext.drew (by exact Ext.refl _)) ?_
      repeat' (first
       | ((with_reducible refine wpL_skip ?_ ?_ ?_)
          · rfl
          · rfl
          simp only [putS])
       | ((with_reducible refine wpL_quiet ?_ ?_ ?_ ?_)
          · rfl
          · rfl
          · rfl
          apply Exists.intro
          refine ⟨fun W hW hS => ?_, ?_⟩
          · have hC := (Ext.facts hW).1
            go_simp
            first | done | (with_reducible rfl) | (rw [if_neg (by omega)]; exact ⟨rfl, rfl⟩) | rfl
          first | (with_reducible refine wpL_boolT ?_) | (with_reducible refine wpL_boolF ?_) | (with_reducible refine wpL_bool (fun hB => ?_) (fun hB => ?_)) | skip
          all_goals simp only [putS])
       | ((refine wpL_call ?_ rfl rfl ?_ ?_ ?_)
          · rfl
          · rfl
          · intro W hW hS
            have hC := (Ext.facts hW).1;unfold growAt
            go_simp
            simp only [growUpon]
            first | (go_at_call 78; (with_reducible refine Calls.mono (spec_l1In _ _ _ _) ?_); rintro e w9 ⟨rfl, rfl⟩; exact ⟨_, rfl, Ext.refl _, by first | rw [HR.out] | rw [HWR.out, HR.out]⟩)
          first | (with_reducible refine wpL_boolT ?_) | (with_reducible refine wpL_boolF ?_) | (with_reducible refine wpL_bool (fun hB => ?_) (fun hB => ?_)) | skip
          all_goals simp only [putS])
       | ((refine wpL_grow ?_ rfl rfl ?_ ?_)
          · rfl
          · intro W hW hS
            have hC := (Ext.facts hW).1;unfold growAt
            go_simp
            simp only [growUpon]
            first | (go_at_call 78; (with_reducible refine Calls.mono (spec_l1In _ _ _ _) ?_); rintro e w9 ⟨rfl, rfl⟩; exact ⟨_, rfl, Ext.refl _, by first | rw [HR.out] | rw [HWR.out, HR.out]⟩)
          intro v W' hW' hv
          first | (subst hv) | (obtain ⟨A5, n5, c5, rfl, -⟩ := id hv; clear hv) | (obtain ⟨A5, n5, c5, rfl⟩ := NO.slice hv) | skip
          all_goals simp only [putS]))
      refine wpL_nil (fun w5 e5 hL => ?_);clear hL ku_0 ku_1 ku_2 ku_3 ku_4 lb7 qb7_0 qb7_1 fb7_0 fb7_1;have z5 := e5.size;obtain ⟨ku_0, ku_1, ku_2, ku_3, ku_4⟩ := And.intro ((Ext.cell (a := w) (b := w5) xe hb).trans hm_0) (And.intro ((Ext.cell (a := w) (b := w5) xe hb).trans hm_1) (And.intro ((Ext.cell (a := w) (b := w5) xe hb).trans hm_2) (And.intro ((Ext.cell (a := w) (b := w5) xe hb).trans hm_3) ((Ext.cell (a := w) (b := w5) xe hb).trans hm_4))))
      have hb5 : b < w5.heap.size := by omega
      have hg5 : g < w5.heap.size := by omega
      have gz5 := (Ext.cell (a := wr) (b := w5) xe hb2).trans gz;have b7 := HB7.out.ext (w' := w5) xe;have lb7 := b7.lt;obtain ⟨qb7_0, qb7_1⟩ := blk2 b7;have fb7_0 := b7.frozen 0;have fb7_1 := b7.frozen 1;clear b7;have bt := Bt.out.ext (w' := w5) xe;have lt := bt.lt;obtain ⟨pt_0, pt_1⟩ := blk2 bt;clear bt;go_wp2_with fail
      refine wp_region_L (E := Ext) (w0 := w5) (G := fun τ => match τ with | 53 => some (fun v W => BeaconSO w5.heap.size W.heap.size W v (storeB t j z.beacons m.beacon)) | _ => none) Ext.refl (fun h k => Ext.trans h k) (by kernel_rfl) (by kernel_rfl) xg (Ext.drew (by exact Ext.refl _)) ?_
      repeat' (first
       | ((with_reducible refine wpL_skip ?_ ?_ ?_)
          · rfl
          · rfl
          simp only [putS])
       | ((with_reducible refine wpL_quiet ?_ ?_ ?_ ?_)
          · rfl
          · rfl
          · rfl
          apply Exists.intro
          refine ⟨fun W hW hS => ?_, ?_⟩
          · have hC := (Ext.facts hW).1
            go_simp
            first | done | (with_reducible rfl) | (rw [if_neg (by omega)]; exact ⟨rfl, rfl⟩) | rfl
          first | (with_reducible refine wpL_boolT ?_) | (with_reducible refine wpL_boolF ?_) | (with_reducible refine wpL_bool (fun hB => ?_) (fun hB => ?_)) | skip
          all_goals simp only [putS])
       | ((refine wpL_grow ?_ rfl rfl ?_ ?_)
          · rfl
          · intro W hW hS
            have hC := (Ext.facts hW).1;unfold growAt
            go_simp
            simp only [growUpon]
            first | (go_at_call 148; (with_reducible refine Calls.mono (spec_StoreBeacon _ (j : Int) _ _ t z.beacons m.beacon _ (by exact Rt.out.ext xe) (by exact Sz_0.out.ext xe) (by exact bcnV (Sm_4.out.ext xe)) hbc (by omega)) ?_); rintro e w9 ⟨v9, rfl, o9, e9⟩; exact ⟨_, rfl, e9, NO.more o9 (Ext.size hW) (Nat.le_refl _)⟩)
          intro v W' hW' hv
          first | (obtain ⟨A5, n5, c5, rfl⟩ := NO.slice hv) | (obtain ⟨A5, n5, c5, rfl, -⟩ := id hv; clear hv) | (obtain ⟨A5, n5, c5, rfl⟩ := NO.slice hv) | skip
          all_goals simp only [putS]))
      refine wpL_nil (fun w6 e6 hL => ?_);have n53 : BeaconSO w5.heap.size w6.heap.size w6 (.slice A5 n5 c5) (storeB t j z.beacons m.beacon) := hL 53;have N53 := Lib.hid n53;clear hL n53 ku_0 ku_1 ku_2 ku_3 ku_4 lb7 qb7_0 qb7_1 fb7_0 fb7_1 pt_0 pt_1 lt;have z6 := e6.size;obtain ⟨ku_0, ku_1, ku_2, ku_3, ku_4⟩ := And.intro ((Ext.cell (a := w) (b := w6) xe hb).trans hm_0) (And.intro ((Ext.cell (a := w) (b := w6) xe hb).trans hm_1) (And.intro ((Ext.cell (a := w) (b := w6) xe hb).trans hm_2) (And.intro ((Ext.cell (a := w) (b := w6) xe hb).trans hm_3) ((Ext.cell (a := w) (b := w6) xe hb).trans hm_4))))
      have hb6 : b < w6.heap.size := by omega
      have hg6 : g < w6.heap.size := by omega
      have b7 := HB7.out.ext (w' := w6) xe;have lb7 := b7.lt;obtain ⟨qb7_0, qb7_1⟩ := blk2 b7;have fb7_0 := b7.frozen 0;have fb7_1 := b7.frozen 1;clear b7;go_wp2_with fail
      refine wp_region_LT 10 (E := Ext) (w0 := w6) (G := fun τ => match τ with | 0 => none | _ => none) Ext.refl (fun h k => Ext.trans h k) (by kernel_rfl) (by kernel_rfl) (by kernel_rfl) (by kernel_rfl) (by kernel_rfl) (by kernel_rfl) xg (Ext.drew (by exact Ext.refl _)) ?_;simp only [List.take_succ_cons, List.take_zero]
      repeat' (first
       | ((with_reducible refine wpL_skip ?_ ?_ ?_)
          · rfl
          · rfl
          simp only [putS])
       | ((with_reducible refine wpL_quiet ?_ ?_ ?_ ?_)
          · rfl
          · rfl
          · rfl
          apply Exists.intro
          refine ⟨fun W hW hS => ?_, ?_⟩
          · have hC := (Ext.facts hW).1
            go_simp
            first | done | (with_reducible rfl) | (rw [if_neg (by omega)]; exact ⟨rfl, rfl⟩) | rfl
          first | (with_reducible refine wpL_boolT ?_) | (with_reducible refine wpL_boolF ?_) | (with_reducible refine wpL_bool (fun hB => ?_) (fun hB => ?_)) | skip
          all_goals simp only [putS]))
      refine wpL_nil (fun w7 e7 hL => ?_);clear hL ku_0 ku_1 ku_2 ku_3 ku_4 lb7 qb7_0 qb7_1 fb7_0 fb7_1;have z7 := e7.size;have gz7 := (Ext.cell (a := wr) (b := w7) xe hb2).trans gz;obtain ⟨g', hg', hg1, hg2, hg3, hfr, hob, hset⟩ := setStore (NO.more (NO.at' BeaconStoreOC.keeps HNO.out (w' := w7) xe) (Nat.le_refl _) (by omega : wr.heap.size ≤ w5.heap.size)) hjl (NO.more (NO.up BeaconOC.keeps N53.out e7 (Nat.le_refl _)) (Nat.le_refl _) (Nat.le_refl _)) (by omega);cases hg';have HSET := Lib.hid hset; clear hset
      have hne : g ≠ w1.heap.size := by
       obtain ⟨cs, fp, hown, -⟩ := NO.at' BeaconStoreOC.keeps HNO.out (w' := w7) xe;have h9 := own_off2 hown (HB7.out.ext (w' := w7) xe) (by decide);rw [hob] at h9;exact fun e => h9 (by rw [e])
      simp only [List.drop_succ_cons, List.drop_zero];go_wp2_with (at_builtin; refine hold ?_)
      go_roundw
      case rel => exact ⟨k + 1, by omega, by go_num, by simp only [World.size_setCell]; omega, by rw [HS.out, HGD.out]; simp only [World.size_setCell]; exact HSET.out, Blk.far (HB7.out.ext (w' := w7) xe) (p := ⟨g, _, none⟩) (fun e => hne e.symm) _, xe⟩
      case measure => simp [intOf]; omega
  · obtain rfl : k = l.length := by omega
    have k1 : ¬ (l.length : Int) < (l.length : Int) := by omega
    have b7 := HB7.out.ext (w' := wr) xe;have lb7 := b7.lt;obtain ⟨qb7_0, qb7_1⟩ := blk2 b7;have fb7_0 := b7.frozen 0;have fb7_1 := b7.frozen 1;clear b7;have br := BR.out.ext (w' := wr) xe;have lbr := br.lt;obtain ⟨qbr_0, qbr_1⟩ := blk2 br;have fbr_0 := br.frozen 0;have fbr_1 := br.frozen 1;clear br;go_wp2_with fail
    refine bodyPost_ret (v := .agg #[I x.ts, .slice A1 x.stores.length c1]) (by simp [results, Tryz.results115, go_sem, *]) rfl ⟨_, rfl, ?_, xe⟩;rw [HF.out];have hno := HNO.out;rw [List.take_length] at hno;simp only [World.size_setCell];refine ⟨_, rfl, NO.more (NO.keep BeaconStoreOC.keeps hno ?_) (by omega) (by omega), by omega⟩;intro k h1 h2 h3;rw [Below.heap_setCell _ _ _ _ (by dsimp only; omega), Below.heap_setCell _ _ _ _ (by dsimp only; omega)]
end Go.Proofs.YtmopmgaeiokfjaaGreat
