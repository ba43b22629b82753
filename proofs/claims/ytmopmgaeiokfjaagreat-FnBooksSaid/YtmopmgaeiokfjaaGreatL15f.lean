/- Contracts of the program's and the reference's functions on beaconing: copies of its stores; and how large stores become. No conditions. -/
import Derived.Test.YtmopmgaeiokfjaaGreatL15d
import Derived.Test.YtmopmgaeiokfjaaGreatGL14b
import Derived.Test.YtmopmgaeiokfjaaGreatGHS
import Derived.Test.YtmopmgaeiokfjaaGreatGGrow
set_option maxRecDepth 100000
set_option maxHeartbeats 1000000
namespace Go.Proofs.YtmopmgaeiokfjaaGreat
open Go.RowKit
set_option linter.unusedVariables false
def exB (l : List DBeacon) : Nat := (l.map fun g => g.seg.hops.length - 8).sum
theorem exB_append (a b : List DBeacon) : exB (a ++ b) = exB a + exB b := by unfold exB; rw [List.map_append, List.sum_append]
theorem exB_take (l : List DBeacon) (k : Nat) : exB (l.take k) ≤ exB l := by
 have h : exB l = exB (l.take k) + exB (l.drop k) := by rw [← exB_append, List.take_append_drop]
 omega
theorem exB_le (l : List DBeacon) : (l.map fun g => g.seg.hops.length).sum ≤ 8 * l.length + exB l := by
 induction l with
 | nil => simp [exB]
 | cons g l ih =>
   unfold exB at ih ⊢;simp only [List.map_cons, List.sum_cons, List.length_cons];omega
theorem exB_tot (l : List DBeacon) : exB l ≤ (l.map fun g => g.seg.hops.length).sum := by
 induction l with
 | nil => simp [exB]
 | cons g l ih =>
   unfold exB at ih ⊢;simp only [List.map_cons, List.sum_cons];omega
theorem storeB_len (t : DTopology) (r : Int) (l : List DBeacon) (g : DBeacon) : (storeB t r l g).length ≤ max l.length 12 := by
 unfold storeB;split
 · have h := insB_len l g
   unfold cut12;split
   · rw [List.length_take]; omega
   · omega
 · omega
theorem storeB_ex (t : DTopology) (r : Int) (l : List DBeacon) (g : DBeacon) : exB (storeB t r l g) ≤ exB l := by
 unfold storeB;split
 · rename_i hc
   rw [Bool.and_eq_true] at hc;have h1 := validSeg_len (canExt_valid hc.1)
   have h2 : exB (insB l g) = exB l := by
    unfold insB
    have h3 : exB l = exB (l.take (prefIdx g l)) + exB (l.drop (prefIdx g l)) := by rw [← exB_append, List.take_append_drop]
    have h4 : ∀ m : List DBeacon, exB (g :: m) = exB m := by
     intro m;unfold exB;simp only [List.map_cons, List.sum_cons];omega
    rw [exB_append, h4, h3]
   unfold cut12;split
   · exact Nat.le_trans (exB_take _ _) (Nat.le_of_eq h2)
   · exact Nat.le_of_eq h2
 · omega
theorem delStep_bound (t : DTopology) (st : List DBeaconStore) (m : DBeaconMessage) (k : Nat) : ((delStep t st m).getD k dStr).beacons.length ≤ max (st.getD k dStr).beacons.length 12 ∧ exB ((delStep t st m).getD k dStr).beacons ≤ exB (st.getD k dStr).beacons := by
 unfold delStep;split
 · rename_i h
   obtain ⟨h0, h1⟩ := inR_iff.1 h;by_cases hk : m.to.toNat = k
   · have hkl : k < st.length := by omega
     have e : (st.set m.to.toNat ⟨storeB t m.to (st.getD m.to.toNat dStr).beacons m.beacon⟩).getD k dStr = ⟨storeB t m.to (st.getD k dStr).beacons m.beacon⟩ := by
      subst hk;simp [List.getD_eq_getElem?_getD, hkl]
     rw [e];exact ⟨storeB_len _ _ _ _, storeB_ex _ _ _ _⟩
   · have e : (st.set m.to.toNat ⟨storeB t m.to (st.getD m.to.toNat dStr).beacons m.beacon⟩).getD k dStr = st.getD k dStr := by
      simp [List.getD_eq_getElem?_getD, List.getElem?_set_ne hk]
     rw [e];exact ⟨by omega, Nat.le_refl _⟩
 · exact ⟨by omega, Nat.le_refl _⟩
theorem delFold_ex (t : DTopology) (k : Nat) : ∀ (l : List DBeaconMessage) (st : List DBeaconStore), ((l.foldl (delStep t) st).getD k dStr).beacons.length ≤ max (st.getD k dStr).beacons.length 12 ∧ exB ((l.foldl (delStep t) st).getD k dStr).beacons ≤ exB (st.getD k dStr).beacons
 | [], st => ⟨by simp only [List.foldl_nil]; omega, Nat.le_refl _⟩
 | m :: l, st => by
   have h1 := delFold_ex t k l (delStep t st m);have h2 := delStep_bound t st m k;simp only [List.foldl_cons];omega
theorem bcnTot_ex (l : List DBeacon) : bcnTot l ≤ 9 * l.length + exB l := by
 have h := exB_le l;show l.length + _ ≤ _;omega
theorem delFold_bcn (t : DTopology) (l : List DBeaconMessage) (st : List DBeaconStore) (k : Nat) (hn : stTot st ≤ 1048576) : bcnTot ((l.foldl (delStep t) st).getD k dStr).beacons ≤ 10000000 := by
 have h1 := delFold_ex t k l st;have h2 := bcnTot_ex ((l.foldl (delStep t) st).getD k dStr).beacons;have h3 := exB_tot (st.getD k dStr).beacons
 have h4 : (st.getD k dStr).beacons.length + ((st.getD k dStr).beacons.map fun g => g.seg.hops.length).sum ≤ 1048576 := by
  rcases Nat.lt_or_ge k st.length with hk | hk
  · rw [getD_is hk]
    have := totS_get (fun y : DBeaconStore => bcnTot y.beacons) st k hk;have h5 : bcnTot st[k].beacons = st[k].beacons.length + (st[k].beacons.map fun g => g.seg.hops.length).sum := rfl;have h6 : stTot st = totS (fun y : DBeaconStore => bcnTot y.beacons) st := rfl;omega
  · have e : st.getD k dStr = dStr := by simp [List.getD_eq_getElem?_getD, List.getElem?_eq_none hk]
    rw [e];simp [dStr]
 omega
theorem delFold_snoc (t : DTopology) (l : List DBeaconMessage) (st : List DBeaconStore) (k : Nat) (h : k < l.length) : (l.take (k + 1)).foldl (delStep t) st = delStep t ((l.take k).foldl (delStep t) st) l[k] := foldl_snoc _ _ _ _ h
theorem storeSingle {W : World} {lo g : Nat} {A : Option Addr} {n c : Nat} {l : List DBeacon} (ho : BeaconSO lo W.heap.size W (.slice A n c) l) (hlo : lo ≤ W.heap.size) (hg : g = W.heap.size) :
 BeaconStoreSO lo (W.alloc (.cells #[.slice A n c] 76)).heap.size (W.alloc (.cells #[.slice A n c] 76)) (.slice (some ⟨g, 0, none⟩) 1 1) [⟨l⟩] := by
 have hm : BeaconStoreO lo W.heap.size W (.agg #[.slice A n c]) ⟨l⟩ := ⟨_, rfl, ho, hlo⟩
 obtain ⟨a0, k0, q0, fp, e, hoc, hn, hb⟩ := hm.to_oc;have e5 : [Value.slice A n c] = [.slice a0 k0 q0] := congrArg Array.toList (Value.agg.inj e);rw [← e5] at hoc;exact NO.single BeaconStoreOC.keeps hoc hn hb rfl hlo hg
theorem spec_l15Copy (vx : Value) (x : DBeaconing) (w : World) (hx : BeaconingV w.heap.size w vx x) (hn : stTot x.stores ≤ 1048576) :
 Calls Tryz.prog 147 #[vx] w fun e w' => ∃ v', e = .returned v' ∧ BeaconingO w.heap.size w'.heap.size w' v' x ∧ Ext w w' := by
 obtain ⟨Ax_1, nx_1, cx_1, rfl, sx_1⟩ := id hx;obtain ⟨lx_1, kx_1, mx_1⟩ := sx_1.len;subst lx_1;unfold maxLen at mx_1;have Rx := Lib.hid hx; clear hx;have Sx_1 := Lib.hid sx_1; clear sx_1;have hn : totS (fun y : DBeaconStore => bcnTot y.beacons) x.stores ≤ 1048576 := hn;have hdl := totS_len (fun y : DBeaconStore => bcnTot y.beacons) x.stores
 go_enter Tryz.func147, Tryz.ntmps147
 go_wp2_with fail
 refine name_wp (fun W => ∃ wb, wb.heap.size = w.heap.size + 1 + 1 ∧ Ext w wb ∧ Blk wb w.heap.size 40 [I x.ts, .slice Ax_1 x.stores.length cx_1] ∧ Blk wb (w.heap.size + 1) 40 [I 0, .slice none 0 0] ∧ Ext wb W ∧ Blk W (w.heap.size + 1 + 1) 40 [I x.ts, .slice none 0 0]) ⟨_, (by simp only [World.size_alloc]), xe, xb, xb, (Ext.refl _).alloc _, xb⟩ ?_;rintro w0 ⟨wb, zb, ewb, bx, br, ew0, b0⟩;have Bx := Lib.hid bx; have BR := Lib.hid br; have B0 := Lib.hid b0; clear bx br b0;have l0 := B0.out.lt;have zw0 := ew0.size; have zwb := ewb.size
 go_loopw [4] (fun i wr => ∃ (k : Nat) (u : Value), k ≤ x.stores.length ∧ i = I k ∧ w0.heap.size ≤ wr.heap.size ∧ Blk wr (w.heap.size + 1 + 1) 40 [I x.ts, u] ∧ BeaconStoreSO w0.heap.size wr.heap.size wr u (x.stores.take k) ∧ Ext wb wr) (fun i _ => x.stores.length - (intOf i).toNat)
 case atStart => exact ⟨0, _, by omega, rfl, Nat.le_refl _, B0.out, NO.nil _ _ _ _ _ _, xe⟩
 case round =>
  obtain ⟨k, v, hk, rfl, hz, hb5, ho, he⟩ := hrel;have HB5 := Lib.hid hb5; have HO := Lib.hid ho; clear hb5 ho;obtain ⟨av, nv, cv, hv⟩ := NO.slice HO.out;subst hv;have l5 := HB5.out.lt;have zr := he.size;have bx := Bx.out.ext (w' := wr) xe;have lx := bx.lt;obtain ⟨px_0, px_1⟩ := blk2 bx;clear bx;by_cases hlt : k < x.stores.length
  · obtain ⟨b, off, hA, hb, hkl, hc⟩ := Sx_1.out.at_ hlt
    have hyl : bcnTot x.stores[k].beacons ≤ totS (fun y : DBeaconStore => bcnTot y.beacons) x.stores := totS_get (fun y : DBeaconStore => bcnTot y.beacons) x.stores k hkl;have HX := Lib.hid (take_snoc x.stores k hkl);have hfl := List.length_take_le k x.stores
    generalize x.stores[k] = u at *
    generalize x.stores.take k = ds at *
    subst hA;obtain ⟨Au_0, nu_0, cu_0, hu_0, su_0⟩ := hc;obtain ⟨lu_0, ku_0, mu_0⟩ := su_0.len;subst lu_0;unfold maxLen at mu_0
    have Ru : Hid (BeaconStoreV w.heap.size w (.agg #[.slice Au_0 u.beacons.length cu_0]) u) := ⟨_, _, _, rfl, su_0⟩
    have Su_0 := Lib.hid su_0; clear su_0;have ku_0 := (Ext.cell (a := w) (b := wr) xe hb).trans hu_0
    have i0 : (0 : Int) ≤ (k : Int) := by omega
    have i1 : (k : Int) < (x.stores.length : Int) := by omega
    go_wp2_with fail
    refine (spec_l14Copy _ u.beacons _ (by exact Su_0.out.ext xe) (by omega)).mono ?_;rintro e w5 ⟨v5, rfl, o5, e5⟩;obtain ⟨A5, n5, c5, rfl⟩ := NO.slice o5;have O5 := Lib.hid o5; clear o5 ku_0;have z5 := e5.size;have b5 := HB5.out.ext (w' := w5) xe;have lb5 := b5.lt;obtain ⟨qb5_0, qb5_1⟩ := blk2 b5;have fb5_0 := b5.frozen 0;have fb5_1 := b5.frozen 1;clear b5;go_wp2_with (at_builtin; refine hold ?_)
    refine unhold (wpList_pushN rfl w0.heap.size BeaconStoreOC.keeps BeaconStoreOC.one (.tmp 24) (.tmp 27) _ rfl 76 _ 1 24 Tryz.underlying38 info_BeaconStore rfl (by omega) _ ds [u] wr.heap.size wr.heap.size _ rfl _ 1 1 rfl (by exact NO.at' BeaconStoreOC.keeps HO.out xe) (by exact storeSingle O5.out (by omega) (by first | rfl | simp)) (Nat.le_refl _) (by omega) (by simp only [World.size_alloc]; omega) (Nat.le_refl _) (by simp only [World.size_alloc]; omega) (by simp only [List.length_singleton]; omega) (by omega) ?_);intro v7 w7 no7 hg7;obtain ⟨a7, m7, c7, hv7⟩ := NO.slice no7;subst hv7;have hnb : (Value.slice av nv cv).ownBlock ≠ some (w.heap.size + 1 + 1) := NO.not_block HO.out (by omega);have B7 := Lib.hid (Blk.grown (w := w5.alloc _) (HB5.out.ext xe) hg7 hnb);have E7 := Lib.hid (Ext.grownN (a := wb) (w := w5.alloc _) xe (NO.at' BeaconStoreOC.keeps HO.out (w' := w5.alloc _) xe) hg7 (by omega));have z7 : (w5.alloc _).heap.size ≤ w7.heap.size := hg7.size;simp only [World.size_alloc] at z7;have O7 := Lib.hid no7; clear no7 hg7 hnb;clear lb5 qb5_0 qb5_1 fb5_0 fb5_1;have b7 := B7.out.ext (w' := w7) xe;have lb7 := b7.lt;obtain ⟨qb7_0, qb7_1⟩ := blk2 b7;have fb7_0 := b7.frozen 0;have fb7_1 := b7.frozen 1;clear b7;go_wp2_with (at_builtin; refine hold ?_)
    go_roundw
    case rel => exact ⟨k + 1, _, by omega, by go_num, by simp only [World.size_setCell]; omega, by simpa using B7.out.set_ 1 (.slice a7 m7 c7), by rw [HX.out]; simp only [World.size_setCell]; exact BeaconStoreSO_setCell O7.out (.inl (by dsimp only; omega)) _, Ext.setCell E7.out (by dsimp only; omega) _⟩
    case measure => simp [intOf]; omega
  · obtain rfl : k = x.stores.length := by omega
    rw [List.take_length] at HO;have b5 := HB5.out.ext (w' := wr) xe;have lb5 := b5.lt;obtain ⟨qb5_0, qb5_1⟩ := blk2 b5;have fb5_0 := b5.frozen 0;have fb5_1 := b5.frozen 1;clear b5;have br := BR.out.ext (w' := wr) xe;have lbr := br.lt;obtain ⟨qbr_0, qbr_1⟩ := blk2 br;have fbr_0 := br.frozen 0;have fbr_1 := br.frozen 1;clear br;go_wp2_with fail
    refine bodyPost_ret (v := .agg #[I x.ts, .slice av nv cv]) (by simp [results, Tryz.results147, go_sem, *]) rfl ⟨_, rfl, ?_, ?_⟩
    · simp only [World.size_setCell]
      refine ⟨_, rfl, NO.more (NO.keep BeaconStoreOC.keeps HO.out ?_) (by omega) (by omega), by omega⟩;intro k h1 h2 h3;rw [Below.heap_setCell _ _ _ _ (by dsimp only; omega), Below.heap_setCell _ _ _ _ (by dsimp only; omega)]
    · exact xe
end Go.Proofs.YtmopmgaeiokfjaaGreat
