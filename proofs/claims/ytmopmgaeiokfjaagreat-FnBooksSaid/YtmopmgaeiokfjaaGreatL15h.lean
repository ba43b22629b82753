/- Contracts of the program's and the reference's functions on beaconing: RunBeaconRound, RunBeaconing. No conditions. -/
import Derived.Test.YtmopmgaeiokfjaaGreatL15g
import Derived.Test.YtmopmgaeiokfjaaGreatL15e
set_option maxRecDepth 100000
set_option maxHeartbeats 1000000
namespace Go.Proofs.YtmopmgaeiokfjaaGreat
open Go.RowKit
set_option linter.unusedVariables false
theorem round_hops (t : DTopology) (l : List DPolicy) (b : DBeaconing) (n : Nat) : ∀ m ∈ roundTo t l b n, m.beacon.seg.hops.length ≤ 1048576 := by
 intro m hm;unfold roundTo at hm;obtain ⟨r, _, hm⟩ := List.mem_flatMap.1 hm;unfold roundOne at hm
 rcases List.mem_append.1 hm with hm | hm
 · unfold origMsgs at hm
   split at hm
   · unfold origMsgsTo at hm
     obtain ⟨o, _, rfl⟩ := List.mem_map.1 hm;have := origSeg_len t (polFor l r) r o b.ts (origBeta t r b.ts o);show (origSeg t (polFor l r) r o b.ts (origBeta t r b.ts o)).hops.length ≤ 1048576;omega
   · cases hm
 · unfold propMsgs at hm
   split at hm
   · obtain ⟨g, _, hm⟩ := List.mem_flatMap.1 hm
     unfold propOne at hm;obtain ⟨o, ho, rfl⟩ := List.mem_map.1 hm;have h3 := validSeg_len (canExt_valid (extOk_can (egrIfs_ok ho)));show (grownSeg t (polFor l r) g.seg r g.ing o).hops.length ≤ 1048576;rw [grownSeg_len];omega
   · cases hm
theorem roundTo_len (t : DTopology) (l : List DPolicy) (b : DBeaconing) (n : Nat) (h : n ≤ b.stores.length) : (roundTo t l b n).length ≤ 60 * stTot b.stores := by
 have h1 := roundTo_tot t l b n h;have h2 := sum_take_le (fun y : DBeaconStore => bcnTot y.beacons) b.stores n;have h3 : (roundTo t l b n).length ≤ msgTot (roundTo t l b n) := totS_len _ _;have h4 : stTot b.stores = b.stores.length + (b.stores.map fun y => bcnTot y.beacons).sum := rfl;omega
theorem roundTo_one (t : DTopology) (l : List DPolicy) (b : DBeaconing) (k : Nat) (h : k < b.stores.length) : roundTo t l b (k + 1) = roundTo t l b k ++ (origMsgs t l k b.ts ++ propMsgs t l k b.stores[k].beacons) := by
 rw [roundTo_succ];unfold roundOne;rw [getD_is h]
theorem orig_len (t : DTopology) (l : List DPolicy) (r ts : Int) : (origMsgs t l r ts).length ≤ 12 := by
 have h1 := origMsgs_tot t l r ts;have h2 := totS_len (fun y : DBeaconMessage => y.beacon.seg.hops.length) (origMsgs t l r ts);omega
theorem prop_len (t : DTopology) (l : List DPolicy) (r : Int) (got : List DBeacon) : (propMsgs t l r got).length ≤ 60 * bcnTot got := by
 have h1 := propMsgs_tot t l r got;have h2 : (propMsgs t l r got).length ≤ msgTot (propMsgs t l r got) := totS_len _ _;have h3 : got.length ≤ bcnTot got := totS_len _ _;omega
theorem spec_RunBeaconRound (vt vl vx : Value) (t : DTopology) (l : List DPolicy) (x : DBeaconing) (w : World) (ht : TopologyV w.heap.size w vt t) (hl : PolicyS w.heap.size w vl l) (hx : BeaconingV w.heap.size w vx x) (hn : stTot x.stores ≤ 1048576) :
 Calls Tryz.prog 74 #[vt, vl, vx] w fun e w' => ∃ v', e = .returned v' ∧ BeaconingO w.heap.size w'.heap.size w' v' (runRound t l x) ∧ Ext w w' := by
 obtain ⟨At_0, nt_0, ct_0, At_1, nt_1, ct_1, rfl, st_0, st_1⟩ := id ht;obtain ⟨lt_0, kt_0, mt_0⟩ := st_0.len;subst lt_0;unfold maxLen at mt_0;obtain ⟨lt_1, kt_1, mt_1⟩ := st_1.len;subst lt_1;unfold maxLen at mt_1;have Rt := Lib.hid ht; clear ht;have St_0 := Lib.hid st_0; clear st_0;have St_1 := Lib.hid st_1; clear st_1;obtain ⟨Al, nl, cl, rfl, ll, kl, ml, -⟩ := id hl;subst ll;unfold maxLen at ml;have Rl := Lib.hid hl; clear hl;obtain ⟨Ax_1, nx_1, cx_1, rfl, sx_1⟩ := id hx;obtain ⟨lx_1, kx_1, mx_1⟩ := sx_1.len;subst lx_1;unfold maxLen at mx_1;have Rx := Lib.hid hx; clear hx;have Sx_1 := Lib.hid sx_1; clear sx_1
 go_enter Tryz.func74, Tryz.ntmps74
 go_wp2_with fail
 refine name_wp (fun W => ∃ wb, wb.heap.size = w.heap.size + 1 + 1 + 1 ∧ Ext w wb ∧ Blk wb w.heap.size 27 [.slice At_0 t.ases.length ct_0, .slice At_1 t.links.length ct_1] ∧ Blk wb (w.heap.size + 1) 40 [I x.ts, .slice Ax_1 x.stores.length cx_1] ∧ Blk wb (w.heap.size + 1 + 1) 40 [I 0, .slice none 0 0] ∧ Ext wb W ∧ BeaconMessageSO wb.heap.size W.heap.size W (.slice (some ⟨w.heap.size + 1 + 1 + 1, 0, none⟩) 0 0) []) ⟨_, (by simp only [World.size_alloc]), xe, xb, xb, xb, (Ext.refl _).alloc _, NO.zero _ _ _ _ _ _ (by simp) (Nat.le_refl _)⟩ ?_;rintro w0 ⟨wb, zb, ewb, bt, bx, br, ew0, hz0⟩;have Bt := Lib.hid bt; have Bx := Lib.hid bx; have BR := Lib.hid br; have HZ0 := Lib.hid hz0; clear bt bx br hz0;have z0 := ew0.size; have zwb0 := ewb.size
 have lt : w.heap.size < wb.heap.size := by omega
 have lx : w.heap.size + 1 < wb.heap.size := by omega
 cases hv : validTop t
 · have HF : Hid (delB t x [] = runRound t l x) := by unfold Hid runRound; rw [roundTo_no t l x _ hv]
   have HV := Lib.hid hv; clear hv
   go_loopw [7, 8] (fun v i wr => i = I 0 ∧ BeaconMessageSO wb.heap.size wr.heap.size wr v [] ∧ Ext wb wr) (fun _ i _ => x.stores.length - (intOf i).toNat)
   case atStart => exact ⟨rfl, HZ0.out, xe⟩
   case round =>
    obtain ⟨rfl, hno, he⟩ := hrel;have HNO := Lib.hid hno; clear hno;obtain ⟨av, nv, cv, hvv⟩ := NO.slice HNO.out;subst hvv;have zr := he.size;clear lt lx;have bt := Bt.out.ext (w' := wr) xe;have lt := bt.lt;obtain ⟨pt_0, pt_1⟩ := blk2 bt;clear bt;have bx := Bx.out.ext (w' := wr) xe;have lx := bx.lt;obtain ⟨px_0, px_1⟩ := blk2 bx;clear bx;by_cases hlt : 0 < x.stores.length
    · have i1 : (0 : Int) < (x.stores.length : Int) := by omega
      go_wp2_with fail
      refine (spec_ValidTopology _ (t) _ (by exact Rt.out.ext xe)).mono ?_;rintro e w4 ⟨rfl, ew4⟩;have bt := Bt.out.ext (w' := w4) xe;have lt := bt.lt;obtain ⟨pt_0, pt_1⟩ := blk2 bt;clear bt;have bx := Bx.out.ext (w' := w4) xe;have lx := bx.lt;obtain ⟨px_0, px_1⟩ := blk2 bx;clear bx;have z4 := ew4.size;rw [HV.out];go_wp2_with fail
      refine (spec_DeliverBeacons _ _ _ t x [] _ (by exact Rt.out.ext xe) (by exact Rx.out.ext xe) (by exact BeaconMessageSO_rd (NO.up BeaconMessageOC.keeps HNO.out ew4 (Nat.le_refl _)) (Nat.le_refl _)) hn (fun m hm => by cases hm)).mono ?_;rintro e w5 ⟨v4, rfl, o4, e5⟩;rw [HF.out] at o4;obtain ⟨A4, n4, c4, hv4⟩ := o4.shape;subst hv4;have O4 := Lib.hid o4; clear o4;have z5 := e5.size;clear pt_0 pt_1 lt px_0 px_1 lx
      generalize hy : runRound t l x = y at *
      have HY := Lib.hid hy; clear hy;have br := BR.out.ext (w' := w5) xe;have lbr := br.lt;obtain ⟨qbr_0, qbr_1⟩ := blk2 br;have fbr_0 := br.frozen 0;have fbr_1 := br.frozen 1;clear br;go_wp2_with fail
      refine bodyPost_ret (v := .agg #[I y.ts, .slice A4 n4 c4]) (by simp [results, Tryz.results74, go_sem, *]) rfl ⟨_, rfl, ?_, xe⟩;rw [HY.out];have br9 := BR.out.ext (w' := w5) xe;simp only [World.size_setCell];exact BeaconingO.more (BeaconingO.setT (BeaconingO.setT O4.out br9 0 (I y.ts)) (br9.set_ 0 (I y.ts)) 1 (.slice A4 n4 c4)) (by omega) (Nat.le_refl _)
    · have i1 : ¬ (0 : Int) < (x.stores.length : Int) := by omega
      go_wp2_with fail
      refine (spec_DeliverBeacons _ _ _ t x [] _ (by exact Rt.out.ext xe) (by exact Rx.out.ext xe) (by exact BeaconMessageSO_rd HNO.out (Nat.le_refl _)) hn (fun m hm => by cases hm)).mono ?_;rintro e w5 ⟨v4, rfl, o4, e5⟩;rw [HF.out] at o4;obtain ⟨A4, n4, c4, hv4⟩ := o4.shape;subst hv4;have O4 := Lib.hid o4; clear o4;have z5 := e5.size;clear pt_0 pt_1 lt px_0 px_1 lx
      generalize hy : runRound t l x = y at *
      have HY := Lib.hid hy; clear hy;have br := BR.out.ext (w' := w5) xe;have lbr := br.lt;obtain ⟨qbr_0, qbr_1⟩ := blk2 br;have fbr_0 := br.frozen 0;have fbr_1 := br.frozen 1;clear br;go_wp2_with fail
      refine bodyPost_ret (v := .agg #[I y.ts, .slice A4 n4 c4]) (by simp [results, Tryz.results74, go_sem, *]) rfl ⟨_, rfl, ?_, xe⟩;rw [HY.out];have br9 := BR.out.ext (w' := w5) xe;simp only [World.size_setCell];exact BeaconingO.more (BeaconingO.setT (BeaconingO.setT O4.out br9 0 (I y.ts)) (br9.set_ 0 (I y.ts)) 1 (.slice A4 n4 c4)) (by omega) (Nat.le_refl _)
 have HV := Lib.hid hv; clear hv
 go_loopw [7, 8] (fun v i wr => ∃ k : Nat, k ≤ x.stores.length ∧ i = I k ∧ BeaconMessageSO wb.heap.size wr.heap.size wr v (roundTo t l x k) ∧ Ext wb wr) (fun _ i _ => x.stores.length - (intOf i).toNat)
 case atStart => exact ⟨0, by omega, rfl, HZ0.out, xe⟩
 case round =>
  obtain ⟨k, hk, rfl, hno, he⟩ := hrel;have HNO := Lib.hid hno; clear hno;obtain ⟨av, nv, cv, hvv⟩ := NO.slice HNO.out;subst hvv;have zr := he.size;clear lt lx;have bt := Bt.out.ext (w' := wr) xe;have lt := bt.lt;obtain ⟨pt_0, pt_1⟩ := blk2 bt;clear bt;have bx := Bx.out.ext (w' := wr) xe;have lx := bx.lt;obtain ⟨px_0, px_1⟩ := blk2 bx;clear bx;by_cases hlt : k < x.stores.length
  · have i0 : (0 : Int) ≤ (k : Int) := by omega
    have i1 : (k : Int) < (x.stores.length : Int) := by omega
    go_wp2_with fail
    clear pt_0 pt_1 lt px_0 px_1 lx;refine (spec_ValidTopology _ (t) _ (by exact Rt.out.ext xe)).mono ?_;rintro e w4 ⟨rfl, ew4⟩;have bt := Bt.out.ext (w' := w4) xe;have lt := bt.lt;obtain ⟨pt_0, pt_1⟩ := blk2 bt;clear bt;have bx := Bx.out.ext (w' := w4) xe;have lx := bx.lt;obtain ⟨px_0, px_1⟩ := blk2 bx;clear bx;have z4 := ew4.size;rw [HV.out];obtain ⟨b, off, hA, hb, hkl, hc⟩ := Sx_1.out.at_ hlt;have hyl : bcnTot x.stores[k].beacons ≤ stTot x.stores := totS_get (fun y : DBeaconStore => bcnTot y.beacons) x.stores k hkl;have HX := Lib.hid (roundTo_one t l x k hkl);have hrl := roundTo_len t l x k hk
    generalize x.stores[k] = u at *
    generalize roundTo t l x k = ds at *
    subst hA;obtain ⟨Au_0, nu_0, cu_0, hu_0, su_0⟩ := hc;obtain ⟨lu_0, ku_0, mu_0⟩ := su_0.len;subst lu_0;unfold maxLen at mu_0
    have Ru : Hid (BeaconStoreV w.heap.size w (.agg #[.slice Au_0 u.beacons.length cu_0]) u) := ⟨_, _, _, rfl, su_0⟩
    have Su_0 := Lib.hid su_0; clear su_0;go_wp2_with fail
    refine (spec_Originated _ _ (k : Int) x.ts t l _ (by exact Rt.out.ext xe) (by exact Rl.out.ext xe)).mono ?_;rintro e w5 ⟨v5, rfl, o5, e5⟩;obtain ⟨A5, n5, c5, rfl⟩ := NO.slice o5;have O5 := Lib.hid o5; clear o5;have z5 := e5.size;have hol := orig_len t l (k : Int) x.ts
    generalize origMsgs t l (k : Int) x.ts = d5 at *
    clear pt_0 pt_1 lt px_0 px_1 lx;go_wp2_with (at_builtin; refine hold ?_)
    refine unhold (wpList_pushN rfl wb.heap.size BeaconMessageOC.keeps BeaconMessageOC.one (.tmp 21) (.tmp 27) _ rfl 149 _ 5 56 Tryz.underlying134 info_BeaconMessage rfl (by omega) _ ds d5 wr.heap.size w4.heap.size w5.heap.size rfl _ _ _ rfl (by exact NO.at' BeaconMessageOC.keeps HNO.out xe) (by exact O5.out) (by omega) (by omega) (by omega) (Nat.le_refl _) (by omega) (by omega) (by omega) ?_);intro v6 w6 no6 hg6;obtain ⟨a6, m6, q6, hv6⟩ := NO.slice no6;subst hv6;have E6 := Ext.grownN (a := wb) (w := w5) xe (NO.at' BeaconMessageOC.keeps HNO.out (w' := w5) xe) hg6 (Nat.le_refl _);have z6 : w5.heap.size ≤ w6.heap.size := hg6.size;have N6 := Lib.hid no6; clear no6 hg6;have zwb := ewb.size;have bt := Bt.out.ext (w' := w6) xe;have lt := bt.lt;obtain ⟨pt_0, pt_1⟩ := blk2 bt;clear bt;have bx := Bx.out.ext (w' := w6) xe;have lx := bx.lt;obtain ⟨px_0, px_1⟩ := blk2 bx;clear bx;have ku_0 := (Ext.cell (a := w) (b := w6) xe hb).trans hu_0
    have hb6 : b < w6.heap.size := by omega
    go_wp2_with (at_builtin; refine hold ?_)
    refine wp_region_LT 11 (E := Ext) (w0 := w6) (G := fun τ => match τ with | 39 => some (fun v W => BeaconMessageSO w6.heap.size W.heap.size W v (propMsgs t l (k : Int) u.beacons)) | _ => none) Ext.refl (fun h k => Ext.trans h k) (by kernel_rfl) (by kernel_rfl) (by kernel_rfl) (by kernel_rfl) (by kernel_rfl) (by kernel_rfl) xg (Ext.drew (by exact Ext.refl _)) ?_;simp only [List.take_succ_cons, List.take_zero]
    repeat' (first
     | ((with_reducible refine wpL_skip ?_ ?_ ?_)
        · rfl
        · rfl
        simp only [putS])
     | ((with_reducible refine wpL_quiet ?_ ?_ ?_ ?_)
        · rfl
        · rfl
        · rfl
        apply Exists.intro
        refine ⟨fun W hW hS => ?_, ?_⟩
        · have hC := (Ext.facts hW).1
          go_simp
          first | done | (with_reducible rfl) | (rw [if_neg (by omega)]; exact ⟨rfl, rfl⟩) | rfl
        first | (with_reducible refine wpL_boolT ?_) | (with_reducible refine wpL_boolF ?_) | (with_reducible refine wpL_bool (fun hB => ?_) (fun hB => ?_)) | skip
        all_goals simp only [putS])
     | ((refine wpL_grow ?_ rfl rfl ?_ ?_)
        · rfl
        · intro W hW hS
          have hC := (Ext.facts hW).1;unfold growAt
          go_simp
          simp only [growUpon]
          first | (go_at_call 114; (with_reducible refine Calls.mono (spec_Propagated _ _ (k : Int) _ t l u.beacons _ (by exact Rt.out.ext xe) (by exact Rl.out.ext xe) (by exact Su_0.out.ext xe) (by omega)) ?_); rintro e w9 ⟨v9, rfl, o9, e9⟩; exact ⟨_, rfl, e9, NO.more o9 (Ext.size hW) (Nat.le_refl _)⟩)
        intro v W' hW' hv
        first | (obtain ⟨A7, n7, c7, rfl⟩ := NO.slice hv) | (obtain ⟨A5, n5, c5, rfl, -⟩ := id hv; clear hv) | (obtain ⟨A5, n5, c5, rfl⟩ := NO.slice hv) | skip
        all_goals simp only [putS]))
    refine wpL_nil (fun w7 e7 hL => ?_);have n39 : BeaconMessageSO w6.heap.size w7.heap.size w7 (.slice A7 n7 c7) (propMsgs t l (k : Int) u.beacons) := hL 39;have O7 := Lib.hid n39; clear hL n39 ku_0 pt_0 pt_1 lt px_0 px_1 lx;have z7 := e7.size;have hpl := prop_len t l (k : Int) u.beacons
    generalize propMsgs t l (k : Int) u.beacons = d7 at *
    simp only [List.drop_succ_cons, List.drop_zero];go_wp2_with (at_builtin; refine hold ?_)
    refine unhold (wpList_pushN rfl wb.heap.size BeaconMessageOC.keeps BeaconMessageOC.one (.tmp 29) (.tmp 39) _ rfl 149 _ 5 56 Tryz.underlying134 info_BeaconMessage rfl (by omega) _ (ds ++ d5) d7 w6.heap.size w6.heap.size w7.heap.size rfl _ _ _ rfl (by exact NO.at' BeaconMessageOC.keeps N6.out xe) (by exact O7.out) (Nat.le_refl _) (by omega) (by omega) (Nat.le_refl _) (by omega) (by rw [List.length_append]; omega) (by omega) ?_);intro v8 w8 no8 hg8;have E8 := Lib.hid (Ext.grownN (a := wb) (w := w7) xe (NO.at' BeaconMessageOC.keeps N6.out (w' := w7) xe) hg8 (Nat.le_refl _));have N8 := Lib.hid no8; clear no8 hg8;go_wp2_with (at_builtin; refine hold ?_)
    go_roundw
    case rel => exact ⟨k + 1, by omega, by go_num, by rw [HX.out, ← List.append_assoc]; exact N8.out, E8.out⟩
    case measure => simp [intOf]; omega
  · obtain rfl : k = x.stores.length := by omega
    have i1 : ¬ (x.stores.length : Int) < (x.stores.length : Int) := by omega
    go_wp2_with fail
    refine (spec_DeliverBeacons _ _ _ t x (roundTo t l x x.stores.length) _ (by exact Rt.out.ext xe) (by exact Rx.out.ext xe) (by exact BeaconMessageSO_rd HNO.out (Nat.le_refl _)) hn (round_hops t l x _)).mono ?_;rintro e w4 ⟨v4, rfl, o4, e4⟩;have HF : Hid (delB t x (roundTo t l x x.stores.length) = runRound t l x) := rfl;rw [HF.out] at o4;obtain ⟨A4, n4, c4, hv4⟩ := o4.shape;subst hv4;have O4 := Lib.hid o4; clear o4;have z4 := e4.size;clear pt_0 pt_1 lt px_0 px_1 lx
    generalize hy : runRound t l x = y at *
    have HY := Lib.hid hy; clear hy;have br := BR.out.ext (w' := w4) xe;have lbr := br.lt;obtain ⟨qbr_0, qbr_1⟩ := blk2 br;have fbr_0 := br.frozen 0;have fbr_1 := br.frozen 1;clear br;go_wp2_with fail
    refine bodyPost_ret (v := .agg #[I y.ts, .slice A4 n4 c4]) (by simp [results, Tryz.results74, go_sem, *]) rfl ⟨_, rfl, ?_, xe⟩;rw [HY.out];have br9 := BR.out.ext (w' := w4) xe;simp only [World.size_setCell];exact BeaconingO.more (BeaconingO.setT (BeaconingO.setT O4.out br9 0 (I y.ts)) (br9.set_ 0 (I y.ts)) 1 (.slice A4 n4 c4)) (by omega) (Nat.le_refl _)
end Go.Proofs.YtmopmgaeiokfjaaGreat
