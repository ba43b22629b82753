/- Contracts of the program's and the reference's functions on the segment database: BuildDatabase. Printed by scripts/g16l.py. -/
import Derived.Test.YtkbiciiniagadaaGreatL16k
import Derived.Test.YtkbiciiniagadaaGreatL15c
import Derived.Test.YtkbiciiniagadaaGreatL13f
import Derived.Test.YtkbiciiniagadaaGreatGL13
namespace Go.Proofs.YtkbiciiniagadaaGreat
open Go.RowKit
set_option linter.unusedVariables false
theorem termSeg_yes {t : DTopology} {p : DPolicy} {s : DSegment} {r inn : Int} (h : termOk t p s r inn = true) : termSeg t p s r inn = grownSeg t p s r inn 0 := by unfold termSeg; rw [h]; rfl
theorem dbStep_yes {t : DTopology} {l : List DPolicy} {r : Int} {k : DSegmentDatabase} {g : DBeacon} (h : termOk t (polFor l r) g.seg r g.ing = true) : dbStep t l r k g = dbPut t k (grownSeg t (polFor l r) g.seg r g.ing 0) := by unfold dbStep; rw [if_pos h]
theorem dbStep_no {t : DTopology} {l : List DPolicy} {r : Int} {k : DSegmentDatabase} {g : DBeacon} (h : termOk t (polFor l r) g.seg r g.ing = false) : dbStep t l r k g = k := by unfold dbStep; rw [if_neg (by rw [h]; simp)]
theorem dbTo_next (t : DTopology) (l : List DPolicy) (x : List DBeaconStore) (k : Nat) (h : k < x.length) : dbTo t l x (k + 1) = dbGots t l k (dbTo t l x k) x[k].beacons := by
  have h1 : dbTo t l x (k + 1) = dbGots t l k (dbTo t l x k) (x.getD k dStore).beacons := rfl
  rw [h1, getD_is h]
theorem dbIn_tot (t : DTopology) (l : List DPolicy) (x : List DBeaconStore) (k j : Nat) (h : k < x.length) (hj : j ≤ x[k].beacons.length) (hn : strTot x ≤ 1048576) : dbTot (dbGots t l k (dbTo t l x k) (x[k].beacons.take j)) ≤ 100000000 := by
  have h1 := dbGots_tot t l k (x[k].beacons.take j) (dbTo t l x k)
  have h2 := dbTo_tot t l x k (by omega)
  have h3 := sum_take_le (fun y : DBeaconStore => bcnTot y.beacons) x k
  have h4 : strTot x = x.length + (x.map fun y => bcnTot y.beacons).sum := rfl
  have h5 := totS_get (fun y : DBeaconStore => bcnTot y.beacons) x k h
  have h6 : x[k].beacons.length ≤ bcnTot x[k].beacons := totS_len (fun y : DBeacon => y.seg.hops.length) x[k].beacons
  have h7 : strTot x = totS (fun y : DBeaconStore => bcnTot y.beacons) x := rfl
  rw [List.length_take, Nat.min_eq_left hj] at h1
  omega
theorem dbQ_le {lo hi : Nat} {w : World} {v : Value} {x : DSegmentDatabase} (h : SegmentDatabaseQ lo hi w v x) : lo ≤ hi := by
  obtain ⟨u0, cs0, f0, u1, cs1, f1, e, r0, l0, r1, l1, hn, hb, hl⟩ := h
  exact hl
set_option maxRecDepth 100000 in
set_option maxHeartbeats 1000000 in
theorem impl_BuildDatabase (vt vl vx : Value) (t : DTopology) (l : List DPolicy) (x : DBeaconing) (w : World) (ht : TopologyV w.heap.size w vt t) (hl : PolicyS w.heap.size w vl l) (hx : BeaconingV w.heap.size w vx x) (hn : strTot x.stores ≤ 1048576) :
    Calls Tryz.prog 6 #[vt, vl, vx] w fun e w' => ∃ v', e = .returned v' ∧ SegmentDatabaseQ w.heap.size w'.heap.size w' v' (buildDb t l x) ∧ Ext w w' := by
  obtain ⟨At_0, nt_0, ct_0, At_1, nt_1, ct_1, rfl, st_0, st_1⟩ := id ht
  obtain ⟨lt_0, kt_0, mt_0⟩ := st_0.len
  subst lt_0
  unfold maxLen at mt_0
  obtain ⟨lt_1, kt_1, mt_1⟩ := st_1.len
  subst lt_1
  unfold maxLen at mt_1
  have Rt := Lib.hid ht; clear ht
  have St_0 := Lib.hid st_0; clear st_0
  have St_1 := Lib.hid st_1; clear st_1
  obtain ⟨Al, nl, cl, rfl, ll, kl, ml, -⟩ := id hl
  subst ll
  unfold maxLen at ml
  have Rl := Lib.hid hl; clear hl
  obtain ⟨Ax_1, nx_1, cx_1, rfl, sx_1⟩ := id hx
  obtain ⟨lx_1, kx_1, mx_1⟩ := sx_1.len
  subst lx_1
  unfold maxLen at mx_1
  have Rx := Lib.hid hx; clear hx
  have Sx_1 := Lib.hid sx_1; clear sx_1
  go_enter Tryz.func6, Tryz.ntmps6
  go_wp2_with fail
  refine name_wp (fun W => ∃ wb, wb.heap.size = w.heap.size + 1 + 1 + 1 ∧ Ext w wb ∧ Blk wb w.heap.size 27 [.slice At_0 t.ases.length ct_0, .slice At_1 t.links.length ct_1] ∧ Blk wb (w.heap.size + 1) 31 [I x.ts, .slice Ax_1 x.stores.length cx_1] ∧ Blk wb (w.heap.size + 1 + 1) 36 [.slice none 0 0, .slice none 0 0] ∧ Ext wb W ∧ Blk W (w.heap.size + 1 + 1 + 1) 36 [.slice none 0 0, .slice none 0 0]) ⟨_, (by simp only [World.size_alloc]), xe, xb, xb, xb, (Ext.refl _).alloc _, xb⟩ ?_
  rintro w0 ⟨wb, zb, ewb, bt, bx, br, ew0, b0⟩
  have Bt := Lib.hid bt; have Bx := Lib.hid bx; have BR := Lib.hid br; have B0 := Lib.hid b0; clear bt bx br b0
  have zw0 := ew0.size; have zwb := ewb.size
  go_loopw [17] (fun i wr => ∃ (k : Nat) (A0 : Option Addr) (n0 c0 : Nat) (A1 : Option Addr) (n1 c1 : Nat), k ≤ x.stores.length ∧ i = I k ∧ Blk wr (w.heap.size + 1 + 1 + 1) 36 [.slice A0 n0 c0, .slice A1 n1 c1] ∧ SegmentDatabaseQ w0.heap.size wr.heap.size wr (.agg #[.slice A0 n0 c0, .slice A1 n1 c1]) (dbTo t l x.stores k) ∧ Ext wb wr) (fun i _ => x.stores.length - (intOf i).toNat)
  case atStart => exact ⟨0, _, _, _, _, _, _, by omega, rfl, B0.out, SegmentDatabaseQ.nil _ _ _ (Nat.le_refl _), xe⟩
  case round =>
    obtain ⟨k, A0, n0, c0, A1, n1, c1, hk, rfl, hb7, hq, he⟩ := hrel
    have HB7 := Lib.hid hb7; have HQ := Lib.hid hq; clear hb7 hq
    have zr := he.size
    by_cases hlt : k < x.stores.length
    · obtain ⟨b, off, hA, hb, hkl, hc⟩ := Sx_1.out.at_ hlt
      have hyl : bcnTot x.stores[k].beacons ≤ strTot x.stores := totS_get (fun y : DBeaconStore => bcnTot y.beacons) x.stores k hkl
      have HX := Lib.hid (dbTo_next t l x.stores k hkl)
      have H39 : Hid (∀ j, j ≤ x.stores[k].beacons.length → dbTot (dbGots t l k (dbTo t l x.stores k) (x.stores[k].beacons.take j)) ≤ 100000000) := fun j hj => dbIn_tot t l x.stores k j hkl hj hn
      generalize x.stores[k] = u at *
      generalize dbTo t l x.stores k = db0 at *
      have hul : u.beacons.length ≤ bcnTot u.beacons := totS_len (fun y : DBeacon => y.seg.hops.length) u.beacons
      subst hA
      obtain ⟨Au_0, nu_0, cu_0, hu_0, su_0⟩ := hc
      obtain ⟨lu_0, ku_0, mu_0⟩ := su_0.len
      subst lu_0
      unfold maxLen at mu_0
      have Ru : Hid (BeaconStoreV w.heap.size w (.agg #[.slice Au_0 u.beacons.length cu_0]) u) := ⟨_, _, _, rfl, su_0⟩
      have Su_0 := Lib.hid su_0; clear su_0
      have k0 : (0 : Int) ≤ (k : Int) := by omega
      have k1 : (k : Int) < (x.stores.length : Int) := by omega
      have ku_0 := (Ext.cell (a := w) (b := wr) xe hb).trans hu_0
      go_wp2_with fail
      clear ku_0
      refine name_wp (fun W => Ext wr W) xe ?_
      rintro w4 ew4
      go_loopw [25] (fun i wr => ∃ (j : Nat) (A0 : Option Addr) (n0 c0 : Nat) (A1 : Option Addr) (n1 c1 : Nat), j ≤ u.beacons.length ∧ i = I j ∧ Blk wr (w.heap.size + 1 + 1 + 1) 36 [.slice A0 n0 c0, .slice A1 n1 c1] ∧ SegmentDatabaseQ w0.heap.size wr.heap.size wr (.agg #[.slice A0 n0 c0, .slice A1 n1 c1]) (dbGots t l k db0 (u.beacons.take j)) ∧ Ext wb wr) (fun i _ => u.beacons.length - (intOf i).toNat)
      case atStart => exact ⟨0, A0, n0, c0, A1, n1, c1, by omega, rfl, HB7.out.ext xe, SegmentDatabaseQ.up HQ.out xe, xe⟩
      case round =>
        clear HB7 HQ
        obtain ⟨j, A0, n0, c0, A1, n1, c1, hj, rfl, hb7, hq, he2⟩ := hrel
        have HB7 := Lib.hid hb7; have HQ := Lib.hid hq; clear hb7 hq
        have zi := he2.size
        by_cases hlt2 : j < u.beacons.length
        · obtain ⟨b2, off2, hA2, hb2, hkl2, hc2⟩ := Su_0.out.at_ hlt2
          have hml : u.beacons[j].seg.hops.length ≤ bcnTot u.beacons := totS_get (fun y : DBeacon => y.seg.hops.length) u.beacons j hkl2
          have HS := Lib.hid (dbGots_snoc t l k db0 u.beacons j hkl2)
          have htt := H39.out j (by omega)
          generalize u.beacons[j] = m at *
          generalize dbGots t l k db0 (u.beacons.take j) = db at *
          subst hA2
          obtain ⟨Am_3, nm_3, cm_3, hm_0, hm_1, hm_2, hm_3, sm_3⟩ := hc2
          obtain ⟨lm_3, km_3, mm_3⟩ := sm_3.len
          subst lm_3
          unfold maxLen at mm_3
          have Rm : Hid (BeaconV w.heap.size w (.agg #[I m.ing, I m.seg.ts, I m.seg.beta, .slice Am_3 m.seg.hops.length cm_3]) m) := ⟨_, _, _, rfl, sm_3⟩
          have Sm_3 := Lib.hid sm_3; clear sm_3
          have j0 : (0 : Int) ≤ (j : Int) := by omega
          have j1 : (j : Int) < (u.beacons.length : Int) := by omega
          have hlo := dbQ_le HQ.out
          have HY : Hid (termOk t (polFor l k) m.seg k m.ing = true → dbStep t l k db m = dbPut t db (grownSeg t (polFor l k) m.seg k m.ing 0)) := fun h => dbStep_yes h
          have HN : Hid (termOk t (polFor l k) m.seg k m.ing = false → dbStep t l k db m = db) := fun h => dbStep_no h
          generalize hpl : polFor l (k : Int) = p at *
          have HPL := Lib.hid hpl; clear hpl
          obtain ⟨km_0, km_1, km_2, km_3⟩ := And.intro ((Ext.cell (a := w) (b := wr) xe hb2).trans hm_0) (And.intro ((Ext.cell (a := w) (b := wr) xe hb2).trans hm_1) (And.intro ((Ext.cell (a := w) (b := wr) xe hb2).trans hm_2) ((Ext.cell (a := w) (b := wr) xe hb2).trans hm_3)))
          have bt := Bt.out.ext (w' := wr) xe
          have lt := bt.lt
          obtain ⟨pt_0, pt_1⟩ := blk2 bt
          clear bt
          go_wp2_with fail
          clear km_0 km_1 km_2 km_3 pt_0 pt_1 lt
          first | refine name_wp ?_ ?_ ?_ | refine name_calls ?_ ?_ ?_
          exact (fun W => Ext wr W ∧ Blk W (wr.heap.size) 45 [I m.ing, I m.seg.ts, I m.seg.beta, .slice Am_3 m.seg.hops.length cm_3])
          exact ⟨xe, xb⟩
          rintro w5 ⟨ew5, bm⟩
          have lm := bm.lt
          obtain ⟨pm_0, pm_1, pm_2, pm_3⟩ := blk4 bm
          have Bm := Lib.hid bm; clear bm
          have bt := Bt.out.ext (w' := w5) xe
          have lt := bt.lt
          obtain ⟨pt_0, pt_1⟩ := blk2 bt
          clear bt
          have z5 := ew5.size
          generalize hsg : termSeg t p m.seg k m.ing = sg at *
          have HSG := Lib.hid hsg; clear hsg
          cases hv : termOk t p m.seg k m.ing
          · have HD := Lib.hid (HS.out.trans (HN.out hv))
            have HV := Lib.hid hv; clear hv
            refine wp_region_LQ 14 12 _ _ _ rfl (E := Ext) (w0 := w5) (G := fun τ => match τ with | 33 => some (fun v W => v = .agg #[I p.maxLen, I p.denied, I p.closed, I p.life]) | 39 => some (fun v W => PairO w5.heap.size false sg v W) | 12 => some (fun v W => Zero1 43 w5.heap.size [I 0, I 0, .slice none 0 0] v W) | _ => none)  Ext.refl (fun h k => Ext.trans h k) (by kernel_rfl) (by kernel_rfl) (by kernel_rfl) (by kernel_rfl) rfl rfl rfl rfl rfl rfl (by kernel_rfl) (pure_extract rfl) (by kernel_rfl) (by kernel_rfl) (by kernel_rfl) (by kernel_rfl) (by kernel_rfl) (by kernel_rfl) xg (Ext.drew (by exact Ext.refl _)) ?_
            simp only [List.take_succ_cons, List.take_zero]
            repeat' (first
              | ((with_reducible refine wpL_skip ?_ ?_ ?_)
                 · rfl
                 · rfl
                 simp only [Act.put, List.setIfInBounds_toArray, List.set_cons_zero, List.set_cons_succ])
              | ((with_reducible refine wpL_quiet ?_ ?_ ?_ ?_)
                 · rfl
                 · rfl
                 · rfl
                 apply Exists.intro
                 refine ⟨fun W hW hS => ?_, ?_⟩
                 · have hC := (Ext.facts hW).1
                   go_simp
                   first | done | (with_reducible rfl) | (rw [if_neg (by omega)]; exact ⟨rfl, rfl⟩) | rfl
                 first | (with_reducible refine wpL_boolT ?_) | (with_reducible refine wpL_boolF ?_) | (with_reducible refine wpL_bool (fun hB => ?_) (fun hB => ?_)) | skip
                 all_goals simp only [Act.put, List.setIfInBounds_toArray, List.set_cons_zero, List.set_cons_succ])
              | ((refine wpL_call ?_ rfl rfl ?_ ?_ ?_)
                 · rfl
                 · rfl
                 · intro W hW hS
                   have hC := (Ext.facts hW).1
                   unfold growAt
                   go_simp
                   simp only [growUpon]
                   first | (go_at_call 8; (with_reducible refine Calls.mono (impl_PolicyFor _ (k : Int) l _ (by exact Rl.out.ext xe)) ?_); rintro e w9 ⟨rfl, e9⟩; exact ⟨_, rfl, e9, by rw [HPL.out]⟩) | (go_at_call 19; (with_reducible refine Calls.mono (impl_Terminate _ p _ (k : Int) m.ing t m.seg _ (by exact Rt.out.ext xe) (by exact segV (Sm_3.out.ext xe)) (by omega)) ?_); rintro e w9 ⟨v9, rfl, o9, e9⟩; exact ⟨_, rfl, e9, v9, by rw [HV.out], by rw [← HSG.out]; exact SegmentO.more o9 (Ext.size hW) (Nat.le_refl _)⟩) | (exact ⟨xe, _, rfl, Ext.size (by assumption), Blk.new _ _ _⟩)
                 first | (with_reducible refine wpL_boolT ?_) | (with_reducible refine wpL_boolF ?_) | (with_reducible refine wpL_bool (fun hB => ?_) (fun hB => ?_)) | skip
                 all_goals simp only [Act.put, List.setIfInBounds_toArray, List.set_cons_zero, List.set_cons_succ])
              | ((refine wpL_grow ?_ rfl rfl ?_ ?_)
                 · rfl
                 · intro W hW hS
                   have hC := (Ext.facts hW).1
                   unfold growAt
                   go_simp
                   simp only [growUpon]
                   first | (go_at_call 8; (with_reducible refine Calls.mono (impl_PolicyFor _ (k : Int) l _ (by exact Rl.out.ext xe)) ?_); rintro e w9 ⟨rfl, e9⟩; exact ⟨_, rfl, e9, by rw [HPL.out]⟩) | (go_at_call 19; (with_reducible refine Calls.mono (impl_Terminate _ p _ (k : Int) m.ing t m.seg _ (by exact Rt.out.ext xe) (by exact segV (Sm_3.out.ext xe)) (by omega)) ?_); rintro e w9 ⟨v9, rfl, o9, e9⟩; exact ⟨_, rfl, e9, v9, by rw [HV.out], by rw [← HSG.out]; exact SegmentO.more o9 (Ext.size hW) (Nat.le_refl _)⟩) | (exact ⟨xe, _, rfl, Ext.size (by assumption), Blk.new _ _ _⟩)
                 intro v W' hW' hv
                 first | (subst hv) | (obtain ⟨v8, rfl, hv8⟩ := hv; obtain ⟨A8, n8, c8, rfl⟩ := SegmentO.shape hv8) | (obtain ⟨g5, rfl, -⟩ := hv) | (obtain ⟨A5, n5, c5, rfl, -⟩ := id hv; clear hv) | (obtain ⟨A5, n5, c5, rfl⟩ := NO.slice hv) | skip
                 all_goals simp only [Act.put, List.setIfInBounds_toArray, List.set_cons_zero, List.set_cons_succ]))
            refine wpL_nil (fun w6 ew6 hL => ?_)
            have pz : Zero1 43 w5.heap.size [I 0, I 0, .slice none 0 0] _ w6 := hL 12
            obtain ⟨gz, hgz, hgl, hbz⟩ := pz
            have hge : gz = g5 := by injection hgz with h; injection h with h; injection h with h1; exact h1.symm
            subst hge
            clear hgz hL
            have zw6 := ew6.size
            have lz := hbz.lt
            obtain ⟨yz_0, yz_1, yz_2⟩ := blk3 hbz
            have fz_0 := hbz.frozen 0
            have fz_1 := hbz.frozen 1
            have fz_2 := hbz.frozen 2
            have BW := Lib.hid (Blk.set_ (Blk.set_ (Blk.set_ hbz 0 (I sg.ts)) 1 (I sg.beta)) 2 (.slice A8 n8 c8))
            clear hbz 
            apply Exists.intro
            refine ⟨⟨_, ?run, .inl rfl⟩, ?_⟩
            case run =>
              go_simp
              first | done | rfl
            go_wp2_with fail
            clear yz_0 fz_0 yz_1 fz_1 yz_2 fz_2
            go_roundw
            case rel => exact ⟨j + 1, A0, n0, c0, A1, n1, c1, by omega, by go_num, HB7.out.ext xe, by rw [HD.out]; exact SegmentDatabaseQ.up HQ.out xe, xe⟩
            case measure => simp [intOf]; omega
          · have HD := Lib.hid (HS.out.trans (HY.out hv))
            have hsy := (HSG.out.symm.trans (termSeg_yes hv)).symm
            rw [hsy] at HD
            have hsl : sg.hops.length ≤ 10 := by rw [← hsy, grownSeg_len]; have := validSeg_len (canExt_valid (termOk_can hv)); omega
            clear hsy
            have HV := Lib.hid hv; clear hv
            refine wp_region_LQ 14 12 _ _ _ rfl (E := Ext) (w0 := w5) (G := fun τ => match τ with | 33 => some (fun v W => v = .agg #[I p.maxLen, I p.denied, I p.closed, I p.life]) | 39 => some (fun v W => PairO w5.heap.size true sg v W) | 12 => some (fun v W => Zero1 43 w5.heap.size [I 0, I 0, .slice none 0 0] v W) | _ => none)  Ext.refl (fun h k => Ext.trans h k) (by kernel_rfl) (by kernel_rfl) (by kernel_rfl) (by kernel_rfl) rfl rfl rfl rfl rfl rfl (by kernel_rfl) (pure_extract rfl) (by kernel_rfl) (by kernel_rfl) (by kernel_rfl) (by kernel_rfl) (by kernel_rfl) (by kernel_rfl) xg (Ext.drew (by exact Ext.refl _)) ?_
            simp only [List.take_succ_cons, List.take_zero]
            repeat' (first
              | ((with_reducible refine wpL_skip ?_ ?_ ?_)
                 · rfl
                 · rfl
                 simp only [Act.put, List.setIfInBounds_toArray, List.set_cons_zero, List.set_cons_succ])
              | ((with_reducible refine wpL_quiet ?_ ?_ ?_ ?_)
                 · rfl
                 · rfl
                 · rfl
                 apply Exists.intro
                 refine ⟨fun W hW hS => ?_, ?_⟩
                 · have hC := (Ext.facts hW).1
                   go_simp
                   first | done | (with_reducible rfl) | (rw [if_neg (by omega)]; exact ⟨rfl, rfl⟩) | rfl
                 first | (with_reducible refine wpL_boolT ?_) | (with_reducible refine wpL_boolF ?_) | (with_reducible refine wpL_bool (fun hB => ?_) (fun hB => ?_)) | skip
                 all_goals simp only [Act.put, List.setIfInBounds_toArray, List.set_cons_zero, List.set_cons_succ])
              | ((refine wpL_call ?_ rfl rfl ?_ ?_ ?_)
                 · rfl
                 · rfl
                 · intro W hW hS
                   have hC := (Ext.facts hW).1
                   unfold growAt
                   go_simp
                   simp only [growUpon]
                   first | (go_at_call 8; (with_reducible refine Calls.mono (impl_PolicyFor _ (k : Int) l _ (by exact Rl.out.ext xe)) ?_); rintro e w9 ⟨rfl, e9⟩; exact ⟨_, rfl, e9, by rw [HPL.out]⟩) | (go_at_call 19; (with_reducible refine Calls.mono (impl_Terminate _ p _ (k : Int) m.ing t m.seg _ (by exact Rt.out.ext xe) (by exact segV (Sm_3.out.ext xe)) (by omega)) ?_); rintro e w9 ⟨v9, rfl, o9, e9⟩; exact ⟨_, rfl, e9, v9, by rw [HV.out], by rw [← HSG.out]; exact SegmentO.more o9 (Ext.size hW) (Nat.le_refl _)⟩) | (exact ⟨xe, _, rfl, Ext.size (by assumption), Blk.new _ _ _⟩)
                 first | (with_reducible refine wpL_boolT ?_) | (with_reducible refine wpL_boolF ?_) | (with_reducible refine wpL_bool (fun hB => ?_) (fun hB => ?_)) | skip
                 all_goals simp only [Act.put, List.setIfInBounds_toArray, List.set_cons_zero, List.set_cons_succ])
              | ((refine wpL_grow ?_ rfl rfl ?_ ?_)
                 · rfl
                 · intro W hW hS
                   have hC := (Ext.facts hW).1
                   unfold growAt
                   go_simp
                   simp only [growUpon]
                   first | (go_at_call 8; (with_reducible refine Calls.mono (impl_PolicyFor _ (k : Int) l _ (by exact Rl.out.ext xe)) ?_); rintro e w9 ⟨rfl, e9⟩; exact ⟨_, rfl, e9, by rw [HPL.out]⟩) | (go_at_call 19; (with_reducible refine Calls.mono (impl_Terminate _ p _ (k : Int) m.ing t m.seg _ (by exact Rt.out.ext xe) (by exact segV (Sm_3.out.ext xe)) (by omega)) ?_); rintro e w9 ⟨v9, rfl, o9, e9⟩; exact ⟨_, rfl, e9, v9, by rw [HV.out], by rw [← HSG.out]; exact SegmentO.more o9 (Ext.size hW) (Nat.le_refl _)⟩) | (exact ⟨xe, _, rfl, Ext.size (by assumption), Blk.new _ _ _⟩)
                 intro v W' hW' hv
                 first | (subst hv) | (obtain ⟨v8, rfl, hv8⟩ := hv; obtain ⟨A8, n8, c8, rfl⟩ := SegmentO.shape hv8) | (obtain ⟨g5, rfl, -⟩ := hv) | (obtain ⟨A5, n5, c5, rfl, -⟩ := id hv; clear hv) | (obtain ⟨A5, n5, c5, rfl⟩ := NO.slice hv) | skip
                 all_goals simp only [Act.put, List.setIfInBounds_toArray, List.set_cons_zero, List.set_cons_succ]))
            refine wpL_nil (fun w6 ew6 hL => ?_)
            have o1 : SegmentO w5.heap.size w6.heap.size w6 (.agg #[I sg.ts, I sg.beta, .slice A8 n8 c8]) sg := PairO.seg (hL 39)
            have pz : Zero1 43 w5.heap.size [I 0, I 0, .slice none 0 0] _ w6 := hL 12
            obtain ⟨gz, hgz, hgl, hbz⟩ := pz
            have hge : gz = g5 := by injection hgz with h; injection h with h; injection h with h1; exact h1.symm
            subst hge
            clear hgz hL
            have zw6 := ew6.size
            have lz := hbz.lt
            obtain ⟨yz_0, yz_1, yz_2⟩ := blk3 hbz
            have fz_0 := hbz.frozen 0
            have fz_1 := hbz.frozen 1
            have fz_2 := hbz.frozen 2
            have Zo1 := Lib.hid (SegmentO.setT (SegmentO.setT (SegmentO.setT o1 hbz 0 (I sg.ts)) (Blk.set_ hbz 0 (I sg.ts)) 1 (I sg.beta)) (Blk.set_ (Blk.set_ hbz 0 (I sg.ts)) 1 (I sg.beta)) 2 (.slice A8 n8 c8))
            have bt := Bt.out.ext (w' := w6) xe
            have lt := bt.lt
            obtain ⟨pt_0, pt_1⟩ := blk2 bt
            clear bt
            have BW := Lib.hid (Blk.set_ (Blk.set_ (Blk.set_ hbz 0 (I sg.ts)) 1 (I sg.beta)) 2 (.slice A8 n8 c8))
            clear hbz o1
            apply Exists.intro
            refine ⟨⟨_, ?run, .inl rfl⟩, ?_⟩
            case run =>
              go_simp
              first | done | rfl
            go_wp2_with fail
            clear yz_0 fz_0 yz_1 fz_1 yz_2 fz_2
            first | refine name_wp ?_ ?_ ?_ | refine name_calls ?_ ?_ ?_
            exact (fun W => Ext w5 W ∧ w6.heap.size = W.heap.size ∧ Blk W gz 43 [I sg.ts, I sg.beta, .slice A8 n8 c8] ∧ SegmentO w5.heap.size W.heap.size W (.agg #[I sg.ts, I sg.beta, .slice A8 n8 c8]) sg)
            exact ⟨xe, (by simp only [World.size_setCell]), (by simpa using BW.out), (by (try simp only [World.size_setCell]); exact Zo1.out)⟩
            clear BW Zo1
            rintro w7 ⟨ew7, zw7, bz, o1⟩
            have BZ := Lib.hid bz; clear bz
            have Ho1 := Lib.hid o1; clear o1
            have z7 := ew7.size
            clear pt_0 pt_1 lt pm_0 pm_1 pm_2 pm_3 lm
            refine (impl_put (w.heap.size + 1 + 1 + 1) _ _ A0 A1 n0 c0 n1 c1 t db sg w0.heap.size wr.heap.size _ (by exact Rt.out.ext xe) (by exact SegmentO_rd Ho1.out (Nat.le_refl _)) (by exact SegmentO.more Ho1.out z5 (Nat.le_refl _)) (by exact HB7.out.ext xe) (by exact HQ.out.ext (w' := w7) xe (Nat.le_refl _)) (by omega) htt).mono ?_
            rintro e w8 ⟨rfl, ⟨a0, p0, q0, a1, p1, q1, hb8, hq8⟩, hf8⟩
            have e8 : Ext wb w8 := hf8 wb xe (by omega) (by omega)
            have B8 := Lib.hid hb8; have Q8 := Lib.hid hq8; clear hb8 hq8 hf8
            go_wp2_with fail
            go_roundw
            case rel => exact ⟨j + 1, a0, p0, q0, a1, p1, q1, by omega, by go_num, B8.out, by rw [HD.out]; exact Q8.out, e8⟩
            case measure => simp [intOf]; omega
        · obtain rfl : j = u.beacons.length := by omega
          rw [List.take_length, ← HX.out] at HQ
          go_wp2_with fail
          go_roundw
          case rel => exact ⟨k + 1, A0, n0, c0, A1, n1, c1, by omega, by go_num, HB7.out, HQ.out, xe⟩
          case measure => simp [intOf]; omega
    · obtain rfl : k = x.stores.length := by omega
      have k1 : ¬ (x.stores.length : Int) < (x.stores.length : Int) := by omega
      have hlo := dbQ_le HQ.out
      have HF : Hid (dbTo t l x.stores x.stores.length = buildDb t l x) := rfl
      have b7 := HB7.out.ext (w' := wr) xe
      have lb7 := b7.lt
      obtain ⟨qb7_0, qb7_1⟩ := blk2 b7
      have fb7_0 := b7.frozen 0
      have fb7_1 := b7.frozen 1
      clear b7
      have br := BR.out.ext (w' := wr) xe
      have lbr := br.lt
      obtain ⟨qbr_0, qbr_1⟩ := blk2 br
      have fbr_0 := br.frozen 0
      have fbr_1 := br.frozen 1
      clear br
      go_wp2_with fail
      refine bodyPost_ret (v := .agg #[.slice A0 n0 c0, .slice A1 n1 c1]) (by simp [results, Tryz.results6, go_sem, *]) rfl ⟨_, rfl, ?_, xe⟩
      have br9 := BR.out.ext (w' := wr) xe
      have q9 := SegmentDatabaseQ.more HQ.out (lo' := w.heap.size) (by omega) (Nat.le_refl _)
      rw [HF.out] at q9
      simp only [World.size_setCell]
      exact SegmentDatabaseQ.setT (SegmentDatabaseQ.setT q9 br9 0 (.slice A0 n0 c0)) (br9.set_ 0 (.slice A0 n0 c0)) 1 (.slice A1 n1 c1)
end Go.Proofs.YtkbiciiniagadaaGreat
