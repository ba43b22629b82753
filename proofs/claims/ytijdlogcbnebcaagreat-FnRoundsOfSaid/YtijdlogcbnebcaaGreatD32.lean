/- The walk of the law FnRoundsOf. No conditions. -/
import Derived.Test.YtijdlogcbnebcaaGreatDK
import Derived.Test.YtijdlogcbnebcaaGreatD31b
import Derived.Test.YtijdlogcbnebcaaGreatD31s
import Derived.Test.YtijdlogcbnebcaaGreatL14d
import Derived.Test.YtijdlogcbnebcaaGreatL15
import Derived.Test.YtijdlogcbnebcaaGreatL15h
import Derived.Test.YtijdlogcbnebcaaGreatP31
namespace Go.Proofs.YtijdlogcbnebcaaGreat
open Go.RowKit
set_option linter.unusedVariables false
/-- v is u. -/
inductive IsV (u : Value) : Value → Prop where
  | mk : IsV u u
theorem rounds_count {b : DBeaconing} : beaconCount b = (stCount b.stores : Int) := rfl
set_option maxRecDepth 100000 in
set_option maxHeartbeats 40000000 in
theorem rounds_walk (vb : Value) (bs : List Nat) (w : World) (hb : ByteS w.heap.size w vb bs) : Calls Tryz.prog 3 #[vb] w fun e w' => e = .returned (.bool true) ∧ Ext w w' := by
  have HB := Lib.hid hb; clear hb
  go_enter Tryz.func3, Tryz.ntmps3
  go_wp2_with fail
  refine (laws_big vb bs w HB.out).mono ?_
  rintro e u0 ⟨rfl, e0⟩
  by_cases hn : 1048576 < bs.length
  · rw [show decide (1048576 < bs.length) = true by simpa using hn]
    go_wp2_with fail
    go_ret
    exact ⟨rfl, xe⟩
  rw [show decide (1048576 < bs.length) = false by simpa using hn]
  go_wp2_with fail
  refine (spec_DrawRunBeaconRound vb bs u0 (Sl.ext ByteAt.keeps HB.out xe) (by omega)).mono ?_
  rintro e w1 ⟨⟨vt1, vl1, vb1, rfl, t1, l1, b1, ht1, hl1, hb1, hsm⟩, e1⟩
  obtain ⟨At1_0, nt1_0, ct1_0, At1_1, nt1_1, ct1_1, rfl, st1_0, st1_1⟩ := id ht1
  obtain ⟨lt1_0, kt1_0, mt1_0⟩ := st1_0.len
  subst lt1_0
  unfold maxLen at mt1_0
  obtain ⟨lt1_1, kt1_1, mt1_1⟩ := st1_1.len
  subst lt1_1
  unfold maxLen at mt1_1
  have Rt1 := Lib.hid ht1; clear ht1
  have St1_0 := Lib.hid st1_0; clear st1_0
  have St1_1 := Lib.hid st1_1; clear st1_1
  obtain ⟨Al1, nl1, cl1, rfl, ll1, kl1, ml1, -⟩ := id hl1
  subst ll1
  unfold maxLen at ml1
  have Rl1 := Lib.hid hl1; clear hl1
  obtain ⟨Ab1_1, nb1_1, cb1_1, rfl, sb1_1⟩ := id hb1
  obtain ⟨lb1_1, kb1_1, mb1_1⟩ := sb1_1.len
  subst lb1_1
  unfold maxLen at mb1_1
  have Rb1 := Lib.hid hb1; clear hb1
  have Sb1_1 := Lib.hid sb1_1; clear sb1_1
  have HSM := Lib.hid hsm; clear hsm
  have htb := small_tot HSM.out
  go_wp2_with fail
  refine name_calls (fun W => Ext w1 W ∧ W.heap.size = w1.heap.size + 1 + 1 ∧ Blk W (w1.heap.size) 27 [.slice At1_0 t1.ases.length ct1_0, .slice At1_1 t1.links.length ct1_1] ∧ Blk W (w1.heap.size + 1) 31 [I b1.ts, .slice Ab1_1 b1.stores.length cb1_1]) ⟨xe, by first | rfl | simp only [World.size_alloc], xb, xb⟩ ?_
  rintro u1 ⟨f1, z1, bt1, bb1⟩
  have Kt1 := Lib.hid bt1; have Kb1 := Lib.hid bb1; clear bt1 bb1
  have eu1 : Ext u0 u1 := Ext.trans e1 f1
  refine (impl_RunBeaconRound _ _ _ t1 l1 b1 u1 (by exact Rt1.out.ext f1) (by exact PolicyS.ext Rl1.out f1) (by exact Rb1.out.ext f1) (by omega)).mono ?_
  rintro e w2 ⟨vy2, rfl, oy2, e2⟩
  have HSY0 := runRound_small (t := t1) (l := l1) HSM.out
  have HLY0 := runRound_len t1 l1 b1
  have HVY : Hid (VSs t1 b1.stores → VSs t1 (runRound t1 l1 b1).stores ∧ stCount b1.stores ≤ stCount (runRound t1 l1 b1).stores) := fun h => runRound_vs h
  obtain ⟨y2, hy2e⟩ : ∃ y, runRound t1 l1 b1 = y := ⟨_, rfl⟩
  rw [hy2e] at oy2 HSY0 HLY0 HVY
  have HYE := Lib.hid hy2e; clear hy2e
  have HSY := Lib.hid HSY0; clear HSY0
  have HLY := Lib.hid HLY0; clear HLY0
  have hty := small_tot HSY.out
  have hy2 : BeaconingV w2.heap.size w2 vy2 y2 := BeaconingO_rd oy2 (Nat.le_refl _)
  clear oy2
  obtain ⟨Ay2_1, ny2_1, cy2_1, rfl, sy2_1⟩ := id hy2
  obtain ⟨ly2_1, ky2_1, my2_1⟩ := sy2_1.len
  subst ly2_1
  unfold maxLen at my2_1
  have Ry2 := Lib.hid hy2; clear hy2
  have Sy2_1 := Lib.hid sy2_1; clear sy2_1
  have eu2 : Ext u0 w2 := Ext.trans eu1 e2
  go_wp2_with fail
  refine name_calls (fun W => Ext w2 W ∧ W.heap.size = w2.heap.size + 1 ∧ Blk W (w2.heap.size) 31 [I y2.ts, .slice Ay2_1 y2.stores.length cy2_1]) ⟨xe, by first | rfl | simp only [World.size_alloc], xb⟩ ?_
  rintro u2 ⟨f2, z2, bb2⟩
  have Ky2 := Lib.hid bb2; clear bb2
  have eu2b : Ext u0 u2 := Ext.trans eu2 f2
  refine (spec_DrawBeaconCount vb bs u2 (Sl.ext ByteAt.keeps HB.out xe) (by omega)).mono ?_
  rintro e w3 ⟨⟨vc3, rfl, c3, hc3, hs3⟩, e3⟩
  obtain ⟨Ac3_1, nc3_1, cc3_1, rfl, sc3_1⟩ := id hc3
  obtain ⟨lc3_1, kc3_1, mc3_1⟩ := sc3_1.len
  subst lc3_1
  unfold maxLen at mc3_1
  have Rc3 := Lib.hid hc3; clear hc3
  have Sc3_1 := Lib.hid sc3_1; clear sc3_1
  have htc := small_tot hs3
  have hcc : (c3.stores.map fun s => s.beacons.length).sum ≤ 1000000000 := Nat.le_trans (small_count hs3) (by omega)
  have hcb : (b1.stores.map fun s => s.beacons.length).sum ≤ 1000000000 := Nat.le_trans (small_count HSM.out) (by omega)
  have hcy : (y2.stores.map fun s => s.beacons.length).sum ≤ 1000000000 := Nat.le_trans (small_count HSY.out) (by omega)
  clear hs3
  go_wp2_with fail
  refine name_wp (fun W => Ext w3 W ∧ W.heap.size = w3.heap.size + 1 ∧ Blk W (w3.heap.size) 31 [I c3.ts, .slice Ac3_1 c3.stores.length cc3_1]) ⟨xe, by first | rfl | simp only [World.size_alloc], xb⟩ ?_
  rintro u3 ⟨f3, z3, bc3⟩
  have Jc3 := Lib.hid bc3; clear bc3
  have g2 : Ext w2 u3 := Ext.trans f2 (Ext.trans e3 f3)
  have g1 : Ext w1 u3 := Ext.trans f1 (Ext.trans e2 g2)
  have eu3 : Ext u0 u3 := Ext.trans eu2 g2
  have Jt1 := Lib.hid (Kt1.out.ext (w' := u3) (Ext.trans e2 g2)); have Jb1 := Lib.hid (Kb1.out.ext (w' := u3) (Ext.trans e2 g2)); have Jy2 := Lib.hid (Ky2.out.ext (w' := u3) (Ext.trans e3 f3))
  have St1 := Lib.hid (Rt1.out.ext g1); have Sl1 := Lib.hid (PolicyS.ext Rl1.out g1); have Sb1 := Lib.hid (Rb1.out.ext g1); clear Rt1 Rl1 Rb1
  have Sy2 := Lib.hid (Ry2.out.ext g2); clear Ry2
  have Sc3 := Lib.hid (Rc3.out.ext f3); clear Rc3
  have Tb1 := Lib.hid (BeaconStoreS.ext Sb1_1.out g1); have Ty2 := Lib.hid (BeaconStoreS.ext Sy2_1.out g2); clear Sb1_1 Sy2_1
  clear z1 z2 z3
  have nb9 : ∀ n : Int, (n != n) = false := fun n => by simp
  have bt1_ := Jt1.out.ext (w' := u3) xe
  have lbt1_ := bt1_.lt
  obtain ⟨qbt1__0, qbt1__1⟩ := blk2 bt1_
  have fbt1__0 := bt1_.frozen 0
  have fbt1__1 := bt1_.frozen 1
  clear bt1_
  have bb1_ := Jb1.out.ext (w' := u3) xe
  have lbb1_ := bb1_.lt
  obtain ⟨qbb1__0, qbb1__1⟩ := blk2 bb1_
  have fbb1__0 := bb1_.frozen 0
  have fbb1__1 := bb1_.frozen 1
  clear bb1_
  have by2_ := Jy2.out.ext (w' := u3) xe
  have lby2_ := by2_.lt
  obtain ⟨qby2__0, qby2__1⟩ := blk2 by2_
  have fby2__0 := by2_.frozen 0
  have fby2__1 := by2_.frozen 1
  clear by2_
  have bc3_ := Jc3.out.ext (w' := u3) xe
  have lbc3_ := bc3_.lt
  obtain ⟨qbc3__0, qbc3__1⟩ := blk2 bc3_
  have fbc3__0 := bc3_.frozen 0
  have fbc3__1 := bc3_.frozen 1
  clear bc3_
  refine wp_region_L (E := Ext) (w0 := u3) (G := fun τ => match τ with | 28 => some (fun v W => BeaconingV W.heap.size W v y2) | 29 => some (fun v W => IsV (.bool true) v) | 33 => some (fun v W => IsV (I (beaconCount c3)) v) | 35 => some (fun v W => IsV (I (beaconCount c3)) v) | _ => none) Ext.refl (fun h k => Ext.trans h k) (by kernel_rfl) (by kernel_rfl) xg (Ext.drew (by exact Ext.refl _)) ?_
  repeat' (first
    | ((with_reducible refine wpL_skip ?_ ?_ ?_)
       · rfl
       · rfl
       simp only [Act.put, List.setIfInBounds_toArray, List.set_cons_zero, List.set_cons_succ])
    | ((with_reducible refine wpL_quiet ?_ ?_ ?_ ?_)
       · rfl
       · rfl
       · rfl
       apply Exists.intro
       refine ⟨fun W hW hS => ?_, ?_⟩
       · have hC := (Ext.facts hW).1
         go_simp
         first | done | (with_reducible rfl) | (rw [if_neg (by omega)]; exact ⟨rfl, rfl⟩) | rfl
       first | (with_reducible refine wpL_boolT ?_) | (with_reducible refine wpL_boolF ?_) | (with_reducible refine wpL_bool (fun hB => ?_) (fun hB => ?_)) | skip
       all_goals simp only [Act.put, List.setIfInBounds_toArray, List.set_cons_zero, List.set_cons_succ])
    | ((refine wpL_grow ?_ rfl rfl ?_ ?_)
       · rfl
       · intro W hW hS
         have hC := (Ext.facts hW).1
         unfold growAt
         go_simp
         simp only [growUpon]
         first | (go_at_call 9; (with_reducible refine Calls.mono (spec_RunBeaconRound _ _ _ t1 l1 b1 _ (by exact St1.out.ext xe) (by exact PolicyS.ext Sl1.out xe) (by exact Sb1.out.ext xe) (by omega)) ?_); rintro e w9_ ⟨v9, rfl, o9, e9⟩; exact ⟨_, rfl, e9, by (rw [← HYE.out]; exact BeaconingO_rd o9 (Nat.le_refl _))⟩) | (have hb : BeaconingV W.heap.size W _ y2 := hS 28 (by decide); go_at_call 8; (with_reducible refine Calls.mono (laws_sameBeacons _ _ y2 _ (by exact Sy2.out.ext xe) hb) ?_); rintro e w9_ ⟨rfl, e9⟩; exact ⟨_, rfl, e9, IsV.mk⟩) | (go_at_call 10; (with_reducible refine Calls.mono (impl_BeaconCount _ c3 _ (by exact Sc3.out.ext xe) hcc) ?_); rintro e w9_ ⟨rfl, e9⟩; exact ⟨_, rfl, e9, IsV.mk⟩) | (go_at_call 11; (with_reducible refine Calls.mono (spec_BeaconCount _ c3 _ (by exact Sc3.out.ext xe) hcc) ?_); rintro e w9_ ⟨rfl, e9⟩; exact ⟨_, rfl, e9, IsV.mk⟩)
       intro v W' hW' hv
       first | ((with_reducible refine intro_at 28 _ ?_); skip) | ((with_reducible refine intro_at 29 _ ?_); cases hv) | ((with_reducible refine intro_at 33 _ ?_); cases hv) | ((with_reducible refine intro_at 35 _ ?_); cases hv) | (obtain ⟨A5, n5, c5, rfl, -⟩ := id hv; clear hv) | (obtain ⟨A5, n5, c5, rfl⟩ := NO.slice hv) | skip
       all_goals simp only [Act.put, List.setIfInBounds_toArray, List.set_cons_zero, List.set_cons_succ]))
  refine wpL_nil (fun w10 e10 hL => ?_)
  clear hL
  clear lbt1_ qbt1__0 fbt1__0 qbt1__1 fbt1__1 lbb1_ qbb1__0 fbb1__0 qbb1__1 fbb1__1 lby2_ qby2__0 fby2__0 qby2__1 fby2__1 lbc3_ qbc3__0 fbc3__0 qbc3__1 fbc3__1
  clear Jc3 Sc3 HYE
  have Jt1 := Lib.hid (Jt1.out.ext (w' := w10) e10)
  have Jb1 := Lib.hid (Jb1.out.ext (w' := w10) e10)
  have Jy2 := Lib.hid (Jy2.out.ext (w' := w10) e10)
  have St1 := Lib.hid (St1.out.ext (w' := w10) e10)
  have Sb1 := Lib.hid (Sb1.out.ext (w' := w10) e10)
  have Sy2 := Lib.hid (Sy2.out.ext (w' := w10) e10)
  have Tb1 := Lib.hid (BeaconStoreS.ext Tb1.out e10); have Ty2 := Lib.hid (BeaconStoreS.ext Ty2.out e10)
  have eu10 : Ext u0 w10 := Ext.trans eu3 e10
  have bt1_ := Jt1.out.ext (w' := w10) xe
  have lbt1_ := bt1_.lt
  obtain ⟨qbt1__0, qbt1__1⟩ := blk2 bt1_
  have fbt1__0 := bt1_.frozen 0
  have fbt1__1 := bt1_.frozen 1
  clear bt1_
  go_wp2_with fail
  refine (impl_ValidTopology _ t1 w10 (by exact St1.out)).mono ?_
  rintro e w11 ⟨rfl, e11⟩
  clear lbt1_ qbt1__0 fbt1__0 qbt1__1 fbt1__1
  have Jt1 := Lib.hid (Jt1.out.ext (w' := w11) e11)
  have Jb1 := Lib.hid (Jb1.out.ext (w' := w11) e11)
  have Jy2 := Lib.hid (Jy2.out.ext (w' := w11) e11)
  have St1 := Lib.hid (St1.out.ext (w' := w11) e11)
  have Sb1 := Lib.hid (Sb1.out.ext (w' := w11) e11)
  have Sy2 := Lib.hid (Sy2.out.ext (w' := w11) e11)
  have Tb1 := Lib.hid (BeaconStoreS.ext Tb1.out e11); have Ty2 := Lib.hid (BeaconStoreS.ext Ty2.out e11)
  have eu11 : Ext u0 w11 := Ext.trans eu10 e11
  have bt1_ := Jt1.out.ext (w' := w11) xe
  have lbt1_ := bt1_.lt
  obtain ⟨qbt1__0, qbt1__1⟩ := blk2 bt1_
  have fbt1__0 := bt1_.frozen 0
  have fbt1__1 := bt1_.frozen 1
  clear bt1_
  have bb1_ := Jb1.out.ext (w' := w11) xe
  have lbb1_ := bb1_.lt
  obtain ⟨qbb1__0, qbb1__1⟩ := blk2 bb1_
  have fbb1__0 := bb1_.frozen 0
  have fbb1__1 := bb1_.frozen 1
  clear bb1_
  cases hv : validTop t1
  · go_wp2_with fail
    go_ret
    exact ⟨rfl, xe⟩
  clear hv
  by_cases hln : b1.stores.length = t1.ases.length
  rotate_left
  · have dq : ((b1.stores.length : Int) != (t1.ases.length : Int)) = true := bne_iff_ne.2 (by omega)
    go_wp2_with fail
    go_ret
    exact ⟨rfl, xe⟩
  have dq : ((b1.stores.length : Int) != (t1.ases.length : Int)) = false := by rw [hln]; simp
  have HLN := Lib.hid hln; clear hln
  go_wp2_with fail
  clear lbt1_ qbt1__0 fbt1__0 qbt1__1 fbt1__1 lbb1_ qbb1__0 fbb1__0 qbb1__1 fbb1__1
  clear dq
  go_loopw [8] (fun i wr => ∃ k : Nat, k ≤ t1.ases.length ∧ i = I k ∧ (∀ (r : Nat) (h : r < b1.stores.length), r < k → validStore t1 r b1.stores[r].beacons = true) ∧ Ext w11 wr) (fun i _ => t1.ases.length - (intOf i).toNat)
  case atStart => exact ⟨0, by omega, rfl, fun r _ h => by omega, Ext.refl _⟩
  case round =>
    obtain ⟨k, hk, rfl, hq, he⟩ := hrel
    have HQ := Lib.hid hq; clear hq
    have zr := he.size
    have eur : Ext u0 wr := Ext.trans eu11 he
    have Jt1r := Lib.hid (Jt1.out.ext (w' := wr) he); have Jb1r := Lib.hid (Jb1.out.ext (w' := wr) he)
    have bt1_ := Jt1r.out.ext (w' := wr) xe
    have lbt1_ := bt1_.lt
    obtain ⟨qbt1__0, qbt1__1⟩ := blk2 bt1_
    have fbt1__0 := bt1_.frozen 0
    have fbt1__1 := bt1_.frozen 1
    clear bt1_
    have bb1_ := Jb1r.out.ext (w' := wr) xe
    have lbb1_ := bb1_.lt
    obtain ⟨qbb1__0, qbb1__1⟩ := blk2 bb1_
    have fbb1__0 := bb1_.frozen 0
    have fbb1__1 := bb1_.frozen 1
    clear bb1_
    by_cases hlt : k < t1.ases.length
    · have St1r := Lib.hid (St1.out.ext (w' := wr) he)
      have hlt2 : k < b1.stores.length := by have := HLN.out; omega
      obtain ⟨b, off, hA, hb, hkl, hc⟩ := (BeaconStoreS.ext Tb1.out he).at_ hlt2
      have hul : bcnTot b1.stores[k].beacons ≤ stTot b1.stores := totS_get (fun y : DBeaconStore => bcnTot y.beacons) b1.stores k hkl
      have HK : Hid (validStore t1 k b1.stores[k].beacons = true → ∀ (r : Nat) (h : r < b1.stores.length), r < k + 1 → validStore t1 r b1.stores[r].beacons = true) := fun h r hr h2 => by
        rcases Nat.lt_or_ge r k with h3 | h3
        · exact HQ.out r hr h3
        · obtain rfl : r = k := by omega
          exact h
      have i0 : (0 : Int) ≤ (k : Int) := by omega
      have i1 : (k : Int) < (t1.ases.length : Int) := by omega
      have i2 : (k : Int) < (b1.stores.length : Int) := by omega
      generalize b1.stores[k] = u at *
      subst hA
      obtain ⟨Au_0, nu_0, cu_0, hu_0, su_0⟩ := hc
      obtain ⟨lu_0, ku_0, mu_0⟩ := su_0.len
      subst lu_0
      unfold maxLen at mu_0
      have Ru : Hid (BeaconStoreV wr.heap.size wr (.agg #[.slice Au_0 u.beacons.length cu_0]) u) := ⟨_, _, _, rfl, su_0⟩
      have Su_0 := Lib.hid su_0; clear su_0
      generalize hvs : validStore t1 k u.beacons = vs at *
      have HVS := Lib.hid hvs; clear hvs
      cases vs
      · go_wp2_with fail
        refine wp_region_L (E := Ext) (w0 := wr) (G := fun τ => match τ with | 65 => some (fun v W => IsV (.bool false) v) | _ => none) Ext.refl (fun h k => Ext.trans h k) (by kernel_rfl) (by kernel_rfl) xg (Ext.drew (by exact Ext.refl _)) ?_
        repeat' (first
          | ((with_reducible refine wpL_skip ?_ ?_ ?_)
             · rfl
             · rfl
             simp only [Act.put, List.setIfInBounds_toArray, List.set_cons_zero, List.set_cons_succ])
          | ((with_reducible refine wpL_quiet ?_ ?_ ?_ ?_)
             · rfl
             · rfl
             · rfl
             apply Exists.intro
             refine ⟨fun W hW hS => ?_, ?_⟩
             · have hC := (Ext.facts hW).1
               go_simp
               first | done | (with_reducible rfl) | (rw [if_neg (by omega)]; exact ⟨rfl, rfl⟩) | rfl
             first | (with_reducible refine wpL_boolT ?_) | (with_reducible refine wpL_boolF ?_) | (with_reducible refine wpL_bool (fun hB => ?_) (fun hB => ?_)) | skip
             all_goals simp only [Act.put, List.setIfInBounds_toArray, List.set_cons_zero, List.set_cons_succ])
          | ((refine wpL_grow ?_ rfl rfl ?_ ?_)
             · rfl
             · intro W hW hS
               have hC := (Ext.facts hW).1
               unfold growAt
               go_simp
               simp only [growUpon]
               first | (go_at_call 13; (with_reducible refine Calls.mono (impl_ValidStore _ (k : Int) _ t1 u.beacons _ (by exact St1r.out.ext xe) (by exact BeaconS.ext Su_0.out xe) (by omega)) ?_); rintro e w9_ ⟨rfl, e9⟩; exact ⟨_, rfl, e9, by rw [HVS.out]; exact IsV.mk⟩)
             intro v W' hW' hv
             first | ((with_reducible refine intro_at 65 _ ?_); cases hv) | (obtain ⟨A5, n5, c5, rfl, -⟩ := id hv; clear hv) | (obtain ⟨A5, n5, c5, rfl⟩ := NO.slice hv) | skip
             all_goals simp only [Act.put, List.setIfInBounds_toArray, List.set_cons_zero, List.set_cons_succ]))
        refine wpL_nil (fun w12 e12 hL => ?_)
        clear hL
        go_wp2_with fail
        go_ret
        exact ⟨rfl, xe⟩
      · go_wp2_with fail
        refine wp_region_L (E := Ext) (w0 := wr) (G := fun τ => match τ with | 65 => some (fun v W => IsV (.bool true) v) | _ => none) Ext.refl (fun h k => Ext.trans h k) (by kernel_rfl) (by kernel_rfl) xg (Ext.drew (by exact Ext.refl _)) ?_
        repeat' (first
          | ((with_reducible refine wpL_skip ?_ ?_ ?_)
             · rfl
             · rfl
             simp only [Act.put, List.setIfInBounds_toArray, List.set_cons_zero, List.set_cons_succ])
          | ((with_reducible refine wpL_quiet ?_ ?_ ?_ ?_)
             · rfl
             · rfl
             · rfl
             apply Exists.intro
             refine ⟨fun W hW hS => ?_, ?_⟩
             · have hC := (Ext.facts hW).1
               go_simp
               first | done | (with_reducible rfl) | (rw [if_neg (by omega)]; exact ⟨rfl, rfl⟩) | rfl
             first | (with_reducible refine wpL_boolT ?_) | (with_reducible refine wpL_boolF ?_) | (with_reducible refine wpL_bool (fun hB => ?_) (fun hB => ?_)) | skip
             all_goals simp only [Act.put, List.setIfInBounds_toArray, List.set_cons_zero, List.set_cons_succ])
          | ((refine wpL_grow ?_ rfl rfl ?_ ?_)
             · rfl
             · intro W hW hS
               have hC := (Ext.facts hW).1
               unfold growAt
               go_simp
               simp only [growUpon]
               first | (go_at_call 13; (with_reducible refine Calls.mono (impl_ValidStore _ (k : Int) _ t1 u.beacons _ (by exact St1r.out.ext xe) (by exact BeaconS.ext Su_0.out xe) (by omega)) ?_); rintro e w9_ ⟨rfl, e9⟩; exact ⟨_, rfl, e9, by rw [HVS.out]; exact IsV.mk⟩)
             intro v W' hW' hv
             first | ((with_reducible refine intro_at 65 _ ?_); cases hv) | (obtain ⟨A5, n5, c5, rfl, -⟩ := id hv; clear hv) | (obtain ⟨A5, n5, c5, rfl⟩ := NO.slice hv) | skip
             all_goals simp only [Act.put, List.setIfInBounds_toArray, List.set_cons_zero, List.set_cons_succ]))
        refine wpL_nil (fun w12 e12 hL => ?_)
        clear hL
        go_wp2_with fail
        go_roundw
        case rel => exact ⟨k + 1, by omega, by go_num, HK.out (by first | trivial | simp), Ext.trans he e12⟩
        case measure => first | (simp [intOf]; done) | (simp [intOf]; omega)
    · obtain rfl : k = t1.ases.length := by omega
      have i1 : ¬ (t1.ases.length : Int) < (t1.ases.length : Int) := by omega
      have HVB : Hid (VSs t1 b1.stores) := fun r hr => validStore_iff.1 (HQ.out r hr (by have := HLN.out; omega))
      have HV2 := Lib.hid (HVY HVB.out)
      go_wp2_with fail
      clear lbt1_ qbt1__0 fbt1__0 qbt1__1 fbt1__1 lbb1_ qbb1__0 fbb1__0 qbb1__1 fbb1__1
      have HLNY : Hid (y2.stores.length = t1.ases.length) := by (have h1 := HLN.out; have h2 := HLY.out; exact h2.trans h1)
      obtain ⟨w20, hw20⟩ : ∃ w20, w20 = wr := ⟨_, rfl⟩
      subst hw20
      go_loopw [9] (fun i wq => ∃ k : Nat, k ≤ t1.ases.length ∧ i = I k ∧ Ext w20 wq) (fun i _ => t1.ases.length - (intOf i).toNat)
      case atStart => exact ⟨0, by omega, rfl, Ext.refl _⟩
      case round =>
        clear i1 HQ
        obtain ⟨k, hk, rfl, hq⟩ := hrel
        have zq := hq.size
        have euq : Ext u0 wr := Ext.trans eur hq
        have heq : Ext w11 wr := Ext.trans he hq
        have Jt1q := Lib.hid (Jt1.out.ext (w' := wr) heq); have Jy2q := Lib.hid (Jy2.out.ext (w' := wr) heq); have Jb1q := Lib.hid (Jb1.out.ext (w' := wr) heq)
        have bt1_ := Jt1q.out.ext (w' := wr) xe
        have lbt1_ := bt1_.lt
        obtain ⟨qbt1__0, qbt1__1⟩ := blk2 bt1_
        have fbt1__0 := bt1_.frozen 0
        have fbt1__1 := bt1_.frozen 1
        clear bt1_
        have by2_ := Jy2q.out.ext (w' := wr) xe
        have lby2_ := by2_.lt
        obtain ⟨qby2__0, qby2__1⟩ := blk2 by2_
        have fby2__0 := by2_.frozen 0
        have fby2__1 := by2_.frozen 1
        clear by2_
        by_cases hlt : k < t1.ases.length
        · have St1q := Lib.hid (St1.out.ext (w' := wr) heq)
          have hlt2 : k < y2.stores.length := by have := HLNY.out; omega
          obtain ⟨b, off, hA, hb, hkl, hc⟩ := (BeaconStoreS.ext Ty2.out heq).at_ hlt2
          have hul : bcnTot y2.stores[k].beacons ≤ stTot y2.stores := totS_get (fun y : DBeaconStore => bcnTot y.beacons) y2.stores k hkl
          have HVS := Lib.hid (validStore_iff.2 (HV2.out.1 k hkl))
          have i0 : (0 : Int) ≤ (k : Int) := by omega
          have i1 : (k : Int) < (t1.ases.length : Int) := by omega
          have i2 : (k : Int) < (y2.stores.length : Int) := by omega
          generalize y2.stores[k] = u at *
          subst hA
          obtain ⟨Au_0, nu_0, cu_0, hu_0, su_0⟩ := hc
          obtain ⟨lu_0, ku_0, mu_0⟩ := su_0.len
          subst lu_0
          unfold maxLen at mu_0
          have Ru : Hid (BeaconStoreV wr.heap.size wr (.agg #[.slice Au_0 u.beacons.length cu_0]) u) := ⟨_, _, _, rfl, su_0⟩
          have Su_0 := Lib.hid su_0; clear su_0
          go_wp2_with fail
          refine wp_region_L (E := Ext) (w0 := wr) (G := fun τ => match τ with | 82 => some (fun v W => IsV (.bool true) v) | _ => none) Ext.refl (fun h k => Ext.trans h k) (by kernel_rfl) (by kernel_rfl) xg (Ext.drew (by exact Ext.refl _)) ?_
          repeat' (first
            | ((with_reducible refine wpL_skip ?_ ?_ ?_)
               · rfl
               · rfl
               simp only [Act.put, List.setIfInBounds_toArray, List.set_cons_zero, List.set_cons_succ])
            | ((with_reducible refine wpL_quiet ?_ ?_ ?_ ?_)
               · rfl
               · rfl
               · rfl
               apply Exists.intro
               refine ⟨fun W hW hS => ?_, ?_⟩
               · have hC := (Ext.facts hW).1
                 go_simp
                 first | done | (with_reducible rfl) | (rw [if_neg (by omega)]; exact ⟨rfl, rfl⟩) | rfl
               first | (with_reducible refine wpL_boolT ?_) | (with_reducible refine wpL_boolF ?_) | (with_reducible refine wpL_bool (fun hB => ?_) (fun hB => ?_)) | skip
               all_goals simp only [Act.put, List.setIfInBounds_toArray, List.set_cons_zero, List.set_cons_succ])
            | ((refine wpL_grow ?_ rfl rfl ?_ ?_)
               · rfl
               · intro W hW hS
                 have hC := (Ext.facts hW).1
                 unfold growAt
                 go_simp
                 simp only [growUpon]
                 first | (go_at_call 13; (with_reducible refine Calls.mono (impl_ValidStore _ (k : Int) _ t1 u.beacons _ (by exact St1q.out.ext xe) (by exact BeaconS.ext Su_0.out xe) (by omega)) ?_); rintro e w9_ ⟨rfl, e9⟩; exact ⟨_, rfl, e9, by rw [HVS.out]; exact IsV.mk⟩)
               intro v W' hW' hv
               first | ((with_reducible refine intro_at 82 _ ?_); cases hv) | (obtain ⟨A5, n5, c5, rfl, -⟩ := id hv; clear hv) | (obtain ⟨A5, n5, c5, rfl⟩ := NO.slice hv) | skip
               all_goals simp only [Act.put, List.setIfInBounds_toArray, List.set_cons_zero, List.set_cons_succ]))
          refine wpL_nil (fun w12 e12 hL => ?_)
          clear hL
          go_wp2_with fail
          go_roundw
          case rel => exact ⟨k + 1, by omega, by go_num, Ext.trans hq e12⟩
          case measure => first | (simp [intOf]; done) | (simp [intOf]; omega)
        · obtain rfl : k = t1.ases.length := by omega
          have i1 : ¬ (t1.ases.length : Int) < (t1.ases.length : Int) := by omega
          have Sb1q := Lib.hid (Sb1.out.ext (w' := wr) heq); have Sy2q := Lib.hid (Sy2.out.ext (w' := wr) heq)
          have bb1_ := Jb1q.out.ext (w' := wr) xe
          have lbb1_ := bb1_.lt
          obtain ⟨qbb1__0, qbb1__1⟩ := blk2 bb1_
          have fbb1__0 := bb1_.frozen 0
          have fbb1__1 := bb1_.frozen 1
          clear bb1_
          have dq : ((y2.stores.length : Int) == (b1.stores.length : Int)) = true := by rw [HLY.out]; simp
          have hge : beaconCount b1 ≤ beaconCount y2 := by rw [rounds_count, rounds_count]; have := HV2.out.2; omega
          go_wp2_with fail
          refine wp_region_L (E := Ext) (w0 := wr) (G := fun τ => match τ with | 93 => some (fun v W => IsV (I (beaconCount y2)) v) | 95 => some (fun v W => IsV (I (beaconCount b1)) v) | _ => none) Ext.refl (fun h k => Ext.trans h k) (by kernel_rfl) (by kernel_rfl) xg (Ext.drew (by exact Ext.refl _)) ?_
          repeat' (first
            | ((with_reducible refine wpL_skip ?_ ?_ ?_)
               · rfl
               · rfl
               simp only [Act.put, List.setIfInBounds_toArray, List.set_cons_zero, List.set_cons_succ])
            | ((with_reducible refine wpL_quiet ?_ ?_ ?_ ?_)
               · rfl
               · rfl
               · rfl
               apply Exists.intro
               refine ⟨fun W hW hS => ?_, ?_⟩
               · have hC := (Ext.facts hW).1
                 go_simp
                 first | done | (with_reducible rfl) | (rw [if_neg (by omega)]; exact ⟨rfl, rfl⟩) | rfl
               first | (with_reducible refine wpL_boolT ?_) | (with_reducible refine wpL_boolF ?_) | (with_reducible refine wpL_bool (fun hB => ?_) (fun hB => ?_)) | skip
               all_goals simp only [Act.put, List.setIfInBounds_toArray, List.set_cons_zero, List.set_cons_succ])
            | ((refine wpL_grow ?_ rfl rfl ?_ ?_)
               · rfl
               · intro W hW hS
                 have hC := (Ext.facts hW).1
                 unfold growAt
                 go_simp
                 simp only [growUpon]
                 first | (go_at_call 10; (with_reducible refine Calls.mono (impl_BeaconCount _ y2 _ (by exact Sy2q.out.ext xe) hcy) ?_); rintro e w9_ ⟨rfl, e9⟩; exact ⟨_, rfl, e9, IsV.mk⟩) | (go_at_call 10; (with_reducible refine Calls.mono (impl_BeaconCount _ b1 _ (by exact Sb1q.out.ext xe) hcb) ?_); rintro e w9_ ⟨rfl, e9⟩; exact ⟨_, rfl, e9, IsV.mk⟩)
               intro v W' hW' hv
               first | ((with_reducible refine intro_at 93 _ ?_); cases hv) | ((with_reducible refine intro_at 95 _ ?_); cases hv) | (obtain ⟨A5, n5, c5, rfl, -⟩ := id hv; clear hv) | (obtain ⟨A5, n5, c5, rfl⟩ := NO.slice hv) | skip
               all_goals simp only [Act.put, List.setIfInBounds_toArray, List.set_cons_zero, List.set_cons_succ]))
          refine wpL_nil (fun w12 e12 hL => ?_)
          clear hL
          go_wp2_with fail
          go_ret
          exact ⟨rfl, xe⟩
end Go.Proofs.YtijdlogcbnebcaaGreat
