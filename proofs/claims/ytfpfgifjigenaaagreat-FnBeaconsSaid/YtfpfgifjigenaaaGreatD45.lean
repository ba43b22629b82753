/- The walk of the law FnBeacons. No conditions. -/
import Derived.Test.YtfpfgifjigenaaaGreatDK
import Derived.Test.YtfpfgifjigenaaaGreatD41
import Derived.Test.YtfpfgifjigenaaaGreatD40
import Derived.Test.YtfpfgifjigenaaaGreatP39
import Derived.Test.YtfpfgifjigenaaaGreatGD31s
import Derived.Test.YtfpfgifjigenaaaGreatGL14
import Derived.Test.YtfpfgifjigenaaaGreatL15b
import Derived.Test.YtfpfgifjigenaaaGreatL15c
import Derived.Test.YtfpfgifjigenaaaGreatL15e
import Derived.Test.YtfpfgifjigenaaaGreatL15g
namespace Go.Proofs.YtfpfgifjigenaaaGreat
open Go.RowKit
set_option linter.unusedVariables false
inductive IsV (u : Value) : Value → Prop where
 | mk : IsV u u
set_option maxRecDepth 100000 in
set_option maxHeartbeats 40000000 in
theorem beacons_walk (vb : Value) (bs : List Nat) (w : World) (hb : ByteS w.heap.size w vb bs) : Calls Tryz.prog 3 #[vb] w fun e w' => e = .returned (.bool true) ∧ Ext w w' := by
 have HB := Lib.hid hb; clear hb
 go_enter Tryz.func3, Tryz.ntmps3
 go_wp2_with fail
 refine (laws_big vb bs w HB.out).mono ?_;rintro e u0 ⟨rfl, e0⟩;by_cases hn : 1048576 < bs.length
 · rw [show decide (1048576 < bs.length) = true by simpa using hn]
   go_wp2_with fail
   go_ret
   exact ⟨rfl, xe⟩
 rw [show decide (1048576 < bs.length) = false by simpa using hn];go_wp2_with fail
 refine (spec_DrawPropagated vb bs u0 (Sl.ext ByteAt.keeps HB.out xe) (by omega)).mono ?_;rintro e w1 ⟨⟨vt1, vl1, r1, vg1, rfl, t1, l1, g1, ht1, hl1, hg1, hbt1⟩, e1⟩;obtain ⟨At1_0, nt1_0, ct1_0, At1_1, nt1_1, ct1_1, rfl, st1_0, st1_1⟩ := id ht1;obtain ⟨lt1_0, kt1_0, mt1_0⟩ := st1_0.len;subst lt1_0;unfold maxLen at mt1_0;obtain ⟨lt1_1, kt1_1, mt1_1⟩ := st1_1.len;subst lt1_1;unfold maxLen at mt1_1;have Rt1 := Lib.hid ht1; clear ht1;have St1_0 := Lib.hid st1_0; clear st1_0;have St1_1 := Lib.hid st1_1; clear st1_1;obtain ⟨Al1, nl1, cl1, rfl, ll1, kl1, ml1, -⟩ := id hl1;subst ll1;unfold maxLen at ml1;have Rl1 := Lib.hid hl1; clear hl1;obtain ⟨Ag1, ng1, cg1, rfl, lg1, kg1, mg1, -⟩ := id hg1;subst lg1;unfold maxLen at mg1;have Rg1 := Lib.hid hg1; clear hg1;go_wp2_with fail
 refine name_calls (fun W => Ext w1 W ∧ W.heap.size = w1.heap.size + 1 ∧ Blk W (w1.heap.size) 27 [.slice At1_0 t1.ases.length ct1_0, .slice At1_1 t1.links.length ct1_1]) ⟨xe, by first | rfl | simp only [World.size_alloc], xb⟩ ?_;rintro u1 ⟨f1, z1, bt1⟩;have Kt1 := Lib.hid bt1; clear bt1;have eu1 : Ext u0 u1 := Ext.trans e1 f1;refine (impl_Propagated _ _ r1 _ t1 l1 g1 u1 (by exact Rt1.out.ext f1) (by exact PolicyS.ext Rl1.out f1) (by exact BeaconS.ext Rg1.out f1) (by omega)).mono ?_;rintro e w2 ⟨vx2, rfl, ox2, e2⟩
 have hlaw1 : ∀ m ∈ propMsgs t1 l1 r1 g1, canExt t1 m.beacon.seg m.to m.beacon.ing = true ∧ lastAS m.beacon.seg = r1 ∧ m.beacon.seg.hops.length ≤ 8 := fun m hm => ⟨(prop_law t1 l1 r1 g1 m hm).1, (prop_law t1 l1 r1 g1 m hm).2, (canExt_parts (prop_law t1 l1 r1 g1 m hm).1).2.1.len⟩
 obtain ⟨x2, hxe⟩ : ∃ y, propMsgs t1 l1 r1 g1 = y := ⟨_, rfl⟩
 rw [hxe] at ox2 hlaw1;have HXE := Lib.hid hxe; have HLX := Lib.hid hlaw1; clear hxe hlaw1;have hx2 : BeaconMessageS w2.heap.size w2 vx2 x2 := BeaconMessageSO_rd ox2 (Nat.le_refl _);clear ox2;obtain ⟨Ax2, nx2, cx2, rfl, lx2, kx2, mx2, -⟩ := id hx2;subst lx2;unfold maxLen at mx2;have Rx2 := Lib.hid hx2; clear hx2;have eu2 : Ext u0 w2 := Ext.trans eu1 e2;go_wp2_with fail
 refine (spec_DrawOriginated vb bs w2 (Sl.ext ByteAt.keeps HB.out xe) (by omega)).mono ?_;rintro e w3 ⟨⟨vt3, vl3, r3, ts3, rfl, t3, l3, ht3, hl3⟩, e3⟩;obtain ⟨At3_0, nt3_0, ct3_0, At3_1, nt3_1, ct3_1, rfl, st3_0, st3_1⟩ := id ht3;obtain ⟨lt3_0, kt3_0, mt3_0⟩ := st3_0.len;subst lt3_0;unfold maxLen at mt3_0;obtain ⟨lt3_1, kt3_1, mt3_1⟩ := st3_1.len;subst lt3_1;unfold maxLen at mt3_1;have Rt3 := Lib.hid ht3; clear ht3;have St3_0 := Lib.hid st3_0; clear st3_0;have St3_1 := Lib.hid st3_1; clear st3_1;obtain ⟨Al3, nl3, cl3, rfl, ll3, kl3, ml3, -⟩ := id hl3;subst ll3;unfold maxLen at ml3;have Rl3 := Lib.hid hl3; clear hl3;go_wp2_with fail
 refine name_calls (fun W => Ext w3 W ∧ W.heap.size = w3.heap.size + 1 ∧ Blk W (w3.heap.size) 27 [.slice At3_0 t3.ases.length ct3_0, .slice At3_1 t3.links.length ct3_1]) ⟨xe, by first | rfl | simp only [World.size_alloc], xb⟩ ?_;rintro u3 ⟨f3, z3, bt3⟩;have Kt3 := Lib.hid bt3; clear bt3;have eu3 : Ext u0 u3 := Ext.trans eu2 (Ext.trans e3 f3);refine (impl_Originated _ _ r3 ts3 t3 l3 u3 (by exact Rt3.out.ext f3) (by exact PolicyS.ext Rl3.out f3)).mono ?_;rintro e w4 ⟨vy4, rfl, oy4, e4⟩;have hlaw3 : ∀ m ∈ origMsgs t3 l3 r3 ts3, canExt t3 m.beacon.seg m.to m.beacon.ing = true ∧ firstAS m.beacon.seg = r3 ∧ m.beacon.seg.hops.length = 1 := orig_law t3 l3 r3 ts3
 obtain ⟨y4, hye⟩ : ∃ y, origMsgs t3 l3 r3 ts3 = y := ⟨_, rfl⟩
 rw [hye] at oy4 hlaw3;have HYE := Lib.hid hye; have HLY := Lib.hid hlaw3; clear hye hlaw3;have hy4 : BeaconMessageS w4.heap.size w4 vy4 y4 := BeaconMessageSO_rd oy4 (Nat.le_refl _);clear oy4;obtain ⟨Ay4, ny4, cy4, rfl, ly4, ky4, my4, -⟩ := id hy4;subst ly4;unfold maxLen at my4;have Ry4 := Lib.hid hy4; clear hy4;have eu4 : Ext u0 w4 := Ext.trans eu3 e4;go_wp2_with fail
 refine (spec_DrawDeliverBeacons vb bs w4 (Sl.ext ByteAt.keeps HB.out xe) (by omega)).mono ?_;rintro e w5 ⟨⟨vt5, vb5, vs5, rfl, t5, b5, s5, ht5, hb5, hsm5, hs5, hfm5⟩, e5⟩;obtain ⟨At5_0, nt5_0, ct5_0, At5_1, nt5_1, ct5_1, rfl, st5_0, st5_1⟩ := id ht5;obtain ⟨lt5_0, kt5_0, mt5_0⟩ := st5_0.len;subst lt5_0;unfold maxLen at mt5_0;obtain ⟨lt5_1, kt5_1, mt5_1⟩ := st5_1.len;subst lt5_1;unfold maxLen at mt5_1;have Rt5 := Lib.hid ht5; clear ht5;have St5_0 := Lib.hid st5_0; clear st5_0;have St5_1 := Lib.hid st5_1; clear st5_1;obtain ⟨Ab5_1, nb5_1, cb5_1, rfl, sb5_1⟩ := id hb5;obtain ⟨lb5_1, kb5_1, mb5_1⟩ := sb5_1.len;subst lb5_1;unfold maxLen at mb5_1;have Rb5 := Lib.hid hb5; clear hb5;have Sb5_1 := Lib.hid sb5_1; clear sb5_1;obtain ⟨As5, ns5, cs5, rfl, ls5, ks5, ms5, -⟩ := id hs5;subst ls5;unfold maxLen at ms5;have Rs5 := Lib.hid hs5; clear hs5;have htb5 := small_tot hsm5;clear hsm5
 have HFM : Hid (∀ m ∈ s5, m.beacon.seg.hops.length ≤ 1048576) := fun m hm => by (have h9 := hfm5.2 m hm; omega)
 clear hfm5;go_wp2_with fail
 refine name_calls (fun W => Ext w5 W ∧ W.heap.size = w5.heap.size + 1 + 1 ∧ Blk W (w5.heap.size) 27 [.slice At5_0 t5.ases.length ct5_0, .slice At5_1 t5.links.length ct5_1] ∧ Blk W (w5.heap.size + 1) 39 [I b5.ts, .slice Ab5_1 b5.stores.length cb5_1]) ⟨xe, by first | rfl | simp only [World.size_alloc], xb, xb⟩ ?_;rintro u5 ⟨f5, z5, bt5, bb5⟩;have Kt5 := Lib.hid bt5; have Kb5 := Lib.hid bb5; clear bt5 bb5;have eu5 : Ext u0 u5 := Ext.trans eu4 (Ext.trans e5 f5);refine (spec_DrawNewBeaconing vb bs u5 (Sl.ext ByteAt.keeps HB.out xe) (by omega)).mono ?_;rintro e w6 ⟨⟨vt6, ts6, rfl, t6, ht6⟩, e6⟩;obtain ⟨At6_0, nt6_0, ct6_0, At6_1, nt6_1, ct6_1, rfl, st6_0, st6_1⟩ := id ht6;obtain ⟨lt6_0, kt6_0, mt6_0⟩ := st6_0.len;subst lt6_0;unfold maxLen at mt6_0;obtain ⟨lt6_1, kt6_1, mt6_1⟩ := st6_1.len;subst lt6_1;unfold maxLen at mt6_1;have Rt6 := Lib.hid ht6; clear ht6;have St6_0 := Lib.hid st6_0; clear st6_0;have St6_1 := Lib.hid st6_1; clear st6_1;go_wp2_with fail
 refine name_wp (fun W => Ext w6 W ∧ W.heap.size = w6.heap.size + 1 ∧ Blk W (w6.heap.size) 27 [.slice At6_0 t6.ases.length ct6_0, .slice At6_1 t6.links.length ct6_1]) ⟨xe, by first | rfl | simp only [World.size_alloc], xb⟩ ?_;rintro u6 ⟨f6, z6, bt6⟩;have Jt6 := Lib.hid bt6; clear bt6;have k5 : Ext u5 u6 := Ext.trans e6 f6;have k5w : Ext w5 u6 := Ext.trans f5 k5;have k4 : Ext w4 u6 := Ext.trans e5 k5w;have k3 : Ext u3 u6 := Ext.trans e4 k4;have k3w : Ext w3 u6 := Ext.trans f3 k3;have k2 : Ext w2 u6 := Ext.trans e3 k3w;have k1 : Ext u1 u6 := Ext.trans e2 k2;have k1w : Ext w1 u6 := Ext.trans f1 k1;have eu6 : Ext u0 u6 := Ext.trans eu5 k5;have Jt1 := Lib.hid (Kt1.out.ext (w' := u6) k1); have Jt3 := Lib.hid (Kt3.out.ext (w' := u6) k3); have Jt5 := Lib.hid (Kt5.out.ext (w' := u6) k5); have Jb5 := Lib.hid (Kb5.out.ext (w' := u6) k5);clear Kt1 Kt3 Kt5 Kb5;have St1 := Lib.hid (Rt1.out.ext k1w); have Tl1 := Lib.hid (PolicyS.ext Rl1.out k1w); have Tg1 := Lib.hid (BeaconS.ext Rg1.out k1w); clear Rt1 Rl1 Rg1 St1_0 St1_1;have Tx2 := Lib.hid (BeaconMessageS.ext Rx2.out k2); clear Rx2;have St3 := Lib.hid (Rt3.out.ext k3w); have Tl3 := Lib.hid (PolicyS.ext Rl3.out k3w); clear Rt3 Rl3 St3_0 St3_1;have Ty4 := Lib.hid (BeaconMessageS.ext Ry4.out k4); clear Ry4;have St5 := Lib.hid (Rt5.out.ext k5w); have Sb5 := Lib.hid (Rb5.out.ext k5w); have Ts5 := Lib.hid (BeaconMessageS.ext Rs5.out k5w); clear Rt5 Rb5 Rs5 St5_0 St5_1 Sb5_1;have St6 := Lib.hid (Rt6.out.ext f6); clear Rt6 St6_0 St6_1;clear z1 z3 z5 z6
 have nb9 : ∀ n : Int, (n != n) = false := fun n => by simp
 have bt1_ := Jt1.out.ext (w' := u6) xe;have lbt1_ := bt1_.lt;obtain ⟨qbt1__0, qbt1__1⟩ := blk2 bt1_;have fbt1__0 := bt1_.frozen 0;have fbt1__1 := bt1_.frozen 1;clear bt1_;have bt3_ := Jt3.out.ext (w' := u6) xe;have lbt3_ := bt3_.lt;obtain ⟨qbt3__0, qbt3__1⟩ := blk2 bt3_;have fbt3__0 := bt3_.frozen 0;have fbt3__1 := bt3_.frozen 1;clear bt3_;have bt5_ := Jt5.out.ext (w' := u6) xe;have lbt5_ := bt5_.lt;obtain ⟨qbt5__0, qbt5__1⟩ := blk2 bt5_;have fbt5__0 := bt5_.frozen 0;have fbt5__1 := bt5_.frozen 1;clear bt5_;have bb5_ := Jb5.out.ext (w' := u6) xe;have lbb5_ := bb5_.lt;obtain ⟨qbb5__0, qbb5__1⟩ := blk2 bb5_;have fbb5__0 := bb5_.frozen 0;have fbb5__1 := bb5_.frozen 1;clear bb5_;have bt6_ := Jt6.out.ext (w' := u6) xe;have lbt6_ := bt6_.lt;obtain ⟨qbt6__0, qbt6__1⟩ := blk2 bt6_;have fbt6__0 := bt6_.frozen 0;have fbt6__1 := bt6_.frozen 1;clear bt6_;refine wp_region_L (E := Ext) (w0 := u6) (G := fun τ => match τ with | 62 => some (fun v W => BeaconMessageS W.heap.size W v x2) | 71 => some (fun v W => BeaconMessageS W.heap.size W v y4) | 72 => some (fun v W => IsV (.bool true) v) | 63 => some (fun v W => IsV (.bool true) v) | 79 => some (fun v W => BeaconingV W.heap.size W v (delB t5 b5 s5)) | 83 => some (fun v W => BeaconingV W.heap.size W v (delB t5 b5 s5)) | 90 => some (fun v W => BeaconingV W.heap.size W v (newBeac t6 ts6)) | 93 => some (fun v W => BeaconingV W.heap.size W v (newBeac t6 ts6)) | 94 => some (fun v W => IsV (.bool true) v) | 84 => some (fun v W => IsV (.bool true) v) | _ => none) Ext.refl (fun h k => Ext.trans h k) (by kernel_rfl) (by kernel_rfl) xg (Ext.drew (by exact Ext.refl _)) ?_
 repeat' (first
  | ((with_reducible refine wpL_skip ?_ ?_ ?_)
     · rfl
     · rfl
     simp only [Act.put, List.setIfInBounds_toArray, List.set_cons_zero, List.set_cons_succ])
  | ((with_reducible refine wpL_quiet ?_ ?_ ?_ ?_)
     · rfl
     · rfl
     · rfl
     apply Exists.intro
     refine ⟨fun W hW hS => ?_, ?_⟩
     · have hC := (Ext.facts hW).1
       go_simp
       first | done | (with_reducible rfl) | (rw [if_neg (by omega)]; exact ⟨rfl, rfl⟩) | rfl
     first | (with_reducible refine wpL_boolT ?_) | (with_reducible refine wpL_boolF ?_) | (with_reducible refine wpL_bool (fun hB => ?_) (fun hB => ?_)) | skip
     all_goals simp only [Act.put, List.setIfInBounds_toArray, List.set_cons_zero, List.set_cons_succ])
  | ((refine wpL_grow ?_ rfl rfl ?_ ?_)
     · rfl
     · intro W hW hS
       have hC := (Ext.facts hW).1;unfold growAt
       go_simp
       simp only [growUpon]
       first | (go_at_call 12; (with_reducible refine Calls.mono (spec_Propagated _ _ r1 _ t1 l1 g1 _ (by exact St1.out.ext xe) (by exact PolicyS.ext Tl1.out xe) (by exact BeaconS.ext Tg1.out xe) (by omega)) ?_); rintro e w9_ ⟨v9, rfl, o9, e9⟩; exact ⟨_, rfl, e9, by (rw [← HXE.out]; exact BeaconMessageSO_rd o9 (Nat.le_refl _))⟩) | (go_at_call 13; (with_reducible refine Calls.mono (spec_Originated _ _ r3 ts3 t3 l3 _ (by exact St3.out.ext xe) (by exact PolicyS.ext Tl3.out xe)) ?_); rintro e w9_ ⟨v9, rfl, o9, e9⟩; exact ⟨_, rfl, e9, by (rw [← HYE.out]; exact BeaconMessageSO_rd o9 (Nat.le_refl _))⟩) | (have hb : BeaconMessageS W.heap.size W _ y4 := hS 71 (by decide); go_at_call 11; (with_reducible refine Calls.mono (laws_sameSent _ _ y4 _ (by exact BeaconMessageS.ext Ty4.out xe) hb) ?_); rintro e w9_ ⟨rfl, e9⟩; exact ⟨_, rfl, e9, IsV.mk⟩) | (have hb : BeaconMessageS W.heap.size W _ x2 := hS 62 (by decide); go_at_call 11; (with_reducible refine Calls.mono (laws_sameSent _ _ x2 _ (by exact BeaconMessageS.ext Tx2.out xe) hb) ?_); rintro e w9_ ⟨rfl, e9⟩; exact ⟨_, rfl, e9, IsV.mk⟩) | (go_at_call 15; (with_reducible refine Calls.mono (impl_DeliverBeacons _ _ _ t5 b5 s5 _ (by exact St5.out.ext xe) (by exact Sb5.out.ext xe) (by exact BeaconMessageS.ext Ts5.out xe) (by omega) (by exact HFM.out)) ?_); rintro e w9_ ⟨v9, rfl, o9, e9⟩; exact ⟨_, rfl, e9, BeaconingO_rd o9 (Nat.le_refl _)⟩) | (go_at_call 16; (with_reducible refine Calls.mono (spec_DeliverBeacons _ _ _ t5 b5 s5 _ (by exact St5.out.ext xe) (by exact Sb5.out.ext xe) (by exact BeaconMessageS.ext Ts5.out xe) (by omega) (by exact HFM.out)) ?_); rintro e w9_ ⟨v9, rfl, o9, e9⟩; exact ⟨_, rfl, e9, BeaconingO_rd o9 (Nat.le_refl _)⟩) | (go_at_call 17; (with_reducible refine Calls.mono (impl_NewBeaconing _ ts6 t6 _ (by exact St6.out.ext xe)) ?_); rintro e w9_ ⟨v9, rfl, o9, e9⟩; exact ⟨_, rfl, e9, BeaconingO_rd o9 (Nat.le_refl _)⟩) | (go_at_call 18; (with_reducible refine Calls.mono (spec_NewBeaconing _ ts6 t6 _ (by exact St6.out.ext xe)) ?_); rintro e w9_ ⟨v9, rfl, o9, e9⟩; exact ⟨_, rfl, e9, BeaconingO_rd o9 (Nat.le_refl _)⟩) | (have ha : BeaconingV W.heap.size W _ (newBeac t6 ts6) := hS 90 (by decide); have hb : BeaconingV W.heap.size W _ (newBeac t6 ts6) := hS 93 (by decide); go_at_call 14; (with_reducible refine Calls.mono (laws_sameBeacons _ _ (newBeac t6 ts6) _ ha hb) ?_); rintro e w9_ ⟨rfl, e9⟩; exact ⟨_, rfl, e9, IsV.mk⟩) | (have ha : BeaconingV W.heap.size W _ (delB t5 b5 s5) := hS 79 (by decide); have hb : BeaconingV W.heap.size W _ (delB t5 b5 s5) := hS 83 (by decide); go_at_call 14; (with_reducible refine Calls.mono (laws_sameBeacons _ _ (delB t5 b5 s5) _ ha hb) ?_); rintro e w9_ ⟨rfl, e9⟩; exact ⟨_, rfl, e9, IsV.mk⟩)
     intro v W' hW' hv
     first | ((with_reducible refine intro_at 62 _ ?_); skip) | ((with_reducible refine intro_at 71 _ ?_); skip) | ((with_reducible refine intro_at 72 _ ?_); cases hv) | ((with_reducible refine intro_at 63 _ ?_); cases hv) | ((with_reducible refine intro_at 79 _ ?_); skip) | ((with_reducible refine intro_at 83 _ ?_); skip) | ((with_reducible refine intro_at 90 _ ?_); skip) | ((with_reducible refine intro_at 93 _ ?_); skip) | ((with_reducible refine intro_at 94 _ ?_); cases hv) | ((with_reducible refine intro_at 84 _ ?_); cases hv) | (obtain ⟨A5, n5, c5, rfl, -⟩ := id hv; clear hv) | (obtain ⟨A5, n5, c5, rfl⟩ := NO.slice hv) | skip
     all_goals simp only [Act.put, List.setIfInBounds_toArray, List.set_cons_zero, List.set_cons_succ]))
 refine wpL_nil (fun w10 e10 hL => ?_);clear hL;clear lbt1_ qbt1__0 fbt1__0 qbt1__1 fbt1__1 lbt3_ qbt3__0 fbt3__0 qbt3__1 fbt3__1 lbt5_ qbt5__0 fbt5__0 qbt5__1 fbt5__1 lbb5_ qbb5__0 fbb5__0 qbb5__1 fbb5__1 lbt6_ qbt6__0 fbt6__0 qbt6__1 fbt6__1;clear Jt5 Jb5 Jt6 St5 Sb5 Ts5 St6 Tl1 Tg1 Tl3 HXE HYE HFM;have Jt1 := Lib.hid (Jt1.out.ext (w' := w10) e10); have Jt3 := Lib.hid (Jt3.out.ext (w' := w10) e10);have St1 := Lib.hid (St1.out.ext (w' := w10) e10); have St3 := Lib.hid (St3.out.ext (w' := w10) e10);have Tx2 := Lib.hid (BeaconMessageS.ext Tx2.out e10); have Ty4 := Lib.hid (BeaconMessageS.ext Ty4.out e10);have eu10 : Ext u0 w10 := Ext.trans eu6 e10;go_wp2_with fail
 go_loopw [18] (fun i wr => ∃ k : Nat, k ≤ x2.length ∧ i = I k ∧ Ext w10 wr) (fun i _ => x2.length - (intOf i).toNat)
 case atStart => exact ⟨0, by omega, rfl, Ext.refl _⟩
 case round =>
  obtain ⟨k, hk, rfl, he⟩ := hrel;have zr := he.size;have ewr : Ext w10 wr := he;have eur : Ext u0 wr := Ext.trans eu10 ewr;have Jt1r := Lib.hid (Jt1.out.ext (w' := wr) ewr);have bt1_ := Jt1r.out.ext (w' := wr) xe;have lbt1_ := bt1_.lt;obtain ⟨qbt1__0, qbt1__1⟩ := blk2 bt1_;have fbt1__0 := bt1_.frozen 0;have fbt1__1 := bt1_.frozen 1;clear bt1_;by_cases hlt : k < x2.length
  · have St1r := Lib.hid (St1.out.ext (w' := wr) ewr)
    obtain ⟨b, off, hA, hb, hkl, hc⟩ := (BeaconMessageS.ext Tx2.out ewr).at_ hlt;obtain ⟨j1, j2, j3⟩ := HLX.out _ (List.getElem_mem hkl)
    generalize x2[k] = m at *
    have HJ1 := Lib.hid j1; have HJ2 := Lib.hid j2; have HJ3 := Lib.hid j3; clear j1 j2 j3;subst hA;obtain ⟨Am_4, nm_4, cm_4, hm_0, hm_1, hm_2, hm_3, hm_4, sm_4⟩ := hc;obtain ⟨lm_4, km_4, mm_4⟩ := sm_4.len;subst lm_4;unfold maxLen at mm_4
    have Rm : Hid (BeaconMessageV wr.heap.size wr (.agg #[I m.to, I m.beacon.ing, I m.beacon.seg.ts, I m.beacon.seg.beta, .slice Am_4 m.beacon.seg.hops.length cm_4]) m) := ⟨_, _, _, rfl, sm_4⟩
    have Sm_4 := Lib.hid sm_4; clear sm_4;have RSM : Hid (SegmentV wr.heap.size wr (.agg #[I m.beacon.seg.ts, I m.beacon.seg.beta, .slice Am_4 m.beacon.seg.hops.length cm_4]) m.beacon.seg) := segV Sm_4.out
    have i0 : (0 : Int) ≤ (k : Int) := by omega
    have i1 : (k : Int) < (x2.length : Int) := by omega
    go_wp2_with fail
    refine wp_region_L (E := Ext) (w0 := wr) (G := fun τ => match τ with | 121 => some (fun v W => IsV (.bool true) v) | 130 => some (fun v W => IsV (I r1) v) | _ => none) Ext.refl (fun h k => Ext.trans h k) (by kernel_rfl) (by kernel_rfl) xg (Ext.drew (by exact Ext.refl _)) ?_
    repeat' (first
     | ((with_reducible refine wpL_skip ?_ ?_ ?_)
        · rfl
        · rfl
        simp only [Act.put, List.setIfInBounds_toArray, List.set_cons_zero, List.set_cons_succ])
     | ((with_reducible refine wpL_quiet ?_ ?_ ?_ ?_)
        · rfl
        · rfl
        · rfl
        apply Exists.intro
        refine ⟨fun W hW hS => ?_, ?_⟩
        · have hC := (Ext.facts hW).1
          go_simp
          first | done | (with_reducible rfl) | (rw [if_neg (by omega)]; exact ⟨rfl, rfl⟩) | rfl
        first | (with_reducible refine wpL_boolT ?_) | (with_reducible refine wpL_boolF ?_) | (with_reducible refine wpL_bool (fun hB => ?_) (fun hB => ?_)) | skip
        all_goals simp only [Act.put, List.setIfInBounds_toArray, List.set_cons_zero, List.set_cons_succ])
     | ((refine wpL_grow ?_ rfl rfl ?_ ?_)
        · rfl
        · intro W hW hS
          have hC := (Ext.facts hW).1;unfold growAt
          go_simp
          simp only [growUpon]
          first | (go_at_call 19; (with_reducible refine Calls.mono (impl_CanExtend _ _ m.to m.beacon.ing t1 m.beacon.seg _ (by exact St1r.out.ext xe) (by exact RSM.out.ext xe) (by have := HJ3.out; omega)) ?_); rintro e w9_ ⟨rfl, e9⟩; exact ⟨_, rfl, e9, by rw [HJ1.out]; exact IsV.mk⟩) | (go_at_call 20; (with_reducible refine Calls.mono (impl_LastAS _ m.beacon.seg _ (by exact RSM.out.ext xe)) ?_); rintro e w9_ ⟨rfl, e9⟩; exact ⟨_, rfl, e9, by rw [HJ2.out]; exact IsV.mk⟩)
        intro v W' hW' hv
        first | ((with_reducible refine intro_at 121 _ ?_); cases hv) | ((with_reducible refine intro_at 130 _ ?_); cases hv) | (obtain ⟨A5, n5, c5, rfl, -⟩ := id hv; clear hv) | (obtain ⟨A5, n5, c5, rfl⟩ := NO.slice hv) | skip
        all_goals simp only [Act.put, List.setIfInBounds_toArray, List.set_cons_zero, List.set_cons_succ]))
    refine wpL_nil (fun w12 e12 hL => ?_);clear hL;go_wp2_with fail
    go_roundw
    case rel => exact ⟨k + 1, by omega, by go_num, Ext.trans he e12⟩
    case measure => first | (simp [intOf]; done) | (simp [intOf]; omega)
  · obtain rfl : k = x2.length := by omega
    have i1 : ¬ (x2.length : Int) < (x2.length : Int) := by omega
    go_wp2_with fail
    obtain ⟨w20, hw20⟩ : ∃ w20, w20 = wr := ⟨_, rfl⟩
    subst hw20;clear lbt1_ qbt1__0 qbt1__1 fbt1__0 fbt1__1 i1 Jt1r;have he10 : Ext w10 w20 := he;clear he hk hlt
    go_loopw [19] (fun i wr => ∃ k : Nat, k ≤ y4.length ∧ i = I k ∧ Ext w20 wr) (fun i _ => y4.length - (intOf i).toNat)
    case atStart => exact ⟨0, by omega, rfl, Ext.refl _⟩
    case round =>
     obtain ⟨k, hk, rfl, he⟩ := hrel;have zr := he.size;have ewr : Ext w10 wr := Ext.trans he10 he;have eur : Ext u0 wr := Ext.trans eu10 ewr;have Jt3r := Lib.hid (Jt3.out.ext (w' := wr) ewr);have bt3_ := Jt3r.out.ext (w' := wr) xe;have lbt3_ := bt3_.lt;obtain ⟨qbt3__0, qbt3__1⟩ := blk2 bt3_;have fbt3__0 := bt3_.frozen 0;have fbt3__1 := bt3_.frozen 1;clear bt3_;by_cases hlt : k < y4.length
     · have St3r := Lib.hid (St3.out.ext (w' := wr) ewr)
       obtain ⟨b, off, hA, hb, hkl, hc⟩ := (BeaconMessageS.ext Ty4.out ewr).at_ hlt;obtain ⟨j1, j2, j3⟩ := HLY.out _ (List.getElem_mem hkl)
       generalize y4[k] = m at *
       have HJ1 := Lib.hid j1; have HJ2 := Lib.hid j2; have HJ3 := Lib.hid j3; clear j1 j2 j3;subst hA;obtain ⟨Am_4, nm_4, cm_4, hm_0, hm_1, hm_2, hm_3, hm_4, sm_4⟩ := hc;obtain ⟨lm_4, km_4, mm_4⟩ := sm_4.len;subst lm_4;unfold maxLen at mm_4
       have Rm : Hid (BeaconMessageV wr.heap.size wr (.agg #[I m.to, I m.beacon.ing, I m.beacon.seg.ts, I m.beacon.seg.beta, .slice Am_4 m.beacon.seg.hops.length cm_4]) m) := ⟨_, _, _, rfl, sm_4⟩
       have Sm_4 := Lib.hid sm_4; clear sm_4;have RSM : Hid (SegmentV wr.heap.size wr (.agg #[I m.beacon.seg.ts, I m.beacon.seg.beta, .slice Am_4 m.beacon.seg.hops.length cm_4]) m.beacon.seg) := segV Sm_4.out
       have i0 : (0 : Int) ≤ (k : Int) := by omega
       have i1 : (k : Int) < (y4.length : Int) := by omega
       have dq1 : ((m.beacon.seg.hops.length : Int) != 1) = false := by rw [HJ3.out]; rfl
       go_wp2_with fail
       refine wp_region_L (E := Ext) (w0 := wr) (G := fun τ => match τ with | 158 => some (fun v W => IsV (.bool true) v) | 167 => some (fun v W => IsV (I r3) v) | _ => none) Ext.refl (fun h k => Ext.trans h k) (by kernel_rfl) (by kernel_rfl) xg (Ext.drew (by exact Ext.refl _)) ?_
       repeat' (first
        | ((with_reducible refine wpL_skip ?_ ?_ ?_)
           · rfl
           · rfl
           simp only [Act.put, List.setIfInBounds_toArray, List.set_cons_zero, List.set_cons_succ])
        | ((with_reducible refine wpL_quiet ?_ ?_ ?_ ?_)
           · rfl
           · rfl
           · rfl
           apply Exists.intro
           refine ⟨fun W hW hS => ?_, ?_⟩
           · have hC := (Ext.facts hW).1
             go_simp
             first | done | (with_reducible rfl) | (rw [if_neg (by omega)]; exact ⟨rfl, rfl⟩) | rfl
           first | (with_reducible refine wpL_boolT ?_) | (with_reducible refine wpL_boolF ?_) | (with_reducible refine wpL_bool (fun hB => ?_) (fun hB => ?_)) | skip
           all_goals simp only [Act.put, List.setIfInBounds_toArray, List.set_cons_zero, List.set_cons_succ])
        | ((refine wpL_grow ?_ rfl rfl ?_ ?_)
           · rfl
           · intro W hW hS
             have hC := (Ext.facts hW).1;unfold growAt
             go_simp
             simp only [growUpon]
             first | (go_at_call 19; (with_reducible refine Calls.mono (impl_CanExtend _ _ m.to m.beacon.ing t3 m.beacon.seg _ (by exact St3r.out.ext xe) (by exact RSM.out.ext xe) (by have := HJ3.out; omega)) ?_); rintro e w9_ ⟨rfl, e9⟩; exact ⟨_, rfl, e9, by rw [HJ1.out]; exact IsV.mk⟩) | (go_at_call 21; (with_reducible refine Calls.mono (impl_FirstAS _ m.beacon.seg _ (by exact RSM.out.ext xe)) ?_); rintro e w9_ ⟨rfl, e9⟩; exact ⟨_, rfl, e9, by rw [HJ2.out]; exact IsV.mk⟩)
           intro v W' hW' hv
           first | ((with_reducible refine intro_at 158 _ ?_); cases hv) | ((with_reducible refine intro_at 167 _ ?_); cases hv) | (obtain ⟨A5, n5, c5, rfl, -⟩ := id hv; clear hv) | (obtain ⟨A5, n5, c5, rfl⟩ := NO.slice hv) | skip
           all_goals simp only [Act.put, List.setIfInBounds_toArray, List.set_cons_zero, List.set_cons_succ]))
       refine wpL_nil (fun w12 e12 hL => ?_);clear hL;go_wp2_with fail
       go_roundw
       case rel => exact ⟨k + 1, by omega, by go_num, Ext.trans he e12⟩
       case measure => first | (simp [intOf]; done) | (simp [intOf]; omega)
     · obtain rfl : k = y4.length := by omega
       have i1 : ¬ (y4.length : Int) < (y4.length : Int) := by omega
       go_wp2_with fail
       go_ret
       exact ⟨rfl, xe⟩
end Go.Proofs.YtfpfgifjigenaaaGreat
