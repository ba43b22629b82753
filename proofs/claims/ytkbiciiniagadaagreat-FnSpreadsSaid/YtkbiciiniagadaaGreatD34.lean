/- The walk of the law FnSpreads. No conditions. -/
import Derived.Test.YtkbiciiniagadaaGreatDK
import Derived.Test.YtkbiciiniagadaaGreatD33
import Derived.Test.YtkbiciiniagadaaGreatGP33
import Derived.Test.YtkbiciiniagadaaGreatL04m
import Derived.Test.YtkbiciiniagadaaGreatL10f
import Derived.Test.YtkbiciiniagadaaGreatL16l
import Derived.Test.YtkbiciiniagadaaGreatGL16e
namespace Go.Proofs.YtkbiciiniagadaaGreat
open Go.RowKit
set_option linter.unusedVariables false
/-- v is u. -/
inductive IsV (u : Value) : Value → Prop where
  | mk : IsV u u
set_option maxRecDepth 100000 in
set_option maxHeartbeats 40000000 in
theorem spreads_walk (vb : Value) (bs : List Nat) (w : World) (hb : ByteS w.heap.size w vb bs) : Calls Tryz.prog 3 #[vb] w fun e w' => e = .returned (.bool true) ∧ Ext w w' := by
  have HB := Lib.hid hb; clear hb
  go_enter Tryz.func3, Tryz.ntmps3
  go_wp2_with fail
  refine (laws_big vb bs w HB.out).mono ?_
  rintro e u0 ⟨rfl, e0⟩
  by_cases hn : 1048576 < bs.length
  · rw [show decide (1048576 < bs.length) = true by simpa using hn]
    go_wp2_with fail
    go_ret
    exact ⟨rfl, xe⟩
  rw [show decide (1048576 < bs.length) = false by simpa using hn]
  go_wp2_with fail
  refine (spec_DrawSpreading vb bs u0 (Sl.ext ByteAt.keeps HB.out xe) (by omega)).mono ?_
  rintro e w1 ⟨⟨vt1, vl1, vb1, rfl, t1, l1, ts1, ht1, hl1, hts, hb1⟩, e1⟩
  have hlaw := spread_law t1 l1 hts.1 (by omega : ts1 ≤ 1000000)
  have hsm : Small (runBeac t1 l1 ts1).stores := runTo_small t1 l1 ts1 8
  generalize runBeac t1 l1 ts1 = b1 at *
  clear hts
  obtain ⟨At1_0, nt1_0, ct1_0, At1_1, nt1_1, ct1_1, rfl, st1_0, st1_1⟩ := id ht1
  obtain ⟨lt1_0, kt1_0, mt1_0⟩ := st1_0.len
  subst lt1_0
  unfold maxLen at mt1_0
  obtain ⟨lt1_1, kt1_1, mt1_1⟩ := st1_1.len
  subst lt1_1
  unfold maxLen at mt1_1
  have Rt1 := Lib.hid ht1; clear ht1
  have St1_0 := Lib.hid st1_0; clear st1_0
  have St1_1 := Lib.hid st1_1; clear st1_1
  obtain ⟨Al1, nl1, cl1, rfl, ll1, kl1, ml1, -⟩ := id hl1
  subst ll1
  unfold maxLen at ml1
  have Rl1 := Lib.hid hl1; clear hl1
  obtain ⟨Ab1_1, nb1_1, cb1_1, rfl, sb1_1⟩ := id hb1
  obtain ⟨lb1_1, kb1_1, mb1_1⟩ := sb1_1.len
  subst lb1_1
  unfold maxLen at mb1_1
  have Rb1 := Lib.hid hb1; clear hb1
  have Sb1_1 := Lib.hid sb1_1; clear sb1_1
  have HLAW := Lib.hid hlaw.1; have HDB0 := hlaw.2; clear hlaw
  have htb : strTot b1.stores ≤ 1000 := small_tot hsm
  have HSM := Lib.hid hsm; clear hsm
  have hdt := buildDb_tot t1 l1 b1
  go_wp2_with fail
  refine name_calls (fun W => Ext w1 W ∧ W.heap.size = w1.heap.size + 1 + 1 ∧ Blk W (w1.heap.size) 27 [.slice At1_0 t1.ases.length ct1_0, .slice At1_1 t1.links.length ct1_1] ∧ Blk W (w1.heap.size + 1) 31 [I b1.ts, .slice Ab1_1 b1.stores.length cb1_1]) ⟨xe, by first | rfl | simp only [World.size_alloc], xb, xb⟩ ?_
  rintro wb1 ⟨f1, z1, bt1, bb1⟩
  have Kt1 := Lib.hid bt1; have Kb1 := Lib.hid bb1; clear bt1 bb1
  have eu1 : Ext u0 wb1 := Ext.trans e1 f1
  refine (impl_BuildDatabase _ _ _ t1 l1 b1 wb1 (by exact Rt1.out.ext f1) (by exact PolicyS.ext Rl1.out f1) (by exact Rb1.out.ext f1) (by omega)).mono ?_
  rintro e w2 ⟨vk2, rfl, oq2, e2⟩
  have hk2 : SegmentDatabaseV w2.heap.size w2 vk2 (buildDb t1 l1 b1) := oq2.toV
  clear oq2
  generalize buildDb t1 l1 b1 = k2 at *
  have HDB := Lib.hid HDB0; clear HDB0
  have htk : segTot k2.down + segTot k2.core ≤ 10000 := by (have h9 : dbTot k2 = segTot k2.down + segTot k2.core := rfl); omega
  obtain ⟨Ak2_0, nk2_0, ck2_0, Ak2_1, nk2_1, ck2_1, rfl, sk2_0, sk2_1⟩ := id hk2
  obtain ⟨lk2_0, kk2_0, mk2_0⟩ := sk2_0.len
  subst lk2_0
  unfold maxLen at mk2_0
  obtain ⟨lk2_1, kk2_1, mk2_1⟩ := sk2_1.len
  subst lk2_1
  unfold maxLen at mk2_1
  have Rk2 := Lib.hid hk2; clear hk2
  have Sk2_0 := Lib.hid sk2_0; clear sk2_0
  have Sk2_1 := Lib.hid sk2_1; clear sk2_1
  have eu2 : Ext u0 w2 := Ext.trans eu1 e2
  go_wp2_with fail
  refine name_wp (fun W => Ext w2 W ∧ W.heap.size = w2.heap.size + 1 ∧ Blk W (w2.heap.size) 36 [.slice Ak2_0 k2.down.length ck2_0, .slice Ak2_1 k2.core.length ck2_1]) ⟨xe, by first | rfl | simp only [World.size_alloc], xb⟩ ?_
  rintro wb2 ⟨f2, z2, bk2⟩
  have Jk2 := Lib.hid bk2; clear bk2
  have g2 : Ext wb1 wb2 := Ext.trans e2 f2
  have g1 : Ext w1 wb2 := Ext.trans f1 g2
  have eu3 : Ext u0 wb2 := Ext.trans eu2 f2
  have Jt1 := Lib.hid (Kt1.out.ext (w' := wb2) g2); have Jb1 := Lib.hid (Kb1.out.ext (w' := wb2) g2); clear Kt1 Kb1
  have St1 := Lib.hid (Rt1.out.ext g1); have Sl1 := Lib.hid (PolicyS.ext Rl1.out g1); clear Rt1 Rl1 Rb1
  have Sk2 := Lib.hid (Rk2.out.ext f2); clear Rk2
  have Tb1 := Lib.hid (BeaconStoreS.ext Sb1_1.out g1); clear Sb1_1
  clear z1 z2
  go_loopw [7] (fun i wr => ∃ k : Nat, k ≤ b1.stores.length ∧ i = I k ∧ Ext wb2 wr) (fun i _ => b1.stores.length - (intOf i).toNat)
  case atStart => exact ⟨0, by omega, rfl, Ext.refl _⟩
  case round =>
    obtain ⟨k, hk, rfl, he⟩ := hrel
    have zr := he.size
    have eur : Ext u0 wr := Ext.trans eu3 he
    have Jb1r := Lib.hid (Jb1.out.ext (w' := wr) he)
    have bb1_ := Jb1r.out.ext (w' := wr) xe
    have lbb1_ := bb1_.lt
    obtain ⟨qbb1__0, qbb1__1⟩ := blk2 bb1_
    have fbb1__0 := bb1_.frozen 0
    have fbb1__1 := bb1_.frozen 1
    clear bb1_
    by_cases hlt : k < b1.stores.length
    · obtain ⟨u, hu⟩ : ∃ u, b1.stores[k] = u := ⟨_, rfl⟩
      have HUE : Hid (∀ h : k < b1.stores.length, b1.stores[k]'h = u) := fun _ => hu
      have HUL : Hid (∀ g ∈ u.beacons, ∀ j, j < g.seg.hops.length → HopLaw t1 l1 g.seg j) := HLAW.out u (hu ▸ List.getElem_mem hlt)
      have HUS : Hid (SmallS u.beacons) := HSM.out.2 u (hu ▸ List.getElem_mem hlt)
      have hub : u.beacons.length ≤ 12 := HUS.out.1
      clear hu
      have i0 : (0 : Int) ≤ (k : Int) := by omega
      have i1 : (k : Int) < (b1.stores.length : Int) := by omega
      go_wp2_with fail
      clear lbb1_ qbb1__0 fbb1__0 qbb1__1 fbb1__1 Jb1r
      obtain ⟨w20, hw20⟩ : ∃ w20, w20 = wr := ⟨_, rfl⟩
      subst hw20
      go_loopw [8] (fun i wq => ∃ m : Nat, m ≤ u.beacons.length ∧ i = I m ∧ Ext w20 wq) (fun i _ => u.beacons.length - (intOf i).toNat)
      case atStart => exact ⟨0, by omega, rfl, Ext.refl _⟩
      case round =>
        obtain ⟨m, hm, rfl, hq⟩ := hrel
        have zq := hq.size
        have heq : Ext wb2 wr := Ext.trans he hq
        have euq : Ext u0 wr := Ext.trans eu3 heq
        have Jb1q := Lib.hid (Jb1.out.ext (w' := wr) heq)
        have bb1_ := Jb1q.out.ext (w' := wr) xe
        have lbb1_ := bb1_.lt
        obtain ⟨qbb1__0, qbb1__1⟩ := blk2 bb1_
        have fbb1__0 := bb1_.frozen 0
        have fbb1__1 := bb1_.frozen 1
        clear bb1_
        obtain ⟨b, off, hA, hb, hkl, hc⟩ := (BeaconStoreS.ext Tb1.out heq).at_ hlt
        rw [HUE.out hkl] at hc
        subst hA
        obtain ⟨Au_0, nu_0, cu_0, hu_0, su_0⟩ := hc
        obtain ⟨lu_0, ku_0, mu_0⟩ := su_0.len
        subst lu_0
        unfold maxLen at mu_0
        have Ru : Hid (BeaconStoreV wr.heap.size wr (.agg #[.slice Au_0 u.beacons.length cu_0]) u) := ⟨_, _, _, rfl, su_0⟩
        have Su_0 := Lib.hid su_0; clear su_0
        by_cases hlt2 : m < u.beacons.length
        · obtain ⟨b2, off2, hA2, hb2, hkl2, hc2⟩ := Su_0.out.at_ hlt2
          have HGL : Hid (∀ j, j < u.beacons[m].seg.hops.length → HopLaw t1 l1 u.beacons[m].seg j) := HUL.out _ (List.getElem_mem hkl2)
          have hg8 := HUS.out.2 _ (List.getElem_mem hkl2)
          generalize u.beacons[m] = g at *
          subst hA2
          obtain ⟨Ag_3, ng_3, cg_3, hg_0, hg_1, hg_2, hg_3, sg_3⟩ := hc2
          obtain ⟨lg_3, kg_3, mg_3⟩ := sg_3.len
          subst lg_3
          unfold maxLen at mg_3
          have Rg : Hid (BeaconV wr.heap.size wr (.agg #[I g.ing, I g.seg.ts, I g.seg.beta, .slice Ag_3 g.seg.hops.length cg_3]) g) := ⟨_, _, _, rfl, sg_3⟩
          have Sg_3 := Lib.hid sg_3; clear sg_3
          have j0 : (0 : Int) ≤ (m : Int) := by omega
          have j1 : (m : Int) < (u.beacons.length : Int) := by omega
          go_wp2_with fail
          refine name_calls (fun W => Ext wr W ∧ Blk W wr.heap.size 43 [I g.seg.ts, I g.seg.beta, .slice Ag_3 g.seg.hops.length cg_3]) ⟨xe, xb⟩ ?_
          rintro w3 ⟨f3, bs3⟩
          have KS := Lib.hid bs3; clear bs3
          clear lbb1_ qbb1__0 fbb1__0 qbb1__1 fbb1__1 Jb1q hu_0 hg_0 hg_1 hg_2 hg_3
          have HS9 : Hid (SegmentV w3.heap.size w3 (.agg #[I g.seg.ts, I g.seg.beta, .slice Ag_3 g.seg.hops.length cg_3]) g.seg) := (segV (Sg_3.out.ext f3))
          refine (impl_SegmentASes _ g.seg w3 HS9.out (by omega)).mono ?_
          rintro e w4 ⟨vo, rfl, oo, e4⟩
          have so := IntSO_rd oo
          clear oo
          obtain ⟨Ao, no, co, rfl, lo, ko, mo, -⟩ := id so
          have hal := ases_len g.seg.hops
          subst lo
          unfold maxLen at mo
          have SO := Lib.hid so; clear so
          have KS4 := Lib.hid (KS.out.ext e4)
          have e24 : Ext w20 w4 := Ext.trans hq (Ext.trans f3 e4)
          have eg4 : Ext wb2 w4 := Ext.trans he e24
          have SG4 := Lib.hid (HS9.out.ext e4); have TH4 := Lib.hid (HopS.ext Sg_3.out (Ext.trans f3 e4)); clear HS9 Sg_3 Rg Su_0 Ru KS
          clear f3 hq euq heq zq
          go_wp2_with fail
          refine name_wp (fun W => w4 = W) rfl ?_
          rintro w4' rfl
          go_loopw [11] (fun i wz => ∃ j : Nat, j ≤ g.seg.hops.length ∧ i = I j ∧ Ext w4 wz) (fun i _ => g.seg.hops.length - (intOf i).toNat)
          case atStart => exact ⟨0, by omega, rfl, Ext.refl _⟩
          case round =>
            obtain ⟨j, hj, rfl, hz⟩ := hrel
            have zz := hz.size
            have ez : Ext wb2 wr := Ext.trans eg4 hz
            have euz : Ext u0 wr := Ext.trans eu3 ez
            have KSz := Lib.hid (KS4.out.ext (w' := wr) hz)
            have ks_ := KSz.out.ext (w' := wr) xe
            have lks_ := ks_.lt
            obtain ⟨qks__0, qks__1, qks__2⟩ := blk3 ks_
            have fks__0 := ks_.frozen 0
            have fks__1 := ks_.frozen 1
            have fks__2 := ks_.frozen 2
            clear ks_
            by_cases hlt3 : j < g.seg.hops.length
            · have hlaw := HGL.out j hlt3
              obtain ⟨b3, off3, hA3, hb3, hkl3, hc3⟩ := (SO.out.ext (w' := wr) hz).at_ (show j < (ases g.seg.hops).length by omega)
              have hoj : (ases g.seg.hops)[j] = (g.seg.hops.getD j dHop).asn := by simp [ases, List.getD_eq_getElem?_getD, hlt3]
              rw [hoj] at hc3
              have hc3 : wr.cell? ⟨b3, off3 + j, none⟩ = some (I (g.seg.hops.getD j dHop).asn) := hc3
              obtain ⟨b4, off4, hA4, hb4, hkl4, hc4⟩ := (HopS.ext TH4.out hz).at_ hlt3
              have hge : g.seg.hops.getD j dHop = g.seg.hops[j] := by simp [List.getD_eq_getElem?_getD, hlt3]
              rw [← hge] at hc4
              obtain ⟨h1, h2, h3, h4, h5⟩ := hlaw
              clear hoj hge
              generalize g.seg.hops.getD j dHop = x at *
              have SOz : Hid (IntS wr.heap.size wr (.slice Ao (ases g.seg.hops).length co) (ases g.seg.hops)) := SO.out.ext hz
              subst hA3
              subst hA4
              obtain ⟨hx_0, hx_1, hx_2, hx_3, hx_4⟩ := hc4
              have k0 : (0 : Int) ≤ (j : Int) := by omega
              have k1 : (j : Int) < (g.seg.hops.length : Int) := by omega
              have k2_ : (j : Int) < ((ases g.seg.hops).length : Int) := by omega
              have k3_ : (j : Int) ≤ ((ases g.seg.hops).length : Int) := by omega
              go_wp2_with fail
              refine (impl_PolicyFor _ x.asn l1 wr (by exact PolicyS.ext Sl1.out ez)).mono ?_
              rintro e w5 ⟨rfl, e5⟩
              generalize polFor l1 x.asn = p at *
              have H2 := Lib.hid h2; have H5 := Lib.hid h5; clear h2 h5
              obtain ⟨m5, hm5⟩ : ∃ m5, (ases (g.seg.hops.take j)).foldl addElem 0 = m5 := ⟨_, rfl⟩
              rw [hm5] at h4
              have HM := Lib.hid hm5; have H4 := Lib.hid h4; clear hm5 h4
              have C1 : Hid (IntKind.i64.wrap ((j : Int) + 1) ≤ p.maxLen) := by unfold Hid; rw [IntWalk.i64_in _ (by omega)]; omega
              have C2 : Hid (x.exp ≤ IntKind.i64.wrap (g.seg.ts + p.life)) := by unfold Hid; rw [IntWalk.i64_in _ (by omega)]; omega
              clear h1 h3
              go_wp2_with fail
              refine name_wp (fun W => Ext w5 W ∧ Blk W w5.heap.size 49 [I p.maxLen, I p.denied, I p.closed, I p.life]) ⟨xe, xb⟩ ?_
              rintro w6 ⟨f6, bp6⟩
              have BP := Lib.hid bp6; clear bp6
              have ew6 : Ext wr w6 := Ext.trans e5 f6
              have ew26 : Ext wb2 w6 := Ext.trans ez ew6
              have eu6 : Ext u0 w6 := Ext.trans eu3 ew26
              have KS6 := Lib.hid (KSz.out.ext ew6); have Jt6 := Lib.hid (Jt1.out.ext (w' := w6) ew26)
              have SO6 := Lib.hid (SOz.out.ext ew6)
              have SG6 := Lib.hid (SG4.out.ext (Ext.trans hz ew6)); have St6 := Lib.hid (St1.out.ext (w' := w6) ew26)
              have kc3 := (Ext.cell (a := wr) (b := w6) ew6 hb3).trans hc3
              have kx_0 := (Ext.cell (a := wr) (b := w6) ew6 hb4).trans hx_0
              have kx_2 := (Ext.cell (a := wr) (b := w6) ew6 hb4).trans hx_2
              have kx_3 := (Ext.cell (a := wr) (b := w6) ew6 hb4).trans hx_3
              have lb3 : b3 < w6.heap.size := Nat.lt_of_lt_of_le hb3 ew6.size
              have lb4 : b4 < w6.heap.size := Nat.lt_of_lt_of_le hb4 ew6.size
              clear lks_ qks__0 fks__0 qks__1 fks__1 qks__2 fks__2 hc3 hx_0 hx_1 hx_2 hx_3 hx_4 KSz SOz
              have ks_ := KS6.out.ext (w' := w6) xe
              have lks_ := ks_.lt
              obtain ⟨qks__0, qks__1, qks__2⟩ := blk3 ks_
              have fks__0 := ks_.frozen 0
              have fks__1 := ks_.frozen 1
              have fks__2 := ks_.frozen 2
              clear ks_
              have bt1_ := Jt6.out.ext (w' := w6) xe
              have lbt1_ := bt1_.lt
              obtain ⟨qbt1__0, qbt1__1⟩ := blk2 bt1_
              have fbt1__0 := bt1_.frozen 0
              have fbt1__1 := bt1_.frozen 1
              clear bt1_
              have bp_ := BP.out.ext (w' := w6) xe
              have lbp_ := bp_.lt
              obtain ⟨qbp__0, qbp__1, qbp__2, qbp__3⟩ := blk4 bp_
              have fbp__0 := bp_.frozen 0
              have fbp__1 := bp_.frozen 1
              have fbp__2 := bp_.frozen 2
              have fbp__3 := bp_.frozen 3
              clear bp_
              have kco : j ≤ co := by omega
              refine wp_region_L (E := Ext) (w0 := w6) (G := fun τ => match τ with | 82 => some (fun v W => IsV (.bool false) v) | 105 => some (fun v W => IsV (I 0) v) | 104 => some (fun v W => IsV (I m5) v) | 115 => some (fun v W => IsV (.bool true) v) | _ => none) Ext.refl (fun h k => Ext.trans h k) (by kernel_rfl) (by kernel_rfl) xg (Ext.drew (by exact Ext.refl _)) ?_
              repeat' (first
                | ((with_reducible refine wpL_skip ?_ ?_ ?_)
                   · rfl
                   · rfl
                   simp only [Act.put, List.setIfInBounds_toArray, List.set_cons_zero, List.set_cons_succ])
                | ((with_reducible refine wpL_quiet ?_ ?_ ?_ ?_)
                   · rfl
                   · rfl
                   · rfl
                   apply Exists.intro
                   refine ⟨fun W hW hS => ?_, ?_⟩
                   · have hC := (Ext.facts hW).1
                     go_simp
                     first | done | (with_reducible rfl) | (rw [if_neg (by omega)]; exact ⟨rfl, rfl⟩) | rfl
                   first | (with_reducible refine wpL_boolT ?_) | (with_reducible refine wpL_boolF ?_) | (refine wpL_bool (fun hB => absurd (of_decide_eq_true hB) (Int.not_lt.2 C1.out)) (fun _ => ?_)) | (refine wpL_bool (fun hB => absurd (of_decide_eq_true hB) (Int.not_lt.2 C2.out)) (fun _ => ?_)) | skip
                   all_goals simp only [Act.put, List.setIfInBounds_toArray, List.set_cons_zero, List.set_cons_succ])
                | ((refine wpL_grow ?_ rfl rfl ?_ ?_)
                   · rfl
                   · intro W hW hS
                     have hC := (Ext.facts hW).1
                     unfold growAt
                     go_simp
                     simp only [growUpon]
                     first | (go_at_call 9; (with_reducible refine Calls.mono (impl_Contains p.closed x.egr _) ?_); rintro e w9_ ⟨rfl, rfl⟩; exact ⟨_, rfl, Ext.refl _, by rw [H2.out]; exact IsV.mk⟩) | (go_at_call 10; (with_reducible refine Calls.mono (impl_Intersection p.denied m5 _) ?_); rintro e w9_ ⟨rfl, rfl⟩; exact ⟨_, rfl, Ext.refl _, by rw [H4.out]; exact IsV.mk⟩) | (go_at_call 11; (with_reducible refine Calls.mono (impl_MakeSet _ (ases (g.seg.hops.take j)) _ (by exact ases_rd (SO6.out.ext xe) (by omega))) ?_); rintro e w9_ ⟨rfl, e9⟩; exact ⟨_, rfl, e9, by rw [HM.out]; exact IsV.mk⟩) | (go_at_call 12; (with_reducible refine Calls.mono (impl_AuthenticatedBy _ _ x.asn t1 g.seg _ (by exact St6.out.ext xe) (by exact SG6.out.ext xe) (by omega)) ?_); rintro e w9_ ⟨rfl, e9⟩; exact ⟨_, rfl, e9, by rw [H5.out]; exact IsV.mk⟩)
                   intro v W' hW' hv
                   first | ((with_reducible refine intro_at 82 _ ?_); cases hv) | ((with_reducible refine intro_at 105 _ ?_); cases hv) | ((with_reducible refine intro_at 104 _ ?_); cases hv) | ((with_reducible refine intro_at 115 _ ?_); cases hv) | (obtain ⟨A5, n5, c5, rfl, -⟩ := id hv; clear hv) | (obtain ⟨A5, n5, c5, rfl⟩ := NO.slice hv) | skip
                   all_goals simp only [Act.put, List.setIfInBounds_toArray, List.set_cons_zero, List.set_cons_succ]))
              refine wpL_nil (fun w12 e12 hL => ?_)
              clear hL
              go_wp2_with fail
              go_roundw
              case rel => exact ⟨j + 1, by omega, by go_num, Ext.trans hz (Ext.trans ew6 e12)⟩
              case measure => first | (simp [intOf]; done) | (simp [intOf]; omega)
            · obtain rfl : j = g.seg.hops.length := by omega
              have k1 : ¬ (g.seg.hops.length : Int) < (g.seg.hops.length : Int) := by omega
              go_wp2_with fail
              go_roundw
              case rel => exact ⟨m + 1, by omega, by go_num, Ext.trans e24 hz⟩
              case measure => first | (simp [intOf]; done) | (simp [intOf]; omega)
        · obtain rfl : m = u.beacons.length := by omega
          have j1 : ¬ (u.beacons.length : Int) < (u.beacons.length : Int) := by omega
          have i0 : (0 : Int) ≤ (k : Int) := by omega
          go_wp2_with fail
          go_roundw
          case rel => exact ⟨k + 1, by omega, by go_num, heq⟩
          case measure => first | (simp [intOf]; done) | (simp [intOf]; omega)
    · obtain rfl : k = b1.stores.length := by omega
      have i1 : ¬ (b1.stores.length : Int) < (b1.stores.length : Int) := by omega
      have Jt1r := Lib.hid (Jt1.out.ext (w' := wr) he); have Jk2r := Lib.hid (Jk2.out.ext (w' := wr) he)
      have St1r := Lib.hid (St1.out.ext (w' := wr) he); have Sk2r := Lib.hid (Sk2.out.ext (w' := wr) he)
      have bt1_ := Jt1r.out.ext (w' := wr) xe
      have lbt1_ := bt1_.lt
      obtain ⟨qbt1__0, qbt1__1⟩ := blk2 bt1_
      have fbt1__0 := bt1_.frozen 0
      have fbt1__1 := bt1_.frozen 1
      clear bt1_
      have bk2_ := Jk2r.out.ext (w' := wr) xe
      have lbk2_ := bk2_.lt
      obtain ⟨qbk2__0, qbk2__1⟩ := blk2 bk2_
      have fbk2__0 := bk2_.frozen 0
      have fbk2__1 := bk2_.frozen 1
      clear bk2_
      go_wp2_with fail
      refine (impl_DatabaseUsable _ _ b1.ts t1 k2 wr (by exact St1r.out) (by exact Sk2r.out) (by omega)).mono ?_
      rintro e w9 ⟨rfl, e9⟩
      rw [HDB.out]
      go_wp2_with fail
      go_ret
      exact ⟨rfl, xe⟩
end Go.Proofs.YtkbiciiniagadaaGreat
