/- The walk of the law FnReached. No conditions. -/
import Derived.Test.YtpkcoinoiaaebaaGreatDK
import Derived.Test.YtpkcoinoiaaebaaGreatD36
import Derived.Test.YtpkcoinoiaaebaaGreatGD31s
import Derived.Test.YtpkcoinoiaaebaaGreatGP36
import Derived.Test.YtpkcoinoiaaebaaGreatL07
import Derived.Test.YtpkcoinoiaaebaaGreatGL16k
import Derived.Test.YtpkcoinoiaaebaaGreatL15h
namespace Go.Proofs.YtpkcoinoiaaebaaGreat
open Go.RowKit
set_option linter.unusedVariables false
/-- v is u. -/
inductive IsV (u : Value) : Value → Prop where
  | mk : IsV u u
theorem pol_nil (A : Option Addr) (w : World) : PolicyS w.heap.size w (.slice A 0 0) [] := ⟨_, 0, 0, rfl, rfl, Nat.le_refl _, Nat.zero_le _, fun h => absurd h (by omega)⟩
theorem core_at {t : DTopology} {k : Nat} (h : k < t.ases.length) : isCore t k = t.ases[k].core := by
  unfold isCore
  rw [asAt_nat t k h, show isAs t (k : Int) = true from isAs_iff.2 ⟨by omega, by omega⟩]
  rfl
set_option maxRecDepth 100000 in
set_option maxHeartbeats 40000000 in
theorem reached_walk (vb : Value) (bs : List Nat) (w : World) (hb : ByteS w.heap.size w vb bs) : Calls Tryz.prog 3 #[vb] w fun e w' => e = .returned (.bool true) ∧ Ext w w' := by
  have HB := Lib.hid hb; clear hb
  go_enter Tryz.func3, Tryz.ntmps3
  go_wp2_with fail
  refine (laws_big vb bs w HB.out).mono ?_
  rintro e u0 ⟨rfl, e0⟩
  by_cases hn : 1048576 < bs.length
  · rw [show decide (1048576 < bs.length) = true by simpa using hn]
    go_wp2_with fail
    go_ret
    exact ⟨rfl, xe⟩
  rw [show decide (1048576 < bs.length) = false by simpa using hn]
  go_wp2_with fail
  refine (spec_DrawRunBeaconing vb bs u0 (Sl.ext ByteAt.keeps HB.out xe) (by omega)).mono ?_
  rintro e w1 ⟨⟨vt1, vl1, ts1, rfl, t1, ht1, hvt, hnl0, hts⟩, e1⟩
  have hlaw : ∀ r : Nat, r < t1.ases.length → isCore t1 r = false → (0 < (downSegs (buildDb t1 [] (runBeac t1 [] ts1)) r).length ↔ 0 < (coresOf t1 r).length) := fun r hr hc => reached_law hvt hts.1 (by omega) hr hc
  have hsm : Small (runBeac t1 [] ts1).stores := runTo_small t1 [] ts1 8
  obtain ⟨b1, hb1e⟩ : ∃ b, runBeac t1 [] ts1 = b := ⟨_, rfl⟩
  rw [hb1e] at hlaw hsm
  have HYE := Lib.hid hb1e; clear hb1e
  clear hts
  have hnl : t1.links.length ≤ 10000 := by omega
  obtain ⟨At1_0, nt1_0, ct1_0, At1_1, nt1_1, ct1_1, rfl, st1_0, st1_1⟩ := id ht1
  obtain ⟨lt1_0, kt1_0, mt1_0⟩ := st1_0.len
  subst lt1_0
  unfold maxLen at mt1_0
  obtain ⟨lt1_1, kt1_1, mt1_1⟩ := st1_1.len
  subst lt1_1
  unfold maxLen at mt1_1
  have Rt1 := Lib.hid ht1; clear ht1
  have St1_0 := Lib.hid st1_0; clear st1_0
  have St1_1 := Lib.hid st1_1; clear st1_1
  have htb : strTot b1.stores ≤ 1000 := small_tot hsm
  have HSM := Lib.hid hsm; clear hsm
  have hdt := buildDb_tot t1 [] b1
  go_wp2_with fail
  refine name_calls (fun W => Ext w1 W ∧ Blk W (w1.heap.size) 27 [.slice At1_0 t1.ases.length ct1_0, .slice At1_1 t1.links.length ct1_1]) ⟨xe, xb⟩ ?_
  rintro wb1 ⟨f1, bt1⟩
  have Kt1 := Lib.hid bt1; clear bt1
  have eu1 : Ext u0 wb1 := Ext.trans e1 f1
  refine (impl_RunBeaconing _ _ ts1 t1 [] _ (by exact Rt1.out.ext f1) (pol_nil _ _)).mono ?_
  rintro e w2 ⟨vb2, rfl, ob2, e2⟩
  rw [HYE.out] at ob2
  have hb1 : BeaconingV w2.heap.size w2 vb2 b1 := BeaconingO_rd ob2 (Nat.le_refl _)
  clear ob2
  obtain ⟨Ab1_1, nb1_1, cb1_1, rfl, sb1_1⟩ := id hb1
  obtain ⟨lb1_1, kb1_1, mb1_1⟩ := sb1_1.len
  subst lb1_1
  unfold maxLen at mb1_1
  have Rb1 := Lib.hid hb1; clear hb1
  have Sb1_1 := Lib.hid sb1_1; clear sb1_1
  have eu2 : Ext u0 w2 := Ext.trans eu1 e2
  have Kt2 := Lib.hid (Kt1.out.ext e2); clear Kt1
  have bt1_ := Kt2.out.ext (w' := w2) xe
  have lbt1_ := bt1_.lt
  obtain ⟨qbt1__0, qbt1__1⟩ := blk2 bt1_
  have fbt1__0 := bt1_.frozen 0
  have fbt1__1 := bt1_.frozen 1
  clear bt1_
  go_wp2_with fail
  refine name_calls (fun W => Ext w2 W ∧ Blk W (w2.heap.size) 33 [I b1.ts, .slice Ab1_1 b1.stores.length cb1_1]) ⟨xe, xb⟩ ?_
  rintro wb2 ⟨f2, bb1⟩
  have Kb1 := Lib.hid bb1; clear bb1 lbt1_ qbt1__0 fbt1__0 qbt1__1 fbt1__1
  have g12 : Ext w1 wb2 := Ext.trans f1 (Ext.trans e2 f2)
  have eu3 : Ext u0 wb2 := Ext.trans e1 g12
  refine (impl_BuildDatabase _ _ _ t1 [] b1 _ (by exact Rt1.out.ext g12) (pol_nil _ _) (by exact Rb1.out.ext f2) (by omega)).mono ?_
  rintro e w3 ⟨vk2, rfl, oq2, e3⟩
  have hk2 : SegmentDatabaseV w3.heap.size w3 vk2 (buildDb t1 [] b1) := oq2.toV
  clear oq2
  generalize buildDb t1 [] b1 = k2 at *
  have HLAW := Lib.hid hlaw; clear hlaw
  have htk : segTot k2.down + segTot k2.core ≤ 10000 := by (have h9 : dbTot k2 = segTot k2.down + segTot k2.core := rfl); omega
  obtain ⟨Ak2_0, nk2_0, ck2_0, Ak2_1, nk2_1, ck2_1, rfl, sk2_0, sk2_1⟩ := id hk2
  obtain ⟨lk2_0, kk2_0, mk2_0⟩ := sk2_0.len
  subst lk2_0
  unfold maxLen at mk2_0
  obtain ⟨lk2_1, kk2_1, mk2_1⟩ := sk2_1.len
  subst lk2_1
  unfold maxLen at mk2_1
  have Rk2 := Lib.hid hk2; clear hk2
  have Sk2_0 := Lib.hid sk2_0; clear sk2_0
  have Sk2_1 := Lib.hid sk2_1; clear sk2_1
  go_wp2_with fail
  refine name_wp (fun W => Ext w3 W ∧ Blk W (w3.heap.size) 37 [.slice Ak2_0 k2.down.length ck2_0, .slice Ak2_1 k2.core.length ck2_1]) ⟨xe, xb⟩ ?_
  rintro wb3 ⟨f3, bk2⟩
  have Jk2 := Lib.hid bk2; clear bk2
  have h23 : Ext wb2 wb3 := Ext.trans e3 f3
  have g13 : Ext w1 wb3 := Ext.trans g12 h23
  have g23 : Ext w2 wb3 := Ext.trans f2 h23
  have eu4 : Ext u0 wb3 := Ext.trans eu3 h23
  have Jt1 := Lib.hid (Kt2.out.ext (w' := wb3) g23); have Jb1 := Lib.hid (Kb1.out.ext (w' := wb3) h23); clear Kt2 Kb1
  have St1 := Lib.hid (Rt1.out.ext g13); have Sb1 := Lib.hid (Rb1.out.ext g23); have Sk2 := Lib.hid (Rk2.out.ext f3); clear Rt1 Rb1 Rk2
  have Ta1 := Lib.hid (ASS.ext St1_0.out g13); clear St1_0
  go_loopw [8] (fun i wr => ∃ k : Nat, k ≤ t1.ases.length ∧ i = I k ∧ Ext wb3 wr) (fun i _ => t1.ases.length - (intOf i).toNat)
  case atStart => exact ⟨0, by omega, rfl, Ext.refl _⟩
  case round =>
    obtain ⟨k, hk, rfl, he⟩ := hrel
    have zr := he.size
    have eur : Ext u0 wr := Ext.trans eu4 he
    have Jt1r := Lib.hid (Jt1.out.ext (w' := wr) he)
    have St1r := Lib.hid (St1.out.ext (w' := wr) he)
    have bt1_ := Jt1r.out.ext (w' := wr) xe
    have lbt1_ := bt1_.lt
    obtain ⟨qbt1__0, qbt1__1⟩ := blk2 bt1_
    have fbt1__0 := bt1_.frozen 0
    have fbt1__1 := bt1_.frozen 1
    clear bt1_
    by_cases hlt : k < t1.ases.length
    · have Jk2r := Lib.hid (Jk2.out.ext (w' := wr) he)
      have Sk2r := Lib.hid (Sk2.out.ext (w' := wr) he)
      have bk2_ := Jk2r.out.ext (w' := wr) xe
      have lbk2_ := bk2_.lt
      obtain ⟨qbk2__0, qbk2__1⟩ := blk2 bk2_
      have fbk2__0 := bk2_.frozen 0
      have fbk2__1 := bk2_.frozen 1
      clear bk2_
      obtain ⟨b, off, hA, hb, hkl, hc⟩ := (ASS.ext Ta1.out he).at_ hlt
      have hlaw := HLAW.out k hlt
      rw [core_at hlt] at hlaw
      generalize t1.ases[k] = u at *
      subst hA
      obtain ⟨hu_0, hu_1, hu_2⟩ := hc
      have i0 : (0 : Int) ≤ (k : Int) := by omega
      have i1 : (k : Int) < (t1.ases.length : Int) := by omega
      generalize hcu : u.core = cu at *
      cases cu
      · by_cases hd : 0 < (downSegs k2 k).length
        · have hd2 := (hlaw rfl).1 hd
          have HD : Hid (1 ≤ (downSegs k2 k).length) := hd; have HD2 : Hid (1 ≤ (coresOf t1 k).length) := hd2
          clear hlaw hd hd2
          go_wp2_with fail
          have hd := HD.out; have hd2 := HD2.out
          refine wp_region_L (E := Ext) (w0 := wr) (G := fun τ => match τ with | 42 => some (fun v W => SegmentS W.heap.size W v (downSegs k2 k)) | 47 => some (fun v W => IntS W.heap.size W v (coresOf t1 k)) | _ => none) Ext.refl (fun h k => Ext.trans h k) (by kernel_rfl) (by kernel_rfl) xg (Ext.drew (by exact Ext.refl _)) ?_
          repeat' (first
            | ((with_reducible refine wpL_skip ?_ ?_ ?_)
               · rfl
               · rfl
               simp only [Act.put, List.setIfInBounds_toArray, List.set_cons_zero, List.set_cons_succ])
            | ((with_reducible refine wpL_quiet ?_ ?_ ?_ ?_)
               · rfl
               · rfl
               · rfl
               apply Exists.intro
               refine ⟨fun W hW hS => ?_, ?_⟩
               · have hC := (Ext.facts hW).1
                 go_simp
                 first | done | (with_reducible rfl) | (rw [if_neg (by omega)]; exact ⟨rfl, rfl⟩) | rfl
               first | (with_reducible refine wpL_boolT ?_) | (with_reducible refine wpL_boolF ?_) | (refine wpL_bool (fun _ => ?_) (fun hB => absurd hB (by simp only [decide_eq_false_iff_not]; omega))) | skip
               all_goals simp only [Act.put, List.setIfInBounds_toArray, List.set_cons_zero, List.set_cons_succ])
            | ((refine wpL_grow ?_ rfl rfl ?_ ?_)
               · rfl
               · intro W hW hS
                 have hC := (Ext.facts hW).1
                 unfold growAt
                 go_simp
                 simp only [growUpon]
                 first | (go_at_call 8; (with_reducible refine Calls.mono (impl_DownSegments _ (k : Int) k2 _ (by exact Sk2r.out.ext xe) (by omega)) ?_); rintro e w9 ⟨v9, rfl, o9, e9⟩; exact ⟨_, rfl, e9, SegmentSO_rd o9 (Nat.le_refl _)⟩) | (go_at_call 9; (with_reducible refine Calls.mono (impl_ReachableCores _ (k : Int) t1 _ (by exact St1r.out.ext xe) hnl) ?_); rintro e w9 ⟨v9, rfl, o9, e9⟩; exact ⟨_, rfl, e9, IntSO_rd o9⟩)
               intro v W' hW' hv
               first | (obtain ⟨A42, n42, c42, rfl, l42, -, m42, -⟩ := id hv) | (obtain ⟨A47, n47, c47, rfl, l47, -, m47, -⟩ := id hv) | (obtain ⟨A5, n5, c5, rfl, -⟩ := id hv; clear hv) | (obtain ⟨A5, n5, c5, rfl⟩ := NO.slice hv) | skip
               all_goals simp only [Act.put, List.setIfInBounds_toArray, List.set_cons_zero, List.set_cons_succ]))
          refine wpL_nil (fun w12 e12 hL => ?_)
          clear hL
          go_wp2_with fail
          go_roundw
          case rel => exact ⟨k + 1, by omega, by go_num, Ext.trans he e12⟩
          case measure => first | (simp [intOf]; done) | (simp [intOf]; omega)
        · have hd2 : ¬ 0 < (coresOf t1 k).length := fun h => hd ((hlaw rfl).2 h)
          have HD : Hid ((downSegs k2 k).length = 0) := by unfold Hid; omega
          have HD2 : Hid ((coresOf t1 k).length = 0) := by unfold Hid; omega
          clear hlaw hd hd2
          go_wp2_with fail
          have hd := HD.out; have hd2 := HD2.out
          refine wp_region_L (E := Ext) (w0 := wr) (G := fun τ => match τ with | 42 => some (fun v W => SegmentS W.heap.size W v (downSegs k2 k)) | 47 => some (fun v W => IntS W.heap.size W v (coresOf t1 k)) | _ => none) Ext.refl (fun h k => Ext.trans h k) (by kernel_rfl) (by kernel_rfl) xg (Ext.drew (by exact Ext.refl _)) ?_
          repeat' (first
            | ((with_reducible refine wpL_skip ?_ ?_ ?_)
               · rfl
               · rfl
               simp only [Act.put, List.setIfInBounds_toArray, List.set_cons_zero, List.set_cons_succ])
            | ((with_reducible refine wpL_quiet ?_ ?_ ?_ ?_)
               · rfl
               · rfl
               · rfl
               apply Exists.intro
               refine ⟨fun W hW hS => ?_, ?_⟩
               · have hC := (Ext.facts hW).1
                 go_simp
                 first | done | (with_reducible rfl) | (rw [if_neg (by omega)]; exact ⟨rfl, rfl⟩) | rfl
               first | (with_reducible refine wpL_boolT ?_) | (with_reducible refine wpL_boolF ?_) | (refine wpL_bool (fun hB => absurd hB (by simp only [decide_eq_true_eq]; omega)) (fun _ => ?_)) | skip
               all_goals simp only [Act.put, List.setIfInBounds_toArray, List.set_cons_zero, List.set_cons_succ])
            | ((refine wpL_grow ?_ rfl rfl ?_ ?_)
               · rfl
               · intro W hW hS
                 have hC := (Ext.facts hW).1
                 unfold growAt
                 go_simp
                 simp only [growUpon]
                 first | (go_at_call 8; (with_reducible refine Calls.mono (impl_DownSegments _ (k : Int) k2 _ (by exact Sk2r.out.ext xe) (by omega)) ?_); rintro e w9 ⟨v9, rfl, o9, e9⟩; exact ⟨_, rfl, e9, SegmentSO_rd o9 (Nat.le_refl _)⟩) | (go_at_call 9; (with_reducible refine Calls.mono (impl_ReachableCores _ (k : Int) t1 _ (by exact St1r.out.ext xe) hnl) ?_); rintro e w9 ⟨v9, rfl, o9, e9⟩; exact ⟨_, rfl, e9, IntSO_rd o9⟩)
               intro v W' hW' hv
               first | (obtain ⟨A42, n42, c42, rfl, l42, -, m42, -⟩ := id hv) | (obtain ⟨A47, n47, c47, rfl, l47, -, m47, -⟩ := id hv) | (obtain ⟨A5, n5, c5, rfl, -⟩ := id hv; clear hv) | (obtain ⟨A5, n5, c5, rfl⟩ := NO.slice hv) | skip
               all_goals simp only [Act.put, List.setIfInBounds_toArray, List.set_cons_zero, List.set_cons_succ]))
          refine wpL_nil (fun w12 e12 hL => ?_)
          clear hL
          go_wp2_with fail
          go_roundw
          case rel => exact ⟨k + 1, by omega, by go_num, Ext.trans he e12⟩
          case measure => first | (simp [intOf]; done) | (simp [intOf]; omega)
      · clear hlaw
        go_wp2_with fail
        refine wp_region_L (E := Ext) (w0 := wr) (G := fun τ => match τ with | 0 => none | _ => none) Ext.refl (fun h k => Ext.trans h k) (by kernel_rfl) (by kernel_rfl) xg (Ext.drew (by exact Ext.refl _)) ?_
        repeat' (first
          | ((with_reducible refine wpL_skip ?_ ?_ ?_)
             · rfl
             · rfl
             simp only [Act.put, List.setIfInBounds_toArray, List.set_cons_zero, List.set_cons_succ])
          | ((with_reducible refine wpL_quiet ?_ ?_ ?_ ?_)
             · rfl
             · rfl
             · rfl
             apply Exists.intro
             refine ⟨fun W hW hS => ?_, ?_⟩
             · have hC := (Ext.facts hW).1
               go_simp
               first | done | (with_reducible rfl) | (rw [if_neg (by omega)]; exact ⟨rfl, rfl⟩) | rfl
             first | (with_reducible refine wpL_boolT ?_) | (with_reducible refine wpL_boolF ?_) | (with_reducible refine wpL_bool (fun hB => ?_) (fun hB => ?_)) | skip
             all_goals simp only [Act.put, List.setIfInBounds_toArray, List.set_cons_zero, List.set_cons_succ]))
        refine wpL_nil (fun w12 e12 hL => ?_)
        clear hL
        go_wp2_with fail
        go_roundw
        case rel => exact ⟨k + 1, by omega, by go_num, Ext.trans he e12⟩
        case measure => first | (simp [intOf]; done) | (simp [intOf]; omega)
    · obtain rfl : k = t1.ases.length := by omega
      have i1 : ¬ (t1.ases.length : Int) < (t1.ases.length : Int) := by omega
      have Jb1r := Lib.hid (Jb1.out.ext (w' := wr) he)
      have Sb1r := Lib.hid (Sb1.out.ext (w' := wr) he)
      have bb1_ := Jb1r.out.ext (w' := wr) xe
      have lbb1_ := bb1_.lt
      obtain ⟨qbb1__0, qbb1__1⟩ := blk2 bb1_
      have fbb1__0 := bb1_.frozen 0
      have fbb1__1 := bb1_.frozen 1
      clear bb1_
      go_wp2_with fail
      refine wp_region_L (E := Ext) (w0 := wr) (G := fun τ => match τ with | 54 => some (fun v W => Fresh0 63 wr.heap.size v W) | 56 => some (fun v W => BeaconingV W.heap.size W v b1) | 57 => some (fun v W => IsV (.bool true) v) | _ => none) Ext.refl (fun h k => Ext.trans h k) (by kernel_rfl) (by kernel_rfl) xg (Ext.drew (by exact Ext.refl _)) ?_
      repeat' (first
        | ((with_reducible refine wpL_skip ?_ ?_ ?_)
           · rfl
           · rfl
           simp only [Act.put, List.setIfInBounds_toArray, List.set_cons_zero, List.set_cons_succ])
        | ((with_reducible refine wpL_quiet ?_ ?_ ?_ ?_)
           · rfl
           · rfl
           · rfl
           apply Exists.intro
           refine ⟨fun W hW hS => ?_, ?_⟩
           · have hC := (Ext.facts hW).1
             go_simp
             first | done | (with_reducible rfl) | (rw [if_neg (by omega)]; exact ⟨rfl, rfl⟩) | rfl
           first | (with_reducible refine wpL_boolT ?_) | (with_reducible refine wpL_boolF ?_) | (with_reducible refine wpL_bool (fun hB => ?_) (fun hB => ?_)) | skip
           all_goals simp only [Act.put, List.setIfInBounds_toArray, List.set_cons_zero, List.set_cons_succ])
        | ((refine wpL_grow ?_ rfl rfl ?_ ?_)
           · rfl
           · intro W hW hS
             have hC := (Ext.facts hW).1
             unfold growAt
             go_simp
             simp only [growUpon]
             first | (exact ⟨xe, Fresh0.new _ 63 _ _ rfl (Ext.size (by assumption))⟩) | (go_at_call 11; (with_reducible refine Calls.mono (spec_RunBeaconing _ _ ts1 t1 [] _ (by exact St1r.out.ext xe) (pol_nil _ _)) ?_); rintro e w9_ ⟨v9, rfl, o9, e9⟩; exact ⟨_, rfl, e9, by (rw [← HYE.out]; exact BeaconingO_rd o9 (Nat.le_refl _))⟩) | (have hb : BeaconingV W.heap.size W _ b1 := hS 56 (by decide); go_at_call 10; (with_reducible refine Calls.mono (laws_sameBeacons _ _ b1 _ (by exact Sb1r.out.ext xe) hb) ?_); rintro e w9_ ⟨rfl, e9⟩; exact ⟨_, rfl, e9, IsV.mk⟩)
           intro v W' hW' hv
           first | (obtain ⟨g5, rfl, -⟩ := hv) | ((with_reducible refine intro_at 56 _ ?_); skip) | ((with_reducible refine intro_at 57 _ ?_); cases hv) | (obtain ⟨A5, n5, c5, rfl, -⟩ := id hv; clear hv) | (obtain ⟨A5, n5, c5, rfl⟩ := NO.slice hv) | skip
           all_goals simp only [Act.put, List.setIfInBounds_toArray, List.set_cons_zero, List.set_cons_succ]))
      refine wpL_nil (fun w12 e12 hL => ?_)
      clear hL
      go_wp2_with fail
      go_ret
      exact ⟨rfl, xe⟩
end Go.Proofs.YtpkcoinoiaaebaaGreat

