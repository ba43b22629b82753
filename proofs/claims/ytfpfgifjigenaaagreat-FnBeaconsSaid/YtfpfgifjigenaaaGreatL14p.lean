/- Contracts of the program's and the reference's functions on beacons: Preferred. -/
import Derived.Deep.Cut
import Derived.Deep.CutRange
import Derived.Test.YtfpfgifjigenaaaGreatGL14b
namespace Go.Proofs.YtfpfgifjigenaaaGreat
open Go.RowKit
set_option linter.unusedVariables false
theorem pref1 {a b : DBeacon} (h : a.seg.hops.length ≠ b.seg.hops.length) : pref a b = decide (a.seg.hops.length < b.seg.hops.length) := by unfold pref; rw [if_pos h]
theorem pref2 {a b : DBeacon} (h : a.seg.hops.length = b.seg.hops.length) (h2 : a.seg.ts ≠ b.seg.ts) : pref a b = decide (b.seg.ts < a.seg.ts) := by unfold pref; rw [if_neg (fun q => q h), if_pos h2]
theorem pref3 {a b : DBeacon} (h : a.seg.hops.length = b.seg.hops.length) (h2 : a.seg.ts = b.seg.ts) (h3 : segId a.seg ≠ segId b.seg) : pref a b = decide (segId a.seg < segId b.seg) := by unfold pref; rw [if_neg (fun q => q h), if_neg (fun q => q h2), if_pos h3]
theorem pref4 {a b : DBeacon} (h : a.seg.hops.length = b.seg.hops.length) (h2 : a.seg.ts = b.seg.ts) (h3 : segId a.seg = segId b.seg) : pref a b = decide (a.ing < b.ing) := by unfold pref; rw [if_neg (fun q => q h), if_neg (fun q => q h2), if_neg (fun q => q h3)]
set_option maxRecDepth 100000 in
set_option maxHeartbeats 1000000 in
theorem spec_Preferred (va vb : Value) (a b : DBeacon) (w : World) (ha : BeaconV w.heap.size w va a) (hb : BeaconV w.heap.size w vb b) (hna : a.seg.hops.length ≤ 10000000) (hnb : b.seg.hops.length ≤ 10000000) :
 Calls Tryz.prog 106 #[va, vb] w fun e w' => e = .returned (.bool (pref a b)) ∧ Ext w w' := by
 obtain ⟨Aa_3, na_3, ca_3, rfl, sa_3⟩ := id ha;obtain ⟨la_3, ka_3, ma_3⟩ := sa_3.len;subst la_3;unfold maxLen at ma_3;have Ra := Lib.hid ha; clear ha;have Sa_3 := Lib.hid sa_3; clear sa_3;obtain ⟨Ab_3, nb_3, cb_3, rfl, sb_3⟩ := id hb;obtain ⟨lb_3, kb_3, mb_3⟩ := sb_3.len;subst lb_3;unfold maxLen at mb_3;have Rb := Lib.hid hb; clear hb;have Sb_3 := Lib.hid sb_3; clear sb_3;have P1 := Lib.hid (pref1 (a := a) (b := b)); have P2 := Lib.hid (pref2 (a := a) (b := b)); have P3 := Lib.hid (pref3 (a := a) (b := b)); have P4 := Lib.hid (pref4 (a := a) (b := b))
 go_enter Tryz.func106, Tryz.ntmps106
 go_wp2_with fail
 first | refine name_wp ?_ ?_ ?_ | refine name_calls ?_ ?_ ?_
 exact (fun W => Ext w W ∧ Blk W (w.heap.size) 53 [I a.ing, I a.seg.ts, I a.seg.beta, .slice Aa_3 a.seg.hops.length ca_3] ∧ Blk W (w.heap.size + 1) 53 [I b.ing, I b.seg.ts, I b.seg.beta, .slice Ab_3 b.seg.hops.length cb_3]);exact ⟨xe, xb, xb⟩;rintro w0 ⟨ew0, ba, bb⟩;have la := ba.lt;obtain ⟨pa_0, pa_1, pa_2, pa_3⟩ := blk4 ba;have Ba := Lib.hid ba; clear ba;have lb := bb.lt;obtain ⟨pb_0, pb_1, pb_2, pb_3⟩ := blk4 bb;have Bb := Lib.hid bb; clear bb;refine (spec_SegmentID _ a.seg _ (by exact segV (Sa_3.out.ext xe)) hna).mono ?_;rintro e w1 ⟨rfl, e1⟩;have ba := Ba.out.ext (w' := w1) xe;have la := ba.lt;obtain ⟨pa_0, pa_1, pa_2, pa_3⟩ := blk4 ba;clear ba;have bb := Bb.out.ext (w' := w1) xe;have lb := bb.lt;obtain ⟨pb_0, pb_1, pb_2, pb_3⟩ := blk4 bb;clear bb;go_wp2_with fail
 refine (spec_SegmentID _ b.seg _ (by exact segV (Sb_3.out.ext xe)) hnb).mono ?_;rintro e w2 ⟨rfl, e2⟩;have ba := Ba.out.ext (w' := w2) xe;have la := ba.lt;obtain ⟨pa_0, pa_1, pa_2, pa_3⟩ := blk4 ba;clear ba;have bb := Bb.out.ext (w' := w2) xe;have lb := bb.lt;obtain ⟨pb_0, pb_1, pb_2, pb_3⟩ := blk4 bb;clear bb
 generalize segId a.seg = ia at *
 generalize segId b.seg = ib at *
 by_cases q1 : a.seg.hops.length = b.seg.hops.length
 case neg =>
  have HG := Lib.hid (P1.out q1);have d1 : ((a.seg.hops.length : Int) != (b.seg.hops.length : Int)) = true := bne_iff_ne.2 (by omega);clear q1;go_wp2_with fail
  go_ret
  exact ⟨ret_bool HG.out.symm, xe⟩
 have P2' := Lib.hid (P2.out q1); have P3' := Lib.hid (P3.out q1); have P4' := Lib.hid (P4.out q1)
 have d1 : ((a.seg.hops.length : Int) != (b.seg.hops.length : Int)) = false := by rw [q1]; simp
 clear q1;by_cases q2 : a.seg.ts = b.seg.ts
 case neg =>
  have HG := Lib.hid (P2'.out q2);have d2 : (a.seg.ts != b.seg.ts) = true := bne_iff_ne.2 q2;clear q2;go_wp2_with fail
  go_ret
  exact ⟨ret_bool HG.out.symm, xe⟩
 have P3'' := Lib.hid (P3'.out q2); have P4'' := Lib.hid (P4'.out q2)
 have d2 : (a.seg.ts != b.seg.ts) = false := by rw [q2]; simp
 clear q2;by_cases q3 : ia = ib
 case neg =>
  have HG := Lib.hid (P3''.out q3);have d3 : (ia != ib) = true := bne_iff_ne.2 q3;clear q3;go_wp2_with fail
  go_ret
  exact ⟨ret_bool HG.out.symm, xe⟩
 have HG := Lib.hid (P4''.out q3)
 have d3 : (ia != ib) = false := by rw [q3]; simp
 clear q3;go_wp2_with fail
 go_ret
 exact ⟨ret_bool HG.out.symm, xe⟩
set_option maxRecDepth 100000 in
set_option maxHeartbeats 1000000 in
theorem impl_Preferred (va vb : Value) (a b : DBeacon) (w : World) (ha : BeaconV w.heap.size w va a) (hb : BeaconV w.heap.size w vb b) (hna : a.seg.hops.length ≤ 10000000) (hnb : b.seg.hops.length ≤ 10000000) :
 Calls Tryz.prog 102 #[va, vb] w fun e w' => e = .returned (.bool (pref a b)) ∧ Ext w w' := by
 obtain ⟨Aa_3, na_3, ca_3, rfl, sa_3⟩ := id ha;obtain ⟨la_3, ka_3, ma_3⟩ := sa_3.len;subst la_3;unfold maxLen at ma_3;have Ra := Lib.hid ha; clear ha;have Sa_3 := Lib.hid sa_3; clear sa_3;obtain ⟨Ab_3, nb_3, cb_3, rfl, sb_3⟩ := id hb;obtain ⟨lb_3, kb_3, mb_3⟩ := sb_3.len;subst lb_3;unfold maxLen at mb_3;have Rb := Lib.hid hb; clear hb;have Sb_3 := Lib.hid sb_3; clear sb_3;have P1 := Lib.hid (pref1 (a := a) (b := b)); have P2 := Lib.hid (pref2 (a := a) (b := b)); have P3 := Lib.hid (pref3 (a := a) (b := b)); have P4 := Lib.hid (pref4 (a := a) (b := b))
 go_enter Tryz.func102, Tryz.ntmps102
 go_upto_region 1 with (fail)
 first | refine name_wp ?_ ?_ ?_ | refine name_calls ?_ ?_ ?_
 exact (fun W => Ext w W ∧ Blk W (w.heap.size) 53 [I a.ing, I a.seg.ts, I a.seg.beta, .slice Aa_3 a.seg.hops.length ca_3] ∧ Blk W (w.heap.size + 1) 53 [I b.ing, I b.seg.ts, I b.seg.beta, .slice Ab_3 b.seg.hops.length cb_3]);exact ⟨xe, xb, xb⟩;rintro w0 ⟨ew0, ba, bb⟩;have la := ba.lt;obtain ⟨pa_0, pa_1, pa_2, pa_3⟩ := blk4 ba;have Ba := Lib.hid ba; clear ba;have lb := bb.lt;obtain ⟨pb_0, pb_1, pb_2, pb_3⟩ := blk4 bb;have Bb := Lib.hid bb; clear bb
 go_cut [5, 6] from 7 to 10 (fun p q wx => ∃ g h, p = .pointer (some ⟨g, 0, none⟩) ∧ q = .pointer (some ⟨h, 0, none⟩) ∧ Blk wx g 51 [I a.seg.ts, I a.seg.beta, .slice Aa_3 a.seg.hops.length ca_3] ∧ Blk wx h 51 [I b.seg.ts, I b.seg.beta, .slice Ab_3 b.seg.hops.length cb_3] ∧ Ext w0 wx)
 case first =>
  go_region
  all_goals
   go_wp2_with fail
   go_meet
   exact ⟨_, _, rfl, rfl, xb, xb, xe⟩
 case rest =>
  obtain ⟨g, h, rfl, rfl, bx, by_, e3⟩ := hcut;have lx := bx.lt; have ly := by_.lt;obtain ⟨u0, u1, u2⟩ := blk3 bx;obtain ⟨v0, v1, v2⟩ := blk3 by_;clear bx by_;have ba := Ba.out.ext (w' := wc) xe;have la := ba.lt;obtain ⟨pa_0, pa_1, pa_2, pa_3⟩ := blk4 ba;clear ba;have bb := Bb.out.ext (w' := wc) xe;have lb := bb.lt;obtain ⟨pb_0, pb_1, pb_2, pb_3⟩ := blk4 bb;clear bb;by_cases q1 : a.seg.hops.length = b.seg.hops.length
  case neg =>
   have HG := Lib.hid (P1.out q1);have d1 : ((a.seg.hops.length : Int) != (b.seg.hops.length : Int)) = true := bne_iff_ne.2 (by omega);clear q1;go_wp2_with fail
   go_ret
   exact ⟨ret_bool HG.out.symm, xe⟩
  have P2' := Lib.hid (P2.out q1); have P3' := Lib.hid (P3.out q1); have P4' := Lib.hid (P4.out q1)
  have d1 : ((a.seg.hops.length : Int) != (b.seg.hops.length : Int)) = false := by rw [q1]; simp
  clear q1;by_cases q2 : a.seg.ts = b.seg.ts
  case neg =>
   have HG := Lib.hid (P2'.out q2);have d2 : (a.seg.ts != b.seg.ts) = true := bne_iff_ne.2 q2;clear q2;go_wp2_with fail
   go_ret
   exact ⟨ret_bool HG.out.symm, xe⟩
  have P3'' := Lib.hid (P3'.out q2); have P4'' := Lib.hid (P4'.out q2)
  have d2 : (a.seg.ts != b.seg.ts) = false := by rw [q2]; simp
  clear q2
  generalize hia : segId a.seg = ia at *
  generalize hib : segId b.seg = ib at *
  have HIA := Lib.hid hia; have HIB := Lib.hid hib; clear hia hib;by_cases q3 : ia = ib
  case neg =>
   have HG := Lib.hid (P3''.out q3);have d3 : (ia != ib) = true := bne_iff_ne.2 q3;clear q3;go_wp2_with fail
   refine wp_region_L (E := Ext) (w0 := wc) (G := fun τ => match τ with | 39 => some (fun v W => v = I ia) | 41 => some (fun v W => v = I ib) | _ => none) Ext.refl (fun h k => Ext.trans h k) (by kernel_rfl) (by kernel_rfl) xg (Ext.drew (by exact Ext.refl _)) ?_
   repeat' (first
    | ((with_reducible refine wpL_skip ?_ ?_ ?_)
       · rfl
       · rfl
       simp only [Act.put, List.setIfInBounds_toArray, List.set_cons_zero, List.set_cons_succ])
    | ((with_reducible refine wpL_quiet ?_ ?_ ?_ ?_)
       · rfl
       · rfl
       · rfl
       apply Exists.intro
       refine ⟨fun W hW hS => ?_, ?_⟩
       · have hC := (Ext.facts hW).1
         go_simp
         first | done | (with_reducible rfl) | (rw [if_neg (by omega)]; exact ⟨rfl, rfl⟩) | rfl
       first | (with_reducible refine wpL_boolT ?_) | (with_reducible refine wpL_boolF ?_) | (with_reducible refine wpL_bool (fun hB => ?_) (fun hB => ?_)) | skip
       all_goals simp only [Act.put, List.setIfInBounds_toArray, List.set_cons_zero, List.set_cons_succ])
    | ((refine wpL_call ?_ rfl rfl ?_ ?_ ?_)
       · rfl
       · rfl
       · intro W hW hS
         have hC := (Ext.facts hW).1;unfold growAt
         go_simp
         simp only [growUpon]
         first | (go_at_call 131; (with_reducible refine Calls.mono (impl_SegmentID _ a.seg _ (by exact segV (Sa_3.out.ext xe)) hna) ?_); rintro e w9 ⟨rfl, e9⟩; exact ⟨_, rfl, e9, by rw [HIA.out]⟩) | (go_at_call 131; (with_reducible refine Calls.mono (impl_SegmentID _ b.seg _ (by exact segV (Sb_3.out.ext xe)) hnb) ?_); rintro e w9 ⟨rfl, e9⟩; exact ⟨_, rfl, e9, by rw [HIB.out]⟩)
       first | (with_reducible refine wpL_boolT ?_) | (with_reducible refine wpL_boolF ?_) | (with_reducible refine wpL_bool (fun hB => ?_) (fun hB => ?_)) | skip
       all_goals simp only [Act.put, List.setIfInBounds_toArray, List.set_cons_zero, List.set_cons_succ])
    | ((refine wpL_grow ?_ rfl rfl ?_ ?_)
       · rfl
       · intro W hW hS
         have hC := (Ext.facts hW).1;unfold growAt
         go_simp
         simp only [growUpon]
         first | (go_at_call 131; (with_reducible refine Calls.mono (impl_SegmentID _ a.seg _ (by exact segV (Sa_3.out.ext xe)) hna) ?_); rintro e w9 ⟨rfl, e9⟩; exact ⟨_, rfl, e9, by rw [HIA.out]⟩) | (go_at_call 131; (with_reducible refine Calls.mono (impl_SegmentID _ b.seg _ (by exact segV (Sb_3.out.ext xe)) hnb) ?_); rintro e w9 ⟨rfl, e9⟩; exact ⟨_, rfl, e9, by rw [HIB.out]⟩)
       intro v W' hW' hv
       first | (subst hv) | (subst hv) | (obtain ⟨A5, n5, c5, rfl, -⟩ := id hv; clear hv) | (obtain ⟨A5, n5, c5, rfl⟩ := NO.slice hv) | skip
       all_goals simp only [Act.put, List.setIfInBounds_toArray, List.set_cons_zero, List.set_cons_succ]))
   all_goals
    refine wpL_nil (fun w4 e4 hL => ?_);clear hL;have x0 : w4.cell? ⟨g, 0, none⟩ = _ := (e4.cell lx).trans u0;have x1 : w4.cell? ⟨g, 1, none⟩ = _ := (e4.cell lx).trans u1;have x2 : w4.cell? ⟨g, 2, none⟩ = _ := (e4.cell lx).trans u2;have x3 : w4.cell? ⟨h, 0, none⟩ = _ := (e4.cell ly).trans v0;have x4 : w4.cell? ⟨h, 1, none⟩ = _ := (e4.cell ly).trans v1;have x5 : w4.cell? ⟨h, 2, none⟩ = _ := (e4.cell ly).trans v2;have lx4 : g < w4.heap.size := Nat.lt_of_lt_of_le lx e4.size;have ly4 : h < w4.heap.size := Nat.lt_of_lt_of_le ly e4.size;go_wp2_with fail
    refine wp_region_L (E := Ext) (w0 := w4) (G := fun τ => match τ with | 44 => some (fun v W => v = I ia) | 46 => some (fun v W => v = I ib) | _ => none) Ext.refl (fun h k => Ext.trans h k) (by kernel_rfl) (by kernel_rfl) xg (Ext.drew (by exact Ext.refl _)) ?_
    repeat' (first
     | ((with_reducible refine wpL_skip ?_ ?_ ?_)
        · rfl
        · rfl
        simp only [Act.put, List.setIfInBounds_toArray, List.set_cons_zero, List.set_cons_succ])
     | ((with_reducible refine wpL_quiet ?_ ?_ ?_ ?_)
        · rfl
        · rfl
        · rfl
        apply Exists.intro
        refine ⟨fun W hW hS => ?_, ?_⟩
        · have hC := (Ext.facts hW).1
          go_simp
          first | done | (with_reducible rfl) | (rw [if_neg (by omega)]; exact ⟨rfl, rfl⟩) | rfl
        first | (with_reducible refine wpL_boolT ?_) | (with_reducible refine wpL_boolF ?_) | (with_reducible refine wpL_bool (fun hB => ?_) (fun hB => ?_)) | skip
        all_goals simp only [Act.put, List.setIfInBounds_toArray, List.set_cons_zero, List.set_cons_succ])
     | ((refine wpL_call ?_ rfl rfl ?_ ?_ ?_)
        · rfl
        · rfl
        · intro W hW hS
          have hC := (Ext.facts hW).1;unfold growAt
          go_simp
          simp only [growUpon]
          first | (go_at_call 131; (with_reducible refine Calls.mono (impl_SegmentID _ a.seg _ (by exact segV (Sa_3.out.ext xe)) hna) ?_); rintro e w9 ⟨rfl, e9⟩; exact ⟨_, rfl, e9, by rw [HIA.out]⟩) | (go_at_call 131; (with_reducible refine Calls.mono (impl_SegmentID _ b.seg _ (by exact segV (Sb_3.out.ext xe)) hnb) ?_); rintro e w9 ⟨rfl, e9⟩; exact ⟨_, rfl, e9, by rw [HIB.out]⟩)
        first | (with_reducible refine wpL_boolT ?_) | (with_reducible refine wpL_boolF ?_) | (with_reducible refine wpL_bool (fun hB => ?_) (fun hB => ?_)) | skip
        all_goals simp only [Act.put, List.setIfInBounds_toArray, List.set_cons_zero, List.set_cons_succ])
     | ((refine wpL_grow ?_ rfl rfl ?_ ?_)
        · rfl
        · intro W hW hS
          have hC := (Ext.facts hW).1;unfold growAt
          go_simp
          simp only [growUpon]
          first | (go_at_call 131; (with_reducible refine Calls.mono (impl_SegmentID _ a.seg _ (by exact segV (Sa_3.out.ext xe)) hna) ?_); rintro e w9 ⟨rfl, e9⟩; exact ⟨_, rfl, e9, by rw [HIA.out]⟩) | (go_at_call 131; (with_reducible refine Calls.mono (impl_SegmentID _ b.seg _ (by exact segV (Sb_3.out.ext xe)) hnb) ?_); rintro e w9 ⟨rfl, e9⟩; exact ⟨_, rfl, e9, by rw [HIB.out]⟩)
        intro v W' hW' hv
        first | (subst hv) | (subst hv) | (obtain ⟨A5, n5, c5, rfl, -⟩ := id hv; clear hv) | (obtain ⟨A5, n5, c5, rfl⟩ := NO.slice hv) | skip
        all_goals simp only [Act.put, List.setIfInBounds_toArray, List.set_cons_zero, List.set_cons_succ]))
    all_goals
     refine wpL_nil (fun w6 e6 hL => ?_);clear hL;go_wp2_with fail
     go_ret
     exact ⟨ret_bool (by rw [HG.out]; first | rfl | exact (by assumption : decide (ia < ib) = _).symm | exact (by assumption : decide (ia < ib) = _)), xe⟩
  have HG := Lib.hid (P4''.out q3)
  have d3 : (ia != ib) = false := by rw [q3]; simp
  clear q3;go_wp2_with fail
  refine wp_region_L (E := Ext) (w0 := wc) (G := fun τ => match τ with | 39 => some (fun v W => v = I ia) | 41 => some (fun v W => v = I ib) | _ => none) Ext.refl (fun h k => Ext.trans h k) (by kernel_rfl) (by kernel_rfl) xg (Ext.drew (by exact Ext.refl _)) ?_
  repeat' (first
   | ((with_reducible refine wpL_skip ?_ ?_ ?_)
      · rfl
      · rfl
      simp only [Act.put, List.setIfInBounds_toArray, List.set_cons_zero, List.set_cons_succ])
   | ((with_reducible refine wpL_quiet ?_ ?_ ?_ ?_)
      · rfl
      · rfl
      · rfl
      apply Exists.intro
      refine ⟨fun W hW hS => ?_, ?_⟩
      · have hC := (Ext.facts hW).1
        go_simp
        first | done | (with_reducible rfl) | (rw [if_neg (by omega)]; exact ⟨rfl, rfl⟩) | rfl
      first | (with_reducible refine wpL_boolT ?_) | (with_reducible refine wpL_boolF ?_) | (with_reducible refine wpL_bool (fun hB => ?_) (fun hB => ?_)) | skip
      all_goals simp only [Act.put, List.setIfInBounds_toArray, List.set_cons_zero, List.set_cons_succ])
   | ((refine wpL_call ?_ rfl rfl ?_ ?_ ?_)
      · rfl
      · rfl
      · intro W hW hS
        have hC := (Ext.facts hW).1;unfold growAt
        go_simp
        simp only [growUpon]
        first | (go_at_call 131; (with_reducible refine Calls.mono (impl_SegmentID _ a.seg _ (by exact segV (Sa_3.out.ext xe)) hna) ?_); rintro e w9 ⟨rfl, e9⟩; exact ⟨_, rfl, e9, by rw [HIA.out]⟩) | (go_at_call 131; (with_reducible refine Calls.mono (impl_SegmentID _ b.seg _ (by exact segV (Sb_3.out.ext xe)) hnb) ?_); rintro e w9 ⟨rfl, e9⟩; exact ⟨_, rfl, e9, by rw [HIB.out]⟩)
      first | (with_reducible refine wpL_boolT ?_) | (with_reducible refine wpL_boolF ?_) | (with_reducible refine wpL_bool (fun hB => ?_) (fun hB => ?_)) | skip
      all_goals simp only [Act.put, List.setIfInBounds_toArray, List.set_cons_zero, List.set_cons_succ])
   | ((refine wpL_grow ?_ rfl rfl ?_ ?_)
      · rfl
      · intro W hW hS
        have hC := (Ext.facts hW).1;unfold growAt
        go_simp
        simp only [growUpon]
        first | (go_at_call 131; (with_reducible refine Calls.mono (impl_SegmentID _ a.seg _ (by exact segV (Sa_3.out.ext xe)) hna) ?_); rintro e w9 ⟨rfl, e9⟩; exact ⟨_, rfl, e9, by rw [HIA.out]⟩) | (go_at_call 131; (with_reducible refine Calls.mono (impl_SegmentID _ b.seg _ (by exact segV (Sb_3.out.ext xe)) hnb) ?_); rintro e w9 ⟨rfl, e9⟩; exact ⟨_, rfl, e9, by rw [HIB.out]⟩)
      intro v W' hW' hv
      first | (subst hv) | (subst hv) | (obtain ⟨A5, n5, c5, rfl, -⟩ := id hv; clear hv) | (obtain ⟨A5, n5, c5, rfl⟩ := NO.slice hv) | skip
      all_goals simp only [Act.put, List.setIfInBounds_toArray, List.set_cons_zero, List.set_cons_succ]))
  all_goals
   refine wpL_nil (fun w4 e4 hL => ?_);clear hL;have ba := Ba.out.ext (w' := w4) xe;have la := ba.lt;obtain ⟨pa_0, pa_1, pa_2, pa_3⟩ := blk4 ba;clear ba;have bb := Bb.out.ext (w' := w4) xe;have lb := bb.lt;obtain ⟨pb_0, pb_1, pb_2, pb_3⟩ := blk4 bb;clear bb;go_wp2_with fail
   go_ret
   exact ⟨ret_bool HG.out.symm, xe⟩
end Go.Proofs.YtfpfgifjigenaaaGreat
