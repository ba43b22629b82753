/- Contracts of the program's and the reference's functions on signed segments: SignedSegmentValid, FilterSigned. Printed by scripts/g20f.py. -/
import Derived.Test.YtddaodemdkjijaaGreatL20e
import Derived.Test.YtddaodemdkjijaaGreatGL13
import Derived.Test.YtddaodemdkjijaaGreatGHS
import Derived.Test.YtddaodemdkjijaaGreatHSignedSegment
namespace Go.Proofs.YtddaodemdkjijaaGreat
open Go.RowKit
set_option linter.unusedVariables false
theorem ases_get (l : List DHop) (k : Nat) (h : k < (ases l).length) (h2 : k < l.length) : (ases l)[k] = l[k].asn := by simp [ases]
theorem headNo {t : DTopology} {l : List DTrustRoot} {m : List DCertificate} {x : DSignedSegment} {now : Int} (h : signedHead t l x now = false) : signedValid t l m x now = false := by unfold signedValid; rw [h]; rfl
theorem headYes {t : DTopology} {l : List DTrustRoot} {m : List DCertificate} {x : DSignedSegment} {now : Int} (h : signedHead t l x now = true) : signedValid t l m x now = (ases x.seg.hops).all (certOk t l m now) := by unfold signedValid; rw [h]; rfl
set_option maxRecDepth 100000 in
set_option maxHeartbeats 1000000 in
theorem impl_SignedSegmentValid (vt vl vm vx : Value) (now : Int) (t : DTopology) (l : List DTrustRoot) (m : List DCertificate) (x : DSignedSegment) (w : World) (ht : TopologyV w.heap.size w vt t) (hl : TrustRootS w.heap.size w vl l) (hm : CertificateS w.heap.size w vm m) (hx : SignedSegmentV w.heap.size w vx x) (hn : x.seg.hops.length ≤ 1048576) :
    Calls Tryz.prog 10 #[vt, vl, vm, vx, I now] w fun e w' => e = .returned (.bool (signedValid t l m x now)) ∧ Ext w w' := by
  obtain ⟨At_0, nt_0, ct_0, At_1, nt_1, ct_1, rfl, st_0, st_1⟩ := id ht
  obtain ⟨lt_0, kt_0, mt_0⟩ := st_0.len
  subst lt_0
  unfold maxLen at mt_0
  obtain ⟨lt_1, kt_1, mt_1⟩ := st_1.len
  subst lt_1
  unfold maxLen at mt_1
  have Rt := Lib.hid ht; clear ht
  have St_0 := Lib.hid st_0; clear st_0
  have St_1 := Lib.hid st_1; clear st_1
  obtain ⟨Al, nl, cl, rfl, ll, kl, ml, -⟩ := id hl
  subst ll
  unfold maxLen at ml
  have Rl := Lib.hid hl; clear hl
  obtain ⟨Am, nm, cm, rfl, lm, km, mm, -⟩ := id hm
  subst lm
  unfold maxLen at mm
  have Rm := Lib.hid hm; clear hm
  obtain ⟨Ax_2, nx_2, cx_2, Ax_3, nx_3, cx_3, rfl, sx_2, sx_3⟩ := id hx
  obtain ⟨lx_2, kx_2, mx_2⟩ := sx_2.len
  subst lx_2
  unfold maxLen at mx_2
  obtain ⟨lx_3, kx_3, mx_3⟩ := sx_3.len
  subst lx_3
  unfold maxLen at mx_3
  have Rx := Lib.hid hx; clear hx
  have Sx_2 := Lib.hid sx_2; clear sx_2
  have Sx_3 := Lib.hid sx_3; clear sx_3
  go_enter Tryz.func10, Tryz.ntmps10
  go_wp2_with fail
  first | refine name_wp ?_ ?_ ?_ | refine name_calls ?_ ?_ ?_
  exact (fun W => Ext w W ∧ Blk W (w.heap.size) 27 [.slice At_0 t.ases.length ct_0, .slice At_1 t.links.length ct_1] ∧ Blk W (w.heap.size + 1) 40 [I x.seg.ts, I x.seg.beta, .slice Ax_2 x.seg.hops.length cx_2, .slice Ax_3 x.sigs.length cx_3])
  exact ⟨xe, xb, xb⟩
  rintro w0 ⟨ew0, bt, bx⟩
  have lt := bt.lt
  obtain ⟨pt_0, pt_1⟩ := blk2 bt
  have Bt := Lib.hid bt; clear bt
  have lx := bx.lt
  obtain ⟨px_0, px_1, px_2, px_3⟩ := blk4 bx
  have Bx := Lib.hid bx; clear bx
  refine (impl_SegmentUsable _ _ now t x.seg _ (by exact Rt.out.ext xe) (by exact segV (Sx_2.out.ext xe)) (by omega)).mono ?_
  rintro e w1 ⟨rfl, e1⟩
  have bt := Bt.out.ext (w' := w1) xe
  have lt := bt.lt
  obtain ⟨pt_0, pt_1⟩ := blk2 bt
  clear bt
  have bx := Bx.out.ext (w' := w1) xe
  have lx := bx.lt
  obtain ⟨px_0, px_1, px_2, px_3⟩ := blk4 bx
  clear bx
  cases h1 : segUsable t x.seg now
  · have HF : Hid (signedValid t l m x now = false) := headNo (by unfold signedHead; rw [h1]; rfl)
    go_wp2_with fail
    go_ret
    exact ⟨ret_bool HF.out.symm, xe⟩
  have HU := Lib.hid h1; clear h1
  by_cases h2 : x.sigs.length = x.seg.hops.length
  case neg =>
    have HF : Hid (signedValid t l m x now = false) := headNo (by unfold signedHead; rw [HU.out, decide_eq_false h2]; rfl)
    have d2 : ((x.sigs.length : Int) != (x.seg.hops.length : Int)) = true := bne_iff_ne.2 (by omega)
    clear h2
    go_wp2_with fail
    go_ret
    exact ⟨ret_bool HF.out.symm, xe⟩
  have H2 := Lib.hid h2
  have d2 : ((x.sigs.length : Int) != (x.seg.hops.length : Int)) = false := by rw [h2]; simp
  clear h2
  go_wp2_with fail
  clear d2
  refine (impl_FirstBadSignature _ _ t x _ (by exact Rt.out.ext xe) (by exact Rx.out.ext xe) hn).mono ?_
  rintro e w2 ⟨rfl, e2⟩
  have bt := Bt.out.ext (w' := w2) xe
  have lt := bt.lt
  obtain ⟨pt_0, pt_1⟩ := blk2 bt
  clear bt
  have bx := Bx.out.ext (w' := w2) xe
  have lx := bx.lt
  obtain ⟨px_0, px_1, px_2, px_3⟩ := blk4 bx
  clear bx
  by_cases h3 : firstBad t x < 0
  case neg =>
    have HF : Hid (signedValid t l m x now = false) := headNo (by unfold signedHead; rw [HU.out, decide_eq_true H2.out, decide_eq_false h3]; rfl)
    have h3 : 0 ≤ firstBad t x := by omega
    generalize firstBad t x = fb at *
    go_wp2_with fail
    go_ret
    exact ⟨ret_bool HF.out.symm, xe⟩
  have H3 : Hid (decide (firstBad t x < 0) = true) := decide_eq_true h3
  generalize hfb : firstBad t x = fb at *
  have HFB := Lib.hid hfb; clear hfb
  go_wp2_with fail
  refine (impl_ValidRootChain _ _ (t) (l) _ (by exact Rt.out.ext xe) (by exact Rl.out.ext xe)).mono ?_
  rintro e w3 ⟨rfl, ew3⟩
  have bt := Bt.out.ext (w' := w3) xe
  have lt := bt.lt
  obtain ⟨pt_0, pt_1⟩ := blk2 bt
  clear bt
  have bx := Bx.out.ext (w' := w3) xe
  have lx := bx.lt
  obtain ⟨px_0, px_1, px_2, px_3⟩ := blk4 bx
  clear bx
  cases h4 : validChain t l
  · have HF : Hid (signedValid t l m x now = false) := headNo (by unfold signedHead; rw [HU.out, decide_eq_true H2.out, HFB.out, H3.out, h4]; rfl)
    go_wp2_with fail
    go_ret
    exact ⟨ret_bool HF.out.symm, xe⟩
  have HV : Hid (signedValid t l m x now = (ases x.seg.hops).all (certOk t l m now)) := headYes (by unfold signedHead; rw [HU.out, decide_eq_true H2.out, HFB.out, H3.out, h4]; rfl)
  have hl0 : 0 < l.length := by
    unfold validChain at h4
    rw [Bool.and_eq_true, decide_eq_true_eq] at h4
    exact h4.1
  clear h4
  have HOP : Hid (∀ k (h : k < x.seg.hops.length), inR x.seg.hops[k].asn 0 7 = true ∧ isAs t x.seg.hops[k].asn = true) := fun k h => usable_hop HU.out h
  have hal : (ases x.seg.hops).length = x.seg.hops.length := by unfold ases; rw [List.length_map]
  go_wp2_with fail
  refine (impl_CertifiedASes _ _ _ now t l m _ (by exact Rt.out.ext xe) (by exact Rl.out.ext xe) (by exact Rm.out.ext xe)).mono ?_
  rintro e w4 ⟨rfl, e4⟩
  have hch := fun r (hr : inR r 0 7 = true) => certASes_has t l m now hr
  generalize hcs : certASes t l m now = cs at *
  have HCH := Lib.hid hch; clear hch hcs
  have bt := Bt.out.ext (w' := w4) xe
  have lt := bt.lt
  obtain ⟨pt_0, pt_1⟩ := blk2 bt
  clear bt
  have bx := Bx.out.ext (w' := w4) xe
  have lx := bx.lt
  obtain ⟨px_0, px_1, px_2, px_3⟩ := blk4 bx
  clear bx
  go_wp2_with fail
  refine (impl_SegmentASes _ x.seg _ (by exact segV (Sx_2.out.ext xe)) (by omega)).mono ?_
  rintro e w5 ⟨v5, rfl, o5, e5⟩
  have hsl := IntSO_rd o5
  clear o5
  obtain ⟨A5, n5, c5, rfl, ln5, -, -, -⟩ := id hsl
  subst ln5
  have SL := Lib.hid hsl; clear hsl
  go_wp2_with fail
  go_loopw [51] (fun i wr => ∃ k : Nat, k ≤ (ases x.seg.hops).length ∧ i = I k ∧ ((ases x.seg.hops).take k).all (certOk t l m now) = true ∧ Ext w5 wr) (fun i _ => (ases x.seg.hops).length - (intOf i).toNat)
  case atStart => exact ⟨0, by omega, rfl, rfl, xe⟩
  case round =>
    obtain ⟨k, hk, rfl, hq, he⟩ := hrel
    have HQ := Lib.hid hq; clear hq
    have bt := Bt.out.ext (w' := wr) xe
    have lt := bt.lt
    obtain ⟨pt_0, pt_1⟩ := blk2 bt
    clear bt
    have bx := Bx.out.ext (w' := wr) xe
    have lx := bx.lt
    obtain ⟨px_0, px_1, px_2, px_3⟩ := blk4 bx
    clear bx
    by_cases hlt : k < (ases x.seg.hops).length
    · obtain ⟨b, off, rfl, hb, hkl, hc⟩ := (SL.out.ext (w' := wr) xe).at_ hlt
      have HX := Lib.hid (al_snoc (certOk t l m now) (ases x.seg.hops) k hkl)
      have HN := Lib.hid (al_no (certOk t l m now) (ases x.seg.hops) k hkl)
      obtain ⟨hr7, hra⟩ := HOP.out k (by omega)
      have her := ases_get x.seg.hops k hkl (by omega)
      rw [← her] at hr7 hra
      have hc : wr.cell? ⟨b, off + k, none⟩ = some (I (ases x.seg.hops)[k]) := hc
      clear her
      generalize (ases x.seg.hops)[k] = r at *
      obtain ⟨j, hrj, hja⟩ := isAs_nat hra
      subst hrj
      obtain ⟨b2, off2, hA2, hb2, hkl3, hc2⟩ := (St_0.out.ext (w' := wr) xe).at_ hja
      subst hA2
      have HY : Hid (asAt t (j : Int) = t.ases[j]) := asAt_nat t j hja
      generalize t.ases[j] = y at *
      obtain ⟨y0, y1, y2⟩ := hc2
      obtain ⟨b3, off3, hA3, hb3, hkl4, hc3⟩ := (Rl.out.ext (w' := wr) xe).at_ hl0
      subst hA3
      have HZ : Hid (l.getD 0 dRoot = l[0]) := getD_is hl0
      generalize l[0] = z at *
      simp only [Nat.zero_mul, Nat.add_zero] at hc3
      obtain ⟨Az, nz, cz, z0, -⟩ := hc3
      have i0 : (0 : Int) ≤ (j : Int) := by omega
      have i1 : (j : Int) < (t.ases.length : Int) := by omega
      have i2 : (0 : Int) < (l.length : Int) := by omega
      have HK : Hid (certOk t l m now j = !(y.isd == z.isd && decide (findCert t l m j now < 0))) := by unfold Hid certOk; rw [HY.out, HZ.out]
      have HC := Lib.hid (HCH.out j hr7)
      cases hcb : contains cs j
      · have hf : findCert t l m j now < 0 := by have h := HC.out; rw [hcb] at h; exact Int.not_le.1 (of_decide_eq_false h.symm)
        have HK2 : Hid (certOk t l m now j = !(y.isd == z.isd)) := by unfold Hid; rw [HK.out, decide_eq_true hf, Bool.and_true]
        clear hf
        have HCB := Lib.hid hcb; clear hcb
        by_cases hy : y.isd = z.isd
        · have dy : (y.isd == z.isd) = true := beq_iff_eq.2 hy
          have HF : Hid (signedValid t l m x now = false) := by unfold Hid; rw [HV.out]; exact HN.out (by rw [HK2.out, dy]; rfl)
          clear hy
          go_wp2_with fail
          refine wp_region_L (E := Ext) (w0 := wr) (G := fun τ => match τ with | 69 => some (fun v W => v = .bool false) | _ => none) Ext.refl (fun h k => Ext.trans h k) (by kernel_rfl) (by kernel_rfl) xg (Ext.drew (by exact Ext.refl _)) ?_
          repeat' (first
            | ((with_reducible refine wpL_skip ?_ ?_ ?_)
               · rfl
               · rfl
               simp only [Act.put, List.setIfInBounds_toArray, List.set_cons_zero, List.set_cons_succ])
            | ((with_reducible refine wpL_quiet ?_ ?_ ?_ ?_)
               · rfl
               · rfl
               · rfl
               apply Exists.intro
               refine ⟨fun W hW hS => ?_, ?_⟩
               · have hC := (Ext.facts hW).1
                 go_simp
                 first | done | (with_reducible rfl) | (rw [if_neg (by omega)]; exact ⟨rfl, rfl⟩) | rfl
               first | (with_reducible refine wpL_boolT ?_) | (with_reducible refine wpL_boolF ?_) | (with_reducible refine wpL_bool (fun hB => ?_) (fun hB => ?_)) | skip
               all_goals simp only [Act.put, List.setIfInBounds_toArray, List.set_cons_zero, List.set_cons_succ])
            | ((refine wpL_call ?_ rfl rfl ?_ ?_ ?_)
               · rfl
               · rfl
               · intro W hW hS
                 have hC := (Ext.facts hW).1
                 unfold growAt
                 go_simp
                 simp only [growUpon]
                 first | (go_at_call 26; (with_reducible refine Calls.mono (impl_Contains _ _ _) ?_); rintro e w9 ⟨rfl, rfl⟩; exact ⟨_, rfl, Ext.refl _, by rw [HCB.out]⟩)
               first | (with_reducible refine wpL_boolT ?_) | (with_reducible refine wpL_boolF ?_) | (with_reducible refine wpL_bool (fun hB => ?_) (fun hB => ?_)) | skip
               all_goals simp only [Act.put, List.setIfInBounds_toArray, List.set_cons_zero, List.set_cons_succ])
            | ((refine wpL_grow ?_ rfl rfl ?_ ?_)
               · rfl
               · intro W hW hS
                 have hC := (Ext.facts hW).1
                 unfold growAt
                 go_simp
                 simp only [growUpon]
                 first | (go_at_call 26; (with_reducible refine Calls.mono (impl_Contains _ _ _) ?_); rintro e w9 ⟨rfl, rfl⟩; exact ⟨_, rfl, Ext.refl _, by rw [HCB.out]⟩)
               intro v W' hW' hv
               first | (subst hv) | (obtain ⟨A5, n5, c5, rfl, -⟩ := id hv; clear hv) | (obtain ⟨A5, n5, c5, rfl⟩ := NO.slice hv) | skip
               all_goals simp only [Act.put, List.setIfInBounds_toArray, List.set_cons_zero, List.set_cons_succ]))
          refine wpL_nil (fun w6 e6 hL => ?_)
          clear hL
          go_wp2_with fail
          go_ret
          exact ⟨ret_bool HF.out.symm, xe⟩
        · have dy : (y.isd == z.isd) = false := beq_eq_false_iff_ne.2 hy
          have HS : Hid (((ases x.seg.hops).take (k + 1)).all (certOk t l m now) = true) := by unfold Hid; rw [HX.out, HQ.out, HK2.out, dy]; rfl
          clear hy
          go_wp2_with fail
          refine wp_region_L (E := Ext) (w0 := wr) (G := fun τ => match τ with | 0 => none | _ => none) Ext.refl (fun h k => Ext.trans h k) (by kernel_rfl) (by kernel_rfl) xg (Ext.drew (by exact Ext.refl _)) ?_
          repeat' (first
            | ((with_reducible refine wpL_skip ?_ ?_ ?_)
               · rfl
               · rfl
               simp only [Act.put, List.setIfInBounds_toArray, List.set_cons_zero, List.set_cons_succ])
            | ((with_reducible refine wpL_quiet ?_ ?_ ?_ ?_)
               · rfl
               · rfl
               · rfl
               apply Exists.intro
               refine ⟨fun W hW hS => ?_, ?_⟩
               · have hC := (Ext.facts hW).1
                 go_simp
                 first | done | (with_reducible rfl) | (rw [if_neg (by omega)]; exact ⟨rfl, rfl⟩) | rfl
               first | (with_reducible refine wpL_boolT ?_) | (with_reducible refine wpL_boolF ?_) | (with_reducible refine wpL_bool (fun hB => ?_) (fun hB => ?_)) | skip
               all_goals simp only [Act.put, List.setIfInBounds_toArray, List.set_cons_zero, List.set_cons_succ]))
          refine wpL_nil (fun w6 e6 hL => ?_)
          clear hL
          go_wp2_with fail
          go_roundw
          case rel => exact ⟨k + 1, by omega, by go_num, HS.out, xe⟩
          case measure => simp [intOf]; omega
      · have hf : ¬ findCert t l m j now < 0 := by have h := HC.out; rw [hcb] at h; exact Int.not_lt.2 (of_decide_eq_true h.symm)
        have HS : Hid (((ases x.seg.hops).take (k + 1)).all (certOk t l m now) = true) := by unfold Hid; rw [HX.out, HQ.out, HK.out, decide_eq_false hf, Bool.and_false]; rfl
        clear hf
        have HCB := Lib.hid hcb; clear hcb
        by_cases hy : y.isd = z.isd
        · have dy : (y.isd == z.isd) = true := beq_iff_eq.2 hy
          clear hy
          go_wp2_with fail
          refine wp_region_L (E := Ext) (w0 := wr) (G := fun τ => match τ with | 69 => some (fun v W => v = .bool true) | _ => none) Ext.refl (fun h k => Ext.trans h k) (by kernel_rfl) (by kernel_rfl) xg (Ext.drew (by exact Ext.refl _)) ?_
          repeat' (first
            | ((with_reducible refine wpL_skip ?_ ?_ ?_)
               · rfl
               · rfl
               simp only [Act.put, List.setIfInBounds_toArray, List.set_cons_zero, List.set_cons_succ])
            | ((with_reducible refine wpL_quiet ?_ ?_ ?_ ?_)
               · rfl
               · rfl
               · rfl
               apply Exists.intro
               refine ⟨fun W hW hS => ?_, ?_⟩
               · have hC := (Ext.facts hW).1
                 go_simp
                 first | done | (with_reducible rfl) | (rw [if_neg (by omega)]; exact ⟨rfl, rfl⟩) | rfl
               first | (with_reducible refine wpL_boolT ?_) | (with_reducible refine wpL_boolF ?_) | (with_reducible refine wpL_bool (fun hB => ?_) (fun hB => ?_)) | skip
               all_goals simp only [Act.put, List.setIfInBounds_toArray, List.set_cons_zero, List.set_cons_succ])
            | ((refine wpL_call ?_ rfl rfl ?_ ?_ ?_)
               · rfl
               · rfl
               · intro W hW hS
                 have hC := (Ext.facts hW).1
                 unfold growAt
                 go_simp
                 simp only [growUpon]
                 first | (go_at_call 26; (with_reducible refine Calls.mono (impl_Contains _ _ _) ?_); rintro e w9 ⟨rfl, rfl⟩; exact ⟨_, rfl, Ext.refl _, by rw [HCB.out]⟩)
               first | (with_reducible refine wpL_boolT ?_) | (with_reducible refine wpL_boolF ?_) | (with_reducible refine wpL_bool (fun hB => ?_) (fun hB => ?_)) | skip
               all_goals simp only [Act.put, List.setIfInBounds_toArray, List.set_cons_zero, List.set_cons_succ])
            | ((refine wpL_grow ?_ rfl rfl ?_ ?_)
               · rfl
               · intro W hW hS
                 have hC := (Ext.facts hW).1
                 unfold growAt
                 go_simp
                 simp only [growUpon]
                 first | (go_at_call 26; (with_reducible refine Calls.mono (impl_Contains _ _ _) ?_); rintro e w9 ⟨rfl, rfl⟩; exact ⟨_, rfl, Ext.refl _, by rw [HCB.out]⟩)
               intro v W' hW' hv
               first | (subst hv) | (obtain ⟨A5, n5, c5, rfl, -⟩ := id hv; clear hv) | (obtain ⟨A5, n5, c5, rfl⟩ := NO.slice hv) | skip
               all_goals simp only [Act.put, List.setIfInBounds_toArray, List.set_cons_zero, List.set_cons_succ]))
          refine wpL_nil (fun w6 e6 hL => ?_)
          clear hL
          go_wp2_with fail
          go_roundw
          case rel => exact ⟨k + 1, by omega, by go_num, HS.out, xe⟩
          case measure => simp [intOf]; omega
        · have dy : (y.isd == z.isd) = false := beq_eq_false_iff_ne.2 hy
          clear hy
          go_wp2_with fail
          refine wp_region_L (E := Ext) (w0 := wr) (G := fun τ => match τ with | 0 => none | _ => none) Ext.refl (fun h k => Ext.trans h k) (by kernel_rfl) (by kernel_rfl) xg (Ext.drew (by exact Ext.refl _)) ?_
          repeat' (first
            | ((with_reducible refine wpL_skip ?_ ?_ ?_)
               · rfl
               · rfl
               simp only [Act.put, List.setIfInBounds_toArray, List.set_cons_zero, List.set_cons_succ])
            | ((with_reducible refine wpL_quiet ?_ ?_ ?_ ?_)
               · rfl
               · rfl
               · rfl
               apply Exists.intro
               refine ⟨fun W hW hS => ?_, ?_⟩
               · have hC := (Ext.facts hW).1
                 go_simp
                 first | done | (with_reducible rfl) | (rw [if_neg (by omega)]; exact ⟨rfl, rfl⟩) | rfl
               first | (with_reducible refine wpL_boolT ?_) | (with_reducible refine wpL_boolF ?_) | (with_reducible refine wpL_bool (fun hB => ?_) (fun hB => ?_)) | skip
               all_goals simp only [Act.put, List.setIfInBounds_toArray, List.set_cons_zero, List.set_cons_succ]))
          refine wpL_nil (fun w6 e6 hL => ?_)
          clear hL
          go_wp2_with fail
          go_roundw
          case rel => exact ⟨k + 1, by omega, by go_num, HS.out, xe⟩
          case measure => simp [intOf]; omega
    · obtain rfl : k = (ases x.seg.hops).length := by omega
      have HF : Hid (signedValid t l m x now = true) := by
        have h := HQ.out
        rw [List.take_length] at h
        unfold Hid
        rw [HV.out, h]
      skip
      go_wp2_with fail
      go_ret
      exact ⟨ret_bool HF.out.symm, xe⟩
set_option maxRecDepth 100000 in
set_option maxHeartbeats 1000000 in
theorem spec_SignedSegmentValid (vt vl vm vx : Value) (now : Int) (t : DTopology) (l : List DTrustRoot) (m : List DCertificate) (x : DSignedSegment) (w : World) (ht : TopologyV w.heap.size w vt t) (hl : TrustRootS w.heap.size w vl l) (hm : CertificateS w.heap.size w vm m) (hx : SignedSegmentV w.heap.size w vx x) (hn : x.seg.hops.length ≤ 1048576) :
    Calls Tryz.prog 11 #[vt, vl, vm, vx, I now] w fun e w' => e = .returned (.bool (signedValid t l m x now)) ∧ Ext w w' := by
  obtain ⟨At_0, nt_0, ct_0, At_1, nt_1, ct_1, rfl, st_0, st_1⟩ := id ht
  obtain ⟨lt_0, kt_0, mt_0⟩ := st_0.len
  subst lt_0
  unfold maxLen at mt_0
  obtain ⟨lt_1, kt_1, mt_1⟩ := st_1.len
  subst lt_1
  unfold maxLen at mt_1
  have Rt := Lib.hid ht; clear ht
  have St_0 := Lib.hid st_0; clear st_0
  have St_1 := Lib.hid st_1; clear st_1
  obtain ⟨Al, nl, cl, rfl, ll, kl, ml, -⟩ := id hl
  subst ll
  unfold maxLen at ml
  have Rl := Lib.hid hl; clear hl
  obtain ⟨Am, nm, cm, rfl, lm, km, mm, -⟩ := id hm
  subst lm
  unfold maxLen at mm
  have Rm := Lib.hid hm; clear hm
  obtain ⟨Ax_2, nx_2, cx_2, Ax_3, nx_3, cx_3, rfl, sx_2, sx_3⟩ := id hx
  obtain ⟨lx_2, kx_2, mx_2⟩ := sx_2.len
  subst lx_2
  unfold maxLen at mx_2
  obtain ⟨lx_3, kx_3, mx_3⟩ := sx_3.len
  subst lx_3
  unfold maxLen at mx_3
  have Rx := Lib.hid hx; clear hx
  have Sx_2 := Lib.hid sx_2; clear sx_2
  have Sx_3 := Lib.hid sx_3; clear sx_3
  go_enter Tryz.func11, Tryz.ntmps11
  go_wp2_with fail
  first | refine name_wp ?_ ?_ ?_ | refine name_calls ?_ ?_ ?_
  exact (fun W => Ext w W ∧ Blk W (w.heap.size) 27 [.slice At_0 t.ases.length ct_0, .slice At_1 t.links.length ct_1] ∧ Blk W (w.heap.size + 1) 40 [I x.seg.ts, I x.seg.beta, .slice Ax_2 x.seg.hops.length cx_2, .slice Ax_3 x.sigs.length cx_3])
  exact ⟨xe, xb, xb⟩
  rintro w0 ⟨ew0, bt, bx⟩
  have lt := bt.lt
  obtain ⟨pt_0, pt_1⟩ := blk2 bt
  have Bt := Lib.hid bt; clear bt
  have lx := bx.lt
  obtain ⟨px_0, px_1, px_2, px_3⟩ := blk4 bx
  have Bx := Lib.hid bx; clear bx
  refine (spec_SegmentUsable _ _ now t x.seg _ (by exact Rt.out.ext xe) (by exact segV (Sx_2.out.ext xe)) (by omega)).mono ?_
  rintro e w1 ⟨rfl, e1⟩
  have bt := Bt.out.ext (w' := w1) xe
  have lt := bt.lt
  obtain ⟨pt_0, pt_1⟩ := blk2 bt
  clear bt
  have bx := Bx.out.ext (w' := w1) xe
  have lx := bx.lt
  obtain ⟨px_0, px_1, px_2, px_3⟩ := blk4 bx
  clear bx
  cases h1 : segUsable t x.seg now
  · have HF : Hid (signedValid t l m x now = false) := headNo (by unfold signedHead; rw [h1]; rfl)
    go_wp2_with fail
    go_ret
    exact ⟨ret_bool HF.out.symm, xe⟩
  have HU := Lib.hid h1; clear h1
  by_cases h2 : x.sigs.length = x.seg.hops.length
  case neg =>
    have HF : Hid (signedValid t l m x now = false) := headNo (by unfold signedHead; rw [HU.out, decide_eq_false h2]; rfl)
    have d2 : ((x.sigs.length : Int) != (x.seg.hops.length : Int)) = true := bne_iff_ne.2 (by omega)
    clear h2
    go_wp2_with fail
    go_ret
    exact ⟨ret_bool HF.out.symm, xe⟩
  have H2 := Lib.hid h2
  have d2 : ((x.sigs.length : Int) != (x.seg.hops.length : Int)) = false := by rw [h2]; simp
  clear h2
  go_wp2_with fail
  clear d2
  refine (spec_FirstBadSignature _ _ t x _ (by exact Rt.out.ext xe) (by exact Rx.out.ext xe) hn).mono ?_
  rintro e w2 ⟨rfl, e2⟩
  have bt := Bt.out.ext (w' := w2) xe
  have lt := bt.lt
  obtain ⟨pt_0, pt_1⟩ := blk2 bt
  clear bt
  have bx := Bx.out.ext (w' := w2) xe
  have lx := bx.lt
  obtain ⟨px_0, px_1, px_2, px_3⟩ := blk4 bx
  clear bx
  by_cases h3 : firstBad t x < 0
  case neg =>
    have HF : Hid (signedValid t l m x now = false) := headNo (by unfold signedHead; rw [HU.out, decide_eq_true H2.out, decide_eq_false h3]; rfl)
    have h3 : 0 ≤ firstBad t x := by omega
    generalize firstBad t x = fb at *
    go_wp2_with fail
    go_ret
    exact ⟨ret_bool HF.out.symm, xe⟩
  have H3 : Hid (decide (firstBad t x < 0) = true) := decide_eq_true h3
  generalize hfb : firstBad t x = fb at *
  have HFB := Lib.hid hfb; clear hfb
  go_wp2_with fail
  refine (spec_ValidRootChain _ _ (t) (l) _ (by exact Rt.out.ext xe) (by exact Rl.out.ext xe)).mono ?_
  rintro e w3 ⟨rfl, ew3⟩
  have bt := Bt.out.ext (w' := w3) xe
  have lt := bt.lt
  obtain ⟨pt_0, pt_1⟩ := blk2 bt
  clear bt
  have bx := Bx.out.ext (w' := w3) xe
  have lx := bx.lt
  obtain ⟨px_0, px_1, px_2, px_3⟩ := blk4 bx
  clear bx
  cases h4 : validChain t l
  · have HF : Hid (signedValid t l m x now = false) := headNo (by unfold signedHead; rw [HU.out, decide_eq_true H2.out, HFB.out, H3.out, h4]; rfl)
    go_wp2_with fail
    go_ret
    exact ⟨ret_bool HF.out.symm, xe⟩
  have HV : Hid (signedValid t l m x now = (ases x.seg.hops).all (certOk t l m now)) := headYes (by unfold signedHead; rw [HU.out, decide_eq_true H2.out, HFB.out, H3.out, h4]; rfl)
  have hl0 : 0 < l.length := by
    unfold validChain at h4
    rw [Bool.and_eq_true, decide_eq_true_eq] at h4
    exact h4.1
  clear h4
  have HOP : Hid (∀ k (h : k < x.seg.hops.length), inR x.seg.hops[k].asn 0 7 = true ∧ isAs t x.seg.hops[k].asn = true) := fun k h => usable_hop HU.out h
  have hal : (ases x.seg.hops).length = x.seg.hops.length := by unfold ases; rw [List.length_map]
  go_wp2_with fail
  refine name_wp (fun W => W = w3) rfl ?_
  rintro w5 rfl
  go_loopw [11] (fun i wr => ∃ k : Nat, k ≤ (ases x.seg.hops).length ∧ i = I k ∧ ((ases x.seg.hops).take k).all (certOk t l m now) = true ∧ Ext w5 wr) (fun i _ => (ases x.seg.hops).length - (intOf i).toNat)
  case atStart => exact ⟨0, by omega, rfl, rfl, xe⟩
  case round =>
    obtain ⟨k, hk, rfl, hq, he⟩ := hrel
    have HQ := Lib.hid hq; clear hq
    clear px_0 px_1 px_2 px_3 lx pt_0 pt_1 lt
    have bt := Bt.out.ext (w' := wr) xe
    have lt := bt.lt
    obtain ⟨pt_0, pt_1⟩ := blk2 bt
    clear bt
    have bx := Bx.out.ext (w' := wr) xe
    have lx := bx.lt
    obtain ⟨px_0, px_1, px_2, px_3⟩ := blk4 bx
    clear bx
    by_cases hlt : k < (ases x.seg.hops).length
    · have hlt2 : k < x.seg.hops.length := by omega
      obtain ⟨b, off, rfl, hb, hkl2, hc⟩ := (Sx_2.out.ext (w' := wr) xe).at_ hlt2
      have HX := Lib.hid (al_snoc (certOk t l m now) (ases x.seg.hops) k hlt)
      have HN := Lib.hid (al_no (certOk t l m now) (ases x.seg.hops) k hlt)
      obtain ⟨hr7, hra⟩ := HOP.out k hlt2
      have her := ases_get x.seg.hops k hlt hlt2
      rw [her] at HX HN
      obtain ⟨c0, c1, c2, c3, c4⟩ := hc
      clear her c1 c2 c3 c4
      have i5 : (0 : Int) ≤ (k : Int) := by omega
      have i6 : (k : Int) < (x.seg.hops.length : Int) := by omega
      generalize x.seg.hops[k].asn = r at *
      obtain ⟨j, hrj, hja⟩ := isAs_nat hra
      subst hrj
      obtain ⟨b2, off2, hA2, hb2, hkl3, hc2⟩ := (St_0.out.ext (w' := wr) xe).at_ hja
      subst hA2
      have HY : Hid (asAt t (j : Int) = t.ases[j]) := asAt_nat t j hja
      generalize t.ases[j] = y at *
      obtain ⟨y0, y1, y2⟩ := hc2
      obtain ⟨b3, off3, hA3, hb3, hkl4, hc3⟩ := (Rl.out.ext (w' := wr) xe).at_ hl0
      subst hA3
      have HZ : Hid (l.getD 0 dRoot = l[0]) := getD_is hl0
      generalize l[0] = z at *
      simp only [Nat.zero_mul, Nat.add_zero] at hc3
      obtain ⟨Az, nz, cz, z0, -⟩ := hc3
      have i0 : (0 : Int) ≤ (j : Int) := by omega
      have i1 : (j : Int) < (t.ases.length : Int) := by omega
      have i2 : (0 : Int) < (l.length : Int) := by omega
      have HK : Hid (certOk t l m now j = !(y.isd == z.isd && decide (findCert t l m j now < 0))) := by unfold Hid certOk; rw [HY.out, HZ.out]
      by_cases hy : y.isd = z.isd
      · have dy : (y.isd == z.isd) = true := beq_iff_eq.2 hy
        clear hy
        have hfx : ∀ q, findCert t l m j now = q → findCert t l m j now = q := fun _ h => h
        by_cases hf : findCert t l m j now < 0
        · have HF : Hid (signedValid t l m x now = false) := by unfold Hid; rw [HV.out]; exact HN.out (by rw [HK.out, dy, decide_eq_true hf]; rfl)
          generalize hfc : findCert t l m j now = fc at *
          have HFC := Lib.hid hfc; clear hfc hfx
          go_wp2_with fail
          refine wp_region_L (E := Ext) (w0 := wr) (G := fun τ => match τ with | 73 => some (fun v W => v = I fc) | _ => none) Ext.refl (fun h k => Ext.trans h k) (by kernel_rfl) (by kernel_rfl) xg (Ext.drew (by exact Ext.refl _)) ?_
          repeat' (first
            | ((with_reducible refine wpL_skip ?_ ?_ ?_)
               · rfl
               · rfl
               simp only [Act.put, List.setIfInBounds_toArray, List.set_cons_zero, List.set_cons_succ])
            | ((with_reducible refine wpL_quiet ?_ ?_ ?_ ?_)
               · rfl
               · rfl
               · rfl
               apply Exists.intro
               refine ⟨fun W hW hS => ?_, ?_⟩
               · have hC := (Ext.facts hW).1
                 go_simp
                 first | done | (with_reducible rfl) | (rw [if_neg (by omega)]; exact ⟨rfl, rfl⟩) | rfl
               first | (with_reducible refine wpL_boolT ?_) | (with_reducible refine wpL_boolF ?_) | (with_reducible refine wpL_bool (fun hB => ?_) (fun hB => ?_)) | skip
               all_goals simp only [Act.put, List.setIfInBounds_toArray, List.set_cons_zero, List.set_cons_succ])
            | ((refine wpL_call ?_ rfl rfl ?_ ?_ ?_)
               · rfl
               · rfl
               · intro W hW hS
                 have hC := (Ext.facts hW).1
                 unfold growAt
                 go_simp
                 simp only [growUpon]
                 first | (go_at_call 30; (with_reducible refine Calls.mono (spec_FindCertificate _ _ _ _ _ t l m _ (by exact Rt.out.ext xe) (by exact Rl.out.ext xe) (by exact Rm.out.ext xe)) ?_); rintro e w9 ⟨rfl, e9⟩; exact ⟨_, rfl, e9, by rw [HFC.out]⟩)
               first | (with_reducible refine wpL_boolT ?_) | (with_reducible refine wpL_boolF ?_) | (with_reducible refine wpL_bool (fun hB => ?_) (fun hB => ?_)) | skip
               all_goals simp only [Act.put, List.setIfInBounds_toArray, List.set_cons_zero, List.set_cons_succ])
            | ((refine wpL_grow ?_ rfl rfl ?_ ?_)
               · rfl
               · intro W hW hS
                 have hC := (Ext.facts hW).1
                 unfold growAt
                 go_simp
                 simp only [growUpon]
                 first | (go_at_call 30; (with_reducible refine Calls.mono (spec_FindCertificate _ _ _ _ _ t l m _ (by exact Rt.out.ext xe) (by exact Rl.out.ext xe) (by exact Rm.out.ext xe)) ?_); rintro e w9 ⟨rfl, e9⟩; exact ⟨_, rfl, e9, by rw [HFC.out]⟩)
               intro v W' hW' hv
               first | (subst hv) | (obtain ⟨A5, n5, c5, rfl, -⟩ := id hv; clear hv) | (obtain ⟨A5, n5, c5, rfl⟩ := NO.slice hv) | skip
               all_goals simp only [Act.put, List.setIfInBounds_toArray, List.set_cons_zero, List.set_cons_succ]))
          all_goals
            refine wpL_nil (fun w6 e6 hL => ?_)
            clear hL
            go_wp2_with fail
            go_ret
            exact ⟨ret_bool HF.out.symm, xe⟩
        · have HS : Hid (((ases x.seg.hops).take (k + 1)).all (certOk t l m now) = true) := by unfold Hid; rw [HX.out, HQ.out, HK.out, decide_eq_false hf, Bool.and_false]; rfl
          have hf2 : 0 ≤ findCert t l m j now := by omega
          have df2 : decide (findCert t l m j now < 0) = false := decide_eq_false hf
          clear hf
          generalize hfc : findCert t l m j now = fc at *
          have HFC := Lib.hid hfc; clear hfc hfx
          go_wp2_with fail
          refine wp_region_L (E := Ext) (w0 := wr) (G := fun τ => match τ with | 73 => some (fun v W => v = I fc) | _ => none) Ext.refl (fun h k => Ext.trans h k) (by kernel_rfl) (by kernel_rfl) xg (Ext.drew (by exact Ext.refl _)) ?_
          repeat' (first
            | ((with_reducible refine wpL_skip ?_ ?_ ?_)
               · rfl
               · rfl
               simp only [Act.put, List.setIfInBounds_toArray, List.set_cons_zero, List.set_cons_succ])
            | ((with_reducible refine wpL_quiet ?_ ?_ ?_ ?_)
               · rfl
               · rfl
               · rfl
               apply Exists.intro
               refine ⟨fun W hW hS => ?_, ?_⟩
               · have hC := (Ext.facts hW).1
                 go_simp
                 first | done | (with_reducible rfl) | (rw [if_neg (by omega)]; exact ⟨rfl, rfl⟩) | rfl
               first | (with_reducible refine wpL_boolT ?_) | (with_reducible refine wpL_boolF ?_) | (with_reducible refine wpL_bool (fun hB => ?_) (fun hB => ?_)) | skip
               all_goals simp only [Act.put, List.setIfInBounds_toArray, List.set_cons_zero, List.set_cons_succ])
            | ((refine wpL_call ?_ rfl rfl ?_ ?_ ?_)
               · rfl
               · rfl
               · intro W hW hS
                 have hC := (Ext.facts hW).1
                 unfold growAt
                 go_simp
                 simp only [growUpon]
                 first | (go_at_call 30; (with_reducible refine Calls.mono (spec_FindCertificate _ _ _ _ _ t l m _ (by exact Rt.out.ext xe) (by exact Rl.out.ext xe) (by exact Rm.out.ext xe)) ?_); rintro e w9 ⟨rfl, e9⟩; exact ⟨_, rfl, e9, by rw [HFC.out]⟩)
               first | (with_reducible refine wpL_boolT ?_) | (with_reducible refine wpL_boolF ?_) | (with_reducible refine wpL_bool (fun hB => ?_) (fun hB => ?_)) | skip
               all_goals simp only [Act.put, List.setIfInBounds_toArray, List.set_cons_zero, List.set_cons_succ])
            | ((refine wpL_grow ?_ rfl rfl ?_ ?_)
               · rfl
               · intro W hW hS
                 have hC := (Ext.facts hW).1
                 unfold growAt
                 go_simp
                 simp only [growUpon]
                 first | (go_at_call 30; (with_reducible refine Calls.mono (spec_FindCertificate _ _ _ _ _ t l m _ (by exact Rt.out.ext xe) (by exact Rl.out.ext xe) (by exact Rm.out.ext xe)) ?_); rintro e w9 ⟨rfl, e9⟩; exact ⟨_, rfl, e9, by rw [HFC.out]⟩)
               intro v W' hW' hv
               first | (subst hv) | (obtain ⟨A5, n5, c5, rfl, -⟩ := id hv; clear hv) | (obtain ⟨A5, n5, c5, rfl⟩ := NO.slice hv) | skip
               all_goals simp only [Act.put, List.setIfInBounds_toArray, List.set_cons_zero, List.set_cons_succ]))
          all_goals
            refine wpL_nil (fun w6 e6 hL => ?_)
            clear hL
            go_wp2_with fail
            go_roundw
            case rel => exact ⟨k + 1, by omega, by go_num, HS.out, xe⟩
            case measure => simp [intOf]; omega
      · have dy : (y.isd == z.isd) = false := beq_eq_false_iff_ne.2 hy
        have HS : Hid (((ases x.seg.hops).take (k + 1)).all (certOk t l m now) = true) := by unfold Hid; rw [HX.out, HQ.out, HK.out, dy]; rfl
        clear hy
        go_wp2_with fail
        refine wp_region_L (E := Ext) (w0 := wr) (G := fun τ => match τ with | 0 => none | _ => none) Ext.refl (fun h k => Ext.trans h k) (by kernel_rfl) (by kernel_rfl) xg (Ext.drew (by exact Ext.refl _)) ?_
        repeat' (first
          | ((with_reducible refine wpL_skip ?_ ?_ ?_)
             · rfl
             · rfl
             simp only [Act.put, List.setIfInBounds_toArray, List.set_cons_zero, List.set_cons_succ])
          | ((with_reducible refine wpL_quiet ?_ ?_ ?_ ?_)
             · rfl
             · rfl
             · rfl
             apply Exists.intro
             refine ⟨fun W hW hS => ?_, ?_⟩
             · have hC := (Ext.facts hW).1
               go_simp
               first | done | (with_reducible rfl) | (rw [if_neg (by omega)]; exact ⟨rfl, rfl⟩) | rfl
             first | (with_reducible refine wpL_boolT ?_) | (with_reducible refine wpL_boolF ?_) | (with_reducible refine wpL_bool (fun hB => ?_) (fun hB => ?_)) | skip
             all_goals simp only [Act.put, List.setIfInBounds_toArray, List.set_cons_zero, List.set_cons_succ]))
        refine wpL_nil (fun w6 e6 hL => ?_)
        clear hL
        go_wp2_with fail
        go_roundw
        case rel => exact ⟨k + 1, by omega, by go_num, HS.out, xe⟩
        case measure => simp [intOf]; omega
    · obtain rfl : k = (ases x.seg.hops).length := by omega
      have HF : Hid (signedValid t l m x now = true) := by
        have h := HQ.out
        rw [List.take_length] at h
        unfold Hid
        rw [HV.out, h]
      rw [hal] at *
      go_wp2_with fail
      go_ret
      exact ⟨ret_bool HF.out.symm, xe⟩
end Go.Proofs.YtddaodemdkjijaaGreat
namespace Go.Proofs.YtddaodemdkjijaaGreat
open Go.RowKit
set_option linter.unusedVariables false
def sigdOf (t : DTopology) (l : List DTrustRoot) (m : List DCertificate) (now : Int) (x : List DSignedSegment) : List DSegment := (x.filter fun s => signedValid t l m s now).map fun s => s.seg
def filtSigned (t : DTopology) (l : List DTrustRoot) (m : List DCertificate) (x : List DSignedSegment) (now : Int) : List DSegment := sigdOf t l m now x
theorem sigdOf_yes {t : DTopology} {l : List DTrustRoot} {m : List DCertificate} {now : Int} (x : List DSignedSegment) (k : Nat) (h : k < x.length) (ho : signedValid t l m x[k] now = true) : sigdOf t l m now (x.take (k + 1)) = sigdOf t l m now (x.take k) ++ [x[k].seg] := by
  unfold sigdOf
  rw [take_snoc x k h, List.filter_append, List.map_append]
  simp [ho]
theorem sigdOf_no {t : DTopology} {l : List DTrustRoot} {m : List DCertificate} {now : Int} (x : List DSignedSegment) (k : Nat) (h : k < x.length) (ho : signedValid t l m x[k] now = false) : sigdOf t l m now (x.take (k + 1)) = sigdOf t l m now (x.take k) := by
  unfold sigdOf
  rw [take_snoc x k h, List.filter_append, List.map_append]
  simp [ho]
theorem sigdOf_len (t : DTopology) (l : List DTrustRoot) (m : List DCertificate) (now : Int) (x : List DSignedSegment) : (sigdOf t l m now x).length ≤ x.length := by
  unfold sigdOf
  rw [List.length_map]
  exact List.length_filter_le _ _
theorem sigdOf_tot (t : DTopology) (l : List DTrustRoot) (m : List DCertificate) (now : Int) : ∀ x : List DSignedSegment, totS (fun u : DSegment => u.hops.length) (sigdOf t l m now x) ≤ totS (fun y : DSignedSegment => y.seg.hops.length + y.sigs.length) x
  | [] => by simp [sigdOf, totS]
  | a :: x => by
    have h := sigdOf_tot t l m now x
    unfold sigdOf totS at h ⊢
    cases ha : signedValid t l m a now
    · simp only [List.filter_cons, ha, Bool.false_eq_true, if_false, List.length_cons, List.map_cons, List.sum_cons]
      omega
    · simp only [List.filter_cons, ha, if_true, List.map_cons, List.length_cons, List.sum_cons]
      omega
set_option maxRecDepth 100000 in
set_option maxHeartbeats 1000000 in
theorem impl_FilterSigned (vt vl vm vx : Value) (now : Int) (t : DTopology) (l : List DTrustRoot) (m : List DCertificate) (x : List DSignedSegment) (w : World) (ht : TopologyV w.heap.size w vt t) (hl : TrustRootS w.heap.size w vl l) (hm : CertificateS w.heap.size w vm m) (hx : SignedSegmentS w.heap.size w vx x) (hn : totS (fun y => y.seg.hops.length + y.sigs.length) x ≤ 1048576) :
    Calls Tryz.prog 6 #[vt, vl, vm, vx, I now] w fun e w' => ∃ v', e = .returned v' ∧ SegmentSO w.heap.size w'.heap.size w' v' (filtSigned t l m x now) ∧ Ext w w' := by
  obtain ⟨At_0, nt_0, ct_0, At_1, nt_1, ct_1, rfl, st_0, st_1⟩ := id ht
  obtain ⟨lt_0, kt_0, mt_0⟩ := st_0.len
  subst lt_0
  unfold maxLen at mt_0
  obtain ⟨lt_1, kt_1, mt_1⟩ := st_1.len
  subst lt_1
  unfold maxLen at mt_1
  have Rt := Lib.hid ht; clear ht
  have St_0 := Lib.hid st_0; clear st_0
  have St_1 := Lib.hid st_1; clear st_1
  obtain ⟨Al, nl, cl, rfl, ll, kl, ml, -⟩ := id hl
  subst ll
  unfold maxLen at ml
  have Rl := Lib.hid hl; clear hl
  obtain ⟨Am, nm, cm, rfl, lm, km, mm, -⟩ := id hm
  subst lm
  unfold maxLen at mm
  have Rm := Lib.hid hm; clear hm
  obtain ⟨Ax, nx, cx, rfl, lx, kx, mx, -⟩ := id hx
  subst lx
  unfold maxLen at mx
  have Rx := Lib.hid hx; clear hx
  have hdl := totS_len (fun y : DSignedSegment => y.seg.hops.length + y.sigs.length) x
  go_enter Tryz.func6, Tryz.ntmps6
  go_wp2_with fail
  first | refine name_wp ?_ ?_ ?_ | refine name_calls ?_ ?_ ?_
  exact (fun W => Ext w W ∧ Blk W (w.heap.size) 27 [.slice At_0 t.ases.length ct_0, .slice At_1 t.links.length ct_1])
  exact ⟨xe, xb⟩
  rintro w0 ⟨ew0, bt⟩
  have lt := bt.lt
  obtain ⟨pt_0, pt_1⟩ := blk2 bt
  have Bt := Lib.hid bt; clear bt
  go_loopw [11, 16] (fun v i wr => ∃ k : Nat, k ≤ x.length ∧ i = I k ∧ SegmentSO w0.heap.size wr.heap.size wr v (sigdOf t l m now (x.take k)) ∧ Ext w0 wr) (fun _ i _ => x.length - (intOf i).toNat)
  case atStart => exact ⟨0, by omega, rfl, NO.nil _ _ _ _ _ _, xe⟩
  case round =>
    obtain ⟨k, hk, rfl, hno, he⟩ := hrel
    have HNO := Lib.hid hno; clear hno
    have zr := he.size
    have bt := Bt.out.ext (w' := wr) xe
    have lt := bt.lt
    obtain ⟨pt_0, pt_1⟩ := blk2 bt
    clear bt
    by_cases hlt : k < x.length
    · obtain ⟨b, off, rfl, hb, hkl, hc⟩ := (Rx.out.ext (w' := wr) xe).at_ hlt
      have hyl : x[k].seg.hops.length + x[k].sigs.length ≤ totS (fun y : DSignedSegment => y.seg.hops.length + y.sigs.length) x := totS_get (fun y : DSignedSegment => y.seg.hops.length + y.sigs.length) x k hkl
      have HY := Lib.hid (sigdOf_yes (t := t) (l := l) (m := m) (now := now) x k hkl)
      have HN := Lib.hid (sigdOf_no (t := t) (l := l) (m := m) (now := now) x k hkl)
      have hfl := sigdOf_len t l m now (x.take k)
      rw [List.length_take] at hfl
      generalize x[k] = u at *
      generalize hds : sigdOf t l m now (x.take k) = ds at *
      have HDS := Lib.hid hds; clear hds
      obtain ⟨Au_2, nu_2, cu_2, Au_3, nu_3, cu_3, hu_0, hu_1, hu_2, hu_3, su_2, su_3⟩ := hc
      obtain ⟨lu_2, ku_2, mu_2⟩ := su_2.len
      subst lu_2
      unfold maxLen at mu_2
      obtain ⟨lu_3, ku_3, mu_3⟩ := su_3.len
      subst lu_3
      unfold maxLen at mu_3
      have Ru : Hid (SignedSegmentV wr.heap.size wr (.agg #[I u.seg.ts, I u.seg.beta, .slice Au_2 u.seg.hops.length cu_2, .slice Au_3 u.sigs.length cu_3]) u) := ⟨_, _, _, _, _, _, rfl, su_2, su_3⟩
      have Su_2 := Lib.hid su_2; clear su_2
      have Su_3 := Lib.hid su_3; clear su_3
      go_wp2_with fail
      first | refine name_wp ?_ ?_ ?_ | refine name_calls ?_ ?_ ?_
      exact (fun W => Ext wr W ∧ Blk W (wr.heap.size) 40 [I u.seg.ts, I u.seg.beta, .slice Au_2 u.seg.hops.length cu_2, .slice Au_3 u.sigs.length cu_3])
      exact ⟨xe, xb⟩
      rintro w3 ⟨ew3, bu⟩
      have lu := bu.lt
      obtain ⟨pu_0, pu_1, pu_2, pu_3⟩ := blk4 bu
      have Bu := Lib.hid bu; clear bu
      have bt := Bt.out.ext (w' := w3) xe
      have lt := bt.lt
      obtain ⟨pt_0, pt_1⟩ := blk2 bt
      clear bt
      refine (impl_SignedSegmentValid _ _ _ _ now t l m u _ (by exact Rt.out.ext xe) (by exact Rl.out.ext xe) (by exact Rm.out.ext xe) (by exact Ru.out.ext xe) (by omega)).mono ?_
      rintro e w4 ⟨rfl, e4⟩
      have bt := Bt.out.ext (w' := w4) xe
      have lt := bt.lt
      obtain ⟨pt_0, pt_1⟩ := blk2 bt
      clear bt
      have bu := Bu.out.ext (w' := w4) xe
      have lu := bu.lt
      obtain ⟨pu_0, pu_1, pu_2, pu_3⟩ := blk4 bu
      clear bu
      cases hv : signedValid t l m u now
      · have HS := Lib.hid (HN.out hv)
        clear hv
        go_wp2_with fail
        go_roundw
        case rel => exact ⟨k + 1, by omega, by go_num, by rw [HS.out]; exact NO.up SegmentOC.keeps HNO.out xe (Nat.le_refl _), xe⟩
        case measure => simp [intOf]; omega
      · have HS := Lib.hid (HY.out hv)
        clear hv
        go_wp2_with fail
        refine (impl_copySegment _ u.seg _ (by exact segV (Su_2.out.ext xe)) (by omega)).mono ?_
        rintro e w5 ⟨v5, rfl, o5, ew5⟩
        have z4 : wr.heap.size ≤ w4.heap.size := Ext.size xe
        obtain ⟨a5, k5, q5, fp5, hv5, hoc5, hn5, hb5⟩ := o5.to_oc
        subst hv5
        have HOC5 := Lib.hid hoc5; have HN5 := Lib.hid hn5; have HB5 := Lib.hid hb5; clear o5 hoc5 hn5 hb5
        have z5 := ew5.size
        generalize hus : u.seg = us at *
        have HUS := Lib.hid hus; clear hus
        go_wp2_with (at_builtin; refine hold ?_)
        refine unhold (wpList_push (OC := SegmentOC) w0 SegmentOC.keeps SegmentOC.one rfl (.tmp 26) (.tmp 30) _ rfl 37 _ 3 40 Tryz.underlying33 info_Segment rfl (by omega) _ (ds) [us] wr.heap.size rfl _ 1 1 _ fp5 rfl
          (by exact NO.at' SegmentOC.keeps HNO.out xe) (by simp only [World.size_alloc]; omega) (row_one _ _ _ _ _ (by first | rfl | simp) rfl) (OL.one (SegmentOC.keeps _ _ _ _ _ (fun b hb hs => Ext.same (a := w5) xe b hs) HOC5.out) rfl) HN5.out (fun b hb => ⟨(by have := HB5.out b hb; omega), (by have := HB5.out b hb; simp only [World.size_alloc]; omega)⟩) (by omega) xe (by simp only [List.length_singleton]; omega) (by omega) ?_)
        intro v6 w6 no6 e6
        have NO6 := Lib.hid no6; clear no6
        go_wp2_with (at_builtin; refine hold ?_)
        go_roundw
        case rel => exact ⟨k + 1, by omega, by go_num, by rw [HS.out]; exact NO6.out, e6⟩
        case measure => simp [intOf]; omega
    · obtain rfl : k = x.length := by omega
      go_wp2_with fail
      go_ret
      refine ⟨_, rfl, ?_, xe⟩
      have h := HNO.out
      rw [List.take_length] at h
      exact NO.more h (by have := ew0.size; omega) (Nat.le_refl _)
set_option maxRecDepth 100000 in
set_option maxHeartbeats 1000000 in
theorem spec_FilterSigned (vt vl vm vx : Value) (now : Int) (t : DTopology) (l : List DTrustRoot) (m : List DCertificate) (x : List DSignedSegment) (w : World) (ht : TopologyV w.heap.size w vt t) (hl : TrustRootS w.heap.size w vl l) (hm : CertificateS w.heap.size w vm m) (hx : SignedSegmentS w.heap.size w vx x) (hn : totS (fun y => y.seg.hops.length + y.sigs.length) x ≤ 1048576) :
    Calls Tryz.prog 9 #[vt, vl, vm, vx, I now] w fun e w' => ∃ v', e = .returned v' ∧ SegmentSO w.heap.size w'.heap.size w' v' (filtSigned t l m x now) ∧ Ext w w' := by
  obtain ⟨At_0, nt_0, ct_0, At_1, nt_1, ct_1, rfl, st_0, st_1⟩ := id ht
  obtain ⟨lt_0, kt_0, mt_0⟩ := st_0.len
  subst lt_0
  unfold maxLen at mt_0
  obtain ⟨lt_1, kt_1, mt_1⟩ := st_1.len
  subst lt_1
  unfold maxLen at mt_1
  have Rt := Lib.hid ht; clear ht
  have St_0 := Lib.hid st_0; clear st_0
  have St_1 := Lib.hid st_1; clear st_1
  obtain ⟨Al, nl, cl, rfl, ll, kl, ml, -⟩ := id hl
  subst ll
  unfold maxLen at ml
  have Rl := Lib.hid hl; clear hl
  obtain ⟨Am, nm, cm, rfl, lm, km, mm, -⟩ := id hm
  subst lm
  unfold maxLen at mm
  have Rm := Lib.hid hm; clear hm
  obtain ⟨Ax, nx, cx, rfl, lx, kx, mx, -⟩ := id hx
  subst lx
  unfold maxLen at mx
  have Rx := Lib.hid hx; clear hx
  have hdl := totS_len (fun y : DSignedSegment => y.seg.hops.length + y.sigs.length) x
  go_enter Tryz.func9, Tryz.ntmps9
  go_wp2_with fail
  refine name_wp (fun W => ∃ wb, Ext w wb ∧ Blk wb w.heap.size 27 [.slice At_0 t.ases.length ct_0, .slice At_1 t.links.length ct_1] ∧ Ext wb W ∧ SegmentSO wb.heap.size W.heap.size W (.slice (some ⟨w.heap.size + 1, 0, none⟩) 0 0) []) ⟨_, xe, xb, (Ext.refl _).alloc _, NO.zero _ _ _ _ _ _ (by simp) (Nat.le_refl _)⟩ ?_
  rintro wz ⟨w0, ew0, bt, ez, hz⟩
  have Bt := Lib.hid bt; have HZ := Lib.hid hz; clear bt hz
  go_loopw [11, 12] (fun v i wr => ∃ k : Nat, k ≤ x.length ∧ i = I k ∧ SegmentSO w0.heap.size wr.heap.size wr v (sigdOf t l m now (x.take k)) ∧ Ext w0 wr) (fun _ i _ => x.length - (intOf i).toNat)
  case atStart => exact ⟨0, by omega, rfl, HZ.out, ez⟩
  case round =>
    obtain ⟨k, hk, rfl, hno, he⟩ := hrel
    have HNO := Lib.hid hno; clear hno
    have zr := he.size
    have bt := Bt.out.ext (w' := wr) xe
    have lt := bt.lt
    obtain ⟨pt_0, pt_1⟩ := blk2 bt
    clear bt
    by_cases hlt : k < x.length
    · obtain ⟨b, off, rfl, hb, hkl, hc⟩ := (Rx.out.ext (w' := wr) xe).at_ hlt
      have hyl : x[k].seg.hops.length + x[k].sigs.length ≤ totS (fun y : DSignedSegment => y.seg.hops.length + y.sigs.length) x := totS_get (fun y : DSignedSegment => y.seg.hops.length + y.sigs.length) x k hkl
      have HY := Lib.hid (sigdOf_yes (t := t) (l := l) (m := m) (now := now) x k hkl)
      have HN := Lib.hid (sigdOf_no (t := t) (l := l) (m := m) (now := now) x k hkl)
      have hfl := sigdOf_len t l m now (x.take k)
      rw [List.length_take] at hfl
      generalize x[k] = u at *
      generalize hds : sigdOf t l m now (x.take k) = ds at *
      have HDS := Lib.hid hds; clear hds
      have i0 : (0 : Int) ≤ (k : Int) := by omega
      have i1 : (k : Int) < (x.length : Int) := by omega
      have HCC := Lib.hid hc
      obtain ⟨Au_2, nu_2, cu_2, Au_3, nu_3, cu_3, hu_0, hu_1, hu_2, hu_3, su_2, su_3⟩ := hc
      obtain ⟨lu_2, ku_2, mu_2⟩ := su_2.len
      subst lu_2
      unfold maxLen at mu_2
      obtain ⟨lu_3, ku_3, mu_3⟩ := su_3.len
      subst lu_3
      unfold maxLen at mu_3
      have Ru : Hid (SignedSegmentV wr.heap.size wr (.agg #[I u.seg.ts, I u.seg.beta, .slice Au_2 u.seg.hops.length cu_2, .slice Au_3 u.sigs.length cu_3]) u) := ⟨_, _, _, _, _, _, rfl, su_2, su_3⟩
      have Su_2 := Lib.hid su_2; clear su_2
      have Su_3 := Lib.hid su_3; clear su_3
      cases hv : signedValid t l m u now
      · have HS := Lib.hid (HN.out hv)
        have HV := Lib.hid hv; clear hv
        go_wp2_with fail
        refine wp_region_L (E := Ext) (w0 := wr) (G := fun τ => match τ with | 28 => some (fun v W => v = .bool false) | _ => none) Ext.refl (fun h k => Ext.trans h k) (by kernel_rfl) (by kernel_rfl) xg (Ext.drew (by exact Ext.refl _)) ?_
        repeat' (first
          | ((with_reducible refine wpL_skip ?_ ?_ ?_)
             · rfl
             · rfl
             simp only [Act.put, List.setIfInBounds_toArray, List.set_cons_zero, List.set_cons_succ])
          | ((with_reducible refine wpL_quiet ?_ ?_ ?_ ?_)
             · rfl
             · rfl
             · rfl
             apply Exists.intro
             refine ⟨fun W hW hS => ?_, ?_⟩
             · have hC := (Ext.facts hW).1
               go_simp
               first | done | (with_reducible rfl) | (rw [if_neg (by omega)]; exact ⟨rfl, rfl⟩) | rfl
             first | (with_reducible refine wpL_boolT ?_) | (with_reducible refine wpL_boolF ?_) | (with_reducible refine wpL_bool (fun hB => ?_) (fun hB => ?_)) | skip
             all_goals simp only [Act.put, List.setIfInBounds_toArray, List.set_cons_zero, List.set_cons_succ])
          | ((refine wpL_call ?_ rfl rfl ?_ ?_ ?_)
             · rfl
             · rfl
             · intro W hW hS
               have hC := (Ext.facts hW).1
               unfold growAt
               go_simp
               simp only [growUpon]
               first | (go_at_call 11; (with_reducible refine Calls.mono (spec_SignedSegmentValid _ _ _ _ now t l m u _ (by exact Rt.out.ext xe) (by exact Rl.out.ext xe) (by exact Rm.out.ext xe) (by exact Ru.out.ext xe) (by omega)) ?_); rintro e w9 ⟨rfl, e9⟩; exact ⟨_, rfl, e9, by rw [HV.out]⟩)
             first | (with_reducible refine wpL_boolT ?_) | (with_reducible refine wpL_boolF ?_) | (with_reducible refine wpL_bool (fun hB => ?_) (fun hB => ?_)) | skip
             all_goals simp only [Act.put, List.setIfInBounds_toArray, List.set_cons_zero, List.set_cons_succ])
          | ((refine wpL_grow ?_ rfl rfl ?_ ?_)
             · rfl
             · intro W hW hS
               have hC := (Ext.facts hW).1
               unfold growAt
               go_simp
               simp only [growUpon]
               first | (go_at_call 11; (with_reducible refine Calls.mono (spec_SignedSegmentValid _ _ _ _ now t l m u _ (by exact Rt.out.ext xe) (by exact Rl.out.ext xe) (by exact Rm.out.ext xe) (by exact Ru.out.ext xe) (by omega)) ?_); rintro e w9 ⟨rfl, e9⟩; exact ⟨_, rfl, e9, by rw [HV.out]⟩)
             intro v W' hW' hv
             first | (subst hv) | (obtain ⟨A5, n5, c5, rfl, -⟩ := id hv; clear hv) | (obtain ⟨A5, n5, c5, rfl⟩ := NO.slice hv) | skip
             all_goals simp only [Act.put, List.setIfInBounds_toArray, List.set_cons_zero, List.set_cons_succ]))
        refine wpL_nil (fun w4 e4 hL => ?_)
        clear hL
        go_wp2_with fail
        go_roundw
        case rel => exact ⟨k + 1, by omega, by go_num, by rw [HS.out]; exact NO.up SegmentOC.keeps HNO.out xe (Nat.le_refl _), xe⟩
        case measure => simp [intOf]; omega
      · have HS := Lib.hid (HY.out hv)
        have HV := Lib.hid hv; clear hv
        go_wp2_with fail
        refine wp_region_L (E := Ext) (w0 := wr) (G := fun τ => match τ with | 28 => some (fun v W => v = .bool true) | _ => none) Ext.refl (fun h k => Ext.trans h k) (by kernel_rfl) (by kernel_rfl) xg (Ext.drew (by exact Ext.refl _)) ?_
        repeat' (first
          | ((with_reducible refine wpL_skip ?_ ?_ ?_)
             · rfl
             · rfl
             simp only [Act.put, List.setIfInBounds_toArray, List.set_cons_zero, List.set_cons_succ])
          | ((with_reducible refine wpL_quiet ?_ ?_ ?_ ?_)
             · rfl
             · rfl
             · rfl
             apply Exists.intro
             refine ⟨fun W hW hS => ?_, ?_⟩
             · have hC := (Ext.facts hW).1
               go_simp
               first | done | (with_reducible rfl) | (rw [if_neg (by omega)]; exact ⟨rfl, rfl⟩) | rfl
             first | (with_reducible refine wpL_boolT ?_) | (with_reducible refine wpL_boolF ?_) | (with_reducible refine wpL_bool (fun hB => ?_) (fun hB => ?_)) | skip
             all_goals simp only [Act.put, List.setIfInBounds_toArray, List.set_cons_zero, List.set_cons_succ])
          | ((refine wpL_call ?_ rfl rfl ?_ ?_ ?_)
             · rfl
             · rfl
             · intro W hW hS
               have hC := (Ext.facts hW).1
               unfold growAt
               go_simp
               simp only [growUpon]
               first | (go_at_call 11; (with_reducible refine Calls.mono (spec_SignedSegmentValid _ _ _ _ now t l m u _ (by exact Rt.out.ext xe) (by exact Rl.out.ext xe) (by exact Rm.out.ext xe) (by exact Ru.out.ext xe) (by omega)) ?_); rintro e w9 ⟨rfl, e9⟩; exact ⟨_, rfl, e9, by rw [HV.out]⟩)
             first | (with_reducible refine wpL_boolT ?_) | (with_reducible refine wpL_boolF ?_) | (with_reducible refine wpL_bool (fun hB => ?_) (fun hB => ?_)) | skip
             all_goals simp only [Act.put, List.setIfInBounds_toArray, List.set_cons_zero, List.set_cons_succ])
          | ((refine wpL_grow ?_ rfl rfl ?_ ?_)
             · rfl
             · intro W hW hS
               have hC := (Ext.facts hW).1
               unfold growAt
               go_simp
               simp only [growUpon]
               first | (go_at_call 11; (with_reducible refine Calls.mono (spec_SignedSegmentValid _ _ _ _ now t l m u _ (by exact Rt.out.ext xe) (by exact Rl.out.ext xe) (by exact Rm.out.ext xe) (by exact Ru.out.ext xe) (by omega)) ?_); rintro e w9 ⟨rfl, e9⟩; exact ⟨_, rfl, e9, by rw [HV.out]⟩)
             intro v W' hW' hv
             first | (subst hv) | (obtain ⟨A5, n5, c5, rfl, -⟩ := id hv; clear hv) | (obtain ⟨A5, n5, c5, rfl⟩ := NO.slice hv) | skip
             all_goals simp only [Act.put, List.setIfInBounds_toArray, List.set_cons_zero, List.set_cons_succ]))
        refine wpL_nil (fun w4 e4 hL => ?_)
        clear hL
        have z4 := e4.size
        have c40 : w4.cell? ⟨b, off + k * 4, none⟩ = some (I u.seg.ts) := (e4.cell (by omega)).trans hu_0
        have c41 : w4.cell? ⟨b, off + k * 4 + 1, none⟩ = some (I u.seg.beta) := (e4.cell (by omega)).trans hu_1
        have c42 : w4.cell? ⟨b, off + k * 4 + 2, none⟩ = some (.slice Au_2 u.seg.hops.length cu_2) := (e4.cell (by omega)).trans hu_2
        have hb4 : b < w4.heap.size := by omega
        go_wp2_with fail
        refine (spec_l9Copy _ u.seg _ (by exact segV (Su_2.out.ext xe)) (by omega)).mono ?_
        rintro e w5 ⟨v5, rfl, o5, ew5⟩
        obtain ⟨a5, k5, q5, fp5, hv5, hoc5, hn5, hb5⟩ := o5.to_oc
        subst hv5
        have HOC5 := Lib.hid hoc5; have HN5 := Lib.hid hn5; have HB5 := Lib.hid hb5; clear o5 hoc5 hn5 hb5
        have z5 := ew5.size
        generalize hus : u.seg = us at *
        have HUS := Lib.hid hus; clear hus
        go_wp2_with (at_builtin; refine hold ?_)
        refine unhold (wpList_push (OC := SegmentOC) w0 SegmentOC.keeps SegmentOC.one rfl (.tmp 29) (.tmp 36) _ rfl 37 _ 3 40 Tryz.underlying33 info_Segment rfl (by omega) _ (ds) [us] wr.heap.size rfl _ 1 1 _ fp5 rfl
          (by exact NO.at' SegmentOC.keeps HNO.out xe) (by simp only [World.size_alloc]; omega) (row_one _ _ _ _ _ (by first | rfl | simp) rfl) (OL.one (SegmentOC.keeps _ _ _ _ _ (fun b hb hs => Ext.same (a := w5) xe b hs) HOC5.out) rfl) HN5.out (fun b hb => ⟨(by have := HB5.out b hb; omega), (by have := HB5.out b hb; simp only [World.size_alloc]; omega)⟩) (by omega) xe (by simp only [List.length_singleton]; omega) (by omega) ?_)
        intro v6 w6 no6 e6
        have NO6 := Lib.hid no6; clear no6
        go_wp2_with (at_builtin; refine hold ?_)
        go_roundw
        case rel => exact ⟨k + 1, by omega, by go_num, by rw [HS.out]; exact NO6.out, e6⟩
        case measure => simp [intOf]; omega
    · obtain rfl : k = x.length := by omega
      go_wp2_with fail
      go_ret
      refine ⟨_, rfl, ?_, xe⟩
      have h := HNO.out
      rw [List.take_length] at h
      exact NO.more h (by have := ew0.size; omega) (Nat.le_refl _)
end Go.Proofs.YtddaodemdkjijaaGreat
