/- Contracts of the program's and the reference's functions on certificates over a topology: IssueCertificate. -/
import Derived.Test.YtddaodemdkjijaaGreatL19
import Derived.Test.YtddaodemdkjijaaGreatGL17
import Derived.Test.YtddaodemdkjijaaGreatGGrow
namespace Go.Proofs.YtddaodemdkjijaaGreat
open Go.RowKit
set_option linter.unusedVariables false
def issueCert (t : DTopology) (r by_ ver from_ till : Int) : DCertificate :=
  if isAs t r && isAs t by_ then ⟨r, digest [(asAt t r).key], ver, from_, till, signAs t by_ [r, digest [(asAt t r).key], ver, from_, till]⟩ else ⟨0, 0, 0, 0, 0, ⟨0, 0⟩⟩
set_option maxRecDepth 100000 in
set_option maxHeartbeats 1000000 in
theorem spec_IssueCertificate_no (vt : Value) (r by_ ver from_ till : Int) (t : DTopology) (w : World) (ht : TopologyV w.heap.size w vt t) (hno : (isAs t r && isAs t by_) = false) :
    Calls Tryz.prog 41 #[vt, I r, I by_, I ver, I from_, I till] w fun e w' => e = .returned (.agg #[I 0, I 0, I 0, I 0, I 0, I 0, I 0]) ∧ Ext w w' := by
  obtain ⟨A0, n0, c0, A1, n1, c1, rfl, s0, s1⟩ := ht
  have S0 := Lib.hid s0; have S1 := Lib.hid s1; clear s0 s1
  cases hv : isAs t r
  · have HV := Lib.hid hv
    clear hv hno
    go_enter Tryz.func41, Tryz.ntmps41
    go_wp2_with fail
    refine (spec_l5Realm _ _ t _ (by exact ⟨_, _, _, _, _, _, rfl, S0.out.ext xe, S1.out.ext xe⟩)).mono ?_
    rintro e w1 ⟨rfl, e1⟩
    rw [HV.out]
    obtain ⟨hc1, hf1, hz1⟩ := e1.facts
    simp only [World.size_alloc] at hc1 hf1 hz1
    have la : w.heap.size < w1.heap.size := by omega
    have lb : w.heap.size + 1 < w1.heap.size := by omega
    go_wp2_with fail
    refine bodyPost_ret (v := .agg #[I 0, I 0, I 0, I 0, I 0, I 0, I 0]) (by simp [results, Tryz.results41, go_sem, *]) rfl ⟨rfl, xe⟩
  · have hv2 : isAs t by_ = false := by simpa [hv] using hno
    have HV := Lib.hid hv; have HV2 := Lib.hid hv2
    clear hv hv2 hno
    go_enter Tryz.func41, Tryz.ntmps41
    go_wp2_with fail
    refine (spec_l5Realm _ _ t _ (by exact ⟨_, _, _, _, _, _, rfl, S0.out.ext xe, S1.out.ext xe⟩)).mono ?_
    rintro e w1 ⟨rfl, e1⟩
    rw [HV.out]
    obtain ⟨hc1, hf1, hz1⟩ := e1.facts
    simp only [World.size_alloc] at hc1 hf1 hz1
    have la : w.heap.size < w1.heap.size := by omega
    have lb : w.heap.size + 1 < w1.heap.size := by omega
    go_wp2_with fail
    refine (spec_l5Realm _ _ t _ (by exact ⟨_, _, _, _, _, _, rfl, S0.out.ext xe, S1.out.ext xe⟩)).mono ?_
    rintro e w2 ⟨rfl, e2⟩
    rw [HV2.out]
    obtain ⟨hc2, hf2, hz2⟩ := e2.facts
    have lc : w.heap.size < w2.heap.size := by omega
    have ld : w.heap.size + 1 < w2.heap.size := by omega
    go_wp2_with fail
    refine bodyPost_ret (v := .agg #[I 0, I 0, I 0, I 0, I 0, I 0, I 0]) (by simp [results, Tryz.results41, go_sem, *]) rfl ⟨rfl, xe⟩
set_option maxRecDepth 100000 in
set_option maxHeartbeats 1000000 in
theorem spec_IssueCertificate (vt : Value) (r by_ ver from_ till : Int) (t : DTopology) (w : World) (ht : TopologyV w.heap.size w vt t) :
    Calls Tryz.prog 41 #[vt, I r, I by_, I ver, I from_, I till] w fun e w' => e = .returned (.agg #[I (issueCert t r by_ ver from_ till).asn, I (issueCert t r by_ ver from_ till).keyDigest, I (issueCert t r by_ ver from_ till).rootVersion, I (issueCert t r by_ ver from_ till).notBefore, I (issueCert t r by_ ver from_ till).notAfter, I (issueCert t r by_ ver from_ till).sig.asn, I (issueCert t r by_ ver from_ till).sig.value]) ∧ Ext w w' := by
  cases hv : (isAs t r && isAs t by_)
  · have HF : Hid (issueCert t r by_ ver from_ till = ⟨0, 0, 0, 0, 0, ⟨0, 0⟩⟩) := by unfold Hid issueCert; rw [hv]; rfl
    refine (spec_IssueCertificate_no vt r by_ ver from_ till t w ht hv).mono fun e w' h => ?_
    rw [HF.out]
    exact h
  · simp only [Bool.and_eq_true] at hv
    obtain ⟨hv1, hv2⟩ := hv
    obtain ⟨At_0, nt_0, ct_0, At_1, nt_1, ct_1, rfl, st_0, st_1⟩ := id ht
    obtain ⟨lt_0, kt_0, mt_0⟩ := st_0.len
    subst lt_0
    unfold maxLen at mt_0
    obtain ⟨lt_1, kt_1, mt_1⟩ := st_1.len
    subst lt_1
    unfold maxLen at mt_1
    have Rt := Lib.hid ht; clear ht
    have St_0 := Lib.hid st_0; clear st_0
    have St_1 := Lib.hid st_1; clear st_1
    obtain ⟨k, rfl, hkl⟩ := isAs_nat hv1
    have HF : Hid (issueCert t k by_ ver from_ till = ⟨k, digest [t.ases[k].key], ver, from_, till, signAs t by_ (certData ⟨k, digest [t.ases[k].key], ver, from_, till, ⟨0, 0⟩⟩)⟩) := by
      unfold Hid issueCert
      rw [hv1, hv2, asAt_nat t k hkl]
      rfl
    have H1 := Lib.hid hv1; have H2 := Lib.hid hv2; clear hv1 hv2
    go_enter Tryz.func41, Tryz.ntmps41
    go_wp2_with fail
    refine name_calls (fun W => Ext w W ∧ Blk W w.heap.size 27 [.slice At_0 t.ases.length ct_0, .slice At_1 t.links.length ct_1] ∧ Blk W (w.heap.size + 1) 85 [I 0, I 0, I 0, I 0, I 0, I 0, I 0]) ⟨xe, xb, xb⟩ ?_
    rintro w0 ⟨ew0, bt, br⟩
    have Bt := Lib.hid bt; have BR := Lib.hid br; clear bt br
    refine (spec_l5Realm _ _ (t) _ (by exact Rt.out.ext xe)).mono ?_
    rintro e w1 ⟨rfl, ew1⟩
    have bt := Bt.out.ext (w' := w1) xe
    have lt := bt.lt
    obtain ⟨pt_0, pt_1⟩ := blk2 bt
    clear bt
    rw [H1.out]
    go_wp2_with fail
    refine (spec_l5Realm _ _ (t) _ (by exact Rt.out.ext xe)).mono ?_
    rintro e w2 ⟨rfl, ew2⟩
    have bt := Bt.out.ext (w' := w2) xe
    have lt := bt.lt
    obtain ⟨pt_0, pt_1⟩ := blk2 bt
    clear bt
    rw [H2.out]
    obtain ⟨b, off, rfl, hb, hkk, hc⟩ := (St_0.out.ext (w' := w2) xe).at_ hkl
    generalize t.ases[k] = y at *
    obtain ⟨h0, h1, h2⟩ := hc
    have i0 : (0 : Int) ≤ (k : Int) := by omega
    have i1 : (k : Int) < (t.ases.length : Int) := by omega
    go_wp2_with fail
    refine (spec_Digest _ [y.key] _ (by exact Own.ints (E := 3) (n := 1) (lo := 0) (own_new _ _ _ _ _ rfl (Nat.zero_le _)))).mono ?_
    rintro e w9 ⟨rfl, rfl⟩
    have hdb := dig_bounds [y.key] 7 (by omega)
    change 0 ≤ digest [y.key] ∧ digest [y.key] < 2147483647 at hdb
    generalize digest [y.key] = dg at *
    go_wp2_with fail
    refine name_wp (fun W => Ext w2 W ∧ Blk W (w2.heap.size + 1) 85 [I k, I dg, I ver, I from_, I till, I 0, I 0]) ⟨xe, xb⟩ ?_
    rintro w3 ⟨ew3, bx⟩
    have lx := bx.lt
    obtain ⟨qx0, qx1, qx2, qx3, qx4, qx5, qx6⟩ := blk7 bx
    have BX := Lib.hid bx; clear bx
    have bt := Bt.out.ext (w' := w3) xe
    have lt := bt.lt
    obtain ⟨pt_0, pt_1⟩ := blk2 bt
    clear bt
    clear h0 h1 h2 i0 i1
    refine wp_region_LT 6 (E := Ext) (w0 := w3) (G := fun τ => match τ with | 41 => some (fun v W => IntS W.heap.size W v (certData ⟨k, dg, ver, from_, till, ⟨0, 0⟩⟩)) | 42 => some (fun v _ => v = .agg #[I (signAs t by_ (certData ⟨k, dg, ver, from_, till, ⟨0, 0⟩⟩)).asn, I (signAs t by_ (certData ⟨k, dg, ver, from_, till, ⟨0, 0⟩⟩)).value]) | _ => none) Ext.refl (fun h k => Ext.trans h k) (by kernel_rfl) (by kernel_rfl) (by kernel_rfl) (by kernel_rfl) (by kernel_rfl) (by kernel_rfl) xg (Ext.drew (by exact Ext.refl _)) ?_
    simp only [List.take_succ_cons, List.take_zero]
    repeat' (first
      | ((with_reducible refine wpL_skip ?_ ?_ ?_)
         · rfl
         · rfl
         simp only [Act.put, List.setIfInBounds_toArray, List.set_cons_zero, List.set_cons_succ])
      | ((with_reducible refine wpL_quiet ?_ ?_ ?_ ?_)
         · rfl
         · rfl
         · rfl
         apply Exists.intro
         refine ⟨fun W hW hS => ?_, ?_⟩
         · have hC := (Ext.facts hW).1
           go_simp
           first | done | (with_reducible rfl) | (rw [if_neg (by omega)]; exact ⟨rfl, rfl⟩) | rfl
         first | (with_reducible refine wpL_boolT ?_) | (with_reducible refine wpL_boolF ?_) | (with_reducible refine wpL_bool (fun hB => ?_) (fun hB => ?_)) | skip
         all_goals simp only [Act.put, List.setIfInBounds_toArray, List.set_cons_zero, List.set_cons_succ])
      | ((refine wpL_call ?_ rfl rfl ?_ ?_ ?_)
         · rfl
         · rfl
         · intro W hW hS
           have hC := (Ext.facts hW).1
           unfold growAt
           go_simp
           simp only [growUpon]
           first | (go_at_call 88; ((with_reducible refine Calls.mono (spec_CertificateData (⟨k, dg, ver, from_, till, ⟨0, 0⟩⟩) _) ?_)); rintro e w9 ⟨v9, rfl, o9, e9⟩; exact ⟨_, rfl, e9, IntSO_rd o9⟩) | (go_at_call 87; have hs41 : IntS W.heap.size W _ (certData ⟨k, dg, ver, from_, till, ⟨0, 0⟩⟩) := hS 41 (by decide); ((with_reducible refine Calls.mono (spec_SignAs _ _ _ (t) (certData ⟨k, dg, ver, from_, till, ⟨0, 0⟩⟩) _ (by exact Rt.out.ext xe) (by exact hs41) (by first | omega | (simp [rootData]; done) | (simp [certData]; done) | (simp only [List.length_cons, List.length_nil]; omega))) ?_)); rintro e w9 ⟨rfl, e9⟩; exact ⟨_, rfl, e9, rfl⟩)
         first | (with_reducible refine wpL_boolT ?_) | (with_reducible refine wpL_boolF ?_) | (with_reducible refine wpL_bool (fun hB => ?_) (fun hB => ?_)) | skip
         all_goals simp only [Act.put, List.setIfInBounds_toArray, List.set_cons_zero, List.set_cons_succ])
      | ((refine wpL_grow ?_ rfl rfl ?_ ?_)
         · rfl
         · intro W hW hS
           have hC := (Ext.facts hW).1
           unfold growAt
           go_simp
           simp only [growUpon]
           first | (go_at_call 88; ((with_reducible refine Calls.mono (spec_CertificateData (⟨k, dg, ver, from_, till, ⟨0, 0⟩⟩) _) ?_)); rintro e w9 ⟨v9, rfl, o9, e9⟩; exact ⟨_, rfl, e9, IntSO_rd o9⟩) | (go_at_call 87; have hs41 : IntS W.heap.size W _ (certData ⟨k, dg, ver, from_, till, ⟨0, 0⟩⟩) := hS 41 (by decide); ((with_reducible refine Calls.mono (spec_SignAs _ _ _ (t) (certData ⟨k, dg, ver, from_, till, ⟨0, 0⟩⟩) _ (by exact Rt.out.ext xe) (by exact hs41) (by first | omega | (simp [rootData]; done) | (simp [certData]; done) | (simp only [List.length_cons, List.length_nil]; omega))) ?_)); rintro e w9 ⟨rfl, e9⟩; exact ⟨_, rfl, e9, rfl⟩)
         intro v W' hW' hv
         first  | (obtain ⟨A5, n5, c5, rfl, -⟩ := id hv; clear hv) | (obtain ⟨A5, n5, c5, rfl⟩ := NO.slice hv) | skip
         all_goals simp only [Act.put, List.setIfInBounds_toArray, List.set_cons_zero, List.set_cons_succ]))
    refine wpL_nil (fun w4 e4 hL => ?_)
    clear hL
    generalize signAs t by_ (certData ⟨k, dg, ver, from_, till, ⟨0, 0⟩⟩) = sg at *
    have bx := BX.out.ext (e4)
    have lbx := bx.lt
    obtain ⟨qbx_0, qbx_1, qbx_2, qbx_3, qbx_4, qbx_5, qbx_6⟩ := blk7 bx
    have fbx_0 := bx.frozen 0
    have fbx_1 := bx.frozen 1
    have fbx_2 := bx.frozen 2
    have fbx_3 := bx.frozen 3
    have fbx_4 := bx.frozen 4
    have fbx_5 := bx.frozen 5
    have fbx_6 := bx.frozen 6
    clear bx
    have br := BR.out.ext (w' := w4) xe
    have lbr := br.lt
    obtain ⟨qbr_0, qbr_1, qbr_2, qbr_3, qbr_4, qbr_5, qbr_6⟩ := blk7 br
    have fbr_0 := br.frozen 0
    have fbr_1 := br.frozen 1
    have fbr_2 := br.frozen 2
    have fbr_3 := br.frozen 3
    have fbr_4 := br.frozen 4
    have fbr_5 := br.frozen 5
    have fbr_6 := br.frozen 6
    clear br
    clear qx0 qx1 qx2 qx3 qx4 qx5 qx6 lx
    have zz := ew3.size
    have z4 := e4.size
    simp only [List.drop_succ_cons, List.drop_zero]
    go_wp2_with fail
    rw [HF.out]
    refine bodyPost_ret (v := .agg #[I k, I dg, I ver, I from_, I till, I sg.asn, I sg.value]) (by simp [results, Tryz.results41, go_sem, *]) rfl ⟨rfl, xe⟩
end Go.Proofs.YtddaodemdkjijaaGreat
