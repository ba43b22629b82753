/- Contracts of the program's and the reference's functions on certificates as texts: FormatCertificate. -/
import Derived.Test.YtmlfnfflpacchaaL06
import Derived.Test.YtmlfnfflpacchaaGHR
namespace Go.Proofs.Ytmlfnfflpacchaa
open Go.RowKit
set_option linter.unusedVariables false
noncomputable def fmtCert (t : DTopology) (x : DCertificate) : ByteArray := fmtAS t x.asn ++ ⟨#[64]⟩ ++ fmtS x.rootVersion ++ ⟨#[60]⟩ ++ fmtAS t x.sig.asn
set_option maxRecDepth 100000 in
set_option maxHeartbeats 1000000 in
theorem impl_FormatCertificate (vt : Value) (x : DCertificate) (t : DTopology) (w : World) (ht : TopologyV w.heap.size w vt t) :
    Calls Try.prog 70 #[vt, .agg #[I x.asn, I x.keyDigest, I x.rootVersion, I x.notBefore, I x.notAfter, I x.sig.asn, I x.sig.value]] w fun e w' => e = .returned (.string (fmtCert t x)) ∧ Ext w w' := by
  obtain ⟨At_0, nt_0, ct_0, At_1, nt_1, ct_1, rfl, st_0, st_1⟩ := id ht
  obtain ⟨lt_0, kt_0, mt_0⟩ := st_0.len
  subst lt_0
  unfold maxLen at mt_0
  obtain ⟨lt_1, kt_1, mt_1⟩ := st_1.len
  subst lt_1
  unfold maxLen at mt_1
  have Rt := Lib.hid ht; clear ht
  have St_0 := Lib.hid st_0; clear st_0
  have St_1 := Lib.hid st_1; clear st_1
  have HF : Hid (fmtCert t x = fmtAS t x.asn ++ ⟨#[64]⟩ ++ fmtS x.rootVersion ++ ⟨#[60]⟩ ++ fmtAS t x.sig.asn) := rfl
  have b0 := fmtAS_len t x.asn
  have b1 := fmtS_len x.rootVersion
  have b2 := fmtAS_len t x.sig.asn
  have hd : ∀ n w, Calls Try.prog 117 #[I n] w fun e w' => e = .returned (.string (fmtS n)) ∧ Ext w w' := fun n w => impl_FormatInt n w
  have HD := Lib.hid hd; clear hd
  generalize hf0 : fmtAS t x.asn = f0 at *
  generalize hf1 : fmtS x.rootVersion = f1 at *
  generalize hf2 : fmtAS t x.sig.asn = f2 at *
  have HF0 := Lib.hid hf0; have HF1 := Lib.hid hf1; have HF2 := Lib.hid hf2; clear hf0 hf1 hf2
  go_enter Try.func70, Try.ntmps70
  go_wp2_with fail
  first | refine name_wp ?_ ?_ ?_ | refine name_calls ?_ ?_ ?_
  exact (fun W => Ext w W ∧ Blk W (w.heap.size) 27 [.slice At_0 t.ases.length ct_0, .slice At_1 t.links.length ct_1] ∧ Blk W (w.heap.size + 1) 82 [I x.asn, I x.keyDigest, I x.rootVersion, I x.notBefore, I x.notAfter, I x.sig.asn, I x.sig.value])
  exact ⟨xe, xb, xb⟩
  rintro w0 ⟨ew0, bt, bx⟩
  have lt := bt.lt
  obtain ⟨pt_0, pt_1⟩ := blk2 bt
  have Bt := Lib.hid bt; clear bt
  have lx := bx.lt
  obtain ⟨px_0, px_1, px_2, px_3, px_4, px_5, px_6⟩ := blk7 bx
  have Bx := Lib.hid bx; clear bx
  refine wp_region_L (E := Ext) (w0 := w0) (G := fun τ => match τ with | 8 => some (fun v W => v = .string f0) | 12 => some (fun v W => v = .string f1) | 19 => some (fun v W => v = .string f2) | _ => none) Ext.refl (fun h k => Ext.trans h k) (by kernel_rfl) (by kernel_rfl) xg (Ext.drew (by exact Ext.refl _)) ?_
  repeat' (first
    | ((with_reducible refine wpL_skip ?_ ?_ ?_)
       · rfl
       · rfl
       simp only [Act.put, List.setIfInBounds_toArray, List.set_cons_zero, List.set_cons_succ])
    | ((with_reducible refine wpL_quiet ?_ ?_ ?_ ?_)
       · rfl
       · rfl
       · rfl
       apply Exists.intro
       refine ⟨fun W hW hS => ?_, ?_⟩
       · have hC := (Ext.facts hW).1
         go_simp
         first | done | (with_reducible rfl) | (rw [if_neg (by omega)]; exact ⟨rfl, rfl⟩) | rfl
       first | (with_reducible refine wpL_boolT ?_) | (with_reducible refine wpL_boolF ?_) | (with_reducible refine wpL_bool (fun hB => ?_) (fun hB => ?_)) | skip
       all_goals simp only [Act.put, List.setIfInBounds_toArray, List.set_cons_zero, List.set_cons_succ])
    | ((refine wpL_call ?_ rfl rfl ?_ ?_ ?_)
       · rfl
       · rfl
       · intro W hW hS
         have hC := (Ext.facts hW).1
         unfold growAt
         go_simp
         simp only [growUpon]
         first | (go_at_call 122; (with_reducible refine Calls.mono (impl_FormatAS _ _ t _ (by exact Rt.out.ext xe)) ?_); rintro e w9 ⟨rfl, e9⟩; exact ⟨_, rfl, e9, by rw [HF0.out]⟩) | (go_at_call 117; (with_reducible refine Calls.mono (HD.out _ _) ?_); rintro e w9 ⟨rfl, e9⟩; exact ⟨_, rfl, e9, by rw [HF1.out]⟩) | (go_at_call 122; (with_reducible refine Calls.mono (impl_FormatAS _ _ t _ (by exact Rt.out.ext xe)) ?_); rintro e w9 ⟨rfl, e9⟩; exact ⟨_, rfl, e9, by rw [HF2.out]⟩)
       first | (with_reducible refine wpL_boolT ?_) | (with_reducible refine wpL_boolF ?_) | (with_reducible refine wpL_bool (fun hB => ?_) (fun hB => ?_)) | skip
       all_goals simp only [Act.put, List.setIfInBounds_toArray, List.set_cons_zero, List.set_cons_succ])
    | ((refine wpL_grow ?_ rfl rfl ?_ ?_)
       · rfl
       · intro W hW hS
         have hC := (Ext.facts hW).1
         unfold growAt
         go_simp
         simp only [growUpon]
         first | (go_at_call 122; (with_reducible refine Calls.mono (impl_FormatAS _ _ t _ (by exact Rt.out.ext xe)) ?_); rintro e w9 ⟨rfl, e9⟩; exact ⟨_, rfl, e9, by rw [HF0.out]⟩) | (go_at_call 117; (with_reducible refine Calls.mono (HD.out _ _) ?_); rintro e w9 ⟨rfl, e9⟩; exact ⟨_, rfl, e9, by rw [HF1.out]⟩) | (go_at_call 122; (with_reducible refine Calls.mono (impl_FormatAS _ _ t _ (by exact Rt.out.ext xe)) ?_); rintro e w9 ⟨rfl, e9⟩; exact ⟨_, rfl, e9, by rw [HF2.out]⟩)
       intro v W' hW' hv
       first | (subst hv) | (subst hv) | (subst hv) | (obtain ⟨A5, n5, c5, rfl, -⟩ := id hv; clear hv) | (obtain ⟨A5, n5, c5, rfl⟩ := NO.slice hv) | skip
       all_goals simp only [Act.put, List.setIfInBounds_toArray, List.set_cons_zero, List.set_cons_succ]))
  refine wpL_nil (fun w1 e1 hL => ?_)
  clear hL
  go_wp2_with fail
  go_ret
  exact ⟨by rw [HF.out]; rfl, xe⟩
set_option maxRecDepth 100000 in
set_option maxHeartbeats 1000000 in
theorem spec_FormatCertificate (vt : Value) (x : DCertificate) (t : DTopology) (w : World) (ht : TopologyV w.heap.size w vt t) :
    Calls Try.prog 71 #[vt, .agg #[I x.asn, I x.keyDigest, I x.rootVersion, I x.notBefore, I x.notAfter, I x.sig.asn, I x.sig.value]] w fun e w' => e = .returned (.string (fmtCert t x)) ∧ Ext w w' := by
  obtain ⟨At_0, nt_0, ct_0, At_1, nt_1, ct_1, rfl, st_0, st_1⟩ := id ht
  obtain ⟨lt_0, kt_0, mt_0⟩ := st_0.len
  subst lt_0
  unfold maxLen at mt_0
  obtain ⟨lt_1, kt_1, mt_1⟩ := st_1.len
  subst lt_1
  unfold maxLen at mt_1
  have Rt := Lib.hid ht; clear ht
  have St_0 := Lib.hid st_0; clear st_0
  have St_1 := Lib.hid st_1; clear st_1
  have HF : Hid (fmtCert t x = fmtAS t x.asn ++ ⟨#[64]⟩ ++ fmtS x.rootVersion ++ ⟨#[60]⟩ ++ fmtAS t x.sig.asn) := rfl
  have b0 := fmtAS_len t x.asn
  have b1 := fmtS_len x.rootVersion
  have b2 := fmtAS_len t x.sig.asn
  have hd : ∀ n w, Calls Try.prog 118 #[I n] w fun e w' => e = .returned (.string (fmtS n)) ∧ Ext w w' := fun n w => spec_FormatInt n w
  have HD := Lib.hid hd; clear hd
  generalize hf0 : fmtAS t x.asn = f0 at *
  generalize hf1 : fmtS x.rootVersion = f1 at *
  generalize hf2 : fmtAS t x.sig.asn = f2 at *
  have HF0 := Lib.hid hf0; have HF1 := Lib.hid hf1; have HF2 := Lib.hid hf2; clear hf0 hf1 hf2
  go_enter Try.func71, Try.ntmps71
  go_wp2_with fail
  first | refine name_wp ?_ ?_ ?_ | refine name_calls ?_ ?_ ?_
  exact (fun W => Ext w W ∧ Blk W (w.heap.size) 27 [.slice At_0 t.ases.length ct_0, .slice At_1 t.links.length ct_1] ∧ Blk W (w.heap.size + 1) 82 [I x.asn, I x.keyDigest, I x.rootVersion, I x.notBefore, I x.notAfter, I x.sig.asn, I x.sig.value])
  exact ⟨xe, xb, xb⟩
  rintro w0 ⟨ew0, bt, bx⟩
  have lt := bt.lt
  obtain ⟨pt_0, pt_1⟩ := blk2 bt
  have Bt := Lib.hid bt; clear bt
  have lx := bx.lt
  obtain ⟨px_0, px_1, px_2, px_3, px_4, px_5, px_6⟩ := blk7 bx
  have Bx := Lib.hid bx; clear bx
  refine wp_region_L (E := Ext) (w0 := w0) (G := fun τ => match τ with | 8 => some (fun v W => v = .string f0) | 12 => some (fun v W => v = .string f1) | 19 => some (fun v W => v = .string f2) | _ => none) Ext.refl (fun h k => Ext.trans h k) (by kernel_rfl) (by kernel_rfl) xg (Ext.drew (by exact Ext.refl _)) ?_
  repeat' (first
    | ((with_reducible refine wpL_skip ?_ ?_ ?_)
       · rfl
       · rfl
       simp only [Act.put, List.setIfInBounds_toArray, List.set_cons_zero, List.set_cons_succ])
    | ((with_reducible refine wpL_quiet ?_ ?_ ?_ ?_)
       · rfl
       · rfl
       · rfl
       apply Exists.intro
       refine ⟨fun W hW hS => ?_, ?_⟩
       · have hC := (Ext.facts hW).1
         go_simp
         first | done | (with_reducible rfl) | (rw [if_neg (by omega)]; exact ⟨rfl, rfl⟩) | rfl
       first | (with_reducible refine wpL_boolT ?_) | (with_reducible refine wpL_boolF ?_) | (with_reducible refine wpL_bool (fun hB => ?_) (fun hB => ?_)) | skip
       all_goals simp only [Act.put, List.setIfInBounds_toArray, List.set_cons_zero, List.set_cons_succ])
    | ((refine wpL_call ?_ rfl rfl ?_ ?_ ?_)
       · rfl
       · rfl
       · intro W hW hS
         have hC := (Ext.facts hW).1
         unfold growAt
         go_simp
         simp only [growUpon]
         first | (go_at_call 123; (with_reducible refine Calls.mono (spec_FormatAS _ _ t _ (by exact Rt.out.ext xe)) ?_); rintro e w9 ⟨rfl, e9⟩; exact ⟨_, rfl, e9, by rw [HF0.out]⟩) | (go_at_call 118; (with_reducible refine Calls.mono (HD.out _ _) ?_); rintro e w9 ⟨rfl, e9⟩; exact ⟨_, rfl, e9, by rw [HF1.out]⟩) | (go_at_call 123; (with_reducible refine Calls.mono (spec_FormatAS _ _ t _ (by exact Rt.out.ext xe)) ?_); rintro e w9 ⟨rfl, e9⟩; exact ⟨_, rfl, e9, by rw [HF2.out]⟩)
       first | (with_reducible refine wpL_boolT ?_) | (with_reducible refine wpL_boolF ?_) | (with_reducible refine wpL_bool (fun hB => ?_) (fun hB => ?_)) | skip
       all_goals simp only [Act.put, List.setIfInBounds_toArray, List.set_cons_zero, List.set_cons_succ])
    | ((refine wpL_grow ?_ rfl rfl ?_ ?_)
       · rfl
       · intro W hW hS
         have hC := (Ext.facts hW).1
         unfold growAt
         go_simp
         simp only [growUpon]
         first | (go_at_call 123; (with_reducible refine Calls.mono (spec_FormatAS _ _ t _ (by exact Rt.out.ext xe)) ?_); rintro e w9 ⟨rfl, e9⟩; exact ⟨_, rfl, e9, by rw [HF0.out]⟩) | (go_at_call 118; (with_reducible refine Calls.mono (HD.out _ _) ?_); rintro e w9 ⟨rfl, e9⟩; exact ⟨_, rfl, e9, by rw [HF1.out]⟩) | (go_at_call 123; (with_reducible refine Calls.mono (spec_FormatAS _ _ t _ (by exact Rt.out.ext xe)) ?_); rintro e w9 ⟨rfl, e9⟩; exact ⟨_, rfl, e9, by rw [HF2.out]⟩)
       intro v W' hW' hv
       first | (subst hv) | (subst hv) | (subst hv) | (obtain ⟨A5, n5, c5, rfl, -⟩ := id hv; clear hv) | (obtain ⟨A5, n5, c5, rfl⟩ := NO.slice hv) | skip
       all_goals simp only [Act.put, List.setIfInBounds_toArray, List.set_cons_zero, List.set_cons_succ]))
  refine wpL_nil (fun w1 e1 hL => ?_)
  clear hL
  go_wp2_with fail
  go_ret
  exact ⟨by rw [HF.out]; rfl, xe⟩
end Go.Proofs.Ytmlfnfflpacchaa
