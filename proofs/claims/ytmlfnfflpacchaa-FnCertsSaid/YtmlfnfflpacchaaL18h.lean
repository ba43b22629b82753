/- Contracts of the program's and the reference's functions on trust roots as texts: FormatRoot. -/
import Derived.Test.YtmlfnfflpacchaaL01s
import Derived.Test.YtmlfnfflpacchaaGL18
import Derived.Test.YtmlfnfflpacchaaGL0
namespace Go.Proofs.Ytmlfnfflpacchaa
open Go.RowKit
set_option linter.unusedVariables false
/-- A number as a text. -/
noncomputable def fmtS (n : Int) : ByteArray := ⟨(fmtInt n).toArray⟩
theorem fmtS_len (n : Int) : (fmtS n).size ≤ 22 := by
  have := fmtInt_len n
  simpa [fmtS, ByteArray.size] using this
noncomputable def fmtRoot (x : DTrustRoot) : ByteArray := fmtS x.isd ++ ⟨#[46]⟩ ++ fmtS x.version ++ ⟨#[32]⟩ ++ fmtS x.quorum ++ ⟨#[47]⟩ ++ fmtS (elements x.voters).length
set_option maxRecDepth 100000 in
set_option maxHeartbeats 1000000 in
theorem impl_FormatRoot (vx : Value) (x : DTrustRoot) (w : World) (hx : TrustRootV w.heap.size w vx x) :
    Calls Try.prog 55 #[vx] w fun e w' => e = .returned (.string (fmtRoot x)) ∧ Ext w w' := by
  obtain ⟨Ax_6, nx_6, cx_6, rfl, sx_6⟩ := id hx
  obtain ⟨lx_6, kx_6, mx_6⟩ := sx_6.len
  subst lx_6
  unfold maxLen at mx_6
  have Rx := Lib.hid hx; clear hx
  have Sx_6 := Lib.hid sx_6; clear sx_6
  have HF : Hid (fmtRoot x = fmtS x.isd ++ ⟨#[46]⟩ ++ fmtS x.version ++ ⟨#[32]⟩ ++ fmtS x.quorum ++ ⟨#[47]⟩ ++ fmtS (elements x.voters).length) := rfl
  have b0 := fmtS_len x.isd
  have b1 := fmtS_len x.version
  have b2 := fmtS_len x.quorum
  have b3 := fmtS_len (elements x.voters).length
  generalize hen : ((elements x.voters).length : Int) = en at *
  have HEN := Lib.hid hen; clear hen
  have hd : ∀ n w, Calls Try.prog 117 #[I n] w fun e w' => e = .returned (.string (fmtS n)) ∧ Ext w w' := fun n w => impl_FormatInt n w
  have HD := Lib.hid hd; clear hd
  generalize hf0 : fmtS x.isd = f0 at *
  generalize hf1 : fmtS x.version = f1 at *
  generalize hf2 : fmtS x.quorum = f2 at *
  generalize hf3 : fmtS en = f3 at *
  have HF0 := Lib.hid hf0; have HF1 := Lib.hid hf1; have HF2 := Lib.hid hf2; have HF3 := Lib.hid hf3; clear hf0 hf1 hf2 hf3
  go_enter Try.func55, Try.ntmps55
  go_wp2_with fail
  first | refine name_wp ?_ ?_ ?_ | refine name_calls ?_ ?_ ?_
  exact (fun W => Ext w W ∧ Blk W (w.heap.size) 33 [I x.isd, I x.version, I x.notBefore, I x.notAfter, I x.voters, I x.quorum, .slice Ax_6 x.sigs.length cx_6])
  exact ⟨xe, xb⟩
  rintro w0 ⟨ew0, bx⟩
  have lx := bx.lt
  obtain ⟨px_0, px_1, px_2, px_3, px_4, px_5, px_6⟩ := blk7 bx
  have Bx := Lib.hid bx; clear bx
  refine wp_region_L (E := Ext) (w0 := w0) (G := fun τ => match τ with | 5 => some (fun v W => v = .string f0) | 9 => some (fun v W => v = .string f1) | 14 => some (fun v W => v = .string f2) | 19 => some (fun v W => v = I en) | 20 => some (fun v W => v = .string f3) | _ => none) Ext.refl (fun h k => Ext.trans h k) (by kernel_rfl) (by kernel_rfl) xg (Ext.drew (by exact Ext.refl _)) ?_
  repeat' (first
    | ((with_reducible refine wpL_skip ?_ ?_ ?_)
       · rfl
       · rfl
       simp only [Act.put, List.setIfInBounds_toArray, List.set_cons_zero, List.set_cons_succ])
    | ((with_reducible refine wpL_quiet ?_ ?_ ?_ ?_)
       · rfl
       · rfl
       · rfl
       apply Exists.intro
       refine ⟨fun W hW hS => ?_, ?_⟩
       · have hC := (Ext.facts hW).1
         go_simp
         first | done | (with_reducible rfl) | (rw [if_neg (by omega)]; exact ⟨rfl, rfl⟩) | rfl
       first | (with_reducible refine wpL_boolT ?_) | (with_reducible refine wpL_boolF ?_) | (with_reducible refine wpL_bool (fun hB => ?_) (fun hB => ?_)) | skip
       all_goals simp only [Act.put, List.setIfInBounds_toArray, List.set_cons_zero, List.set_cons_succ])
    | ((refine wpL_call ?_ rfl rfl ?_ ?_ ?_)
       · rfl
       · rfl
       · intro W hW hS
         have hC := (Ext.facts hW).1
         unfold growAt
         go_simp
         simp only [growUpon]
         first | (go_at_call 117; (with_reducible refine Calls.mono (HD.out _ _) ?_); rintro e w9 ⟨rfl, e9⟩; exact ⟨_, rfl, e9, by rw [HF0.out]⟩) | (go_at_call 117; (with_reducible refine Calls.mono (HD.out _ _) ?_); rintro e w9 ⟨rfl, e9⟩; exact ⟨_, rfl, e9, by rw [HF1.out]⟩) | (go_at_call 117; (with_reducible refine Calls.mono (HD.out _ _) ?_); rintro e w9 ⟨rfl, e9⟩; exact ⟨_, rfl, e9, by rw [HF2.out]⟩) | (go_at_call 110; (with_reducible refine Calls.mono (impl_SetSize _ _) ?_); rintro e w9 ⟨rfl, e9⟩; exact ⟨_, rfl, e9, by rw [HEN.out]⟩) | (go_at_call 117; (with_reducible refine Calls.mono (HD.out _ _) ?_); rintro e w9 ⟨rfl, e9⟩; exact ⟨_, rfl, e9, by rw [HF3.out]⟩)
       first | (with_reducible refine wpL_boolT ?_) | (with_reducible refine wpL_boolF ?_) | (with_reducible refine wpL_bool (fun hB => ?_) (fun hB => ?_)) | skip
       all_goals simp only [Act.put, List.setIfInBounds_toArray, List.set_cons_zero, List.set_cons_succ])
    | ((refine wpL_grow ?_ rfl rfl ?_ ?_)
       · rfl
       · intro W hW hS
         have hC := (Ext.facts hW).1
         unfold growAt
         go_simp
         simp only [growUpon]
         first | (go_at_call 117; (with_reducible refine Calls.mono (HD.out _ _) ?_); rintro e w9 ⟨rfl, e9⟩; exact ⟨_, rfl, e9, by rw [HF0.out]⟩) | (go_at_call 117; (with_reducible refine Calls.mono (HD.out _ _) ?_); rintro e w9 ⟨rfl, e9⟩; exact ⟨_, rfl, e9, by rw [HF1.out]⟩) | (go_at_call 117; (with_reducible refine Calls.mono (HD.out _ _) ?_); rintro e w9 ⟨rfl, e9⟩; exact ⟨_, rfl, e9, by rw [HF2.out]⟩) | (go_at_call 110; (with_reducible refine Calls.mono (impl_SetSize _ _) ?_); rintro e w9 ⟨rfl, e9⟩; exact ⟨_, rfl, e9, by rw [HEN.out]⟩) | (go_at_call 117; (with_reducible refine Calls.mono (HD.out _ _) ?_); rintro e w9 ⟨rfl, e9⟩; exact ⟨_, rfl, e9, by rw [HF3.out]⟩)
       intro v W' hW' hv
       first | (subst hv) | (subst hv) | (subst hv) | (subst hv) | (subst hv) | (obtain ⟨A5, n5, c5, rfl, -⟩ := id hv; clear hv) | (obtain ⟨A5, n5, c5, rfl⟩ := NO.slice hv) | skip
       all_goals simp only [Act.put, List.setIfInBounds_toArray, List.set_cons_zero, List.set_cons_succ]))
  refine wpL_nil (fun w1 e1 hL => ?_)
  clear hL
  go_wp2_with fail
  go_ret
  exact ⟨by rw [HF.out]; rfl, xe⟩
set_option maxRecDepth 100000 in
set_option maxHeartbeats 1000000 in
theorem spec_FormatRoot (vx : Value) (x : DTrustRoot) (w : World) (hx : TrustRootV w.heap.size w vx x) :
    Calls Try.prog 56 #[vx] w fun e w' => e = .returned (.string (fmtRoot x)) ∧ Ext w w' := by
  obtain ⟨Ax_6, nx_6, cx_6, rfl, sx_6⟩ := id hx
  obtain ⟨lx_6, kx_6, mx_6⟩ := sx_6.len
  subst lx_6
  unfold maxLen at mx_6
  have Rx := Lib.hid hx; clear hx
  have Sx_6 := Lib.hid sx_6; clear sx_6
  have HF : Hid (fmtRoot x = fmtS x.isd ++ ⟨#[46]⟩ ++ fmtS x.version ++ ⟨#[32]⟩ ++ fmtS x.quorum ++ ⟨#[47]⟩ ++ fmtS (elements x.voters).length) := rfl
  have b0 := fmtS_len x.isd
  have b1 := fmtS_len x.version
  have b2 := fmtS_len x.quorum
  have b3 := fmtS_len (elements x.voters).length
  generalize hen : ((elements x.voters).length : Int) = en at *
  have HEN := Lib.hid hen; clear hen
  have hd : ∀ n w, Calls Try.prog 118 #[I n] w fun e w' => e = .returned (.string (fmtS n)) ∧ Ext w w' := fun n w => spec_FormatInt n w
  have HD := Lib.hid hd; clear hd
  generalize hf0 : fmtS x.isd = f0 at *
  generalize hf1 : fmtS x.version = f1 at *
  generalize hf2 : fmtS x.quorum = f2 at *
  generalize hf3 : fmtS en = f3 at *
  have HF0 := Lib.hid hf0; have HF1 := Lib.hid hf1; have HF2 := Lib.hid hf2; have HF3 := Lib.hid hf3; clear hf0 hf1 hf2 hf3
  go_enter Try.func56, Try.ntmps56
  go_wp2_with fail
  first | refine name_wp ?_ ?_ ?_ | refine name_calls ?_ ?_ ?_
  exact (fun W => Ext w W ∧ Blk W (w.heap.size) 33 [I x.isd, I x.version, I x.notBefore, I x.notAfter, I x.voters, I x.quorum, .slice Ax_6 x.sigs.length cx_6])
  exact ⟨xe, xb⟩
  rintro w0 ⟨ew0, bx⟩
  have lx := bx.lt
  obtain ⟨px_0, px_1, px_2, px_3, px_4, px_5, px_6⟩ := blk7 bx
  have Bx := Lib.hid bx; clear bx
  refine wp_region_L (E := Ext) (w0 := w0) (G := fun τ => match τ with | 5 => some (fun v W => v = .string f0) | 9 => some (fun v W => v = .string f1) | 14 => some (fun v W => v = .string f2) | 19 => some (fun v W => v = I en) | 20 => some (fun v W => v = .string f3) | _ => none) Ext.refl (fun h k => Ext.trans h k) (by kernel_rfl) (by kernel_rfl) xg (Ext.drew (by exact Ext.refl _)) ?_
  repeat' (first
    | ((with_reducible refine wpL_skip ?_ ?_ ?_)
       · rfl
       · rfl
       simp only [Act.put, List.setIfInBounds_toArray, List.set_cons_zero, List.set_cons_succ])
    | ((with_reducible refine wpL_quiet ?_ ?_ ?_ ?_)
       · rfl
       · rfl
       · rfl
       apply Exists.intro
       refine ⟨fun W hW hS => ?_, ?_⟩
       · have hC := (Ext.facts hW).1
         go_simp
         first | done | (with_reducible rfl) | (rw [if_neg (by omega)]; exact ⟨rfl, rfl⟩) | rfl
       first | (with_reducible refine wpL_boolT ?_) | (with_reducible refine wpL_boolF ?_) | (with_reducible refine wpL_bool (fun hB => ?_) (fun hB => ?_)) | skip
       all_goals simp only [Act.put, List.setIfInBounds_toArray, List.set_cons_zero, List.set_cons_succ])
    | ((refine wpL_call ?_ rfl rfl ?_ ?_ ?_)
       · rfl
       · rfl
       · intro W hW hS
         have hC := (Ext.facts hW).1
         unfold growAt
         go_simp
         simp only [growUpon]
         first | (go_at_call 118; (with_reducible refine Calls.mono (HD.out _ _) ?_); rintro e w9 ⟨rfl, e9⟩; exact ⟨_, rfl, e9, by rw [HF0.out]⟩) | (go_at_call 118; (with_reducible refine Calls.mono (HD.out _ _) ?_); rintro e w9 ⟨rfl, e9⟩; exact ⟨_, rfl, e9, by rw [HF1.out]⟩) | (go_at_call 118; (with_reducible refine Calls.mono (HD.out _ _) ?_); rintro e w9 ⟨rfl, e9⟩; exact ⟨_, rfl, e9, by rw [HF2.out]⟩) | (go_at_call 112; (with_reducible refine Calls.mono (spec_SetSize _ _) ?_); rintro e w9 ⟨rfl, e9⟩; exact ⟨_, rfl, e9, by rw [HEN.out]⟩) | (go_at_call 118; (with_reducible refine Calls.mono (HD.out _ _) ?_); rintro e w9 ⟨rfl, e9⟩; exact ⟨_, rfl, e9, by rw [HF3.out]⟩)
       first | (with_reducible refine wpL_boolT ?_) | (with_reducible refine wpL_boolF ?_) | (with_reducible refine wpL_bool (fun hB => ?_) (fun hB => ?_)) | skip
       all_goals simp only [Act.put, List.setIfInBounds_toArray, List.set_cons_zero, List.set_cons_succ])
    | ((refine wpL_grow ?_ rfl rfl ?_ ?_)
       · rfl
       · intro W hW hS
         have hC := (Ext.facts hW).1
         unfold growAt
         go_simp
         simp only [growUpon]
         first | (go_at_call 118; (with_reducible refine Calls.mono (HD.out _ _) ?_); rintro e w9 ⟨rfl, e9⟩; exact ⟨_, rfl, e9, by rw [HF0.out]⟩) | (go_at_call 118; (with_reducible refine Calls.mono (HD.out _ _) ?_); rintro e w9 ⟨rfl, e9⟩; exact ⟨_, rfl, e9, by rw [HF1.out]⟩) | (go_at_call 118; (with_reducible refine Calls.mono (HD.out _ _) ?_); rintro e w9 ⟨rfl, e9⟩; exact ⟨_, rfl, e9, by rw [HF2.out]⟩) | (go_at_call 112; (with_reducible refine Calls.mono (spec_SetSize _ _) ?_); rintro e w9 ⟨rfl, e9⟩; exact ⟨_, rfl, e9, by rw [HEN.out]⟩) | (go_at_call 118; (with_reducible refine Calls.mono (HD.out _ _) ?_); rintro e w9 ⟨rfl, e9⟩; exact ⟨_, rfl, e9, by rw [HF3.out]⟩)
       intro v W' hW' hv
       first | (subst hv) | (subst hv) | (subst hv) | (subst hv) | (subst hv) | (obtain ⟨A5, n5, c5, rfl, -⟩ := id hv; clear hv) | (obtain ⟨A5, n5, c5, rfl⟩ := NO.slice hv) | skip
       all_goals simp only [Act.put, List.setIfInBounds_toArray, List.set_cons_zero, List.set_cons_succ]))
  refine wpL_nil (fun w1 e1 hL => ?_)
  clear hL
  go_wp2_with fail
  go_ret
  exact ⟨by rw [HF.out]; rfl, xe⟩
end Go.Proofs.Ytmlfnfflpacchaa
