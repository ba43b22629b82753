/- Contracts of the program's and the reference's functions on segments: SegmentKind. -/
import Derived.Test.YtmopmgaeiokfjaaGreatGL9e
set_option maxRecDepth 100000
set_option maxHeartbeats 1000000
namespace Go.Proofs.YtmopmgaeiokfjaaGreat
open Go.RowKit
set_option linter.unusedVariables false
def kstep (t : DTopology) (o : Option Int) (h : DHop) : Option Int :=
 match o with
 | none => none
 | some z => if h.egr = 0 then some z else if z = 0 then some (ifKind t h.asn h.egr) else if ifKind t h.asn h.egr = z then some z else none
def kindFold (t : DTopology) (l : List DHop) : Option Int := l.foldl (kstep t) (some 0)
def kindRes (o : Option Int) : Int := match o with | some z => if z = 1 then 1 else if z = 2 then 2 else 0 | none => 0
def segKind (t : DTopology) (s : DSegment) : Int := if wellF t s && isCore t (s.hops.getD 0 dHop).asn then kindRes (kindFold t s.hops) else 0
theorem kfold_none (t : DTopology) : ∀ l : List DHop, l.foldl (kstep t) none = none
 | [] => rfl
 | _ :: l => kfold_none t l
theorem kindFold_none {t : DTopology} {l : List DHop} {k : Nat} (h : (l.take k).foldl (kstep t) (some 0) = none) : kindFold t l = none := by
 unfold kindFold;rw [← List.take_append_drop k l, List.foldl_append, h];exact kfold_none t _
theorem wellF_len {t : DTopology} {s : DSegment} (h : wellF t s = true) : 0 < s.hops.length := by
 unfold wellF at h;rw [Bool.and_eq_true] at h;exact hopsFine_len h.1
theorem impl_SegmentKind (vt vs : Value) (t : DTopology) (s : DSegment) (w : World) (ht : TopologyV w.heap.size w vt t) (hs : SegmentV w.heap.size w vs s) :
 Calls Tryz.prog 58 #[vt, vs] w fun e w' => e = .returned (I (segKind t s)) ∧ Ext w w' := by
 obtain ⟨At_0, nt_0, ct_0, At_1, nt_1, ct_1, rfl, st_0, st_1⟩ := id ht;obtain ⟨lt_0, kt_0, mt_0⟩ := st_0.len;subst lt_0;unfold maxLen at mt_0;obtain ⟨lt_1, kt_1, mt_1⟩ := st_1.len;subst lt_1;unfold maxLen at mt_1;have Rt := Lib.hid ht; clear ht;have St_0 := Lib.hid st_0; clear st_0;have St_1 := Lib.hid st_1; clear st_1;obtain ⟨As_2, ns_2, cs_2, rfl, ss_2⟩ := id hs;obtain ⟨ls_2, ks_2, ms_2⟩ := ss_2.len;subst ls_2;unfold maxLen at ms_2;have Rs := Lib.hid hs; clear hs;have Ss_2 := Lib.hid ss_2; clear ss_2;cases hh : wellF t s
 · have HF : Hid (segKind t s = 0) := by unfold Hid segKind; rw [hh]; rfl
   go_enter Tryz.func58, Tryz.ntmps58
   go_wp2_with fail
   first | refine name_wp ?_ ?_ ?_ | refine name_calls ?_ ?_ ?_
   exact (fun W => Ext w W ∧ Blk W (w.heap.size) 27 [.slice At_0 t.ases.length ct_0, .slice At_1 t.links.length ct_1] ∧ Blk W (w.heap.size + 1) 33 [I s.ts, I s.beta, .slice As_2 s.hops.length cs_2]);exact ⟨xe, xb, xb⟩;rintro w0 ⟨ew0, bt, bs⟩;have lt := bt.lt;obtain ⟨pt_0, pt_1⟩ := blk2 bt;have Bt := Lib.hid bt; clear bt;have ls := bs.lt;obtain ⟨ps_0, ps_1, ps_2⟩ := blk3 bs;have Bs := Lib.hid bs; clear bs;refine wp_region_L (E := Ext) (w0 := w0) (G := fun τ => match τ with | 11 => some (fun v _ => v = .bool (false)) | _ => none) Ext.refl (fun h k => Ext.trans h k) (by kernel_rfl) (by kernel_rfl) xg (Ext.drew (by exact Ext.refl _)) ?_
   repeat' (first
    | ((with_reducible refine wpL_skip ?_ ?_ ?_)
       · rfl
       · rfl
       simp only [putS])
    | ((with_reducible refine wpL_quiet ?_ ?_ ?_ ?_)
       · rfl
       · rfl
       · rfl
       apply Exists.intro
       refine ⟨fun W hW hS => ?_, ?_⟩
       · have hC := (Ext.facts hW).1
         go_simp
         first | done | (with_reducible rfl) | (rw [if_neg (by omega)]; exact ⟨rfl, rfl⟩) | rfl
       first | (with_reducible refine wpL_boolT ?_) | (with_reducible refine wpL_boolF ?_) | (with_reducible refine wpL_bool (fun hB => ?_) (fun hB => ?_)) | skip
       all_goals simp only [putS])
    | ((refine wpL_call ?_ rfl rfl ?_ ?_ ?_)
       · rfl
       · rfl
       · intro W hW hS
         have hC := (Ext.facts hW).1;unfold growAt
         go_simp
         simp only [growUpon]
         first | (go_at_call 56; ((with_reducible refine Calls.mono (impl_WellFormed _ _ (t) (s) _ (by exact Rt.out.ext xe) (by exact Rs.out.ext xe)) ?_)); rintro e w9 ⟨rfl, e9⟩; exact ⟨_, rfl, e9, by first | rfl | (simp only [*])⟩)
       first | (with_reducible refine wpL_boolT ?_) | (with_reducible refine wpL_boolF ?_) | (with_reducible refine wpL_bool (fun hB => ?_) (fun hB => ?_)) | skip
       all_goals simp only [putS]))
   all_goals (refine wpL_nil (fun w1 e1 hL => ?_); clear hL)
   all_goals (go_wp2_with fail; go_ret; exact ⟨ret_int HF.out.symm, xe⟩)
 · have h0 := wellF_len hh
   have d1 : (0 : Int) < (s.hops.length : Int) := by omega
   go_enter Tryz.func58, Tryz.ntmps58
   go_wp2_with fail
   first | refine name_wp ?_ ?_ ?_ | refine name_calls ?_ ?_ ?_
   exact (fun W => Ext w W ∧ Blk W (w.heap.size) 27 [.slice At_0 t.ases.length ct_0, .slice At_1 t.links.length ct_1] ∧ Blk W (w.heap.size + 1) 33 [I s.ts, I s.beta, .slice As_2 s.hops.length cs_2]);exact ⟨xe, xb, xb⟩;rintro w0 ⟨ew0, bt, bs⟩;have lt := bt.lt;obtain ⟨pt_0, pt_1⟩ := blk2 bt;have Bt := Lib.hid bt; clear bt;have ls := bs.lt;obtain ⟨ps_0, ps_1, ps_2⟩ := blk3 bs;have Bs := Lib.hid bs; clear bs;obtain ⟨b, off, rfl, hb, hkl, hc⟩ := (Ss_2.out.ext (w' := w0) xe).at_ h0;have HG0 := Lib.hid (getD_is (d := dHop) hkl)
   generalize s.hops[0] = x at *
   simp only [HopAt, Nat.zero_mul, Nat.add_zero] at hc;obtain ⟨x0, x1, x2, x3, x4⟩ := hc
   have HK : Hid (segKind t s = if isCore t x.asn then kindRes (kindFold t s.hops) else 0) := by unfold Hid segKind; rw [hh, HG0.out]; rfl
   refine wp_region_L (E := Ext) (w0 := w0) (G := fun τ => match τ with | 11 => some (fun v _ => v = .bool (true)) | 20 => some (fun v _ => v = .bool (isCore t x.asn)) | _ => none) Ext.refl (fun h k => Ext.trans h k) (by kernel_rfl) (by kernel_rfl) xg (Ext.drew (by exact Ext.refl _)) ?_
   repeat' (first
    | ((with_reducible refine wpL_skip ?_ ?_ ?_)
       · rfl
       · rfl
       simp only [putS])
    | ((with_reducible refine wpL_quiet ?_ ?_ ?_ ?_)
       · rfl
       · rfl
       · rfl
       apply Exists.intro
       refine ⟨fun W hW hS => ?_, ?_⟩
       · have hC := (Ext.facts hW).1
         go_simp
         first | done | (with_reducible rfl) | (rw [if_neg (by omega)]; exact ⟨rfl, rfl⟩) | rfl
       first | (with_reducible refine wpL_boolT ?_) | (with_reducible refine wpL_boolF ?_) | (with_reducible refine wpL_bool (fun hB => ?_) (fun hB => ?_)) | skip
       all_goals simp only [putS])
    | ((refine wpL_call ?_ rfl rfl ?_ ?_ ?_)
       · rfl
       · rfl
       · intro W hW hS
         have hC := (Ext.facts hW).1;unfold growAt
         go_simp
         simp only [growUpon]
         first | (go_at_call 56; ((with_reducible refine Calls.mono (impl_WellFormed _ _ (t) (s) _ (by exact Rt.out.ext xe) (by exact Rs.out.ext xe)) ?_)); rintro e w9 ⟨rfl, e9⟩; exact ⟨_, rfl, e9, by first | rfl | (simp only [*])⟩) | (go_at_call 101; ((with_reducible refine Calls.mono (impl_isCore _ _ (t) _ (by exact Rt.out.ext xe)) ?_)); rintro e w9 ⟨rfl, e9⟩; exact ⟨_, rfl, e9, by first | rfl | (simp only [*])⟩)
       first | (with_reducible refine wpL_boolT ?_) | (with_reducible refine wpL_boolF ?_) | (with_reducible refine wpL_bool (fun hB => ?_) (fun hB => ?_)) | skip
       all_goals simp only [putS]))
   all_goals (refine wpL_nil (fun w1 e1 hL => ?_); clear hL)
   rotate_left
   · have HN : Hid (segKind t s = 0) := by unfold Hid; rw [HK.out]; simp [*]
     go_wp2_with fail
     go_ret
     exact ⟨ret_int HN.out.symm, xe⟩
   have HM : Hid (segKind t s = kindRes (kindFold t s.hops)) := by unfold Hid; rw [HK.out]; simp [*]
   clear x0 x1 x2 x3 x4 hB hh;have bs := Bs.out.ext (w' := w1) xe;have ls := bs.lt;obtain ⟨ps_0, ps_1, ps_2⟩ := blk3 bs;clear bs;go_wp2_with fail
   go_loopw [5, 26] (fun v i wr => ∃ (k : Nat) (z : Int), k ≤ s.hops.length ∧ i = I k ∧ v = I z ∧ (s.hops.take k).foldl (kstep t) (some 0) = some z ∧ Ext w1 wr) (fun _ i _ => s.hops.length - (intOf i).toNat)
   case atStart => exact ⟨0, 0, by omega, rfl, rfl, rfl, Ext.refl _⟩
   case round =>
    obtain ⟨k, z, hk, rfl, rfl, hq, he⟩ := hrel;have HQ := Lib.hid hq; clear hq;have bt := Bt.out.ext (w' := wr) xe;have lt := bt.lt;obtain ⟨pt_0, pt_1⟩ := blk2 bt;clear bt;by_cases hlt : k < s.hops.length
    · obtain ⟨b3, off3, hA3, hb3, hkl3, hc3⟩ := (Ss_2.out.ext (w' := wr) xe).at_ hlt
      cases hA3
      have HX : Hid ((s.hops.take (k + 1)).foldl (kstep t) (some 0) = kstep t (some z) s.hops[k]) := by unfold Hid; rw [foldl_snoc (kstep t) (some 0) s.hops k hkl3, HQ.out]
      generalize s.hops[k] = h at *
      obtain ⟨hh_0, hh_1, hh_2, hh_3, hh_4⟩ := hc3;by_cases hz : h.egr = 0
      · have HY : Hid ((s.hops.take (k + 1)).foldl (kstep t) (some 0) = some z) := by unfold Hid; rw [HX.out]; unfold kstep; simp only [hz, if_true]
        go_wp2_with fail
        go_roundw
        case rel => exact ⟨k + 1, z, by omega, by go_num, rfl, HY.out, xe⟩
        case measure => simp [intOf]; omega
      have dz : (h.egr == 0) = false := beq_eq_false_iff_ne.2 hz
      have HS : Hid ((s.hops.take (k + 1)).foldl (kstep t) (some 0) = if z = 0 then some (ifKind t h.asn h.egr) else if ifKind t h.asn h.egr = z then some z else none) := by unfold Hid; rw [HX.out]; unfold kstep; simp only [hz, if_false]
      clear hz;go_wp2_with fail
      first | refine name_wp ?_ ?_ ?_ | refine name_calls ?_ ?_ ?_
      exact (fun W => Ext wr W ∧ Blk W (wr.heap.size) 91 [I h.asn, I h.ing, I h.egr, I h.exp, I h.mac]);exact ⟨xe, xb⟩;rintro w3 ⟨ew3, bh⟩;have lh := bh.lt;obtain ⟨ph_0, ph_1, ph_2, ph_3, ph_4⟩ := blk5 bh;have Bh := Lib.hid bh; clear bh;have bt := Bt.out.ext (w' := w3) xe;have lt := bt.lt;obtain ⟨pt_0, pt_1⟩ := blk2 bt;clear bt;refine (impl_InterfaceKind _ _ _ (t) _ (by exact Rt.out.ext xe)).mono ?_;rintro e w4 ⟨rfl, ew4⟩
      generalize ifKind t h.asn h.egr = kk at *
      by_cases hz0 : z = 0
      · have HY : Hid ((s.hops.take (k + 1)).foldl (kstep t) (some 0) = some kk) := by unfold Hid; rw [HS.out, if_pos hz0]
        subst hz0;go_wp2_with fail
        go_roundw
        case rel => exact ⟨k + 1, kk, by omega, by go_num, rfl, HY.out, xe⟩
        case measure => simp [intOf]; omega
      have dz0 : (z == 0) = false := beq_eq_false_iff_ne.2 hz0;by_cases hkz : kk = z
      · have HY : Hid ((s.hops.take (k + 1)).foldl (kstep t) (some 0) = some z) := by unfold Hid; rw [HS.out, if_neg hz0, if_pos hkz]
        subst hkz;clear hz0;go_wp2_with fail
        go_roundw
        case rel => exact ⟨k + 1, kk, by omega, by go_num, rfl, HY.out, xe⟩
        case measure => simp [intOf]; omega
      · have HY : Hid (segKind t s = 0) := by unfold Hid; rw [HM.out, kindFold_none (k := k + 1) (by rw [HS.out, if_neg hz0, if_neg hkz])]; rfl
        have dk1 : (kk != z) = true := by simp [hkz]
        have dk2 : (kk == z) = false := beq_eq_false_iff_ne.2 hkz;clear hz0;go_wp2_with fail
        go_ret
        exact ⟨ret_int HY.out.symm, xe⟩
    · obtain rfl : k = s.hops.length := by omega
      have HE : Hid (segKind t s = kindRes (some z)) := by
       unfold Hid;have h := HQ.out;rw [List.take_length] at h;rw [HM.out];unfold kindFold;rw [h]
      by_cases z1 : z = 1
      · have HR : Hid (segKind t s = 1) := by unfold Hid; rw [HE.out, z1]; rfl
        subst z1;go_wp2_with fail
        go_ret
        exact ⟨ret_int HR.out.symm, xe⟩
      have dz1 : (z == 1) = false := beq_eq_false_iff_ne.2 z1;by_cases z2 : z = 2
      · have HR : Hid (segKind t s = 2) := by unfold Hid; rw [HE.out, z2]; rfl
        subst z2;go_wp2_with fail
        go_ret
        exact ⟨ret_int HR.out.symm, xe⟩
      have dz2 : (z == 2) = false := beq_eq_false_iff_ne.2 z2
      have HR : Hid (segKind t s = 0) := by unfold Hid; rw [HE.out]; unfold kindRes; simp only [z1, z2, if_false]
      go_wp2_with fail
      go_ret
      exact ⟨ret_int HR.out.symm, xe⟩
theorem wellF_as {t : DTopology} {s : DSegment} (h : wellF t s = true) : isAs t (s.hops.getD 0 dHop).asn = true := by
 have hl := wellF_len h;unfold wellF hopsFine at h;simp only [Bool.and_eq_true, List.all_eq_true] at h;have h0 := h.1.2 0 (List.mem_range.2 hl);unfold hopFine at h0;simp only [Bool.and_eq_true] at h0;exact h0.2.1
theorem spec_SegmentKind (vt vs : Value) (t : DTopology) (s : DSegment) (w : World) (ht : TopologyV w.heap.size w vt t) (hs : SegmentV w.heap.size w vs s) (hn : s.hops.length ≤ 100000000) :
 Calls Tryz.prog 42 #[vt, vs] w fun e w' => e = .returned (I (segKind t s)) ∧ Ext w w' := by
 obtain ⟨At_0, nt_0, ct_0, At_1, nt_1, ct_1, rfl, st_0, st_1⟩ := id ht;obtain ⟨lt_0, kt_0, mt_0⟩ := st_0.len;subst lt_0;unfold maxLen at mt_0;obtain ⟨lt_1, kt_1, mt_1⟩ := st_1.len;subst lt_1;unfold maxLen at mt_1;have Rt := Lib.hid ht; clear ht;have St_0 := Lib.hid st_0; clear st_0;have St_1 := Lib.hid st_1; clear st_1;obtain ⟨As_2, ns_2, cs_2, rfl, ss_2⟩ := id hs;obtain ⟨ls_2, ks_2, ms_2⟩ := ss_2.len;subst ls_2;unfold maxLen at ms_2;have Rs := Lib.hid hs; clear hs;have Ss_2 := Lib.hid ss_2; clear ss_2;cases hh : wellF t s
 · have HF : Hid (segKind t s = 0) := by unfold Hid segKind; rw [hh]; rfl
   go_enter Tryz.func42, Tryz.ntmps42
   go_wp2_with fail
   first | refine name_wp ?_ ?_ ?_ | refine name_calls ?_ ?_ ?_
   exact (fun W => Ext w W ∧ Blk W (w.heap.size) 27 [.slice At_0 t.ases.length ct_0, .slice At_1 t.links.length ct_1] ∧ Blk W (w.heap.size + 1) 33 [I s.ts, I s.beta, .slice As_2 s.hops.length cs_2]);exact ⟨xe, xb, xb⟩;rintro w0 ⟨ew0, bt, bs⟩;have lt := bt.lt;obtain ⟨pt_0, pt_1⟩ := blk2 bt;have Bt := Lib.hid bt; clear bt;have ls := bs.lt;obtain ⟨ps_0, ps_1, ps_2⟩ := blk3 bs;have Bs := Lib.hid bs; clear bs;refine wp_region_L (E := Ext) (w0 := w0) (G := fun τ => match τ with | 10 => some (fun v _ => v = .bool (false)) | _ => none) Ext.refl (fun h k => Ext.trans h k) (by kernel_rfl) (by kernel_rfl) xg (Ext.drew (by exact Ext.refl _)) ?_
   repeat' (first
    | ((with_reducible refine wpL_skip ?_ ?_ ?_)
       · rfl
       · rfl
       simp only [putS])
    | ((with_reducible refine wpL_quiet ?_ ?_ ?_ ?_)
       · rfl
       · rfl
       · rfl
       apply Exists.intro
       refine ⟨fun W hW hS => ?_, ?_⟩
       · have hC := (Ext.facts hW).1
         go_simp
         first | done | (with_reducible rfl) | (rw [if_neg (by omega)]; exact ⟨rfl, rfl⟩) | rfl
       first | (with_reducible refine wpL_boolT ?_) | (with_reducible refine wpL_boolF ?_) | (with_reducible refine wpL_bool (fun hB => ?_) (fun hB => ?_)) | skip
       all_goals simp only [putS])
    | ((refine wpL_call ?_ rfl rfl ?_ ?_ ?_)
       · rfl
       · rfl
       · intro W hW hS
         have hC := (Ext.facts hW).1;unfold growAt
         go_simp
         simp only [growUpon]
         first | (go_at_call 76; ((with_reducible refine Calls.mono (spec_WellFormed _ _ (t) (s) _ (by exact Rt.out.ext xe) (by exact Rs.out.ext xe) xo) ?_)); rintro e w9 ⟨rfl, e9⟩; exact ⟨_, rfl, e9, by first | rfl | (simp only [*])⟩)
       first | (with_reducible refine wpL_boolT ?_) | (with_reducible refine wpL_boolF ?_) | (with_reducible refine wpL_bool (fun hB => ?_) (fun hB => ?_)) | skip
       all_goals simp only [putS]))
   all_goals (refine wpL_nil (fun w1 e1 hL => ?_); clear hL)
   all_goals (go_wp2_with fail; go_ret; exact ⟨ret_int HF.out.symm, xe⟩)
 · have h0 := wellF_len hh
   have d1 : (0 : Int) < (s.hops.length : Int) := by omega
   go_enter Tryz.func42, Tryz.ntmps42
   go_wp2_with fail
   first | refine name_wp ?_ ?_ ?_ | refine name_calls ?_ ?_ ?_
   exact (fun W => Ext w W ∧ Blk W (w.heap.size) 27 [.slice At_0 t.ases.length ct_0, .slice At_1 t.links.length ct_1] ∧ Blk W (w.heap.size + 1) 33 [I s.ts, I s.beta, .slice As_2 s.hops.length cs_2]);exact ⟨xe, xb, xb⟩;rintro w0 ⟨ew0, bt, bs⟩;have lt := bt.lt;obtain ⟨pt_0, pt_1⟩ := blk2 bt;have Bt := Lib.hid bt; clear bt;have ls := bs.lt;obtain ⟨ps_0, ps_1, ps_2⟩ := blk3 bs;have Bs := Lib.hid bs; clear bs;have hva := wellF_as hh;obtain ⟨m, hxm, hm⟩ := isAs_nat hva;obtain ⟨b2, off2, rfl, hb2, hkl2, hc2⟩ := (St_0.out.ext (w' := w0) xe).at_ hm
   have hfa : firstAS s = (m : Int) := by unfold firstAS; rw [if_neg (by omega), hxm]
   have HK : Hid (segKind t s = if t.ases[m].core then kindRes (kindFold t s.hops) else 0) := by unfold Hid segKind isCore; rw [hh, hva, hxm, asAt_nat t m hm]; rfl
   generalize t.ases[m] = y at *
   obtain ⟨y0, y1, y2⟩ := hc2
   have i2 : (0 : Int) ≤ (m : Int) := by omega
   have i3 : (m : Int) < (t.ases.length : Int) := by omega
   clear hxm hva;refine wp_region_L (E := Ext) (w0 := w0) (G := fun τ => match τ with | 10 => some (fun v _ => v = .bool (true)) | 16 => some (fun v _ => v = I ((m : Int))) | _ => none) Ext.refl (fun h k => Ext.trans h k) (by kernel_rfl) (by kernel_rfl) xg (Ext.drew (by exact Ext.refl _)) ?_
   repeat' (first
    | ((with_reducible refine wpL_skip ?_ ?_ ?_)
       · rfl
       · rfl
       simp only [putS])
    | ((with_reducible refine wpL_quiet ?_ ?_ ?_ ?_)
       · rfl
       · rfl
       · rfl
       apply Exists.intro
       refine ⟨fun W hW hS => ?_, ?_⟩
       · have hC := (Ext.facts hW).1
         go_simp
         first | done | (with_reducible rfl) | (rw [if_neg (by omega)]; exact ⟨rfl, rfl⟩) | rfl
       first | (with_reducible refine wpL_boolT ?_) | (with_reducible refine wpL_boolF ?_) | (with_reducible refine wpL_bool (fun hB => ?_) (fun hB => ?_)) | skip
       all_goals simp only [putS])
    | ((refine wpL_call ?_ rfl rfl ?_ ?_ ?_)
       · rfl
       · rfl
       · intro W hW hS
         have hC := (Ext.facts hW).1;unfold growAt
         go_simp
         simp only [growUpon]
         first | (go_at_call 76; ((with_reducible refine Calls.mono (spec_WellFormed _ _ (t) (s) _ (by exact Rt.out.ext xe) (by exact Rs.out.ext xe) xo) ?_)); rintro e w9 ⟨rfl, e9⟩; exact ⟨_, rfl, e9, by first | rfl | (simp only [*])⟩) | (go_at_call 80; ((with_reducible refine Calls.mono (spec_FirstAS _ (s) _ (by exact Rs.out.ext xe)) ?_)); rintro e w9 ⟨rfl, e9⟩; exact ⟨_, rfl, e9, by first | rfl | (simp only [*])⟩)
       first | (with_reducible refine wpL_boolT ?_) | (with_reducible refine wpL_boolF ?_) | (with_reducible refine wpL_bool (fun hB => ?_) (fun hB => ?_)) | skip
       all_goals simp only [putS]))
   all_goals (refine wpL_nil (fun w1 e1 hL => ?_); clear hL)
   rotate_left
   · have HN : Hid (segKind t s = 0) := by unfold Hid; rw [HK.out]; simp [*]
     go_wp2_with fail
     go_ret
     exact ⟨ret_int HN.out.symm, xe⟩
   have HM : Hid (segKind t s = kindRes (kindFold t s.hops)) := by unfold Hid; rw [HK.out]; simp [*]
   clear y0 y1 y2 i2 i3 hB hh hfa;go_wp2_with fail
   go_loopw [5, 6] (fun v i wr => ∃ (k : Nat) (z : Int), k ≤ s.hops.length ∧ i = I k ∧ v = I z ∧ (s.hops.take k).foldl (kstep t) (some 0) = some z ∧ Ext w1 wr) (fun _ i _ => s.hops.length - (intOf i).toNat)
   case atStart => exact ⟨0, 0, by omega, rfl, rfl, rfl, Ext.refl _⟩
   case round =>
    obtain ⟨k, z, hk, rfl, rfl, hq, he⟩ := hrel;have HQ := Lib.hid hq; clear hq;have bt := Bt.out.ext (w' := wr) xe;have lt := bt.lt;obtain ⟨pt_0, pt_1⟩ := blk2 bt;clear bt;have bs := Bs.out.ext (w' := wr) xe;have ls := bs.lt;obtain ⟨ps_0, ps_1, ps_2⟩ := blk3 bs;clear bs;by_cases hlt : k < s.hops.length
    · obtain ⟨b3, off3, hA3, hb3, hkl3, hc3⟩ := (Ss_2.out.ext (w' := wr) xe).at_ hlt
      cases hA3
      have HX : Hid ((s.hops.take (k + 1)).foldl (kstep t) (some 0) = kstep t (some z) s.hops[k]) := by unfold Hid; rw [foldl_snoc (kstep t) (some 0) s.hops k hkl3, HQ.out]
      generalize s.hops[k] = h at *
      obtain ⟨hh_0, hh_1, hh_2, hh_3, hh_4⟩ := hc3
      have i0 : (0 : Int) ≤ (k : Int) := by omega
      have i1 : (k : Int) < (s.hops.length : Int) := by omega
      by_cases hz : h.egr = 0
      · have HY : Hid ((s.hops.take (k + 1)).foldl (kstep t) (some 0) = some z) := by unfold Hid; rw [HX.out]; unfold kstep; simp only [hz, if_true]
        go_wp2_with fail
        go_roundw
        case rel => exact ⟨k + 1, z, by omega, by go_num, rfl, HY.out, xe⟩
        case measure => simp [intOf]; omega
      have dz : (h.egr == 0) = false := beq_eq_false_iff_ne.2 hz
      have HS : Hid ((s.hops.take (k + 1)).foldl (kstep t) (some 0) = if z = 0 then some (ifKind t h.asn h.egr) else if ifKind t h.asn h.egr = z then some z else none) := by unfold Hid; rw [HX.out]; unfold kstep; simp only [hz, if_false]
      clear hz;go_wp2_with fail
      refine wp_region_L (E := Ext) (w0 := wr) (G := fun τ => match τ with | 49 => some (fun v _ => v = I (ifKind t h.asn h.egr)) | _ => none) Ext.refl (fun h k => Ext.trans h k) (by kernel_rfl) (by kernel_rfl) xg (Ext.drew (by exact Ext.refl _)) ?_
      repeat' (first
       | ((with_reducible refine wpL_skip ?_ ?_ ?_)
          · rfl
          · rfl
          simp only [putS])
       | ((with_reducible refine wpL_quiet ?_ ?_ ?_ ?_)
          · rfl
          · rfl
          · rfl
          apply Exists.intro
          refine ⟨fun W hW hS => ?_, ?_⟩
          · have hC := (Ext.facts hW).1
            go_simp
            first | done | (with_reducible rfl) | (rw [if_neg (by omega)]; exact ⟨rfl, rfl⟩) | rfl
          first | (with_reducible refine wpL_boolT ?_) | (with_reducible refine wpL_boolF ?_) | (with_reducible refine wpL_bool (fun hB => ?_) (fun hB => ?_)) | skip
          all_goals simp only [putS])
       | ((refine wpL_call ?_ rfl rfl ?_ ?_ ?_)
          · rfl
          · rfl
          · intro W hW hS
            have hC := (Ext.facts hW).1;unfold growAt
            go_simp
            simp only [growUpon]
            first | (go_at_call 81; ((with_reducible refine Calls.mono (spec_InterfaceKind _ _ _ (t) _ (by exact Rt.out.ext xe)) ?_)); rintro e w9 ⟨rfl, e9⟩; exact ⟨_, rfl, e9, by first | rfl | (simp only [*])⟩)
          first | (with_reducible refine wpL_boolT ?_) | (with_reducible refine wpL_boolF ?_) | (with_reducible refine wpL_bool (fun hB => ?_) (fun hB => ?_)) | skip
          all_goals simp only [putS]))
      refine wpL_nil (fun w4 ew4 hL => ?_);clear hL
      generalize ifKind t h.asn h.egr = kk at *
      by_cases hz0 : z = 0
      · have HY : Hid ((s.hops.take (k + 1)).foldl (kstep t) (some 0) = some kk) := by unfold Hid; rw [HS.out, if_pos hz0]
        subst hz0;go_wp2_with fail
        go_roundw
        case rel => exact ⟨k + 1, kk, by omega, by go_num, rfl, HY.out, xe⟩
        case measure => simp [intOf]; omega
      have dz0 : (z == 0) = false := beq_eq_false_iff_ne.2 hz0
      have dz3 : (z != 0) = true := by simp [hz0]
      by_cases hkz : kk = z
      · have HY : Hid ((s.hops.take (k + 1)).foldl (kstep t) (some 0) = some z) := by unfold Hid; rw [HS.out, if_neg hz0, if_pos hkz]
        subst hkz;clear hz0;go_wp2_with fail
        go_roundw
        case rel => exact ⟨k + 1, kk, by omega, by go_num, rfl, HY.out, xe⟩
        case measure => simp [intOf]; omega
      · have HY : Hid (segKind t s = 0) := by unfold Hid; rw [HM.out, kindFold_none (k := k + 1) (by rw [HS.out, if_neg hz0, if_neg hkz])]; rfl
        have dk1 : (kk != z) = true := by simp [hkz]
        have dk2 : (kk == z) = false := beq_eq_false_iff_ne.2 hkz;clear hz0;go_wp2_with fail
        go_ret
        exact ⟨ret_int HY.out.symm, xe⟩
    · obtain rfl : k = s.hops.length := by omega
      have HE : Hid (segKind t s = kindRes (some z)) := by
       unfold Hid;have h := HQ.out;rw [List.take_length] at h;rw [HM.out];unfold kindFold;rw [h]
      by_cases z1 : z = 1
      · have HR : Hid (segKind t s = 1) := by unfold Hid; rw [HE.out, z1]; rfl
        subst z1;go_wp2_with fail
        go_ret
        exact ⟨ret_int HR.out.symm, xe⟩
      have dz1 : (z == 1) = false := beq_eq_false_iff_ne.2 z1;by_cases z2 : z = 2
      · have HR : Hid (segKind t s = 2) := by unfold Hid; rw [HE.out, z2]; rfl
        subst z2;go_wp2_with fail
        go_ret
        exact ⟨ret_int HR.out.symm, xe⟩
      have dz2 : (z == 2) = false := beq_eq_false_iff_ne.2 z2
      have HR : Hid (segKind t s = 0) := by unfold Hid; rw [HE.out]; unfold kindRes; simp only [z1, z2, if_false]
      go_wp2_with fail
      go_ret
      exact ⟨ret_int HR.out.symm, xe⟩
def validSeg (t : DTopology) (s : DSegment) : Bool := wellF t s && (decide (firstInv t s < 0) && (decide (¬ segKind t s = 0) && (inR s.ts 0 1000000 && isRes s.beta)))
theorem impl_ValidSegment (vt vs : Value) (t : DTopology) (s : DSegment) (w : World) (ht : TopologyV w.heap.size w vt t) (hs : SegmentV w.heap.size w vs s) (hn : s.hops.length ≤ 100000000) :
 Calls Tryz.prog 26 #[vt, vs] w fun e w' => e = .returned (.bool (validSeg t s)) ∧ Ext w w' := by
 obtain ⟨At_0, nt_0, ct_0, At_1, nt_1, ct_1, rfl, st_0, st_1⟩ := id ht;obtain ⟨lt_0, kt_0, mt_0⟩ := st_0.len;subst lt_0;unfold maxLen at mt_0;obtain ⟨lt_1, kt_1, mt_1⟩ := st_1.len;subst lt_1;unfold maxLen at mt_1;have Rt := Lib.hid ht; clear ht;have St_0 := Lib.hid st_0; clear st_0;have St_1 := Lib.hid st_1; clear st_1;obtain ⟨As_2, ns_2, cs_2, rfl, ss_2⟩ := id hs;obtain ⟨ls_2, ks_2, ms_2⟩ := ss_2.len;subst ls_2;unfold maxLen at ms_2;have Rs := Lib.hid hs; clear hs;have Ss_2 := Lib.hid ss_2; clear ss_2;cases h0 : wellF t s
 · have HF : Hid (validSeg t s = false) := by unfold Hid validSeg; rw [h0]; rfl
   have H0 := Lib.hid h0; clear h0
   go_enter Tryz.func26, Tryz.ntmps26
   go_wp2_with fail
   first | refine name_wp ?_ ?_ ?_ | refine name_calls ?_ ?_ ?_
   exact (fun W => Ext w W ∧ Blk W (w.heap.size) 27 [.slice At_0 t.ases.length ct_0, .slice At_1 t.links.length ct_1] ∧ Blk W (w.heap.size + 1) 33 [I s.ts, I s.beta, .slice As_2 s.hops.length cs_2]);exact ⟨xe, xb, xb⟩;rintro w0 ⟨ew0, bt, bs⟩;have lt := bt.lt;obtain ⟨pt_0, pt_1⟩ := blk2 bt;have Bt := Lib.hid bt; clear bt;have ls := bs.lt;obtain ⟨ps_0, ps_1, ps_2⟩ := blk3 bs;have Bs := Lib.hid bs; clear bs;refine (impl_WellFormed _ _ (t) (s) _ (by exact Rt.out.ext xe) (by exact Rs.out.ext xe)).mono ?_;rintro e w1 ⟨rfl, ew1⟩;have bt := Bt.out.ext (w' := w1) xe;have lt := bt.lt;obtain ⟨pt_0, pt_1⟩ := blk2 bt;clear bt;have bs := Bs.out.ext (w' := w1) xe;have ls := bs.lt;obtain ⟨ps_0, ps_1, ps_2⟩ := blk3 bs;clear bs;rw [H0.out];go_wp2_with fail
   go_ret
   exact ⟨ret_bool HF.out.symm, xe⟩
 · by_cases h1 : firstInv t s < 0
   · by_cases h2 : segKind t s = 0
     · have HF : Hid (validSeg t s = false) := by unfold Hid validSeg; rw [h0, decide_eq_true h1, decide_eq_false (show ¬ ¬ segKind t s = 0 from fun h => h h2)]; rfl
       have H0 := Lib.hid h0; clear h0; have H1 := Lib.hid h1; clear h1; have H2 := Lib.hid h2; clear h2
       go_enter Tryz.func26, Tryz.ntmps26
       go_wp2_with fail
       first | refine name_wp ?_ ?_ ?_ | refine name_calls ?_ ?_ ?_
       exact (fun W => Ext w W ∧ Blk W (w.heap.size) 27 [.slice At_0 t.ases.length ct_0, .slice At_1 t.links.length ct_1] ∧ Blk W (w.heap.size + 1) 33 [I s.ts, I s.beta, .slice As_2 s.hops.length cs_2]);exact ⟨xe, xb, xb⟩;rintro w0 ⟨ew0, bt, bs⟩;have lt := bt.lt;obtain ⟨pt_0, pt_1⟩ := blk2 bt;have Bt := Lib.hid bt; clear bt;have ls := bs.lt;obtain ⟨ps_0, ps_1, ps_2⟩ := blk3 bs;have Bs := Lib.hid bs; clear bs;refine (impl_WellFormed _ _ (t) (s) _ (by exact Rt.out.ext xe) (by exact Rs.out.ext xe)).mono ?_;rintro e w1 ⟨rfl, ew1⟩;have bt := Bt.out.ext (w' := w1) xe;have lt := bt.lt;obtain ⟨pt_0, pt_1⟩ := blk2 bt;clear bt;have bs := Bs.out.ext (w' := w1) xe;have ls := bs.lt;obtain ⟨ps_0, ps_1, ps_2⟩ := blk3 bs;clear bs;rw [H0.out];go_wp2_with fail
       refine (impl_FirstInvalidHop _ _ (t) (s) _ (by exact Rt.out.ext xe) (by exact Rs.out.ext xe) xo).mono ?_;rintro e w2 ⟨rfl, ew2⟩;have bt := Bt.out.ext (w' := w2) xe;have lt := bt.lt;obtain ⟨pt_0, pt_1⟩ := blk2 bt;clear bt;have bs := Bs.out.ext (w' := w2) xe;have ls := bs.lt;obtain ⟨ps_0, ps_1, ps_2⟩ := blk3 bs;clear bs
       generalize firstInv t s = fi at *
       have h1 := H1.out;go_wp2_with fail
       clear h1;refine (impl_SegmentKind _ _ (t) (s) _ (by exact Rt.out.ext xe) (by exact Rs.out.ext xe)).mono ?_;rintro e w3 ⟨rfl, ew3⟩;have bt := Bt.out.ext (w' := w3) xe;have lt := bt.lt;obtain ⟨pt_0, pt_1⟩ := blk2 bt;clear bt;have bs := Bs.out.ext (w' := w3) xe;have ls := bs.lt;obtain ⟨ps_0, ps_1, ps_2⟩ := blk3 bs;clear bs
       generalize segKind t s = sk at *
       have h2 := H2.out;go_wp2_with fail
       go_ret
       exact ⟨ret_bool HF.out.symm, xe⟩
     · cases h3 : inR s.ts 0 1000000
       · have HF : Hid (validSeg t s = false) := by unfold Hid validSeg; rw [h0, decide_eq_true h1, decide_eq_true (show ¬ segKind t s = 0 from h2), h3]; rfl
         have H0 := Lib.hid h0; clear h0; have H1 := Lib.hid h1; clear h1; have H2 := Lib.hid h2; clear h2; have H3 := Lib.hid h3; clear h3
         go_enter Tryz.func26, Tryz.ntmps26
         go_wp2_with fail
         first | refine name_wp ?_ ?_ ?_ | refine name_calls ?_ ?_ ?_
         exact (fun W => Ext w W ∧ Blk W (w.heap.size) 27 [.slice At_0 t.ases.length ct_0, .slice At_1 t.links.length ct_1] ∧ Blk W (w.heap.size + 1) 33 [I s.ts, I s.beta, .slice As_2 s.hops.length cs_2]);exact ⟨xe, xb, xb⟩;rintro w0 ⟨ew0, bt, bs⟩;have lt := bt.lt;obtain ⟨pt_0, pt_1⟩ := blk2 bt;have Bt := Lib.hid bt; clear bt;have ls := bs.lt;obtain ⟨ps_0, ps_1, ps_2⟩ := blk3 bs;have Bs := Lib.hid bs; clear bs;refine (impl_WellFormed _ _ (t) (s) _ (by exact Rt.out.ext xe) (by exact Rs.out.ext xe)).mono ?_;rintro e w1 ⟨rfl, ew1⟩;have bt := Bt.out.ext (w' := w1) xe;have lt := bt.lt;obtain ⟨pt_0, pt_1⟩ := blk2 bt;clear bt;have bs := Bs.out.ext (w' := w1) xe;have ls := bs.lt;obtain ⟨ps_0, ps_1, ps_2⟩ := blk3 bs;clear bs;rw [H0.out];go_wp2_with fail
         refine (impl_FirstInvalidHop _ _ (t) (s) _ (by exact Rt.out.ext xe) (by exact Rs.out.ext xe) xo).mono ?_;rintro e w2 ⟨rfl, ew2⟩;have bt := Bt.out.ext (w' := w2) xe;have lt := bt.lt;obtain ⟨pt_0, pt_1⟩ := blk2 bt;clear bt;have bs := Bs.out.ext (w' := w2) xe;have ls := bs.lt;obtain ⟨ps_0, ps_1, ps_2⟩ := blk3 bs;clear bs
         generalize firstInv t s = fi at *
         have h1 := H1.out;go_wp2_with fail
         clear h1;refine (impl_SegmentKind _ _ (t) (s) _ (by exact Rt.out.ext xe) (by exact Rs.out.ext xe)).mono ?_;rintro e w3 ⟨rfl, ew3⟩;have bt := Bt.out.ext (w' := w3) xe;have lt := bt.lt;obtain ⟨pt_0, pt_1⟩ := blk2 bt;clear bt;have bs := Bs.out.ext (w' := w3) xe;have ls := bs.lt;obtain ⟨ps_0, ps_1, ps_2⟩ := blk3 bs;clear bs
         generalize segKind t s = sk at *
         have h2 := H2.out
         have d2 : (sk != 0) = true := by simp [h2]
         have d3 : (sk == 0) = false := beq_eq_false_iff_ne.2 h2;go_wp2_with fail
         clear h2 d2 d3;refine (impl_InRange _ _ _ _).mono ?_;rintro e w4 ⟨rfl, rfl⟩;rw [H3.out];go_wp2_with fail
         go_ret
         exact ⟨ret_bool HF.out.symm, xe⟩
       · cases h4 : isRes s.beta
         · have HF : Hid (validSeg t s = false) := by unfold Hid validSeg; rw [h0, decide_eq_true h1, decide_eq_true (show ¬ segKind t s = 0 from h2), h3, h4]; rfl
           have H0 := Lib.hid h0; clear h0; have H1 := Lib.hid h1; clear h1; have H2 := Lib.hid h2; clear h2; have H3 := Lib.hid h3; clear h3; have H4 := Lib.hid h4; clear h4
           go_enter Tryz.func26, Tryz.ntmps26
           go_wp2_with fail
           first | refine name_wp ?_ ?_ ?_ | refine name_calls ?_ ?_ ?_
           exact (fun W => Ext w W ∧ Blk W (w.heap.size) 27 [.slice At_0 t.ases.length ct_0, .slice At_1 t.links.length ct_1] ∧ Blk W (w.heap.size + 1) 33 [I s.ts, I s.beta, .slice As_2 s.hops.length cs_2]);exact ⟨xe, xb, xb⟩;rintro w0 ⟨ew0, bt, bs⟩;have lt := bt.lt;obtain ⟨pt_0, pt_1⟩ := blk2 bt;have Bt := Lib.hid bt; clear bt;have ls := bs.lt;obtain ⟨ps_0, ps_1, ps_2⟩ := blk3 bs;have Bs := Lib.hid bs; clear bs;refine (impl_WellFormed _ _ (t) (s) _ (by exact Rt.out.ext xe) (by exact Rs.out.ext xe)).mono ?_;rintro e w1 ⟨rfl, ew1⟩;have bt := Bt.out.ext (w' := w1) xe;have lt := bt.lt;obtain ⟨pt_0, pt_1⟩ := blk2 bt;clear bt;have bs := Bs.out.ext (w' := w1) xe;have ls := bs.lt;obtain ⟨ps_0, ps_1, ps_2⟩ := blk3 bs;clear bs;rw [H0.out];go_wp2_with fail
           refine (impl_FirstInvalidHop _ _ (t) (s) _ (by exact Rt.out.ext xe) (by exact Rs.out.ext xe) xo).mono ?_;rintro e w2 ⟨rfl, ew2⟩;have bt := Bt.out.ext (w' := w2) xe;have lt := bt.lt;obtain ⟨pt_0, pt_1⟩ := blk2 bt;clear bt;have bs := Bs.out.ext (w' := w2) xe;have ls := bs.lt;obtain ⟨ps_0, ps_1, ps_2⟩ := blk3 bs;clear bs
           generalize firstInv t s = fi at *
           have h1 := H1.out;go_wp2_with fail
           clear h1;refine (impl_SegmentKind _ _ (t) (s) _ (by exact Rt.out.ext xe) (by exact Rs.out.ext xe)).mono ?_;rintro e w3 ⟨rfl, ew3⟩;have bt := Bt.out.ext (w' := w3) xe;have lt := bt.lt;obtain ⟨pt_0, pt_1⟩ := blk2 bt;clear bt;have bs := Bs.out.ext (w' := w3) xe;have ls := bs.lt;obtain ⟨ps_0, ps_1, ps_2⟩ := blk3 bs;clear bs
           generalize segKind t s = sk at *
           have h2 := H2.out
           have d2 : (sk != 0) = true := by simp [h2]
           have d3 : (sk == 0) = false := beq_eq_false_iff_ne.2 h2;go_wp2_with fail
           clear h2 d2 d3;refine (impl_InRange _ _ _ _).mono ?_;rintro e w4 ⟨rfl, rfl⟩;rw [H3.out];go_wp2_with fail
           refine (impl_isResidue _ _).mono ?_;rintro e w5 ⟨rfl, rfl⟩;rw [H4.out];go_wp2_with fail
           go_ret
           exact ⟨ret_bool HF.out.symm, xe⟩
         · have HF : Hid (validSeg t s = true) := by unfold Hid validSeg; rw [h0, decide_eq_true h1, decide_eq_true (show ¬ segKind t s = 0 from h2), h3, h4]; rfl
           have H0 := Lib.hid h0; clear h0; have H1 := Lib.hid h1; clear h1; have H2 := Lib.hid h2; clear h2; have H3 := Lib.hid h3; clear h3; have H4 := Lib.hid h4; clear h4
           go_enter Tryz.func26, Tryz.ntmps26
           go_wp2_with fail
           first | refine name_wp ?_ ?_ ?_ | refine name_calls ?_ ?_ ?_
           exact (fun W => Ext w W ∧ Blk W (w.heap.size) 27 [.slice At_0 t.ases.length ct_0, .slice At_1 t.links.length ct_1] ∧ Blk W (w.heap.size + 1) 33 [I s.ts, I s.beta, .slice As_2 s.hops.length cs_2]);exact ⟨xe, xb, xb⟩;rintro w0 ⟨ew0, bt, bs⟩;have lt := bt.lt;obtain ⟨pt_0, pt_1⟩ := blk2 bt;have Bt := Lib.hid bt; clear bt;have ls := bs.lt;obtain ⟨ps_0, ps_1, ps_2⟩ := blk3 bs;have Bs := Lib.hid bs; clear bs;refine (impl_WellFormed _ _ (t) (s) _ (by exact Rt.out.ext xe) (by exact Rs.out.ext xe)).mono ?_;rintro e w1 ⟨rfl, ew1⟩;have bt := Bt.out.ext (w' := w1) xe;have lt := bt.lt;obtain ⟨pt_0, pt_1⟩ := blk2 bt;clear bt;have bs := Bs.out.ext (w' := w1) xe;have ls := bs.lt;obtain ⟨ps_0, ps_1, ps_2⟩ := blk3 bs;clear bs;rw [H0.out];go_wp2_with fail
           refine (impl_FirstInvalidHop _ _ (t) (s) _ (by exact Rt.out.ext xe) (by exact Rs.out.ext xe) xo).mono ?_;rintro e w2 ⟨rfl, ew2⟩;have bt := Bt.out.ext (w' := w2) xe;have lt := bt.lt;obtain ⟨pt_0, pt_1⟩ := blk2 bt;clear bt;have bs := Bs.out.ext (w' := w2) xe;have ls := bs.lt;obtain ⟨ps_0, ps_1, ps_2⟩ := blk3 bs;clear bs
           generalize firstInv t s = fi at *
           have h1 := H1.out;go_wp2_with fail
           clear h1;refine (impl_SegmentKind _ _ (t) (s) _ (by exact Rt.out.ext xe) (by exact Rs.out.ext xe)).mono ?_;rintro e w3 ⟨rfl, ew3⟩;have bt := Bt.out.ext (w' := w3) xe;have lt := bt.lt;obtain ⟨pt_0, pt_1⟩ := blk2 bt;clear bt;have bs := Bs.out.ext (w' := w3) xe;have ls := bs.lt;obtain ⟨ps_0, ps_1, ps_2⟩ := blk3 bs;clear bs
           generalize segKind t s = sk at *
           have h2 := H2.out
           have d2 : (sk != 0) = true := by simp [h2]
           have d3 : (sk == 0) = false := beq_eq_false_iff_ne.2 h2;go_wp2_with fail
           clear h2 d2 d3;refine (impl_InRange _ _ _ _).mono ?_;rintro e w4 ⟨rfl, rfl⟩;rw [H3.out];go_wp2_with fail
           refine (impl_isResidue _ _).mono ?_;rintro e w5 ⟨rfl, rfl⟩;rw [H4.out];go_wp2_with fail
           go_ret
           exact ⟨ret_bool HF.out.symm, xe⟩
   · have HF : Hid (validSeg t s = false) := by unfold Hid validSeg; rw [h0, decide_eq_false h1]; rfl
     have H0 := Lib.hid h0; clear h0; have H1 := Lib.hid h1; clear h1
     go_enter Tryz.func26, Tryz.ntmps26
     go_wp2_with fail
     first | refine name_wp ?_ ?_ ?_ | refine name_calls ?_ ?_ ?_
     exact (fun W => Ext w W ∧ Blk W (w.heap.size) 27 [.slice At_0 t.ases.length ct_0, .slice At_1 t.links.length ct_1] ∧ Blk W (w.heap.size + 1) 33 [I s.ts, I s.beta, .slice As_2 s.hops.length cs_2]);exact ⟨xe, xb, xb⟩;rintro w0 ⟨ew0, bt, bs⟩;have lt := bt.lt;obtain ⟨pt_0, pt_1⟩ := blk2 bt;have Bt := Lib.hid bt; clear bt;have ls := bs.lt;obtain ⟨ps_0, ps_1, ps_2⟩ := blk3 bs;have Bs := Lib.hid bs; clear bs;refine (impl_WellFormed _ _ (t) (s) _ (by exact Rt.out.ext xe) (by exact Rs.out.ext xe)).mono ?_;rintro e w1 ⟨rfl, ew1⟩;have bt := Bt.out.ext (w' := w1) xe;have lt := bt.lt;obtain ⟨pt_0, pt_1⟩ := blk2 bt;clear bt;have bs := Bs.out.ext (w' := w1) xe;have ls := bs.lt;obtain ⟨ps_0, ps_1, ps_2⟩ := blk3 bs;clear bs;rw [H0.out];go_wp2_with fail
     refine (impl_FirstInvalidHop _ _ (t) (s) _ (by exact Rt.out.ext xe) (by exact Rs.out.ext xe) xo).mono ?_;rintro e w2 ⟨rfl, ew2⟩;have bt := Bt.out.ext (w' := w2) xe;have lt := bt.lt;obtain ⟨pt_0, pt_1⟩ := blk2 bt;clear bt;have bs := Bs.out.ext (w' := w2) xe;have ls := bs.lt;obtain ⟨ps_0, ps_1, ps_2⟩ := blk3 bs;clear bs
     generalize firstInv t s = fi at *
     have h1 := H1.out;have d1 : decide (fi < 0) = false := decide_eq_false (by omega);go_wp2_with fail
     go_ret
     exact ⟨ret_bool HF.out.symm, xe⟩
theorem spec_ValidSegment (vt vs : Value) (t : DTopology) (s : DSegment) (w : World) (ht : TopologyV w.heap.size w vt t) (hs : SegmentV w.heap.size w vs s) (hn : s.hops.length ≤ 100000000) :
 Calls Tryz.prog 40 #[vt, vs] w fun e w' => e = .returned (.bool (validSeg t s)) ∧ Ext w w' := by
 obtain ⟨At_0, nt_0, ct_0, At_1, nt_1, ct_1, rfl, st_0, st_1⟩ := id ht;obtain ⟨lt_0, kt_0, mt_0⟩ := st_0.len;subst lt_0;unfold maxLen at mt_0;obtain ⟨lt_1, kt_1, mt_1⟩ := st_1.len;subst lt_1;unfold maxLen at mt_1;have Rt := Lib.hid ht; clear ht;have St_0 := Lib.hid st_0; clear st_0;have St_1 := Lib.hid st_1; clear st_1;obtain ⟨As_2, ns_2, cs_2, rfl, ss_2⟩ := id hs;obtain ⟨ls_2, ks_2, ms_2⟩ := ss_2.len;subst ls_2;unfold maxLen at ms_2;have Rs := Lib.hid hs; clear hs;have Ss_2 := Lib.hid ss_2; clear ss_2;cases h0 : wellF t s
 · have HF : Hid (validSeg t s = false) := by unfold Hid validSeg; rw [h0]; rfl
   have H0 := Lib.hid h0; clear h0
   go_enter Tryz.func40, Tryz.ntmps40
   go_wp2_with fail
   first | refine name_wp ?_ ?_ ?_ | refine name_calls ?_ ?_ ?_
   exact (fun W => Ext w W ∧ Blk W (w.heap.size) 27 [.slice At_0 t.ases.length ct_0, .slice At_1 t.links.length ct_1] ∧ Blk W (w.heap.size + 1) 33 [I s.ts, I s.beta, .slice As_2 s.hops.length cs_2]);exact ⟨xe, xb, xb⟩;rintro w0 ⟨ew0, bt, bs⟩;have lt := bt.lt;obtain ⟨pt_0, pt_1⟩ := blk2 bt;have Bt := Lib.hid bt; clear bt;have ls := bs.lt;obtain ⟨ps_0, ps_1, ps_2⟩ := blk3 bs;have Bs := Lib.hid bs; clear bs;refine (spec_WellFormed _ _ (t) (s) _ (by exact Rt.out.ext xe) (by exact Rs.out.ext xe) xo).mono ?_;rintro e w1 ⟨rfl, ew1⟩;have bt := Bt.out.ext (w' := w1) xe;have lt := bt.lt;obtain ⟨pt_0, pt_1⟩ := blk2 bt;clear bt;have bs := Bs.out.ext (w' := w1) xe;have ls := bs.lt;obtain ⟨ps_0, ps_1, ps_2⟩ := blk3 bs;clear bs;rw [H0.out];go_wp2_with fail
   go_ret
   exact ⟨ret_bool HF.out.symm, xe⟩
 · by_cases h1 : firstInv t s < 0
   · by_cases h2 : segKind t s = 0
     · have HF : Hid (validSeg t s = false) := by unfold Hid validSeg; rw [h0, decide_eq_true h1, decide_eq_false (show ¬ ¬ segKind t s = 0 from fun h => h h2)]; rfl
       have H0 := Lib.hid h0; clear h0; have H1 := Lib.hid h1; clear h1; have H2 := Lib.hid h2; clear h2
       go_enter Tryz.func40, Tryz.ntmps40
       go_wp2_with fail
       first | refine name_wp ?_ ?_ ?_ | refine name_calls ?_ ?_ ?_
       exact (fun W => Ext w W ∧ Blk W (w.heap.size) 27 [.slice At_0 t.ases.length ct_0, .slice At_1 t.links.length ct_1] ∧ Blk W (w.heap.size + 1) 33 [I s.ts, I s.beta, .slice As_2 s.hops.length cs_2]);exact ⟨xe, xb, xb⟩;rintro w0 ⟨ew0, bt, bs⟩;have lt := bt.lt;obtain ⟨pt_0, pt_1⟩ := blk2 bt;have Bt := Lib.hid bt; clear bt;have ls := bs.lt;obtain ⟨ps_0, ps_1, ps_2⟩ := blk3 bs;have Bs := Lib.hid bs; clear bs;refine (spec_WellFormed _ _ (t) (s) _ (by exact Rt.out.ext xe) (by exact Rs.out.ext xe) xo).mono ?_;rintro e w1 ⟨rfl, ew1⟩;have bt := Bt.out.ext (w' := w1) xe;have lt := bt.lt;obtain ⟨pt_0, pt_1⟩ := blk2 bt;clear bt;have bs := Bs.out.ext (w' := w1) xe;have ls := bs.lt;obtain ⟨ps_0, ps_1, ps_2⟩ := blk3 bs;clear bs;rw [H0.out];go_wp2_with fail
       refine (spec_FirstInvalidHop _ _ (t) (s) _ (by exact Rt.out.ext xe) (by exact Rs.out.ext xe) xo).mono ?_;rintro e w2 ⟨rfl, ew2⟩;have bt := Bt.out.ext (w' := w2) xe;have lt := bt.lt;obtain ⟨pt_0, pt_1⟩ := blk2 bt;clear bt;have bs := Bs.out.ext (w' := w2) xe;have ls := bs.lt;obtain ⟨ps_0, ps_1, ps_2⟩ := blk3 bs;clear bs
       generalize firstInv t s = fi at *
       have h1 := H1.out;go_wp2_with fail
       clear h1;refine (spec_SegmentKind _ _ (t) (s) _ (by exact Rt.out.ext xe) (by exact Rs.out.ext xe) xo).mono ?_;rintro e w3 ⟨rfl, ew3⟩;have bt := Bt.out.ext (w' := w3) xe;have lt := bt.lt;obtain ⟨pt_0, pt_1⟩ := blk2 bt;clear bt;have bs := Bs.out.ext (w' := w3) xe;have ls := bs.lt;obtain ⟨ps_0, ps_1, ps_2⟩ := blk3 bs;clear bs
       generalize segKind t s = sk at *
       have h2 := H2.out;go_wp2_with fail
       go_ret
       exact ⟨ret_bool HF.out.symm, xe⟩
     · cases h3 : inR s.ts 0 1000000
       · have HF : Hid (validSeg t s = false) := by unfold Hid validSeg; rw [h0, decide_eq_true h1, decide_eq_true (show ¬ segKind t s = 0 from h2), h3]; rfl
         have H0 := Lib.hid h0; clear h0; have H1 := Lib.hid h1; clear h1; have H2 := Lib.hid h2; clear h2; have H3 := Lib.hid h3; clear h3
         go_enter Tryz.func40, Tryz.ntmps40
         go_wp2_with fail
         first | refine name_wp ?_ ?_ ?_ | refine name_calls ?_ ?_ ?_
         exact (fun W => Ext w W ∧ Blk W (w.heap.size) 27 [.slice At_0 t.ases.length ct_0, .slice At_1 t.links.length ct_1] ∧ Blk W (w.heap.size + 1) 33 [I s.ts, I s.beta, .slice As_2 s.hops.length cs_2]);exact ⟨xe, xb, xb⟩;rintro w0 ⟨ew0, bt, bs⟩;have lt := bt.lt;obtain ⟨pt_0, pt_1⟩ := blk2 bt;have Bt := Lib.hid bt; clear bt;have ls := bs.lt;obtain ⟨ps_0, ps_1, ps_2⟩ := blk3 bs;have Bs := Lib.hid bs; clear bs;refine (spec_WellFormed _ _ (t) (s) _ (by exact Rt.out.ext xe) (by exact Rs.out.ext xe) xo).mono ?_;rintro e w1 ⟨rfl, ew1⟩;have bt := Bt.out.ext (w' := w1) xe;have lt := bt.lt;obtain ⟨pt_0, pt_1⟩ := blk2 bt;clear bt;have bs := Bs.out.ext (w' := w1) xe;have ls := bs.lt;obtain ⟨ps_0, ps_1, ps_2⟩ := blk3 bs;clear bs;rw [H0.out];go_wp2_with fail
         refine (spec_FirstInvalidHop _ _ (t) (s) _ (by exact Rt.out.ext xe) (by exact Rs.out.ext xe) xo).mono ?_;rintro e w2 ⟨rfl, ew2⟩;have bt := Bt.out.ext (w' := w2) xe;have lt := bt.lt;obtain ⟨pt_0, pt_1⟩ := blk2 bt;clear bt;have bs := Bs.out.ext (w' := w2) xe;have ls := bs.lt;obtain ⟨ps_0, ps_1, ps_2⟩ := blk3 bs;clear bs
         generalize firstInv t s = fi at *
         have h1 := H1.out;go_wp2_with fail
         clear h1;refine (spec_SegmentKind _ _ (t) (s) _ (by exact Rt.out.ext xe) (by exact Rs.out.ext xe) xo).mono ?_;rintro e w3 ⟨rfl, ew3⟩;have bt := Bt.out.ext (w' := w3) xe;have lt := bt.lt;obtain ⟨pt_0, pt_1⟩ := blk2 bt;clear bt;have bs := Bs.out.ext (w' := w3) xe;have ls := bs.lt;obtain ⟨ps_0, ps_1, ps_2⟩ := blk3 bs;clear bs
         generalize segKind t s = sk at *
         have h2 := H2.out
         have d2 : (sk != 0) = true := by simp [h2]
         have d3 : (sk == 0) = false := beq_eq_false_iff_ne.2 h2;go_wp2_with fail
         clear h2 d2 d3;refine (spec_l1In _ _ _ _).mono ?_;rintro e w4 ⟨rfl, rfl⟩;rw [H3.out];go_wp2_with fail
         go_ret
         exact ⟨ret_bool HF.out.symm, xe⟩
       · cases h4 : isRes s.beta
         · have HF : Hid (validSeg t s = false) := by unfold Hid validSeg; rw [h0, decide_eq_true h1, decide_eq_true (show ¬ segKind t s = 0 from h2), h3, h4]; rfl
           have H0 := Lib.hid h0; clear h0; have H1 := Lib.hid h1; clear h1; have H2 := Lib.hid h2; clear h2; have H3 := Lib.hid h3; clear h3; have H4 := Lib.hid h4; clear h4
           go_enter Tryz.func40, Tryz.ntmps40
           go_wp2_with fail
           first | refine name_wp ?_ ?_ ?_ | refine name_calls ?_ ?_ ?_
           exact (fun W => Ext w W ∧ Blk W (w.heap.size) 27 [.slice At_0 t.ases.length ct_0, .slice At_1 t.links.length ct_1] ∧ Blk W (w.heap.size + 1) 33 [I s.ts, I s.beta, .slice As_2 s.hops.length cs_2]);exact ⟨xe, xb, xb⟩;rintro w0 ⟨ew0, bt, bs⟩;have lt := bt.lt;obtain ⟨pt_0, pt_1⟩ := blk2 bt;have Bt := Lib.hid bt; clear bt;have ls := bs.lt;obtain ⟨ps_0, ps_1, ps_2⟩ := blk3 bs;have Bs := Lib.hid bs; clear bs;refine (spec_WellFormed _ _ (t) (s) _ (by exact Rt.out.ext xe) (by exact Rs.out.ext xe) xo).mono ?_;rintro e w1 ⟨rfl, ew1⟩;have bt := Bt.out.ext (w' := w1) xe;have lt := bt.lt;obtain ⟨pt_0, pt_1⟩ := blk2 bt;clear bt;have bs := Bs.out.ext (w' := w1) xe;have ls := bs.lt;obtain ⟨ps_0, ps_1, ps_2⟩ := blk3 bs;clear bs;rw [H0.out];go_wp2_with fail
           refine (spec_FirstInvalidHop _ _ (t) (s) _ (by exact Rt.out.ext xe) (by exact Rs.out.ext xe) xo).mono ?_;rintro e w2 ⟨rfl, ew2⟩;have bt := Bt.out.ext (w' := w2) xe;have lt := bt.lt;obtain ⟨pt_0, pt_1⟩ := blk2 bt;clear bt;have bs := Bs.out.ext (w' := w2) xe;have ls := bs.lt;obtain ⟨ps_0, ps_1, ps_2⟩ := blk3 bs;clear bs
           generalize firstInv t s = fi at *
           have h1 := H1.out;go_wp2_with fail
           clear h1;refine (spec_SegmentKind _ _ (t) (s) _ (by exact Rt.out.ext xe) (by exact Rs.out.ext xe) xo).mono ?_;rintro e w3 ⟨rfl, ew3⟩;have bt := Bt.out.ext (w' := w3) xe;have lt := bt.lt;obtain ⟨pt_0, pt_1⟩ := blk2 bt;clear bt;have bs := Bs.out.ext (w' := w3) xe;have ls := bs.lt;obtain ⟨ps_0, ps_1, ps_2⟩ := blk3 bs;clear bs
           generalize segKind t s = sk at *
           have h2 := H2.out
           have d2 : (sk != 0) = true := by simp [h2]
           have d3 : (sk == 0) = false := beq_eq_false_iff_ne.2 h2;go_wp2_with fail
           clear h2 d2 d3;refine (spec_l1In _ _ _ _).mono ?_;rintro e w4 ⟨rfl, rfl⟩;rw [H3.out];go_wp2_with fail
           refine (spec_l3Ok _ _).mono ?_;rintro e w5 ⟨rfl, rfl⟩;rw [H4.out];go_wp2_with fail
           go_ret
           exact ⟨ret_bool HF.out.symm, xe⟩
         · have HF : Hid (validSeg t s = true) := by unfold Hid validSeg; rw [h0, decide_eq_true h1, decide_eq_true (show ¬ segKind t s = 0 from h2), h3, h4]; rfl
           have H0 := Lib.hid h0; clear h0; have H1 := Lib.hid h1; clear h1; have H2 := Lib.hid h2; clear h2; have H3 := Lib.hid h3; clear h3; have H4 := Lib.hid h4; clear h4
           go_enter Tryz.func40, Tryz.ntmps40
           go_wp2_with fail
           first | refine name_wp ?_ ?_ ?_ | refine name_calls ?_ ?_ ?_
           exact (fun W => Ext w W ∧ Blk W (w.heap.size) 27 [.slice At_0 t.ases.length ct_0, .slice At_1 t.links.length ct_1] ∧ Blk W (w.heap.size + 1) 33 [I s.ts, I s.beta, .slice As_2 s.hops.length cs_2]);exact ⟨xe, xb, xb⟩;rintro w0 ⟨ew0, bt, bs⟩;have lt := bt.lt;obtain ⟨pt_0, pt_1⟩ := blk2 bt;have Bt := Lib.hid bt; clear bt;have ls := bs.lt;obtain ⟨ps_0, ps_1, ps_2⟩ := blk3 bs;have Bs := Lib.hid bs; clear bs;refine (spec_WellFormed _ _ (t) (s) _ (by exact Rt.out.ext xe) (by exact Rs.out.ext xe) xo).mono ?_;rintro e w1 ⟨rfl, ew1⟩;have bt := Bt.out.ext (w' := w1) xe;have lt := bt.lt;obtain ⟨pt_0, pt_1⟩ := blk2 bt;clear bt;have bs := Bs.out.ext (w' := w1) xe;have ls := bs.lt;obtain ⟨ps_0, ps_1, ps_2⟩ := blk3 bs;clear bs;rw [H0.out];go_wp2_with fail
           refine (spec_FirstInvalidHop _ _ (t) (s) _ (by exact Rt.out.ext xe) (by exact Rs.out.ext xe) xo).mono ?_;rintro e w2 ⟨rfl, ew2⟩;have bt := Bt.out.ext (w' := w2) xe;have lt := bt.lt;obtain ⟨pt_0, pt_1⟩ := blk2 bt;clear bt;have bs := Bs.out.ext (w' := w2) xe;have ls := bs.lt;obtain ⟨ps_0, ps_1, ps_2⟩ := blk3 bs;clear bs
           generalize firstInv t s = fi at *
           have h1 := H1.out;go_wp2_with fail
           clear h1;refine (spec_SegmentKind _ _ (t) (s) _ (by exact Rt.out.ext xe) (by exact Rs.out.ext xe) xo).mono ?_;rintro e w3 ⟨rfl, ew3⟩;have bt := Bt.out.ext (w' := w3) xe;have lt := bt.lt;obtain ⟨pt_0, pt_1⟩ := blk2 bt;clear bt;have bs := Bs.out.ext (w' := w3) xe;have ls := bs.lt;obtain ⟨ps_0, ps_1, ps_2⟩ := blk3 bs;clear bs
           generalize segKind t s = sk at *
           have h2 := H2.out
           have d2 : (sk != 0) = true := by simp [h2]
           have d3 : (sk == 0) = false := beq_eq_false_iff_ne.2 h2;go_wp2_with fail
           clear h2 d2 d3;refine (spec_l1In _ _ _ _).mono ?_;rintro e w4 ⟨rfl, rfl⟩;rw [H3.out];go_wp2_with fail
           refine (spec_l3Ok _ _).mono ?_;rintro e w5 ⟨rfl, rfl⟩;rw [H4.out];go_wp2_with fail
           go_ret
           exact ⟨ret_bool HF.out.symm, xe⟩
   · have HF : Hid (validSeg t s = false) := by unfold Hid validSeg; rw [h0, decide_eq_false h1]; rfl
     have H0 := Lib.hid h0; clear h0; have H1 := Lib.hid h1; clear h1
     go_enter Tryz.func40, Tryz.ntmps40
     go_wp2_with fail
     first | refine name_wp ?_ ?_ ?_ | refine name_calls ?_ ?_ ?_
     exact (fun W => Ext w W ∧ Blk W (w.heap.size) 27 [.slice At_0 t.ases.length ct_0, .slice At_1 t.links.length ct_1] ∧ Blk W (w.heap.size + 1) 33 [I s.ts, I s.beta, .slice As_2 s.hops.length cs_2]);exact ⟨xe, xb, xb⟩;rintro w0 ⟨ew0, bt, bs⟩;have lt := bt.lt;obtain ⟨pt_0, pt_1⟩ := blk2 bt;have Bt := Lib.hid bt; clear bt;have ls := bs.lt;obtain ⟨ps_0, ps_1, ps_2⟩ := blk3 bs;have Bs := Lib.hid bs; clear bs;refine (spec_WellFormed _ _ (t) (s) _ (by exact Rt.out.ext xe) (by exact Rs.out.ext xe) xo).mono ?_;rintro e w1 ⟨rfl, ew1⟩;have bt := Bt.out.ext (w' := w1) xe;have lt := bt.lt;obtain ⟨pt_0, pt_1⟩ := blk2 bt;clear bt;have bs := Bs.out.ext (w' := w1) xe;have ls := bs.lt;obtain ⟨ps_0, ps_1, ps_2⟩ := blk3 bs;clear bs;rw [H0.out];go_wp2_with fail
     refine (spec_FirstInvalidHop _ _ (t) (s) _ (by exact Rt.out.ext xe) (by exact Rs.out.ext xe) xo).mono ?_;rintro e w2 ⟨rfl, ew2⟩;have bt := Bt.out.ext (w' := w2) xe;have lt := bt.lt;obtain ⟨pt_0, pt_1⟩ := blk2 bt;clear bt;have bs := Bs.out.ext (w' := w2) xe;have ls := bs.lt;obtain ⟨ps_0, ps_1, ps_2⟩ := blk3 bs;clear bs
     generalize firstInv t s = fi at *
     have h1 := H1.out;have d1 : decide (fi < 0) = false := decide_eq_false (by omega);go_wp2_with fail
     go_ret
     exact ⟨ret_bool HF.out.symm, xe⟩
end Go.Proofs.YtmopmgaeiokfjaaGreat
