/- Contracts of the program's and the reference's functions on hops and segments: ValidHop, HopMAC, VerifyHop, ChainAdd, BetaAt, FirstInvalidHop, IsTerminated, SegmentExpiry. -/
import Derived.Test.YtmopmgaeiokfjaaGreatGL5
import Derived.Test.YtmopmgaeiokfjaaGreatGL9
set_option maxRecDepth 100000
set_option maxHeartbeats 1000000
namespace Go.Proofs.YtmopmgaeiokfjaaGreat
open Go.RowKit
set_option linter.unusedVariables false
def validHop (h : DHop) : Bool := inR h.asn 0 7 && (inR h.ing 0 6 && (inR h.egr 0 6 && ((h.ing != h.egr) && (inR h.exp 0 1000000 && isRes h.mac))))
def hopMac (key ts beta : Int) (h : DHop) : Int := mac key [ts, beta, h.asn, h.ing, h.egr, h.exp]
def verifyHop (t : DTopology) (ts beta : Int) (h : DHop) : Bool := validHop h && (isAs t h.asn && h.mac == hopMac (asAt t h.asn).key ts beta h)
def chainAdd (b : Int) (l : List Int) : Int := l.foldl addM b
def macs (l : List DHop) : List Int := l.map fun h => h.mac
def betaAt (s : DSegment) (i : Int) : Int := if inR i 0 s.hops.length then chainAdd s.beta (macs (s.hops.take i.toNat)) else 0
theorem macs_snoc (l : List DHop) (k : Nat) (h : k < l.length) : macs (l.take (k + 1)) = macs (l.take k) ++ [l[k].mac] := by unfold macs; rw [take_snoc l k h, List.map_append]; rfl
theorem macs_len (l : List DHop) : (macs l).length = l.length := by simp [macs]
theorem Sl.take {α : Type} {At : Nat → World → Nat → Nat → α → Prop} {pos : Nat → Nat} {B : Nat} {w : World} {A : Option Addr} {n c k : Nat} {ds : List α} (h : Sl At pos B w (.slice A n c) ds) (hk : k ≤ n) : Sl At pos B w (.slice A k c) (ds.take k) := by
 obtain ⟨A', n', c', e, hl, hn, hc, hr⟩ := h;cases e;refine ⟨_, _, _, rfl, by rw [List.length_take, hl]; omega, by omega, hc, fun h0 => ?_⟩;obtain ⟨b, off, e, hb, hat⟩ := hr (by omega);refine ⟨b, off, e, hb, fun j hj => ?_⟩;rw [List.getElem_take];exact hat j (by rw [List.length_take] at hj; omega)
theorem impl_ValidHop (h : DHop) (w : World) : Calls Tryz.prog 132 #[.agg #[I h.asn, I h.ing, I h.egr, I h.exp, I h.mac]] w fun e w' => e = .returned (.bool (validHop h)) ∧ Ext w w' := by
 cases h0 : inR h.asn 0 7
 · have HF : Hid (validHop h = false) := by unfold Hid validHop; rw [h0]; rfl
   have H0 := Lib.hid h0; clear h0
   go_enter Tryz.func132, Tryz.ntmps132
   go_wp2_with (first | (go_at_call 59; refine (impl_InRange _ _ _ _).mono ?_; rintro e w' ⟨rfl, rfl⟩; first | rw [H0.out]) | (go_at_call 60; refine (impl_isResidue _ _).mono ?_; rintro e w' ⟨rfl, rfl⟩; first | skip))
   go_ret
   exact ⟨ret_bool HF.out.symm, xe⟩
 · cases h1 : inR h.ing 0 6
   · have HF : Hid (validHop h = false) := by unfold Hid validHop; rw [h0, h1]; rfl
     have H0 := Lib.hid h0; clear h0; have H1 := Lib.hid h1; clear h1
     go_enter Tryz.func132, Tryz.ntmps132
     go_wp2_with (first | (go_at_call 59; refine (impl_InRange _ _ _ _).mono ?_; rintro e w' ⟨rfl, rfl⟩; first | rw [H0.out] | rw [H1.out]) | (go_at_call 60; refine (impl_isResidue _ _).mono ?_; rintro e w' ⟨rfl, rfl⟩; first | skip))
     go_ret
     exact ⟨ret_bool HF.out.symm, xe⟩
   · cases h2 : inR h.egr 0 6
     · have HF : Hid (validHop h = false) := by unfold Hid validHop; rw [h0, h1, h2]; rfl
       have H0 := Lib.hid h0; clear h0; have H1 := Lib.hid h1; clear h1; have H2 := Lib.hid h2; clear h2
       go_enter Tryz.func132, Tryz.ntmps132
       go_wp2_with (first | (go_at_call 59; refine (impl_InRange _ _ _ _).mono ?_; rintro e w' ⟨rfl, rfl⟩; first | rw [H0.out] | rw [H1.out] | rw [H2.out]) | (go_at_call 60; refine (impl_isResidue _ _).mono ?_; rintro e w' ⟨rfl, rfl⟩; first | skip))
       go_ret
       exact ⟨ret_bool HF.out.symm, xe⟩
     · cases h3 : h.ing != h.egr
       · have HF : Hid (validHop h = false) := by unfold Hid validHop; rw [h0, h1, h2, h3]; rfl
         have H0 := Lib.hid h0; clear h0; have H1 := Lib.hid h1; clear h1; have H2 := Lib.hid h2; clear h2
         go_enter Tryz.func132, Tryz.ntmps132
         go_wp2_with (first | (go_at_call 59; refine (impl_InRange _ _ _ _).mono ?_; rintro e w' ⟨rfl, rfl⟩; first | rw [H0.out] | rw [H1.out] | rw [H2.out]) | (go_at_call 60; refine (impl_isResidue _ _).mono ?_; rintro e w' ⟨rfl, rfl⟩; first | skip))
         go_ret
         exact ⟨ret_bool HF.out.symm, xe⟩
       · cases h4 : inR h.exp 0 1000000
         · have HF : Hid (validHop h = false) := by unfold Hid validHop; rw [h0, h1, h2, h3, h4]; rfl
           have H0 := Lib.hid h0; clear h0; have H1 := Lib.hid h1; clear h1; have H2 := Lib.hid h2; clear h2; have H4 := Lib.hid h4; clear h4
           go_enter Tryz.func132, Tryz.ntmps132
           go_wp2_with (first | (go_at_call 59; refine (impl_InRange _ _ _ _).mono ?_; rintro e w' ⟨rfl, rfl⟩; first | rw [H0.out] | rw [H1.out] | rw [H2.out] | rw [H4.out]) | (go_at_call 60; refine (impl_isResidue _ _).mono ?_; rintro e w' ⟨rfl, rfl⟩; first | skip))
           go_ret
           exact ⟨ret_bool HF.out.symm, xe⟩
         · cases h5 : isRes h.mac
           · have HF : Hid (validHop h = false) := by unfold Hid validHop; rw [h0, h1, h2, h3, h4, h5]; rfl
             have H0 := Lib.hid h0; clear h0; have H1 := Lib.hid h1; clear h1; have H2 := Lib.hid h2; clear h2; have H4 := Lib.hid h4; clear h4; have H5 := Lib.hid h5; clear h5
             go_enter Tryz.func132, Tryz.ntmps132
             go_wp2_with (first | (go_at_call 59; refine (impl_InRange _ _ _ _).mono ?_; rintro e w' ⟨rfl, rfl⟩; first | rw [H0.out] | rw [H1.out] | rw [H2.out] | rw [H4.out]) | (go_at_call 60; refine (impl_isResidue _ _).mono ?_; rintro e w' ⟨rfl, rfl⟩; first | rw [H5.out]))
             go_ret
             exact ⟨ret_bool HF.out.symm, xe⟩
           · have HF : Hid (validHop h = true) := by unfold Hid validHop; rw [h0, h1, h2, h3, h4, h5]; rfl
             have H0 := Lib.hid h0; clear h0; have H1 := Lib.hid h1; clear h1; have H2 := Lib.hid h2; clear h2; have H4 := Lib.hid h4; clear h4; have H5 := Lib.hid h5; clear h5
             go_enter Tryz.func132, Tryz.ntmps132
             go_wp2_with (first | (go_at_call 59; refine (impl_InRange _ _ _ _).mono ?_; rintro e w' ⟨rfl, rfl⟩; first | rw [H0.out] | rw [H1.out] | rw [H2.out] | rw [H4.out]) | (go_at_call 60; refine (impl_isResidue _ _).mono ?_; rintro e w' ⟨rfl, rfl⟩; first | rw [H5.out]))
             go_ret
             exact ⟨ret_bool HF.out.symm, xe⟩
theorem spec_ValidHop (h : DHop) (w : World) : Calls Tryz.prog 116 #[.agg #[I h.asn, I h.ing, I h.egr, I h.exp, I h.mac]] w fun e w' => e = .returned (.bool (validHop h)) ∧ Ext w w' := by
 cases h0 : inR h.asn 0 7
 · have HF : Hid (validHop h = false) := by unfold Hid validHop; rw [h0]; rfl
   have H0 := Lib.hid h0; clear h0
   go_enter Tryz.func116, Tryz.ntmps116
   go_wp2_with (first | (go_at_call 78; refine (spec_l1In _ _ _ _).mono ?_; rintro e w' ⟨rfl, rfl⟩; first | rw [H0.out]) | (go_at_call 79; refine (spec_l3Ok _ _).mono ?_; rintro e w' ⟨rfl, rfl⟩; first | skip))
   go_ret
   exact ⟨ret_bool HF.out.symm, xe⟩
 · cases h1 : inR h.ing 0 6
   · have HF : Hid (validHop h = false) := by unfold Hid validHop; rw [h0, h1]; rfl
     have H0 := Lib.hid h0; clear h0; have H1 := Lib.hid h1; clear h1
     go_enter Tryz.func116, Tryz.ntmps116
     go_wp2_with (first | (go_at_call 78; refine (spec_l1In _ _ _ _).mono ?_; rintro e w' ⟨rfl, rfl⟩; first | rw [H0.out] | rw [H1.out]) | (go_at_call 79; refine (spec_l3Ok _ _).mono ?_; rintro e w' ⟨rfl, rfl⟩; first | skip))
     go_ret
     exact ⟨ret_bool HF.out.symm, xe⟩
   · cases h2 : inR h.egr 0 6
     · have HF : Hid (validHop h = false) := by unfold Hid validHop; rw [h0, h1, h2]; rfl
       have H0 := Lib.hid h0; clear h0; have H1 := Lib.hid h1; clear h1; have H2 := Lib.hid h2; clear h2
       go_enter Tryz.func116, Tryz.ntmps116
       go_wp2_with (first | (go_at_call 78; refine (spec_l1In _ _ _ _).mono ?_; rintro e w' ⟨rfl, rfl⟩; first | rw [H0.out] | rw [H1.out] | rw [H2.out]) | (go_at_call 79; refine (spec_l3Ok _ _).mono ?_; rintro e w' ⟨rfl, rfl⟩; first | skip))
       go_ret
       exact ⟨ret_bool HF.out.symm, xe⟩
     · cases h3 : h.ing != h.egr
       · have HF : Hid (validHop h = false) := by unfold Hid validHop; rw [h0, h1, h2, h3]; rfl
         have H0 := Lib.hid h0; clear h0; have H1 := Lib.hid h1; clear h1; have H2 := Lib.hid h2; clear h2
         go_enter Tryz.func116, Tryz.ntmps116
         go_wp2_with (first | (go_at_call 78; refine (spec_l1In _ _ _ _).mono ?_; rintro e w' ⟨rfl, rfl⟩; first | rw [H0.out] | rw [H1.out] | rw [H2.out]) | (go_at_call 79; refine (spec_l3Ok _ _).mono ?_; rintro e w' ⟨rfl, rfl⟩; first | skip))
         go_ret
         exact ⟨ret_bool HF.out.symm, xe⟩
       · cases h4 : inR h.exp 0 1000000
         · have HF : Hid (validHop h = false) := by unfold Hid validHop; rw [h0, h1, h2, h3, h4]; rfl
           have H0 := Lib.hid h0; clear h0; have H1 := Lib.hid h1; clear h1; have H2 := Lib.hid h2; clear h2; have H4 := Lib.hid h4; clear h4
           go_enter Tryz.func116, Tryz.ntmps116
           go_wp2_with (first | (go_at_call 78; refine (spec_l1In _ _ _ _).mono ?_; rintro e w' ⟨rfl, rfl⟩; first | rw [H0.out] | rw [H1.out] | rw [H2.out] | rw [H4.out]) | (go_at_call 79; refine (spec_l3Ok _ _).mono ?_; rintro e w' ⟨rfl, rfl⟩; first | skip))
           go_ret
           exact ⟨ret_bool HF.out.symm, xe⟩
         · cases h5 : isRes h.mac
           · have HF : Hid (validHop h = false) := by unfold Hid validHop; rw [h0, h1, h2, h3, h4, h5]; rfl
             have H0 := Lib.hid h0; clear h0; have H1 := Lib.hid h1; clear h1; have H2 := Lib.hid h2; clear h2; have H4 := Lib.hid h4; clear h4; have H5 := Lib.hid h5; clear h5
             go_enter Tryz.func116, Tryz.ntmps116
             go_wp2_with (first | (go_at_call 78; refine (spec_l1In _ _ _ _).mono ?_; rintro e w' ⟨rfl, rfl⟩; first | rw [H0.out] | rw [H1.out] | rw [H2.out] | rw [H4.out]) | (go_at_call 79; refine (spec_l3Ok _ _).mono ?_; rintro e w' ⟨rfl, rfl⟩; first | rw [H5.out]))
             go_ret
             exact ⟨ret_bool HF.out.symm, xe⟩
           · have HF : Hid (validHop h = true) := by unfold Hid validHop; rw [h0, h1, h2, h3, h4, h5]; rfl
             have H0 := Lib.hid h0; clear h0; have H1 := Lib.hid h1; clear h1; have H2 := Lib.hid h2; clear h2; have H4 := Lib.hid h4; clear h4; have H5 := Lib.hid h5; clear h5
             go_enter Tryz.func116, Tryz.ntmps116
             go_wp2_with (first | (go_at_call 78; refine (spec_l1In _ _ _ _).mono ?_; rintro e w' ⟨rfl, rfl⟩; first | rw [H0.out] | rw [H1.out] | rw [H2.out] | rw [H4.out]) | (go_at_call 79; refine (spec_l3Ok _ _).mono ?_; rintro e w' ⟨rfl, rfl⟩; first | rw [H5.out]))
             go_ret
             exact ⟨ret_bool HF.out.symm, xe⟩
theorem impl_HopMAC (key ts beta : Int) (h : DHop) (w : World) : Calls Tryz.prog 134 #[I key, I ts, I beta, .agg #[I h.asn, I h.ing, I h.egr, I h.exp, I h.mac]] w fun e w' => e = .returned (I (hopMac key ts beta h)) ∧ Ext w w' := by
 go_enter Tryz.func134, Tryz.ntmps134
 go_wp2_with fail
 refine (impl_ComputeMAC _ _ [ts, beta, h.asn, h.ing, h.egr, h.exp] _ (by exact Own.ints (E := 3) (n := 6) (lo := 0) (own_newN _ _ _ _ _ _ _ (by simp) (by simp) (by unfold maxLen; omega) (Nat.zero_le _))) (by simp)).mono ?_;rintro e w1 ⟨rfl, e1⟩;go_wp2_with fail
 go_ret
 exact ⟨rfl, xe⟩
theorem spec_HopMAC (key ts beta : Int) (h : DHop) (w : World) : Calls Tryz.prog 106 #[I key, I ts, I beta, .agg #[I h.asn, I h.ing, I h.egr, I h.exp, I h.mac]] w fun e w' => e = .returned (I (hopMac key ts beta h)) ∧ Ext w w' := by
 go_enter Tryz.func106, Tryz.ntmps106
 go_wp2_with fail
 refine (spec_ComputeMAC _ _ [ts, beta, h.asn, h.ing, h.egr, h.exp] _ (by exact Own.ints (E := 3) (n := 6) (lo := 0) (own_newN _ _ _ _ _ _ _ (by simp) (by simp) (by unfold maxLen; omega) (Nat.zero_le _))) (by simp)).mono ?_;rintro e w1 ⟨rfl, e1⟩;go_wp2_with fail
 go_ret
 exact ⟨rfl, xe⟩
theorem impl_VerifyHop (vt : Value) (ts beta : Int) (h : DHop) (t : DTopology) (w : World) (ht : TopologyV w.heap.size w vt t) :
 Calls Tryz.prog 99 #[vt, I ts, I beta, .agg #[I h.asn, I h.ing, I h.egr, I h.exp, I h.mac]] w fun e w' => e = .returned (.bool (verifyHop t ts beta h)) ∧ Ext w w' := by
 obtain ⟨At_0, nt_0, ct_0, At_1, nt_1, ct_1, rfl, st_0, st_1⟩ := id ht;obtain ⟨lt_0, kt_0, mt_0⟩ := st_0.len;subst lt_0;unfold maxLen at mt_0;obtain ⟨lt_1, kt_1, mt_1⟩ := st_1.len;subst lt_1;unfold maxLen at mt_1;have Rt := Lib.hid ht; clear ht;have St_0 := Lib.hid st_0; clear st_0;have St_1 := Lib.hid st_1; clear st_1
 go_enter Tryz.func99, Tryz.ntmps99
 go_wp2_with fail
 first | refine name_wp ?_ ?_ ?_ | refine name_calls ?_ ?_ ?_
 exact (fun W => Ext w W ∧ Blk W (w.heap.size) 27 [.slice At_0 t.ases.length ct_0, .slice At_1 t.links.length ct_1] ∧ Blk W (w.heap.size + 1) 91 [I h.asn, I h.ing, I h.egr, I h.exp, I h.mac]);exact ⟨xe, xb, xb⟩;rintro w0 ⟨ew0, bt, bh⟩;have lt := bt.lt;obtain ⟨pt_0, pt_1⟩ := blk2 bt;have Bt := Lib.hid bt; clear bt;have lh := bh.lt;obtain ⟨ph_0, ph_1, ph_2, ph_3, ph_4⟩ := blk5 bh;have Bh := Lib.hid bh; clear bh;cases hva : isAs t h.asn
 · skip
   refine wp_region_L (E := Ext) (w0 := w0) (G := fun τ => match τ with | 10 => some (fun v _ => v = .bool (validHop h)) | 15 => some (fun v _ => v = .bool (false)) | _ => none) Ext.refl (fun h k => Ext.trans h k) (by kernel_rfl) (by kernel_rfl) xg (Ext.drew (by exact Ext.refl _)) ?_
   repeat' (first
    | ((with_reducible refine wpL_skip ?_ ?_ ?_)
       · rfl
       · rfl
       simp only [putS])
    | ((with_reducible refine wpL_quiet ?_ ?_ ?_ ?_)
       · rfl
       · rfl
       · rfl
       apply Exists.intro
       refine ⟨fun W hW hS => ?_, ?_⟩
       · have hC := (Ext.facts hW).1
         go_simp
         first | done | (with_reducible rfl) | (rw [if_neg (by omega)]; exact ⟨rfl, rfl⟩) | rfl
       first | (with_reducible refine wpL_boolT ?_) | (with_reducible refine wpL_boolF ?_) | (with_reducible refine wpL_bool (fun hB => ?_) (fun hB => ?_)) | skip
       all_goals simp only [putS])
    | ((refine wpL_call ?_ rfl rfl ?_ ?_ ?_)
       · rfl
       · rfl
       · intro W hW hS
         have hC := (Ext.facts hW).1;unfold growAt
         go_simp
         simp only [growUpon]
         first | (go_at_call 132; ((with_reducible refine Calls.mono (impl_ValidHop (h) _) ?_)); rintro e w9 ⟨rfl, e9⟩; exact ⟨_, rfl, e9, by first | rfl | (simp only [*])⟩) | (go_at_call 119; ((with_reducible refine Calls.mono (impl_isAS _ _ (t) _ (by exact Rt.out.ext xe)) ?_)); rintro e w9 ⟨rfl, e9⟩; exact ⟨_, rfl, e9, by first | rfl | (simp only [*])⟩)
       first | (with_reducible refine wpL_boolT ?_) | (with_reducible refine wpL_boolF ?_) | (with_reducible refine wpL_bool (fun hB => ?_) (fun hB => ?_)) | skip
       all_goals simp only [putS]))
   all_goals (refine wpL_nil (fun w1 e1 hL => ?_); clear hL)
   all_goals (go_wp2_with fail; go_ret; exact ⟨ret_bool (by simp [verifyHop, *]), xe⟩)
 · obtain ⟨m, hxm, hm⟩ := isAs_nat hva
   have i2 : (0 : Int) ≤ h.asn := by omega
   have i3 : h.asn < (t.ases.length : Int) := by omega
   obtain rfl : m = h.asn.toNat := by omega
   clear hxm;obtain ⟨b2, off2, rfl, hb2, hkl2, hc2⟩ := (St_0.out.ext (w' := w0) xe).at_ hm
   have HF : Hid (verifyHop t ts beta h = (validHop h && h.mac == hopMac t.ases[h.asn.toNat].key ts beta h)) := by unfold Hid verifyHop asAt; rw [hva, List.getD_eq_getElem?_getD, List.getElem?_eq_getElem hm]; simp
   generalize t.ases[h.asn.toNat] = y at *
   obtain ⟨y0, y1, y2⟩ := hc2;refine wp_region_L (E := Ext) (w0 := w0) (G := fun τ => match τ with | 10 => some (fun v _ => v = .bool (validHop h)) | 15 => some (fun v _ => v = .bool (true)) | 30 => some (fun v _ => v = I (hopMac y.key ts beta h)) | _ => none) Ext.refl (fun h k => Ext.trans h k) (by kernel_rfl) (by kernel_rfl) xg (Ext.drew (by exact Ext.refl _)) ?_
   repeat' (first
    | ((with_reducible refine wpL_skip ?_ ?_ ?_)
       · rfl
       · rfl
       simp only [putS])
    | ((with_reducible refine wpL_quiet ?_ ?_ ?_ ?_)
       · rfl
       · rfl
       · rfl
       apply Exists.intro
       refine ⟨fun W hW hS => ?_, ?_⟩
       · have hC := (Ext.facts hW).1
         go_simp
         first | done | (with_reducible rfl) | (rw [if_neg (by omega)]; exact ⟨rfl, rfl⟩) | rfl
       first | (with_reducible refine wpL_boolT ?_) | (with_reducible refine wpL_boolF ?_) | (with_reducible refine wpL_bool (fun hB => ?_) (fun hB => ?_)) | skip
       all_goals simp only [putS])
    | ((refine wpL_call ?_ rfl rfl ?_ ?_ ?_)
       · rfl
       · rfl
       · intro W hW hS
         have hC := (Ext.facts hW).1;unfold growAt
         go_simp
         simp only [growUpon]
         first | (go_at_call 132; ((with_reducible refine Calls.mono (impl_ValidHop (h) _) ?_)); rintro e w9 ⟨rfl, e9⟩; exact ⟨_, rfl, e9, by first | rfl | (simp only [*])⟩) | (go_at_call 119; ((with_reducible refine Calls.mono (impl_isAS _ _ (t) _ (by exact Rt.out.ext xe)) ?_)); rintro e w9 ⟨rfl, e9⟩; exact ⟨_, rfl, e9, by first | rfl | (simp only [*])⟩) | (go_at_call 134; ((with_reducible refine Calls.mono (impl_HopMAC _ _ _ (h) _) ?_)); rintro e w9 ⟨rfl, e9⟩; exact ⟨_, rfl, e9, by first | rfl | (simp only [*])⟩)
       first | (with_reducible refine wpL_boolT ?_) | (with_reducible refine wpL_boolF ?_) | (with_reducible refine wpL_bool (fun hB => ?_) (fun hB => ?_)) | skip
       all_goals simp only [putS]))
   all_goals (refine wpL_nil (fun w1 e1 hL => ?_); clear hL)
   all_goals (go_wp2_with fail; go_ret; exact ⟨ret_bool (by rw [HF.out]; simp [*]), xe⟩)
theorem spec_VerifyHop (vt : Value) (ts beta : Int) (h : DHop) (t : DTopology) (w : World) (ht : TopologyV w.heap.size w vt t) :
 Calls Tryz.prog 118 #[vt, I ts, I beta, .agg #[I h.asn, I h.ing, I h.egr, I h.exp, I h.mac]] w fun e w' => e = .returned (.bool (verifyHop t ts beta h)) ∧ Ext w w' := by
 obtain ⟨At_0, nt_0, ct_0, At_1, nt_1, ct_1, rfl, st_0, st_1⟩ := id ht;obtain ⟨lt_0, kt_0, mt_0⟩ := st_0.len;subst lt_0;unfold maxLen at mt_0;obtain ⟨lt_1, kt_1, mt_1⟩ := st_1.len;subst lt_1;unfold maxLen at mt_1;have Rt := Lib.hid ht; clear ht;have St_0 := Lib.hid st_0; clear st_0;have St_1 := Lib.hid st_1; clear st_1
 go_enter Tryz.func118, Tryz.ntmps118
 go_wp2_with fail
 first | refine name_wp ?_ ?_ ?_ | refine name_calls ?_ ?_ ?_
 exact (fun W => Ext w W ∧ Blk W (w.heap.size) 27 [.slice At_0 t.ases.length ct_0, .slice At_1 t.links.length ct_1] ∧ Blk W (w.heap.size + 1) 91 [I h.asn, I h.ing, I h.egr, I h.exp, I h.mac]);exact ⟨xe, xb, xb⟩;rintro w0 ⟨ew0, bt, bh⟩;have lt := bt.lt;obtain ⟨pt_0, pt_1⟩ := blk2 bt;have Bt := Lib.hid bt; clear bt;have lh := bh.lt;obtain ⟨ph_0, ph_1, ph_2, ph_3, ph_4⟩ := blk5 bh;have Bh := Lib.hid bh; clear bh;cases hva : isAs t h.asn
 · skip
   refine wp_region_L (E := Ext) (w0 := w0) (G := fun τ => match τ with | 10 => some (fun v _ => v = .bool (validHop h)) | 15 => some (fun v _ => v = .bool (false)) | _ => none) Ext.refl (fun h k => Ext.trans h k) (by kernel_rfl) (by kernel_rfl) xg (Ext.drew (by exact Ext.refl _)) ?_
   repeat' (first
    | ((with_reducible refine wpL_skip ?_ ?_ ?_)
       · rfl
       · rfl
       simp only [putS])
    | ((with_reducible refine wpL_quiet ?_ ?_ ?_ ?_)
       · rfl
       · rfl
       · rfl
       apply Exists.intro
       refine ⟨fun W hW hS => ?_, ?_⟩
       · have hC := (Ext.facts hW).1
         go_simp
         first | done | (with_reducible rfl) | (rw [if_neg (by omega)]; exact ⟨rfl, rfl⟩) | rfl
       first | (with_reducible refine wpL_boolT ?_) | (with_reducible refine wpL_boolF ?_) | (with_reducible refine wpL_bool (fun hB => ?_) (fun hB => ?_)) | skip
       all_goals simp only [putS])
    | ((refine wpL_call ?_ rfl rfl ?_ ?_ ?_)
       · rfl
       · rfl
       · intro W hW hS
         have hC := (Ext.facts hW).1;unfold growAt
         go_simp
         simp only [growUpon]
         first | (go_at_call 116; ((with_reducible refine Calls.mono (spec_ValidHop (h) _) ?_)); rintro e w9 ⟨rfl, e9⟩; exact ⟨_, rfl, e9, by first | rfl | (simp only [*])⟩) | (go_at_call 117; ((with_reducible refine Calls.mono (spec_l5Realm _ _ (t) _ (by exact Rt.out.ext xe)) ?_)); rintro e w9 ⟨rfl, e9⟩; exact ⟨_, rfl, e9, by first | rfl | (simp only [*])⟩)
       first | (with_reducible refine wpL_boolT ?_) | (with_reducible refine wpL_boolF ?_) | (with_reducible refine wpL_bool (fun hB => ?_) (fun hB => ?_)) | skip
       all_goals simp only [putS]))
   all_goals (refine wpL_nil (fun w1 e1 hL => ?_); clear hL)
   all_goals (go_wp2_with fail; go_ret; exact ⟨ret_bool (by simp [verifyHop, *]), xe⟩)
 · obtain ⟨m, hxm, hm⟩ := isAs_nat hva
   have i2 : (0 : Int) ≤ h.asn := by omega
   have i3 : h.asn < (t.ases.length : Int) := by omega
   obtain rfl : m = h.asn.toNat := by omega
   clear hxm;obtain ⟨b2, off2, rfl, hb2, hkl2, hc2⟩ := (St_0.out.ext (w' := w0) xe).at_ hm
   have HF : Hid (verifyHop t ts beta h = (validHop h && h.mac == hopMac t.ases[h.asn.toNat].key ts beta h)) := by unfold Hid verifyHop asAt; rw [hva, List.getD_eq_getElem?_getD, List.getElem?_eq_getElem hm]; simp
   generalize t.ases[h.asn.toNat] = y at *
   obtain ⟨y0, y1, y2⟩ := hc2;refine wp_region_L (E := Ext) (w0 := w0) (G := fun τ => match τ with | 10 => some (fun v _ => v = .bool (validHop h)) | 15 => some (fun v _ => v = .bool (true)) | 30 => some (fun v _ => v = I (hopMac y.key ts beta h)) | _ => none) Ext.refl (fun h k => Ext.trans h k) (by kernel_rfl) (by kernel_rfl) xg (Ext.drew (by exact Ext.refl _)) ?_
   repeat' (first
    | ((with_reducible refine wpL_skip ?_ ?_ ?_)
       · rfl
       · rfl
       simp only [putS])
    | ((with_reducible refine wpL_quiet ?_ ?_ ?_ ?_)
       · rfl
       · rfl
       · rfl
       apply Exists.intro
       refine ⟨fun W hW hS => ?_, ?_⟩
       · have hC := (Ext.facts hW).1
         go_simp
         first | done | (with_reducible rfl) | (rw [if_neg (by omega)]; exact ⟨rfl, rfl⟩) | rfl
       first | (with_reducible refine wpL_boolT ?_) | (with_reducible refine wpL_boolF ?_) | (with_reducible refine wpL_bool (fun hB => ?_) (fun hB => ?_)) | skip
       all_goals simp only [putS])
    | ((refine wpL_call ?_ rfl rfl ?_ ?_ ?_)
       · rfl
       · rfl
       · intro W hW hS
         have hC := (Ext.facts hW).1;unfold growAt
         go_simp
         simp only [growUpon]
         first | (go_at_call 116; ((with_reducible refine Calls.mono (spec_ValidHop (h) _) ?_)); rintro e w9 ⟨rfl, e9⟩; exact ⟨_, rfl, e9, by first | rfl | (simp only [*])⟩) | (go_at_call 117; ((with_reducible refine Calls.mono (spec_l5Realm _ _ (t) _ (by exact Rt.out.ext xe)) ?_)); rintro e w9 ⟨rfl, e9⟩; exact ⟨_, rfl, e9, by first | rfl | (simp only [*])⟩) | (go_at_call 106; ((with_reducible refine Calls.mono (spec_HopMAC _ _ _ (h) _) ?_)); rintro e w9 ⟨rfl, e9⟩; exact ⟨_, rfl, e9, by first | rfl | (simp only [*])⟩)
       first | (with_reducible refine wpL_boolT ?_) | (with_reducible refine wpL_boolF ?_) | (with_reducible refine wpL_bool (fun hB => ?_) (fun hB => ?_)) | skip
       all_goals simp only [putS]))
   all_goals (refine wpL_nil (fun w1 e1 hL => ?_); clear hL)
   all_goals (go_wp2_with fail; go_ret; exact ⟨ret_bool (by rw [HF.out]; simp [*]), xe⟩)
theorem impl_ChainAdd (b : Int) (v : Value) (l : List Int) (w : World) (h : IntS w.heap.size w v l) : Calls Tryz.prog 135 #[I b, v] w fun e w' => e = .returned (I (chainAdd b l)) ∧ w = w' := by
 obtain ⟨A, n, c, rfl, hl, hn, hm, -⟩ := id h;have H := Lib.hid h; have HL := Lib.hid hl; clear h hl;unfold maxLen at hm
 go_enter Tryz.func135, Tryz.ntmps135
 go_wp2
 go_loop [0,9] (fun d i => ∃ k : Nat, k ≤ n ∧ i = I k ∧ d = I ((l.take k).foldl addM b)) (fun _ i => n - (intOf i).toNat)
 case atStart => exact ⟨0, by omega, rfl, by simp⟩
 case round =>
  obtain ⟨k, hk, rfl, rfl⟩ := hrel;by_cases hlt : k < n
  · obtain ⟨bb, off, rfl, hb, hkl, hc⟩ := H.out.at_ hlt
    have HX := Lib.hid (foldl_snoc addM b l k hkl);have hc : w.cell? ⟨bb, off + k, none⟩ = some (I l[k]) := hc
    generalize l[k] = x at *
    generalize (l.take k).foldl addM b = z at *
    go_wp2_with (first | (go_at_call 154; refine (impl_AddMod _ _ _).mono ?_; rintro e w' ⟨rfl, rfl⟩))
    go_round
    case rel => exact ⟨k + 1, by omega, by go_num, by rw [HX.out]⟩
    case measure => simp [intOf]; omega
  · go_wp2
    go_ret
    exact ⟨ret_int (by rw [List.take_of_length_le (by rw [HL.out]; omega)]; rfl), rfl⟩
theorem spec_ChainAdd (b : Int) (v : Value) (l : List Int) (w : World) (h : IntS w.heap.size w v l) : Calls Tryz.prog 107 #[I b, v] w fun e w' => e = .returned (I (chainAdd b l)) ∧ w = w' := by
 obtain ⟨A, n, c, rfl, hl, hn, hm, -⟩ := id h;have H := Lib.hid h; have HL := Lib.hid hl; clear h hl;unfold maxLen at hm
 go_enter Tryz.func107, Tryz.ntmps107
 go_wp2
 go_loop [0,5] (fun d i => ∃ k : Nat, k ≤ n ∧ i = I k ∧ d = I ((l.take k).foldl addM b)) (fun _ i => n - (intOf i).toNat)
 case atStart => exact ⟨0, by omega, rfl, by simp⟩
 case round =>
  obtain ⟨k, hk, rfl, rfl⟩ := hrel;by_cases hlt : k < n
  · obtain ⟨bb, off, rfl, hb, hkl, hc⟩ := H.out.at_ hlt
    have HX := Lib.hid (foldl_snoc addM b l k hkl);have hc : w.cell? ⟨bb, off + k, none⟩ = some (I l[k]) := hc
    generalize l[k] = x at *
    generalize (l.take k).foldl addM b = z at *
    go_wp2_with (first | (go_at_call 141; refine (spec_AddMod _ _ _).mono ?_; rintro e w' ⟨rfl, rfl⟩))
    go_round
    case rel => exact ⟨k + 1, by omega, by go_num, by rw [HX.out]⟩
    case measure => simp [intOf]; omega
  · go_wp2
    go_ret
    exact ⟨ret_int (by rw [List.take_of_length_le (by rw [HL.out]; omega)]; rfl), rfl⟩
theorem impl_macsOf (vl : Value) (l : List DHop) (w : World) (hl : HopS w.heap.size w vl l) (hn : l.length ≤ 100000000) :
 Calls Tryz.prog 136 #[vl] w fun e w' => ∃ v', e = .returned v' ∧ IntSO w.heap.size w'.heap.size w' v' (macs l) ∧ Ext w w' := by
 obtain ⟨Al, nl, cl, rfl, ll, kl, ml, -⟩ := id hl;subst ll;unfold maxLen at ml;have Rl := Lib.hid hl; clear hl
 go_enter Tryz.func136, Tryz.ntmps136
 go_wp2_with fail
 go_loopw [3, 8] (fun v i wr => ∃ k : Nat, k ≤ l.length ∧ i = I k ∧ IntSO w.heap.size wr.heap.size wr v (macs (l.take k)) ∧ Ext w wr) (fun _ i _ => l.length - (intOf i).toNat)
 case atStart => exact ⟨0, by omega, rfl, Own.nil _ _ _ _ _, xe⟩
 case round =>
  obtain ⟨k, hk, rfl, ho, he⟩ := hrel;have HO := Lib.hid ho; clear ho;by_cases hlt : k < l.length
  · obtain ⟨b, off, rfl, hb, hkl, hc⟩ := (Rl.out.ext (w' := wr) xe).at_ hlt
    have HX := Lib.hid (macs_snoc l k hkl)
    have hml : (macs (l.take k)).length ≤ k := by rw [macs_len, List.length_take]; omega
    generalize l[k] = x at *
    generalize macs (l.take k) = sl at *
    obtain ⟨h0, h1, h2, h3, h4⟩ := hc;go_wp2_with (at_builtin; refine hold ?_)
    refine unhold (wpList_app w rfl (.tmp 12) (.tmp 15) _ rfl 3 (.int .i64 0) 1 8 Tryz.underlying96 info_int rfl (by omega) _ sl.length (sl.map I) rfl _ 1 1 [I x.mac] rfl
     (by exact ((HO.out.alloc _).alloc _).lt_size) (row_newN _ _ _ _ _ _ (by first | rfl | simp) rfl) (one_ints [x.mac]) xe (by unfold maxLen; omega) (by omega) ?_)
    intro v1 w1 ho1 he1 _ _;have O1 := Lib.hid ho1; clear ho1;go_wp2_with (at_builtin; refine hold ?_)
    go_roundw
    case rel => exact ⟨k + 1, by omega, by go_num, by rw [HX.out]; unfold IntSO; simpa using O1.out, he1⟩
    case measure => simp [intOf]; omega
  · obtain rfl : k = l.length := by omega
    go_wp2_with fail
    go_ret
    exact ⟨_, rfl, by have h := HO.out; rw [List.take_length] at h; exact h, he⟩
theorem spec_l9Seals (vs : Value) (i : Int) (s : DSegment) (w : World) (hs : SegmentV w.heap.size w vs s) (hi0 : 0 ≤ i) (hi1 : i ≤ s.hops.length) (hn : s.hops.length ≤ 100000000) :
 Calls Tryz.prog 108 #[vs, I i] w fun e w' => ∃ v', e = .returned v' ∧ IntSO w.heap.size w'.heap.size w' v' (macs (s.hops.take i.toNat)) ∧ Ext w w' := by
 obtain ⟨m, rfl⟩ := Int.eq_ofNat_of_zero_le hi0;rw [Int.toNat_natCast];obtain ⟨As_2, ns_2, cs_2, rfl, ss_2⟩ := id hs;obtain ⟨ls_2, ks_2, ms_2⟩ := ss_2.len;subst ls_2;unfold maxLen at ms_2;have Rs := Lib.hid hs; clear hs;have Ss_2 := Lib.hid ss_2; clear ss_2
 go_enter Tryz.func108, Tryz.ntmps108
 go_wp2_with fail
 refine name_wp (fun W => ∃ wb, Ext w wb ∧ Blk wb w.heap.size 33 [I s.ts, I s.beta, .slice As_2 s.hops.length cs_2] ∧ Ext wb W ∧ IntSO wb.heap.size W.heap.size W (.slice (some ⟨w.heap.size + 1, 0, none⟩) 0 0) []) ⟨_, (Ext.refl _).alloc _, Blk.new _ _ _, (Ext.refl _).alloc _, own_zero' _ _ _ _ _ (by simp) (Nat.le_refl _)⟩ ?_;rintro wz ⟨w0, ew0, bs, ez, hz⟩;have Bs := Lib.hid bs; clear bs;have HZ := Lib.hid hz; clear hz
 go_loopw [5, 6] (fun v i wr => ∃ k : Nat, k ≤ m ∧ i = I k ∧ IntSO w0.heap.size wr.heap.size wr v (macs (s.hops.take k)) ∧ Ext w0 wr) (fun _ i _ => m - (intOf i).toNat)
 case atStart => exact ⟨0, by omega, rfl, HZ.out, ez⟩
 case round =>
  obtain ⟨k, hk, rfl, ho, he⟩ := hrel;have HO := Lib.hid ho; clear ho;have bs := Bs.out.ext (w' := wr) xe;have ls := bs.lt;obtain ⟨ps_0, ps_1, ps_2⟩ := blk3 bs;clear bs;by_cases hlt : k < m
  · have hkh : k < s.hops.length := by omega
    obtain ⟨b, off, rfl, hb, hkl, hc⟩ := (Ss_2.out.ext (w' := wr) xe).at_ hkh;have HX := Lib.hid (macs_snoc s.hops k hkl)
    have hml : (macs (s.hops.take k)).length ≤ k := by rw [macs_len, List.length_take]; omega
    generalize s.hops[k] = x at *
    generalize macs (s.hops.take k) = sl at *
    obtain ⟨h0, h1, h2, h3, h4⟩ := hc
    have i0 : (0 : Int) ≤ (k : Int) := by omega
    have i1 : (k : Int) < (s.hops.length : Int) := by omega
    go_wp2_with (at_builtin; refine hold ?_)
    refine unhold (wpList_app w0 rfl (.tmp 13) (.tmp 20) _ rfl 3 (.int .i64 0) 1 8 Tryz.underlying96 info_int rfl (by omega) _ sl.length (sl.map I) rfl _ 1 1 [I x.mac] rfl
     (by exact (HO.out.alloc _).lt_size) (row_newN _ _ _ _ _ _ (by first | rfl | simp) rfl) (one_ints [x.mac]) xe (by unfold maxLen; omega) (by omega) ?_)
    intro v1 w1 ho1 he1 _ _;have O1 := Lib.hid ho1; clear ho1;go_wp2_with (at_builtin; refine hold ?_)
    go_roundw
    case rel => exact ⟨k + 1, by omega, by go_num, by rw [HX.out]; unfold IntSO; simpa using O1.out, he1⟩
    case measure => simp [intOf]; omega
  · obtain rfl : k = m := by omega
    go_wp2_with fail
    go_ret
    exact ⟨_, rfl, Own.more HO.out ew0.size (Nat.le_refl _), xe⟩
theorem impl_BetaAt (vs : Value) (i : Int) (s : DSegment) (w : World) (hs : SegmentV w.heap.size w vs s) (hn : s.hops.length ≤ 100000000) :
 Calls Tryz.prog 100 #[vs, I i] w fun e w' => e = .returned (I (betaAt s i)) ∧ Ext w w' := by
 obtain ⟨As_2, ns_2, cs_2, rfl, ss_2⟩ := id hs;obtain ⟨ls_2, ks_2, ms_2⟩ := ss_2.len;subst ls_2;unfold maxLen at ms_2;have Rs := Lib.hid hs; clear hs;have Ss_2 := Lib.hid ss_2; clear ss_2;cases hv : inR i 0 s.hops.length
 · have HF : Hid (betaAt s i = 0) := by unfold Hid betaAt; rw [hv]; rfl
   go_enter Tryz.func100, Tryz.ntmps100
   go_wp2_with fail
   refine (impl_InRange _ _ _ _).mono ?_;rintro e w1 ⟨rfl, rfl⟩;rw [hv];go_wp2_with fail
   go_ret
   exact ⟨ret_int HF.out.symm, xe⟩
 · obtain ⟨i0, i1⟩ := inR_iff.1 hv
   obtain ⟨k, rfl⟩ := Int.eq_ofNat_of_zero_le i0
   have HF : Hid (betaAt s k = chainAdd s.beta (macs (s.hops.take k))) := by unfold Hid betaAt; rw [hv]; rfl
   have HV := Lib.hid hv; clear hv;have htl : (s.hops.take k).length ≤ s.hops.length := List.length_take_le' _ _
   have hkn : k ≤ s.hops.length := by omega
   have i2 : (k : Int) ≤ (cs_2 : Int) := by omega
   go_enter Tryz.func100, Tryz.ntmps100
   go_wp2_with fail
   first | refine name_wp ?_ ?_ ?_ | refine name_calls ?_ ?_ ?_
   exact (fun W => Ext w W ∧ Blk W (w.heap.size) 33 [I s.ts, I s.beta, .slice As_2 s.hops.length cs_2]);exact ⟨xe, xb⟩;rintro w0 ⟨ew0, bs⟩;have ls := bs.lt;obtain ⟨ps_0, ps_1, ps_2⟩ := blk3 bs;have Bs := Lib.hid bs; clear bs;refine (impl_InRange _ _ _ _).mono ?_;rintro e w1 ⟨rfl, rfl⟩;rw [HV.out];go_wp2_with fail
   refine wp_region_L (E := Ext) (w0 := w0) (G := fun τ => match τ with | 17 => some (fun v W => IntS W.heap.size W v (macs (s.hops.take k))) | 18 => some (fun v _ => v = I (chainAdd s.beta (macs (s.hops.take k)))) | _ => none) Ext.refl (fun h k => Ext.trans h k) (by kernel_rfl) (by kernel_rfl) xg (Ext.drew (by exact Ext.refl _)) ?_
   repeat' (first
    | ((with_reducible refine wpL_skip ?_ ?_ ?_)
       · rfl
       · rfl
       simp only [putS])
    | ((with_reducible refine wpL_quiet ?_ ?_ ?_ ?_)
       · rfl
       · rfl
       · rfl
       apply Exists.intro
       refine ⟨fun W hW hS => ?_, ?_⟩
       · have hC := (Ext.facts hW).1
         go_simp
         first | done | (with_reducible rfl) | (rw [if_neg (by omega)]; exact ⟨rfl, rfl⟩) | rfl
       first | (with_reducible refine wpL_boolT ?_) | (with_reducible refine wpL_boolF ?_) | (with_reducible refine wpL_bool (fun hB => ?_) (fun hB => ?_)) | skip
       all_goals simp only [putS])
    | ((refine wpL_call ?_ rfl rfl ?_ ?_ ?_)
       · rfl
       · rfl
       · intro W hW hS
         have hC := (Ext.facts hW).1;unfold growAt
         go_simp
         simp only [growUpon]
         first | (go_at_call 136; ((with_reducible refine Calls.mono (impl_macsOf _ (s.hops.take k) _ (by exact Sl.take (Ss_2.out.ext xe) (by omega)) xo) ?_)); rintro e w9 ⟨v9, rfl, o9, e9⟩; exact ⟨_, rfl, e9, IntSO_rd o9⟩) | (go_at_call 135; have hs17 : IntS W.heap.size W _ (macs (s.hops.take k)) := hS 17 (by decide); ((with_reducible refine Calls.mono (impl_ChainAdd _ _ (macs (s.hops.take k)) _ (by exact hs17)) ?_)); rintro e w9 ⟨rfl, rfl⟩; exact ⟨_, rfl, Ext.refl _, by first | rfl | (simp only [*])⟩)
       first | (with_reducible refine wpL_boolT ?_) | (with_reducible refine wpL_boolF ?_) | (with_reducible refine wpL_bool (fun hB => ?_) (fun hB => ?_)) | skip
       all_goals simp only [putS])
    | ((refine wpL_grow ?_ rfl rfl ?_ ?_)
       · rfl
       · intro W hW hS
         have hC := (Ext.facts hW).1;unfold growAt
         go_simp
         simp only [growUpon]
         first | (go_at_call 136; ((with_reducible refine Calls.mono (impl_macsOf _ (s.hops.take k) _ (by exact Sl.take (Ss_2.out.ext xe) (by omega)) xo) ?_)); rintro e w9 ⟨v9, rfl, o9, e9⟩; exact ⟨_, rfl, e9, IntSO_rd o9⟩) | (go_at_call 135; have hs17 : IntS W.heap.size W _ (macs (s.hops.take k)) := hS 17 (by decide); ((with_reducible refine Calls.mono (impl_ChainAdd _ _ (macs (s.hops.take k)) _ (by exact hs17)) ?_)); rintro e w9 ⟨rfl, rfl⟩; exact ⟨_, rfl, Ext.refl _, by first | rfl | (simp only [*])⟩)
       intro v W' hW' hv
       first  | (obtain ⟨A5, n5, c5, rfl, -⟩ := id hv; clear hv) | (obtain ⟨A5, n5, c5, rfl⟩ := NO.slice hv) | skip
       all_goals simp only [putS]))
   refine wpL_nil (fun w2 e2 hL => ?_);clear hL;go_wp2_with fail
   go_ret
   exact ⟨ret_int HF.out.symm, xe⟩
theorem spec_BetaAt (vs : Value) (i : Int) (s : DSegment) (w : World) (hs : SegmentV w.heap.size w vs s) (hn : s.hops.length ≤ 100000000) :
 Calls Tryz.prog 69 #[vs, I i] w fun e w' => e = .returned (I (betaAt s i)) ∧ Ext w w' := by
 obtain ⟨As_2, ns_2, cs_2, rfl, ss_2⟩ := id hs;obtain ⟨ls_2, ks_2, ms_2⟩ := ss_2.len;subst ls_2;unfold maxLen at ms_2;have Rs := Lib.hid hs; clear hs;have Ss_2 := Lib.hid ss_2; clear ss_2;cases hv : inR i 0 s.hops.length
 · have HF : Hid (betaAt s i = 0) := by unfold Hid betaAt; rw [hv]; rfl
   go_enter Tryz.func69, Tryz.ntmps69
   go_wp2_with fail
   refine (spec_l1In _ _ _ _).mono ?_;rintro e w1 ⟨rfl, rfl⟩;rw [hv];go_wp2_with fail
   go_ret
   exact ⟨ret_int HF.out.symm, xe⟩
 · obtain ⟨i0, i1⟩ := inR_iff.1 hv
   have HF : Hid (betaAt s i = chainAdd s.beta (macs (s.hops.take i.toNat))) := by unfold Hid betaAt; rw [hv]; rfl
   have HV := Lib.hid hv; clear hv
   go_enter Tryz.func69, Tryz.ntmps69
   go_wp2_with fail
   first | refine name_wp ?_ ?_ ?_ | refine name_calls ?_ ?_ ?_
   exact (fun W => Ext w W ∧ Blk W (w.heap.size) 33 [I s.ts, I s.beta, .slice As_2 s.hops.length cs_2]);exact ⟨xe, xb⟩;rintro w0 ⟨ew0, bs⟩;have ls := bs.lt;obtain ⟨ps_0, ps_1, ps_2⟩ := blk3 bs;have Bs := Lib.hid bs; clear bs;refine (spec_l1In _ _ _ _).mono ?_;rintro e w1 ⟨rfl, rfl⟩;rw [HV.out];go_wp2_with fail
   refine wp_region_L (E := Ext) (w0 := w0) (G := fun τ => match τ with | 15 => some (fun v W => IntS W.heap.size W v (macs (s.hops.take i.toNat))) | 16 => some (fun v _ => v = I (chainAdd s.beta (macs (s.hops.take i.toNat)))) | _ => none) Ext.refl (fun h k => Ext.trans h k) (by kernel_rfl) (by kernel_rfl) xg (Ext.drew (by exact Ext.refl _)) ?_
   repeat' (first
    | ((with_reducible refine wpL_skip ?_ ?_ ?_)
       · rfl
       · rfl
       simp only [putS])
    | ((with_reducible refine wpL_quiet ?_ ?_ ?_ ?_)
       · rfl
       · rfl
       · rfl
       apply Exists.intro
       refine ⟨fun W hW hS => ?_, ?_⟩
       · have hC := (Ext.facts hW).1
         go_simp
         first | done | (with_reducible rfl) | (rw [if_neg (by omega)]; exact ⟨rfl, rfl⟩) | rfl
       first | (with_reducible refine wpL_boolT ?_) | (with_reducible refine wpL_boolF ?_) | (with_reducible refine wpL_bool (fun hB => ?_) (fun hB => ?_)) | skip
       all_goals simp only [putS])
    | ((refine wpL_call ?_ rfl rfl ?_ ?_ ?_)
       · rfl
       · rfl
       · intro W hW hS
         have hC := (Ext.facts hW).1;unfold growAt
         go_simp
         simp only [growUpon]
         first | (go_at_call 108; ((with_reducible refine Calls.mono (spec_l9Seals _ _ (s) _ (by exact Rs.out.ext xe) xo xo xo) ?_)); rintro e w9 ⟨v9, rfl, o9, e9⟩; exact ⟨_, rfl, e9, IntSO_rd o9⟩) | (go_at_call 107; have hs15 : IntS W.heap.size W _ (macs (s.hops.take i.toNat)) := hS 15 (by decide); ((with_reducible refine Calls.mono (spec_ChainAdd _ _ (macs (s.hops.take i.toNat)) _ (by exact hs15)) ?_)); rintro e w9 ⟨rfl, rfl⟩; exact ⟨_, rfl, Ext.refl _, by first | rfl | (simp only [*])⟩)
       first | (with_reducible refine wpL_boolT ?_) | (with_reducible refine wpL_boolF ?_) | (with_reducible refine wpL_bool (fun hB => ?_) (fun hB => ?_)) | skip
       all_goals simp only [putS])
    | ((refine wpL_grow ?_ rfl rfl ?_ ?_)
       · rfl
       · intro W hW hS
         have hC := (Ext.facts hW).1;unfold growAt
         go_simp
         simp only [growUpon]
         first | (go_at_call 108; ((with_reducible refine Calls.mono (spec_l9Seals _ _ (s) _ (by exact Rs.out.ext xe) xo xo xo) ?_)); rintro e w9 ⟨v9, rfl, o9, e9⟩; exact ⟨_, rfl, e9, IntSO_rd o9⟩) | (go_at_call 107; have hs15 : IntS W.heap.size W _ (macs (s.hops.take i.toNat)) := hS 15 (by decide); ((with_reducible refine Calls.mono (spec_ChainAdd _ _ (macs (s.hops.take i.toNat)) _ (by exact hs15)) ?_)); rintro e w9 ⟨rfl, rfl⟩; exact ⟨_, rfl, Ext.refl _, by first | rfl | (simp only [*])⟩)
       intro v W' hW' hv
       first  | (obtain ⟨A5, n5, c5, rfl, -⟩ := id hv; clear hv) | (obtain ⟨A5, n5, c5, rfl⟩ := NO.slice hv) | skip
       all_goals simp only [putS]))
   refine wpL_nil (fun w2 e2 hL => ?_);clear hL;go_wp2_with fail
   go_ret
   exact ⟨ret_int HF.out.symm, xe⟩
def badHop (t : DTopology) (s : DSegment) (k : Nat) : Bool := !verifyHop t s.ts (betaAt s k) (s.hops.getD k dHop)
def firstInv (t : DTopology) (s : DSegment) : Int := fstIx (badHop t s) s.hops.length
theorem badHop_at {t : DTopology} {s : DSegment} {k : Nat} (h : k < s.hops.length) : badHop t s k = !verifyHop t s.ts (betaAt s k) s.hops[k] := by unfold badHop; rw [getD_is h]
theorem impl_FirstInvalidHop (vt vs : Value) (t : DTopology) (s : DSegment) (w : World) (ht : TopologyV w.heap.size w vt t) (hs : SegmentV w.heap.size w vs s) (hn : s.hops.length ≤ 100000000) :
 Calls Tryz.prog 57 #[vt, vs] w fun e w' => e = .returned (I (firstInv t s)) ∧ Ext w w' := by
 obtain ⟨At_0, nt_0, ct_0, At_1, nt_1, ct_1, rfl, st_0, st_1⟩ := id ht;obtain ⟨lt_0, kt_0, mt_0⟩ := st_0.len;subst lt_0;unfold maxLen at mt_0;obtain ⟨lt_1, kt_1, mt_1⟩ := st_1.len;subst lt_1;unfold maxLen at mt_1;have Rt := Lib.hid ht; clear ht;have St_0 := Lib.hid st_0; clear st_0;have St_1 := Lib.hid st_1; clear st_1;obtain ⟨As_2, ns_2, cs_2, rfl, ss_2⟩ := id hs;obtain ⟨ls_2, ks_2, ms_2⟩ := ss_2.len;subst ls_2;unfold maxLen at ms_2;have Rs := Lib.hid hs; clear hs;have Ss_2 := Lib.hid ss_2; clear ss_2
 go_enter Tryz.func57, Tryz.ntmps57
 go_wp2_with fail
 first | refine name_wp ?_ ?_ ?_ | refine name_calls ?_ ?_ ?_
 exact (fun W => Ext w W ∧ Blk W (w.heap.size) 27 [.slice At_0 t.ases.length ct_0, .slice At_1 t.links.length ct_1] ∧ Blk W (w.heap.size + 1) 33 [I s.ts, I s.beta, .slice As_2 s.hops.length cs_2]);exact ⟨xe, xb, xb⟩;rintro w0 ⟨ew0, bt, bs⟩;have lt := bt.lt;obtain ⟨pt_0, pt_1⟩ := blk2 bt;have Bt := Lib.hid bt; clear bt;have ls := bs.lt;obtain ⟨ps_0, ps_1, ps_2⟩ := blk3 bs;have Bs := Lib.hid bs; clear bs
 go_loopw [10] (fun i wr => ∃ k : Nat, k ≤ s.hops.length ∧ i = I k ∧ (∀ j, j < k → badHop t s j = false) ∧ Ext w0 wr) (fun i _ => s.hops.length - (intOf i).toNat)
 case atStart => exact ⟨0, by omega, rfl, fun _ h => absurd h (by omega), Ext.refl _⟩
 case round =>
  obtain ⟨k, hk, rfl, hq, he⟩ := hrel;have HQ := Lib.hid hq; clear hq;have bt := Bt.out.ext (w' := wr) xe;have lt := bt.lt;obtain ⟨pt_0, pt_1⟩ := blk2 bt;clear bt;have bs := Bs.out.ext (w' := wr) xe;have ls := bs.lt;obtain ⟨ps_0, ps_1, ps_2⟩ := blk3 bs;clear bs;by_cases hlt : k < s.hops.length
  · obtain ⟨b, off, rfl, hb, hkl, hc⟩ := (Ss_2.out.ext (w' := wr) xe).at_ hlt
    have HP := Lib.hid (badHop_at (t := t) hkl)
    generalize s.hops[k] = x at *
    obtain ⟨hx_0, hx_1, hx_2, hx_3, hx_4⟩ := hc;go_wp2_with fail
    first | refine name_wp ?_ ?_ ?_ | refine name_calls ?_ ?_ ?_
    exact (fun W => Ext wr W ∧ Blk W (wr.heap.size) 91 [I x.asn, I x.ing, I x.egr, I x.exp, I x.mac]);exact ⟨xe, xb⟩;rintro w3 ⟨ew3, bx⟩;have lx := bx.lt;obtain ⟨px_0, px_1, px_2, px_3, px_4⟩ := blk5 bx;have Bx := Lib.hid bx; clear bx;have bt := Bt.out.ext (w' := w3) xe;have lt := bt.lt;obtain ⟨pt_0, pt_1⟩ := blk2 bt;clear bt;have bs := Bs.out.ext (w' := w3) xe;have ls := bs.lt;obtain ⟨ps_0, ps_1, ps_2⟩ := blk3 bs;clear bs;refine wp_region_L (E := Ext) (w0 := w3) (G := fun τ => match τ with | 20 => some (fun v _ => v = I (betaAt s k)) | 22 => some (fun v _ => v = .bool (verifyHop t s.ts (betaAt s k) x)) | _ => none) Ext.refl (fun h k => Ext.trans h k) (by kernel_rfl) (by kernel_rfl) xg (Ext.drew (by exact Ext.refl _)) ?_
    repeat' (first
     | ((with_reducible refine wpL_skip ?_ ?_ ?_)
        · rfl
        · rfl
        simp only [putS])
     | ((with_reducible refine wpL_quiet ?_ ?_ ?_ ?_)
        · rfl
        · rfl
        · rfl
        apply Exists.intro
        refine ⟨fun W hW hS => ?_, ?_⟩
        · have hC := (Ext.facts hW).1
          go_simp
          first | done | (with_reducible rfl) | (rw [if_neg (by omega)]; exact ⟨rfl, rfl⟩) | rfl
        first | (with_reducible refine wpL_boolT ?_) | (with_reducible refine wpL_boolF ?_) | (with_reducible refine wpL_bool (fun hB => ?_) (fun hB => ?_)) | skip
        all_goals simp only [putS])
     | ((refine wpL_call ?_ rfl rfl ?_ ?_ ?_)
        · rfl
        · rfl
        · intro W hW hS
          have hC := (Ext.facts hW).1;unfold growAt
          go_simp
          simp only [growUpon]
          first | (go_at_call 100; ((with_reducible refine Calls.mono (impl_BetaAt _ _ (s) _ (by exact Rs.out.ext xe) xo) ?_)); rintro e w9 ⟨rfl, e9⟩; exact ⟨_, rfl, e9, by first | rfl | (simp only [*])⟩) | (go_at_call 99; ((with_reducible refine Calls.mono (impl_VerifyHop _ _ _ (x) (t) _ (by exact Rt.out.ext xe)) ?_)); rintro e w9 ⟨rfl, e9⟩; exact ⟨_, rfl, e9, by first | rfl | (simp only [*])⟩)
        first | (with_reducible refine wpL_boolT ?_) | (with_reducible refine wpL_boolF ?_) | (with_reducible refine wpL_bool (fun hB => ?_) (fun hB => ?_)) | skip
        all_goals simp only [putS]))
    all_goals (refine wpL_nil (fun w5 e5 hL => ?_); clear hL)
    · have HN : Hid (badHop t s k = false) := by unfold Hid; rw [HP.out]; simp [*]
      go_wp2_with fail
      go_roundw
      case rel => exact ⟨k + 1, by omega, by go_num, belowF HQ.out HN.out, xe⟩
      case measure => simp [intOf]; omega
    · have HN : Hid (firstInv t s = k) := fstIx_at hlt HQ.out (by rw [HP.out]; simp [*])
      go_wp2_with fail
      go_ret
      exact ⟨ret_int HN.out.symm, xe⟩
  · go_wp2_with fail
    go_ret
    exact ⟨ret_int (fstIx_no (fun j hj => HQ.out j (by omega))).symm, xe⟩
theorem spec_FirstInvalidHop (vt vs : Value) (t : DTopology) (s : DSegment) (w : World) (ht : TopologyV w.heap.size w vt t) (hs : SegmentV w.heap.size w vs s) (hn : s.hops.length ≤ 100000000) :
 Calls Tryz.prog 77 #[vt, vs] w fun e w' => e = .returned (I (firstInv t s)) ∧ Ext w w' := by
 obtain ⟨At_0, nt_0, ct_0, At_1, nt_1, ct_1, rfl, st_0, st_1⟩ := id ht;obtain ⟨lt_0, kt_0, mt_0⟩ := st_0.len;subst lt_0;unfold maxLen at mt_0;obtain ⟨lt_1, kt_1, mt_1⟩ := st_1.len;subst lt_1;unfold maxLen at mt_1;have Rt := Lib.hid ht; clear ht;have St_0 := Lib.hid st_0; clear st_0;have St_1 := Lib.hid st_1; clear st_1;obtain ⟨As_2, ns_2, cs_2, rfl, ss_2⟩ := id hs;obtain ⟨ls_2, ks_2, ms_2⟩ := ss_2.len;subst ls_2;unfold maxLen at ms_2;have Rs := Lib.hid hs; clear hs;have Ss_2 := Lib.hid ss_2; clear ss_2
 go_enter Tryz.func77, Tryz.ntmps77
 go_wp2_with fail
 first | refine name_wp ?_ ?_ ?_ | refine name_calls ?_ ?_ ?_
 exact (fun W => Ext w W ∧ Blk W (w.heap.size) 27 [.slice At_0 t.ases.length ct_0, .slice At_1 t.links.length ct_1] ∧ Blk W (w.heap.size + 1) 33 [I s.ts, I s.beta, .slice As_2 s.hops.length cs_2]);exact ⟨xe, xb, xb⟩;rintro w0 ⟨ew0, bt, bs⟩;have lt := bt.lt;obtain ⟨pt_0, pt_1⟩ := blk2 bt;have Bt := Lib.hid bt; clear bt;have ls := bs.lt;obtain ⟨ps_0, ps_1, ps_2⟩ := blk3 bs;have Bs := Lib.hid bs; clear bs
 go_loopw [5] (fun i wr => ∃ k : Nat, k ≤ s.hops.length ∧ i = I k ∧ (∀ j, j < k → badHop t s j = false) ∧ Ext w0 wr) (fun i _ => s.hops.length - (intOf i).toNat)
 case atStart => exact ⟨0, by omega, rfl, fun _ h => absurd h (by omega), Ext.refl _⟩
 case round =>
  obtain ⟨k, hk, rfl, hq, he⟩ := hrel;have HQ := Lib.hid hq; clear hq;have bt := Bt.out.ext (w' := wr) xe;have lt := bt.lt;obtain ⟨pt_0, pt_1⟩ := blk2 bt;clear bt;have bs := Bs.out.ext (w' := wr) xe;have ls := bs.lt;obtain ⟨ps_0, ps_1, ps_2⟩ := blk3 bs;clear bs;by_cases hlt : k < s.hops.length
  · obtain ⟨b, off, rfl, hb, hkl, hc⟩ := (Ss_2.out.ext (w' := wr) xe).at_ hlt
    have HP := Lib.hid (badHop_at (t := t) hkl)
    generalize s.hops[k] = x at *
    obtain ⟨hx_0, hx_1, hx_2, hx_3, hx_4⟩ := hc
    have i0 : (0 : Int) ≤ (k : Int) := by omega
    have i1 : (k : Int) < (s.hops.length : Int) := by omega
    go_wp2_with fail
    refine wp_region_L (E := Ext) (w0 := wr) (G := fun τ => match τ with | 18 => some (fun v _ => v = I (betaAt s k)) | 24 => some (fun v _ => v = .bool (verifyHop t s.ts (betaAt s k) x)) | _ => none) Ext.refl (fun h k => Ext.trans h k) (by kernel_rfl) (by kernel_rfl) xg (Ext.drew (by exact Ext.refl _)) ?_
    repeat' (first
     | ((with_reducible refine wpL_skip ?_ ?_ ?_)
        · rfl
        · rfl
        simp only [putS])
     | ((with_reducible refine wpL_quiet ?_ ?_ ?_ ?_)
        · rfl
        · rfl
        · rfl
        apply Exists.intro
        refine ⟨fun W hW hS => ?_, ?_⟩
        · have hC := (Ext.facts hW).1
          go_simp
          first | done | (with_reducible rfl) | (rw [if_neg (by omega)]; exact ⟨rfl, rfl⟩) | rfl
        first | (with_reducible refine wpL_boolT ?_) | (with_reducible refine wpL_boolF ?_) | (with_reducible refine wpL_bool (fun hB => ?_) (fun hB => ?_)) | skip
        all_goals simp only [putS])
     | ((refine wpL_call ?_ rfl rfl ?_ ?_ ?_)
        · rfl
        · rfl
        · intro W hW hS
          have hC := (Ext.facts hW).1;unfold growAt
          go_simp
          simp only [growUpon]
          first | (go_at_call 69; ((with_reducible refine Calls.mono (spec_BetaAt _ _ (s) _ (by exact Rs.out.ext xe) xo) ?_)); rintro e w9 ⟨rfl, e9⟩; exact ⟨_, rfl, e9, by first | rfl | (simp only [*])⟩) | (go_at_call 118; ((with_reducible refine Calls.mono (spec_VerifyHop _ _ _ (x) (t) _ (by exact Rt.out.ext xe)) ?_)); rintro e w9 ⟨rfl, e9⟩; exact ⟨_, rfl, e9, by first | rfl | (simp only [*])⟩)
        first | (with_reducible refine wpL_boolT ?_) | (with_reducible refine wpL_boolF ?_) | (with_reducible refine wpL_bool (fun hB => ?_) (fun hB => ?_)) | skip
        all_goals simp only [putS]))
    all_goals (refine wpL_nil (fun w5 e5 hL => ?_); clear hL)
    · have HN : Hid (badHop t s k = false) := by unfold Hid; rw [HP.out]; simp [*]
      go_wp2_with fail
      go_roundw
      case rel => exact ⟨k + 1, by omega, by go_num, belowF HQ.out HN.out, xe⟩
      case measure => simp [intOf]; omega
    · have HN : Hid (firstInv t s = k) := fstIx_at hlt HQ.out (by rw [HP.out]; simp [*])
      go_wp2_with fail
      go_ret
      exact ⟨ret_int HN.out.symm, xe⟩
  · go_wp2_with fail
    go_ret
    exact ⟨ret_int (fstIx_no (fun j hj => HQ.out j (by omega))).symm, xe⟩
def isTerm (s : DSegment) : Bool := decide (0 < s.hops.length) && (s.hops.getD (s.hops.length - 1) dHop).egr == 0
theorem impl_IsTerminated (vs : Value) (s : DSegment) (w : World) (hs : SegmentV w.heap.size w vs s) :
 Calls Tryz.prog 27 #[vs] w fun e w' => e = .returned (.bool (isTerm s)) ∧ Ext w w' := by
 obtain ⟨As_2, ns_2, cs_2, rfl, ss_2⟩ := id hs;obtain ⟨ls_2, ks_2, ms_2⟩ := ss_2.len;subst ls_2;unfold maxLen at ms_2;have Rs := Lib.hid hs; clear hs;have Ss_2 := Lib.hid ss_2; clear ss_2;by_cases h0 : s.hops.length = 0
 · have HF : Hid (isTerm s = false) := by unfold Hid isTerm; simp [h0]
   go_enter Tryz.func27, Tryz.ntmps27
   go_wp2_with fail
   go_ret
   exact ⟨ret_bool HF.out.symm, xe⟩
 · obtain ⟨m, hm⟩ : ∃ m, s.hops.length = m + 1 := ⟨s.hops.length - 1, by omega⟩
   have hml : m < s.hops.length := by omega
   obtain ⟨b, off, rfl, hb, hkl, hc⟩ := Ss_2.out.at_ hml
   have HF : Hid (isTerm s = (s.hops[m].egr == 0)) := by
    unfold Hid isTerm;rw [show s.hops.length - 1 = m by omega, getD_is hml, decide_eq_true (show 0 < s.hops.length by omega)];rfl
   generalize s.hops[m] = x at *
   obtain ⟨h0_, h1_, h2_, h3_, h4_⟩ := hc
   have e1 : (s.hops.length : Int) - 1 = (m : Int) := by omega
   have d1 : (0 : Int) < (s.hops.length : Int) := by omega
   have d2 : decide (0 < s.hops.length) = true := decide_eq_true (by omega);have HM := Lib.hid hm; clear hm h0;cases hx : x.egr == 0
   all_goals
    go_enter Tryz.func27, Tryz.ntmps27
    go_wp2_with fail
    go_ret
    exact ⟨ret_bool (by rw [HF.out, hx]), xe⟩
theorem spec_IsTerminated (vs : Value) (s : DSegment) (w : World) (hs : SegmentV w.heap.size w vs s) :
 Calls Tryz.prog 41 #[vs] w fun e w' => e = .returned (.bool (isTerm s)) ∧ Ext w w' := by
 obtain ⟨As_2, ns_2, cs_2, rfl, ss_2⟩ := id hs;obtain ⟨ls_2, ks_2, ms_2⟩ := ss_2.len;subst ls_2;unfold maxLen at ms_2;have Rs := Lib.hid hs; clear hs;have Ss_2 := Lib.hid ss_2; clear ss_2;by_cases h0 : s.hops.length = 0
 · have HF : Hid (isTerm s = false) := by unfold Hid isTerm; simp [h0]
   go_enter Tryz.func41, Tryz.ntmps41
   go_wp2_with fail
   go_ret
   exact ⟨ret_bool HF.out.symm, xe⟩
 · obtain ⟨m, hm⟩ : ∃ m, s.hops.length = m + 1 := ⟨s.hops.length - 1, by omega⟩
   have hml : m < s.hops.length := by omega
   obtain ⟨b, off, rfl, hb, hkl, hc⟩ := Ss_2.out.at_ hml
   have HF : Hid (isTerm s = (s.hops[m].egr == 0)) := by
    unfold Hid isTerm;rw [show s.hops.length - 1 = m by omega, getD_is hml, decide_eq_true (show 0 < s.hops.length by omega)];rfl
   generalize s.hops[m] = x at *
   obtain ⟨h0_, h1_, h2_, h3_, h4_⟩ := hc
   have e1 : (s.hops.length : Int) - 1 = (m : Int) := by omega
   have d1 : (0 : Int) < (s.hops.length : Int) := by omega
   have d2 : decide (0 < s.hops.length) = true := decide_eq_true (by omega);have HM := Lib.hid hm; clear hm h0;cases hx : x.egr == 0
   all_goals
    go_enter Tryz.func41, Tryz.ntmps41
    go_wp2_with fail
    go_ret
    exact ⟨ret_bool (by rw [HF.out, hx]), xe⟩
def leastTo (l : List DHop) : Nat → Int
 | 0 => 0
 | k + 1 => if k = 0 then (l.getD 0 dHop).exp else if (l.getD k dHop).exp < leastTo l k then (l.getD k dHop).exp else leastTo l k
theorem leastTo_one (l : List DHop) : leastTo l 1 = (l.getD 0 dHop).exp := rfl
theorem leastTo_lt {l : List DHop} {k : Nat} (h : 0 < k) (hx : (l.getD k dHop).exp < leastTo l k) : leastTo l (k + 1) = (l.getD k dHop).exp := by rw [leastTo, if_neg (by omega), if_pos hx]
theorem leastTo_ge {l : List DHop} {k : Nat} (h : 0 < k) (hx : ¬ (l.getD k dHop).exp < leastTo l k) : leastTo l (k + 1) = leastTo l k := by rw [leastTo, if_neg (by omega), if_neg hx]
def segExp (s : DSegment) : Int := leastTo s.hops s.hops.length
def minI (a b : Int) : Int := if b < a then b else a
theorem spec_Min (a b : Int) (w : World) : Calls Tryz.prog 129 #[I a, I b] w fun e w' => e = .returned (I (minI a b)) ∧ w = w' := by
 by_cases h : b < a
 · have HF : Hid (minI a b = b) := by unfold Hid minI; rw [if_pos h]
   go_enter Tryz.func129, Tryz.ntmps129
   go_wp2
   go_ret
   exact ⟨ret_int HF.out.symm, rfl⟩
 · have HF : Hid (minI a b = a) := by unfold Hid minI; rw [if_neg h]
   go_enter Tryz.func129, Tryz.ntmps129
   go_wp2
   go_ret
   exact ⟨ret_int HF.out.symm, rfl⟩
theorem impl_leastExpiry (vl : Value) (l : List DHop) (w : World) (hl : HopS w.heap.size w vl l) :
 Calls Tryz.prog 155 #[vl] w fun e w' => e = .returned (I (leastTo l l.length)) ∧ Ext w w' := by
 obtain ⟨Al, nl, cl, rfl, ll, kl, ml, -⟩ := id hl;subst ll;unfold maxLen at ml;have Rl := Lib.hid hl; clear hl
 go_enter Tryz.func155, Tryz.ntmps155
 go_wp2_with fail
 go_loopw [3, 8] (fun v i wr => ∃ k : Nat, k ≤ l.length ∧ i = I k ∧ v = I (leastTo l k) ∧ Ext w wr) (fun _ i _ => l.length - (intOf i).toNat)
 case atStart => exact ⟨0, by omega, rfl, rfl, xe⟩
 case round =>
  obtain ⟨k, hk, rfl, rfl, he⟩ := hrel;by_cases hlt : k < l.length
  · obtain ⟨b, off, rfl, hb, hkl, hc⟩ := (Rl.out.ext (w' := wr) xe).at_ hlt
    have HG := Lib.hid (getD_is (d := dHop) hkl);by_cases hk0 : k = 0
    · subst hk0
      have HV : Hid (leastTo l 1 = l[0].exp) := by unfold Hid; rw [leastTo_one, HG.out]
      generalize l[0] = x at *
      simp only [HopAt, Nat.zero_mul, Nat.add_zero] at hc;obtain ⟨h0, h1, h2, h3, h4⟩ := hc;go_wp2_with fail
      go_roundw
      case rel => exact ⟨1, by omega, by go_num, by rw [HV.out], xe⟩
      case measure => simp [intOf]; omega
    · have d0 : ((k : Int) == 0) = false := beq_eq_false_iff_ne.2 (by omega)
      by_cases hx : l[k].exp < leastTo l k
      · have HV : Hid (leastTo l (k + 1) = l[k].exp) := by unfold Hid; rw [leastTo_lt (by omega) (by rw [HG.out]; exact hx), HG.out]
        generalize l[k] = x at *
        generalize leastTo l k = z at *
        obtain ⟨h0, h1, h2, h3, h4⟩ := hc;go_wp2_with fail
        go_roundw
        case rel => exact ⟨k + 1, by omega, by go_num, by rw [HV.out], xe⟩
        case measure => simp [intOf]; omega
      · have HV : Hid (leastTo l (k + 1) = leastTo l k) := by unfold Hid; rw [leastTo_ge (by omega) (by rw [HG.out]; exact hx)]
        generalize l[k] = x at *
        generalize leastTo l k = z at *
        obtain ⟨h0, h1, h2, h3, h4⟩ := hc;have dx : decide (x.exp < z) = false := decide_eq_false hx;go_wp2_with fail
        go_roundw
        case rel => exact ⟨k + 1, by omega, by go_num, by rw [HV.out], xe⟩
        case measure => simp [intOf]; omega
  · obtain rfl : k = l.length := by omega
    go_wp2_with fail
    go_ret
    exact ⟨rfl, he⟩
theorem impl_SegmentExpiry (vs : Value) (s : DSegment) (w : World) (hs : SegmentV w.heap.size w vs s) :
 Calls Tryz.prog 137 #[vs] w fun e w' => e = .returned (I (segExp s)) ∧ Ext w w' := by
 obtain ⟨As_2, ns_2, cs_2, rfl, ss_2⟩ := id hs;obtain ⟨ls_2, ks_2, ms_2⟩ := ss_2.len;subst ls_2;unfold maxLen at ms_2;have Rs := Lib.hid hs; clear hs;have Ss_2 := Lib.hid ss_2; clear ss_2
 go_enter Tryz.func137, Tryz.ntmps137
 go_wp2_with fail
 refine (impl_leastExpiry _ s.hops _ (by exact Ss_2.out.ext xe)).mono ?_;rintro e w1 ⟨rfl, e1⟩;go_wp2_with fail
 go_ret
 exact ⟨rfl, xe⟩
theorem spec_SegmentExpiry (vs : Value) (s : DSegment) (w : World) (hs : SegmentV w.heap.size w vs s) :
 Calls Tryz.prog 94 #[vs] w fun e w' => e = .returned (I (segExp s)) ∧ Ext w w' := by
 obtain ⟨As_2, ns_2, cs_2, rfl, ss_2⟩ := id hs;obtain ⟨ls_2, ks_2, ms_2⟩ := ss_2.len;subst ls_2;unfold maxLen at ms_2;have Rs := Lib.hid hs; clear hs;have Ss_2 := Lib.hid ss_2; clear ss_2;by_cases h0 : s.hops.length = 0
 · have HF : Hid (segExp s = 0) := by unfold Hid segExp; rw [h0]; rfl
   go_enter Tryz.func94, Tryz.ntmps94
   go_wp2_with fail
   go_ret
   exact ⟨ret_int HF.out.symm, xe⟩
 · have hml : 0 < s.hops.length := by omega
   have HSE : Hid (segExp s = leastTo s.hops s.hops.length) := rfl;have d0 : ((s.hops.length : Int) == 0) = false := beq_eq_false_iff_ne.2 (by omega)
   have d1 : (0 : Int) < (s.hops.length : Int) := by omega
   go_enter Tryz.func94, Tryz.ntmps94
   obtain ⟨b, off, hA, hb, hkl, hc⟩ := Ss_2.out.at_ hml
   have HV : Hid (leastTo s.hops 1 = s.hops[0].exp) := by unfold Hid; rw [leastTo_one, getD_is hml]
   generalize s.hops[0] = x at *
   simp only [HopAt, Nat.zero_mul, Nat.add_zero] at hc;obtain ⟨h0_, h1_, h2_, h3_, h4_⟩ := hc;cases hA;go_wp2_with fail
   refine name_wp (fun W => Ext w W ∧ Blk W w.heap.size 33 [I s.ts, I s.beta, .slice (some ⟨b, off, none⟩) s.hops.length cs_2]) ⟨xe, xb⟩ ?_;rintro w0 ⟨ew0, bs⟩;have Bs := Lib.hid bs; clear bs
   go_loopw [3, 4] (fun v i wr => ∃ k : Nat, k ≤ s.hops.length ∧ 1 ≤ k ∧ i = I k ∧ v = I (leastTo s.hops k) ∧ Ext w0 wr) (fun _ i _ => s.hops.length - (intOf i).toNat)
   case atStart => exact ⟨1, by omega, by omega, rfl, by rw [HV.out], Ext.refl _⟩
   case round =>
    obtain ⟨k, hk, hk1, rfl, rfl, he⟩ := hrel;have bs := Bs.out.ext he;have lbs := bs.lt;obtain ⟨p0, p1, p2⟩ := blk3 bs;clear bs;by_cases hlt : k < s.hops.length
    · obtain ⟨b3, off3, hA3, hb3, hkl3, hc3⟩ := (Ss_2.out.ext (w' := wr) xe).at_ hlt
      cases hA3
      have HN : Hid (leastTo s.hops (k + 1) = minI (leastTo s.hops k) s.hops[k].exp) := by
       unfold Hid;rw [leastTo, if_neg (by omega), getD_is hkl3];rfl
      generalize s.hops[k] = y at *
      generalize leastTo s.hops k = z at *
      obtain ⟨y0, y1, y2, y3, y4⟩ := hc3
      have i0 : (0 : Int) ≤ (k : Int) := by omega
      have i1 : (k : Int) < (s.hops.length : Int) := by omega
      go_wp2_with fail
      refine (spec_Min _ _ _).mono ?_;rintro e w4 ⟨rfl, rfl⟩;go_wp2_with fail
      go_roundw
      case rel => exact ⟨k + 1, by omega, by omega, by go_num, by rw [HN.out], xe⟩
      case measure => simp [intOf]; omega
    · obtain rfl : k = s.hops.length := by omega
      go_wp2_with fail
      go_ret
      exact ⟨ret_int HSE.out.symm, xe⟩
end Go.Proofs.YtmopmgaeiokfjaaGreat
