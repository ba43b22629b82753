/- Contracts of the program's functions on topologies: linkOk. -/
import Derived.Deep.Cut
import Derived.Deep.CutRange
import Derived.Test.YtmopmgaeiokfjaaGreatGL5
import Derived.Test.YtmopmgaeiokfjaaGreatGL9e
set_option maxRecDepth 100000
set_option maxHeartbeats 1000000
namespace Go.Proofs.YtmopmgaeiokfjaaGreat
open Go.RowKit
set_option linter.unusedVariables false
def validKey (k : Int) : Bool := inR k 1 2147483646
theorem spec_ValidKey (n : Int) (w : World) : Calls Tryz.prog 142 #[I n] w fun e w' => e = .returned (.bool (validKey n)) ∧ w = w' := by
 go_enter Tryz.func142, Tryz.ntmps142
 go_wp2_with fail
 refine (spec_l1In _ _ _ _).mono ?_;rintro e w' ⟨rfl, rfl⟩;go_wp2
 go_ret
 exact ⟨rfl, rfl⟩
def dAS : DAS := ⟨0, false, 0⟩
def keyDup (l : List DAS) (k : Nat) : Bool := (List.range k).any fun j => (l.getD j dAS).key == (l.getD k dAS).key
def asFine (l : List DAS) (k : Nat) : Bool := inR (l.getD k dAS).isd 0 2 && (validKey (l.getD k dAS).key && !keyDup l k)
def clash (m l : DLink) : Bool := usesIf m l.a l.ai || usesIf m l.b l.bi
def linkDup (l : List DLink) (k : Nat) : Bool := (List.range k).any fun j => clash (l.getD j dLink) (l.getD k dLink)
def linkFine (t : DTopology) (k : Nat) : Bool := linkOk t (t.links.getD k dLink) && !linkDup t.links k
def validTop (t : DTopology) : Bool := inR t.ases.length 1 8 && ((List.range t.ases.length).all (asFine t.ases) && (List.range t.links.length).all (linkFine t))
theorem any_yes {p : Nat → Bool} {k m : Nat} (hm : m < k) (h : p m = true) : (List.range k).any p = true := by
 rw [List.any_eq_true];exact ⟨m, List.mem_range.2 hm, h⟩
theorem any_none {p : Nat → Bool} {k : Nat} (h : ∀ j, j < k → p j = false) : (List.range k).any p = false := by
 rw [List.any_eq_false];exact fun j hj => by simp [h j (List.mem_range.1 hj)]
theorem spec_ValidTopology (vt : Value) (t : DTopology) (w : World) (ht : TopologyV w.heap.size w vt t) :
 Calls Tryz.prog 112 #[vt] w fun e w' => e = .returned (.bool (validTop t)) ∧ Ext w w' := by
 obtain ⟨At_0, nt_0, ct_0, At_1, nt_1, ct_1, rfl, st_0, st_1⟩ := id ht;obtain ⟨lt_0, kt_0, mt_0⟩ := st_0.len;subst lt_0;unfold maxLen at mt_0;obtain ⟨lt_1, kt_1, mt_1⟩ := st_1.len;subst lt_1;unfold maxLen at mt_1;have Rt := Lib.hid ht; clear ht;have St_0 := Lib.hid st_0; clear st_0;have St_1 := Lib.hid st_1; clear st_1
 go_enter Tryz.func112, Tryz.ntmps112
 go_wp2_with fail
 first | refine name_wp ?_ ?_ ?_ | refine name_calls ?_ ?_ ?_
 exact (fun W => Ext w W ∧ Blk W (w.heap.size) 27 [.slice At_0 t.ases.length ct_0, .slice At_1 t.links.length ct_1]);exact ⟨xe, xb⟩;rintro w0 ⟨ew0, bt⟩;have lt := bt.lt;obtain ⟨pt_0, pt_1⟩ := blk2 bt;have Bt := Lib.hid bt; clear bt;refine (spec_l1In _ _ _ _).mono ?_;rintro e w1 ⟨rfl, rfl⟩;cases hr : inR t.ases.length 1 8
 · go_wp2_with fail
   go_ret
   exact ⟨ret_bool (by simp [validTop, hr]), xe⟩
 have HF : Hid (validTop t = ((List.range t.ases.length).all (asFine t.ases) && (List.range t.links.length).all (linkFine t))) := by unfold Hid validTop; rw [hr]; rfl
 clear hr;go_wp2_with fail
 go_loopw [3] (fun i wr => ∃ k : Nat, k ≤ t.ases.length ∧ i = I k ∧ (∀ j, j < k → asFine t.ases j = true) ∧ Ext w0 wr) (fun i _ => t.ases.length - (intOf i).toNat)
 case atStart => exact ⟨0, by omega, rfl, fun _ h => absurd h (by omega), Ext.refl _⟩
 case round =>
  obtain ⟨k, hk, rfl, hq, he⟩ := hrel;have HQ := Lib.hid hq; clear hq;have bt := Bt.out.ext (w' := wr) xe;have lt := bt.lt;obtain ⟨pt_0, pt_1⟩ := blk2 bt;clear bt;by_cases hlt : k < t.ases.length
  · obtain ⟨b, off, rfl, hb, hkl, hc⟩ := (St_0.out.ext (w' := wr) xe).at_ hlt
    have HG := Lib.hid (getD_is (d := dAS) hkl);have HC := Lib.hid hc
    generalize t.ases[k] = x at *
    have HP : Hid (asFine t.ases k = (inR x.isd 0 2 && (validKey x.key && !keyDup t.ases k))) := by unfold Hid asFine; rw [HG.out]
    obtain ⟨hx_0, hx_1, hx_2⟩ := hc
    have i1 : (k : Int) < (t.ases.length : Int) := by omega
    have i3 : (0 : Int) ≤ (k : Int) := by omega
    go_wp2_with fail
    refine (spec_l1In _ _ _ _).mono ?_;rintro e w4 ⟨rfl, rfl⟩;cases h1 : inR x.isd 0 2
    · have HN : Hid (validTop t = false) := by unfold Hid; rw [HF.out, range_no hlt (by rw [HP.out, h1]; rfl)]; rfl
      go_wp2_with fail
      go_ret
      exact ⟨ret_bool HN.out.symm, xe⟩
    go_wp2_with fail
    refine (spec_ValidKey _ _).mono ?_;rintro e w4 ⟨rfl, rfl⟩;cases h2 : validKey x.key
    · have HN : Hid (validTop t = false) := by unfold Hid; rw [HF.out, range_no hlt (by rw [HP.out, h1, h2]; rfl)]; rfl
      go_wp2_with fail
      go_ret
      exact ⟨ret_bool HN.out.symm, xe⟩
    have HP2 : Hid (asFine t.ases k = !keyDup t.ases k) := by unfold Hid; rw [HP.out, h1, h2]; rfl
    clear h1 h2;go_wp2_with fail
    refine name_wp (fun W => W = wr) rfl ?_;rintro w3 rfl
    go_loopw [4] (fun i2 wr2 => ∃ m : Nat, m ≤ k ∧ i2 = I m ∧ (∀ j, j < m → ((t.ases.getD j dAS).key == (t.ases.getD k dAS).key) = false) ∧ Ext w3 wr2) (fun i2 _ => k - (intOf i2).toNat)
    case atStart => exact ⟨0, by omega, rfl, fun _ h => absurd h (by omega), Ext.refl _⟩
    case round =>
     obtain ⟨m, hm, rfl, hq2, he2⟩ := hrel;have HQ2 := Lib.hid hq2; clear hq2;have bt := Bt.out.ext (w' := wr) xe;have lt := bt.lt;obtain ⟨pt_0, pt_1⟩ := blk2 bt;clear bt;by_cases hlt2 : m < k
     · have hml : m < t.ases.length := by omega
       obtain ⟨b2, off2, hA2, hb2, hkl2, hc2⟩ := (St_0.out.ext (w' := wr) xe).at_ hml;cases hA2;have HG2 := Lib.hid (getD_is (d := dAS) hkl2)
       generalize t.ases[m] = g at *
       obtain ⟨g0, g1, g2⟩ := hc2;obtain ⟨e0, e1, e2⟩ := ASAt.keeps _ _ _ _ _ _ _ he2.size he2.same hb HC.out
       have j1 : (m : Int) < (t.ases.length : Int) := by omega
       have j3 : (0 : Int) ≤ (m : Int) := by omega
       have j4 : (m : Int) < (k : Int) := by omega
       by_cases hx : g.key = x.key
       · have HN : Hid (validTop t = false) := by unfold Hid; rw [HF.out, range_no hlt (by rw [HP2.out, keyDup, any_yes hlt2 (by rw [HG2.out, HG.out, hx]; simp)]; rfl)]; rfl
         have dx : (g.key == x.key) = true := by simp [hx]
         go_wp2_with fail
         refine wp_region_L (E := Ext) (w0 := wr) (G := fun τ => match τ with | 0 => none | _ => none) Ext.refl (fun h k => Ext.trans h k) (by kernel_rfl) (by kernel_rfl) xg (Ext.drew (by exact Ext.refl _)) ?_
         repeat' (first
          | ((with_reducible refine wpL_skip ?_ ?_ ?_)
             · rfl
             · rfl
             simp only [putS])
          | ((with_reducible refine wpL_quiet ?_ ?_ ?_ ?_)
             · rfl
             · rfl
             · rfl
             apply Exists.intro
             refine ⟨fun W hW hS => ?_, ?_⟩
             · have hC := (Ext.facts hW).1
               go_simp
               first | done | (with_reducible rfl) | (rw [if_neg (by omega)]; exact ⟨rfl, rfl⟩) | rfl
             first | (with_reducible refine wpL_boolT ?_) | (with_reducible refine wpL_boolF ?_) | (with_reducible refine wpL_bool (fun hB => ?_) (fun hB => ?_)) | skip
             all_goals simp only [putS]))
         refine wpL_nil (fun w5 e5 hL => ?_);go_wp2_with fail
         go_ret
         exact ⟨ret_bool HN.out.symm, xe⟩
       · have HN : Hid (((t.ases.getD m dAS).key == (t.ases.getD k dAS).key) = false) := by unfold Hid; rw [HG2.out, HG.out]; exact beq_eq_false_iff_ne.2 hx
         have dx : (g.key == x.key) = false := beq_eq_false_iff_ne.2 hx;go_wp2_with fail
         refine wp_region_L (E := Ext) (w0 := wr) (G := fun τ => match τ with | 0 => none | _ => none) Ext.refl (fun h k => Ext.trans h k) (by kernel_rfl) (by kernel_rfl) xg (Ext.drew (by exact Ext.refl _)) ?_
         repeat' (first
          | ((with_reducible refine wpL_skip ?_ ?_ ?_)
             · rfl
             · rfl
             simp only [putS])
          | ((with_reducible refine wpL_quiet ?_ ?_ ?_ ?_)
             · rfl
             · rfl
             · rfl
             apply Exists.intro
             refine ⟨fun W hW hS => ?_, ?_⟩
             · have hC := (Ext.facts hW).1
               go_simp
               first | done | (with_reducible rfl) | (rw [if_neg (by omega)]; exact ⟨rfl, rfl⟩) | rfl
             first | (with_reducible refine wpL_boolT ?_) | (with_reducible refine wpL_boolF ?_) | (with_reducible refine wpL_bool (fun hB => ?_) (fun hB => ?_)) | skip
             all_goals simp only [putS]))
         refine wpL_nil (fun w5 e5 hL => ?_);go_wp2_with fail
         go_roundw
         case rel => exact ⟨m + 1, by omega, by go_num, belowF (p := fun j => (t.ases.getD j dAS).key == (t.ases.getD k dAS).key) HQ2.out HN.out, xe⟩
         case measure => simp [intOf]; omega
     · obtain rfl : m = k := by omega
       have HY : Hid (asFine t.ases m = true) := by unfold Hid; rw [HP2.out, keyDup, any_none HQ2.out]; rfl
       go_wp2_with fail
       go_roundw
       case rel => exact ⟨m + 1, by omega, by go_num, belowT HQ.out HY.out, xe⟩
       case measure => simp [intOf]; omega
  · have HF2 : Hid (validTop t = (List.range t.links.length).all (linkFine t)) := by unfold Hid; rw [HF.out, range_yes (fun j hj => HQ.out j (by omega))]; rfl
    go_wp2_with fail
    refine name_wp (fun W => W = wr) rfl ?_;rintro wv rfl;clear HQ HF
    go_loopw [5] (fun i wr => ∃ k : Nat, k ≤ t.links.length ∧ i = I k ∧ (∀ j, j < k → linkFine t j = true) ∧ Ext wv wr) (fun i _ => t.links.length - (intOf i).toNat)
    case atStart => exact ⟨0, by omega, rfl, fun _ h => absurd h (by omega), Ext.refl _⟩
    case round =>
     obtain ⟨k, hk, rfl, hq, he⟩ := hrel;have HQ := Lib.hid hq; clear hq;have bt := Bt.out.ext (w' := wr) xe;have lt := bt.lt;obtain ⟨pt_0, pt_1⟩ := blk2 bt;clear bt;by_cases hlt : k < t.links.length
     · obtain ⟨b, off, rfl, hb, hkl, hc⟩ := (St_1.out.ext (w' := wr) xe).at_ hlt
       have HG := Lib.hid (linkAt hkl);have HC := Lib.hid hc
       generalize t.links[k] = x at *
       have HP : Hid (linkFine t k = (linkOk t x && !linkDup t.links k)) := by unfold Hid linkFine; rw [HG.out]
       obtain ⟨hx_0, hx_1, hx_2, hx_3, hx_4⟩ := hc
       have i1 : (k : Int) < (t.links.length : Int) := by omega
       have i3 : (0 : Int) ≤ (k : Int) := by omega
       cases h1 : linkOk t x
       · have HN : Hid (validTop t = false) := by unfold Hid; rw [HF2.out, range_no hlt (by rw [HP.out, h1]; rfl)]
         go_wp2_with fail
         refine wp_region_L (E := Ext) (w0 := wr) (G := fun τ => match τ with | 68 => some (fun v _ => v = .bool (false)) | _ => none) Ext.refl (fun h k => Ext.trans h k) (by kernel_rfl) (by kernel_rfl) xg (Ext.drew (by exact Ext.refl _)) ?_
         repeat' (first
          | ((with_reducible refine wpL_skip ?_ ?_ ?_)
             · rfl
             · rfl
             simp only [putS])
          | ((with_reducible refine wpL_quiet ?_ ?_ ?_ ?_)
             · rfl
             · rfl
             · rfl
             apply Exists.intro
             refine ⟨fun W hW hS => ?_, ?_⟩
             · have hC := (Ext.facts hW).1
               go_simp
               first | done | (with_reducible rfl) | (rw [if_neg (by omega)]; exact ⟨rfl, rfl⟩) | rfl
             first | (with_reducible refine wpL_boolT ?_) | (with_reducible refine wpL_boolF ?_) | (with_reducible refine wpL_bool (fun hB => ?_) (fun hB => ?_)) | skip
             all_goals simp only [putS])
          | ((refine wpL_call ?_ rfl rfl ?_ ?_ ?_)
             · rfl
             · rfl
             · intro W hW hS
               have hC := (Ext.facts hW).1;unfold growAt
               go_simp
               simp only [growUpon]
               first | (go_at_call 110; ((with_reducible refine Calls.mono (spec_l5LinkOk _ (x) (t) _ (by exact Rt.out.ext xe)) ?_)); rintro e w9 ⟨rfl, e9⟩; exact ⟨_, rfl, e9, by first | rfl | (simp only [*])⟩)
             first | (with_reducible refine wpL_boolT ?_) | (with_reducible refine wpL_boolF ?_) | (with_reducible refine wpL_bool (fun hB => ?_) (fun hB => ?_)) | skip
             all_goals simp only [putS]))
         refine wpL_nil (fun w4 e4 hL => ?_);clear hL;go_wp2_with fail
         go_ret
         exact ⟨ret_bool HN.out.symm, xe⟩
       have HP2 : Hid (linkFine t k = !linkDup t.links k) := by unfold Hid; rw [HP.out, h1]; rfl
       go_wp2_with fail
       refine wp_region_L (E := Ext) (w0 := wr) (G := fun τ => match τ with | 68 => some (fun v _ => v = .bool (true)) | _ => none) Ext.refl (fun h k => Ext.trans h k) (by kernel_rfl) (by kernel_rfl) xg (Ext.drew (by exact Ext.refl _)) ?_
       repeat' (first
        | ((with_reducible refine wpL_skip ?_ ?_ ?_)
           · rfl
           · rfl
           simp only [putS])
        | ((with_reducible refine wpL_quiet ?_ ?_ ?_ ?_)
           · rfl
           · rfl
           · rfl
           apply Exists.intro
           refine ⟨fun W hW hS => ?_, ?_⟩
           · have hC := (Ext.facts hW).1
             go_simp
             first | done | (with_reducible rfl) | (rw [if_neg (by omega)]; exact ⟨rfl, rfl⟩) | rfl
           first | (with_reducible refine wpL_boolT ?_) | (with_reducible refine wpL_boolF ?_) | (with_reducible refine wpL_bool (fun hB => ?_) (fun hB => ?_)) | skip
           all_goals simp only [putS])
        | ((refine wpL_call ?_ rfl rfl ?_ ?_ ?_)
           · rfl
           · rfl
           · intro W hW hS
             have hC := (Ext.facts hW).1;unfold growAt
             go_simp
             simp only [growUpon]
             first | (go_at_call 110; ((with_reducible refine Calls.mono (spec_l5LinkOk _ (x) (t) _ (by exact Rt.out.ext xe)) ?_)); rintro e w9 ⟨rfl, e9⟩; exact ⟨_, rfl, e9, by first | rfl | (simp only [*])⟩)
           first | (with_reducible refine wpL_boolT ?_) | (with_reducible refine wpL_boolF ?_) | (with_reducible refine wpL_bool (fun hB => ?_) (fun hB => ?_)) | skip
           all_goals simp only [putS]))
       refine wpL_nil (fun w4 e4 hL => ?_);clear hL h1;go_wp2_with fail
       go_loopw [6] (fun i2 wr2 => ∃ m : Nat, m ≤ k ∧ i2 = I m ∧ (∀ j, j < m → clash (t.links.getD j dLink) (t.links.getD k dLink) = false) ∧ Ext w4 wr2) (fun i2 _ => k - (intOf i2).toNat)
       case atStart => exact ⟨0, by omega, rfl, fun _ h => absurd h (by omega), Ext.refl _⟩
       case round =>
        obtain ⟨m, hm, rfl, hq2, he2⟩ := hrel;have HQ2 := Lib.hid hq2; clear hq2;clear hx_0 hx_1 hx_2 hx_3 hx_4;have bt := Bt.out.ext (w' := wr) xe;have lt := bt.lt;obtain ⟨pt_0, pt_1⟩ := blk2 bt;clear bt;by_cases hlt2 : m < k
        · have hml : m < t.links.length := by omega
          obtain ⟨b2, off2, hA2, hb2, hkl2, hc2⟩ := (St_1.out.ext (w' := wr) xe).at_ hml;cases hA2;have HG2 := Lib.hid (linkAt hkl2)
          generalize t.links[m] = g at *
          obtain ⟨hg_0, hg_1, hg_2, hg_3, hg_4⟩ := hc2;have hee : Ext _ wr := Ext.trans e4 he2;obtain ⟨k0, k1, k2, k3, k4⟩ := LinkAt.keeps _ _ _ _ _ _ _ hee.size hee.same hb HC.out;clear hee
          have j1 : (m : Int) < (t.links.length : Int) := by omega
          have j3 : (0 : Int) ≤ (m : Int) := by omega
          have j4 : (m : Int) < (k : Int) := by omega
          cases h1 : usesIf g x.a x.ai
          · cases h2 : usesIf g x.b x.bi
            · have HN : Hid (clash (t.links.getD m dLink) (t.links.getD k dLink) = false) := by unfold Hid; rw [HG2.out, HG.out, clash, h1, h2]; rfl
              go_wp2_with fail
              refine wp_region_L (E := Ext) (w0 := wr) (G := fun τ => match τ with | 92 => some (fun v _ => v = .bool (false)) | 111 => some (fun v _ => v = .bool (false)) | _ => none) Ext.refl (fun h k => Ext.trans h k) (by kernel_rfl) (by kernel_rfl) xg (Ext.drew (by exact Ext.refl _)) ?_
              repeat' (first
               | ((with_reducible refine wpL_skip ?_ ?_ ?_)
                  · rfl
                  · rfl
                  simp only [putS])
               | ((with_reducible refine wpL_quiet ?_ ?_ ?_ ?_)
                  · rfl
                  · rfl
                  · rfl
                  apply Exists.intro
                  refine ⟨fun W hW hS => ?_, ?_⟩
                  · have hC := (Ext.facts hW).1
                    go_simp
                    first | done | (with_reducible rfl) | (rw [if_neg (by omega)]; exact ⟨rfl, rfl⟩) | rfl
                  first | (with_reducible refine wpL_boolT ?_) | (with_reducible refine wpL_boolF ?_) | (with_reducible refine wpL_bool (fun hB => ?_) (fun hB => ?_)) | skip
                  all_goals simp only [putS])
               | ((refine wpL_call ?_ rfl rfl ?_ ?_ ?_)
                  · rfl
                  · rfl
                  · intro W hW hS
                    have hC := (Ext.facts hW).1;unfold growAt
                    go_simp
                    simp only [growUpon]
                    first | (go_at_call 139; ((with_reducible refine Calls.mono (spec_l5Ends (g) _ _ _) ?_)); rintro e w9 ⟨rfl, e9⟩; exact ⟨_, rfl, e9, by first | rfl | (simp only [*])⟩) | (go_at_call 139; ((with_reducible refine Calls.mono (spec_l5Ends (g) _ _ _) ?_)); rintro e w9 ⟨rfl, e9⟩; exact ⟨_, rfl, e9, by first | rfl | (simp only [*])⟩)
                  first | (with_reducible refine wpL_boolT ?_) | (with_reducible refine wpL_boolF ?_) | (with_reducible refine wpL_bool (fun hB => ?_) (fun hB => ?_)) | skip
                  all_goals simp only [putS]))
              refine wpL_nil (fun w5 e5 hL => ?_);go_wp2_with fail
              go_roundw
              case rel => exact ⟨m + 1, by omega, by go_num, belowF (p := fun j => clash (t.links.getD j dLink) (t.links.getD k dLink)) HQ2.out HN.out, xe⟩
              case measure => simp [intOf]; omega
            · have HN : Hid (validTop t = false) := by unfold Hid; rw [HF2.out, range_no hlt (by rw [HP2.out, linkDup, any_yes hlt2 (by rw [HG2.out, HG.out, clash, h1, h2]; rfl)]; rfl)]
              go_wp2_with fail
              refine wp_region_L (E := Ext) (w0 := wr) (G := fun τ => match τ with | 92 => some (fun v _ => v = .bool (false)) | 111 => some (fun v _ => v = .bool (true)) | _ => none) Ext.refl (fun h k => Ext.trans h k) (by kernel_rfl) (by kernel_rfl) xg (Ext.drew (by exact Ext.refl _)) ?_
              repeat' (first
               | ((with_reducible refine wpL_skip ?_ ?_ ?_)
                  · rfl
                  · rfl
                  simp only [putS])
               | ((with_reducible refine wpL_quiet ?_ ?_ ?_ ?_)
                  · rfl
                  · rfl
                  · rfl
                  apply Exists.intro
                  refine ⟨fun W hW hS => ?_, ?_⟩
                  · have hC := (Ext.facts hW).1
                    go_simp
                    first | done | (with_reducible rfl) | (rw [if_neg (by omega)]; exact ⟨rfl, rfl⟩) | rfl
                  first | (with_reducible refine wpL_boolT ?_) | (with_reducible refine wpL_boolF ?_) | (with_reducible refine wpL_bool (fun hB => ?_) (fun hB => ?_)) | skip
                  all_goals simp only [putS])
               | ((refine wpL_call ?_ rfl rfl ?_ ?_ ?_)
                  · rfl
                  · rfl
                  · intro W hW hS
                    have hC := (Ext.facts hW).1;unfold growAt
                    go_simp
                    simp only [growUpon]
                    first | (go_at_call 139; ((with_reducible refine Calls.mono (spec_l5Ends (g) _ _ _) ?_)); rintro e w9 ⟨rfl, e9⟩; exact ⟨_, rfl, e9, by first | rfl | (simp only [*])⟩) | (go_at_call 139; ((with_reducible refine Calls.mono (spec_l5Ends (g) _ _ _) ?_)); rintro e w9 ⟨rfl, e9⟩; exact ⟨_, rfl, e9, by first | rfl | (simp only [*])⟩)
                  first | (with_reducible refine wpL_boolT ?_) | (with_reducible refine wpL_boolF ?_) | (with_reducible refine wpL_bool (fun hB => ?_) (fun hB => ?_)) | skip
                  all_goals simp only [putS]))
              refine wpL_nil (fun w5 e5 hL => ?_);go_wp2_with fail
              go_ret
              exact ⟨ret_bool HN.out.symm, xe⟩
          · have HN : Hid (validTop t = false) := by unfold Hid; rw [HF2.out, range_no hlt (by rw [HP2.out, linkDup, any_yes hlt2 (by rw [HG2.out, HG.out, clash, h1]; rfl)]; rfl)]
            go_wp2_with fail
            refine wp_region_L (E := Ext) (w0 := wr) (G := fun τ => match τ with | 92 => some (fun v _ => v = .bool (true)) | _ => none) Ext.refl (fun h k => Ext.trans h k) (by kernel_rfl) (by kernel_rfl) xg (Ext.drew (by exact Ext.refl _)) ?_
            repeat' (first
             | ((with_reducible refine wpL_skip ?_ ?_ ?_)
                · rfl
                · rfl
                simp only [putS])
             | ((with_reducible refine wpL_quiet ?_ ?_ ?_ ?_)
                · rfl
                · rfl
                · rfl
                apply Exists.intro
                refine ⟨fun W hW hS => ?_, ?_⟩
                · have hC := (Ext.facts hW).1
                  go_simp
                  first | done | (with_reducible rfl) | (rw [if_neg (by omega)]; exact ⟨rfl, rfl⟩) | rfl
                first | (with_reducible refine wpL_boolT ?_) | (with_reducible refine wpL_boolF ?_) | (with_reducible refine wpL_bool (fun hB => ?_) (fun hB => ?_)) | skip
                all_goals simp only [putS])
             | ((refine wpL_call ?_ rfl rfl ?_ ?_ ?_)
                · rfl
                · rfl
                · intro W hW hS
                  have hC := (Ext.facts hW).1;unfold growAt
                  go_simp
                  simp only [growUpon]
                  first | (go_at_call 139; ((with_reducible refine Calls.mono (spec_l5Ends (g) _ _ _) ?_)); rintro e w9 ⟨rfl, e9⟩; exact ⟨_, rfl, e9, by first | rfl | (simp only [*])⟩)
                first | (with_reducible refine wpL_boolT ?_) | (with_reducible refine wpL_boolF ?_) | (with_reducible refine wpL_bool (fun hB => ?_) (fun hB => ?_)) | skip
                all_goals simp only [putS]))
            refine wpL_nil (fun w5 e5 hL => ?_);go_wp2_with fail
            go_ret
            exact ⟨ret_bool HN.out.symm, xe⟩
        · obtain rfl : m = k := by omega
          have HY : Hid (linkFine t m = true) := by unfold Hid; rw [HP2.out, linkDup, any_none HQ2.out]; rfl
          go_wp2_with fail
          go_roundw
          case rel => exact ⟨m + 1, by omega, by go_num, belowT HQ.out HY.out, xe⟩
          case measure => simp [intOf]; omega
     · go_wp2_with fail
       go_ret
       exact ⟨ret_bool (by rw [HF2.out, range_yes (fun j hj => HQ.out j (by omega))]), xe⟩
end Go.Proofs.YtmopmgaeiokfjaaGreat
