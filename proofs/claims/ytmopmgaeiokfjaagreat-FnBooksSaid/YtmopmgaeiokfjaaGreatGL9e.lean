/- Contracts of the program's and the reference's functions on segments: hopsOk, WellFormed. -/
import Derived.Test.YtmopmgaeiokfjaaGreatGL10a
set_option maxRecDepth 100000
set_option maxHeartbeats 1000000
namespace Go.Proofs.YtmopmgaeiokfjaaGreat
open Go.RowKit
set_option linter.unusedVariables false
def dupAt (l : List DHop) (k : Nat) : Bool := (List.range k).any fun j => (l.getD j dHop).asn == (l.getD k dHop).asn
def hopFine (t : DTopology) (l : List DHop) (k : Nat) : Bool := validHop (l.getD k dHop) && (isAs t (l.getD k dHop).asn && !dupAt l k)
def hopsFine (t : DTopology) (l : List DHop) : Bool := inR l.length 1 8 && (List.range l.length).all (hopFine t l)
theorem range_no {p : Nat → Bool} {n k : Nat} (hk : k < n) (h : p k = false) : (List.range n).all p = false := by
 rw [List.all_eq_false];exact ⟨k, List.mem_range.2 hk, by simp [h]⟩
theorem range_yes {p : Nat → Bool} {n : Nat} (h : ∀ k, k < n → p k = true) : (List.range n).all p = true := by
 rw [List.all_eq_true];exact fun k hk => h k (List.mem_range.1 hk)
theorem belowT {p : Nat → Bool} {k : Nat} (h : ∀ j, j < k → p j = true) (hk : p k = true) : ∀ j, j < k + 1 → p j = true := fun j hj => by
 rcases Nat.lt_succ_iff_lt_or_eq.1 hj with hj | rfl
 · exact h j hj
 · exact hk
theorem dupAt_yes {l : List DHop} {k m : Nat} (hm : m < k) (h : (l.getD m dHop).asn = (l.getD k dHop).asn) : dupAt l k = true := by
 unfold dupAt;rw [List.any_eq_true];exact ⟨m, List.mem_range.2 hm, beq_iff_eq.2 h⟩
theorem dupAt_no {l : List DHop} {k : Nat} (h : ∀ j, j < k → ¬ (l.getD j dHop).asn = (l.getD k dHop).asn) : dupAt l k = false := by
 unfold dupAt;rw [List.any_eq_false];exact fun j hj => by simpa using h j (List.mem_range.1 hj)
theorem impl_hopsOk (vt vl : Value) (t : DTopology) (l : List DHop) (w : World) (ht : TopologyV w.heap.size w vt t) (hl : HopS w.heap.size w vl l) :
 Calls Tryz.prog 97 #[vt, vl] w fun e w' => e = .returned (.bool (hopsFine t l)) ∧ Ext w w' := by
 obtain ⟨At_0, nt_0, ct_0, At_1, nt_1, ct_1, rfl, st_0, st_1⟩ := id ht;obtain ⟨lt_0, kt_0, mt_0⟩ := st_0.len;subst lt_0;unfold maxLen at mt_0;obtain ⟨lt_1, kt_1, mt_1⟩ := st_1.len;subst lt_1;unfold maxLen at mt_1;have Rt := Lib.hid ht; clear ht;have St_0 := Lib.hid st_0; clear st_0;have St_1 := Lib.hid st_1; clear st_1;obtain ⟨Al, nl, cl, rfl, ll, kl, ml, -⟩ := id hl;subst ll;unfold maxLen at ml;have Rl := Lib.hid hl; clear hl;cases hr : inR l.length 1 8
 · have HF : Hid (hopsFine t l = false) := by unfold Hid hopsFine; rw [hr]; rfl
   go_enter Tryz.func97, Tryz.ntmps97
   go_wp2_with fail
   refine (impl_InRange _ _ _ _).mono ?_;rintro e w1 ⟨rfl, rfl⟩;rw [hr];go_wp2_with fail
   go_ret
   exact ⟨ret_bool HF.out.symm, xe⟩
 · have HF : Hid (hopsFine t l = (List.range l.length).all (hopFine t l)) := by unfold Hid hopsFine; rw [hr]; rfl
   have HR := Lib.hid hr; clear hr
   go_enter Tryz.func97, Tryz.ntmps97
   go_wp2_with fail
   first | refine name_wp ?_ ?_ ?_ | refine name_calls ?_ ?_ ?_
   exact (fun W => Ext w W ∧ Blk W (w.heap.size) 27 [.slice At_0 t.ases.length ct_0, .slice At_1 t.links.length ct_1]);exact ⟨xe, xb⟩;rintro w0 ⟨ew0, bt⟩;have lt := bt.lt;obtain ⟨pt_0, pt_1⟩ := blk2 bt;have Bt := Lib.hid bt; clear bt;refine (impl_InRange _ _ _ _).mono ?_;rintro e w1 ⟨rfl, rfl⟩;rw [HR.out];go_wp2_with fail
   go_loopw [15] (fun i wr => ∃ k : Nat, k ≤ l.length ∧ i = I k ∧ (∀ j, j < k → hopFine t l j = true) ∧ Ext w0 wr) (fun i _ => l.length - (intOf i).toNat)
   case atStart => exact ⟨0, by omega, rfl, fun _ h => absurd h (by omega), Ext.refl _⟩
   case round =>
    obtain ⟨k, hk, rfl, hq, he⟩ := hrel;have HQ := Lib.hid hq; clear hq;have bt := Bt.out.ext (w' := wr) xe;have lt := bt.lt;obtain ⟨pt_0, pt_1⟩ := blk2 bt;clear bt;by_cases hlt : k < l.length
    · obtain ⟨b, off, rfl, hb, hkl, hc⟩ := (Rl.out.ext (w' := wr) xe).at_ hlt
      have HG := Lib.hid (getD_is (d := dHop) hkl)
      generalize l[k] = h at *
      have HP : Hid (hopFine t l k = (validHop h && (isAs t h.asn && !dupAt l k))) := by unfold Hid hopFine; rw [HG.out]
      obtain ⟨hh_0, hh_1, hh_2, hh_3, hh_4⟩ := hc;cases hv : validHop h
      · have HN : Hid (hopsFine t l = false) := by unfold Hid; rw [HF.out, range_no hlt (by rw [HP.out, hv]; rfl)]
        have HV := Lib.hid hv; clear hv;go_wp2_with fail
        first | refine name_wp ?_ ?_ ?_ | refine name_calls ?_ ?_ ?_
        exact (fun W => Ext wr W ∧ Blk W (wr.heap.size) 91 [I h.asn, I h.ing, I h.egr, I h.exp, I h.mac]);exact ⟨xe, xb⟩;rintro w3 ⟨ew3, bh⟩;have lh := bh.lt;obtain ⟨ph_0, ph_1, ph_2, ph_3, ph_4⟩ := blk5 bh;have Bh := Lib.hid bh; clear bh;have bt := Bt.out.ext (w' := w3) xe;have lt := bt.lt;obtain ⟨pt_0, pt_1⟩ := blk2 bt;clear bt;refine (impl_ValidHop (h) _).mono ?_;rintro e w4 ⟨rfl, ew4⟩;rw [HV.out];go_wp2_with fail
        go_ret
        exact ⟨ret_bool HN.out.symm, xe⟩
      cases ha : isAs t h.asn
      · have HN : Hid (hopsFine t l = false) := by unfold Hid; rw [HF.out, range_no hlt (by rw [HP.out, hv, ha]; rfl)]
        have HV := Lib.hid hv; have HA := Lib.hid ha; clear hv ha;go_wp2_with fail
        first | refine name_wp ?_ ?_ ?_ | refine name_calls ?_ ?_ ?_
        exact (fun W => Ext wr W ∧ Blk W (wr.heap.size) 91 [I h.asn, I h.ing, I h.egr, I h.exp, I h.mac]);exact ⟨xe, xb⟩;rintro w3 ⟨ew3, bh⟩;have lh := bh.lt;obtain ⟨ph_0, ph_1, ph_2, ph_3, ph_4⟩ := blk5 bh;have Bh := Lib.hid bh; clear bh;have bt := Bt.out.ext (w' := w3) xe;have lt := bt.lt;obtain ⟨pt_0, pt_1⟩ := blk2 bt;clear bt;refine (impl_ValidHop (h) _).mono ?_;rintro e w4 ⟨rfl, ew4⟩;have bt := Bt.out.ext (w' := w4) xe;have lt := bt.lt;obtain ⟨pt_0, pt_1⟩ := blk2 bt;clear bt;have bh := Bh.out.ext (w' := w4) xe;have lh := bh.lt;obtain ⟨ph_0, ph_1, ph_2, ph_3, ph_4⟩ := blk5 bh;clear bh;rw [HV.out];go_wp2_with fail
        refine (impl_isAS _ _ (t) _ (by exact Rt.out.ext xe)).mono ?_;rintro e w5 ⟨rfl, ew5⟩;rw [HA.out];go_wp2_with fail
        go_ret
        exact ⟨ret_bool HN.out.symm, xe⟩
      have HP2 : Hid (hopFine t l k = !dupAt l k) := by unfold Hid; rw [HP.out, hv, ha]; rfl
      have HV := Lib.hid hv; have HA := Lib.hid ha; clear hv ha
      have i2 : (k : Int) ≤ (cl : Int) := by omega
      have i3 : (0 : Int) ≤ (k : Int) := by omega
      go_wp2_with fail
      first | refine name_wp ?_ ?_ ?_ | refine name_calls ?_ ?_ ?_
      exact (fun W => Ext wr W ∧ Blk W (wr.heap.size) 91 [I h.asn, I h.ing, I h.egr, I h.exp, I h.mac]);exact ⟨xe, xb⟩;rintro w3 ⟨ew3, bh⟩;have lh := bh.lt;obtain ⟨ph_0, ph_1, ph_2, ph_3, ph_4⟩ := blk5 bh;have Bh := Lib.hid bh; clear bh;have bt := Bt.out.ext (w' := w3) xe;have lt := bt.lt;obtain ⟨pt_0, pt_1⟩ := blk2 bt;clear bt;refine (impl_ValidHop (h) _).mono ?_;rintro e w4 ⟨rfl, ew4⟩;have bt := Bt.out.ext (w' := w4) xe;have lt := bt.lt;obtain ⟨pt_0, pt_1⟩ := blk2 bt;clear bt;have bh := Bh.out.ext (w' := w4) xe;have lh := bh.lt;obtain ⟨ph_0, ph_1, ph_2, ph_3, ph_4⟩ := blk5 bh;clear bh;rw [HV.out];go_wp2_with fail
      refine (impl_isAS _ _ (t) _ (by exact Rt.out.ext xe)).mono ?_;rintro e w5 ⟨rfl, ew5⟩;have bh := Bh.out.ext (w' := w5) xe;have lh := bh.lt;obtain ⟨ph_0, ph_1, ph_2, ph_3, ph_4⟩ := blk5 bh;clear bh;rw [HA.out];go_wp2_with fail
      go_loopw [34] (fun i2 wr2 => ∃ m : Nat, m ≤ k ∧ i2 = I m ∧ (∀ j, j < m → ¬ (l.getD j dHop).asn = (l.getD k dHop).asn) ∧ Ext w5 wr2) (fun i2 _ => k - (intOf i2).toNat)
      case atStart => exact ⟨0, by omega, rfl, fun _ h => absurd h (by omega), Ext.refl _⟩
      case round =>
       obtain ⟨m, hm, rfl, hq2, he2⟩ := hrel;have HQ2 := Lib.hid hq2; clear hq2;have bh := Bh.out.ext (w' := wr) xe;have lh := bh.lt;obtain ⟨ph_0, ph_1, ph_2, ph_3, ph_4⟩ := blk5 bh;clear bh;by_cases hlt2 : m < k
       · have hml : m < l.length := by omega
         obtain ⟨b2, off2, hA2, hb2, hkl2, hc2⟩ := (Rl.out.ext (w' := wr) xe).at_ hml;cases hA2;have HG2 := Lib.hid (getD_is (d := dHop) hkl2)
         generalize l[m] = g at *
         obtain ⟨g0, g1, g2, g3, g4⟩ := hc2;by_cases hx : g.asn = h.asn
         · have HN : Hid (hopsFine t l = false) := by unfold Hid; rw [HF.out, range_no hlt (by rw [HP2.out, dupAt_yes hlt2 (by rw [HG2.out, HG.out]; exact hx)]; rfl)]
           go_wp2_with fail
           go_ret
           exact ⟨ret_bool HN.out.symm, xe⟩
         · have HN : Hid (¬ (l.getD m dHop).asn = (l.getD k dHop).asn) := by unfold Hid; rw [HG2.out, HG.out]; exact hx
           have dx : (g.asn == h.asn) = false := beq_eq_false_iff_ne.2 hx;go_wp2_with fail
           go_roundw
           case rel => exact ⟨m + 1, by omega, by go_num, fun j hj => by
            rcases Nat.lt_succ_iff_lt_or_eq.1 hj with hj | rfl
            · exact HQ2.out j hj
            · exact HN.out, xe⟩
           case measure => simp [intOf]; omega
       · obtain rfl : m = k := by omega
         have HY : Hid (hopFine t l m = true) := by unfold Hid; rw [HP2.out, dupAt_no HQ2.out]; rfl
         go_wp2_with fail
         go_roundw
         case rel => exact ⟨m + 1, by omega, by go_num, belowT HQ.out HY.out, xe⟩
         case measure => simp [intOf]; omega
    · go_wp2_with fail
      go_ret
      exact ⟨ret_bool (by rw [HF.out, range_yes (fun j hj => HQ.out j (by omega))]), xe⟩
def stepFine (t : DTopology) (l : List DHop) (k : Nat) : Bool :=
 !((l.getD k dHop).egr == 0 && decide (k + 1 < l.length)) && (decide (k = 0) || (decide ((remEnd t (l.getD (k - 1) dHop).asn (l.getD (k - 1) dHop).egr).1 = (l.getD k dHop).asn) && decide ((remEnd t (l.getD (k - 1) dHop).asn (l.getD (k - 1) dHop).egr).2 = (l.getD k dHop).ing)))
def wellF (t : DTopology) (s : DSegment) : Bool := hopsFine t s.hops && ((s.hops.getD 0 dHop).ing == 0 && (List.range s.hops.length).all (stepFine t s.hops))
theorem hopsFine_len {t : DTopology} {l : List DHop} (h : hopsFine t l = true) : 0 < l.length := by
 unfold hopsFine at h;rw [Bool.and_eq_true] at h;have := inR_iff.1 h.1;omega
theorem stepFine_last {t : DTopology} {l : List DHop} {k : Nat} (h1 : (l.getD k dHop).egr = 0) (h2 : k + 1 < l.length) : stepFine t l k = false := by
 unfold stepFine;rw [h1, decide_eq_true h2];rfl
theorem stepFine_first {t : DTopology} {l : List DHop} (h : ¬ ((l.getD 0 dHop).egr = 0 ∧ 0 + 1 < l.length)) : stepFine t l 0 = true := by
 unfold stepFine;simp only [Bool.not_and, decide_true, Bool.true_or, Bool.and_true];by_cases h1 : (l.getD 0 dHop).egr = 0
 · have h2 : ¬ 0 + 1 < l.length := fun h2 => h ⟨h1, h2⟩
   rw [decide_eq_false h2];simp
 · rw [beq_eq_false_iff_ne.2 h1]
   rfl
theorem stepFine_next {t : DTopology} {l : List DHop} {k m : Nat} (hk : k = m + 1) (h : ¬ ((l.getD k dHop).egr = 0 ∧ k + 1 < l.length)) : stepFine t l k = (decide ((remEnd t (l.getD m dHop).asn (l.getD m dHop).egr).1 = (l.getD k dHop).asn) && decide ((remEnd t (l.getD m dHop).asn (l.getD m dHop).egr).2 = (l.getD k dHop).ing)) := by
 unfold stepFine
 have e : (!((l.getD k dHop).egr == 0 && decide (k + 1 < l.length))) = true := by
  by_cases h1 : (l.getD k dHop).egr = 0
  · rw [decide_eq_false (fun h2 => h ⟨h1, h2⟩), Bool.and_false]
    rfl
  · rw [beq_eq_false_iff_ne.2 h1]
    rfl
 rw [e, decide_eq_false (show ¬ k = 0 by omega), show k - 1 = m by omega];rfl
theorem impl_WellFormed (vt vs : Value) (t : DTopology) (s : DSegment) (w : World) (ht : TopologyV w.heap.size w vt t) (hs : SegmentV w.heap.size w vs s) :
 Calls Tryz.prog 56 #[vt, vs] w fun e w' => e = .returned (.bool (wellF t s)) ∧ Ext w w' := by
 obtain ⟨At_0, nt_0, ct_0, At_1, nt_1, ct_1, rfl, st_0, st_1⟩ := id ht;obtain ⟨lt_0, kt_0, mt_0⟩ := st_0.len;subst lt_0;unfold maxLen at mt_0;obtain ⟨lt_1, kt_1, mt_1⟩ := st_1.len;subst lt_1;unfold maxLen at mt_1;have Rt := Lib.hid ht; clear ht;have St_0 := Lib.hid st_0; clear st_0;have St_1 := Lib.hid st_1; clear st_1;obtain ⟨As_2, ns_2, cs_2, rfl, ss_2⟩ := id hs;obtain ⟨ls_2, ks_2, ms_2⟩ := ss_2.len;subst ls_2;unfold maxLen at ms_2;have Rs := Lib.hid hs; clear hs;have Ss_2 := Lib.hid ss_2; clear ss_2;cases hh : hopsFine t s.hops
 · have HF : Hid (wellF t s = false) := by unfold Hid wellF; rw [hh]; rfl
   go_enter Tryz.func56, Tryz.ntmps56
   go_wp2_with fail
   refine (impl_hopsOk _ _ t s.hops _ (by exact Rt.out.ext xe) (by exact Ss_2.out.ext xe)).mono ?_;rintro e w1 ⟨rfl, e1⟩;rw [hh];go_wp2_with fail
   go_ret
   exact ⟨ret_bool HF.out.symm, xe⟩
 · have h0 := hopsFine_len hh
   have HF : Hid (wellF t s = ((s.hops.getD 0 dHop).ing == 0 && (List.range s.hops.length).all (stepFine t s.hops))) := by unfold Hid wellF; rw [hh]; rfl
   have HH := Lib.hid hh; clear hh
   have d1 : (0 : Int) < (s.hops.length : Int) := by omega
   go_enter Tryz.func56, Tryz.ntmps56
   go_wp2_with fail
   first | refine name_wp ?_ ?_ ?_ | refine name_calls ?_ ?_ ?_
   exact (fun W => Ext w W ∧ Blk W (w.heap.size) 27 [.slice At_0 t.ases.length ct_0, .slice At_1 t.links.length ct_1] ∧ Blk W (w.heap.size + 1) 33 [I s.ts, I s.beta, .slice As_2 s.hops.length cs_2]);exact ⟨xe, xb, xb⟩;rintro w0 ⟨ew0, bt, bs⟩;have lt := bt.lt;obtain ⟨pt_0, pt_1⟩ := blk2 bt;have Bt := Lib.hid bt; clear bt;have ls := bs.lt;obtain ⟨ps_0, ps_1, ps_2⟩ := blk3 bs;have Bs := Lib.hid bs; clear bs;refine (impl_hopsOk _ _ t s.hops _ (by exact Rt.out.ext xe) (by exact Ss_2.out.ext xe)).mono ?_;rintro e w1 ⟨rfl, e1⟩;rw [HH.out];have bt := Bt.out.ext (e1);have lt := bt.lt;obtain ⟨pt_0, pt_1⟩ := blk2 bt;clear bt;have bs := Bs.out.ext (e1);have ls := bs.lt;obtain ⟨ps_0, ps_1, ps_2⟩ := blk3 bs;clear bs;obtain ⟨b, off, rfl, hb, hkl, hc⟩ := (Ss_2.out.ext (w' := w1) xe).at_ h0;have HG0 := Lib.hid (getD_is (d := dHop) hkl)
   generalize s.hops[0] = x at *
   simp only [HopAt, Nat.zero_mul, Nat.add_zero] at hc;obtain ⟨x0, x1, x2, x3, x4⟩ := hc;by_cases hx : x.ing = 0
   rotate_left
   · have HN : Hid (wellF t s = false) := by unfold Hid; rw [HF.out, HG0.out, beq_eq_false_iff_ne.2 hx]; rfl
     have dx : (x.ing != 0) = true := by simp [hx]
     have dx2 : (x.ing == 0) = false := beq_eq_false_iff_ne.2 hx;go_wp2_with fail
     go_ret
     exact ⟨ret_bool HN.out.symm, xe⟩
   have HM : Hid (wellF t s = (List.range s.hops.length).all (stepFine t s.hops)) := by unfold Hid; rw [HF.out, HG0.out, hx]; rfl
   go_wp2_with fail
   clear x0 x1 x2 x3 x4 hx
   go_loopw [26] (fun i wr => ∃ k : Nat, k ≤ s.hops.length ∧ i = I k ∧ (∀ j, j < k → stepFine t s.hops j = true) ∧ Ext w1 wr) (fun i _ => s.hops.length - (intOf i).toNat)
   case atStart => exact ⟨0, by omega, rfl, fun _ h => absurd h (by omega), Ext.refl _⟩
   case round =>
    obtain ⟨k, hk, rfl, hq, he⟩ := hrel;have HQ := Lib.hid hq; clear hq;have bt := Bt.out.ext (w' := wr) xe;have lt := bt.lt;obtain ⟨pt_0, pt_1⟩ := blk2 bt;clear bt;have bs := Bs.out.ext (w' := wr) xe;have ls := bs.lt;obtain ⟨ps_0, ps_1, ps_2⟩ := blk3 bs;clear bs;by_cases hlt : k < s.hops.length
    · obtain ⟨b3, off3, hA3, hb3, hkl3, hc3⟩ := (Ss_2.out.ext (w' := wr) xe).at_ hlt
      cases hA3;have HG := Lib.hid (getD_is (d := dHop) hkl3)
      generalize s.hops[k] = h at *
      obtain ⟨hh_0, hh_1, hh_2, hh_3, hh_4⟩ := hc3;by_cases hz : h.egr = 0 ∧ k + 1 < s.hops.length
      · have HN : Hid (wellF t s = false) := by unfold Hid; rw [HM.out, range_no hlt (stepFine_last (by rw [HG.out]; exact hz.1) hz.2)]
        obtain ⟨hz1, hz2⟩ := hz;go_wp2_with fail
        go_ret
        exact ⟨ret_bool HN.out.symm, xe⟩
      have HZ : Hid (¬ ((s.hops.getD k dHop).egr = 0 ∧ k + 1 < s.hops.length)) := by unfold Hid; rw [HG.out]; exact hz
      have hzz : (h.egr == 0) = false ∨ ((h.egr == 0) = true ∧ ¬ k + 1 < s.hops.length) := by
       by_cases h1 : h.egr = 0
       · exact .inr ⟨beq_iff_eq.2 h1, fun h2 => hz ⟨h1, h2⟩⟩
       · exact .inl (beq_eq_false_iff_ne.2 h1)
      clear hz
      rcases hzz with dz | ⟨dz, dz2⟩
      · skip
        by_cases hk0 : 0 < k
        · obtain ⟨m, hm⟩ : ∃ m, k = m + 1 := ⟨k - 1, by omega⟩
          have hml : m < s.hops.length := by omega
          obtain ⟨bm, offm, hAm, hbm, hklm, hcm⟩ := (Ss_2.out.ext (w' := wr) xe).at_ hml;cases hAm;have HS := Lib.hid (stepFine_next (t := t) hm HZ.out);have HGm := Lib.hid (getD_is (d := dHop) hklm)
          generalize s.hops[m] = g at *
          obtain ⟨hg_0, hg_1, hg_2, hg_3, hg_4⟩ := hcm
          have e1 : (k : Int) - 1 = (m : Int) := by omega
          have i4 : (0 : Int) ≤ (m : Int) := by omega
          have i5 : (m : Int) < (s.hops.length : Int) := by omega
          have HM1 := Lib.hid hm; clear hm;go_wp2_with fail
          first | refine name_wp ?_ ?_ ?_ | refine name_calls ?_ ?_ ?_
          exact (fun W => Ext wr W ∧ Blk W (wr.heap.size) 91 [I h.asn, I h.ing, I h.egr, I h.exp, I h.mac] ∧ Blk W (wr.heap.size + 1) 91 [I g.asn, I g.ing, I g.egr, I g.exp, I g.mac]);exact ⟨xe, xb, xb⟩;rintro w3 ⟨ew3, bh, bg⟩;have lh := bh.lt;obtain ⟨ph_0, ph_1, ph_2, ph_3, ph_4⟩ := blk5 bh;have Bh := Lib.hid bh; clear bh;have lg := bg.lt;obtain ⟨pg_0, pg_1, pg_2, pg_3, pg_4⟩ := blk5 bg;have Bg := Lib.hid bg; clear bg;have bt := Bt.out.ext (w' := w3) xe;have lt := bt.lt;obtain ⟨pt_0, pt_1⟩ := blk2 bt;clear bt;have bs := Bs.out.ext (w' := w3) xe;have ls := bs.lt;obtain ⟨ps_0, ps_1, ps_2⟩ := blk3 bs;clear bs;refine (impl_RemoteEnd _ _ _ (t) _ (by exact Rt.out.ext xe)).mono ?_;rintro e w4 ⟨rfl, ew4⟩;have bh := Bh.out.ext (w' := w4) xe;have lh := bh.lt;obtain ⟨ph_0, ph_1, ph_2, ph_3, ph_4⟩ := blk5 bh;clear bh
          have HR : Hid (stepFine t s.hops k = (decide ((remEnd t g.asn g.egr).1 = h.asn) && decide ((remEnd t g.asn g.egr).2 = h.ing))) := by unfold Hid; rw [HS.out, HG.out, HGm.out]
          generalize remEnd t g.asn g.egr = re at *
          obtain ⟨ra, ri⟩ := re;by_cases q1 : ra = h.asn
          · by_cases q2 : ri = h.ing
            · have HY : Hid (stepFine t s.hops k = true) := by unfold Hid; rw [HR.out, decide_eq_true q1, decide_eq_true q2]; rfl
              go_wp2_with fail
              go_roundw
              case rel => exact ⟨k + 1, by omega, by go_num, belowT HQ.out HY.out, xe⟩
              case measure => simp [intOf]; omega
            · have HN : Hid (wellF t s = false) := by unfold Hid; rw [HM.out, range_no hlt (by rw [HR.out, decide_eq_false q2, Bool.and_false])]
              have g2 : (ri != h.ing) = true := by simp [q2]
              have g3 : (ri == h.ing) = false := beq_eq_false_iff_ne.2 q2;go_wp2_with fail
              go_ret
              exact ⟨ret_bool HN.out.symm, xe⟩
          · have HN : Hid (wellF t s = false) := by unfold Hid; rw [HM.out, range_no hlt (by rw [HR.out, decide_eq_false q1, Bool.false_and])]
            have g2 : (ra != h.asn) = true := by simp [q1]
            have g3 : (ra == h.asn) = false := beq_eq_false_iff_ne.2 q1;go_wp2_with fail
            go_ret
            exact ⟨ret_bool HN.out.symm, xe⟩
        · have HY : Hid (stepFine t s.hops k = true) := by
           have e : k = 0 := by omega
           have hz := HZ.out;rw [e] at hz ⊢;exact stepFine_first hz
          have dk : decide (0 < k) = false := decide_eq_false hk0;go_wp2_with fail
          go_roundw
          case rel => exact ⟨k + 1, by omega, by go_num, belowT HQ.out HY.out, xe⟩
          case measure => simp [intOf]; omega
      · have dl : decide ((k : Int) < (s.hops.length : Int) - 1) = false := decide_eq_false (by omega)
        by_cases hk0 : 0 < k
        · obtain ⟨m, hm⟩ : ∃ m, k = m + 1 := ⟨k - 1, by omega⟩
          have hml : m < s.hops.length := by omega
          obtain ⟨bm, offm, hAm, hbm, hklm, hcm⟩ := (Ss_2.out.ext (w' := wr) xe).at_ hml;cases hAm;have HS := Lib.hid (stepFine_next (t := t) hm HZ.out);have HGm := Lib.hid (getD_is (d := dHop) hklm)
          generalize s.hops[m] = g at *
          obtain ⟨hg_0, hg_1, hg_2, hg_3, hg_4⟩ := hcm
          have e1 : (k : Int) - 1 = (m : Int) := by omega
          have i4 : (0 : Int) ≤ (m : Int) := by omega
          have i5 : (m : Int) < (s.hops.length : Int) := by omega
          have HM1 := Lib.hid hm; clear hm;go_wp2_with fail
          first | refine name_wp ?_ ?_ ?_ | refine name_calls ?_ ?_ ?_
          exact (fun W => Ext wr W ∧ Blk W (wr.heap.size) 91 [I h.asn, I h.ing, I h.egr, I h.exp, I h.mac] ∧ Blk W (wr.heap.size + 1) 91 [I g.asn, I g.ing, I g.egr, I g.exp, I g.mac]);exact ⟨xe, xb, xb⟩;rintro w3 ⟨ew3, bh, bg⟩;have lh := bh.lt;obtain ⟨ph_0, ph_1, ph_2, ph_3, ph_4⟩ := blk5 bh;have Bh := Lib.hid bh; clear bh;have lg := bg.lt;obtain ⟨pg_0, pg_1, pg_2, pg_3, pg_4⟩ := blk5 bg;have Bg := Lib.hid bg; clear bg;have bt := Bt.out.ext (w' := w3) xe;have lt := bt.lt;obtain ⟨pt_0, pt_1⟩ := blk2 bt;clear bt;have bs := Bs.out.ext (w' := w3) xe;have ls := bs.lt;obtain ⟨ps_0, ps_1, ps_2⟩ := blk3 bs;clear bs;refine (impl_RemoteEnd _ _ _ (t) _ (by exact Rt.out.ext xe)).mono ?_;rintro e w4 ⟨rfl, ew4⟩;have bh := Bh.out.ext (w' := w4) xe;have lh := bh.lt;obtain ⟨ph_0, ph_1, ph_2, ph_3, ph_4⟩ := blk5 bh;clear bh
          have HR : Hid (stepFine t s.hops k = (decide ((remEnd t g.asn g.egr).1 = h.asn) && decide ((remEnd t g.asn g.egr).2 = h.ing))) := by unfold Hid; rw [HS.out, HG.out, HGm.out]
          generalize remEnd t g.asn g.egr = re at *
          obtain ⟨ra, ri⟩ := re;by_cases q1 : ra = h.asn
          · by_cases q2 : ri = h.ing
            · have HY : Hid (stepFine t s.hops k = true) := by unfold Hid; rw [HR.out, decide_eq_true q1, decide_eq_true q2]; rfl
              go_wp2_with fail
              go_roundw
              case rel => exact ⟨k + 1, by omega, by go_num, belowT HQ.out HY.out, xe⟩
              case measure => simp [intOf]; omega
            · have HN : Hid (wellF t s = false) := by unfold Hid; rw [HM.out, range_no hlt (by rw [HR.out, decide_eq_false q2, Bool.and_false])]
              have g2 : (ri != h.ing) = true := by simp [q2]
              have g3 : (ri == h.ing) = false := beq_eq_false_iff_ne.2 q2;go_wp2_with fail
              go_ret
              exact ⟨ret_bool HN.out.symm, xe⟩
          · have HN : Hid (wellF t s = false) := by unfold Hid; rw [HM.out, range_no hlt (by rw [HR.out, decide_eq_false q1, Bool.false_and])]
            have g2 : (ra != h.asn) = true := by simp [q1]
            have g3 : (ra == h.asn) = false := beq_eq_false_iff_ne.2 q1;go_wp2_with fail
            go_ret
            exact ⟨ret_bool HN.out.symm, xe⟩
        · have HY : Hid (stepFine t s.hops k = true) := by
           have e : k = 0 := by omega
           have hz := HZ.out;rw [e] at hz ⊢;exact stepFine_first hz
          have dk : decide (0 < k) = false := decide_eq_false hk0;go_wp2_with fail
          go_roundw
          case rel => exact ⟨k + 1, by omega, by go_num, belowT HQ.out HY.out, xe⟩
          case measure => simp [intOf]; omega
    · go_wp2_with fail
      go_ret
      exact ⟨ret_bool (by rw [HM.out, range_yes (fun j hj => HQ.out j (by omega))]), xe⟩
def ases (l : List DHop) : List Int := l.map fun h => h.asn
def hasI (l : List Int) (n : Int) : Bool := l.any fun x => x == n
theorem ases_snoc (l : List DHop) (k : Nat) (h : k < l.length) : ases (l.take (k + 1)) = ases (l.take k) ++ [l[k].asn] := by unfold ases; rw [take_snoc l k h, List.map_append]; rfl
theorem ases_len (l : List DHop) : (ases l).length = l.length := by simp [ases]
theorem ases_take (l : List DHop) (k : Nat) : (ases l).take k = ases (l.take k) := by simp [ases, List.map_take]
theorem ases_rd {B : Nat} {w : World} {A : Option Addr} {n c k : Nat} {l : List DHop} (h : IntS B w (.slice A n c) (ases l)) (hk : k ≤ n) : IntS B w (.slice A k c) (ases (l.take k)) := by
 rw [← ases_take];exact Sl.take h hk
theorem dup_has {l : List DHop} (n : Int) : ∀ {k : Nat}, k ≤ l.length → hasI (ases (l.take k)) n = (List.range k).any fun j => (l.getD j dHop).asn == n
 | 0, _ => by simp [hasI, ases]
 | k + 1, hk => by
   have ih := dup_has n (l := l) (k := k) (by omega);rw [ases_snoc l k (by omega), List.range_succ, List.any_append, ← ih];unfold hasI;rw [List.any_append];simp [List.getD_eq_getElem?_getD, show k < l.length by omega]
theorem spec_l9Has (v : Value) (n : Int) (l : List Int) (w : World) (h : IntS w.heap.size w v l) : Calls Tryz.prog 66 #[v, I n] w fun e w' => e = .returned (.bool (hasI l n)) ∧ w = w' := by
 obtain ⟨A, m, c, rfl, hl, hn, hm, -⟩ := id h;have H := Lib.hid h; have HL := Lib.hid hl; clear h hl;unfold maxLen at hm
 go_enter Tryz.func66, Tryz.ntmps66
 go_wp2
 go_loop [5] (fun i => ∃ k : Nat, k ≤ m ∧ i = I k ∧ hasI (l.take k) n = false) (fun i => m - (intOf i).toNat)
 case atStart => exact ⟨0, by omega, rfl, by simp [hasI]⟩
 case round =>
  obtain ⟨k, hk, rfl, hq⟩ := hrel;have HQ := Lib.hid hq; clear hq;by_cases hlt : k < m
  · obtain ⟨b, off, rfl, hb, hkl, hc⟩ := H.out.at_ hlt
    have hc : w.cell? ⟨b, off + k, none⟩ = some (I l[k]) := hc
    have HY : Hid (l[k] = n → hasI l n = true) := fun he => by unfold hasI; rw [List.any_eq_true]; exact ⟨l[k], List.getElem_mem hkl, beq_iff_eq.2 he⟩
    have HX : Hid (¬ l[k] = n → hasI (l.take (k + 1)) n = false) := fun he => by
     have h1 := HQ.out;unfold hasI at h1 ⊢;rw [take_snoc l k hkl, List.any_append, h1];simp [he]
    generalize l[k] = x at *
    by_cases hx : x = n
    · have HZ := Lib.hid (HY.out hx)
      subst hx;go_wp2
      go_ret
      exact ⟨ret_bool HZ.out.symm, rfl⟩
    · have HZ := Lib.hid (HX.out hx)
      have dx : (x == n) = false := beq_eq_false_iff_ne.2 hx;go_wp2
      go_round
      case rel => exact ⟨k + 1, by omega, by go_num, HZ.out⟩
      case measure => simp [intOf]; omega
  · go_wp2
    go_ret
    have h1 := HQ.out;rw [List.take_of_length_le (by rw [HL.out]; omega)] at h1;exact ⟨ret_bool h1.symm, rfl⟩
theorem spec_SegmentASes (vs : Value) (s : DSegment) (w : World) (hs : SegmentV w.heap.size w vs s) (hn : s.hops.length ≤ 100000000) :
 Calls Tryz.prog 67 #[vs] w fun e w' => ∃ v', e = .returned v' ∧ IntSO w.heap.size w'.heap.size w' v' (ases s.hops) ∧ Ext w w' := by
 obtain ⟨As_2, ns_2, cs_2, rfl, ss_2⟩ := id hs;obtain ⟨ls_2, ks_2, ms_2⟩ := ss_2.len;subst ls_2;unfold maxLen at ms_2;have Rs := Lib.hid hs; clear hs;have Ss_2 := Lib.hid ss_2; clear ss_2
 go_enter Tryz.func67, Tryz.ntmps67
 go_wp2_with fail
 refine name_wp (fun W => ∃ wb, Ext w wb ∧ Blk wb w.heap.size 33 [I s.ts, I s.beta, .slice As_2 s.hops.length cs_2] ∧ Ext wb W ∧ IntSO wb.heap.size W.heap.size W (.slice (some ⟨w.heap.size + 1, 0, none⟩) 0 0) []) ⟨_, (Ext.refl _).alloc _, Blk.new _ _ _, (Ext.refl _).alloc _, own_zero' _ _ _ _ _ (by simp) (Nat.le_refl _)⟩ ?_;rintro wz ⟨w0, ew0, bs, ez, hz⟩;have Bs := Lib.hid bs; clear bs;have HZ := Lib.hid hz; clear hz
 go_loopw [3, 4] (fun v i wr => ∃ k : Nat, k ≤ s.hops.length ∧ i = I k ∧ IntSO w0.heap.size wr.heap.size wr v (ases (s.hops.take k)) ∧ Ext w0 wr) (fun _ i _ => s.hops.length - (intOf i).toNat)
 case atStart => exact ⟨0, by omega, rfl, HZ.out, ez⟩
 case round =>
  obtain ⟨k, hk, rfl, ho, he⟩ := hrel;have HO := Lib.hid ho; clear ho;have bs := Bs.out.ext (w' := wr) xe;have ls := bs.lt;obtain ⟨ps_0, ps_1, ps_2⟩ := blk3 bs;clear bs;by_cases hlt : k < s.hops.length
  · obtain ⟨b, off, rfl, hb, hkl, hc⟩ := (Ss_2.out.ext (w' := wr) xe).at_ hlt
    have HX := Lib.hid (ases_snoc s.hops k hkl)
    have hml : (ases (s.hops.take k)).length ≤ k := by rw [ases_len, List.length_take]; omega
    generalize s.hops[k] = x at *
    generalize ases (s.hops.take k) = sl at *
    obtain ⟨h0, h1, h2, h3, h4⟩ := hc
    have i0 : (0 : Int) ≤ (k : Int) := by omega
    have i1 : (k : Int) < (s.hops.length : Int) := by omega
    go_wp2_with (at_builtin; refine hold ?_)
    refine unhold (wpList_app w0 rfl (.tmp 13) (.tmp 20) _ rfl 3 (.int .i64 0) 1 8 Tryz.underlying96 info_int rfl (by omega) _ sl.length (sl.map I) rfl _ 1 1 [I x.asn] rfl
     (by exact (HO.out.alloc _).lt_size) (row_newN _ _ _ _ _ _ (by first | rfl | simp) rfl) (one_ints [x.asn]) xe (by unfold maxLen; omega) (by omega) ?_)
    intro v1 w1 ho1 he1 _ _;have O1 := Lib.hid ho1; clear ho1;go_wp2_with (at_builtin; refine hold ?_)
    go_roundw
    case rel => exact ⟨k + 1, by omega, by go_num, by rw [HX.out]; unfold IntSO; simpa using O1.out, he1⟩
    case measure => simp [intOf]; omega
  · obtain rfl : k = s.hops.length := by omega
    go_wp2_with fail
    go_ret
    exact ⟨_, rfl, Own.more (by have h := HO.out; rw [List.take_length] at h; exact h) ew0.size (Nat.le_refl _), xe⟩
theorem all_two {p q : Nat → Bool} (n : Nat) : (List.range n).all (fun k => p k && q k) = ((List.range n).all p && (List.range n).all q) := by
 rw [Bool.eq_iff_iff, Bool.and_eq_true, List.all_eq_true, List.all_eq_true, List.all_eq_true];constructor
 · exact fun h => ⟨fun x hx => (Bool.and_eq_true_iff.1 (h x hx)).1, fun x hx => (Bool.and_eq_true_iff.1 (h x hx)).2⟩
 · exact fun h x hx => Bool.and_eq_true_iff.2 ⟨h.1 x hx, h.2 x hx⟩
def bothFine (t : DTopology) (l : List DHop) (k : Nat) : Bool := hopFine t l k && stepFine t l k
theorem wellF_alt (t : DTopology) (s : DSegment) : wellF t s = (inR s.hops.length 1 8 && ((s.hops.getD 0 dHop).ing == 0 && (List.range s.hops.length).all (bothFine t s.hops))) := by
 unfold wellF hopsFine bothFine;rw [all_two];generalize inR (s.hops.length : Int) 1 8 = a;generalize (List.range s.hops.length).all (hopFine t s.hops) = b;generalize (List.range s.hops.length).all (stepFine t s.hops) = c;generalize ((s.hops.getD 0 dHop).ing == 0) = d
 cases a <;> cases b <;> cases c <;> cases d <;> rfl
theorem spec_WellFormed (vt vs : Value) (t : DTopology) (s : DSegment) (w : World) (ht : TopologyV w.heap.size w vt t) (hs : SegmentV w.heap.size w vs s) (hn : s.hops.length ≤ 100000000) :
 Calls Tryz.prog 76 #[vt, vs] w fun e w' => e = .returned (.bool (wellF t s)) ∧ Ext w w' := by
 obtain ⟨At_0, nt_0, ct_0, At_1, nt_1, ct_1, rfl, st_0, st_1⟩ := id ht;obtain ⟨lt_0, kt_0, mt_0⟩ := st_0.len;subst lt_0;unfold maxLen at mt_0;obtain ⟨lt_1, kt_1, mt_1⟩ := st_1.len;subst lt_1;unfold maxLen at mt_1;have Rt := Lib.hid ht; clear ht;have St_0 := Lib.hid st_0; clear st_0;have St_1 := Lib.hid st_1; clear st_1;obtain ⟨As_2, ns_2, cs_2, rfl, ss_2⟩ := id hs;obtain ⟨ls_2, ks_2, ms_2⟩ := ss_2.len;subst ls_2;unfold maxLen at ms_2;have Rs := Lib.hid hs; clear hs;have Ss_2 := Lib.hid ss_2; clear ss_2;have HA := Lib.hid (wellF_alt t s);cases hh : inR s.hops.length 1 8
 · have HF : Hid (wellF t s = false) := by unfold Hid; rw [HA.out, hh]; rfl
   go_enter Tryz.func76, Tryz.ntmps76
   go_wp2_with fail
   refine (spec_l1In _ _ _ _).mono ?_;rintro e w1 ⟨rfl, rfl⟩;rw [hh];go_wp2_with fail
   go_ret
   exact ⟨ret_bool HF.out.symm, xe⟩
 · have h0 : 0 < s.hops.length := by have := inR_iff.1 hh; omega
   have HF : Hid (wellF t s = ((s.hops.getD 0 dHop).ing == 0 && (List.range s.hops.length).all (bothFine t s.hops))) := by unfold Hid; rw [HA.out, hh]; rfl
   have HH := Lib.hid hh; clear hh
   have d1 : (0 : Int) < (s.hops.length : Int) := by omega
   go_enter Tryz.func76, Tryz.ntmps76
   go_wp2_with fail
   first | refine name_wp ?_ ?_ ?_ | refine name_calls ?_ ?_ ?_
   exact (fun W => Ext w W ∧ Blk W (w.heap.size) 27 [.slice At_0 t.ases.length ct_0, .slice At_1 t.links.length ct_1] ∧ Blk W (w.heap.size + 1) 33 [I s.ts, I s.beta, .slice As_2 s.hops.length cs_2]);exact ⟨xe, xb, xb⟩;rintro w0 ⟨ew0, bt, bs⟩;have lt := bt.lt;obtain ⟨pt_0, pt_1⟩ := blk2 bt;have Bt := Lib.hid bt; clear bt;have ls := bs.lt;obtain ⟨ps_0, ps_1, ps_2⟩ := blk3 bs;have Bs := Lib.hid bs; clear bs;refine (spec_l1In _ _ _ _).mono ?_;rintro e w1 ⟨rfl, rfl⟩;rw [HH.out];obtain ⟨b, off, rfl, hb, hkl, hc⟩ := (Ss_2.out.ext (w' := w0) xe).at_ h0;have HG0 := Lib.hid (getD_is (d := dHop) hkl)
   generalize s.hops[0] = x at *
   simp only [HopAt, Nat.zero_mul, Nat.add_zero] at hc;obtain ⟨x0, x1, x2, x3, x4⟩ := hc;by_cases hx : x.ing = 0
   rotate_left
   · have HN : Hid (wellF t s = false) := by unfold Hid; rw [HF.out, HG0.out, beq_eq_false_iff_ne.2 hx]; rfl
     have dx : (x.ing != 0) = true := by simp [hx]
     have dx2 : (x.ing == 0) = false := beq_eq_false_iff_ne.2 hx;go_wp2_with fail
     go_ret
     exact ⟨ret_bool HN.out.symm, xe⟩
   have HM : Hid (wellF t s = (List.range s.hops.length).all (bothFine t s.hops)) := by unfold Hid; rw [HF.out, HG0.out, hx]; rfl
   go_wp2_with fail
   clear x0 x1 x2 x3 x4 hx;refine (spec_SegmentASes _ s _ (by exact Rs.out.ext xe) (by omega)).mono ?_;rintro e w2 ⟨v2, rfl, o2, e2⟩;obtain ⟨Al, nl, cl, rfl, ll, kl, ml, -⟩ := id (IntSO_rd o2);rw [ases_len] at ll;subst ll;unfold maxLen at ml;have RA := Lib.hid (IntSO_rd o2); clear o2;go_wp2_with fail
   go_loopw [6] (fun i wr => ∃ k : Nat, k ≤ s.hops.length ∧ i = I k ∧ (∀ j, j < k → bothFine t s.hops j = true) ∧ Ext w2 wr) (fun i _ => s.hops.length - (intOf i).toNat)
   case atStart => exact ⟨0, by omega, rfl, fun _ h => absurd h (by omega), Ext.refl _⟩
   case round =>
    obtain ⟨k, hk, rfl, hq, he⟩ := hrel;have HQ := Lib.hid hq; clear hq;have bt := Bt.out.ext (w' := wr) xe;have lt := bt.lt;obtain ⟨pt_0, pt_1⟩ := blk2 bt;clear bt;have bs := Bs.out.ext (w' := wr) xe;have ls := bs.lt;obtain ⟨ps_0, ps_1, ps_2⟩ := blk3 bs;clear bs;by_cases hlt : k < s.hops.length
    · obtain ⟨b3, off3, hA3, hb3, hkl3, hc3⟩ := (Ss_2.out.ext (w' := wr) xe).at_ hlt
      cases hA3;have HG := Lib.hid (getD_is (d := dHop) hkl3)
      generalize s.hops[k] = h at *
      have HP : Hid (bothFine t s.hops k = ((validHop h && (isAs t h.asn && !hasI (ases (s.hops.take k)) h.asn)) && stepFine t s.hops k)) := by
       unfold Hid bothFine hopFine dupAt;rw [HG.out, dup_has h.asn (by omega)]
      have HL : Hid (h.egr = 0 → k + 1 < s.hops.length → stepFine t s.hops k = false) := fun a c => stepFine_last (by rw [HG.out]; exact a) c;obtain ⟨hh_0, hh_1, hh_2, hh_3, hh_4⟩ := hc3
      have i0 : (0 : Int) ≤ (k : Int) := by omega
      have i1 : (k : Int) < (s.hops.length : Int) := by omega
      have i2 : (k : Int) ≤ (cl : Int) := by omega
      have HWR : Hid (IntKind.i64.wrap ((s.hops.length : Int) - 1) = (s.hops.length : Int) - 1) := IntWalk.i64_in _ (by omega);go_wp2_with fail
      first | refine name_wp ?_ ?_ ?_ | refine name_calls ?_ ?_ ?_
      exact (fun W => Ext wr W ∧ Blk W (wr.heap.size) 91 [I h.asn, I h.ing, I h.egr, I h.exp, I h.mac]);exact ⟨xe, xb⟩;rintro w3 ⟨ew3, bh⟩;have lh := bh.lt;obtain ⟨ph_0, ph_1, ph_2, ph_3, ph_4⟩ := blk5 bh;have Bh := Lib.hid bh; clear bh;have bt := Bt.out.ext (w' := w3) xe;have lt := bt.lt;obtain ⟨pt_0, pt_1⟩ := blk2 bt;clear bt;have bs := Bs.out.ext (w' := w3) xe;have ls := bs.lt;obtain ⟨ps_0, ps_1, ps_2⟩ := blk3 bs;clear bs;have hwr := HWR.out;refine wp_region_L (E := Ext) (w0 := w3) (G := fun τ => match τ with | 38 => some (fun v _ => v = .bool (validHop h)) | 44 => some (fun v _ => v = .bool (isAs t h.asn)) | 53 => some (fun v _ => v = .bool (hasI (ases (s.hops.take k)) h.asn)) | _ => none) Ext.refl (fun h k => Ext.trans h k) (by kernel_rfl) (by kernel_rfl) xg (Ext.drew (by exact Ext.refl _)) ?_
      repeat' (first
       | ((with_reducible refine wpL_skip ?_ ?_ ?_)
          · rfl
          · rfl
          simp only [putS])
       | ((with_reducible refine wpL_quiet ?_ ?_ ?_ ?_)
          · rfl
          · rfl
          · rfl
          apply Exists.intro
          refine ⟨fun W hW hS => ?_, ?_⟩
          · have hC := (Ext.facts hW).1
            go_simp
            first | done | (with_reducible rfl) | (rw [if_neg (by omega)]; exact ⟨rfl, rfl⟩) | rfl
          first | (with_reducible refine wpL_boolT ?_) | (with_reducible refine wpL_boolF ?_) | (with_reducible refine wpL_bool (fun hB => ?_) (fun hB => ?_)) | skip
          all_goals simp only [putS])
       | ((refine wpL_call ?_ rfl rfl ?_ ?_ ?_)
          · rfl
          · rfl
          · intro W hW hS
            have hC := (Ext.facts hW).1;unfold growAt
            go_simp
            simp only [growUpon]
            first | (go_at_call 116; ((with_reducible refine Calls.mono (spec_ValidHop (h) _) ?_)); rintro e w9 ⟨rfl, e9⟩; exact ⟨_, rfl, e9, by first | rfl | (simp only [*])⟩) | (go_at_call 117; ((with_reducible refine Calls.mono (spec_l5Realm _ _ (t) _ (by exact Rt.out.ext xe)) ?_)); rintro e w9 ⟨rfl, e9⟩; exact ⟨_, rfl, e9, by first | rfl | (simp only [*])⟩) | (go_at_call 66; ((with_reducible refine Calls.mono (spec_l9Has _ _ (ases (s.hops.take k)) _ (by exact ases_rd (RA.out.ext xe) (by omega))) ?_)); rintro e w9 ⟨rfl, rfl⟩; exact ⟨_, rfl, Ext.refl _, by first | rfl | (simp only [*])⟩)
          first | (with_reducible refine wpL_boolT ?_) | (with_reducible refine wpL_boolF ?_) | (with_reducible refine wpL_bool (fun hB => ?_) (fun hB => ?_)) | skip
          all_goals simp only [putS]))
      all_goals (refine wpL_nil (fun w5 e5 hL => ?_); clear hL hwr)
      all_goals first
       | (have hbf : bothFine t s.hops k = false := by rw [HP.out]; simp [*]
          have HN : Hid (wellF t s = false) := HM.out.trans (range_no hlt hbf);clear hbf;go_wp2_with fail
          go_ret
          exact ⟨ret_bool HN.out.symm, xe⟩)
       | (have hb1 : (h.egr == 0) = true := by assumption
          have hb2 : decide ((k : Int) < (s.hops.length : Int) - 1) = true := by assumption
          have hb3 := of_decide_eq_true hb2;have hst : stepFine t s.hops k = false := HL.out (beq_iff_eq.1 hb1) (by omega)
          have hbf : bothFine t s.hops k = false := by rw [HP.out, hst, Bool.and_false]
          have HN : Hid (wellF t s = false) := HM.out.trans (range_no hlt hbf);clear hbf hst hb1 hb3;go_wp2_with fail
          go_ret
          exact ⟨ret_bool HN.out.symm, xe⟩)
       | skip
      all_goals
       have HB : Hid (bothFine t s.hops k = stepFine t s.hops k) := by unfold Hid; rw [HP.out]; simp [*]
       have HZ : Hid (¬ ((s.hops.getD k dHop).egr = 0 ∧ k + 1 < s.hops.length)) := by
        unfold Hid;rw [HG.out]
        first
         | (have hb : (h.egr == 0) = false := by assumption
            exact fun h' => (beq_eq_false_iff_ne.1 hb) h'.1)
         | (have hb : decide ((k : Int) < (s.hops.length : Int) - 1) = false := by assumption
            have hb' := of_decide_eq_false hb
            exact fun h' => by have := h'.2; omega)
       by_cases hk0 : 0 < k
       · obtain ⟨m, hm⟩ : ∃ m, k = m + 1 := ⟨k - 1, by omega⟩
         have hml : m < s.hops.length := by omega
         have bt := Bt.out.ext (w' := w5) xe;have lt := bt.lt;obtain ⟨pt_0, pt_1⟩ := blk2 bt;clear bt;have bs := Bs.out.ext (w' := w5) xe;have ls := bs.lt;obtain ⟨ps_0, ps_1, ps_2⟩ := blk3 bs;clear bs;obtain ⟨bm, offm, hAm, hbm, hklm, hcm⟩ := (Ss_2.out.ext (w' := w5) xe).at_ hml;cases hAm;have HS := Lib.hid (stepFine_next (t := t) hm HZ.out);have HGm := Lib.hid (getD_is (d := dHop) hklm)
         generalize s.hops[m] = g at *
         obtain ⟨hg_0, hg_1, hg_2, hg_3, hg_4⟩ := hcm
         have HW2 : Hid (IntKind.i64.wrap ((k : Int) - 1) = (m : Int)) := by unfold Hid; rw [IntWalk.i64_in _ (by omega)]; omega
         have i4 : (0 : Int) ≤ (m : Int) := by omega
         have i5 : (m : Int) < (s.hops.length : Int) := by omega
         have HM1 := Lib.hid hm; clear hm
         have HR : Hid (bothFine t s.hops k = (decide ((remEnd t g.asn g.egr).1 = h.asn) && decide ((remEnd t g.asn g.egr).2 = h.ing))) := by unfold Hid; rw [HB.out, HS.out, HG.out, HGm.out]
         go_wp2_with fail
         have hw2 := HW2.out;refine wp_region_L (E := Ext) (w0 := w5) (G := fun τ => match τ with | 86 => some (fun v _ => v = .tuple #[I (remEnd t g.asn g.egr).1, I (remEnd t g.asn g.egr).2]) | _ => none) Ext.refl (fun h k => Ext.trans h k) (by kernel_rfl) (by kernel_rfl) xg (Ext.drew (by exact Ext.refl _)) ?_
         repeat' (first
          | ((with_reducible refine wpL_skip ?_ ?_ ?_)
             · rfl
             · rfl
             simp only [putS])
          | ((with_reducible refine wpL_quiet ?_ ?_ ?_ ?_)
             · rfl
             · rfl
             · rfl
             apply Exists.intro
             refine ⟨fun W hW hS => ?_, ?_⟩
             · have hC := (Ext.facts hW).1
               go_simp
               first | done | (with_reducible rfl) | (rw [if_neg (by omega)]; exact ⟨rfl, rfl⟩) | rfl
             first | (with_reducible refine wpL_boolT ?_) | (with_reducible refine wpL_boolF ?_) | (with_reducible refine wpL_bool (fun hB => ?_) (fun hB => ?_)) | skip
             all_goals simp only [putS])
          | ((refine wpL_call ?_ rfl rfl ?_ ?_ ?_)
             · rfl
             · rfl
             · intro W hW hS
               have hC := (Ext.facts hW).1;unfold growAt
               go_simp
               simp only [growUpon]
               first | (go_at_call 65; ((with_reducible refine Calls.mono (spec_RemoteEnd _ _ _ (t) _ (by exact Rt.out.ext xe)) ?_)); rintro e w9 ⟨rfl, e9⟩; exact ⟨_, rfl, e9, rfl⟩)
             first | (with_reducible refine wpL_boolT ?_) | (with_reducible refine wpL_boolF ?_) | (with_reducible refine wpL_bool (fun hB => ?_) (fun hB => ?_)) | skip
             all_goals simp only [putS]))
         refine wpL_nil (fun w6 e6 hL => ?_);clear hL hw2
         generalize remEnd t g.asn g.egr = re at *
         obtain ⟨ra, ri⟩ := re;have bh := Bh.out.ext (w' := w6) xe;have lh := bh.lt;obtain ⟨ph_0, ph_1, ph_2, ph_3, ph_4⟩ := blk5 bh;clear bh;by_cases q1 : ra = h.asn
         · by_cases q2 : ri = h.ing
           · have HY : Hid (bothFine t s.hops k = true) := by unfold Hid; rw [HR.out, decide_eq_true q1, decide_eq_true q2]; rfl
             go_wp2_with fail
             go_roundw
             case rel => exact ⟨k + 1, by omega, by go_num, belowT HQ.out HY.out, xe⟩
             case measure => simp [intOf]; omega
           · have HN : Hid (wellF t s = false) := by unfold Hid; rw [HM.out, range_no hlt (by rw [HR.out, decide_eq_false q2, Bool.and_false])]
             have g2 : (ri != h.ing) = true := by simp [q2]
             have g3 : (ri == h.ing) = false := beq_eq_false_iff_ne.2 q2;go_wp2_with fail
             go_ret
             exact ⟨ret_bool HN.out.symm, xe⟩
         · have HN : Hid (wellF t s = false) := by unfold Hid; rw [HM.out, range_no hlt (by rw [HR.out, decide_eq_false q1, Bool.false_and])]
           have g2 : (ra != h.asn) = true := by simp [q1]
           have g3 : (ra == h.asn) = false := beq_eq_false_iff_ne.2 q1;go_wp2_with fail
           go_ret
           exact ⟨ret_bool HN.out.symm, xe⟩
       · have HY : Hid (bothFine t s.hops k = true) := by
          unfold Hid;rw [HB.out]
          have e : k = 0 := by omega
          have hz := HZ.out;rw [e] at hz ⊢;exact stepFine_first hz
         have dk : decide (0 < k) = false := decide_eq_false hk0;go_wp2_with fail
         go_roundw
         case rel => exact ⟨k + 1, by omega, by go_num, belowT HQ.out HY.out, xe⟩
         case measure => simp [intOf]; omega
    · go_wp2_with fail
      go_ret
      exact ⟨ret_bool (by rw [HM.out, range_yes (fun j hj => HQ.out j (by omega))]), xe⟩
end Go.Proofs.YtmopmgaeiokfjaaGreat
