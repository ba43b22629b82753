/- Contracts of the program's and the reference's functions on topologies. -/
import Derived.Test.YtmopmgaeiokfjaaGreatGL0
import Derived.Test.YtmopmgaeiokfjaaGreatGHT
import Derived.Test.YtmopmgaeiokfjaaGreatGGrow
set_option maxRecDepth 100000
set_option maxHeartbeats 1000000
namespace Go.Proofs.YtmopmgaeiokfjaaGreat
open Go.RowKit
set_option linter.unusedVariables false
def isAs (t : DTopology) (r : Int) : Bool := inR r 0 (t.ases.length - 1)
def asAt (t : DTopology) (r : Int) : DAS := t.ases.getD r.toNat ⟨0, false, 0⟩
theorem asAt_nat (t : DTopology) (k : Nat) (h : k < t.ases.length) : asAt t k = t.ases[k] := by simp [asAt, List.getD_eq_getElem?_getD, List.getElem?_eq_getElem h]
theorem isAs_nat {t : DTopology} {r : Int} (h : isAs t r = true) : ∃ k : Nat, r = k ∧ k < t.ases.length := by
 obtain ⟨i0, i1⟩ := inR_iff.1 h;obtain ⟨k, rfl⟩ := Int.eq_ofNat_of_zero_le i0;exact ⟨k, rfl, by omega⟩
def isCore (t : DTopology) (r : Int) : Bool := isAs t r && (asAt t r).core
theorem impl_isAS (v : Value) (r : Int) (t : DTopology) (w : World) (h : TopologyV w.heap.size w v t) :
 Calls Tryz.prog 119 #[v, I r] w fun e w' => e = .returned (.bool (isAs t r)) ∧ Ext w w' := by
 obtain ⟨A0, n0, c0, A1, n1, c1, rfl, s0, s1⟩ := h;obtain ⟨hl0, h1, h2⟩ := s0.len;subst hl0;unfold maxLen at h2;clear s0 s1
 go_enter Tryz.func119, Tryz.ntmps119
 go_wp2_with fail
 refine (impl_InRange _ _ _ _).mono ?_;rintro e w' ⟨rfl, rfl⟩;go_wp2_with fail
 go_ret
 exact ⟨rfl, xe⟩
theorem spec_l5Realm (v : Value) (r : Int) (t : DTopology) (w : World) (h : TopologyV w.heap.size w v t) :
 Calls Tryz.prog 117 #[v, I r] w fun e w' => e = .returned (.bool (isAs t r)) ∧ Ext w w' := by
 obtain ⟨A0, n0, c0, A1, n1, c1, rfl, s0, s1⟩ := h;obtain ⟨hl0, h1, h2⟩ := s0.len;subst hl0;unfold maxLen at h2;clear s0 s1
 go_enter Tryz.func117, Tryz.ntmps117
 go_wp2_with fail
 refine (spec_l1In _ _ _ _).mono ?_;rintro e w' ⟨rfl, rfl⟩;go_wp2_with fail
 go_ret
 exact ⟨rfl, xe⟩
theorem impl_isCore (vt : Value) (r : Int) (t : DTopology) (w : World) (ht : TopologyV w.heap.size w vt t) :
 Calls Tryz.prog 101 #[vt, I r] w fun e w' => e = .returned (.bool (isCore t r)) ∧ Ext w w' := by
 obtain ⟨At_0, nt_0, ct_0, At_1, nt_1, ct_1, rfl, st_0, st_1⟩ := id ht;obtain ⟨lt_0, kt_0, mt_0⟩ := st_0.len;subst lt_0;unfold maxLen at mt_0;obtain ⟨lt_1, kt_1, mt_1⟩ := st_1.len;subst lt_1;unfold maxLen at mt_1;have Rt := Lib.hid ht; clear ht;have St_0 := Lib.hid st_0; clear st_0;have St_1 := Lib.hid st_1; clear st_1;cases hv : isAs t r
 · have HV := Lib.hid hv
   have HF : Hid (isCore t r = false) := by unfold Hid; simp [isCore, hv]
   clear hv
   go_enter Tryz.func101, Tryz.ntmps101
   go_wp2_with fail
   refine (impl_isAS _ _ t _ (by exact Rt.out.ext xe)).mono ?_;rintro e w1 ⟨rfl, e1⟩;rw [HV.out];go_wp2_with fail
   go_ret
   exact ⟨ret_bool HF.out.symm, xe⟩
 · obtain ⟨k, rfl, hkl⟩ := isAs_nat hv
   have HF : Hid (isCore t k = t.ases[k].core) := by unfold Hid; simp [isCore, hv, asAt_nat t k hkl]
   have HV := Lib.hid hv;clear hv
   go_enter Tryz.func101, Tryz.ntmps101
   go_wp2_with fail
   first | refine name_wp ?_ ?_ ?_ | refine name_calls ?_ ?_ ?_
   exact (fun W => Ext w W ∧ Blk W (w.heap.size) 27 [.slice At_0 t.ases.length ct_0, .slice At_1 t.links.length ct_1]);exact ⟨xe, xb⟩;rintro w0 ⟨ew0, bt⟩;have lt := bt.lt;obtain ⟨pt_0, pt_1⟩ := blk2 bt;have Bt := Lib.hid bt; clear bt;refine (impl_isAS _ _ t _ (by exact Rt.out.ext xe)).mono ?_;rintro e w1 ⟨rfl, e1⟩;rw [HV.out];have bt := Bt.out.ext (e1);have lt := bt.lt;obtain ⟨pt_0, pt_1⟩ := blk2 bt;clear bt;obtain ⟨b, off, rfl, hb, hkk, hc⟩ := (St_0.out.ext (w' := w1) xe).at_ hkl
   generalize t.ases[k] = y at *
   obtain ⟨h0, h1, h2⟩ := hc;go_wp2_with fail
   go_ret
   exact ⟨ret_bool HF.out.symm, xe⟩
def fstIx (p : Nat → Bool) (n : Nat) : Int := match (List.range n).find? p with | some k => k | none => -1
theorem fstIx_at {p : Nat → Bool} {n k : Nat} (hk : k < n) (h : ∀ j, j < k → p j = false) (hp : p k = true) : fstIx p n = k := by
 unfold fstIx
 have : (List.range n).find? p = some k := by
  rw [List.find?_range_eq_some];exact ⟨hp, List.mem_range.2 hk, fun j hj => by simp [h j hj]⟩
 rw [this]
theorem fstIx_no {p : Nat → Bool} {n : Nat} (h : ∀ j, j < n → p j = false) : fstIx p n = -1 := by
 unfold fstIx;rw [List.find?_range_eq_none.2 (fun j hj => by simp [h j hj])]
theorem fstIx_cases (p : Nat → Bool) (n : Nat) : (fstIx p n = -1 ∧ ∀ j, j < n → p j = false) ∨ ∃ k, k < n ∧ fstIx p n = k ∧ p k = true := by
 unfold fstIx
 cases h : (List.range n).find? p with
 | none =>
   left
   rw [List.find?_range_eq_none] at h;exact ⟨rfl, fun j hj => by simpa using h j hj⟩
 | some k =>
   right
   rw [List.find?_range_eq_some] at h;exact ⟨k, List.mem_range.1 h.2.1, rfl, h.1⟩
theorem belowF {p : Nat → Bool} {k : Nat} (h : ∀ j, j < k → p j = false) (hk : p k = false) : ∀ j, j < k + 1 → p j = false := fun j hj => by
 rcases Nat.lt_succ_iff_lt_or_eq.1 hj with hj | rfl
 · exact h j hj
 · exact hk
def dLink : DLink := ⟨0, 0, 0, 0, 0⟩
def usesIf (l : DLink) (r i : Int) : Bool := (l.a == r && l.ai == i) || (l.b == r && l.bi == i)
def linkIdx (t : DTopology) (r i : Int) : Int := fstIx (fun k => usesIf (t.links.getD k dLink) r i) t.links.length
theorem linkAt {t : DTopology} {k : Nat} (h : k < t.links.length) : t.links.getD k dLink = t.links[k] := by simp [List.getD_eq_getElem?_getD, h]
def atA (l : DLink) (r i : Int) : Bool := l.a == r && l.ai == i
def remEnd (t : DTopology) (r i : Int) : Int × Int :=
 if linkIdx t r i < 0 then (-1, 0) else if atA (t.links.getD (linkIdx t r i).toNat dLink) r i then ((t.links.getD (linkIdx t r i).toNat dLink).b, (t.links.getD (linkIdx t r i).toNat dLink).bi) else ((t.links.getD (linkIdx t r i).toNat dLink).a, (t.links.getD (linkIdx t r i).toNat dLink).ai)
def kindOf (l : DLink) (r i : Int) : Int := if l.kind = 1 then 1 else if l.kind = 3 then 4 else if l.kind = 2 then (if atA l r i then 2 else 3) else 0
def ifKind (t : DTopology) (r i : Int) : Int := if i = 0 then 5 else if linkIdx t r i < 0 then 0 else kindOf (t.links.getD (linkIdx t r i).toNat dLink) r i
theorem impl_usesInterface (l : DLink) (r i : Int) (w : World) : Calls Tryz.prog 152 #[.agg #[I l.a, I l.ai, I l.b, I l.bi, I l.kind], I r, I i] w fun e w' => e = .returned (.bool (usesIf l r i)) ∧ Ext w w' := by
 cases h1 : l.a == r <;> cases h2 : l.ai == i <;> cases h3 : l.b == r <;> cases h4 : l.bi == i
 all_goals
  have HF := Lib.hid (show usesIf l r i = _ by unfold usesIf; rw [h1, h2, h3, h4])
  go_enter Tryz.func152, Tryz.ntmps152
  go_wp2_with fail
  go_ret
  exact ⟨ret_bool (by rw [HF.out]; rfl), xe⟩
theorem spec_l5Ends (l : DLink) (r i : Int) (w : World) : Calls Tryz.prog 139 #[.agg #[I l.a, I l.ai, I l.b, I l.bi, I l.kind], I r, I i] w fun e w' => e = .returned (.bool (usesIf l r i)) ∧ Ext w w' := by
 cases h1 : l.a == r <;> cases h2 : l.ai == i <;> cases h3 : l.b == r <;> cases h4 : l.bi == i
 all_goals
  have HF := Lib.hid (show usesIf l r i = _ by unfold usesIf; rw [h1, h2, h3, h4])
  go_enter Tryz.func139, Tryz.ntmps139
  go_wp2_with fail
  go_ret
  exact ⟨ret_bool (by rw [HF.out]; rfl), xe⟩
theorem impl_LinkIndex (vt : Value) (r i : Int) (t : DTopology) (w : World) (ht : TopologyV w.heap.size w vt t) :
 Calls Tryz.prog 133 #[vt, I r, I i] w fun e w' => e = .returned (I (linkIdx t r i)) ∧ Ext w w' := by
 obtain ⟨At_0, nt_0, ct_0, At_1, nt_1, ct_1, rfl, st_0, st_1⟩ := id ht;obtain ⟨lt_0, kt_0, mt_0⟩ := st_0.len;subst lt_0;unfold maxLen at mt_0;obtain ⟨lt_1, kt_1, mt_1⟩ := st_1.len;subst lt_1;unfold maxLen at mt_1;have Rt := Lib.hid ht; clear ht;have St_0 := Lib.hid st_0; clear st_0;have St_1 := Lib.hid st_1; clear st_1
 go_enter Tryz.func133, Tryz.ntmps133
 go_wp2_with fail
 first | refine name_wp ?_ ?_ ?_ | refine name_calls ?_ ?_ ?_
 exact (fun W => Ext w W ∧ Blk W (w.heap.size) 27 [.slice At_0 t.ases.length ct_0, .slice At_1 t.links.length ct_1]);exact ⟨xe, xb⟩;rintro w0 ⟨ew0, bt⟩;have lt := bt.lt;obtain ⟨pt_0, pt_1⟩ := blk2 bt;have Bt := Lib.hid bt; clear bt
 go_loopw [12] (fun j wr => ∃ k : Nat, k ≤ t.links.length ∧ j = I k ∧ (∀ j, j < k → usesIf (t.links.getD j dLink) r i = false) ∧ Ext w0 wr) (fun j _ => t.links.length - (intOf j).toNat)
 case atStart => exact ⟨0, by omega, rfl, fun _ h => absurd h (by omega), Ext.refl _⟩
 case round =>
  obtain ⟨k, hk, rfl, hq, he⟩ := hrel;have HQ := Lib.hid hq; clear hq;by_cases hlt : k < t.links.length
  · obtain ⟨b, off, rfl, hb, hkl, hc⟩ := (St_1.out.ext (w' := wr) xe).at_ hlt
    have HP := Lib.hid (linkAt hkl)
    generalize t.links[k] = x at *
    obtain ⟨hx_0, hx_1, hx_2, hx_3, hx_4⟩ := hc;cases hu : usesIf x r i
    · have HN : Hid (usesIf (t.links.getD k dLink) r i = false) := by unfold Hid; rw [HP.out, hu]
      go_wp2_with fail
      refine (impl_usesInterface (x) _ _ _).mono ?_;rintro e w4 ⟨rfl, ew4⟩;rw [hu];clear hu;go_wp2_with fail
      go_roundw
      case rel => exact ⟨k + 1, by omega, by go_num, belowF (p := fun j => usesIf (t.links.getD j dLink) r i) HQ.out HN.out, xe⟩
      case measure => simp [intOf]; omega
    · have HN : Hid (linkIdx t r i = k) := fstIx_at hlt HQ.out (by rw [HP.out, hu])
      go_wp2_with fail
      refine (impl_usesInterface (x) _ _ _).mono ?_;rintro e w4 ⟨rfl, ew4⟩;rw [hu];clear hu;go_wp2_with fail
      go_ret
      exact ⟨ret_int HN.out.symm, xe⟩
  · go_wp2_with fail
    go_ret
    exact ⟨ret_int (fstIx_no (fun j hj => HQ.out j (by omega))).symm, xe⟩
theorem spec_LinkIndex (vt : Value) (r i : Int) (t : DTopology) (w : World) (ht : TopologyV w.heap.size w vt t) :
 Calls Tryz.prog 105 #[vt, I r, I i] w fun e w' => e = .returned (I (linkIdx t r i)) ∧ Ext w w' := by
 obtain ⟨At_0, nt_0, ct_0, At_1, nt_1, ct_1, rfl, st_0, st_1⟩ := id ht;obtain ⟨lt_0, kt_0, mt_0⟩ := st_0.len;subst lt_0;unfold maxLen at mt_0;obtain ⟨lt_1, kt_1, mt_1⟩ := st_1.len;subst lt_1;unfold maxLen at mt_1;have Rt := Lib.hid ht; clear ht;have St_0 := Lib.hid st_0; clear st_0;have St_1 := Lib.hid st_1; clear st_1
 go_enter Tryz.func105, Tryz.ntmps105
 go_wp2_with fail
 first | refine name_wp ?_ ?_ ?_ | refine name_calls ?_ ?_ ?_
 exact (fun W => Ext w W ∧ Blk W (w.heap.size) 27 [.slice At_0 t.ases.length ct_0, .slice At_1 t.links.length ct_1]);exact ⟨xe, xb⟩;rintro w0 ⟨ew0, bt⟩;have lt := bt.lt;obtain ⟨pt_0, pt_1⟩ := blk2 bt;have Bt := Lib.hid bt; clear bt
 go_loopw [7] (fun j wr => ∃ k : Nat, k ≤ t.links.length ∧ j = I k ∧ (∀ j, j < k → usesIf (t.links.getD j dLink) r i = false) ∧ Ext w0 wr) (fun j _ => t.links.length - (intOf j).toNat)
 case atStart => exact ⟨0, by omega, rfl, fun _ h => absurd h (by omega), Ext.refl _⟩
 case round =>
  obtain ⟨k, hk, rfl, hq, he⟩ := hrel;have HQ := Lib.hid hq; clear hq;have bt := Bt.out.ext (w' := wr) xe;have lt := bt.lt;obtain ⟨pt_0, pt_1⟩ := blk2 bt;clear bt;by_cases hlt : k < t.links.length
  · obtain ⟨b, off, rfl, hb, hkl, hc⟩ := (St_1.out.ext (w' := wr) xe).at_ hlt
    have HP := Lib.hid (linkAt hkl)
    generalize t.links[k] = x at *
    obtain ⟨hx_0, hx_1, hx_2, hx_3, hx_4⟩ := hc;cases hu : usesIf x r i
    · have HN : Hid (usesIf (t.links.getD k dLink) r i = false) := by unfold Hid; rw [HP.out, hu]
      go_wp2_with fail
      refine (spec_l5Ends (x) _ _ _).mono ?_;rintro e w4 ⟨rfl, ew4⟩;rw [hu];clear hu;go_wp2_with fail
      go_roundw
      case rel => exact ⟨k + 1, by omega, by go_num, belowF (p := fun j => usesIf (t.links.getD j dLink) r i) HQ.out HN.out, xe⟩
      case measure => simp [intOf]; omega
    · have HN : Hid (linkIdx t r i = k) := fstIx_at hlt HQ.out (by rw [HP.out, hu])
      go_wp2_with fail
      refine (spec_l5Ends (x) _ _ _).mono ?_;rintro e w4 ⟨rfl, ew4⟩;rw [hu];clear hu;go_wp2_with fail
      go_ret
      exact ⟨ret_int HN.out.symm, xe⟩
  · go_wp2_with fail
    go_ret
    exact ⟨ret_int (fstIx_no (fun j hj => HQ.out j (by omega))).symm, xe⟩
theorem impl_RemoteEnd (vt : Value) (r i : Int) (t : DTopology) (w : World) (ht : TopologyV w.heap.size w vt t) :
 Calls Tryz.prog 98 #[vt, I r, I i] w fun e w' => e = .returned (.tuple #[I (remEnd t r i).1, I (remEnd t r i).2]) ∧ Ext w w' := by
 obtain ⟨At_0, nt_0, ct_0, At_1, nt_1, ct_1, rfl, st_0, st_1⟩ := id ht;obtain ⟨lt_0, kt_0, mt_0⟩ := st_0.len;subst lt_0;unfold maxLen at mt_0;obtain ⟨lt_1, kt_1, mt_1⟩ := st_1.len;subst lt_1;unfold maxLen at mt_1;have Rt := Lib.hid ht; clear ht;have St_0 := Lib.hid st_0; clear st_0;have St_1 := Lib.hid st_1; clear st_1
 rcases fstIx_cases (fun k => usesIf (t.links.getD k dLink) r i) t.links.length with ⟨h, -⟩ | ⟨k, hk, h, -⟩
 · have h : linkIdx t r i = -1 := h
   have HF : Hid (remEnd t r i = (-1, 0)) := by unfold Hid remEnd; rw [h]; rfl
   have HX := Lib.hid h; clear h
   go_enter Tryz.func98, Tryz.ntmps98
   go_wp2_with fail
   refine (impl_LinkIndex _ _ _ (t) _ (by exact Rt.out.ext xe)).mono ?_;rintro e w4 ⟨rfl, ew4⟩;rw [HX.out];go_wp2_with fail
   rw [HF.out];go_ret2
   exact ⟨rfl, xe⟩
 · have h : linkIdx t r i = k := h
   have HX := Lib.hid h
   have HF : Hid (remEnd t r i = if atA t.links[k] r i then (t.links[k].b, t.links[k].bi) else (t.links[k].a, t.links[k].ai)) := by
    unfold Hid remEnd;rw [h, if_neg (by omega), Int.toNat_natCast, linkAt hk]
   clear h
   go_enter Tryz.func98, Tryz.ntmps98
   go_wp2_with fail
   first | refine name_wp ?_ ?_ ?_ | refine name_calls ?_ ?_ ?_
   exact (fun W => Ext w W ∧ Blk W (w.heap.size) 27 [.slice At_0 t.ases.length ct_0, .slice At_1 t.links.length ct_1]);exact ⟨xe, xb⟩;rintro w0 ⟨ew0, bt⟩;have lt := bt.lt;obtain ⟨pt_0, pt_1⟩ := blk2 bt;have Bt := Lib.hid bt; clear bt;refine (impl_LinkIndex _ _ _ (t) _ (by exact Rt.out.ext xe)).mono ?_;rintro e w4 ⟨rfl, ew4⟩;have bt := Bt.out.ext (w' := w4) xe;have lt := bt.lt;obtain ⟨pt_0, pt_1⟩ := blk2 bt;clear bt;rw [HX.out];obtain ⟨b, off, rfl, hb, hkl, hc⟩ := (St_1.out.ext (w' := w4) xe).at_ hk
   generalize t.links[k] = x at *
   obtain ⟨hx_0, hx_1, hx_2, hx_3, hx_4⟩ := hc
   have i0 : (0 : Int) ≤ (k : Int) := by omega
   have i1 : (k : Int) < (t.links.length : Int) := by omega
   cases h1 : x.a == r <;> cases h2 : x.ai == i
   all_goals
    have HG := Lib.hid (show atA x r i = _ by unfold atA; rw [h1, h2]);go_wp2_with fail
    go_quiet (fail)
    go_wp2_with fail
    rw [HF.out, HG.out];go_ret2
    exact ⟨by simp_all, xe⟩
theorem spec_RemoteEnd (vt : Value) (r i : Int) (t : DTopology) (w : World) (ht : TopologyV w.heap.size w vt t) :
 Calls Tryz.prog 65 #[vt, I r, I i] w fun e w' => e = .returned (.tuple #[I (remEnd t r i).1, I (remEnd t r i).2]) ∧ Ext w w' := by
 obtain ⟨At_0, nt_0, ct_0, At_1, nt_1, ct_1, rfl, st_0, st_1⟩ := id ht;obtain ⟨lt_0, kt_0, mt_0⟩ := st_0.len;subst lt_0;unfold maxLen at mt_0;obtain ⟨lt_1, kt_1, mt_1⟩ := st_1.len;subst lt_1;unfold maxLen at mt_1;have Rt := Lib.hid ht; clear ht;have St_0 := Lib.hid st_0; clear st_0;have St_1 := Lib.hid st_1; clear st_1
 rcases fstIx_cases (fun k => usesIf (t.links.getD k dLink) r i) t.links.length with ⟨h, -⟩ | ⟨k, hk, h, -⟩
 · have h : linkIdx t r i = -1 := h
   have HF : Hid (remEnd t r i = (-1, 0)) := by unfold Hid remEnd; rw [h]; rfl
   have HX := Lib.hid h; clear h
   go_enter Tryz.func65, Tryz.ntmps65
   go_wp2_with fail
   refine (spec_LinkIndex _ _ _ (t) _ (by exact Rt.out.ext xe)).mono ?_;rintro e w4 ⟨rfl, ew4⟩;rw [HX.out];go_wp2_with fail
   rw [HF.out];go_ret2
   exact ⟨rfl, xe⟩
 · have h : linkIdx t r i = k := h
   have HX := Lib.hid h
   have HF : Hid (remEnd t r i = if atA t.links[k] r i then (t.links[k].b, t.links[k].bi) else (t.links[k].a, t.links[k].ai)) := by
    unfold Hid remEnd;rw [h, if_neg (by omega), Int.toNat_natCast, linkAt hk]
   clear h
   go_enter Tryz.func65, Tryz.ntmps65
   go_wp2_with fail
   first | refine name_wp ?_ ?_ ?_ | refine name_calls ?_ ?_ ?_
   exact (fun W => Ext w W ∧ Blk W (w.heap.size) 27 [.slice At_0 t.ases.length ct_0, .slice At_1 t.links.length ct_1]);exact ⟨xe, xb⟩;rintro w0 ⟨ew0, bt⟩;have lt := bt.lt;obtain ⟨pt_0, pt_1⟩ := blk2 bt;have Bt := Lib.hid bt; clear bt;refine (spec_LinkIndex _ _ _ (t) _ (by exact Rt.out.ext xe)).mono ?_;rintro e w4 ⟨rfl, ew4⟩;have bt := Bt.out.ext (w' := w4) xe;have lt := bt.lt;obtain ⟨pt_0, pt_1⟩ := blk2 bt;clear bt;rw [HX.out];obtain ⟨b, off, rfl, hb, hkl, hc⟩ := (St_1.out.ext (w' := w4) xe).at_ hk
   generalize t.links[k] = x at *
   obtain ⟨hx_0, hx_1, hx_2, hx_3, hx_4⟩ := hc
   have i0 : (0 : Int) ≤ (k : Int) := by omega
   have i1 : (k : Int) < (t.links.length : Int) := by omega
   cases h1 : x.a == r <;> cases h2 : x.ai == i
   all_goals
    have HG := Lib.hid (show atA x r i = _ by unfold atA; rw [h1, h2]);go_wp2_with fail
    go_quiet (fail)
    go_wp2_with fail
    rw [HF.out, HG.out];go_ret2
    exact ⟨by simp_all, xe⟩
theorem impl_InterfaceKind (vt : Value) (r i : Int) (t : DTopology) (w : World) (ht : TopologyV w.heap.size w vt t) :
 Calls Tryz.prog 102 #[vt, I r, I i] w fun e w' => e = .returned (I (ifKind t r i)) ∧ Ext w w' := by
 obtain ⟨At_0, nt_0, ct_0, At_1, nt_1, ct_1, rfl, st_0, st_1⟩ := id ht;obtain ⟨lt_0, kt_0, mt_0⟩ := st_0.len;subst lt_0;unfold maxLen at mt_0;obtain ⟨lt_1, kt_1, mt_1⟩ := st_1.len;subst lt_1;unfold maxLen at mt_1;have Rt := Lib.hid ht; clear ht;have St_0 := Lib.hid st_0; clear st_0;have St_1 := Lib.hid st_1; clear st_1;by_cases hi : i = 0
 · have HF : Hid (ifKind t r i = 5) := by unfold Hid ifKind; rw [if_pos hi]
   subst hi
   go_enter Tryz.func102, Tryz.ntmps102
   go_wp2_with fail
   go_ret
   exact ⟨ret_int HF.out.symm, xe⟩
 have hi1 : (i == 0) = false := beq_eq_false_iff_ne.2 hi
 rcases fstIx_cases (fun k => usesIf (t.links.getD k dLink) r i) t.links.length with ⟨h, -⟩ | ⟨k, hk, h, -⟩
 · have h : linkIdx t r i = -1 := h
   have HF : Hid (ifKind t r i = 0) := by unfold Hid ifKind; rw [if_neg hi, h]; rfl
   have HX := Lib.hid h; clear h
   go_enter Tryz.func102, Tryz.ntmps102
   go_wp2_with fail
   refine (impl_LinkIndex _ _ _ (t) _ (by exact Rt.out.ext xe)).mono ?_;rintro e w4 ⟨rfl, ew4⟩;rw [HX.out];go_wp2_with fail
   go_ret
   exact ⟨ret_int HF.out.symm, xe⟩
 · have h : linkIdx t r i = k := h
   have HX := Lib.hid h
   have HF : Hid (ifKind t r i = kindOf t.links[k] r i) := by
    unfold Hid ifKind;rw [if_neg hi, h, if_neg (by omega), Int.toNat_natCast, linkAt hk]
   clear h
   go_enter Tryz.func102, Tryz.ntmps102
   go_wp2_with fail
   first | refine name_wp ?_ ?_ ?_ | refine name_calls ?_ ?_ ?_
   exact (fun W => Ext w W ∧ Blk W (w.heap.size) 27 [.slice At_0 t.ases.length ct_0, .slice At_1 t.links.length ct_1]);exact ⟨xe, xb⟩;rintro w0 ⟨ew0, bt⟩;have lt := bt.lt;obtain ⟨pt_0, pt_1⟩ := blk2 bt;have Bt := Lib.hid bt; clear bt;refine (impl_LinkIndex _ _ _ (t) _ (by exact Rt.out.ext xe)).mono ?_;rintro e w4 ⟨rfl, ew4⟩;have bt := Bt.out.ext (w' := w4) xe;have lt := bt.lt;obtain ⟨pt_0, pt_1⟩ := blk2 bt;clear bt;rw [HX.out];obtain ⟨b, off, rfl, hb, hkl, hc⟩ := (St_1.out.ext (w' := w4) xe).at_ hk
   generalize t.links[k] = x at *
   obtain ⟨hx_0, hx_1, hx_2, hx_3, hx_4⟩ := hc
   have i0 : (0 : Int) ≤ (k : Int) := by omega
   have i1 : (k : Int) < (t.links.length : Int) := by omega
   by_cases k1 : x.kind = 1
   · have HG : Hid (kindOf x r i = 1) := by unfold Hid kindOf; rw [if_pos k1]
     go_wp2_with fail
     go_ret
     exact ⟨ret_int (by rw [HF.out, HG.out]), xe⟩
   have k1' : (x.kind == 1) = false := beq_eq_false_iff_ne.2 k1;by_cases k3 : x.kind = 3
   · have HG : Hid (kindOf x r i = 4) := by unfold Hid kindOf; rw [if_neg k1, if_pos k3]
     clear k1 k1';go_wp2_with fail
     go_ret
     exact ⟨ret_int (by rw [HF.out, HG.out]), xe⟩
   have k3' : (x.kind == 3) = false := beq_eq_false_iff_ne.2 k3;by_cases k2 : x.kind = 2
   · cases h1 : x.a == r <;> cases h2 : x.ai == i
     all_goals
      have HG := Lib.hid (show kindOf x r i = _ by unfold kindOf atA; rw [if_neg k1, if_neg k3, if_pos k2, h1, h2]);clear k1 k1' k3 k3';go_wp2_with fail
      go_ret
      exact ⟨ret_int (by rw [HF.out, HG.out]; rfl), xe⟩
   · have k2' : (x.kind == 2) = false := beq_eq_false_iff_ne.2 k2
     have k2'' : (x.kind != 2) = true := by simp [k2]
     have HG : Hid (kindOf x r i = 0) := by unfold Hid kindOf; rw [if_neg k1, if_neg k3, if_neg k2]
     clear k1 k2 k3;go_wp2_with fail
     go_ret
     exact ⟨ret_int (by rw [HF.out, HG.out]), xe⟩
theorem spec_InterfaceKind (vt : Value) (r i : Int) (t : DTopology) (w : World) (ht : TopologyV w.heap.size w vt t) :
 Calls Tryz.prog 81 #[vt, I r, I i] w fun e w' => e = .returned (I (ifKind t r i)) ∧ Ext w w' := by
 obtain ⟨At_0, nt_0, ct_0, At_1, nt_1, ct_1, rfl, st_0, st_1⟩ := id ht;obtain ⟨lt_0, kt_0, mt_0⟩ := st_0.len;subst lt_0;unfold maxLen at mt_0;obtain ⟨lt_1, kt_1, mt_1⟩ := st_1.len;subst lt_1;unfold maxLen at mt_1;have Rt := Lib.hid ht; clear ht;have St_0 := Lib.hid st_0; clear st_0;have St_1 := Lib.hid st_1; clear st_1;by_cases hi : i = 0
 · have HF : Hid (ifKind t r i = 5) := by unfold Hid ifKind; rw [if_pos hi]
   subst hi
   go_enter Tryz.func81, Tryz.ntmps81
   go_wp2_with fail
   go_ret
   exact ⟨ret_int HF.out.symm, xe⟩
 have hi1 : (i == 0) = false := beq_eq_false_iff_ne.2 hi
 rcases fstIx_cases (fun k => usesIf (t.links.getD k dLink) r i) t.links.length with ⟨h, -⟩ | ⟨k, hk, h, -⟩
 · have h : linkIdx t r i = -1 := h
   have HF : Hid (ifKind t r i = 0) := by unfold Hid ifKind; rw [if_neg hi, h]; rfl
   have HX := Lib.hid h; clear h
   go_enter Tryz.func81, Tryz.ntmps81
   go_wp2_with fail
   refine (spec_LinkIndex _ _ _ (t) _ (by exact Rt.out.ext xe)).mono ?_;rintro e w4 ⟨rfl, ew4⟩;rw [HX.out];go_wp2_with fail
   go_ret
   exact ⟨ret_int HF.out.symm, xe⟩
 · have h : linkIdx t r i = k := h
   have HX := Lib.hid h
   have HF : Hid (ifKind t r i = kindOf t.links[k] r i) := by
    unfold Hid ifKind;rw [if_neg hi, h, if_neg (by omega), Int.toNat_natCast, linkAt hk]
   clear h
   go_enter Tryz.func81, Tryz.ntmps81
   go_wp2_with fail
   first | refine name_wp ?_ ?_ ?_ | refine name_calls ?_ ?_ ?_
   exact (fun W => Ext w W ∧ Blk W (w.heap.size) 27 [.slice At_0 t.ases.length ct_0, .slice At_1 t.links.length ct_1]);exact ⟨xe, xb⟩;rintro w0 ⟨ew0, bt⟩;have lt := bt.lt;obtain ⟨pt_0, pt_1⟩ := blk2 bt;have Bt := Lib.hid bt; clear bt;refine (spec_LinkIndex _ _ _ (t) _ (by exact Rt.out.ext xe)).mono ?_;rintro e w4 ⟨rfl, ew4⟩;have bt := Bt.out.ext (w' := w4) xe;have lt := bt.lt;obtain ⟨pt_0, pt_1⟩ := blk2 bt;clear bt;rw [HX.out];obtain ⟨b, off, rfl, hb, hkl, hc⟩ := (St_1.out.ext (w' := w4) xe).at_ hk
   generalize t.links[k] = x at *
   obtain ⟨hx_0, hx_1, hx_2, hx_3, hx_4⟩ := hc
   have i0 : (0 : Int) ≤ (k : Int) := by omega
   have i1 : (k : Int) < (t.links.length : Int) := by omega
   by_cases k1 : x.kind = 1
   · have HG : Hid (kindOf x r i = 1) := by unfold Hid kindOf; rw [if_pos k1]
     go_wp2_with fail
     go_ret
     exact ⟨ret_int (by rw [HF.out, HG.out]), xe⟩
   have k1' : (x.kind == 1) = false := beq_eq_false_iff_ne.2 k1;by_cases k3 : x.kind = 3
   · have HG : Hid (kindOf x r i = 4) := by unfold Hid kindOf; rw [if_neg k1, if_pos k3]
     clear k1 k1';go_wp2_with fail
     go_ret
     exact ⟨ret_int (by rw [HF.out, HG.out]), xe⟩
   have k3' : (x.kind == 3) = false := beq_eq_false_iff_ne.2 k3;by_cases k2 : x.kind = 2
   · cases h1 : x.a == r <;> cases h2 : x.ai == i
     all_goals
      have HG := Lib.hid (show kindOf x r i = _ by unfold kindOf atA; rw [if_neg k1, if_neg k3, if_pos k2, h1, h2]);clear k1 k1' k3 k3';go_wp2_with fail
      go_ret
      exact ⟨ret_int (by rw [HF.out, HG.out]; rfl), xe⟩
   · have k2' : (x.kind == 2) = false := beq_eq_false_iff_ne.2 k2
     have k2'' : (x.kind != 2) = true := by simp [k2]
     have HG : Hid (kindOf x r i = 0) := by unfold Hid kindOf; rw [if_neg k1, if_neg k3, if_neg k2]
     clear k1 k2 k3;go_wp2_with fail
     go_ret
     exact ⟨ret_int (by rw [HF.out, HG.out]), xe⟩
def kindOk (a b : DAS) (k : Int) : Bool := if k = 1 then a.core && b.core else if k = 2 then a.isd == b.isd && !b.core else if k = 3 then !a.core && !b.core else false
def linkOk (t : DTopology) (l : DLink) : Bool := isAs t l.a && (isAs t l.b && (decide (l.a < l.b) && (inR l.ai 1 6 && (inR l.bi 1 6 && kindOk (asAt t l.a) (asAt t l.b) l.kind))))
theorem spec_l5LinkOk (vt : Value) (l : DLink) (t : DTopology) (w : World) (ht : TopologyV w.heap.size w vt t) :
 Calls Tryz.prog 110 #[vt, .agg #[I l.a, I l.ai, I l.b, I l.bi, I l.kind]] w fun e w' => e = .returned (.bool (linkOk t l)) ∧ Ext w w' := by
 obtain ⟨At_0, nt_0, ct_0, At_1, nt_1, ct_1, rfl, st_0, st_1⟩ := id ht;obtain ⟨lt_0, kt_0, mt_0⟩ := st_0.len;subst lt_0;unfold maxLen at mt_0;obtain ⟨lt_1, kt_1, mt_1⟩ := st_1.len;subst lt_1;unfold maxLen at mt_1;have Rt := Lib.hid ht; clear ht;have St_0 := Lib.hid st_0; clear st_0;have St_1 := Lib.hid st_1; clear st_1
 go_enter Tryz.func110, Tryz.ntmps110
 go_wp2_with fail
 first | refine name_wp ?_ ?_ ?_ | refine name_calls ?_ ?_ ?_
 exact (fun W => Ext w W ∧ Blk W (w.heap.size) 27 [.slice At_0 t.ases.length ct_0, .slice At_1 t.links.length ct_1] ∧ Blk W (w.heap.size + 1) 125 [I l.a, I l.ai, I l.b, I l.bi, I l.kind]);exact ⟨xe, xb, xb⟩;rintro w0 ⟨ew0, bt, bl⟩;have lt := bt.lt;obtain ⟨pt_0, pt_1⟩ := blk2 bt;have Bt := Lib.hid bt; clear bt;have ll := bl.lt;obtain ⟨pl_0, pl_1, pl_2, pl_3, pl_4⟩ := blk5 bl;have Bl := Lib.hid bl; clear bl;refine (spec_l5Realm _ _ (t) _ (by exact Rt.out.ext xe)).mono ?_;rintro e w1 ⟨rfl, ew1⟩;have bt := Bt.out.ext (w' := w1) xe;have lt := bt.lt;obtain ⟨pt_0, pt_1⟩ := blk2 bt;clear bt;have bl := Bl.out.ext (w' := w1) xe;have ll := bl.lt;obtain ⟨pl_0, pl_1, pl_2, pl_3, pl_4⟩ := blk5 bl;clear bl;cases h1 : isAs t l.a
 · go_wp2_with fail
   go_ret
   exact ⟨ret_bool (by simp [linkOk, h1]), xe⟩
 go_wp2_with fail
 refine (spec_l5Realm _ _ (t) _ (by exact Rt.out.ext xe)).mono ?_;rintro e w2 ⟨rfl, ew2⟩;have bt := Bt.out.ext (w' := w2) xe;have lt := bt.lt;obtain ⟨pt_0, pt_1⟩ := blk2 bt;clear bt;have bl := Bl.out.ext (w' := w2) xe;have ll := bl.lt;obtain ⟨pl_0, pl_1, pl_2, pl_3, pl_4⟩ := blk5 bl;clear bl;cases h2 : isAs t l.b
 · go_wp2_with fail
   go_ret
   exact ⟨ret_bool (by simp [linkOk, h2]), xe⟩
 by_cases h3 : l.b ≤ l.a
 · have d3 : decide (l.b ≤ l.a) = true := decide_eq_true h3
   go_wp2_with fail
   go_ret
   exact ⟨ret_bool (by simp [linkOk]; omega), xe⟩
 have d3 : decide (l.b ≤ l.a) = false := decide_eq_false h3;go_wp2_with fail
 refine (spec_l1In _ _ _ _).mono ?_;rintro e w3 ⟨rfl, rfl⟩;cases h4 : inR l.ai 1 6
 · go_wp2_with fail
   go_ret
   exact ⟨ret_bool (by simp [linkOk, h4]), xe⟩
 go_wp2_with fail
 refine (spec_l1In _ _ _ _).mono ?_;rintro e w3 ⟨rfl, rfl⟩;cases h5 : inR l.bi 1 6
 · go_wp2_with fail
   go_ret
   exact ⟨ret_bool (by simp [linkOk, h5]), xe⟩
 have HF : Hid (linkOk t l = kindOk (asAt t l.a) (asAt t l.b) l.kind) := by unfold Hid linkOk; rw [h1, h2, h4, h5, decide_eq_true (by omega)]; rfl
 obtain ⟨ka, ea, hka⟩ := isAs_nat h1;obtain ⟨kb, eb, hkb⟩ := isAs_nat h2;rw [ea, eb, asAt_nat t ka hka, asAt_nat t kb hkb] at HF;clear h1 h2 h3 d3 h4 h5;obtain ⟨b, off, rfl, hb, hk1, hc⟩ := (St_0.out.ext (w' := w2) xe).at_ hka;obtain ⟨b2, off2, hA2, hb2, hk2, hc2⟩ := (St_0.out.ext (w' := w2) xe).at_ hkb;cases hA2
 generalize t.ases[ka] = x at *
 generalize t.ases[kb] = y at *
 obtain ⟨x0, x1, x2⟩ := hc;obtain ⟨y0, y1, y2⟩ := hc2
 have i0 : (0 : Int) ≤ (ka : Int) := by omega
 have i1 : (ka : Int) < (t.ases.length : Int) := by omega
 have i2 : (0 : Int) ≤ (kb : Int) := by omega
 have i3 : (kb : Int) < (t.ases.length : Int) := by omega
 skip
 all_goals
  by_cases q1 : l.kind = 1
  · have d1 : (l.kind == 1) = true := by simp [q1]
    have HG : Hid (linkOk t l = (x.core && y.core)) := by unfold Hid; rw [HF.out]; simp [kindOk, q1]
    cases hx : x.core
    all_goals
     go_wp2_with fail
     go_ret
     exact ⟨ret_bool (by rw [HG.out, hx]; rfl), xe⟩
  by_cases q2 : l.kind = 2
  · have d1 : (l.kind == 1) = false := beq_eq_false_iff_ne.2 q1
    have d2 : (l.kind == 2) = true := by simp [q2]
    have HG : Hid (linkOk t l = (x.isd == y.isd && !y.core)) := by unfold Hid; rw [HF.out]; simp [kindOk, q2]
    cases hx : x.isd == y.isd
    all_goals
     go_wp2_with fail
     go_ret
     exact ⟨ret_bool (by rw [HG.out, hx]; rfl), xe⟩
  have d1 : (l.kind == 1) = false := beq_eq_false_iff_ne.2 q1;have d2 : (l.kind == 2) = false := beq_eq_false_iff_ne.2 q2;by_cases q3 : l.kind = 3
  · have d3 : (l.kind == 3) = true := by simp [q3]
    have HG : Hid (linkOk t l = (!x.core && !y.core)) := by unfold Hid; rw [HF.out]; simp [kindOk, q3]
    cases hx : x.core
    all_goals
     go_wp2_with fail
     go_ret
     exact ⟨ret_bool (by rw [HG.out, hx]; rfl), xe⟩
  · have d3 : (l.kind == 3) = false := beq_eq_false_iff_ne.2 q3
    have HG : Hid (linkOk t l = false) := by unfold Hid; rw [HF.out]; simp [kindOk, q1, q2, q3]
    go_wp2_with fail
    go_ret
    exact ⟨ret_bool (by rw [HG.out]), xe⟩
end Go.Proofs.YtmopmgaeiokfjaaGreat
