/- Contracts of the program's and the reference's functions on signatures over a topology: VerifySignature, SignAs. -/
import Derived.Test.YtpfioedfpihbdaaL17
import Derived.Test.YtpfioedfpihbdaaL05
import Derived.Deep.RegionWith
namespace Go.Proofs.Ytpfioedfpihbdaa
open Go.RowKit
set_option linter.unusedVariables false
def verifySig (t : DTopology) (v : DSignature) (l : List Int) : Bool := isAs t v.asn && v.value == sign (asAt t v.asn).key l
def signAs (t : DTopology) (r : Int) (l : List Int) : DSignature := if isAs t r then ⟨r, sign (asAt t r).key l⟩ else ⟨-1, 0⟩
set_option maxRecDepth 100000 in
set_option maxHeartbeats 1000000 in
theorem impl_VerifySignature (vt : Value) (s : DSignature) (vl : Value) (t : DTopology) (l : List Int) (w : World) (ht : TopologyV w.heap.size w vt t) (hl : IntS w.heap.size w vl l) (hn : l.length ≤ 100000000) :
    Calls Try.prog 108 #[vt, .agg #[I s.asn, I s.value], vl] w fun e w' => e = .returned (.bool (verifySig t s l)) ∧ Ext w w' := by
  obtain ⟨A0, n0, c0, A1, n1, c1, rfl, s0, s1⟩ := ht
  obtain ⟨hl0, _, hm0⟩ := s0.len
  subst hl0
  unfold maxLen at hm0
  have S0 := Lib.hid s0; have S1 := Lib.hid s1; have HL := Lib.hid hl; clear s0 s1 hl
  go_enter Try.func108, Try.ntmps108
  go_wp2_with fail
  have bt : Blk ((w.alloc (.cells #[.slice A0 t.ases.length c0, .slice A1 n1 c1] 46)).alloc (.cells #[I s.asn, I s.value] 48)) w.heap.size 46 [.slice A0 t.ases.length c0, .slice A1 n1 c1] := (Blk.new w _ _).alloc _
  have bv : Blk ((w.alloc (.cells #[.slice A0 t.ases.length c0, .slice A1 n1 c1] 46)).alloc (.cells #[I s.asn, I s.value] 48)) (w.heap.size + 1) 48 [I s.asn, I s.value] := by simpa using Blk.new (w.alloc (.cells #[.slice A0 t.ases.length c0, .slice A1 n1 c1] 46)) 48 [I s.asn, I s.value]
  have ew : Ext w ((w.alloc (.cells #[.slice A0 t.ases.length c0, .slice A1 n1 c1] 46)).alloc (.cells #[I s.asn, I s.value] 48)) := ((Ext.refl _).alloc _).alloc _
  generalize (w.alloc (.cells #[.slice A0 t.ases.length c0, .slice A1 n1 c1] 46)).alloc (.cells #[I s.asn, I s.value] 48) = w0 at *
  have lt0 := bt.lt
  have lt1 := bv.lt
  obtain ⟨p0, p1⟩ := blk2 bt
  obtain ⟨q0, q1⟩ := blk2 bv
  have EW := Lib.hid ew; clear bt bv
  cases hv : isAs t s.asn
  · have HV := Lib.hid hv
    have HF : Hid (verifySig t s l = false) := by unfold Hid; simp [verifySig, hv]
    clear hv
    refine wp_region_ext (w0 := w0) (by kernel_rfl) (by kernel_rfl) (by exact Ext.refl _) ?_
    repeat (first
      | go_big_quiet_skip
      | (go_big_quiet_want
         apply Exists.intro
         refine ⟨fun W hW => ?_, ?_⟩
         · have hS := (Ext.facts hW).1
           go_simp
           first | done | (go_at_call 112; refine (impl_isAS _ _ t _ (by exact ⟨_, _, _, _, _, _, rfl, S0.out.ext (EW.out.trans hW), S1.out.ext (EW.out.trans hW)⟩)).mono ?_; rintro e w1 ⟨rfl, e1⟩; exact ⟨by rw [HV.out], hW.trans e1⟩) | (with_reducible rfl)
         simp only [Act.put, List.setIfInBounds_toArray, List.set_cons_zero, List.set_cons_succ]
         go_big_quiet_on))
    refine wpQuiet_nil ?_
    intro w1 e1
    go_wp2_with fail
    go_ret
    exact ⟨ret_bool HF.out.symm, EW.out.trans e1⟩
  · have HV := Lib.hid hv
    obtain ⟨i0, i1⟩ := inR_iff.1 hv
    obtain ⟨k, hk⟩ := Int.eq_ofNat_of_zero_le i0
    have hkl : k < t.ases.length := by omega
    obtain ⟨b, off, rfl, hb, hkk, hc⟩ := (S0.out.ext ew).at_ hkl
    have HF : Hid (verifySig t s l = (s.value == sign (t.ases[k]).key l)) := by unfold Hid; rw [verifySig, hv, hk, asAt_nat t k hkk]; simp
    generalize t.ases[k] = y at *
    obtain ⟨h0, h1, h2⟩ := hc
    have hk' : s.asn = (k : Int) := hk
    generalize s.asn = sa at *
    subst hk'
    clear hv hk
    go_region_held3 (fun W => w0.heap.size ≤ W.heap.size ∧ ∀ b o, b < w0.heap.size → W.cell? ⟨b, o, none⟩ = w0.cell? ⟨b, o, none⟩)
      (first | exact ⟨Nat.le_refl _, fun _ _ _ => rfl⟩ | exact keepC (by assumption) e2 | exact keepC (by assumption) e1)
      (first | (go_at_call 112; refine (impl_isAS _ _ t _ (by exact ⟨_, _, _, _, _, _, rfl, S0.out.ext (by repeat (first | (with_reducible exact Ext.refl _) | (with_reducible assumption) | (with_reducible refine Ext.alloc ?_ _) | (with_reducible refine Ext.drew ?_) | (with_reducible refine Ext.drewN ?_ _) | (with_reducible refine Ext.setCell (p := _) ?_ ?ge _; case ge => (dsimp only; omega)) | (with_reducible refine Ext.trans ?_ (by with_reducible assumption)))), S1.out.ext (by repeat (first | (with_reducible exact Ext.refl _) | (with_reducible assumption) | (with_reducible refine Ext.alloc ?_ _) | (with_reducible refine Ext.drew ?_) | (with_reducible refine Ext.drewN ?_ _) | (with_reducible refine Ext.setCell (p := _) ?_ ?ge _; case ge => (dsimp only; omega)) | (with_reducible refine Ext.trans ?_ (by with_reducible assumption))))⟩)).mono ?_; rintro e w1 ⟨rfl, e1⟩; rw [HV.out]) | (go_at_call 113; refine (impl_Sign _ _ l _ (by exact HL.out.ext (by repeat (first | (with_reducible exact Ext.refl _) | (with_reducible assumption) | (with_reducible refine Ext.alloc ?_ _) | (with_reducible refine Ext.drew ?_) | (with_reducible refine Ext.drewN ?_ _) | (with_reducible refine Ext.setCell (p := _) ?_ ?ge _; case ge => (dsimp only; omega)) | (with_reducible refine Ext.trans ?_ (by with_reducible assumption))))) (by omega)).mono ?_; rintro e w2 ⟨rfl, e2⟩))
    go_wp2_with fail
    go_ret
    exact ⟨ret_bool HF.out.symm, ((EW.out.drew).trans e1).trans e2⟩
set_option maxRecDepth 100000 in
set_option maxHeartbeats 1000000 in
theorem spec_VerifySignature (vt : Value) (s : DSignature) (vl : Value) (t : DTopology) (l : List Int) (w : World) (ht : TopologyV w.heap.size w vt t) (hl : IntS w.heap.size w vl l) (hn : l.length ≤ 100000000) :
    Calls Try.prog 106 #[vt, .agg #[I s.asn, I s.value], vl] w fun e w' => e = .returned (.bool (verifySig t s l)) ∧ Ext w w' := by
  obtain ⟨A0, n0, c0, A1, n1, c1, rfl, s0, s1⟩ := ht
  obtain ⟨hl0, _, hm0⟩ := s0.len
  subst hl0
  unfold maxLen at hm0
  have S0 := Lib.hid s0; have S1 := Lib.hid s1; have HL := Lib.hid hl; clear s0 s1 hl
  go_enter Try.func106, Try.ntmps106
  go_wp2_with fail
  have bt : Blk ((w.alloc (.cells #[.slice A0 t.ases.length c0, .slice A1 n1 c1] 46)).alloc (.cells #[I s.asn, I s.value] 48)) w.heap.size 46 [.slice A0 t.ases.length c0, .slice A1 n1 c1] := (Blk.new w _ _).alloc _
  have bv : Blk ((w.alloc (.cells #[.slice A0 t.ases.length c0, .slice A1 n1 c1] 46)).alloc (.cells #[I s.asn, I s.value] 48)) (w.heap.size + 1) 48 [I s.asn, I s.value] := by simpa using Blk.new (w.alloc (.cells #[.slice A0 t.ases.length c0, .slice A1 n1 c1] 46)) 48 [I s.asn, I s.value]
  have ew : Ext w ((w.alloc (.cells #[.slice A0 t.ases.length c0, .slice A1 n1 c1] 46)).alloc (.cells #[I s.asn, I s.value] 48)) := ((Ext.refl _).alloc _).alloc _
  generalize (w.alloc (.cells #[.slice A0 t.ases.length c0, .slice A1 n1 c1] 46)).alloc (.cells #[I s.asn, I s.value] 48) = w0 at *
  have lt0 := bt.lt
  have lt1 := bv.lt
  obtain ⟨p0, p1⟩ := blk2 bt
  obtain ⟨q0, q1⟩ := blk2 bv
  have EW := Lib.hid ew; clear bt bv
  cases hv : isAs t s.asn
  · have HV := Lib.hid hv
    have HF : Hid (verifySig t s l = false) := by unfold Hid; simp [verifySig, hv]
    clear hv
    refine wp_region_ext (w0 := w0) (by kernel_rfl) (by kernel_rfl) (by exact Ext.refl _) ?_
    repeat (first
      | go_big_quiet_skip
      | (go_big_quiet_want
         apply Exists.intro
         refine ⟨fun W hW => ?_, ?_⟩
         · have hS := (Ext.facts hW).1
           go_simp
           first | done | (go_at_call 110; refine (spec_l5Realm _ _ t _ (by exact ⟨_, _, _, _, _, _, rfl, S0.out.ext (EW.out.trans hW), S1.out.ext (EW.out.trans hW)⟩)).mono ?_; rintro e w1 ⟨rfl, e1⟩; exact ⟨by rw [HV.out], hW.trans e1⟩) | (with_reducible rfl)
         simp only [Act.put, List.setIfInBounds_toArray, List.set_cons_zero, List.set_cons_succ]
         go_big_quiet_on))
    refine wpQuiet_nil ?_
    intro w1 e1
    go_wp2_with fail
    go_ret
    exact ⟨ret_bool HF.out.symm, EW.out.trans e1⟩
  · have HV := Lib.hid hv
    obtain ⟨i0, i1⟩ := inR_iff.1 hv
    obtain ⟨k, hk⟩ := Int.eq_ofNat_of_zero_le i0
    have hkl : k < t.ases.length := by omega
    obtain ⟨b, off, rfl, hb, hkk, hc⟩ := (S0.out.ext ew).at_ hkl
    have HF : Hid (verifySig t s l = (s.value == sign (t.ases[k]).key l)) := by unfold Hid; rw [verifySig, hv, hk, asAt_nat t k hkk]; simp
    generalize t.ases[k] = y at *
    obtain ⟨h0, h1, h2⟩ := hc
    have hk' : s.asn = (k : Int) := hk
    generalize s.asn = sa at *
    subst hk'
    clear hv hk
    go_region_held3 (fun W => w0.heap.size ≤ W.heap.size ∧ ∀ b o, b < w0.heap.size → W.cell? ⟨b, o, none⟩ = w0.cell? ⟨b, o, none⟩)
      (first | exact ⟨Nat.le_refl _, fun _ _ _ => rfl⟩ | exact keepC (by assumption) e2 | exact keepC (by assumption) e1)
      (first | (go_at_call 110; refine (spec_l5Realm _ _ t _ (by exact ⟨_, _, _, _, _, _, rfl, S0.out.ext (by repeat (first | (with_reducible exact Ext.refl _) | (with_reducible assumption) | (with_reducible refine Ext.alloc ?_ _) | (with_reducible refine Ext.drew ?_) | (with_reducible refine Ext.drewN ?_ _) | (with_reducible refine Ext.setCell (p := _) ?_ ?ge _; case ge => (dsimp only; omega)) | (with_reducible refine Ext.trans ?_ (by with_reducible assumption)))), S1.out.ext (by repeat (first | (with_reducible exact Ext.refl _) | (with_reducible assumption) | (with_reducible refine Ext.alloc ?_ _) | (with_reducible refine Ext.drew ?_) | (with_reducible refine Ext.drewN ?_ _) | (with_reducible refine Ext.setCell (p := _) ?_ ?ge _; case ge => (dsimp only; omega)) | (with_reducible refine Ext.trans ?_ (by with_reducible assumption))))⟩)).mono ?_; rintro e w1 ⟨rfl, e1⟩; rw [HV.out]) | (go_at_call 111; refine (spec_Sign _ _ l _ (by exact HL.out.ext (by repeat (first | (with_reducible exact Ext.refl _) | (with_reducible assumption) | (with_reducible refine Ext.alloc ?_ _) | (with_reducible refine Ext.drew ?_) | (with_reducible refine Ext.drewN ?_ _) | (with_reducible refine Ext.setCell (p := _) ?_ ?ge _; case ge => (dsimp only; omega)) | (with_reducible refine Ext.trans ?_ (by with_reducible assumption))))) (by omega)).mono ?_; rintro e w2 ⟨rfl, e2⟩))
    go_wp2_with fail
    go_ret
    exact ⟨ret_bool HF.out.symm, ((EW.out.drew).trans e1).trans e2⟩
end Go.Proofs.Ytpfioedfpihbdaa
