/- Contracts of the program's and the reference's functions on signatures: EqualSignatures, AddSignature. -/
import Derived.Test.YtddaodemdkjijaaGreatGL0
import Derived.Test.YtddaodemdkjijaaGreatGHR
import Derived.Test.YtddaodemdkjijaaGreatGL5
import Derived.Deep.RegionWith
import Derived.Test.YtddaodemdkjijaaGreatGL9
import Derived.Test.YtddaodemdkjijaaGreatGHS
namespace Go.Proofs.YtddaodemdkjijaaGreat
open Go.RowKit
set_option linter.unusedVariables false
/-- A signature added: in the place of the first one of its AS, or at the end. -/
def addSig : List DSignature → DSignature → List DSignature
  | [], x => [x]
  | y :: ys, x => if y.asn = x.asn then x :: ys else y :: addSig ys x
theorem addSig_drop_yes (xs : List DSignature) (x : DSignature) (k : Nat) (h : k < xs.length) (he : xs[k].asn = x.asn) : addSig (xs.drop k) x = x :: xs.drop (k + 1) := by
  rw [List.drop_eq_getElem_cons h, addSig, if_pos he]
theorem addSig_drop_no (xs : List DSignature) (x : DSignature) (k : Nat) (h : k < xs.length) (he : ¬ xs[k].asn = x.asn) : addSig (xs.drop k) x = xs[k] :: addSig (xs.drop (k + 1)) x := by
  rw [List.drop_eq_getElem_cons h, addSig, if_neg he]
theorem addSig_len (xs : List DSignature) (x : DSignature) : (addSig xs x).length ≤ xs.length + 1 := by
  induction xs with
  | nil => simp [addSig]
  | cons y ys ih => simp only [addSig]; split <;> simp <;> omega
end Go.Proofs.YtddaodemdkjijaaGreat
namespace Go.Proofs.YtddaodemdkjijaaGreat
open Go.RowKit
set_option linter.unusedVariables false
def verifySig (t : DTopology) (v : DSignature) (l : List Int) : Bool := isAs t v.asn && v.value == sign (asAt t v.asn).key l
def signAs (t : DTopology) (r : Int) (l : List Int) : DSignature := if isAs t r then ⟨r, sign (asAt t r).key l⟩ else ⟨-1, 0⟩
set_option maxRecDepth 100000 in
set_option maxHeartbeats 1000000 in
theorem impl_VerifySignature (vt : Value) (s : DSignature) (vl : Value) (t : DTopology) (l : List Int) (w : World) (ht : TopologyV w.heap.size w vt t) (hl : IntS w.heap.size w vl l) (hn : l.length ≤ 100000000) :
    Calls Tryz.prog 36 #[vt, .agg #[I s.asn, I s.value], vl] w fun e w' => e = .returned (.bool (verifySig t s l)) ∧ Ext w w' := by
  obtain ⟨A0, n0, c0, A1, n1, c1, rfl, s0, s1⟩ := ht
  obtain ⟨hl0, _, hm0⟩ := s0.len
  subst hl0
  unfold maxLen at hm0
  have S0 := Lib.hid s0; have S1 := Lib.hid s1; have HL := Lib.hid hl; clear s0 s1 hl
  go_enter Tryz.func36, Tryz.ntmps36
  go_wp2_with fail
  have bt : Blk ((w.alloc (.cells #[.slice A0 t.ases.length c0, .slice A1 n1 c1] 27)).alloc (.cells #[I s.asn, I s.value] 76)) w.heap.size 27 [.slice A0 t.ases.length c0, .slice A1 n1 c1] := (Blk.new w _ _).alloc _
  have bv : Blk ((w.alloc (.cells #[.slice A0 t.ases.length c0, .slice A1 n1 c1] 27)).alloc (.cells #[I s.asn, I s.value] 76)) (w.heap.size + 1) 76 [I s.asn, I s.value] := by simpa using Blk.new (w.alloc (.cells #[.slice A0 t.ases.length c0, .slice A1 n1 c1] 27)) 76 [I s.asn, I s.value]
  have ew : Ext w ((w.alloc (.cells #[.slice A0 t.ases.length c0, .slice A1 n1 c1] 27)).alloc (.cells #[I s.asn, I s.value] 76)) := ((Ext.refl _).alloc _).alloc _
  generalize (w.alloc (.cells #[.slice A0 t.ases.length c0, .slice A1 n1 c1] 27)).alloc (.cells #[I s.asn, I s.value] 76) = w0 at *
  have lt0 := bt.lt
  have lt1 := bv.lt
  obtain ⟨p0, p1⟩ := blk2 bt
  obtain ⟨q0, q1⟩ := blk2 bv
  have EW := Lib.hid ew; clear bt bv
  cases hv : isAs t s.asn
  · have HV := Lib.hid hv
    have HF : Hid (verifySig t s l = false) := by unfold Hid; simp [verifySig, hv]
    clear hv
    refine wp_region_ext (w0 := w0) (by kernel_rfl) (by kernel_rfl) (by exact Ext.refl _) ?_
    repeat (first
      | go_big_quiet_skip
      | (go_big_quiet_want
         apply Exists.intro
         refine ⟨fun W hW => ?_, ?_⟩
         · have hS := (Ext.facts hW).1
           go_simp
           first | done | (go_at_call 77; refine (impl_isAS _ _ t _ (by exact ⟨_, _, _, _, _, _, rfl, S0.out.ext (EW.out.trans hW), S1.out.ext (EW.out.trans hW)⟩)).mono ?_; rintro e w1 ⟨rfl, e1⟩; exact ⟨by rw [HV.out], hW.trans e1⟩) | (with_reducible rfl)
         simp only [Act.put, List.setIfInBounds_toArray, List.set_cons_zero, List.set_cons_succ]
         go_big_quiet_on))
    refine wpQuiet_nil ?_
    intro w1 e1
    go_wp2_with fail
    go_ret
    exact ⟨ret_bool HF.out.symm, EW.out.trans e1⟩
  · have HV := Lib.hid hv
    obtain ⟨i0, i1⟩ := inR_iff.1 hv
    obtain ⟨k, hk⟩ := Int.eq_ofNat_of_zero_le i0
    have hkl : k < t.ases.length := by omega
    obtain ⟨b, off, rfl, hb, hkk, hc⟩ := (S0.out.ext ew).at_ hkl
    have HF : Hid (verifySig t s l = (s.value == sign (t.ases[k]).key l)) := by unfold Hid; rw [verifySig, hv, hk, asAt_nat t k hkk]; simp
    generalize t.ases[k] = y at *
    obtain ⟨h0, h1, h2⟩ := hc
    have hk' : s.asn = (k : Int) := hk
    generalize s.asn = sa at *
    subst hk'
    clear hv hk
    go_region_held3 (fun W => w0.heap.size ≤ W.heap.size ∧ ∀ b o, b < w0.heap.size → W.cell? ⟨b, o, none⟩ = w0.cell? ⟨b, o, none⟩)
      (first | exact ⟨Nat.le_refl _, fun _ _ _ => rfl⟩ | exact keepC (by assumption) e2 | exact keepC (by assumption) e1)
      (first | (go_at_call 77; refine (impl_isAS _ _ t _ (by exact ⟨_, _, _, _, _, _, rfl, S0.out.ext xe, S1.out.ext xe⟩)).mono ?_; rintro e w1 ⟨rfl, e1⟩; rw [HV.out]) | (go_at_call 78; refine (impl_Sign _ _ l _ (by exact HL.out.ext xe) (by omega)).mono ?_; rintro e w2 ⟨rfl, e2⟩))
    go_wp2_with fail
    go_ret
    exact ⟨ret_bool HF.out.symm, ((EW.out.drew).trans e1).trans e2⟩
set_option maxRecDepth 100000 in
set_option maxHeartbeats 1000000 in
theorem spec_VerifySignature (vt : Value) (s : DSignature) (vl : Value) (t : DTopology) (l : List Int) (w : World) (ht : TopologyV w.heap.size w vt t) (hl : IntS w.heap.size w vl l) (hn : l.length ≤ 100000000) :
    Calls Tryz.prog 64 #[vt, .agg #[I s.asn, I s.value], vl] w fun e w' => e = .returned (.bool (verifySig t s l)) ∧ Ext w w' := by
  obtain ⟨A0, n0, c0, A1, n1, c1, rfl, s0, s1⟩ := ht
  obtain ⟨hl0, _, hm0⟩ := s0.len
  subst hl0
  unfold maxLen at hm0
  have S0 := Lib.hid s0; have S1 := Lib.hid s1; have HL := Lib.hid hl; clear s0 s1 hl
  go_enter Tryz.func64, Tryz.ntmps64
  go_wp2_with fail
  have bt : Blk ((w.alloc (.cells #[.slice A0 t.ases.length c0, .slice A1 n1 c1] 27)).alloc (.cells #[I s.asn, I s.value] 76)) w.heap.size 27 [.slice A0 t.ases.length c0, .slice A1 n1 c1] := (Blk.new w _ _).alloc _
  have bv : Blk ((w.alloc (.cells #[.slice A0 t.ases.length c0, .slice A1 n1 c1] 27)).alloc (.cells #[I s.asn, I s.value] 76)) (w.heap.size + 1) 76 [I s.asn, I s.value] := by simpa using Blk.new (w.alloc (.cells #[.slice A0 t.ases.length c0, .slice A1 n1 c1] 27)) 76 [I s.asn, I s.value]
  have ew : Ext w ((w.alloc (.cells #[.slice A0 t.ases.length c0, .slice A1 n1 c1] 27)).alloc (.cells #[I s.asn, I s.value] 76)) := ((Ext.refl _).alloc _).alloc _
  generalize (w.alloc (.cells #[.slice A0 t.ases.length c0, .slice A1 n1 c1] 27)).alloc (.cells #[I s.asn, I s.value] 76) = w0 at *
  have lt0 := bt.lt
  have lt1 := bv.lt
  obtain ⟨p0, p1⟩ := blk2 bt
  obtain ⟨q0, q1⟩ := blk2 bv
  have EW := Lib.hid ew; clear bt bv
  cases hv : isAs t s.asn
  · have HV := Lib.hid hv
    have HF : Hid (verifySig t s l = false) := by unfold Hid; simp [verifySig, hv]
    clear hv
    refine wp_region_ext (w0 := w0) (by kernel_rfl) (by kernel_rfl) (by exact Ext.refl _) ?_
    repeat (first
      | go_big_quiet_skip
      | (go_big_quiet_want
         apply Exists.intro
         refine ⟨fun W hW => ?_, ?_⟩
         · have hS := (Ext.facts hW).1
           go_simp
           first | done | (go_at_call 44; refine (spec_l5Realm _ _ t _ (by exact ⟨_, _, _, _, _, _, rfl, S0.out.ext (EW.out.trans hW), S1.out.ext (EW.out.trans hW)⟩)).mono ?_; rintro e w1 ⟨rfl, e1⟩; exact ⟨by rw [HV.out], hW.trans e1⟩) | (with_reducible rfl)
         simp only [Act.put, List.setIfInBounds_toArray, List.set_cons_zero, List.set_cons_succ]
         go_big_quiet_on))
    refine wpQuiet_nil ?_
    intro w1 e1
    go_wp2_with fail
    go_ret
    exact ⟨ret_bool HF.out.symm, EW.out.trans e1⟩
  · have HV := Lib.hid hv
    obtain ⟨i0, i1⟩ := inR_iff.1 hv
    obtain ⟨k, hk⟩ := Int.eq_ofNat_of_zero_le i0
    have hkl : k < t.ases.length := by omega
    obtain ⟨b, off, rfl, hb, hkk, hc⟩ := (S0.out.ext ew).at_ hkl
    have HF : Hid (verifySig t s l = (s.value == sign (t.ases[k]).key l)) := by unfold Hid; rw [verifySig, hv, hk, asAt_nat t k hkk]; simp
    generalize t.ases[k] = y at *
    obtain ⟨h0, h1, h2⟩ := hc
    have hk' : s.asn = (k : Int) := hk
    generalize s.asn = sa at *
    subst hk'
    clear hv hk
    go_region_held3 (fun W => w0.heap.size ≤ W.heap.size ∧ ∀ b o, b < w0.heap.size → W.cell? ⟨b, o, none⟩ = w0.cell? ⟨b, o, none⟩)
      (first | exact ⟨Nat.le_refl _, fun _ _ _ => rfl⟩ | exact keepC (by assumption) e2 | exact keepC (by assumption) e1)
      (first | (go_at_call 44; refine (spec_l5Realm _ _ t _ (by exact ⟨_, _, _, _, _, _, rfl, S0.out.ext xe, S1.out.ext xe⟩)).mono ?_; rintro e w1 ⟨rfl, e1⟩; rw [HV.out]) | (go_at_call 45; refine (spec_Sign _ _ l _ (by exact HL.out.ext xe) (by omega)).mono ?_; rintro e w2 ⟨rfl, e2⟩))
    go_wp2_with fail
    go_ret
    exact ⟨ret_bool HF.out.symm, ((EW.out.drew).trans e1).trans e2⟩
set_option maxRecDepth 100000 in
set_option maxHeartbeats 1000000 in
theorem spec_SignAs (vt : Value) (r : Int) (vl : Value) (t : DTopology) (l : List Int) (w : World) (ht : TopologyV w.heap.size w vt t) (hl : IntS w.heap.size w vl l) (hn : l.length ≤ 100000000) :
    Calls Tryz.prog 87 #[vt, I r, vl] w fun e w' => e = .returned (.agg #[I (signAs t r l).asn, I (signAs t r l).value]) ∧ Ext w w' := by
  obtain ⟨A0, n0, c0, A1, n1, c1, rfl, s0, s1⟩ := ht
  obtain ⟨hl0, _, hm0⟩ := s0.len
  subst hl0
  unfold maxLen at hm0
  have S0 := Lib.hid s0; have S1 := Lib.hid s1; have HL := Lib.hid hl; clear s0 s1 hl
  cases hv : isAs t r
  · have HV := Lib.hid hv
    have HF : Hid (signAs t r l = ⟨-1, 0⟩) := by unfold Hid; simp [signAs, hv]
    clear hv
    go_enter Tryz.func87, Tryz.ntmps87
    go_wp2_with fail
    refine (spec_l5Realm _ _ t _ (by exact ⟨_, _, _, _, _, _, rfl, S0.out.ext xe, S1.out.ext xe⟩)).mono ?_
    rintro e w1 ⟨rfl, e1⟩
    rw [HV.out]
    obtain ⟨hc1, hf1, hz1⟩ := e1.facts
    simp only [World.size_alloc] at hc1 hf1 hz1
    have la : w.heap.size < w1.heap.size := by omega
    have lb : w.heap.size + 1 < w1.heap.size := by omega
    go_wp2_with fail
    rw [HF.out]
    refine bodyPost_ret (v := .agg #[I (-1), I 0]) (by simp [results, Tryz.results87, go_sem, *]) rfl ⟨rfl, xe⟩
  · have HV := Lib.hid hv
    obtain ⟨i0, i1⟩ := inR_iff.1 hv
    obtain ⟨k, rfl⟩ := Int.eq_ofNat_of_zero_le i0
    have hkl : k < t.ases.length := by omega
    have HF : Hid (signAs t k l = ⟨k, sign (t.ases[k]).key l⟩) := by unfold Hid; rw [signAs, hv, asAt_nat t k hkl]; rfl
    clear hv
    go_enter Tryz.func87, Tryz.ntmps87
    go_wp2_with fail
    refine (spec_l5Realm _ _ t _ (by exact ⟨_, _, _, _, _, _, rfl, S0.out.ext xe, S1.out.ext xe⟩)).mono ?_
    rintro e w1 ⟨rfl, e1⟩
    rw [HV.out]
    obtain ⟨hc1, hf1, hz1⟩ := e1.facts
    simp only [World.size_alloc] at hc1 hf1 hz1
    have la : w.heap.size < w1.heap.size := by omega
    have lb : w.heap.size + 1 < w1.heap.size := by omega
    obtain ⟨b, off, rfl, hb, hkk, hc⟩ := (S0.out.ext (w' := w1) xe).at_ hkl
    generalize t.ases[k] = y at *
    obtain ⟨h0, h1, h2⟩ := hc
    go_wp2_with fail
    refine (spec_Sign _ _ l _ (by exact HL.out.ext xe) (by omega)).mono ?_
    rintro e w2 ⟨rfl, e2⟩
    obtain ⟨hc2, hf2, hz2⟩ := e2.facts
    have lc : w.heap.size + 1 < w2.heap.size := by omega
    go_wp2_with fail
    rw [HF.out]
    refine bodyPost_ret (v := .agg #[I k, I (sign y.key l)]) (by simp [results, Tryz.results87, go_sem, *]) rfl ⟨rfl, xe⟩
end Go.Proofs.YtddaodemdkjijaaGreat
namespace Go.Proofs.YtddaodemdkjijaaGreat
open Go.RowKit
set_option linter.unusedVariables false
def hopInts (h : DHop) : List Int := [h.asn, h.ing, h.egr, h.exp, h.mac]
def signedData (s : DSegment) (i : Int) : List Int := if inR i 0 s.hops.length then [s.ts, s.beta, i] ++ (s.hops.take i.toNat).flatMap hopInts else []
theorem hopInts_len (l : List DHop) : (l.flatMap hopInts).length = l.length * 5 := by
  induction l with
  | nil => rfl
  | cons h l ih => rw [List.flatMap_cons, List.length_append, ih, List.length_cons]; simp [hopInts]; omega
theorem signedData_len (s : DSegment) (i : Int) : (signedData s i).length ≤ 3 + 5 * s.hops.length := by
  unfold signedData
  split
  · have h := hopInts_len (s.hops.take i.toNat)
    have h2 : (s.hops.take i.toNat).length ≤ s.hops.length := by rw [List.length_take]; omega
    rw [List.length_append, h]
    simp
    omega
  · simp
theorem hopInts_snoc (l : List DHop) (k : Nat) (h : k < l.length) : (l.take (k + 1)).flatMap hopInts = (l.take k).flatMap hopInts ++ hopInts l[k] := by
  rw [take_snoc l k h, List.flatMap_append]
  simp
set_option maxRecDepth 100000 in
set_option maxHeartbeats 1000000 in
theorem impl_hopInts (h : DHop) (w : World) : Calls Tryz.prog 79 #[.agg #[I h.asn, I h.ing, I h.egr, I h.exp, I h.mac]] w fun e w' => ∃ v', e = .returned v' ∧ IntSO w.heap.size w'.heap.size w' v' (hopInts h) ∧ Ext w w' := by
  go_enter Tryz.func79, Tryz.ntmps79
  go_wp2
  go_ret
  refine ⟨_, rfl, ?_, xe⟩
  refine Own.of_blk (cs := (hopInts h).map I) ?_ rfl (by unfold maxLen; simp) (by simp) (by simp)
  unfold Blk
  rw [← World.size_alloc]
  exact heap_alloc_new _ _
set_option maxRecDepth 100000 in
set_option maxHeartbeats 1000000 in
theorem impl_SignedData (v : Value) (i : Int) (x : DSegment) (w : World) (h : SegmentV w.heap.size w v x) (hn : x.hops.length ≤ 16777216) :
    Calls Tryz.prog 37 #[v, I i] w fun e w' => ∃ v', e = .returned v' ∧ IntSO w.heap.size w'.heap.size w' v' (signedData x i) ∧ Ext w w' := by
  obtain ⟨A, n, c, rfl, s⟩ := h
  obtain ⟨hl, hnc, hm⟩ := s.len
  subst hl
  unfold maxLen at hm
  have S := Lib.hid s; clear s
  cases hr : inR i 0 x.hops.length
  · have HR := Lib.hid hr
    have HF : Hid (signedData x i = []) := by unfold Hid; simp [signedData, hr]
    clear hr
    go_enter Tryz.func37, Tryz.ntmps37
    go_wp2_with fail
    refine (impl_InRange _ _ _ _).mono ?_
    rintro e w' ⟨rfl, rfl⟩
    rw [HR.out]
    go_wp2_with fail
    go_ret
    rw [HF.out]
    exact ⟨_, rfl, Own.nil _ _ _ _ _, xe⟩
  · have HR := Lib.hid hr
    obtain ⟨i0, i1⟩ := inR_iff.1 hr
    obtain ⟨m, rfl⟩ := Int.eq_ofNat_of_zero_le i0
    have HF : Hid (signedData x m = [x.ts, x.beta, (m : Int)] ++ (x.hops.take m).flatMap hopInts) := by unfold Hid; simp [signedData, hr]
    clear hr
    go_enter Tryz.func37, Tryz.ntmps37
    go_wp2_with fail
    refine (impl_InRange _ _ _ _).mono ?_
    rintro e w' ⟨rfl, rfl⟩
    rw [HR.out]
    go_wp2_with fail
    have ob : Own 3 1 w.heap.size ((w.alloc (.cells #[I x.ts, I x.beta, .slice A x.hops.length c] 37)).alloc (.cells #[I x.ts, I x.beta, I m] 3)).heap.size ((w.alloc (.cells #[I x.ts, I x.beta, .slice A x.hops.length c] 37)).alloc (.cells #[I x.ts, I x.beta, I m] 3)) (.slice (some ⟨w.heap.size + 1, 0, none⟩) 3 3) 3 [I x.ts, I x.beta, I m] := by
      refine Own.of_blk ?_ rfl (by unfold maxLen; simp) (by simp) (by simp)
      have hb := Blk.new (w.alloc (.cells #[I x.ts, I x.beta, .slice A x.hops.length c] 37)) 3 [I x.ts, I x.beta, I m]
      simpa using hb
    have ew : Ext w ((w.alloc (.cells #[I x.ts, I x.beta, .slice A x.hops.length c] 37)).alloc (.cells #[I x.ts, I x.beta, I m] 3)) := ((Ext.refl _).alloc _).alloc _
    generalize (w.alloc (.cells #[I x.ts, I x.beta, .slice A x.hops.length c] 37)).alloc (.cells #[I x.ts, I x.beta, I m] 3) = w0 at *
    have OB := Lib.hid ob; have EW := Lib.hid ew; clear ob ew
    go_loopw [5, 25] (fun o j wr => ∃ (k : Nat), k ≤ m ∧ j = I k ∧ Own 3 1 w.heap.size wr.heap.size wr o (3 + k * 5) (([x.ts, x.beta, (m : Int)] ++ (x.hops.take k).flatMap hopInts).map I) ∧ Ext w wr) (fun _ j _ => m - (intOf j).toNat)
    case atStart => exact ⟨0, by omega, rfl, by simpa using OB.out, EW.out⟩
    case round =>
      obtain ⟨k, hk, rfl, ho, he⟩ := hrel
      have HE := Lib.hid he; clear he
      have HO := Lib.hid ho; clear ho
      by_cases hlt : k < m
      · obtain ⟨b, off, rfl, hb, hkl, hc⟩ := (S.out.ext HE.out).at_ (show k < x.hops.length by omega)
        have HX := Lib.hid (hopInts_snoc x.hops k hkl)
        generalize x.hops[k] = y at *
        obtain ⟨h0, h1, h2, h3, h4⟩ := hc
        go_wp2_with (at_builtin; refine hold ?_)
        refine (impl_hopInts y _).mono ?_
        rintro e w1 ⟨v1, rfl, o1, e1⟩
        have O1 := Lib.hid o1; clear o1
        obtain ⟨A1, n1, c1, rfl, hl1, _⟩ := IntSO_rd O1.out
        have he1 : Ext w w1 := (HE.out.alloc _).trans e1
        have z1 := e1.size
        simp only [World.size_alloc] at z1
        subst hl1
        go_wp2_with (at_builtin; refine hold ?_)
        refine unhold (wpList_app w rfl (.tmp 29) (.tmp 31) _ rfl 3 (.int .i64 0) 1 8 Tryz.underlying38 info_int rfl (by omega) _ _ _ rfl A1 _ c1 ((hopInts y).map I) rfl
          (by exact ((HO.out.alloc _).ext e1 (by simp only [World.size_alloc]; omega)).lt_size) (by exact row_ints (IntSO_rd O1.out)) (one_ints _) he1 (by unfold maxLen; simp [hopInts]; omega) (by simp [hopInts]; omega) ?_)
        intro v2 w2 o2 e2 _ _
        have O2 := Lib.hid o2; clear o2
        go_wp2_with (at_builtin; refine hold ?_)
        go_roundw
        case rel =>
          refine ⟨k + 1, by omega, by go_num, ?_, e2⟩
          have h := O2.out
          rw [HX.out]
          rw [show 3 + (k + 1) * 5 = 3 + k * 5 + (hopInts y).length from by simp [hopInts]; omega]
          simpa using h
        case measure => simp [intOf]; omega
      · obtain rfl : k = m := by omega
        go_wp2_with (at_builtin; refine hold ?_)
        go_ret
        rw [HF.out]
        refine ⟨_, rfl, ?_, HE.out⟩
        unfold IntSO
        rw [List.length_append, hopInts_len, List.length_take, Nat.min_eq_left (by omega)]
        exact HO.out
set_option maxRecDepth 100000 in
set_option maxHeartbeats 1000000 in
theorem spec_SignedData (v : Value) (i : Int) (x : DSegment) (w : World) (h : SegmentV w.heap.size w v x) (hn : x.hops.length ≤ 16777216) :
    Calls Tryz.prog 46 #[v, I i] w fun e w' => ∃ v', e = .returned v' ∧ IntSO w.heap.size w'.heap.size w' v' (signedData x i) ∧ Ext w w' := by
  obtain ⟨A, n, c, rfl, s⟩ := h
  obtain ⟨hl, hnc, hm⟩ := s.len
  subst hl
  unfold maxLen at hm
  have S := Lib.hid s; clear s
  cases hr : inR i 0 x.hops.length
  · have HR := Lib.hid hr
    have HF : Hid (signedData x i = []) := by unfold Hid; simp [signedData, hr]
    clear hr
    go_enter Tryz.func46, Tryz.ntmps46
    go_wp2_with fail
    refine (spec_l1In _ _ _ _).mono ?_
    rintro e w' ⟨rfl, rfl⟩
    rw [HR.out]
    go_wp2_with fail
    go_ret
    rw [HF.out]
    refine ⟨_, rfl, ?_, xe⟩
    exact own_zero' _ 3 1 _ _ (by simp) (by simp)
  · have HR := Lib.hid hr
    obtain ⟨i0, i1⟩ := inR_iff.1 hr
    obtain ⟨m, rfl⟩ := Int.eq_ofNat_of_zero_le i0
    have HF : Hid (signedData x m = [x.ts, x.beta, (m : Int)] ++ (x.hops.take m).flatMap hopInts) := by unfold Hid; simp [signedData, hr]
    clear hr
    go_enter Tryz.func46, Tryz.ntmps46
    go_wp2_with fail
    refine (spec_l1In _ _ _ _).mono ?_
    rintro e w' ⟨rfl, rfl⟩
    rw [HR.out]
    go_wp2_with fail
    have bx : Blk (w.alloc (.cells #[I x.ts, I x.beta, .slice A x.hops.length c] 37)) w.heap.size 37 [I x.ts, I x.beta, .slice A x.hops.length c] := Blk.new w _ _
    have ew : Ext w (w.alloc (.cells #[I x.ts, I x.beta, .slice A x.hops.length c] 37)) := (Ext.refl _).alloc _
    have zw : w.heap.size + 1 = (w.alloc (.cells #[I x.ts, I x.beta, .slice A x.hops.length c] 37)).heap.size := by simp only [World.size_alloc]
    have ob := own_newN (w.alloc (.cells #[I x.ts, I x.beta, .slice A x.hops.length c] 37)) 3 1 3 _ (w.heap.size + 1) [I x.ts, I x.beta, I m] zw rfl (by unfold maxLen; omega) (Nat.le_refl _)
    have zl : w.heap.size ≤ (w.alloc (.cells #[I x.ts, I x.beta, .slice A x.hops.length c] 37)).heap.size := by omega
    clear zw
    generalize w.alloc (.cells #[I x.ts, I x.beta, .slice A x.hops.length c] 37) = wb at *
    have OB := Lib.hid ob; have EW := Lib.hid ew; have BX := Lib.hid bx; clear ob ew bx
    go_loopw [5, 6] (fun o j wr => ∃ (k : Nat), k ≤ m ∧ j = I k ∧ Own 3 1 wb.heap.size wr.heap.size wr o (3 + k * 5) (([x.ts, x.beta, (m : Int)] ++ (x.hops.take k).flatMap hopInts).map I) ∧ Ext wb wr) (fun _ j _ => m - (intOf j).toNat)
    case atStart => exact ⟨0, by omega, rfl, by simpa using OB.out, (Ext.refl _).alloc _⟩
    case round =>
      obtain ⟨k, hk, rfl, ho, he⟩ := hrel
      have HE := Lib.hid he; clear he
      have HO := Lib.hid ho; clear ho
      by_cases hlt : k < m
      · obtain ⟨b, off, rfl, hb, hkl, hc⟩ := (S.out.ext (EW.out.trans HE.out)).at_ (show k < x.hops.length by omega)
        have HX := Lib.hid (hopInts_snoc x.hops k hkl)
        generalize x.hops[k] = y at *
        obtain ⟨h0, h1, h2, h3, h4⟩ := hc
        have bc := BX.out.ext HE.out
        obtain ⟨p0, p1, p2⟩ := blk3 bc
        have lbx := bc.lt
        clear bc
        go_wp2_with (at_builtin; refine hold ?_)
        refine unhold (wpList_app wb rfl (.tmp 31) (.tmp 42) _ rfl 3 (.int .i64 0) 1 8 Tryz.underlying38 info_int rfl (by omega) _ _ _ rfl _ 5 5 ((hopInts y).map I) rfl
          (by exact ((HO.out.alloc _).alloc _).lt_size) (row_newN _ 3 1 5 _ ((hopInts y).map I) (by simp) rfl) (one_ints _) (by exact (HE.out.alloc _).alloc _) (by unfold maxLen; omega) (by omega) ?_)
        intro v2 w2 o2 e2 _ _
        have O2 := Lib.hid o2; clear o2
        go_wp2_with (at_builtin; refine hold ?_)
        go_roundw
        case rel =>
          refine ⟨k + 1, by omega, by go_num, ?_, e2⟩
          have h := O2.out
          rw [HX.out]
          rw [show 3 + (k + 1) * 5 = 3 + k * 5 + 5 from by omega]
          simpa using h
        case measure => simp [intOf]; omega
      · obtain rfl : k = m := by omega
        go_wp2_with (at_builtin; refine hold ?_)
        go_ret
        rw [HF.out]
        refine ⟨_, rfl, ?_, EW.out.trans HE.out⟩
        unfold IntSO
        rw [List.length_append, hopInts_len, List.length_take, Nat.min_eq_left (by omega)]
        exact HO.out.more zl (Nat.le_refl _)
end Go.Proofs.YtddaodemdkjijaaGreat
