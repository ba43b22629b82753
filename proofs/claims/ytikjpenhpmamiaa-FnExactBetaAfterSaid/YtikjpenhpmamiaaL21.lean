/- Contracts of the program's and the reference's functions on path parts. -/
import Derived.Test.YtikjpenhpmamiaaL09
import Derived.Test.YtikjpenhpmamiaaHPathPart
namespace Go.Proofs.Ytikjpenhpmamiaa
open Go.RowKit
set_option linter.unusedVariables false
def isRev (k : Int) : Bool := k == 1 || k == 3
def hopAt (l : List DHop) (i : Int) : DHop := l.getD i.toNat ⟨0, 0, 0, 0, 0⟩
def partEgr (p : DPathPart) (i : Int) : Int := if inR i 0 (p.hops.length - 1) then (if isRev p.kind then (hopAt p.hops i).ing else (hopAt p.hops i).egr) else 0
def partIng (p : DPathPart) (i : Int) : Int := if inR i 0 (p.hops.length - 1) then (if isRev p.kind then (hopAt p.hops i).egr else (hopAt p.hops i).ing) else 0
theorem hopAt_nat (l : List DHop) (k : Nat) (h : k < l.length) : hopAt l k = l[k] := by simp [hopAt, List.getD_eq_getElem?_getD, List.getElem?_eq_getElem h]
set_option maxRecDepth 100000 in
set_option maxHeartbeats 1000000 in
theorem impl_IsReversed (k : Int) (w : World) : Calls Try.prog 15 #[I k] w fun e w' => e = .returned (.bool (isRev k)) ∧ w = w' := by
  by_cases h1 : k = 1
  · subst h1
    go_enter Try.func15, Try.ntmps15
    go_wp2
    go_ret
    exact ⟨rfl, rfl⟩
  · have h1' : (k == 1) = false := by simp [h1]
    by_cases h3 : k = 3
    · subst h3
      go_enter Try.func15, Try.ntmps15
      go_wp2
      go_ret
      exact ⟨rfl, rfl⟩
    · have h3' : (k == 3) = false := by simp [h3]
      have HF := Lib.hid (show isRev k = false by simp [isRev, h1, h3])
      clear h1 h3
      go_enter Try.func15, Try.ntmps15
      go_wp2
      go_ret
      exact ⟨ret_bool HF.out.symm, rfl⟩
set_option maxRecDepth 100000 in
set_option maxHeartbeats 1000000 in
theorem spec_IsReversed (k : Int) (w : World) : Calls Try.prog 14 #[I k] w fun e w' => e = .returned (.bool (isRev k)) ∧ w = w' := by
  by_cases h1 : k = 1
  · subst h1
    go_enter Try.func14, Try.ntmps14
    go_wp2
    go_ret
    exact ⟨rfl, rfl⟩
  · have h1' : (k == 1) = false := by simp [h1]
    by_cases h3 : k = 3
    · subst h3
      go_enter Try.func14, Try.ntmps14
      go_wp2
      go_ret
      exact ⟨rfl, rfl⟩
    · have h3' : (k == 3) = false := by simp [h3]
      have HF := Lib.hid (show isRev k = false by simp [isRev, h1, h3])
      clear h1 h3
      go_enter Try.func14, Try.ntmps14
      go_wp2
      go_ret
      exact ⟨ret_bool HF.out.symm, rfl⟩
set_option maxRecDepth 100000 in
set_option maxHeartbeats 1000000 in
theorem impl_PartEgress (v : Value) (i : Int) (x : DPathPart) (w : World) (h : PathPartV w.heap.size w v x) :
    Calls Try.prog 38 #[v, I i] w fun e w' => e = .returned (I (partEgr x i)) ∧ Ext w w' := by
  obtain ⟨A, n, c, rfl, s⟩ := h
  obtain ⟨hl, hn, hm⟩ := s.len
  subst hl
  unfold maxLen at hm
  have S := Lib.hid s; clear s
  cases hr : inR i 0 (x.hops.length - 1)
  · have HR := Lib.hid hr
    have HF : Hid (partEgr x i = 0) := by unfold Hid; simp [partEgr, hr]
    clear hr
    go_enter Try.func38, Try.ntmps38
    go_wp2_with fail
    refine (impl_InRange _ _ _ _).mono ?_
    rintro e w' ⟨rfl, rfl⟩
    rw [HR.out]
    go_wp2_with fail
    go_ret
    exact ⟨ret_int HF.out.symm, (by repeat (first | (with_reducible exact Ext.refl _) | (with_reducible assumption) | (with_reducible refine Ext.alloc ?_ _) | (with_reducible refine Ext.drew ?_) | (with_reducible refine Ext.drewN ?_ _) | (with_reducible refine Ext.setCell (p := _) ?_ ?ge _; case ge => (dsimp only; omega)) | (with_reducible refine Ext.trans ?_ (by with_reducible assumption))))⟩
  · have HR := Lib.hid hr
    obtain ⟨i0, i1⟩ := inR_iff.1 hr
    obtain ⟨k, rfl⟩ := Int.eq_ofNat_of_zero_le i0
    obtain ⟨b, off, rfl, hb, hk, hc⟩ := S.out.at_ (show k < x.hops.length by omega)
    have hA := hopAt_nat x.hops k hk
    have HF : Hid (partEgr x k = if isRev x.kind then (x.hops[k]).ing else (x.hops[k]).egr) := by unfold Hid; rw [partEgr, hr, if_pos rfl, hA]
    clear hr hA
    generalize x.hops[k] = y at *
    obtain ⟨h0, h1, h2, h3, h4⟩ := hc
    have hne : ¬ (b = w.heap.size) := by omega
    cases hrev : isRev x.kind
    · have HV := Lib.hid hrev
      rw [hrev] at HF
      clear hrev
      go_enter Try.func38, Try.ntmps38
      go_wp2_with fail
      refine (impl_InRange _ _ _ _).mono ?_
      rintro e w' ⟨rfl, rfl⟩
      rw [HR.out]
      go_wp2_with fail
      refine (impl_IsReversed _ _).mono ?_
      rintro e w' ⟨rfl, rfl⟩
      rw [HV.out]
      go_wp2_with fail
      go_ret
      exact ⟨ret_int HF.out.symm, (by repeat (first | (with_reducible exact Ext.refl _) | (with_reducible assumption) | (with_reducible refine Ext.alloc ?_ _) | (with_reducible refine Ext.drew ?_) | (with_reducible refine Ext.drewN ?_ _) | (with_reducible refine Ext.setCell (p := _) ?_ ?ge _; case ge => (dsimp only; omega)) | (with_reducible refine Ext.trans ?_ (by with_reducible assumption))))⟩
    · have HV := Lib.hid hrev
      rw [hrev] at HF
      clear hrev
      go_enter Try.func38, Try.ntmps38
      go_wp2_with fail
      refine (impl_InRange _ _ _ _).mono ?_
      rintro e w' ⟨rfl, rfl⟩
      rw [HR.out]
      go_wp2_with fail
      refine (impl_IsReversed _ _).mono ?_
      rintro e w' ⟨rfl, rfl⟩
      rw [HV.out]
      go_wp2_with fail
      go_ret
      exact ⟨ret_int HF.out.symm, (by repeat (first | (with_reducible exact Ext.refl _) | (with_reducible assumption) | (with_reducible refine Ext.alloc ?_ _) | (with_reducible refine Ext.drew ?_) | (with_reducible refine Ext.drewN ?_ _) | (with_reducible refine Ext.setCell (p := _) ?_ ?ge _; case ge => (dsimp only; omega)) | (with_reducible refine Ext.trans ?_ (by with_reducible assumption))))⟩
set_option maxRecDepth 100000 in
set_option maxHeartbeats 1000000 in
theorem spec_PartEgress (v : Value) (i : Int) (x : DPathPart) (w : World) (h : PathPartV w.heap.size w v x) :
    Calls Try.prog 36 #[v, I i] w fun e w' => e = .returned (I (partEgr x i)) ∧ Ext w w' := by
  obtain ⟨A, n, c, rfl, s⟩ := h
  obtain ⟨hl, hn, hm⟩ := s.len
  subst hl
  unfold maxLen at hm
  have S := Lib.hid s; clear s
  cases hr : inR i 0 (x.hops.length - 1)
  · have HR := Lib.hid hr
    have HF : Hid (partEgr x i = 0) := by unfold Hid; simp [partEgr, hr]
    clear hr
    go_enter Try.func36, Try.ntmps36
    go_wp2_with fail
    refine (spec_l1In _ _ _ _).mono ?_
    rintro e w' ⟨rfl, rfl⟩
    rw [HR.out]
    go_wp2_with fail
    go_ret
    exact ⟨ret_int HF.out.symm, (by repeat (first | (with_reducible exact Ext.refl _) | (with_reducible assumption) | (with_reducible refine Ext.alloc ?_ _) | (with_reducible refine Ext.drew ?_) | (with_reducible refine Ext.drewN ?_ _) | (with_reducible refine Ext.setCell (p := _) ?_ ?ge _; case ge => (dsimp only; omega)) | (with_reducible refine Ext.trans ?_ (by with_reducible assumption))))⟩
  · have HR := Lib.hid hr
    obtain ⟨i0, i1⟩ := inR_iff.1 hr
    obtain ⟨k, rfl⟩ := Int.eq_ofNat_of_zero_le i0
    obtain ⟨b, off, rfl, hb, hk, hc⟩ := S.out.at_ (show k < x.hops.length by omega)
    have hA := hopAt_nat x.hops k hk
    have HF : Hid (partEgr x k = if isRev x.kind then (x.hops[k]).ing else (x.hops[k]).egr) := by unfold Hid; rw [partEgr, hr, if_pos rfl, hA]
    clear hr hA
    generalize x.hops[k] = y at *
    obtain ⟨h0, h1, h2, h3, h4⟩ := hc
    have hne : ¬ (b = w.heap.size) := by omega
    cases hrev : isRev x.kind
    · have HV := Lib.hid hrev
      rw [hrev] at HF
      clear hrev
      go_enter Try.func36, Try.ntmps36
      go_wp2_with fail
      refine (spec_l1In _ _ _ _).mono ?_
      rintro e w' ⟨rfl, rfl⟩
      rw [HR.out]
      go_wp2_with fail
      refine (spec_IsReversed _ _).mono ?_
      rintro e w' ⟨rfl, rfl⟩
      rw [HV.out]
      go_wp2_with fail
      go_ret
      exact ⟨ret_int HF.out.symm, (by repeat (first | (with_reducible exact Ext.refl _) | (with_reducible assumption) | (with_reducible refine Ext.alloc ?_ _) | (with_reducible refine Ext.drew ?_) | (with_reducible refine Ext.drewN ?_ _) | (with_reducible refine Ext.setCell (p := _) ?_ ?ge _; case ge => (dsimp only; omega)) | (with_reducible refine Ext.trans ?_ (by with_reducible assumption))))⟩
    · have HV := Lib.hid hrev
      rw [hrev] at HF
      clear hrev
      go_enter Try.func36, Try.ntmps36
      go_wp2_with fail
      refine (spec_l1In _ _ _ _).mono ?_
      rintro e w' ⟨rfl, rfl⟩
      rw [HR.out]
      go_wp2_with fail
      refine (spec_IsReversed _ _).mono ?_
      rintro e w' ⟨rfl, rfl⟩
      rw [HV.out]
      go_wp2_with fail
      go_ret
      exact ⟨ret_int HF.out.symm, (by repeat (first | (with_reducible exact Ext.refl _) | (with_reducible assumption) | (with_reducible refine Ext.alloc ?_ _) | (with_reducible refine Ext.drew ?_) | (with_reducible refine Ext.drewN ?_ _) | (with_reducible refine Ext.setCell (p := _) ?_ ?ge _; case ge => (dsimp only; omega)) | (with_reducible refine Ext.trans ?_ (by with_reducible assumption))))⟩
set_option maxRecDepth 100000 in
set_option maxHeartbeats 1000000 in
theorem impl_PartIngress (v : Value) (i : Int) (x : DPathPart) (w : World) (h : PathPartV w.heap.size w v x) :
    Calls Try.prog 41 #[v, I i] w fun e w' => e = .returned (I (partIng x i)) ∧ Ext w w' := by
  obtain ⟨A, n, c, rfl, s⟩ := h
  obtain ⟨hl, hn, hm⟩ := s.len
  subst hl
  unfold maxLen at hm
  have S := Lib.hid s; clear s
  cases hr : inR i 0 (x.hops.length - 1)
  · have HR := Lib.hid hr
    have HF : Hid (partIng x i = 0) := by unfold Hid; simp [partIng, hr]
    clear hr
    go_enter Try.func41, Try.ntmps41
    go_wp2_with fail
    refine (impl_InRange _ _ _ _).mono ?_
    rintro e w' ⟨rfl, rfl⟩
    rw [HR.out]
    go_wp2_with fail
    go_ret
    exact ⟨ret_int HF.out.symm, (by repeat (first | (with_reducible exact Ext.refl _) | (with_reducible assumption) | (with_reducible refine Ext.alloc ?_ _) | (with_reducible refine Ext.drew ?_) | (with_reducible refine Ext.drewN ?_ _) | (with_reducible refine Ext.setCell (p := _) ?_ ?ge _; case ge => (dsimp only; omega)) | (with_reducible refine Ext.trans ?_ (by with_reducible assumption))))⟩
  · have HR := Lib.hid hr
    obtain ⟨i0, i1⟩ := inR_iff.1 hr
    obtain ⟨k, rfl⟩ := Int.eq_ofNat_of_zero_le i0
    obtain ⟨b, off, rfl, hb, hk, hc⟩ := S.out.at_ (show k < x.hops.length by omega)
    have hA := hopAt_nat x.hops k hk
    have HF : Hid (partIng x k = if isRev x.kind then (x.hops[k]).egr else (x.hops[k]).ing) := by unfold Hid; rw [partIng, hr, if_pos rfl, hA]
    clear hr hA
    generalize x.hops[k] = y at *
    obtain ⟨h0, h1, h2, h3, h4⟩ := hc
    have hne : ¬ (b = w.heap.size) := by omega
    cases hrev : isRev x.kind
    · have HV := Lib.hid hrev
      rw [hrev] at HF
      clear hrev
      go_enter Try.func41, Try.ntmps41
      go_wp2_with fail
      refine (impl_InRange _ _ _ _).mono ?_
      rintro e w' ⟨rfl, rfl⟩
      rw [HR.out]
      go_wp2_with fail
      refine (impl_IsReversed _ _).mono ?_
      rintro e w' ⟨rfl, rfl⟩
      rw [HV.out]
      go_wp2_with fail
      go_ret
      exact ⟨ret_int HF.out.symm, (by repeat (first | (with_reducible exact Ext.refl _) | (with_reducible assumption) | (with_reducible refine Ext.alloc ?_ _) | (with_reducible refine Ext.drew ?_) | (with_reducible refine Ext.drewN ?_ _) | (with_reducible refine Ext.setCell (p := _) ?_ ?ge _; case ge => (dsimp only; omega)) | (with_reducible refine Ext.trans ?_ (by with_reducible assumption))))⟩
    · have HV := Lib.hid hrev
      rw [hrev] at HF
      clear hrev
      go_enter Try.func41, Try.ntmps41
      go_wp2_with fail
      refine (impl_InRange _ _ _ _).mono ?_
      rintro e w' ⟨rfl, rfl⟩
      rw [HR.out]
      go_wp2_with fail
      refine (impl_IsReversed _ _).mono ?_
      rintro e w' ⟨rfl, rfl⟩
      rw [HV.out]
      go_wp2_with fail
      go_ret
      exact ⟨ret_int HF.out.symm, (by repeat (first | (with_reducible exact Ext.refl _) | (with_reducible assumption) | (with_reducible refine Ext.alloc ?_ _) | (with_reducible refine Ext.drew ?_) | (with_reducible refine Ext.drewN ?_ _) | (with_reducible refine Ext.setCell (p := _) ?_ ?ge _; case ge => (dsimp only; omega)) | (with_reducible refine Ext.trans ?_ (by with_reducible assumption))))⟩
set_option maxRecDepth 100000 in
set_option maxHeartbeats 1000000 in
theorem spec_PartIngress (v : Value) (i : Int) (x : DPathPart) (w : World) (h : PathPartV w.heap.size w v x) :
    Calls Try.prog 40 #[v, I i] w fun e w' => e = .returned (I (partIng x i)) ∧ Ext w w' := by
  obtain ⟨A, n, c, rfl, s⟩ := h
  obtain ⟨hl, hn, hm⟩ := s.len
  subst hl
  unfold maxLen at hm
  have S := Lib.hid s; clear s
  cases hr : inR i 0 (x.hops.length - 1)
  · have HR := Lib.hid hr
    have HF : Hid (partIng x i = 0) := by unfold Hid; simp [partIng, hr]
    clear hr
    go_enter Try.func40, Try.ntmps40
    go_wp2_with fail
    refine (spec_l1In _ _ _ _).mono ?_
    rintro e w' ⟨rfl, rfl⟩
    rw [HR.out]
    go_wp2_with fail
    go_ret
    exact ⟨ret_int HF.out.symm, (by repeat (first | (with_reducible exact Ext.refl _) | (with_reducible assumption) | (with_reducible refine Ext.alloc ?_ _) | (with_reducible refine Ext.drew ?_) | (with_reducible refine Ext.drewN ?_ _) | (with_reducible refine Ext.setCell (p := _) ?_ ?ge _; case ge => (dsimp only; omega)) | (with_reducible refine Ext.trans ?_ (by with_reducible assumption))))⟩
  · have HR := Lib.hid hr
    obtain ⟨i0, i1⟩ := inR_iff.1 hr
    obtain ⟨k, rfl⟩ := Int.eq_ofNat_of_zero_le i0
    obtain ⟨b, off, rfl, hb, hk, hc⟩ := S.out.at_ (show k < x.hops.length by omega)
    have hA := hopAt_nat x.hops k hk
    have HF : Hid (partIng x k = if isRev x.kind then (x.hops[k]).egr else (x.hops[k]).ing) := by unfold Hid; rw [partIng, hr, if_pos rfl, hA]
    clear hr hA
    generalize x.hops[k] = y at *
    obtain ⟨h0, h1, h2, h3, h4⟩ := hc
    have hne : ¬ (b = w.heap.size) := by omega
    cases hrev : isRev x.kind
    · have HV := Lib.hid hrev
      rw [hrev] at HF
      clear hrev
      go_enter Try.func40, Try.ntmps40
      go_wp2_with fail
      refine (spec_l1In _ _ _ _).mono ?_
      rintro e w' ⟨rfl, rfl⟩
      rw [HR.out]
      go_wp2_with fail
      refine (spec_IsReversed _ _).mono ?_
      rintro e w' ⟨rfl, rfl⟩
      rw [HV.out]
      go_wp2_with fail
      go_ret
      exact ⟨ret_int HF.out.symm, (by repeat (first | (with_reducible exact Ext.refl _) | (with_reducible assumption) | (with_reducible refine Ext.alloc ?_ _) | (with_reducible refine Ext.drew ?_) | (with_reducible refine Ext.drewN ?_ _) | (with_reducible refine Ext.setCell (p := _) ?_ ?ge _; case ge => (dsimp only; omega)) | (with_reducible refine Ext.trans ?_ (by with_reducible assumption))))⟩
    · have HV := Lib.hid hrev
      rw [hrev] at HF
      clear hrev
      go_enter Try.func40, Try.ntmps40
      go_wp2_with fail
      refine (spec_l1In _ _ _ _).mono ?_
      rintro e w' ⟨rfl, rfl⟩
      rw [HR.out]
      go_wp2_with fail
      refine (spec_IsReversed _ _).mono ?_
      rintro e w' ⟨rfl, rfl⟩
      rw [HV.out]
      go_wp2_with fail
      go_ret
      exact ⟨ret_int HF.out.symm, (by repeat (first | (with_reducible exact Ext.refl _) | (with_reducible assumption) | (with_reducible refine Ext.alloc ?_ _) | (with_reducible refine Ext.drew ?_) | (with_reducible refine Ext.drewN ?_ _) | (with_reducible refine Ext.setCell (p := _) ?_ ?ge _; case ge => (dsimp only; omega)) | (with_reducible refine Ext.trans ?_ (by with_reducible assumption))))⟩
set_option maxRecDepth 100000 in
set_option maxHeartbeats 1000000 in
theorem impl_EqualParts (v1 v2 : Value) (x y : DPathPart) (w : World) (g1 : PathPartV w.heap.size w v1 x) (g2 : PathPartV w.heap.size w v2 y) :
    Calls Try.prog 43 #[v1, v2] w fun e w' => e = .returned (.bool (decide (x = y))) ∧ Ext w w' := by
  obtain ⟨A1, n1, c1, rfl, s1⟩ := g1
  obtain ⟨A2, n2, c2, rfl, s2⟩ := g2
  have S1 := Lib.hid s1; clear s1
  have S2 := Lib.hid s2; clear s2
  have HQ : Hid (x = y ↔ x.kind = y.kind ∧ x.ts = y.ts ∧ x.beta = y.beta ∧ x.hops = y.hops) := DPathPart.eq_iff
  by_cases h1 : x.kind = y.kind
  · have b1 : (x.kind == y.kind) = true := by simp [h1]
    by_cases h2 : x.ts = y.ts
    · have b2 : (x.ts == y.ts) = true := by simp [h2]
      by_cases h3 : x.beta = y.beta
      · have b3 : (x.beta == y.beta) = true := by simp [h3]
        have HF : Hid (decide (x = y) = decide (x.hops = y.hops)) := by unfold Hid; simp [HQ.out, h1, h2, h3]
        clear h1 h2 h3 HQ
        go_enter Try.func43, Try.ntmps43
        go_wp2_with fail
        refine (impl_equalHopLists _ _ x.hops y.hops _ (by exact S1.out.ext (by repeat (first | (with_reducible exact Ext.refl _) | (with_reducible assumption) | (with_reducible refine Ext.alloc ?_ _) | (with_reducible refine Ext.drew ?_) | (with_reducible refine Ext.drewN ?_ _) | (with_reducible refine Ext.setCell (p := _) ?_ ?ge _; case ge => (dsimp only; omega)) | (with_reducible refine Ext.trans ?_ (by with_reducible assumption))))) (by exact S2.out.ext (by repeat (first | (with_reducible exact Ext.refl _) | (with_reducible assumption) | (with_reducible refine Ext.alloc ?_ _) | (with_reducible refine Ext.drew ?_) | (with_reducible refine Ext.drewN ?_ _) | (with_reducible refine Ext.setCell (p := _) ?_ ?ge _; case ge => (dsimp only; omega)) | (with_reducible refine Ext.trans ?_ (by with_reducible assumption)))))).mono ?_
        rintro e w1 ⟨rfl, he⟩
        go_wp2_with fail
        go_ret
        exact ⟨ret_bool HF.out.symm, (by repeat (first | (with_reducible exact Ext.refl _) | (with_reducible assumption) | (with_reducible refine Ext.alloc ?_ _) | (with_reducible refine Ext.drew ?_) | (with_reducible refine Ext.drewN ?_ _) | (with_reducible refine Ext.setCell (p := _) ?_ ?ge _; case ge => (dsimp only; omega)) | (with_reducible refine Ext.trans ?_ (by with_reducible assumption))))⟩
      · have b3 : (x.beta == y.beta) = false := by simp [h3]
        have HF : Hid (decide (x = y) = false) := by unfold Hid; simp [HQ.out, h3]
        clear h1 h2 h3 HQ
        go_enter Try.func43, Try.ntmps43
        go_wp2_with fail
        go_ret
        exact ⟨ret_bool HF.out.symm, (by repeat (first | (with_reducible exact Ext.refl _) | (with_reducible assumption) | (with_reducible refine Ext.alloc ?_ _) | (with_reducible refine Ext.drew ?_) | (with_reducible refine Ext.drewN ?_ _) | (with_reducible refine Ext.setCell (p := _) ?_ ?ge _; case ge => (dsimp only; omega)) | (with_reducible refine Ext.trans ?_ (by with_reducible assumption))))⟩
    · have b2 : (x.ts == y.ts) = false := by simp [h2]
      have HF : Hid (decide (x = y) = false) := by unfold Hid; simp [HQ.out, h2]
      clear h1 h2 HQ
      go_enter Try.func43, Try.ntmps43
      go_wp2_with fail
      go_ret
      exact ⟨ret_bool HF.out.symm, (by repeat (first | (with_reducible exact Ext.refl _) | (with_reducible assumption) | (with_reducible refine Ext.alloc ?_ _) | (with_reducible refine Ext.drew ?_) | (with_reducible refine Ext.drewN ?_ _) | (with_reducible refine Ext.setCell (p := _) ?_ ?ge _; case ge => (dsimp only; omega)) | (with_reducible refine Ext.trans ?_ (by with_reducible assumption))))⟩
  · have b1 : (x.kind == y.kind) = false := by simp [h1]
    have HF : Hid (decide (x = y) = false) := by unfold Hid; simp [HQ.out, h1]
    clear h1 HQ
    go_enter Try.func43, Try.ntmps43
    go_wp2_with fail
    go_ret
    exact ⟨ret_bool HF.out.symm, (by repeat (first | (with_reducible exact Ext.refl _) | (with_reducible assumption) | (with_reducible refine Ext.alloc ?_ _) | (with_reducible refine Ext.drew ?_) | (with_reducible refine Ext.drewN ?_ _) | (with_reducible refine Ext.setCell (p := _) ?_ ?ge _; case ge => (dsimp only; omega)) | (with_reducible refine Ext.trans ?_ (by with_reducible assumption))))⟩
set_option maxRecDepth 100000 in
set_option maxHeartbeats 1000000 in
theorem spec_EqualParts (v1 v2 : Value) (x y : DPathPart) (w : World) (g1 : PathPartV w.heap.size w v1 x) (g2 : PathPartV w.heap.size w v2 y) :
    Calls Try.prog 42 #[v1, v2] w fun e w' => e = .returned (.bool (decide (x = y))) ∧ Ext w w' := by
  obtain ⟨A1, n1, c1, rfl, s1⟩ := g1
  obtain ⟨A2, n2, c2, rfl, s2⟩ := g2
  have S1 := Lib.hid s1; clear s1
  have S2 := Lib.hid s2; clear s2
  have HQ : Hid (x = y ↔ x.kind = y.kind ∧ x.ts = y.ts ∧ x.beta = y.beta ∧ x.hops = y.hops) := DPathPart.eq_iff
  by_cases h1 : x.kind = y.kind
  · have b1 : (x.kind == y.kind) = true := by simp [h1]
    by_cases h2 : x.ts = y.ts
    · have b2 : (x.ts == y.ts) = true := by simp [h2]
      by_cases h3 : x.beta = y.beta
      · have b3 : (x.beta == y.beta) = true := by simp [h3]
        have HF : Hid (decide (x = y) = decide (x.hops = y.hops)) := by unfold Hid; simp [HQ.out, h1, h2, h3]
        clear h1 h2 h3 HQ
        go_enter Try.func42, Try.ntmps42
        go_wp2_with fail
        refine (spec_l9SameHops _ _ x.hops y.hops _ (by exact S1.out.ext (by repeat (first | (with_reducible exact Ext.refl _) | (with_reducible assumption) | (with_reducible refine Ext.alloc ?_ _) | (with_reducible refine Ext.drew ?_) | (with_reducible refine Ext.drewN ?_ _) | (with_reducible refine Ext.setCell (p := _) ?_ ?ge _; case ge => (dsimp only; omega)) | (with_reducible refine Ext.trans ?_ (by with_reducible assumption))))) (by exact S2.out.ext (by repeat (first | (with_reducible exact Ext.refl _) | (with_reducible assumption) | (with_reducible refine Ext.alloc ?_ _) | (with_reducible refine Ext.drew ?_) | (with_reducible refine Ext.drewN ?_ _) | (with_reducible refine Ext.setCell (p := _) ?_ ?ge _; case ge => (dsimp only; omega)) | (with_reducible refine Ext.trans ?_ (by with_reducible assumption)))))).mono ?_
        rintro e w1 ⟨rfl, he⟩
        go_wp2_with fail
        go_ret
        exact ⟨ret_bool HF.out.symm, (by repeat (first | (with_reducible exact Ext.refl _) | (with_reducible assumption) | (with_reducible refine Ext.alloc ?_ _) | (with_reducible refine Ext.drew ?_) | (with_reducible refine Ext.drewN ?_ _) | (with_reducible refine Ext.setCell (p := _) ?_ ?ge _; case ge => (dsimp only; omega)) | (with_reducible refine Ext.trans ?_ (by with_reducible assumption))))⟩
      · have b3 : (x.beta == y.beta) = false := by simp [h3]
        have HF : Hid (decide (x = y) = false) := by unfold Hid; simp [HQ.out, h3]
        clear h1 h2 h3 HQ
        go_enter Try.func42, Try.ntmps42
        go_wp2_with fail
        go_ret
        exact ⟨ret_bool HF.out.symm, (by repeat (first | (with_reducible exact Ext.refl _) | (with_reducible assumption) | (with_reducible refine Ext.alloc ?_ _) | (with_reducible refine Ext.drew ?_) | (with_reducible refine Ext.drewN ?_ _) | (with_reducible refine Ext.setCell (p := _) ?_ ?ge _; case ge => (dsimp only; omega)) | (with_reducible refine Ext.trans ?_ (by with_reducible assumption))))⟩
    · have b2 : (x.ts == y.ts) = false := by simp [h2]
      have HF : Hid (decide (x = y) = false) := by unfold Hid; simp [HQ.out, h2]
      clear h1 h2 HQ
      go_enter Try.func42, Try.ntmps42
      go_wp2_with fail
      go_ret
      exact ⟨ret_bool HF.out.symm, (by repeat (first | (with_reducible exact Ext.refl _) | (with_reducible assumption) | (with_reducible refine Ext.alloc ?_ _) | (with_reducible refine Ext.drew ?_) | (with_reducible refine Ext.drewN ?_ _) | (with_reducible refine Ext.setCell (p := _) ?_ ?ge _; case ge => (dsimp only; omega)) | (with_reducible refine Ext.trans ?_ (by with_reducible assumption))))⟩
  · have b1 : (x.kind == y.kind) = false := by simp [h1]
    have HF : Hid (decide (x = y) = false) := by unfold Hid; simp [HQ.out, h1]
    clear h1 HQ
    go_enter Try.func42, Try.ntmps42
    go_wp2_with fail
    go_ret
    exact ⟨ret_bool HF.out.symm, (by repeat (first | (with_reducible exact Ext.refl _) | (with_reducible assumption) | (with_reducible refine Ext.alloc ?_ _) | (with_reducible refine Ext.drew ?_) | (with_reducible refine Ext.drewN ?_ _) | (with_reducible refine Ext.setCell (p := _) ?_ ?ge _; case ge => (dsimp only; omega)) | (with_reducible refine Ext.trans ?_ (by with_reducible assumption))))⟩
/-- The chaining value over some hops. -/
def chain (rev : Bool) (b : Int) (l : List DHop) : Int := l.foldl (fun b h => if rev then subM b h.mac else addM b h.mac) b
def betaAfter (p : DPathPart) (i : Int) : Int := if inR i 0 p.hops.length then chain (isRev p.kind) p.beta (p.hops.take i.toNat) else 0
theorem chain_snoc (rev : Bool) (b : Int) (l : List DHop) (k : Nat) (h : k < l.length) : chain rev b (l.take (k + 1)) = if rev then subM (chain rev b (l.take k)) l[k].mac else addM (chain rev b (l.take k)) l[k].mac := foldl_snoc _ b l k h
set_option maxRecDepth 100000 in
set_option maxHeartbeats 1000000 in
theorem spec_BetaAfter (v : Value) (i : Int) (x : DPathPart) (w : World) (h : PathPartV w.heap.size w v x) :
    Calls Try.prog 55 #[v, I i] w fun e w' => e = .returned (I (betaAfter x i)) ∧ Ext w w' := by
  obtain ⟨A, n, c, rfl, s⟩ := h
  obtain ⟨hl, hn, hm⟩ := s.len
  subst hl
  unfold maxLen at hm
  have S := Lib.hid s; clear s
  cases hr : inR i 0 x.hops.length
  · have HR := Lib.hid hr
    have HF : Hid (betaAfter x i = 0) := by unfold Hid; simp [betaAfter, hr]
    clear hr
    go_enter Try.func55, Try.ntmps55
    go_wp2_with fail
    refine (spec_l1In _ _ _ _).mono ?_
    rintro e w' ⟨rfl, rfl⟩
    rw [HR.out]
    go_wp2_with fail
    go_ret
    exact ⟨ret_int HF.out.symm, (by repeat (first | (with_reducible exact Ext.refl _) | (with_reducible assumption) | (with_reducible refine Ext.alloc ?_ _) | (with_reducible refine Ext.drew ?_) | (with_reducible refine Ext.drewN ?_ _) | (with_reducible refine Ext.setCell (p := _) ?_ ?ge _; case ge => (dsimp only; omega)) | (with_reducible refine Ext.trans ?_ (by with_reducible assumption))))⟩
  · have HR := Lib.hid hr
    obtain ⟨i0, i1⟩ := inR_iff.1 hr
    obtain ⟨m, rfl⟩ := Int.eq_ofNat_of_zero_le i0
    have HF : Hid (betaAfter x m = chain (isRev x.kind) x.beta (x.hops.take m)) := by unfold Hid; simp [betaAfter, hr]
    clear hr
    go_enter Try.func55, Try.ntmps55
    go_wp2_with fail
    refine (spec_l1In _ _ _ _).mono ?_
    rintro e w' ⟨rfl, rfl⟩
    rw [HR.out]
    go_wp2_with fail
    go_loop [5, 6] (fun b j => ∃ (k : Nat), k ≤ m ∧ j = I k ∧ b = I (chain (isRev x.kind) x.beta (x.hops.take k))) (fun _ j => m - (intOf j).toNat)
    case atStart => exact ⟨0, by omega, rfl, by simp [chain]⟩
    case round =>
      obtain ⟨k, hk, rfl, rfl⟩ := hrel
      by_cases hlt : k < m
      · obtain ⟨b, off, rfl, hb, hkl, hc⟩ := S.out.at_ (show k < x.hops.length by omega)
        have HX := Lib.hid (chain_snoc (isRev x.kind) x.beta x.hops k hkl)
        generalize x.hops[k] = y at *
        obtain ⟨h0, h1, h2, h3, h4⟩ := hc
        generalize chain (isRev x.kind) x.beta (x.hops.take k) = z at *
        generalize hrv : isRev x.kind = rv at *
        have HV := Lib.hid hrv; clear hrv
        have hne : ¬ (b = w.heap.size) := by omega
        cases rv
        · go_wp2_with (first | (go_at_call 14; refine (spec_IsReversed _ _).mono ?_; rintro e w' ⟨rfl, rfl⟩; rw [HV.out]) | (go_at_call 72; refine (spec_AddMod _ _ _).mono ?_; rintro e w' ⟨rfl, rfl⟩))
          go_round
          case rel => exact ⟨k + 1, by omega, by go_num, by rw [HX.out]; rfl⟩
          case measure => simp [intOf]; omega
        · go_wp2_with (first | (go_at_call 14; refine (spec_IsReversed _ _).mono ?_; rintro e w' ⟨rfl, rfl⟩; rw [HV.out]) | (go_at_call 71; refine (spec_SubMod _ _ _).mono ?_; rintro e w' ⟨rfl, rfl⟩))
          go_round
          case rel => exact ⟨k + 1, by omega, by go_num, by rw [HX.out]; rfl⟩
          case measure => simp [intOf]; omega
      · obtain rfl : k = m := by omega
        go_wp2_with fail
        go_ret
        exact ⟨ret_int HF.out.symm, (by repeat (first | (with_reducible exact Ext.refl _) | (with_reducible assumption) | (with_reducible refine Ext.alloc ?_ _) | (with_reducible refine Ext.drew ?_) | (with_reducible refine Ext.drewN ?_ _) | (with_reducible refine Ext.setCell (p := _) ?_ ?ge _; case ge => (dsimp only; omega)) | (with_reducible refine Ext.trans ?_ (by with_reducible assumption))))⟩
set_option maxRecDepth 100000 in
set_option maxHeartbeats 1000000 in
theorem impl_BetaAfter (v : Value) (i : Int) (x : DPathPart) (w : World) (h : PathPartV w.heap.size w v x) :
    Calls Try.prog 56 #[v, I i] w fun e w' => e = .returned (I (betaAfter x i)) ∧ Ext w w' := by
  obtain ⟨A, n, c, rfl, s⟩ := h
  obtain ⟨hl, hn, hm⟩ := s.len
  subst hl
  unfold maxLen at hm
  have S := Lib.hid s; clear s
  cases hr : inR i 0 x.hops.length
  · have HR := Lib.hid hr
    have HF : Hid (betaAfter x i = 0) := by unfold Hid; simp [betaAfter, hr]
    clear hr
    go_enter Try.func56, Try.ntmps56
    go_wp2_with fail
    refine (impl_InRange _ _ _ _).mono ?_
    rintro e w' ⟨rfl, rfl⟩
    rw [HR.out]
    go_wp2_with fail
    go_ret
    exact ⟨ret_int HF.out.symm, (by repeat (first | (with_reducible exact Ext.refl _) | (with_reducible assumption) | (with_reducible refine Ext.alloc ?_ _) | (with_reducible refine Ext.drew ?_) | (with_reducible refine Ext.drewN ?_ _) | (with_reducible refine Ext.setCell (p := _) ?_ ?ge _; case ge => (dsimp only; omega)) | (with_reducible refine Ext.trans ?_ (by with_reducible assumption))))⟩
  · have HR := Lib.hid hr
    obtain ⟨i0, i1⟩ := inR_iff.1 hr
    obtain ⟨m, rfl⟩ := Int.eq_ofNat_of_zero_le i0
    have HF : Hid (betaAfter x m = chain (isRev x.kind) x.beta (x.hops.take m)) := by unfold Hid; simp [betaAfter, hr]
    clear hr
    go_enter Try.func56, Try.ntmps56
    go_wp2_with fail
    refine (impl_InRange _ _ _ _).mono ?_
    rintro e w' ⟨rfl, rfl⟩
    rw [HR.out]
    go_wp2_with fail
    have bx : Blk (w.alloc (.cells #[I x.kind, I x.ts, I x.beta, .slice A x.hops.length c] 56)) w.heap.size 56 [I x.kind, I x.ts, I x.beta, .slice A x.hops.length c] := Blk.new w _ _
    have ew : Ext w (w.alloc (.cells #[I x.kind, I x.ts, I x.beta, .slice A x.hops.length c] 56)) := (Ext.refl _).alloc _
    generalize w.alloc (.cells #[I x.kind, I x.ts, I x.beta, .slice A x.hops.length c] 56) = w0 at *
    have BX := Lib.hid bx; have EW := Lib.hid ew; clear bx ew
    go_loopw [5, 21] (fun b j wr => ∃ (k : Nat), k ≤ m ∧ j = I k ∧ b = I (chain (isRev x.kind) x.beta (x.hops.take k)) ∧ Ext w0 wr) (fun _ j _ => m - (intOf j).toNat)
    case atStart => exact ⟨0, by omega, rfl, by simp [chain], Ext.refl _⟩
    case round =>
      obtain ⟨k, hk, rfl, rfl, he⟩ := hrel
      have HE := Lib.hid he; clear he
      have bc := BX.out.ext HE.out
      have hlb := bc.lt
      obtain ⟨p0, p1, p2, p3⟩ := blk4 bc
      clear bc
      by_cases hlt : k < m
      · obtain ⟨b, off, rfl, hb, hkl, hc⟩ := (S.out.ext (EW.out.trans HE.out)).at_ (show k < x.hops.length by omega)
        have HX := Lib.hid (chain_snoc (isRev x.kind) x.beta x.hops k hkl)
        generalize x.hops[k] = y at *
        obtain ⟨h0, h1, h2, h3, h4⟩ := hc
        generalize chain (isRev x.kind) x.beta (x.hops.take k) = z at *
        generalize hrv : isRev x.kind = rv at *
        have HV := Lib.hid hrv; clear hrv
        cases rv
        · go_wp2_with (first | (go_at_call 15; refine (impl_IsReversed _ _).mono ?_; rintro e w' ⟨rfl, rfl⟩; rw [HV.out]) | (go_at_call 74; refine (impl_AddMod _ _ _).mono ?_; rintro e w' ⟨rfl, rfl⟩))
          go_roundw
          case rel => exact ⟨k + 1, by omega, by go_num, by rw [HX.out]; rfl, HE.out.alloc _⟩
          case measure => simp [intOf]; omega
        · go_wp2_with (first | (go_at_call 15; refine (impl_IsReversed _ _).mono ?_; rintro e w' ⟨rfl, rfl⟩; rw [HV.out]) | (go_at_call 73; refine (impl_SubMod _ _ _).mono ?_; rintro e w' ⟨rfl, rfl⟩))
          go_roundw
          case rel => exact ⟨k + 1, by omega, by go_num, by rw [HX.out]; rfl, HE.out.alloc _⟩
          case measure => simp [intOf]; omega
      · obtain rfl : k = m := by omega
        go_wp2_with fail
        go_ret
        exact ⟨ret_int HF.out.symm, EW.out.trans HE.out⟩
end Go.Proofs.Ytikjpenhpmamiaa
