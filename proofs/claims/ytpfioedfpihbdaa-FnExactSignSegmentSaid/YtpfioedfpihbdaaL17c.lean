/- Contracts of the program's and the reference's functions on what is signed: hopInts, SignedData. -/
import Derived.Test.YtpfioedfpihbdaaL09
import Derived.Test.YtpfioedfpihbdaaHSegment
namespace Go.Proofs.Ytpfioedfpihbdaa
open Go.RowKit
set_option linter.unusedVariables false
def hopInts (h : DHop) : List Int := [h.asn, h.ing, h.egr, h.exp, h.mac]
def signedData (s : DSegment) (i : Int) : List Int := if inR i 0 s.hops.length then [s.ts, s.beta, i] ++ (s.hops.take i.toNat).flatMap hopInts else []
theorem hopInts_len (l : List DHop) : (l.flatMap hopInts).length = l.length * 5 := by
  induction l with
  | nil => rfl
  | cons h l ih => rw [List.flatMap_cons, List.length_append, ih, List.length_cons]; simp [hopInts]; omega
theorem signedData_len (s : DSegment) (i : Int) : (signedData s i).length ≤ 3 + 5 * s.hops.length := by
  unfold signedData
  split
  · have h := hopInts_len (s.hops.take i.toNat)
    have h2 : (s.hops.take i.toNat).length ≤ s.hops.length := by rw [List.length_take]; omega
    rw [List.length_append, h]
    simp
    omega
  · simp
theorem hopInts_snoc (l : List DHop) (k : Nat) (h : k < l.length) : (l.take (k + 1)).flatMap hopInts = (l.take k).flatMap hopInts ++ hopInts l[k] := by
  rw [take_snoc l k h, List.flatMap_append]
  simp
set_option maxRecDepth 100000 in
set_option maxHeartbeats 1000000 in
theorem impl_hopInts (h : DHop) (w : World) : Calls Try.prog 144 #[.agg #[I h.asn, I h.ing, I h.egr, I h.exp, I h.mac]] w fun e w' => ∃ v', e = .returned v' ∧ IntSO w.heap.size w'.heap.size w' v' (hopInts h) ∧ Ext w w' := by
  go_enter Try.func144, Try.ntmps144
  go_wp2
  go_ret
  refine ⟨_, rfl, ?_, (by repeat (first | (with_reducible exact Ext.refl _) | (with_reducible assumption) | (with_reducible refine Ext.alloc ?_ _) | (with_reducible refine Ext.drew ?_) | (with_reducible refine Ext.drewN ?_ _) | (with_reducible refine Ext.setCell (p := _) ?_ ?ge _; case ge => (dsimp only; omega)) | (with_reducible refine Ext.trans ?_ (by with_reducible assumption))))⟩
  refine Own.of_blk (cs := (hopInts h).map I) ?_ rfl (by unfold maxLen; simp) (by simp) (by simp)
  unfold Blk
  rw [← World.size_alloc]
  exact heap_alloc_new _ _
set_option maxRecDepth 100000 in
set_option maxHeartbeats 1000000 in
theorem impl_SignedData (v : Value) (i : Int) (x : DSegment) (w : World) (h : SegmentV w.heap.size w v x) (hn : x.hops.length ≤ 16777216) :
    Calls Try.prog 109 #[v, I i] w fun e w' => ∃ v', e = .returned v' ∧ IntSO w.heap.size w'.heap.size w' v' (signedData x i) ∧ Ext w w' := by
  obtain ⟨A, n, c, rfl, s⟩ := h
  obtain ⟨hl, hnc, hm⟩ := s.len
  subst hl
  unfold maxLen at hm
  have S := Lib.hid s; clear s
  cases hr : inR i 0 x.hops.length
  · have HR := Lib.hid hr
    have HF : Hid (signedData x i = []) := by unfold Hid; simp [signedData, hr]
    clear hr
    go_enter Try.func109, Try.ntmps109
    go_wp2_with fail
    refine (impl_InRange _ _ _ _).mono ?_
    rintro e w' ⟨rfl, rfl⟩
    rw [HR.out]
    go_wp2_with fail
    go_ret
    rw [HF.out]
    exact ⟨_, rfl, Own.nil _ _ _ _ _, (by repeat (first | (with_reducible exact Ext.refl _) | (with_reducible assumption) | (with_reducible refine Ext.alloc ?_ _) | (with_reducible refine Ext.drew ?_) | (with_reducible refine Ext.drewN ?_ _) | (with_reducible refine Ext.setCell (p := _) ?_ ?ge _; case ge => (dsimp only; omega)) | (with_reducible refine Ext.trans ?_ (by with_reducible assumption))))⟩
  · have HR := Lib.hid hr
    obtain ⟨i0, i1⟩ := inR_iff.1 hr
    obtain ⟨m, rfl⟩ := Int.eq_ofNat_of_zero_le i0
    have HF : Hid (signedData x m = [x.ts, x.beta, (m : Int)] ++ (x.hops.take m).flatMap hopInts) := by unfold Hid; simp [signedData, hr]
    clear hr
    go_enter Try.func109, Try.ntmps109
    go_wp2_with fail
    refine (impl_InRange _ _ _ _).mono ?_
    rintro e w' ⟨rfl, rfl⟩
    rw [HR.out]
    go_wp2_with fail
    have ob : Own 3 1 w.heap.size ((w.alloc (.cells #[I x.ts, I x.beta, .slice A x.hops.length c] 63)).alloc (.cells #[I x.ts, I x.beta, I m] 3)).heap.size ((w.alloc (.cells #[I x.ts, I x.beta, .slice A x.hops.length c] 63)).alloc (.cells #[I x.ts, I x.beta, I m] 3)) (.slice (some ⟨w.heap.size + 1, 0, none⟩) 3 3) 3 [I x.ts, I x.beta, I m] := by
      refine Own.of_blk ?_ rfl (by unfold maxLen; simp) (by simp) (by simp)
      have hb := Blk.new (w.alloc (.cells #[I x.ts, I x.beta, .slice A x.hops.length c] 63)) 3 [I x.ts, I x.beta, I m]
      simpa using hb
    have ew : Ext w ((w.alloc (.cells #[I x.ts, I x.beta, .slice A x.hops.length c] 63)).alloc (.cells #[I x.ts, I x.beta, I m] 3)) := ((Ext.refl _).alloc _).alloc _
    generalize (w.alloc (.cells #[I x.ts, I x.beta, .slice A x.hops.length c] 63)).alloc (.cells #[I x.ts, I x.beta, I m] 3) = w0 at *
    have OB := Lib.hid ob; have EW := Lib.hid ew; clear ob ew
    go_loopw [5, 25] (fun o j wr => ∃ (k : Nat), k ≤ m ∧ j = I k ∧ Own 3 1 w.heap.size wr.heap.size wr o (3 + k * 5) (([x.ts, x.beta, (m : Int)] ++ (x.hops.take k).flatMap hopInts).map I) ∧ Ext w wr) (fun _ j _ => m - (intOf j).toNat)
    case atStart => exact ⟨0, by omega, rfl, by simpa using OB.out, EW.out⟩
    case round =>
      obtain ⟨k, hk, rfl, ho, he⟩ := hrel
      have HE := Lib.hid he; clear he
      have HO := Lib.hid ho; clear ho
      by_cases hlt : k < m
      · obtain ⟨b, off, rfl, hb, hkl, hc⟩ := (S.out.ext HE.out).at_ (show k < x.hops.length by omega)
        have HX := Lib.hid (hopInts_snoc x.hops k hkl)
        generalize x.hops[k] = y at *
        obtain ⟨h0, h1, h2, h3, h4⟩ := hc
        go_wp2_with (at_builtin; refine hold ?_)
        refine (impl_hopInts y _).mono ?_
        rintro e w1 ⟨v1, rfl, o1, e1⟩
        have O1 := Lib.hid o1; clear o1
        obtain ⟨A1, n1, c1, rfl, hl1, _⟩ := IntSO_rd O1.out
        have he1 : Ext w w1 := (HE.out.alloc _).trans e1
        have z1 := e1.size
        simp only [World.size_alloc] at z1
        subst hl1
        go_wp2_with (at_builtin; refine hold ?_)
        refine unhold (wpList_app w rfl (.tmp 29) (.tmp 31) _ rfl 3 (.int .i64 0) 1 8 Try.underlying70 info_int rfl (by omega) _ _ _ rfl A1 _ c1 ((hopInts y).map I) rfl
          (by exact ((HO.out.alloc _).ext e1 (by simp only [World.size_alloc]; omega)).lt_size) (by exact row_ints (IntSO_rd O1.out)) (one_ints _) he1 (by unfold maxLen; simp [hopInts]; omega) (by simp [hopInts]; omega) ?_)
        intro v2 w2 o2 e2 _ _
        have O2 := Lib.hid o2; clear o2
        go_wp2_with (at_builtin; refine hold ?_)
        go_roundw
        case rel =>
          refine ⟨k + 1, by omega, by go_num, ?_, e2⟩
          have h := O2.out
          rw [HX.out]
          rw [show 3 + (k + 1) * 5 = 3 + k * 5 + (hopInts y).length from by simp [hopInts]; omega]
          simpa using h
        case measure => simp [intOf]; omega
      · obtain rfl : k = m := by omega
        go_wp2_with (at_builtin; refine hold ?_)
        go_ret
        rw [HF.out]
        refine ⟨_, rfl, ?_, HE.out⟩
        unfold IntSO
        rw [List.length_append, hopInts_len, List.length_take, Nat.min_eq_left (by omega)]
        exact HO.out
set_option maxRecDepth 100000 in
set_option maxHeartbeats 1000000 in
theorem spec_SignedData (v : Value) (i : Int) (x : DSegment) (w : World) (h : SegmentV w.heap.size w v x) (hn : x.hops.length ≤ 16777216) :
    Calls Try.prog 107 #[v, I i] w fun e w' => ∃ v', e = .returned v' ∧ IntSO w.heap.size w'.heap.size w' v' (signedData x i) ∧ Ext w w' := by
  obtain ⟨A, n, c, rfl, s⟩ := h
  obtain ⟨hl, hnc, hm⟩ := s.len
  subst hl
  unfold maxLen at hm
  have S := Lib.hid s; clear s
  cases hr : inR i 0 x.hops.length
  · have HR := Lib.hid hr
    have HF : Hid (signedData x i = []) := by unfold Hid; simp [signedData, hr]
    clear hr
    go_enter Try.func107, Try.ntmps107
    go_wp2_with fail
    refine (spec_l1In _ _ _ _).mono ?_
    rintro e w' ⟨rfl, rfl⟩
    rw [HR.out]
    go_wp2_with fail
    go_ret
    rw [HF.out]
    refine ⟨_, rfl, ?_, (by repeat (first | (with_reducible exact Ext.refl _) | (with_reducible assumption) | (with_reducible refine Ext.alloc ?_ _) | (with_reducible refine Ext.drew ?_) | (with_reducible refine Ext.drewN ?_ _) | (with_reducible refine Ext.setCell (p := _) ?_ ?ge _; case ge => (dsimp only; omega)) | (with_reducible refine Ext.trans ?_ (by with_reducible assumption))))⟩
    exact own_zero' _ 3 1 _ _ (by simp) (by simp)
  · have HR := Lib.hid hr
    obtain ⟨i0, i1⟩ := inR_iff.1 hr
    obtain ⟨m, rfl⟩ := Int.eq_ofNat_of_zero_le i0
    have HF : Hid (signedData x m = [x.ts, x.beta, (m : Int)] ++ (x.hops.take m).flatMap hopInts) := by unfold Hid; simp [signedData, hr]
    clear hr
    go_enter Try.func107, Try.ntmps107
    go_wp2_with fail
    refine (spec_l1In _ _ _ _).mono ?_
    rintro e w' ⟨rfl, rfl⟩
    rw [HR.out]
    go_wp2_with fail
    have bx : Blk (w.alloc (.cells #[I x.ts, I x.beta, .slice A x.hops.length c] 63)) w.heap.size 63 [I x.ts, I x.beta, .slice A x.hops.length c] := Blk.new w _ _
    have ew : Ext w (w.alloc (.cells #[I x.ts, I x.beta, .slice A x.hops.length c] 63)) := (Ext.refl _).alloc _
    have zw : w.heap.size + 1 = (w.alloc (.cells #[I x.ts, I x.beta, .slice A x.hops.length c] 63)).heap.size := by simp only [World.size_alloc]
    have ob := own_newN (w.alloc (.cells #[I x.ts, I x.beta, .slice A x.hops.length c] 63)) 3 1 3 _ (w.heap.size + 1) [I x.ts, I x.beta, I m] zw rfl (by unfold maxLen; omega) (Nat.le_refl _)
    have zl : w.heap.size ≤ (w.alloc (.cells #[I x.ts, I x.beta, .slice A x.hops.length c] 63)).heap.size := by omega
    clear zw
    generalize w.alloc (.cells #[I x.ts, I x.beta, .slice A x.hops.length c] 63) = wb at *
    have OB := Lib.hid ob; have EW := Lib.hid ew; have BX := Lib.hid bx; clear ob ew bx
    go_loopw [5, 6] (fun o j wr => ∃ (k : Nat), k ≤ m ∧ j = I k ∧ Own 3 1 wb.heap.size wr.heap.size wr o (3 + k * 5) (([x.ts, x.beta, (m : Int)] ++ (x.hops.take k).flatMap hopInts).map I) ∧ Ext wb wr) (fun _ j _ => m - (intOf j).toNat)
    case atStart => exact ⟨0, by omega, rfl, by simpa using OB.out, (Ext.refl _).alloc _⟩
    case round =>
      obtain ⟨k, hk, rfl, ho, he⟩ := hrel
      have HE := Lib.hid he; clear he
      have HO := Lib.hid ho; clear ho
      by_cases hlt : k < m
      · obtain ⟨b, off, rfl, hb, hkl, hc⟩ := (S.out.ext (EW.out.trans HE.out)).at_ (show k < x.hops.length by omega)
        have HX := Lib.hid (hopInts_snoc x.hops k hkl)
        generalize x.hops[k] = y at *
        obtain ⟨h0, h1, h2, h3, h4⟩ := hc
        have bc := BX.out.ext HE.out
        obtain ⟨p0, p1, p2⟩ := blk3 bc
        have lbx := bc.lt
        clear bc
        go_wp2_with (at_builtin; refine hold ?_)
        refine unhold (wpList_app wb rfl (.tmp 31) (.tmp 42) _ rfl 3 (.int .i64 0) 1 8 Try.underlying70 info_int rfl (by omega) _ _ _ rfl _ 5 5 ((hopInts y).map I) rfl
          (by exact ((HO.out.alloc _).alloc _).lt_size) (row_newN _ 3 1 5 _ ((hopInts y).map I) (by simp) rfl) (one_ints _) (by exact (HE.out.alloc _).alloc _) (by unfold maxLen; omega) (by omega) ?_)
        intro v2 w2 o2 e2 _ _
        have O2 := Lib.hid o2; clear o2
        go_wp2_with (at_builtin; refine hold ?_)
        go_roundw
        case rel =>
          refine ⟨k + 1, by omega, by go_num, ?_, e2⟩
          have h := O2.out
          rw [HX.out]
          rw [show 3 + (k + 1) * 5 = 3 + k * 5 + 5 from by omega]
          simpa using h
        case measure => simp [intOf]; omega
      · obtain rfl : k = m := by omega
        go_wp2_with (at_builtin; refine hold ?_)
        go_ret
        rw [HF.out]
        refine ⟨_, rfl, ?_, EW.out.trans HE.out⟩
        unfold IntSO
        rw [List.length_append, hopInts_len, List.length_take, Nat.min_eq_left (by omega)]
        exact HO.out.more zl (Nat.le_refl _)
end Go.Proofs.Ytpfioedfpihbdaa
