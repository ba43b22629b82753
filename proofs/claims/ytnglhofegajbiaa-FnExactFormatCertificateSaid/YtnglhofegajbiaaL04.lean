/- Contracts of the program's and the reference's functions on sets of small numbers: ValidSet, Contains, AddElement, Elements, SetSize. -/
import Derived.Test.YtnglhofegajbiaaL01
import Derived.Laws.BitsLemmas
namespace Go.Proofs.Ytnglhofegajbiaa
open Go.RowKit
set_option linter.unusedVariables false
def validSet (s : Int) : Bool := inR s 0 65535
def contains (s i : Int) : Bool := validSet s && (inR i 0 15 && s.toNat.testBit i.toNat)
theorem wraps_i64_63 (n : Int) (h₀ : 0 ≤ n) (h₁ : n < 2 ^ 63) : IntKind.i64.wrap n = n := IntWalk.i64_in _ (by omega)
theorem cast_shr (n k : Nat) : ((n : Int) / 2 ^ k) = ((n / 2 ^ k : Nat) : Int) := by simp
theorem bit_test (s i : Int) (h0 : 0 ≤ s) (h1 : s ≤ 65535) (i0 : 0 ≤ i) : (bits BinOp.and IntKind.i64 (s / 2 ^ i.toNat) 1 == 1) = s.toNat.testBit i.toNat := by
  obtain ⟨n, rfl⟩ := Int.eq_ofNat_of_zero_le h0
  obtain ⟨k, rfl⟩ := Int.eq_ofNat_of_zero_le i0
  have hd : n / 2 ^ k ≤ n := Nat.div_le_self _ _
  have h := (bits_nat .i64 63 (by decide) wraps_i64_63 (n / 2 ^ k) 1 (by omega) (by decide)).1
  simp only [Int.toNat_natCast, cast_shr]
  rw [show ((1 : Int)) = ((1 : Nat) : Int) from rfl, h, Nat.testBit_eq_decide_div_mod_eq, Nat.and_one_is_mod]
  generalize n / 2 ^ k % 2 = m
  by_cases hm : m = 1
  · subst hm; rfl
  · have : ¬ ((m : Int) = ((1 : Nat) : Int)) := by omega
    rw [decide_eq_false hm]
    exact beq_eq_false_iff_ne.2 this
theorem bit_or (s i : Int) (h0 : 0 ≤ s) (h1 : s ≤ 65535) (i0 : 0 ≤ i) (i1 : i ≤ 15) : bits BinOp.or IntKind.i64 s (wrap64 (2 ^ i.toNat)) = ((s.toNat ||| 2 ^ i.toNat : Nat) : Int) := by
  obtain ⟨n, rfl⟩ := Int.eq_ofNat_of_zero_le h0
  obtain ⟨k, rfl⟩ := Int.eq_ofNat_of_zero_le i0
  have hk : 2 ^ k ≤ 2 ^ 15 := Nat.pow_le_pow_right (by decide) (by omega)
  have h := (bits_nat .i64 63 (by decide) wraps_i64_63 n (2 ^ k) (by omega) (by omega)).2
  have hw : wrap64 ((2 : Int) ^ k) = ((2 ^ k : Nat) : Int) := by
    have e : ((2 : Int) ^ k) = ((2 ^ k : Nat) : Int) := by simp
    rw [e]
    generalize 2 ^ k = m at hk
    first | exact wraps_i64_63 _ (by omega) (by omega) | (unfold wrap64; omega)
  simp only [Int.toNat_natCast]
  rw [hw, h]
def addElem (s i : Int) : Int := if validSet s && inR i 0 15 then ((s.toNat ||| 2 ^ i.toNat : Nat) : Int) else s
set_option maxRecDepth 100000 in
set_option maxHeartbeats 1000000 in
theorem impl_ValidSet (s : Int) (w : World) : Calls Try.prog 47 #[I s] w fun e w' => e = .returned (.bool (validSet s)) ∧ w = w' := by
  go_enter Try.func47, Try.ntmps47
  go_wp2_with fail
  refine (impl_InRange _ _ _ _).mono ?_
  rintro e w' ⟨rfl, rfl⟩
  go_wp2_with fail
  go_ret
  exact ⟨rfl, rfl⟩
set_option maxRecDepth 100000 in
set_option maxHeartbeats 1000000 in
theorem spec_ValidSet (s : Int) (w : World) : Calls Try.prog 45 #[I s] w fun e w' => e = .returned (.bool (validSet s)) ∧ w = w' := by
  go_enter Try.func45, Try.ntmps45
  go_wp2_with fail
  refine (spec_l1In _ _ _ _).mono ?_
  rintro e w' ⟨rfl, rfl⟩
  go_wp2_with fail
  go_ret
  exact ⟨rfl, rfl⟩
set_option maxRecDepth 100000 in
set_option maxHeartbeats 1000000 in
theorem spec_l4One (i : Int) (w : World) : Calls Try.prog 46 #[I i] w fun e w' => e = .returned (.bool (inR i 0 15)) ∧ w = w' := by
  go_enter Try.func46, Try.ntmps46
  go_wp2_with fail
  refine (spec_l1In _ _ _ _).mono ?_
  rintro e w' ⟨rfl, rfl⟩
  go_wp2_with fail
  go_ret
  exact ⟨rfl, rfl⟩
set_option maxRecDepth 100000 in
set_option maxHeartbeats 1000000 in
theorem impl_Contains (s i : Int) (w : World) : Calls Try.prog 42 #[I s, I i] w fun e w' => e = .returned (.bool (contains s i)) ∧ w = w' := by
  cases h1 : validSet s
  · have HF : Hid (contains s i = false) := by unfold Hid; simp [contains, h1]
    have H1 := Lib.hid h1; clear h1
    go_enter Try.func42, Try.ntmps42
    go_wp2_with (first | (go_at_call 47; refine (impl_ValidSet _ _).mono ?_; rintro e w' ⟨rfl, rfl⟩; rw [H1.out]))
    go_ret
    exact ⟨ret_bool HF.out.symm, rfl⟩
  · cases h2 : inR i 0 15
    · have HF : Hid (contains s i = false) := by unfold Hid; simp [contains, h2]
      have H1 := Lib.hid h1; have H2 := Lib.hid h2; clear h1 h2
      go_enter Try.func42, Try.ntmps42
      go_wp2_with (first | (go_at_call 47; refine (impl_ValidSet _ _).mono ?_; rintro e w' ⟨rfl, rfl⟩; rw [H1.out]) | (go_at_call 44; refine ((impl_InRange _ _ _ _)).mono ?_; rintro e w' ⟨rfl, rfl⟩; rw [H2.out]))
      go_ret
      exact ⟨ret_bool HF.out.symm, rfl⟩
    · obtain ⟨s0, s1⟩ := inR_iff.1 h1
      obtain ⟨i0, i1⟩ := inR_iff.1 h2
      have HF : Hid (contains s i = s.toNat.testBit i.toNat) := by unfold Hid; simp [contains, h1, h2]
      have H1 := Lib.hid h1; have H2 := Lib.hid h2; clear h1 h2
      go_enter Try.func42, Try.ntmps42
      go_wp2_with (first | (go_at_call 47; refine (impl_ValidSet _ _).mono ?_; rintro e w' ⟨rfl, rfl⟩; rw [H1.out]) | (go_at_call 44; refine ((impl_InRange _ _ _ _)).mono ?_; rintro e w' ⟨rfl, rfl⟩; rw [H2.out]))
      go_ret
      exact ⟨ret_bool (by rw [HF.out, bit_test s i s0 s1 i0]), rfl⟩
set_option maxRecDepth 100000 in
set_option maxHeartbeats 1000000 in
theorem spec_Contains (s i : Int) (w : World) : Calls Try.prog 41 #[I s, I i] w fun e w' => e = .returned (.bool (contains s i)) ∧ w = w' := by
  cases h1 : validSet s
  · have HF : Hid (contains s i = false) := by unfold Hid; simp [contains, h1]
    have H1 := Lib.hid h1; clear h1
    go_enter Try.func41, Try.ntmps41
    go_wp2_with (first | (go_at_call 45; refine (spec_ValidSet _ _).mono ?_; rintro e w' ⟨rfl, rfl⟩; rw [H1.out]))
    go_ret
    exact ⟨ret_bool HF.out.symm, rfl⟩
  · cases h2 : inR i 0 15
    · have HF : Hid (contains s i = false) := by unfold Hid; simp [contains, h2]
      have H1 := Lib.hid h1; have H2 := Lib.hid h2; clear h1 h2
      go_enter Try.func41, Try.ntmps41
      go_wp2_with (first | (go_at_call 45; refine (spec_ValidSet _ _).mono ?_; rintro e w' ⟨rfl, rfl⟩; rw [H1.out]) | (go_at_call 46; refine ((spec_l4One _ _)).mono ?_; rintro e w' ⟨rfl, rfl⟩; rw [H2.out]))
      go_ret
      exact ⟨ret_bool HF.out.symm, rfl⟩
    · obtain ⟨s0, s1⟩ := inR_iff.1 h1
      obtain ⟨i0, i1⟩ := inR_iff.1 h2
      have HF : Hid (contains s i = s.toNat.testBit i.toNat) := by unfold Hid; simp [contains, h1, h2]
      have H1 := Lib.hid h1; have H2 := Lib.hid h2; clear h1 h2
      go_enter Try.func41, Try.ntmps41
      go_wp2_with (first | (go_at_call 45; refine (spec_ValidSet _ _).mono ?_; rintro e w' ⟨rfl, rfl⟩; rw [H1.out]) | (go_at_call 46; refine ((spec_l4One _ _)).mono ?_; rintro e w' ⟨rfl, rfl⟩; rw [H2.out]))
      go_ret
      exact ⟨ret_bool (by rw [HF.out, bit_test s i s0 s1 i0]), rfl⟩
def elemsTo (s : Int) (k : Nat) : List Int := ((List.range k).filter fun i : Nat => contains s i).map fun i : Nat => (i : Int)
def elements (s : Int) : List Int := elemsTo s 16
theorem elemsTo_yes {s : Int} {k : Nat} (h : contains s k = true) : elemsTo s (k + 1) = elemsTo s k ++ [(k : Int)] := by simp [elemsTo, List.range_succ, List.filter_append, h]
theorem elemsTo_no {s : Int} {k : Nat} (h : contains s k = false) : elemsTo s (k + 1) = elemsTo s k := by simp [elemsTo, List.range_succ, List.filter_append, h]
theorem elemsTo_len (s : Int) (k : Nat) : (elemsTo s k).length ≤ k := by
  unfold elemsTo
  have := List.length_filter_le (fun i : Nat => contains s i) (List.range k)
  simp at this ⊢
  omega
set_option maxRecDepth 100000 in
set_option maxHeartbeats 1000000 in
theorem impl_Elements (s : Int) (w : World) : Calls Try.prog 33 #[I s] w fun e w' => ∃ v', e = .returned v' ∧ IntSO w.heap.size w'.heap.size w' v' (elements s) ∧ Ext w w' := by
  go_enter Try.func33, Try.ntmps33
  go_wp2_with fail
  go_loopw [3, 4] (fun v i wr => ∃ k : Nat, k ≤ 16 ∧ i = I k ∧ IntSO w.heap.size wr.heap.size wr v (elemsTo s k) ∧ Ext w wr) (fun _ i _ => 16 - (intOf i).toNat)
  case atStart => exact ⟨0, by omega, rfl, by first | exact Own.nil _ _ _ _ _ | exact own_zero _ _ _ _ (Nat.le_refl _), (by repeat (first | (with_reducible exact Ext.refl _) | (with_reducible assumption) | (with_reducible refine Ext.alloc ?_ _) | (with_reducible refine Ext.drew ?_) | (with_reducible refine Ext.drewN ?_ _) | (with_reducible refine Ext.setCell (p := _) ?_ ?ge _; case ge => (dsimp only; omega)) | (with_reducible refine Ext.trans ?_ (by with_reducible assumption))))⟩
  case round =>
    obtain ⟨k, hk, rfl, ho, he⟩ := hrel
    have HO := Lib.hid ho; have HE := Lib.hid he; clear ho he
    by_cases hlt : k < 16
    · cases hc : contains s k
      · have HC := Lib.hid hc; clear hc
        go_wp2_with fail
        refine (impl_Contains _ _ _).mono ?_
        rintro e w' ⟨rfl, rfl⟩
        rw [HC.out]
        go_wp2_with fail
        go_roundw
        case rel => exact ⟨k + 1, by omega, by go_num, by rw [elemsTo_no HC.out]; exact HO.out, HE.out⟩
        case measure => simp [intOf]; omega
      · have HC := Lib.hid hc; clear hc
        have hle := elemsTo_len s k
        go_wp2_with fail
        refine (impl_Contains _ _ _).mono ?_
        rintro e w' ⟨rfl, rfl⟩
        rw [HC.out]
        go_wp2_with (at_builtin; refine hold ?_)
        refine unhold (wpList_app w rfl (.tmp 12) (.tmp 14) _ rfl 3 (.int .i64 0) 1 8 Try.underlying68 info_int rfl (by omega) _ (elemsTo s k).length ((elemsTo s k).map I) rfl _ 1 1 [I k] rfl
          (by exact (HO.out.alloc _).lt_size) (row_new wr 3 1 [I k] rfl) (one_ints [(k : Int)]) (by exact HE.out.alloc _) (by unfold maxLen; omega) (by omega) ?_)
        intro v1 w1 ho1 he1 _ _
        have O1 := Lib.hid ho1; clear ho1
        go_wp2_with (at_builtin; refine hold ?_)
        go_roundw
        case rel => exact ⟨k + 1, by omega, by go_num, by rw [elemsTo_yes HC.out]; unfold IntSO; simpa using O1.out, he1⟩
        case measure => simp [intOf]; omega
    · obtain rfl : k = 16 := by omega
      go_wp2_with fail
      go_ret
      exact ⟨_, rfl, HO.out, HE.out⟩
set_option maxRecDepth 100000 in
set_option maxHeartbeats 1000000 in
theorem spec_Elements (s : Int) (w : World) : Calls Try.prog 32 #[I s] w fun e w' => ∃ v', e = .returned v' ∧ IntSO w.heap.size w'.heap.size w' v' (elements s) ∧ Ext w w' := by
  go_enter Try.func32, Try.ntmps32
  go_wp2_with fail
  go_loopw [3, 4] (fun v i wr => ∃ k : Nat, k ≤ 16 ∧ i = I k ∧ IntSO w.heap.size wr.heap.size wr v (elemsTo s k) ∧ Ext w wr) (fun _ i _ => 16 - (intOf i).toNat)
  case atStart => exact ⟨0, by omega, rfl, by first | exact Own.nil _ _ _ _ _ | exact own_zero _ _ _ _ (Nat.le_refl _), (by repeat (first | (with_reducible exact Ext.refl _) | (with_reducible assumption) | (with_reducible refine Ext.alloc ?_ _) | (with_reducible refine Ext.drew ?_) | (with_reducible refine Ext.drewN ?_ _) | (with_reducible refine Ext.setCell (p := _) ?_ ?ge _; case ge => (dsimp only; omega)) | (with_reducible refine Ext.trans ?_ (by with_reducible assumption))))⟩
  case round =>
    obtain ⟨k, hk, rfl, ho, he⟩ := hrel
    have HO := Lib.hid ho; have HE := Lib.hid he; clear ho he
    by_cases hlt : k < 16
    · cases hc : contains s k
      · have HC := Lib.hid hc; clear hc
        go_wp2_with fail
        refine (spec_Contains _ _ _).mono ?_
        rintro e w' ⟨rfl, rfl⟩
        rw [HC.out]
        go_wp2_with fail
        go_roundw
        case rel => exact ⟨k + 1, by omega, by go_num, by rw [elemsTo_no HC.out]; exact HO.out, HE.out⟩
        case measure => simp [intOf]; omega
      · have HC := Lib.hid hc; clear hc
        have hle := elemsTo_len s k
        go_wp2_with fail
        refine (spec_Contains _ _ _).mono ?_
        rintro e w' ⟨rfl, rfl⟩
        rw [HC.out]
        go_wp2_with (at_builtin; refine hold ?_)
        refine unhold (wpList_app w rfl (.tmp 13) (.tmp 15) _ rfl 3 (.int .i64 0) 1 8 Try.underlying68 info_int rfl (by omega) _ (elemsTo s k).length ((elemsTo s k).map I) rfl _ 1 1 [I k] rfl
          (by exact (HO.out.alloc _).lt_size) (row_new wr 3 1 [I k] rfl) (one_ints [(k : Int)]) (by exact HE.out.alloc _) (by unfold maxLen; omega) (by omega) ?_)
        intro v1 w1 ho1 he1 _ _
        have O1 := Lib.hid ho1; clear ho1
        go_wp2_with (at_builtin; refine hold ?_)
        go_roundw
        case rel => exact ⟨k + 1, by omega, by go_num, by rw [elemsTo_yes HC.out]; unfold IntSO; simpa using O1.out, he1⟩
        case measure => simp [intOf]; omega
    · obtain rfl : k = 16 := by omega
      go_wp2_with fail
      go_ret
      exact ⟨_, rfl, HO.out, HE.out⟩
set_option maxRecDepth 100000 in
set_option maxHeartbeats 1000000 in
theorem impl_SetSize (s : Int) (w : World) : Calls Try.prog 21 #[I s] w fun e w' => e = .returned (I (elements s).length) ∧ Ext w w' := by
  go_enter Try.func21, Try.ntmps21
  go_wp2_with fail
  refine (impl_Elements _ _).mono ?_
  rintro e w1 ⟨v1, rfl, o1, e1⟩
  obtain ⟨A, n, c, rfl, hl, -⟩ := IntSO_rd o1
  have HL := Lib.hid hl; clear hl o1
  go_wp2_with fail
  go_ret
  exact ⟨ret_int (by rw [HL.out]), e1⟩
set_option maxRecDepth 100000 in
set_option maxHeartbeats 1000000 in
theorem spec_SetSize (s : Int) (w : World) : Calls Try.prog 18 #[I s] w fun e w' => e = .returned (I (elements s).length) ∧ Ext w w' := by
  go_enter Try.func18, Try.ntmps18
  go_wp2_with fail
  refine (spec_Elements _ _).mono ?_
  rintro e w1 ⟨v1, rfl, o1, e1⟩
  obtain ⟨A, n, c, rfl, hl, -⟩ := IntSO_rd o1
  have HL := Lib.hid hl; clear hl o1
  go_wp2_with fail
  go_ret
  exact ⟨ret_int (by rw [HL.out]), e1⟩
end Go.Proofs.Ytnglhofegajbiaa
