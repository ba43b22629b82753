/- Contracts of the program's and the reference's functions on numbers: InRange, Mod. -/
import Derived.Test.YtmopmgaeiokfjaaGreatGCore
import Derived.Laws.BitsLemmas
set_option maxRecDepth 100000
set_option maxHeartbeats 1000000
namespace Go.Proofs.YtmopmgaeiokfjaaGreat
open Go.RowKit
set_option linter.unusedVariables false
def inR (n a b : Int) : Bool := decide (a ≤ n) && decide (n ≤ b)
theorem inR_true {n a b : Int} (h1 : a ≤ n) (h2 : n ≤ b) : inR n a b = true := by simp [inR, h1, h2]
theorem inR_false {n a b : Int} (h : n < a ∨ b < n) : inR n a b = false := by simp [inR]; omega
theorem inR_iff {n a b : Int} : inR n a b = true ↔ a ≤ n ∧ n ≤ b := by simp [inR]
theorem impl_InRange (n a b : Int) (w : World) : Calls Tryz.prog 59 #[I n, I a, I b] w fun e w' => e = .returned (.bool (inR n a b)) ∧ w = w' := by
 by_cases h1 : a ≤ n
 · by_cases h2 : n ≤ b
   · have HF := Lib.hid (inR_true h1 h2)
     go_enter Tryz.func59, Tryz.ntmps59
     go_wp2
     go_ret
     exact ⟨ret_bool HF.out.symm, rfl⟩
   · have HF := Lib.hid (inR_false (n := n) (a := a) (b := b) (by omega))
     have hd : decide (n ≤ b) = false := by simpa using h2
     go_enter Tryz.func59, Tryz.ntmps59
     go_wp2
     go_ret
     exact ⟨ret_bool HF.out.symm, rfl⟩
 · have HF := Lib.hid (inR_false (n := n) (a := a) (b := b) (by omega))
   have hd : decide (a ≤ n) = false := by simpa using h1
   go_enter Tryz.func59, Tryz.ntmps59
   go_wp2
   go_ret
   exact ⟨ret_bool HF.out.symm, rfl⟩
theorem spec_l1In (n a b : Int) (w : World) : Calls Tryz.prog 78 #[I n, I a, I b] w fun e w' => e = .returned (.bool (inR n a b)) ∧ w = w' := by
 by_cases h1 : a ≤ n
 · by_cases h2 : n ≤ b
   · have HF := Lib.hid (inR_true h1 h2)
     go_enter Tryz.func78, Tryz.ntmps78
     go_wp2
     go_ret
     exact ⟨ret_bool HF.out.symm, rfl⟩
   · have HF := Lib.hid (inR_false (n := n) (a := a) (b := b) (by omega))
     have hd : decide (n ≤ b) = false := by simpa using h2
     go_enter Tryz.func78, Tryz.ntmps78
     go_wp2
     go_ret
     exact ⟨ret_bool HF.out.symm, rfl⟩
 · have HF := Lib.hid (inR_false (n := n) (a := a) (b := b) (by omega))
   have hd : decide (a ≤ n) = false := by simpa using h1
   go_enter Tryz.func78, Tryz.ntmps78
   go_wp2
   go_ret
   exact ⟨ret_bool HF.out.symm, rfl⟩
theorem mod_two (n m : Int) (h1 : 1 ≤ m) (_h2 : m ≤ 1000000000000) : (n.tmod m + m) % m = n % m := by
 rw [Int.add_emod_right]
 rcases Int.lt_or_le n 0 with hn | hn
 · have h : n.tmod m = -((-n) % m) := by
    rw [← Int.neg_neg n, Int.neg_tmod, Int.neg_neg, Int.tmod_eq_emod_of_nonneg (by omega)]
   rw [h];have e := Int.emod_add_mul_ediv (-n) m
   have : -(-n % m) = n + m * (-n / m) := by omega
   rw [this, Int.add_mul_emod_self_left]
 · rw [Int.tmod_eq_emod_of_nonneg hn, Int.emod_emod_of_dvd _ (Int.dvd_refl _)]
theorem impl_Mod (n m : Int) (w : World) (h1 : 1 ≤ m) (h2 : m ≤ 1000000000000) : Calls Tryz.prog 164 #[I n, I m] w fun e w' => e = .returned (I (n % m)) ∧ w = w' := by
 have HF := Lib.hid (mod_two n m h1 h2);have HT := Lib.hid (inR_true h1 h2);have hb := Int.tmod_lt_of_pos n (show 0 < m by omega)
 have ha : -m < n.tmod m := by
  have := Int.tmod_lt_of_pos (-n) (show 0 < m by omega);rw [Int.neg_tmod] at this;omega
 go_enter Tryz.func164, Tryz.ntmps164
 go_wp2_with fail
 refine (impl_InRange _ _ _ _).mono ?_;rintro e w' ⟨rfl, rfl⟩;rw [HT.out];go_wp2
 go_ret
 exact ⟨ret_int HF.out, rfl⟩
theorem spec_Mod (n m : Int) (w : World) (h1 : 1 ≤ m) (h2 : m ≤ 1000000000000) : Calls Tryz.prog 161 #[I n, I m] w fun e w' => e = .returned (I (n % m)) ∧ w = w' := by
 have HF := Lib.hid (mod_two n m h1 h2);have HT := Lib.hid (inR_true h1 h2);have hb := Int.tmod_lt_of_pos n (show 0 < m by omega)
 have ha : -m < n.tmod m := by
  have := Int.tmod_lt_of_pos (-n) (show 0 < m by omega);rw [Int.neg_tmod] at this;omega
 go_enter Tryz.func161, Tryz.ntmps161
 go_wp2_with fail
 refine (spec_l1In _ _ _ _).mono ?_;rintro e w' ⟨rfl, rfl⟩;rw [HT.out];go_wp2
 go_ret
 exact ⟨ret_int HF.out, rfl⟩
def isRes (n : Int) : Bool := inR n 0 2147483646
theorem isRes_iff {n : Int} : isRes n = true ↔ 0 ≤ n ∧ n ≤ 2147483646 := inR_iff
def addM (b s : Int) : Int := if isRes b && isRes s then (b + s) % 2147483647 else 0
def dig1 (d x : Int) : Int := (d * 1000003 + x % 2147483647 + 11) % 2147483647
def digest (l : List Int) : Int := l.foldl dig1 7
def mac (key : Int) (l : List Int) : Int := digest ([key] ++ l ++ [key])
theorem addM_res {b s : Int} (h1 : isRes b = true) (h2 : isRes s = true) : addM b s = (b + s) % 2147483647 := by simp [addM, h1, h2]
theorem impl_isResidue (n : Int) (w : World) : Calls Tryz.prog 60 #[I n] w fun e w' => e = .returned (.bool (isRes n)) ∧ w = w' := by
 go_enter Tryz.func60, Tryz.ntmps60
 go_wp2_with fail
 refine (impl_InRange _ _ _ _).mono ?_;rintro e w' ⟨rfl, rfl⟩;go_wp2
 go_ret
 exact ⟨rfl, rfl⟩
theorem spec_l3Ok (n : Int) (w : World) : Calls Tryz.prog 79 #[I n] w fun e w' => e = .returned (.bool (isRes n)) ∧ w = w' := by
 go_enter Tryz.func79, Tryz.ntmps79
 go_wp2_with fail
 refine (spec_l1In _ _ _ _).mono ?_;rintro e w' ⟨rfl, rfl⟩;go_wp2
 go_ret
 exact ⟨rfl, rfl⟩
theorem impl_AddMod (b s : Int) (w : World) : Calls Tryz.prog 154 #[I b, I s] w fun e w' => e = .returned (I (addM b s)) ∧ w = w' := by
 cases h1 : isRes b
 · have HF : Hid (addM b s = 0) := by unfold Hid; simp [addM, h1]
   have H1 := Lib.hid h1; clear h1
   go_enter Tryz.func154, Tryz.ntmps154
   go_wp2_with (first | (go_at_call 60; refine (impl_isResidue _ _).mono ?_; rintro e w' ⟨rfl, rfl⟩; rw [H1.out]))
   go_ret
   exact ⟨ret_int HF.out.symm, rfl⟩
 · cases h2 : isRes s
   · have HF : Hid (addM b s = 0) := by unfold Hid; simp [addM, h2]
     have H1 := Lib.hid h1; clear h1;have H2 := Lib.hid h2; clear h2
     go_enter Tryz.func154, Tryz.ntmps154
     go_wp2_with (first | (go_at_call 60; refine (impl_isResidue _ _).mono ?_; rintro e w' ⟨rfl, rfl⟩; first | rw [H1.out] | rw [H2.out]))
     go_ret
     exact ⟨ret_int HF.out.symm, rfl⟩
   · obtain ⟨b0, b1⟩ := isRes_iff.1 h1
     obtain ⟨s0, s1⟩ := isRes_iff.1 h2;have HF := Lib.hid (addM_res h1 h2);have H1 := Lib.hid h1; clear h1;have H2 := Lib.hid h2; clear h2
     go_enter Tryz.func154, Tryz.ntmps154
     go_wp2_with (first | (go_at_call 60; refine (impl_isResidue _ _).mono ?_; rintro e w' ⟨rfl, rfl⟩; first | rw [H1.out] | rw [H2.out]))
     go_ret
     exact ⟨ret_int HF.out.symm, rfl⟩
theorem spec_AddMod (b s : Int) (w : World) : Calls Tryz.prog 141 #[I b, I s] w fun e w' => e = .returned (I (addM b s)) ∧ w = w' := by
 cases h1 : isRes b
 · have HF : Hid (addM b s = 0) := by unfold Hid; simp [addM, h1]
   have H1 := Lib.hid h1; clear h1
   go_enter Tryz.func141, Tryz.ntmps141
   go_wp2_with (first | (go_at_call 79; refine (spec_l3Ok _ _).mono ?_; rintro e w' ⟨rfl, rfl⟩; rw [H1.out]))
   go_ret
   exact ⟨ret_int HF.out.symm, rfl⟩
 · cases h2 : isRes s
   · have HF : Hid (addM b s = 0) := by unfold Hid; simp [addM, h2]
     have H1 := Lib.hid h1; clear h1;have H2 := Lib.hid h2; clear h2
     go_enter Tryz.func141, Tryz.ntmps141
     go_wp2_with (first | (go_at_call 79; refine (spec_l3Ok _ _).mono ?_; rintro e w' ⟨rfl, rfl⟩; first | rw [H1.out] | rw [H2.out]))
     go_ret
     exact ⟨ret_int HF.out.symm, rfl⟩
   · obtain ⟨b0, b1⟩ := isRes_iff.1 h1
     obtain ⟨s0, s1⟩ := isRes_iff.1 h2;have HF := Lib.hid (addM_res h1 h2);have H1 := Lib.hid h1; clear h1;have H2 := Lib.hid h2; clear h2
     go_enter Tryz.func141, Tryz.ntmps141
     go_wp2_with (first | (go_at_call 79; refine (spec_l3Ok _ _).mono ?_; rintro e w' ⟨rfl, rfl⟩; first | rw [H1.out] | rw [H2.out]))
     go_ret
     exact ⟨ret_int HF.out.symm, rfl⟩
theorem impl_Digest (v : Value) (l : List Int) (w : World) (h : IntS w.heap.size w v l) : Calls Tryz.prog 160 #[v] w fun e w' => e = .returned (I (digest l)) ∧ w = w' := by
 obtain ⟨A, n, c, rfl, hl, hn, hm, -⟩ := id h;have H := Lib.hid h; have HL := Lib.hid hl; clear h hl;unfold maxLen at hm
 go_enter Tryz.func160, Tryz.ntmps160
 go_wp2
 go_loop [3,8] (fun d i => ∃ (k : Nat) (z : Int), k ≤ n ∧ i = I k ∧ d = I z ∧ z = (l.take k).foldl dig1 7 ∧ 0 ≤ z ∧ z < 2147483647) (fun _ i => n - (intOf i).toNat)
 case atStart => exact ⟨0, 7, by omega, rfl, rfl, by simp, by omega, by omega⟩
 case round =>
  obtain ⟨k, z, hk, rfl, rfl, hz, h0, h1⟩ := hrel;have HZ := Lib.hid hz; clear hz;by_cases hlt : k < n
  · obtain ⟨b, off, rfl, hb, hkl, hc⟩ := H.out.at_ hlt
    have HX := Lib.hid (foldl_snoc dig1 7 l k hkl);have hc : w.cell? ⟨b, off + k, none⟩ = some (I l[k]) := hc
    generalize l[k] = x at *
    have hx0 : 0 ≤ x % 2147483647 := by omega
    have hx1 : x % 2147483647 < 2147483647 := by omega
    go_wp2_with (first | (go_at_call 164; refine (impl_Mod _ _ _ (by omega) (by omega)).mono ?_; rintro e w' ⟨rfl, rfl⟩))
    go_round
    case rel => exact ⟨k + 1, dig1 z x, by omega, by go_num, rfl, by rw [HX.out, HZ.out], by unfold dig1; omega, by unfold dig1; omega⟩
    case measure => simp [intOf]; omega
  · go_wp2
    go_ret
    exact ⟨ret_int (by rw [HZ.out, List.take_of_length_le (by rw [HL.out]; omega)]; rfl), rfl⟩
theorem spec_Digest (v : Value) (l : List Int) (w : World) (h : IntS w.heap.size w v l) : Calls Tryz.prog 156 #[v] w fun e w' => e = .returned (I (digest l)) ∧ w = w' := by
 obtain ⟨A, n, c, rfl, hl, hn, hm, -⟩ := id h;have H := Lib.hid h; have HL := Lib.hid hl; clear h hl;unfold maxLen at hm
 go_enter Tryz.func156, Tryz.ntmps156
 go_wp2
 go_loop [3,4] (fun d i => ∃ (k : Nat) (z : Int), k ≤ n ∧ i = I k ∧ d = I z ∧ z = (l.take k).foldl dig1 7 ∧ 0 ≤ z ∧ z < 2147483647) (fun _ i => n - (intOf i).toNat)
 case atStart => exact ⟨0, 7, by omega, rfl, rfl, by simp, by omega, by omega⟩
 case round =>
  obtain ⟨k, z, hk, rfl, rfl, hz, h0, h1⟩ := hrel;have HZ := Lib.hid hz; clear hz;by_cases hlt : k < n
  · obtain ⟨b, off, rfl, hb, hkl, hc⟩ := H.out.at_ hlt
    have HX := Lib.hid (foldl_snoc dig1 7 l k hkl);have hc : w.cell? ⟨b, off + k, none⟩ = some (I l[k]) := hc
    generalize l[k] = x at *
    have hx0 : 0 ≤ x % 2147483647 := by omega
    have hx1 : x % 2147483647 < 2147483647 := by omega
    go_wp2_with (first | (go_at_call 161; refine (spec_Mod _ _ _ (by omega) (by omega)).mono ?_; rintro e w' ⟨rfl, rfl⟩))
    go_round
    case rel => exact ⟨k + 1, dig1 z x, by omega, by go_num, rfl, by rw [HX.out, HZ.out], by unfold dig1; omega, by unfold dig1; omega⟩
    case measure => simp [intOf]; omega
  · go_wp2
    go_ret
    exact ⟨ret_int (by rw [HZ.out, List.take_of_length_le (by rw [HL.out]; omega)]; rfl), rfl⟩
theorem impl_ComputeMAC (key : Int) (v : Value) (l : List Int) (w : World) (h : IntS w.heap.size w v l) (hl : l.length ≤ 1000000000) :
 Calls Tryz.prog 153 #[I key, v] w fun e w' => e = .returned (I (mac key l)) ∧ Ext w w' := by
 obtain ⟨A, n, c, rfl, hl1, hn, hm, -⟩ := id h;subst hl1;have H := Lib.hid h; clear h;unfold maxLen at hm
 go_enter Tryz.func153, Tryz.ntmps153
 go_wp2_with (at_builtin; refine hold ?_)
 refine unhold (wpList_app w rfl (.tmp 6) (.tmp 7) _ rfl 3 (.int .i64 0) 1 8 Tryz.underlying96 info_int rfl (by omega) _ 1 [I key] rfl A l.length c (l.map I) rfl
  (own_new w 3 1 _ [I key] rfl (Nat.le_refl _)) (by exact row_ints (H.out.ext xe)) (one_ints l) xe (by unfold maxLen; omega) (by omega) ?_)
 intro v1 w1 ho1 he1 _ _;have O1 := Lib.hid ho1; clear ho1;go_wp2_with (at_builtin; refine hold ?_)
 refine unhold (wpList_app w rfl (.tmp 8) (.tmp 10) _ rfl 3 (.int .i64 0) 1 8 Tryz.underlying96 info_int rfl (by omega) v1 (1 + l.length) ([I key] ++ l.map I) rfl _ 1 1 [I key] rfl
  (by exact (O1.out.alloc _).lt_size) (row_new w1 3 1 [I key] rfl) (one_ints [key]) xe (by unfold maxLen; omega) (by omega) ?_)
 intro v2 w2 ho2 he2 _ _;have O2 := Lib.hid ho2; clear ho2;go_wp2_with (at_builtin; refine hold ?_)
 refine (impl_Digest v2 ([key] ++ l ++ [key]) w2 (Own.ints (by simpa using O2.out))).mono ?_;rintro e w' ⟨rfl, rfl⟩;go_wp2
 go_ret
 exact ⟨rfl, he2⟩
theorem spec_ComputeMAC (key : Int) (v : Value) (l : List Int) (w : World) (h : IntS w.heap.size w v l) (hl : l.length ≤ 1000000000) :
 Calls Tryz.prog 140 #[I key, v] w fun e w' => e = .returned (I (mac key l)) ∧ Ext w w' := by
 obtain ⟨A, n, c, rfl, hl1, hn, hm, -⟩ := id h;subst hl1;have H := Lib.hid h; clear h;unfold maxLen at hm
 go_enter Tryz.func140, Tryz.ntmps140
 go_wp2_with (at_builtin; refine hold ?_)
 refine unhold (wpList_app w rfl (.tmp 6) (.tmp 7) _ rfl 3 (.int .i64 0) 1 8 Tryz.underlying96 info_int rfl (by omega) _ 1 [I key] rfl A l.length c (l.map I) rfl
  (own_new w 3 1 _ [I key] rfl (Nat.le_refl _)) (by exact row_ints (H.out.ext xe)) (one_ints l) xe (by unfold maxLen; omega) (by omega) ?_)
 intro v1 w1 ho1 he1 _ _;have O1 := Lib.hid ho1; clear ho1;go_wp2_with (at_builtin; refine hold ?_)
 refine unhold (wpList_app w rfl (.tmp 8) (.tmp 10) _ rfl 3 (.int .i64 0) 1 8 Tryz.underlying96 info_int rfl (by omega) v1 (1 + l.length) ([I key] ++ l.map I) rfl _ 1 1 [I key] rfl
  (by exact (O1.out.alloc _).lt_size) (row_new w1 3 1 [I key] rfl) (one_ints [key]) xe (by unfold maxLen; omega) (by omega) ?_)
 intro v2 w2 ho2 he2 _ _;have O2 := Lib.hid ho2; clear ho2;go_wp2_with (at_builtin; refine hold ?_)
 refine (spec_Digest v2 ([key] ++ l ++ [key]) w2 (Own.ints (by simpa using O2.out))).mono ?_;rintro e w' ⟨rfl, rfl⟩;go_wp2
 go_ret
 exact ⟨rfl, he2⟩
def validSet (s : Int) : Bool := inR s 0 65535
def contains (s i : Int) : Bool := validSet s && (inR i 0 15 && s.toNat.testBit i.toNat)
theorem wraps_i64_63 (n : Int) (h₀ : 0 ≤ n) (h₁ : n < 2 ^ 63) : IntKind.i64.wrap n = n := IntWalk.i64_in _ (by omega)
theorem cast_shr (n k : Nat) : ((n : Int) / 2 ^ k) = ((n / 2 ^ k : Nat) : Int) := by simp
theorem bit_test (s i : Int) (h0 : 0 ≤ s) (h1 : s ≤ 65535) (i0 : 0 ≤ i) : (bits BinOp.and IntKind.i64 (s / 2 ^ i.toNat) 1 == 1) = s.toNat.testBit i.toNat := by
 obtain ⟨n, rfl⟩ := Int.eq_ofNat_of_zero_le h0;obtain ⟨k, rfl⟩ := Int.eq_ofNat_of_zero_le i0;have hd : n / 2 ^ k ≤ n := Nat.div_le_self _ _;have h := (bits_nat .i64 63 (by decide) wraps_i64_63 (n / 2 ^ k) 1 (by omega) (by decide)).1;simp only [Int.toNat_natCast, cast_shr];rw [show ((1 : Int)) = ((1 : Nat) : Int) from rfl, h, Nat.testBit_eq_decide_div_mod_eq, Nat.and_one_is_mod];generalize n / 2 ^ k % 2 = m;by_cases hm : m = 1
 · subst hm; rfl
 · have : ¬ ((m : Int) = ((1 : Nat) : Int)) := by omega
   rw [decide_eq_false hm];exact beq_eq_false_iff_ne.2 this
theorem impl_ValidSet (s : Int) (w : World) : Calls Tryz.prog 125 #[I s] w fun e w' => e = .returned (.bool (validSet s)) ∧ w = w' := by
 go_enter Tryz.func125, Tryz.ntmps125
 go_wp2_with fail
 refine (impl_InRange _ _ _ _).mono ?_;rintro e w' ⟨rfl, rfl⟩;go_wp2_with fail
 go_ret
 exact ⟨rfl, rfl⟩
theorem spec_ValidSet (s : Int) (w : World) : Calls Tryz.prog 128 #[I s] w fun e w' => e = .returned (.bool (validSet s)) ∧ w = w' := by
 go_enter Tryz.func128, Tryz.ntmps128
 go_wp2_with fail
 refine (spec_l1In _ _ _ _).mono ?_;rintro e w' ⟨rfl, rfl⟩;go_wp2_with fail
 go_ret
 exact ⟨rfl, rfl⟩
theorem spec_l4One (i : Int) (w : World) : Calls Tryz.prog 151 #[I i] w fun e w' => e = .returned (.bool (inR i 0 15)) ∧ w = w' := by
 go_enter Tryz.func151, Tryz.ntmps151
 go_wp2_with fail
 refine (spec_l1In _ _ _ _).mono ?_;rintro e w' ⟨rfl, rfl⟩;go_wp2_with fail
 go_ret
 exact ⟨rfl, rfl⟩
theorem impl_Contains (s i : Int) (w : World) : Calls Tryz.prog 122 #[I s, I i] w fun e w' => e = .returned (.bool (contains s i)) ∧ w = w' := by
 cases h1 : validSet s
 · have HF : Hid (contains s i = false) := by unfold Hid; simp [contains, h1]
   have H1 := Lib.hid h1; clear h1
   go_enter Tryz.func122, Tryz.ntmps122
   go_wp2_with (first | (go_at_call 125; refine (impl_ValidSet _ _).mono ?_; rintro e w' ⟨rfl, rfl⟩; rw [H1.out]))
   go_ret
   exact ⟨ret_bool HF.out.symm, rfl⟩
 · cases h2 : inR i 0 15
   · have HF : Hid (contains s i = false) := by unfold Hid; simp [contains, h2]
     have H1 := Lib.hid h1; have H2 := Lib.hid h2; clear h1 h2
     go_enter Tryz.func122, Tryz.ntmps122
     go_wp2_with (first | (go_at_call 125; refine (impl_ValidSet _ _).mono ?_; rintro e w' ⟨rfl, rfl⟩; rw [H1.out]) | (go_at_call 59; refine ((impl_InRange _ _ _ _)).mono ?_; rintro e w' ⟨rfl, rfl⟩; rw [H2.out]))
     go_ret
     exact ⟨ret_bool HF.out.symm, rfl⟩
   · obtain ⟨s0, s1⟩ := inR_iff.1 h1
     obtain ⟨i0, i1⟩ := inR_iff.1 h2
     have HF : Hid (contains s i = s.toNat.testBit i.toNat) := by unfold Hid; simp [contains, h1, h2]
     have H1 := Lib.hid h1; have H2 := Lib.hid h2; clear h1 h2
     go_enter Tryz.func122, Tryz.ntmps122
     go_wp2_with (first | (go_at_call 125; refine (impl_ValidSet _ _).mono ?_; rintro e w' ⟨rfl, rfl⟩; rw [H1.out]) | (go_at_call 59; refine ((impl_InRange _ _ _ _)).mono ?_; rintro e w' ⟨rfl, rfl⟩; rw [H2.out]))
     go_ret
     exact ⟨ret_bool (by rw [HF.out, bit_test s i s0 s1 i0]), rfl⟩
theorem spec_Contains (s i : Int) (w : World) : Calls Tryz.prog 126 #[I s, I i] w fun e w' => e = .returned (.bool (contains s i)) ∧ w = w' := by
 cases h1 : validSet s
 · have HF : Hid (contains s i = false) := by unfold Hid; simp [contains, h1]
   have H1 := Lib.hid h1; clear h1
   go_enter Tryz.func126, Tryz.ntmps126
   go_wp2_with (first | (go_at_call 128; refine (spec_ValidSet _ _).mono ?_; rintro e w' ⟨rfl, rfl⟩; rw [H1.out]))
   go_ret
   exact ⟨ret_bool HF.out.symm, rfl⟩
 · cases h2 : inR i 0 15
   · have HF : Hid (contains s i = false) := by unfold Hid; simp [contains, h2]
     have H1 := Lib.hid h1; have H2 := Lib.hid h2; clear h1 h2
     go_enter Tryz.func126, Tryz.ntmps126
     go_wp2_with (first | (go_at_call 128; refine (spec_ValidSet _ _).mono ?_; rintro e w' ⟨rfl, rfl⟩; rw [H1.out]) | (go_at_call 151; refine ((spec_l4One _ _)).mono ?_; rintro e w' ⟨rfl, rfl⟩; rw [H2.out]))
     go_ret
     exact ⟨ret_bool HF.out.symm, rfl⟩
   · obtain ⟨s0, s1⟩ := inR_iff.1 h1
     obtain ⟨i0, i1⟩ := inR_iff.1 h2
     have HF : Hid (contains s i = s.toNat.testBit i.toNat) := by unfold Hid; simp [contains, h1, h2]
     have H1 := Lib.hid h1; have H2 := Lib.hid h2; clear h1 h2
     go_enter Tryz.func126, Tryz.ntmps126
     go_wp2_with (first | (go_at_call 128; refine (spec_ValidSet _ _).mono ?_; rintro e w' ⟨rfl, rfl⟩; rw [H1.out]) | (go_at_call 151; refine ((spec_l4One _ _)).mono ?_; rintro e w' ⟨rfl, rfl⟩; rw [H2.out]))
     go_ret
     exact ⟨ret_bool (by rw [HF.out, bit_test s i s0 s1 i0]), rfl⟩
def elemsTo (s : Int) (k : Nat) : List Int := ((List.range k).filter fun i : Nat => contains s i).map fun i : Nat => (i : Int)
def elements (s : Int) : List Int := elemsTo s 16
end Go.Proofs.YtmopmgaeiokfjaaGreat
