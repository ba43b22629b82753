/- Contracts of the program's and the reference's functions on numbers as texts: FormatInt. -/
import Derived.Test.YtmlfnfflpacchaaGL0
import Derived.Test.YtmlfnfflpacchaaGCore
import Derived.Test.YtmlfnfflpacchaaGGrow
import Derived.Laws.IdiomStrings
namespace Go.Proofs.Ytmlfnfflpacchaa
open Go.RowKit
set_option linter.unusedVariables false
/-- What is left of n behind k digits. -/
def decIt (n : Int) : Nat → Int
  | 0 => n
  | k + 1 => wrap64 ((decIt n k).tdiv 10)
/-- The digit of x. -/
def decDig (x : Int) : UInt8 := UInt8.ofNat (48 + (x.tmod 10).natAbs)
def decDigs (n : Int) : Nat → List UInt8
  | 0 => []
  | k + 1 => decDig (decIt n k) :: decDigs n k
def IsFmt (n : Int) (s : List UInt8) : Prop := ∃ k, 1 ≤ k ∧ decIt n k = 0 ∧ (∀ j, 1 ≤ j → j < k → decIt n j ≠ 0) ∧ s = (if n < 0 then [45] else []) ++ decDigs n k
theorem IsFmt.uniq {n : Int} {s s' : List UInt8} (h : IsFmt n s) (h' : IsFmt n s') : s = s' := by
  obtain ⟨k, h1, h2, h3, rfl⟩ := h
  obtain ⟨k', h1', h2', h3', rfl⟩ := h'
  have : k = k' := by
    rcases Nat.lt_trichotomy k k' with h | h | h
    · exact absurd h2 (h3' k h1 h)
    · exact h
    · exact absurd h2' (h3 k' h1' h)
  rw [this]
open Classical in
noncomputable def fmtInt (n : Int) : List UInt8 := if h : ∃ s, IsFmt n s then Classical.choose h else []
theorem fmtInt_is {n : Int} {s : List UInt8} (h : IsFmt n s) : fmtInt n = s := by
  unfold fmtInt
  rw [dif_pos ⟨s, h⟩]
  exact IsFmt.uniq (Classical.choose_spec (⟨s, h⟩ : ∃ s, IsFmt n s)) h
theorem tmod_abs (x : Int) : (x.tmod 10).natAbs < 10 := by
  rw [Int.natAbs_tmod]
  exact Nat.mod_lt _ (by decide)
theorem dig_nat (x : Int) : ((decDig x).toNat : Int) = 48 + ((x.tmod 10).natAbs : Int) := by
  have := tmod_abs x
  unfold decDig
  rw [UInt8.toNat_ofNat']
  omega
theorem dig_neg (x : Int) (h : x.tmod 10 < 0) : wrap64 (48 + wrap64 (-x.tmod 10)) % 256 = ((decDig x).toNat : Int) := by
  have h1 := tmod_abs x
  have e1 : wrap64 (-x.tmod 10) = -x.tmod 10 := IntWalk.wrap64_in _ (by omega)
  have e2 : wrap64 (48 + -x.tmod 10) = 48 + -x.tmod 10 := IntWalk.wrap64_in _ (by omega)
  rw [dig_nat, e1, e2]
  omega
theorem dig_pos (x : Int) (h : ¬ x.tmod 10 < 0) : wrap64 (48 + x.tmod 10) % 256 = ((decDig x).toNat : Int) := by
  have h1 := tmod_abs x
  have e2 : wrap64 (48 + x.tmod 10) = 48 + x.tmod 10 := IntWalk.wrap64_in _ (by omega)
  rw [dig_nat, e2]
  omega
theorem conv_one (W : World) (b : UInt8) : Sem.run Try.prog (convert 22 9 (.slice (some ⟨W.heap.size, 0, none⟩) 1 1)) (W.alloc (.cells #[.int .u8 (b.toNat : Int)] 5)) = .ok (.string ⟨#[b]⟩) (W.alloc (.cells #[.int .u8 (b.toNat : Int)] 5)) := by
  have h := run_convert_bytes_back (P := Try.prog) (W.alloc (.cells #[.int .u8 (b.toNat : Int)] 5)) 22 9 5 ⟨W.heap.size, 0, none⟩ 1 [b] Try.underlying22 Try.underlying5 Try.underlying9 (by
    intro j hj
    have e : j = 0 := by simp at hj; exact hj
    subst e
    rw [add_none]
    exact (Blk.new W 5 [.int .u8 (b.toNat : Int)]).cell 0)
  exact h
theorem decDigs_len (n : Int) (k : Nat) : (decDigs n k).length = k := by
  induction k with
  | zero => rfl
  | succ k ih => simp [decDigs, ih]
theorem bytes_app (d : List UInt8) (L : List UInt8) : (⟨d.toArray⟩ : ByteArray) ++ ⟨L.toArray⟩ = ⟨(d ++ L).toArray⟩ := by
  apply ByteArray.ext
  simp
def decM (x : Int) : Nat := if -9223372036854775808 ≤ x ∧ x ≤ 9223372036854775807 then x.natAbs else 18446744073709551616
theorem decM_lt (x : Int) (h : x ≠ 0) : decM (wrap64 (x.tdiv 10)) < decM x := by
  have e : x.tdiv 10 = if 0 ≤ x then x / 10 else -((-x) / 10) := by
    split
    · exact Int.tdiv_eq_ediv_of_nonneg (by assumption)
    · have h2 : x = -(-x) := by omega
      rw [h2, Int.neg_tdiv, Int.tdiv_eq_ediv_of_nonneg (by omega), Int.neg_neg]
  unfold decM wrap64
  rw [e]
  split <;> split <;> split <;> omega
/-- After k digits little is left. -/
def decBd (n : Int) (k : Nat) : Prop := k = 0 ∨ (decIt n k).natAbs * 10 ^ (k - 1) ≤ 9223372036854775808
theorem decBd_step {n : Int} {k : Nat} (h : decBd n k) : decBd n (k + 1) := by
  right
  have e : decIt n (k + 1) = wrap64 ((decIt n k).tdiv 10) := rfl
  rcases h with rfl | h
  · rw [e]
    simp only [Nat.zero_add, Nat.sub_self, Nat.pow_zero, Nat.mul_one]
    unfold wrap64
    omega
  · have hP : 1 ≤ 10 ^ (k - 1) := Nat.pow_pos (by decide)
    have ha : (decIt n k).natAbs ≤ 9223372036854775808 := by
      have := Nat.mul_le_mul_left (decIt n k).natAbs hP
      omega
    have ht : ((decIt n k).tdiv 10).natAbs = (decIt n k).natAbs / 10 := by rw [Int.natAbs_tdiv]; rfl
    have hw : wrap64 ((decIt n k).tdiv 10) = (decIt n k).tdiv 10 := IntWalk.wrap64_in _ (by omega)
    rw [e, hw, ht, Nat.add_sub_cancel]
    refine Nat.le_trans ?_ h
    rcases Nat.eq_zero_or_pos k with h0 | h0
    · subst h0
      simp only [Nat.pow_zero, Nat.zero_sub]
      omega
    · obtain ⟨m, rfl⟩ : ∃ m, k = m + 1 := ⟨k - 1, by omega⟩
      rw [Nat.add_sub_cancel, Nat.pow_succ, Nat.mul_comm (10 ^ m) 10, ← Nat.mul_assoc]
      exact Nat.mul_le_mul_right _ (Nat.div_mul_le_self _ _)
theorem decBd_le {n : Int} {k : Nat} (h : decBd n k) (hx : decIt n k ≠ 0) : k ≤ 20 := by
  rcases h with rfl | h
  · omega
  · rcases Nat.lt_or_ge 20 k with hk | hk
    · exfalso
      have h1 : 10 ^ 20 ≤ 10 ^ (k - 1) := Nat.pow_le_pow_right (by decide) (by omega)
      have h2 : 1 * 10 ^ (k - 1) ≤ (decIt n k).natAbs * 10 ^ (k - 1) := Nat.mul_le_mul_right _ (by omega)
      have h3 : (10 : Nat) ^ 20 = 100000000000000000000 := by decide
      omega
    · exact hk
set_option maxRecDepth 100000 in
set_option maxHeartbeats 1000000 in
theorem spec_FormatInt (n : Int) (w : World) : Calls Try.prog 118 #[I n] w fun e w' => e = .returned (.string ⟨(fmtInt n).toArray⟩) ∧ Ext w w' := by
  by_cases h0 : n = 0
  · subst h0
    have HF : Hid (fmtInt 0 = [48]) := fmtInt_is ⟨1, by omega, by simp [decIt, wrap64], fun j h1 h2 => absurd h2 (by omega), by simp [decDigs, decDig, decIt]⟩
    go_enter Try.func118, Try.ntmps118
    go_wp2_with fail
    go_ret
    exact ⟨by rw [HF.out]; rfl, xe⟩
  · have d0 : (n == 0) = false := beq_eq_false_iff_ne.2 h0
    have H0 := Lib.hid h0; clear h0
    go_enter Try.func118, Try.ntmps118
    go_wp2_with fail
    go_loopw [3, 4] (fun s x wr => ∃ k : Nat, x = I (decIt n k) ∧ s = .string ⟨(decDigs n k).toArray⟩ ∧ (∀ j, j < k → decIt n j ≠ 0) ∧ decBd n k ∧ k ≤ 21 ∧ Ext w wr) (fun _ x _ => decM (intOf x))
    case atStart => exact ⟨0, rfl, rfl, fun _ h => absurd h (by omega), .inl rfl, by omega, Ext.refl _⟩
    case round =>
      obtain ⟨k, rfl, rfl, hq, hbd, hk21, he⟩ := hrel
      have HQ := Lib.hid hq; have HBD := Lib.hid hbd; clear hq hbd
      have HL := Lib.hid (decDigs_len n k)
      have hle := fun hx => decBd_le HBD.out hx
      have HLE := Lib.hid hle; clear hle
      generalize hds : decDigs n k = ds at *
      have HDS := Lib.hid hds; clear hds
      generalize hxk : decIt n k = x at *
      have HXK := Lib.hid hxk; clear hxk
      by_cases hx : x = 0
      · subst hx
        have hk1 : 1 ≤ k := by
          rcases Nat.eq_zero_or_pos k with h | h
          · subst h; exact absurd HXK.out H0.out
          · exact h
        have HF : Hid (fmtInt n = (if n < 0 then [45] else []) ++ ds) := by
          unfold Hid
          rw [← HDS.out]
          exact fmtInt_is ⟨k, hk1, HXK.out, fun j _ h2 => HQ.out j h2, rfl⟩
        have hsz : ds.length ≤ 21 := by rw [HL.out]; exact hk21
        by_cases hneg : n < 0
        · have d2 : decide (n < 0) = true := decide_eq_true hneg
          have HG : Hid (fmtInt n = 45 :: ds) := by unfold Hid; rw [HF.out, if_pos hneg]; rfl
          go_wp2_with fail
          go_ret
          exact ⟨by rw [HG.out]; exact congrArg (fun s => Ending.returned (Value.string s)) (bytes_app [45] ds), xe⟩
        · have d2 : decide (n < 0) = false := decide_eq_false hneg
          have HG : Hid (fmtInt n = ds) := by unfold Hid; rw [HF.out, if_neg hneg]; rfl
          go_wp2_with fail
          go_ret
          exact ⟨by rw [HG.out]; rfl, xe⟩
      · have d1 : (x != 0) = true := bne_iff_ne.2 hx
        have hk := HLE.out hx
        have hsz : ds.length ≤ 20 := by rw [HL.out]; exact hk
        have HX := Lib.hid hx; clear hx
        have R : Hid ((∃ k : Nat, I (wrap64 (x.tdiv 10)) = I (decIt n k) ∧ Value.string ((⟨#[decDig x]⟩ : ByteArray) ++ ⟨ds.toArray⟩) = .string ⟨(decDigs n k).toArray⟩ ∧ (∀ j, j < k → decIt n j ≠ 0) ∧ decBd n k ∧ k ≤ 21)) := by
          refine ⟨k + 1, ?_, ?_, ?_, decBd_step HBD.out, by omega⟩
          · show I (wrap64 (x.tdiv 10)) = I (wrap64 ((decIt n k).tdiv 10))
            rw [HXK.out]
          · show Value.string _ = Value.string ⟨(decDig (decIt n k) :: decDigs n k).toArray⟩
            rw [HXK.out, HDS.out]
            exact congrArg Value.string (bytes_app [decDig x] ds)
          · intro j hj
            rcases Nat.lt_succ_iff_lt_or_eq.1 hj with hj | rfl
            · exact HQ.out j hj
            · rw [HXK.out]; exact HX.out
        have HM := Lib.hid (decM_lt x HX.out)
        cases hn : decide (x.tmod 10 < 0)
        · have hn2 := Lib.hid (dig_pos x (of_decide_eq_false hn))
          go_wp2_with fail
          rw [hn2.out, conv_one]
          go_wp2_with fail
          go_roundw
          case rel => obtain ⟨k2, r1, r2, r3, r4, r5⟩ := R.out; exact ⟨k2, r1, r2, r3, r4, r5, xe⟩
          case measure => exact HM.out
        · have hn2 := Lib.hid (dig_neg x (of_decide_eq_true hn))
          go_wp2_with fail
          rw [hn2.out, conv_one]
          go_wp2_with fail
          go_roundw
          case rel => obtain ⟨k2, r1, r2, r3, r4, r5⟩ := R.out; exact ⟨k2, r1, r2, r3, r4, r5, xe⟩
          case measure => exact HM.out
theorem info_uint8 : (Try.prog.info? 5).map (fun i => (i.zero, i.size, i.bytes)) = some (some (.int .u8 0), 1, 1) := by kernel_rfl
def byteC (b : UInt8) : Value := .int .u8 (b.toNat : Int)
theorem conv_own {W : World} {lo hi n : Nat} {v : Value} {ds : List UInt8} (h : Own 5 1 lo hi W v n (ds.map byteC)) (h0 : 0 < n) : Sem.run Try.prog (convert 22 9 v) W = .ok (.string ⟨ds.toArray⟩) W := by
  rcases h.cases with ⟨_, h1, _⟩ | ⟨g, cap, rest, rfl, _, _, hb, hl, _⟩
  · omega
  · have e : n = ds.length := by simpa using hl.symm
    subst e
    exact run_convert_bytes_back (P := Try.prog) W 22 9 5 ⟨g, 0, none⟩ cap ds Try.underlying22 Try.underlying5 Try.underlying9 (by
      intro j hj
      rw [add_none, Nat.zero_add, hb.cell, List.getElem?_append_left (by simpa using hj)]
      simp [byteC, hj])
theorem one_bytes (l : List UInt8) : ∀ u ∈ l.map byteC, u.oneCell' = true := by
  intro u hu
  obtain ⟨x, _, rfl⟩ := List.mem_map.1 hu
  rfl
set_option maxRecDepth 100000 in
set_option maxHeartbeats 1000000 in
theorem impl_FormatInt (n : Int) (w : World) : Calls Try.prog 117 #[I n] w fun e w' => e = .returned (.string ⟨(fmtInt n).toArray⟩) ∧ Ext w w' := by
  go_enter Try.func117, Try.ntmps117
  go_wp2_with fail
  go_loopw [0, 3] (fun x v wr => ∃ k : Nat, x = I (decIt n k) ∧ Own 5 1 w.heap.size wr.heap.size wr v k ((decDigs n k).map byteC) ∧ (∀ j, 1 ≤ j → j ≤ k → decIt n j ≠ 0) ∧ decBd n k ∧ k ≤ 21 ∧ Ext w wr) (fun x _ _ => decM (intOf x))
  case atStart => exact ⟨0, rfl, Own.nil _ _ _ _ _, fun _ h1 h2 => absurd h1 (by omega), .inl rfl, by omega, Ext.refl _⟩
  case round =>
    obtain ⟨k, rfl, ho, hq, hbd, hk21, he⟩ := hrel
    have HO := Lib.hid ho; have HQ := Lib.hid hq; have HBD := Lib.hid hbd; clear ho hq hbd
    obtain ⟨av, nv, cv, hvv⟩ := Own.slice HO.out
    subst hvv
    obtain ⟨hnv, -⟩ := NO.row HO.out
    subst hnv
    have HL := Lib.hid (decDigs_len n nv)
    have HXN : Hid (decIt n (nv + 1) = wrap64 ((decIt n nv).tdiv 10)) := rfl
    have HDN : Hid (decDigs n (nv + 1) = decDig (decIt n nv) :: decDigs n nv) := rfl
    have HB2 := Lib.hid (decBd_step HBD.out)
    have hle := fun hx => decBd_le HB2.out hx
    have HLE := Lib.hid hle; clear hle
    generalize hds : decDigs n nv = ds at *
    have HDS := Lib.hid hds; clear hds
    generalize hxk : decIt n nv = x at *
    have HXK := Lib.hid hxk; clear hxk
    have HM := Lib.hid (decM_lt x)
    have HDP := Lib.hid (dig_pos x)
    have HDG := Lib.hid (dig_neg x)
    generalize decDig x = dg at *
    have HX0 : Hid (wrap64 (x.tdiv 10) ≠ 0 → x ≠ 0) := fun h e => h (by rw [e]; simp [wrap64])
    generalize hy : wrap64 (x.tdiv 10) = y at *
    have HYY := Lib.hid hy
    cases hn : decide (x.tmod 10 < 0)
    all_goals
      first
        | have hn2 := Lib.hid (HDP.out (of_decide_eq_false hn))
        | have hn2 := Lib.hid (HDG.out (of_decide_eq_true hn))
      by_cases hz : y = 0
      · have d1 : (y == 0) = true := beq_iff_eq.2 hz
        have HF : Hid (fmtInt n = (if n < 0 then [45] else []) ++ dg :: ds) := by
          unfold Hid
          rw [← HDN.out]
          exact fmtInt_is ⟨nv + 1, by omega, by rw [HXN.out]; exact hz, fun j h1 h2 => HQ.out j h1 (by omega), rfl⟩
        have hsz : ds.length ≤ 21 := by rw [HL.out]; exact hk21
        have HZ := Lib.hid hz; clear hz
        by_cases hneg : n < 0
        · have d2 : decide (n < 0) = true := decide_eq_true hneg
          have HG : Hid (fmtInt n = 45 :: dg :: ds) := by unfold Hid; rw [HF.out, if_pos hneg]; rfl
          clear hneg
          go_wp2_with (at_builtin; refine hold ?_)
          rw [hn2.out]
          refine unhold (wpList_app w rfl (.tmp 17) (.tmp 18) _ rfl 5 _ 1 1 Try.underlying22 info_uint8 rfl (by omega) _ 1 [byteC dg] rfl _ nv cv (ds.map byteC) rfl (by exact own_new _ _ _ _ [byteC dg] rfl (Ext.size he)) (by exact (NO.row (Own.up HO.out xe)).2) (one_bytes ds) xe (by unfold maxLen; omega) (by omega) ?_)
          intro v1 w1 ho1 he1 _ _
          have HC := Lib.hid (conv_own (ds := dg :: ds) ho1 (by omega)); clear ho1
          go_wp2_with fail
          rw [HC.out]
          go_wp2_with fail
          go_ret
          exact ⟨by rw [HG.out]; exact congrArg (fun s => Ending.returned (Value.string s)) (bytes_app [45] (dg :: ds)), xe⟩
        · have d2 : decide (n < 0) = false := decide_eq_false hneg
          have HG : Hid (fmtInt n = dg :: ds) := by unfold Hid; rw [HF.out, if_neg hneg]; rfl
          clear hneg
          go_wp2_with (at_builtin; refine hold ?_)
          rw [hn2.out]
          refine unhold (wpList_app w rfl (.tmp 17) (.tmp 18) _ rfl 5 _ 1 1 Try.underlying22 info_uint8 rfl (by omega) _ 1 [byteC dg] rfl _ nv cv (ds.map byteC) rfl (by exact own_new _ _ _ _ [byteC dg] rfl (Ext.size he)) (by exact (NO.row (Own.up HO.out xe)).2) (one_bytes ds) xe (by unfold maxLen; omega) (by omega) ?_)
          intro v1 w1 ho1 he1 _ _
          have HC := Lib.hid (conv_own (ds := dg :: ds) ho1 (by omega)); clear ho1
          go_wp2_with fail
          rw [HC.out]
          go_wp2_with fail
          go_ret
          exact ⟨by rw [HG.out]; rfl, xe⟩
      · have d1 : (y == 0) = false := beq_eq_false_iff_ne.2 hz
        have hk := HLE.out (by rw [HXN.out]; exact hz)
        have hsz : ds.length ≤ 20 := by rw [HL.out]; omega
        have HMM := Lib.hid (HM.out (HX0.out hz))
        have HZ := Lib.hid hz; clear hz
        go_wp2_with (at_builtin; refine hold ?_)
        rw [hn2.out]
        refine unhold (wpList_app w rfl (.tmp 17) (.tmp 18) _ rfl 5 _ 1 1 Try.underlying22 info_uint8 rfl (by omega) _ 1 [byteC dg] rfl _ nv cv (ds.map byteC) rfl (by exact own_new _ _ _ _ [byteC dg] rfl (Ext.size he)) (by exact (NO.row (Own.up HO.out xe)).2) (one_bytes ds) xe (by unfold maxLen; omega) (by omega) ?_)
        intro v1 w1 ho1 he1 _ _
        have O1 := Lib.hid ho1; clear ho1
        go_wp2_with fail
        go_roundw
        case rel =>
          refine ⟨nv + 1, by rw [HXN.out, HYY.out], ?_, ?_, HB2.out, by omega, he1⟩
          · rw [HDN.out, Nat.add_comm nv 1]
            exact O1.out
          · intro j h1 h2
            rcases Nat.lt_or_ge j (nv + 1) with h | h
            · exact HQ.out j h1 (by omega)
            · have : j = nv + 1 := by omega
              rw [this, HXN.out]
              exact HZ.out
        case measure => rw [HYY.out]; exact HMM.out
theorem fmtInt_len (n : Int) : (fmtInt n).length ≤ 22 := by
  unfold fmtInt
  split
  · rename_i h
    obtain ⟨k, h1, h2, h3, h4⟩ := Classical.choose_spec h
    rw [h4, List.length_append, decDigs_len]
    have hb : ∀ k, decBd n k := fun k => by
      induction k with
      | zero => exact .inl rfl
      | succ k ih => exact decBd_step ih
    have hk : k ≤ 21 := by
      rcases Nat.lt_or_ge 1 k with h | h
      · have := decBd_le (hb (k - 1)) (h3 (k - 1) (by omega) (by omega))
        omega
      · omega
    split <;> simp <;> omega
  · simp
end Go.Proofs.Ytmlfnfflpacchaa
