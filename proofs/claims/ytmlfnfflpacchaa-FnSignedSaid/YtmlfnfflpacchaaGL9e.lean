/- Contracts of the program's and the reference's functions on segments: hopsOk, WellFormed. -/
import Derived.Test.YtmlfnfflpacchaaGL10a
namespace Go.Proofs.Ytmlfnfflpacchaa
open Go.RowKit
set_option linter.unusedVariables false
def dupAt (l : List DHop) (k : Nat) : Bool := (List.range k).any fun j => (l.getD j dHop).asn == (l.getD k dHop).asn
def hopFine (t : DTopology) (l : List DHop) (k : Nat) : Bool := validHop (l.getD k dHop) && (isAs t (l.getD k dHop).asn && !dupAt l k)
def hopsFine (t : DTopology) (l : List DHop) : Bool := inR l.length 1 8 && (List.range l.length).all (hopFine t l)
theorem range_no {p : Nat → Bool} {n k : Nat} (hk : k < n) (h : p k = false) : (List.range n).all p = false := by
  rw [List.all_eq_false]
  exact ⟨k, List.mem_range.2 hk, by simp [h]⟩
theorem range_yes {p : Nat → Bool} {n : Nat} (h : ∀ k, k < n → p k = true) : (List.range n).all p = true := by
  rw [List.all_eq_true]
  exact fun k hk => h k (List.mem_range.1 hk)
theorem belowT {p : Nat → Bool} {k : Nat} (h : ∀ j, j < k → p j = true) (hk : p k = true) : ∀ j, j < k + 1 → p j = true := fun j hj => by
  rcases Nat.lt_succ_iff_lt_or_eq.1 hj with hj | rfl
  · exact h j hj
  · exact hk
theorem dupAt_yes {l : List DHop} {k m : Nat} (hm : m < k) (h : (l.getD m dHop).asn = (l.getD k dHop).asn) : dupAt l k = true := by
  unfold dupAt
  rw [List.any_eq_true]
  exact ⟨m, List.mem_range.2 hm, beq_iff_eq.2 h⟩
theorem dupAt_no {l : List DHop} {k : Nat} (h : ∀ j, j < k → ¬ (l.getD j dHop).asn = (l.getD k dHop).asn) : dupAt l k = false := by
  unfold dupAt
  rw [List.any_eq_false]
  exact fun j hj => by simpa using h j (List.mem_range.1 hj)
def stepFine (t : DTopology) (l : List DHop) (k : Nat) : Bool :=
  !((l.getD k dHop).egr == 0 && decide (k + 1 < l.length)) && (decide (k = 0) || (decide ((remEnd t (l.getD (k - 1) dHop).asn (l.getD (k - 1) dHop).egr).1 = (l.getD k dHop).asn) && decide ((remEnd t (l.getD (k - 1) dHop).asn (l.getD (k - 1) dHop).egr).2 = (l.getD k dHop).ing)))
def wellF (t : DTopology) (s : DSegment) : Bool := hopsFine t s.hops && ((s.hops.getD 0 dHop).ing == 0 && (List.range s.hops.length).all (stepFine t s.hops))
theorem hopsFine_len {t : DTopology} {l : List DHop} (h : hopsFine t l = true) : 0 < l.length := by
  unfold hopsFine at h
  rw [Bool.and_eq_true] at h
  have := inR_iff.1 h.1
  omega
theorem stepFine_last {t : DTopology} {l : List DHop} {k : Nat} (h1 : (l.getD k dHop).egr = 0) (h2 : k + 1 < l.length) : stepFine t l k = false := by
  unfold stepFine
  rw [h1, decide_eq_true h2]
  rfl
theorem stepFine_first {t : DTopology} {l : List DHop} (h : ¬ ((l.getD 0 dHop).egr = 0 ∧ 0 + 1 < l.length)) : stepFine t l 0 = true := by
  unfold stepFine
  simp only [Bool.not_and, decide_true, Bool.true_or, Bool.and_true]
  by_cases h1 : (l.getD 0 dHop).egr = 0
  · have h2 : ¬ 0 + 1 < l.length := fun h2 => h ⟨h1, h2⟩
    rw [decide_eq_false h2]
    simp
  · rw [beq_eq_false_iff_ne.2 h1]
    rfl
theorem stepFine_next {t : DTopology} {l : List DHop} {k m : Nat} (hk : k = m + 1) (h : ¬ ((l.getD k dHop).egr = 0 ∧ k + 1 < l.length)) : stepFine t l k = (decide ((remEnd t (l.getD m dHop).asn (l.getD m dHop).egr).1 = (l.getD k dHop).asn) && decide ((remEnd t (l.getD m dHop).asn (l.getD m dHop).egr).2 = (l.getD k dHop).ing)) := by
  unfold stepFine
  have e : (!((l.getD k dHop).egr == 0 && decide (k + 1 < l.length))) = true := by
    by_cases h1 : (l.getD k dHop).egr = 0
    · rw [decide_eq_false (fun h2 => h ⟨h1, h2⟩), Bool.and_false]
      rfl
    · rw [beq_eq_false_iff_ne.2 h1]
      rfl
  rw [e, decide_eq_false (show ¬ k = 0 by omega), show k - 1 = m by omega]
  rfl
end Go.Proofs.Ytmlfnfflpacchaa
namespace Go.Proofs.Ytmlfnfflpacchaa
open Go.RowKit
set_option linter.unusedVariables false
def ases (l : List DHop) : List Int := l.map fun h => h.asn
def hasI (l : List Int) (n : Int) : Bool := l.any fun x => x == n
theorem ases_snoc (l : List DHop) (k : Nat) (h : k < l.length) : ases (l.take (k + 1)) = ases (l.take k) ++ [l[k].asn] := by unfold ases; rw [take_snoc l k h, List.map_append]; rfl
theorem ases_len (l : List DHop) : (ases l).length = l.length := by simp [ases]
theorem ases_take (l : List DHop) (k : Nat) : (ases l).take k = ases (l.take k) := by simp [ases, List.map_take]
theorem ases_rd {B : Nat} {w : World} {A : Option Addr} {n c k : Nat} {l : List DHop} (h : IntS B w (.slice A n c) (ases l)) (hk : k ≤ n) : IntS B w (.slice A k c) (ases (l.take k)) := by
  rw [← ases_take]
  exact Sl.take h hk
theorem dup_has {l : List DHop} (n : Int) : ∀ {k : Nat}, k ≤ l.length → hasI (ases (l.take k)) n = (List.range k).any fun j => (l.getD j dHop).asn == n
  | 0, _ => by simp [hasI, ases]
  | k + 1, hk => by
    have ih := dup_has n (l := l) (k := k) (by omega)
    rw [ases_snoc l k (by omega), List.range_succ, List.any_append, ← ih]
    unfold hasI
    rw [List.any_append]
    simp [List.getD_eq_getElem?_getD, show k < l.length by omega]
set_option maxRecDepth 100000 in
set_option maxHeartbeats 1000000 in
theorem spec_l9Has (v : Value) (n : Int) (l : List Int) (w : World) (h : IntS w.heap.size w v l) : Calls Try.prog 152 #[v, I n] w fun e w' => e = .returned (.bool (hasI l n)) ∧ w = w' := by
  obtain ⟨A, m, c, rfl, hl, hn, hm, -⟩ := id h
  have H := Lib.hid h; have HL := Lib.hid hl; clear h hl
  unfold maxLen at hm
  go_enter Try.func152, Try.ntmps152
  go_wp2
  go_loop [5] (fun i => ∃ k : Nat, k ≤ m ∧ i = I k ∧ hasI (l.take k) n = false) (fun i => m - (intOf i).toNat)
  case atStart => exact ⟨0, by omega, rfl, by simp [hasI]⟩
  case round =>
    obtain ⟨k, hk, rfl, hq⟩ := hrel
    have HQ := Lib.hid hq; clear hq
    by_cases hlt : k < m
    · obtain ⟨b, off, rfl, hb, hkl, hc⟩ := H.out.at_ hlt
      have hc : w.cell? ⟨b, off + k, none⟩ = some (I l[k]) := hc
      have HY : Hid (l[k] = n → hasI l n = true) := fun he => by unfold hasI; rw [List.any_eq_true]; exact ⟨l[k], List.getElem_mem hkl, beq_iff_eq.2 he⟩
      have HX : Hid (¬ l[k] = n → hasI (l.take (k + 1)) n = false) := fun he => by
        have h1 := HQ.out
        unfold hasI at h1 ⊢
        rw [take_snoc l k hkl, List.any_append, h1]
        simp [he]
      generalize l[k] = x at *
      by_cases hx : x = n
      · have HZ := Lib.hid (HY.out hx)
        subst hx
        go_wp2
        go_ret
        exact ⟨ret_bool HZ.out.symm, rfl⟩
      · have HZ := Lib.hid (HX.out hx)
        have dx : (x == n) = false := beq_eq_false_iff_ne.2 hx
        go_wp2
        go_round
        case rel => exact ⟨k + 1, by omega, by go_num, HZ.out⟩
        case measure => simp [intOf]; omega
    · go_wp2
      go_ret
      have h1 := HQ.out
      rw [List.take_of_length_le (by rw [HL.out]; omega)] at h1
      exact ⟨ret_bool h1.symm, rfl⟩
set_option maxRecDepth 100000 in
set_option maxHeartbeats 1000000 in
theorem spec_SegmentASes (vs : Value) (s : DSegment) (w : World) (hs : SegmentV w.heap.size w vs s) (hn : s.hops.length ≤ 100000000) :
    Calls Try.prog 153 #[vs] w fun e w' => ∃ v', e = .returned v' ∧ IntSO w.heap.size w'.heap.size w' v' (ases s.hops) ∧ Ext w w' := by
  obtain ⟨As_2, ns_2, cs_2, rfl, ss_2⟩ := id hs
  obtain ⟨ls_2, ks_2, ms_2⟩ := ss_2.len
  subst ls_2
  unfold maxLen at ms_2
  have Rs := Lib.hid hs; clear hs
  have Ss_2 := Lib.hid ss_2; clear ss_2
  go_enter Try.func153, Try.ntmps153
  go_wp2_with fail
  refine name_wp (fun W => ∃ wb, Ext w wb ∧ Blk wb w.heap.size 55 [I s.ts, I s.beta, .slice As_2 s.hops.length cs_2] ∧ Ext wb W ∧ IntSO wb.heap.size W.heap.size W (.slice (some ⟨w.heap.size + 1, 0, none⟩) 0 0) []) ⟨_, (Ext.refl _).alloc _, Blk.new _ _ _, (Ext.refl _).alloc _, own_zero' _ _ _ _ _ (by simp) (Nat.le_refl _)⟩ ?_
  rintro wz ⟨w0, ew0, bs, ez, hz⟩
  have Bs := Lib.hid bs; clear bs
  have HZ := Lib.hid hz; clear hz
  go_loopw [3, 4] (fun v i wr => ∃ k : Nat, k ≤ s.hops.length ∧ i = I k ∧ IntSO w0.heap.size wr.heap.size wr v (ases (s.hops.take k)) ∧ Ext w0 wr) (fun _ i _ => s.hops.length - (intOf i).toNat)
  case atStart => exact ⟨0, by omega, rfl, HZ.out, ez⟩
  case round =>
    obtain ⟨k, hk, rfl, ho, he⟩ := hrel
    have HO := Lib.hid ho; clear ho
    have bs := Bs.out.ext (w' := wr) xe
    have ls := bs.lt
    obtain ⟨ps_0, ps_1, ps_2⟩ := blk3 bs
    clear bs
    by_cases hlt : k < s.hops.length
    · obtain ⟨b, off, rfl, hb, hkl, hc⟩ := (Ss_2.out.ext (w' := wr) xe).at_ hlt
      have HX := Lib.hid (ases_snoc s.hops k hkl)
      have hml : (ases (s.hops.take k)).length ≤ k := by rw [ases_len, List.length_take]; omega
      generalize s.hops[k] = x at *
      generalize ases (s.hops.take k) = sl at *
      obtain ⟨h0, h1, h2, h3, h4⟩ := hc
      have i0 : (0 : Int) ≤ (k : Int) := by omega
      have i1 : (k : Int) < (s.hops.length : Int) := by omega
      go_wp2_with (at_builtin; refine hold ?_)
      refine unhold (wpList_app w0 rfl (.tmp 13) (.tmp 20) _ rfl 3 (.int .i64 0) 1 8 Try.underlying38 info_int rfl (by omega) _ sl.length (sl.map I) rfl _ 1 1 [I x.asn] rfl
        (by exact (HO.out.alloc _).lt_size) (row_newN _ _ _ _ _ _ (by first | rfl | simp) rfl) (one_ints [x.asn]) xe (by unfold maxLen; omega) (by omega) ?_)
      intro v1 w1 ho1 he1 _ _
      have O1 := Lib.hid ho1; clear ho1
      go_wp2_with (at_builtin; refine hold ?_)
      go_roundw
      case rel => exact ⟨k + 1, by omega, by go_num, by rw [HX.out]; unfold IntSO; simpa using O1.out, he1⟩
      case measure => simp [intOf]; omega
    · obtain rfl : k = s.hops.length := by omega
      go_wp2_with fail
      go_ret
      exact ⟨_, rfl, Own.more (by have h := HO.out; rw [List.take_length] at h; exact h) ew0.size (Nat.le_refl _), xe⟩
theorem all_two {p q : Nat → Bool} (n : Nat) : (List.range n).all (fun k => p k && q k) = ((List.range n).all p && (List.range n).all q) := by
  rw [Bool.eq_iff_iff, Bool.and_eq_true, List.all_eq_true, List.all_eq_true, List.all_eq_true]
  constructor
  · exact fun h => ⟨fun x hx => (Bool.and_eq_true_iff.1 (h x hx)).1, fun x hx => (Bool.and_eq_true_iff.1 (h x hx)).2⟩
  · exact fun h x hx => Bool.and_eq_true_iff.2 ⟨h.1 x hx, h.2 x hx⟩
def bothFine (t : DTopology) (l : List DHop) (k : Nat) : Bool := hopFine t l k && stepFine t l k
theorem wellF_alt (t : DTopology) (s : DSegment) : wellF t s = (inR s.hops.length 1 8 && ((s.hops.getD 0 dHop).ing == 0 && (List.range s.hops.length).all (bothFine t s.hops))) := by
  unfold wellF hopsFine bothFine
  rw [all_two]
  generalize inR (s.hops.length : Int) 1 8 = a
  generalize (List.range s.hops.length).all (hopFine t s.hops) = b
  generalize (List.range s.hops.length).all (stepFine t s.hops) = c
  generalize ((s.hops.getD 0 dHop).ing == 0) = d
  cases a <;> cases b <;> cases c <;> cases d <;> rfl
end Go.Proofs.Ytmlfnfflpacchaa
