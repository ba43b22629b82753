/- The laws' helpers on Policy: to.. (copy), eq.. (compare), sz.. (count), mark.. and held... Printed by gen.py. -/
import Derived.Test.YtdcfidlngbhpcaaGreatGCore
import Derived.Test.YtdcfidlngbhpcaaGreatGGrow
namespace Go.Proofs.YtdcfidlngbhpcaaGreat
open Go.RowKit
set_option linter.unusedVariables false
theorem info_Policy : (Tryz.prog.info? 136).map (fun i => (i.zero, i.size, i.bytes)) = some (some (.agg #[.int .i64 0, .int .i64 0, .int .i64 0, .int .i64 0]), 4, 32) := by kernel_rfl

theorem row_Policy {B : Nat} {w : World} {A : Option Addr} {n c : Nat} {xs : List DPolicy} (h : PolicyS B w (.slice A n c) xs) : Row w 4 A n (xs.flatMap PolicyC) := row_flat (C := PolicyC) (sz := 4) (fun _ => rfl) (by omega) PolicyAt.cells_ h

/-- A []Policy of the call's own. -/
abbrev PolicySO (lo hi : Nat) (w : World) (v : Value) (xs : List DPolicy) : Prop := Own 136 4 lo hi w v xs.length (xs.flatMap PolicyC)
theorem PolicySO_rd {lo hi : Nat} {w : World} {v : Value} {xs : List DPolicy} (h : PolicySO lo hi w v xs) : PolicyS w.heap.size w v xs := (Own.lt_size h).sl (At := PolicyAt) PolicyC.len (by omega) PolicyC.at_
set_option maxRecDepth 100000 in
set_option maxHeartbeats 1000000 in
theorem toPolicy (x : DPolicy) (w : World) : Calls Tryz.prog 102 #[.agg #[I x.maxLen, I x.denied, I x.closed, I x.life]] w fun e w' => e = .returned (.agg #[I x.maxLen, I x.denied, I x.closed, I x.life]) ∧ Ext w w' := by
  go_enter Tryz.func102, Tryz.ntmps102
  go_wp2
  exact bodyPost_ret (v := .agg #[I x.maxLen, I x.denied, I x.closed, I x.life]) (by simp [results, Tryz.results102, go_sem]) rfl ⟨rfl, xe⟩
set_option maxRecDepth 100000 in
set_option maxHeartbeats 1000000 in
theorem toPolicyS (v : Value) (ds : List DPolicy) (w : World) (h : PolicyS w.heap.size w v ds) (hn : ds.length ≤ 16777216) :
    Calls Tryz.prog 39 #[v] w fun e w' => ∃ v', e = .returned v' ∧ PolicySO w.heap.size w'.heap.size w' v' ds ∧ Ext w w' := by
  obtain ⟨A, n, c, rfl, hl, -⟩ := id h
  subst hl
  have hmk := run_mk (P := Tryz.prog) 79 136 (.agg #[.int .i64 0, .int .i64 0, .int .i64 0, .int .i64 0]) 4 32 Tryz.underlying79 info_Policy ds.length (by omega) (by omega)
  have hml := mkRow_len (.agg #[.int .i64 0, .int .i64 0, .int .i64 0, .int .i64 0]) (ds.length * 4)
  generalize mkRow (.agg #[.int .i64 0, .int .i64 0, .int .i64 0, .int .i64 0]) (ds.length * 4) = mr at *
  have H := Lib.hid h; clear h
  have HM := Lib.hid hml; clear hml
  go_enter Tryz.func39, Tryz.ntmps39
  go_wp2
  go_loopw [4] (fun i wr => ∃ (k : Nat) (rest : List Value), k ≤ ds.length ∧ i = I k ∧ Blk wr w.heap.size 136 ((ds.take k).flatMap PolicyC ++ rest) ∧ rest.length = (ds.length - k) * 4 ∧ Ext w wr) (fun i _ => ds.length - (intOf i).toNat)
  case atStart => exact ⟨0, mr.toList, by omega, rfl, by simpa using Blk.new w 136 mr.toList, by simpa using HM.out, (Ext.refl _).alloc _⟩
  case round =>
    obtain ⟨k, rest, hk, rfl, hb, hr, he⟩ := hrel
    have HE := Lib.hid he
    have HB := Lib.hid hb; clear hb
    by_cases hlt : k < ds.length
    · obtain ⟨b, off, rfl, hbb, _, hc⟩ := (H.out.ext he).at_ hlt
      obtain ⟨r0, r1, r2, r3, rest, rfl⟩ : ∃ r0 r1 r2 r3 rest', rest = r0 :: r1 :: r2 :: r3 :: rest' := by
        match rest, hr with
        | r0 :: r1 :: r2 :: r3 :: rest, _ => exact ⟨r0, r1, r2, r3, rest, rfl⟩
        | [], h => simp at h; omega
        | [_], h => simp at h; omega
        | [_, _], h => simp at h; omega
        | [_, _, _], h => simp at h; omega
      have hlr : rest.length = (ds.length - (k + 1)) * 4 := by simp only [List.length_cons] at hr; omega
      have HR := Lib.hid hlr; clear hr he hlr
      have HX := Lib.hid (take_snoc ds k hlt)
      generalize ds[k] = x at *
      obtain ⟨hc0, hc1, hc2, hc3⟩ := hc
      have hp := flat_len PolicyC 4 (fun _ => rfl) (ds.take k)
      rw [List.length_take, Nat.min_eq_left hk] at hp
      have HP := Lib.hid hp; clear hp
      have hwg : w.heap.size < wr.heap.size := HB.out.lt
      go_wp2_with fail
      refine (toPolicy x _).mono ?_
      rintro e w1 ⟨rfl, he1⟩
      have HB1 := Lib.hid (HB.out.below he1.below hwg)
      have hz1 := he1.size
      have HE1 := Lib.hid he1
      clear he1
      obtain ⟨hu0, hu1, hu2, hu3⟩ := cells_at4 HB1.out HP.out
      have hf0 := HB1.out.frozen (k * 4)
      have hf1 := HB1.out.frozen (k * 4 + 1)
      have hf2 := HB1.out.frozen (k * 4 + 2)
      have hf3 := HB1.out.frozen (k * 4 + 3)
      go_wp2
      go_roundw
      case rel =>
        refine ⟨k + 1, rest, by omega, by go_num, ?_, HR.out, ?_⟩
        · have := (((HB1.out.set_ (k * 4) (I x.maxLen)).set_ (k * 4 + 1) (I x.denied)).set_ (k * 4 + 2) (I x.closed)).set_ (k * 4 + 3) (I x.life)
          rw [set_at4 _ _ _ _ _ _ _ _ _ _ _ HP.out] at this
          rw [HX.out, List.flatMap_append]
          simpa [PolicyC] using this
        · exact ((((HE.out.trans HE1.out).setCell (by simp) _).setCell (by simp) _).setCell (by simp) _).setCell (by simp) _
      case measure => simp [intOf]; omega
    · have HR := Lib.hid hr; clear hr he
      go_wp2
      go_ret
      have e : k = ds.length := by omega
      have hr := HR.out
      subst e
      obtain rfl : rest = [] := List.eq_nil_of_length_eq_zero (by simpa using hr)
      have hb := HB.out
      rw [List.take_length, List.append_nil] at hb
      exact ⟨_, rfl, Own.of_blk hb (flat_len PolicyC 4 (fun _ => rfl) ds) (by unfold maxLen; omega) (Nat.le_refl _) hb.lt, HE.out⟩
set_option maxRecDepth 100000 in
set_option maxHeartbeats 1000000 in
theorem eqPolicy (v1 v2 : Value) (x y : DPolicy) (w : World) (h1 : PolicyV w.heap.size w v1 x) (h2 : PolicyV w.heap.size w v2 y) :
    Calls Tryz.prog 106 #[v1, v2] w fun e w' => e = .returned (.bool (decide (x = y))) ∧ Ext w w' := by
  obtain rfl := h1
  obtain rfl := h2
  go_enter Tryz.func106, Tryz.ntmps106
  go_wp2_with fail
  all_goals
    go_ret
    exact ⟨ret_bool (by simp_all [DPolicy.eq_iff]), xe⟩
set_option maxRecDepth 100000 in
set_option maxHeartbeats 1000000 in
theorem eqPolicyS (v1 v2 : Value) (xs ys : List DPolicy) (w : World) (h1 : PolicyS w.heap.size w v1 xs) (h2 : PolicyS w.heap.size w v2 ys) :
    Calls Tryz.prog 42 #[v1, v2] w fun e w' => e = .returned (.bool (decide (xs = ys))) ∧ Ext w w' := by
  obtain ⟨A1, n1, c1, rfl, hl1, hn1, hm1, -⟩ := id h1
  obtain ⟨A2, n2, c2, rfl, hl2, hn2, hm2, -⟩ := id h2
  unfold maxLen at hm1 hm2
  have H1 := Lib.hid h1; have H2 := Lib.hid h2; have E1 := Lib.hid hl1; have E2 := Lib.hid hl2; clear h1 h2 hl1 hl2
  by_cases hn : n1 = n2
  · subst hn
    go_enter Tryz.func42, Tryz.ntmps42
    go_wp2
    go_loopw [5] (fun i wr => ∃ k : Nat, k ≤ n1 ∧ i = I k ∧ xs.take k = ys.take k ∧ Ext w wr) (fun i _ => n1 - (intOf i).toNat)
    case atStart => exact ⟨0, by omega, rfl, by simp, Ext.refl _⟩
    case round =>
      obtain ⟨k, hk, rfl, hq, he⟩ := hrel
      have HQ := Lib.hid hq; clear hq
      have HE := Lib.hid he; clear he
      by_cases hlt : k < n1
      · obtain ⟨b1, o1, rfl, hb1, hk1, hc1⟩ := (H1.out.ext HE.out).at_ hlt
        obtain ⟨b2, o2, rfl, hb2, hk2, hc2⟩ := (H2.out.ext HE.out).at_ hlt
        have i0 : (0 : Int) ≤ (k : Int) := by omega
        have i1 : (k : Int) < (n1 : Int) := by omega
        have X1 := Lib.hid (take_snoc xs k hk1)
        have X2 := Lib.hid (take_snoc ys k hk2)
        have hne : ¬ xs[k] = ys[k] → xs ≠ ys := fun hne h => hne (by subst h; rfl)
        have HN := Lib.hid hne; clear hne
        generalize xs[k] = x at *
        generalize ys[k] = y at *
        obtain ⟨h10, h11, h12, h13⟩ := hc1
        obtain ⟨h20, h21, h22, h23⟩ := hc2
        go_wp2_with fail
        go_region_held3 (fun W => wr.heap.size ≤ W.heap.size ∧ ∀ b o, b < wr.heap.size → W.cell? ⟨b, o, none⟩ = wr.cell? ⟨b, o, none⟩)
          (first | exact ⟨Nat.le_refl _, fun _ _ _ => rfl⟩ | exact keepC (by assumption) he1)
          (first | (go_at_call 106; refine (eqPolicy _ _ x y _ (by exact rfl) (by exact rfl)).mono ?_; rintro e w1 ⟨rfl, he1⟩))
        have HE1 := Lib.hid (HE.out.drew.trans he1)
        have hdd : decide (x = y) = true ↔ x = y := decide_eq_true_iff
        have HD := Lib.hid hdd; clear hdd
        generalize decide (x = y) = bb at *
        cases bb
        · have hxy : ¬ x = y := fun h => by have := HD.out.2 h; cases this
          have HXY := Lib.hid hxy; clear hxy
          go_wp2
          go_ret
          exact ⟨ret_bool (by simp [HN.out HXY.out]), HE1.out⟩
        · have HXY := Lib.hid (HD.out.1 rfl)
          go_wp2
          go_roundw
          case rel => exact ⟨k + 1, by omega, by go_num, by rw [X1.out, X2.out, HQ.out, HXY.out], HE1.out⟩
          case measure => simp [intOf]; omega
      · go_wp2
        go_ret
        have h := HQ.out
        rw [List.take_of_length_le (by rw [E1.out]; omega), List.take_of_length_le (by rw [E2.out]; omega)] at h
        exact ⟨ret_bool (by simp [h]), HE.out⟩
  · have hb : ((n1 : Int) == (n2 : Int)) = false := by simp; omega
    have hb' : ((n1 : Int) != (n2 : Int)) = true := by simp; omega
    have HN := Lib.hid hn; clear hn
    go_enter Tryz.func42, Tryz.ntmps42
    go_wp2
    go_ret
    have : xs ≠ ys := fun h => HN.out (by rw [← E1.out, ← E2.out, h])
    exact ⟨ret_bool (by simp [this]), Ext.refl _⟩
set_option maxRecDepth 100000 in
set_option maxHeartbeats 1000000 in
theorem szPolicyS (v : Value) (ds : List DPolicy) (left : Int) (w : World) (h : PolicyS w.heap.size w v ds) (h0 : 0 ≤ left) (hl : left ≤ 1048576) :
    Calls Tryz.prog 36 #[v, I left] w fun e w' => e = .returned (I (szR ds.length left)) ∧ Ext w w' := by
  obtain ⟨A, n, c, rfl, hl1, hn1, hm1, -⟩ := id h
  unfold maxLen at hm1
  subst hl1
  clear h
  by_cases hlt : left < (ds.length : Int)
  · have HF := Lib.hid (szR_neg hlt)
    go_enter Tryz.func36, Tryz.ntmps36
    go_wp2
    go_ret
    exact ⟨ret_int HF.out.symm, Ext.refl _⟩
  · have HF := Lib.hid (szR_pos (t := ds.length) (left := left) (by omega))
    go_enter Tryz.func36, Tryz.ntmps36
    go_wp2
    go_ret
    exact ⟨ret_int HF.out.symm, Ext.refl _⟩
/-- What marking from q on writes. -/
def PolicyNum (q n : Nat) : List DPolicy := (List.range n).map fun j => ⟨((q + 4 * j : Nat) : Int), ((q + 4 * j : Nat) : Int) + 1, ((q + 4 * j : Nat) : Int) + 1 + 1, ((q + 4 * j : Nat) : Int) + 1 + 1 + 1⟩
theorem PolicyNum_len {q n : Nat} : (PolicyNum q n).length = n := by simp [PolicyNum]
set_option maxRecDepth 100000 in
set_option maxHeartbeats 1000000 in
theorem markPolicyS (v : Value) (xs : List DPolicy) (q : Nat) (lo hi : Nat) (w : World) (h : PolicySO lo hi w v xs) (hq : q + 4 * xs.length ≤ 1000000000000000) :
    Calls Tryz.prog 44 #[v, I q] w fun e w' => e = .returned (I ((q + 4 * xs.length : Nat) : Int)) ∧ Own 136 4 lo hi w' v xs.length ((PolicyNum q xs.length).flatMap PolicyC) ∧ Out lo hi w w' := by
  rcases h.cases with ⟨rfl, h0, hx⟩ | ⟨g, cap, rest, rfl, h1, h2, hb, hlc, hn, hm, hs⟩
  · rw [h0]
    clear h hx h0
    go_enter Tryz.func44, Tryz.ntmps44
    go_wp2
    go_loop [1, 5] (fun k i => k = I q ∧ i = I 0) (fun _ _ => 0)
    case atStart => exact ⟨rfl, rfl⟩
    case round =>
      obtain ⟨rfl, rfl⟩ := hrel
      go_wp2
      go_ret
      exact ⟨rfl, Own.nil _ _ _ _ _, Out.refl _ _ _⟩
  · have HB := Lib.hid hb
    have HS := Lib.hid hs
    clear h hb hlc
    unfold maxLen at hm
    go_enter Tryz.func44, Tryz.ntmps44
    go_wp2
    go_loopw [1, 5] (fun k i wr => ∃ j p : Nat, j ≤ xs.length ∧ p = q + 4 * j ∧ k = I p ∧ i = I j ∧ Blk wr g 136 ((PolicyNum q j).flatMap PolicyC ++ ((xs.drop j).flatMap PolicyC ++ rest)) ∧ Out lo hi w wr) (fun _ i _ => xs.length - (intOf i).toNat)
    case atStart => exact ⟨0, q, by omega, by omega, rfl, rfl, by simpa [PolicyNum] using HB.out, Out.refl _ _ _⟩
    case round =>
      obtain ⟨j, p, hj, hp, rfl, rfl, hbl, ho⟩ := hrel
      have hpb : p ≤ 1000000000000000 := by omega
      have HB1 := Lib.hid hbl; clear hbl
      have HO := Lib.hid ho; clear ho
      by_cases hlt : j < xs.length
      · have hpb : p + 4 ≤ 1000000000000000 := by omega
        have HPQ := Lib.hid hp; clear hp
        have hd := HB1.out
        rw [List.drop_eq_getElem_cons hlt, List.flatMap_cons, List.append_assoc] at hd
        have hpl : ((PolicyNum q j).flatMap PolicyC).length = j * 4 := by rw [flat_len PolicyC 4 (fun _ => rfl)]; simp [PolicyNum]
        generalize xs[j] = x at *
        have hd : Blk wr g 136 ((PolicyNum q j).flatMap PolicyC ++ I x.maxLen :: I x.denied :: I x.closed :: I x.life :: ((xs.drop (j + 1)).flatMap PolicyC ++ rest)) := hd
        obtain ⟨hu0, hu1, hu2, hu3⟩ := cells_at4 hd hpl
        have hf0 := hd.frozen (j * 4)
        have hf1 := hd.frozen (j * 4 + 1)
        have hf2 := hd.frozen (j * 4 + 2)
        have hf3 := hd.frozen (j * 4 + 3)
        have hset := (((hd.set_ (j * 4) (I ((p : Int)))).set_ (j * 4 + 1) (I ((p : Int) + 1))).set_ (j * 4 + 2) (I ((p : Int) + 1 + 1))).set_ (j * 4 + 3) (I ((p : Int) + 1 + 1 + 1))
        rw [set_at4 _ _ _ _ _ _ _ _ _ _ _ hpl] at hset
        have HT := Lib.hid hset
        clear hd hset hpl
        go_wp2
        go_roundw
        case rel =>
          refine ⟨j + 1, p + 4, by omega, by rw [HPQ.out]; omega, by go_num, by go_num, ?_, (((HO.out.setCell h1 h2 _).setCell h1 h2 _).setCell h1 h2 _).setCell h1 h2 _⟩
          have ht := HT.out
          have hp := HPQ.out
          subst hp
          simpa [PolicyNum, PolicyC, List.range_succ] using ht
        case measure => simp [intOf]; omega
      · have HPQ := Lib.hid hp; clear hp
        go_wp2
        go_ret
        obtain rfl : j = xs.length := by omega
        have hp := HPQ.out
        subst hp
        refine ⟨rfl, Own.mk' h1 h2 (by simpa using HB1.out) (by rw [flat_len PolicyC 4 (fun _ => rfl)]; simp [PolicyNum]) hn hm ?_, HO.out⟩
        have hs := HS.out
        rw [List.length_append, flat_len PolicyC 4 (fun _ => rfl)] at hs ⊢
        simpa [PolicyNum] using hs
theorem markPolicyS_row (v : Value) (xs : List DPolicy) (q : Nat) (qi : Int) (w : World) (h : w.ownsRow 0 136 4 v xs.length (xs.flatMap PolicyC)) (hqi : qi = (q : Int)) (hq : q + 4 * xs.length ≤ 1000000000000000) :
    Calls Tryz.prog 44 #[v, I qi] w fun e w' => e = .returned (I ((q + 4 * xs.length : Nat) : Int)) ∧ w'.ownsRow 0 136 4 v xs.length ((PolicyNum q xs.length).flatMap PolicyC) ∧ OutF v.ownBlock.toList w w' := by
  subst hqi
  exact calls_row h fun lo hi ho => markPolicyS v xs q lo hi w ho hq
end Go.Proofs.YtdcfidlngbhpcaaGreat
namespace Go.Proofs.YtdcfidlngbhpcaaGreat
open Go.RowKit
set_option linter.unusedVariables false
theorem info_Hop : (Tryz.prog.info? 165).map (fun i => (i.zero, i.size, i.bytes)) = some (some (.agg #[.int .i64 0, .int .i64 0, .int .i64 0, .int .i64 0, .int .i64 0]), 5, 40) := by kernel_rfl

theorem row_Hop {B : Nat} {w : World} {A : Option Addr} {n c : Nat} {xs : List DHop} (h : HopS B w (.slice A n c) xs) : Row w 5 A n (xs.flatMap HopC) := row_flat (C := HopC) (sz := 5) (fun _ => rfl) (by omega) HopAt.cells_ h
set_option maxRecDepth 100000 in
set_option maxHeartbeats 1000000 in
theorem neq_Hop (x y : DHop) (w : World) : (binOp .neq 165 (.agg #[I x.asn, I x.ing, I x.egr, I x.exp, I x.mac]) (.agg #[I y.asn, I y.ing, I y.egr, I y.exp, I y.mac])).run Tryz.prog w = .ok (.bool (!decide (x = y))) w := by
  have hp : Tryz.prog.stoodInHeld 165 = false := by kernel_rfl
  have ht : Tryz.prog.underlying 165 = some (.struct (Tryz.prog.fieldsOf 165)) := by kernel_rfl
  have hf := ht.symm.trans Tryz.underlying165
  injection hf with hf
  injection hf with hf
  rw [run_neq_struct, run_equalIn_struct w 9999 165 _ _ ht hp, hf]
  by_cases h0 : x.asn = y.asn
  rotate_left
  · simp [Op.eqFields, go_sem, Tryz.underlying3, DHop.eq_iff, h0]
  by_cases h1 : x.ing = y.ing
  rotate_left
  · simp [Op.eqFields, go_sem, Tryz.underlying3, DHop.eq_iff, h0, h1]
  by_cases h2 : x.egr = y.egr
  rotate_left
  · simp [Op.eqFields, go_sem, Tryz.underlying3, DHop.eq_iff, h0, h1, h2]
  by_cases h3 : x.exp = y.exp
  rotate_left
  · simp [Op.eqFields, go_sem, Tryz.underlying3, DHop.eq_iff, h0, h1, h2, h3]
  by_cases h4 : x.mac = y.mac
  · simp [Op.eqFields, go_sem, Tryz.underlying3, DHop.eq_iff, h0, h1, h2, h3, h4]
  · simp [Op.eqFields, go_sem, Tryz.underlying3, DHop.eq_iff, h0, h1, h2, h3, h4]
set_option maxRecDepth 100000 in
set_option maxHeartbeats 1000000 in
theorem eql_Hop (x y : DHop) (w : World) : (binOp .eql 165 (.agg #[I x.asn, I x.ing, I x.egr, I x.exp, I x.mac]) (.agg #[I y.asn, I y.ing, I y.egr, I y.exp, I y.mac])).run Tryz.prog w = .ok (.bool (decide (x = y))) w := by
  have hp : Tryz.prog.stoodInHeld 165 = false := by kernel_rfl
  have ht : Tryz.prog.underlying 165 = some (.struct (Tryz.prog.fieldsOf 165)) := by kernel_rfl
  have hf := ht.symm.trans Tryz.underlying165
  injection hf with hf
  injection hf with hf
  rw [run_eql_struct, run_equalIn_struct w 9999 165 _ _ ht hp, hf]
  by_cases h0 : x.asn = y.asn
  rotate_left
  · simp [Op.eqFields, go_sem, Tryz.underlying3, DHop.eq_iff, h0]
  by_cases h1 : x.ing = y.ing
  rotate_left
  · simp [Op.eqFields, go_sem, Tryz.underlying3, DHop.eq_iff, h0, h1]
  by_cases h2 : x.egr = y.egr
  rotate_left
  · simp [Op.eqFields, go_sem, Tryz.underlying3, DHop.eq_iff, h0, h1, h2]
  by_cases h3 : x.exp = y.exp
  rotate_left
  · simp [Op.eqFields, go_sem, Tryz.underlying3, DHop.eq_iff, h0, h1, h2, h3]
  by_cases h4 : x.mac = y.mac
  · simp [Op.eqFields, go_sem, Tryz.underlying3, DHop.eq_iff, h0, h1, h2, h3, h4]
  · simp [Op.eqFields, go_sem, Tryz.underlying3, DHop.eq_iff, h0, h1, h2, h3, h4]
theorem guard_Hop : Tryz.prog.eqGuardType Tryz.prog.depth 165 = false := by kernel_rfl
/-- A []Hop of the call's own. -/
abbrev HopSO (lo hi : Nat) (w : World) (v : Value) (xs : List DHop) : Prop := Own 165 5 lo hi w v xs.length (xs.flatMap HopC)
theorem HopSO_rd {lo hi : Nat} {w : World} {v : Value} {xs : List DHop} (h : HopSO lo hi w v xs) : HopS w.heap.size w v xs := (Own.lt_size h).sl (At := HopAt) HopC.len (by omega) HopC.at_
set_option maxRecDepth 100000 in
set_option maxHeartbeats 1000000 in
theorem toHop (x : DHop) (w : World) : Calls Tryz.prog 137 #[.agg #[I x.asn, I x.ing, I x.egr, I x.exp, I x.mac]] w fun e w' => e = .returned (.agg #[I x.asn, I x.ing, I x.egr, I x.exp, I x.mac]) ∧ Ext w w' := by
  go_enter Tryz.func137, Tryz.ntmps137
  go_wp2
  exact bodyPost_ret (v := .agg #[I x.asn, I x.ing, I x.egr, I x.exp, I x.mac]) (by simp [results, Tryz.results137, go_sem]) rfl ⟨rfl, xe⟩
set_option maxRecDepth 100000 in
set_option maxHeartbeats 1000000 in
theorem toHopS (v : Value) (ds : List DHop) (w : World) (h : HopS w.heap.size w v ds) (hn : ds.length ≤ 16777216) :
    Calls Tryz.prog 73 #[v] w fun e w' => ∃ v', e = .returned v' ∧ HopSO w.heap.size w'.heap.size w' v' ds ∧ Ext w w' := by
  obtain ⟨A, n, c, rfl, hl, -⟩ := id h
  subst hl
  have hmk := run_mk (P := Tryz.prog) 45 165 (.agg #[.int .i64 0, .int .i64 0, .int .i64 0, .int .i64 0, .int .i64 0]) 5 40 Tryz.underlying45 info_Hop ds.length (by omega) (by omega)
  have hml := mkRow_len (.agg #[.int .i64 0, .int .i64 0, .int .i64 0, .int .i64 0, .int .i64 0]) (ds.length * 5)
  generalize mkRow (.agg #[.int .i64 0, .int .i64 0, .int .i64 0, .int .i64 0, .int .i64 0]) (ds.length * 5) = mr at *
  have H := Lib.hid h; clear h
  have HM := Lib.hid hml; clear hml
  go_enter Tryz.func73, Tryz.ntmps73
  go_wp2
  go_loopw [4] (fun i wr => ∃ (k : Nat) (rest : List Value), k ≤ ds.length ∧ i = I k ∧ Blk wr w.heap.size 165 ((ds.take k).flatMap HopC ++ rest) ∧ rest.length = (ds.length - k) * 5 ∧ Ext w wr) (fun i _ => ds.length - (intOf i).toNat)
  case atStart => exact ⟨0, mr.toList, by omega, rfl, by simpa using Blk.new w 165 mr.toList, by simpa using HM.out, (Ext.refl _).alloc _⟩
  case round =>
    obtain ⟨k, rest, hk, rfl, hb, hr, he⟩ := hrel
    have HE := Lib.hid he
    have HB := Lib.hid hb; clear hb
    by_cases hlt : k < ds.length
    · obtain ⟨b, off, rfl, hbb, _, hc⟩ := (H.out.ext he).at_ hlt
      obtain ⟨r0, r1, r2, r3, r4, rest, rfl⟩ : ∃ r0 r1 r2 r3 r4 rest', rest = r0 :: r1 :: r2 :: r3 :: r4 :: rest' := by
        match rest, hr with
        | r0 :: r1 :: r2 :: r3 :: r4 :: rest, _ => exact ⟨r0, r1, r2, r3, r4, rest, rfl⟩
        | [], h => simp at h; omega
        | [_], h => simp at h; omega
        | [_, _], h => simp at h; omega
        | [_, _, _], h => simp at h; omega
        | [_, _, _, _], h => simp at h; omega
      have hlr : rest.length = (ds.length - (k + 1)) * 5 := by simp only [List.length_cons] at hr; omega
      have HR := Lib.hid hlr; clear hr he hlr
      have HX := Lib.hid (take_snoc ds k hlt)
      generalize ds[k] = x at *
      obtain ⟨hc0, hc1, hc2, hc3, hc4⟩ := hc
      have hp := flat_len HopC 5 (fun _ => rfl) (ds.take k)
      rw [List.length_take, Nat.min_eq_left hk] at hp
      have HP := Lib.hid hp; clear hp
      have hwg : w.heap.size < wr.heap.size := HB.out.lt
      go_wp2_with fail
      refine (toHop x _).mono ?_
      rintro e w1 ⟨rfl, he1⟩
      have HB1 := Lib.hid (HB.out.below he1.below hwg)
      have hz1 := he1.size
      have HE1 := Lib.hid he1
      clear he1
      obtain ⟨hu0, hu1, hu2, hu3, hu4⟩ := cells_at5 HB1.out HP.out
      have hf0 := HB1.out.frozen (k * 5)
      have hf1 := HB1.out.frozen (k * 5 + 1)
      have hf2 := HB1.out.frozen (k * 5 + 2)
      have hf3 := HB1.out.frozen (k * 5 + 3)
      have hf4 := HB1.out.frozen (k * 5 + 4)
      go_wp2
      go_roundw
      case rel =>
        refine ⟨k + 1, rest, by omega, by go_num, ?_, HR.out, ?_⟩
        · have := ((((HB1.out.set_ (k * 5) (I x.asn)).set_ (k * 5 + 1) (I x.ing)).set_ (k * 5 + 2) (I x.egr)).set_ (k * 5 + 3) (I x.exp)).set_ (k * 5 + 4) (I x.mac)
          rw [set_at5 _ _ _ _ _ _ _ _ _ _ _ _ _ HP.out] at this
          rw [HX.out, List.flatMap_append]
          simpa [HopC] using this
        · exact (((((HE.out.trans HE1.out).setCell (by simp) _).setCell (by simp) _).setCell (by simp) _).setCell (by simp) _).setCell (by simp) _
      case measure => simp [intOf]; omega
    · have HR := Lib.hid hr; clear hr he
      go_wp2
      go_ret
      have e : k = ds.length := by omega
      have hr := HR.out
      subst e
      obtain rfl : rest = [] := List.eq_nil_of_length_eq_zero (by simpa using hr)
      have hb := HB.out
      rw [List.take_length, List.append_nil] at hb
      exact ⟨_, rfl, Own.of_blk hb (flat_len HopC 5 (fun _ => rfl) ds) (by unfold maxLen; omega) (Nat.le_refl _) hb.lt, HE.out⟩
set_option maxRecDepth 100000 in
set_option maxHeartbeats 1000000 in
theorem eqHop (v1 v2 : Value) (x y : DHop) (w : World) (h1 : HopV w.heap.size w v1 x) (h2 : HopV w.heap.size w v2 y) :
    Calls Tryz.prog 146 #[v1, v2] w fun e w' => e = .returned (.bool (decide (x = y))) ∧ Ext w w' := by
  obtain rfl := h1
  obtain rfl := h2
  go_enter Tryz.func146, Tryz.ntmps146
  go_wp2_with fail
  all_goals
    go_ret
    exact ⟨ret_bool (by simp_all [DHop.eq_iff]), xe⟩
set_option maxRecDepth 100000 in
set_option maxHeartbeats 1000000 in
theorem eqHopS (v1 v2 : Value) (xs ys : List DHop) (w : World) (h1 : HopS w.heap.size w v1 xs) (h2 : HopS w.heap.size w v2 ys) :
    Calls Tryz.prog 83 #[v1, v2] w fun e w' => e = .returned (.bool (decide (xs = ys))) ∧ Ext w w' := by
  obtain ⟨A1, n1, c1, rfl, hl1, hn1, hm1, -⟩ := id h1
  obtain ⟨A2, n2, c2, rfl, hl2, hn2, hm2, -⟩ := id h2
  unfold maxLen at hm1 hm2
  have H1 := Lib.hid h1; have H2 := Lib.hid h2; have E1 := Lib.hid hl1; have E2 := Lib.hid hl2; clear h1 h2 hl1 hl2
  by_cases hn : n1 = n2
  · subst hn
    go_enter Tryz.func83, Tryz.ntmps83
    go_wp2
    go_loopw [5] (fun i wr => ∃ k : Nat, k ≤ n1 ∧ i = I k ∧ xs.take k = ys.take k ∧ Ext w wr) (fun i _ => n1 - (intOf i).toNat)
    case atStart => exact ⟨0, by omega, rfl, by simp, Ext.refl _⟩
    case round =>
      obtain ⟨k, hk, rfl, hq, he⟩ := hrel
      have HQ := Lib.hid hq; clear hq
      have HE := Lib.hid he; clear he
      by_cases hlt : k < n1
      · obtain ⟨b1, o1, rfl, hb1, hk1, hc1⟩ := (H1.out.ext HE.out).at_ hlt
        obtain ⟨b2, o2, rfl, hb2, hk2, hc2⟩ := (H2.out.ext HE.out).at_ hlt
        have i0 : (0 : Int) ≤ (k : Int) := by omega
        have i1 : (k : Int) < (n1 : Int) := by omega
        have X1 := Lib.hid (take_snoc xs k hk1)
        have X2 := Lib.hid (take_snoc ys k hk2)
        have hne : ¬ xs[k] = ys[k] → xs ≠ ys := fun hne h => hne (by subst h; rfl)
        have HN := Lib.hid hne; clear hne
        generalize xs[k] = x at *
        generalize ys[k] = y at *
        obtain ⟨h10, h11, h12, h13, h14⟩ := hc1
        obtain ⟨h20, h21, h22, h23, h24⟩ := hc2
        go_wp2_with fail
        go_region_held3 (fun W => wr.heap.size ≤ W.heap.size ∧ ∀ b o, b < wr.heap.size → W.cell? ⟨b, o, none⟩ = wr.cell? ⟨b, o, none⟩)
          (first | exact ⟨Nat.le_refl _, fun _ _ _ => rfl⟩ | exact keepC (by assumption) he1)
          (first | (go_at_call 146; refine (eqHop _ _ x y _ (by exact rfl) (by exact rfl)).mono ?_; rintro e w1 ⟨rfl, he1⟩))
        have HE1 := Lib.hid (HE.out.drew.trans he1)
        have hdd : decide (x = y) = true ↔ x = y := decide_eq_true_iff
        have HD := Lib.hid hdd; clear hdd
        generalize decide (x = y) = bb at *
        cases bb
        · have hxy : ¬ x = y := fun h => by have := HD.out.2 h; cases this
          have HXY := Lib.hid hxy; clear hxy
          go_wp2
          go_ret
          exact ⟨ret_bool (by simp [HN.out HXY.out]), HE1.out⟩
        · have HXY := Lib.hid (HD.out.1 rfl)
          go_wp2
          go_roundw
          case rel => exact ⟨k + 1, by omega, by go_num, by rw [X1.out, X2.out, HQ.out, HXY.out], HE1.out⟩
          case measure => simp [intOf]; omega
      · go_wp2
        go_ret
        have h := HQ.out
        rw [List.take_of_length_le (by rw [E1.out]; omega), List.take_of_length_le (by rw [E2.out]; omega)] at h
        exact ⟨ret_bool (by simp [h]), HE.out⟩
  · have hb : ((n1 : Int) == (n2 : Int)) = false := by simp; omega
    have hb' : ((n1 : Int) != (n2 : Int)) = true := by simp; omega
    have HN := Lib.hid hn; clear hn
    go_enter Tryz.func83, Tryz.ntmps83
    go_wp2
    go_ret
    have : xs ≠ ys := fun h => HN.out (by rw [← E1.out, ← E2.out, h])
    exact ⟨ret_bool (by simp [this]), Ext.refl _⟩
set_option maxRecDepth 100000 in
set_option maxHeartbeats 1000000 in
theorem szHopS (v : Value) (ds : List DHop) (left : Int) (w : World) (h : HopS w.heap.size w v ds) (h0 : 0 ≤ left) (hl : left ≤ 1048576) :
    Calls Tryz.prog 63 #[v, I left] w fun e w' => e = .returned (I (szR ds.length left)) ∧ Ext w w' := by
  obtain ⟨A, n, c, rfl, hl1, hn1, hm1, -⟩ := id h
  unfold maxLen at hm1
  subst hl1
  clear h
  by_cases hlt : left < (ds.length : Int)
  · have HF := Lib.hid (szR_neg hlt)
    go_enter Tryz.func63, Tryz.ntmps63
    go_wp2
    go_ret
    exact ⟨ret_int HF.out.symm, Ext.refl _⟩
  · have HF := Lib.hid (szR_pos (t := ds.length) (left := left) (by omega))
    go_enter Tryz.func63, Tryz.ntmps63
    go_wp2
    go_ret
    exact ⟨ret_int HF.out.symm, Ext.refl _⟩
/-- What marking from q on writes. -/
def HopNum (q n : Nat) : List DHop := (List.range n).map fun j => ⟨((q + 5 * j : Nat) : Int), ((q + 5 * j : Nat) : Int) + 1, ((q + 5 * j : Nat) : Int) + 1 + 1, ((q + 5 * j : Nat) : Int) + 1 + 1 + 1, ((q + 5 * j : Nat) : Int) + 1 + 1 + 1 + 1⟩
theorem HopNum_len {q n : Nat} : (HopNum q n).length = n := by simp [HopNum]
set_option maxRecDepth 100000 in
set_option maxHeartbeats 1000000 in
theorem markHopS (v : Value) (xs : List DHop) (q : Nat) (lo hi : Nat) (w : World) (h : HopSO lo hi w v xs) (hq : q + 5 * xs.length ≤ 1000000000000000) :
    Calls Tryz.prog 87 #[v, I q] w fun e w' => e = .returned (I ((q + 5 * xs.length : Nat) : Int)) ∧ Own 165 5 lo hi w' v xs.length ((HopNum q xs.length).flatMap HopC) ∧ Out lo hi w w' := by
  rcases h.cases with ⟨rfl, h0, hx⟩ | ⟨g, cap, rest, rfl, h1, h2, hb, hlc, hn, hm, hs⟩
  · rw [h0]
    clear h hx h0
    go_enter Tryz.func87, Tryz.ntmps87
    go_wp2
    go_loop [1, 5] (fun k i => k = I q ∧ i = I 0) (fun _ _ => 0)
    case atStart => exact ⟨rfl, rfl⟩
    case round =>
      obtain ⟨rfl, rfl⟩ := hrel
      go_wp2
      go_ret
      exact ⟨rfl, Own.nil _ _ _ _ _, Out.refl _ _ _⟩
  · have HB := Lib.hid hb
    have HS := Lib.hid hs
    clear h hb hlc
    unfold maxLen at hm
    go_enter Tryz.func87, Tryz.ntmps87
    go_wp2
    go_loopw [1, 5] (fun k i wr => ∃ j p : Nat, j ≤ xs.length ∧ p = q + 5 * j ∧ k = I p ∧ i = I j ∧ Blk wr g 165 ((HopNum q j).flatMap HopC ++ ((xs.drop j).flatMap HopC ++ rest)) ∧ Out lo hi w wr) (fun _ i _ => xs.length - (intOf i).toNat)
    case atStart => exact ⟨0, q, by omega, by omega, rfl, rfl, by simpa [HopNum] using HB.out, Out.refl _ _ _⟩
    case round =>
      obtain ⟨j, p, hj, hp, rfl, rfl, hbl, ho⟩ := hrel
      have hpb : p ≤ 1000000000000000 := by omega
      have HB1 := Lib.hid hbl; clear hbl
      have HO := Lib.hid ho; clear ho
      by_cases hlt : j < xs.length
      · have hpb : p + 5 ≤ 1000000000000000 := by omega
        have HPQ := Lib.hid hp; clear hp
        have hd := HB1.out
        rw [List.drop_eq_getElem_cons hlt, List.flatMap_cons, List.append_assoc] at hd
        have hpl : ((HopNum q j).flatMap HopC).length = j * 5 := by rw [flat_len HopC 5 (fun _ => rfl)]; simp [HopNum]
        generalize xs[j] = x at *
        have hd : Blk wr g 165 ((HopNum q j).flatMap HopC ++ I x.asn :: I x.ing :: I x.egr :: I x.exp :: I x.mac :: ((xs.drop (j + 1)).flatMap HopC ++ rest)) := hd
        obtain ⟨hu0, hu1, hu2, hu3, hu4⟩ := cells_at5 hd hpl
        have hf0 := hd.frozen (j * 5)
        have hf1 := hd.frozen (j * 5 + 1)
        have hf2 := hd.frozen (j * 5 + 2)
        have hf3 := hd.frozen (j * 5 + 3)
        have hf4 := hd.frozen (j * 5 + 4)
        have hset := ((((hd.set_ (j * 5) (I ((p : Int)))).set_ (j * 5 + 1) (I ((p : Int) + 1))).set_ (j * 5 + 2) (I ((p : Int) + 1 + 1))).set_ (j * 5 + 3) (I ((p : Int) + 1 + 1 + 1))).set_ (j * 5 + 4) (I ((p : Int) + 1 + 1 + 1 + 1))
        rw [set_at5 _ _ _ _ _ _ _ _ _ _ _ _ _ hpl] at hset
        have HT := Lib.hid hset
        clear hd hset hpl
        go_wp2
        go_roundw
        case rel =>
          refine ⟨j + 1, p + 5, by omega, by rw [HPQ.out]; omega, by go_num, by go_num, ?_, ((((HO.out.setCell h1 h2 _).setCell h1 h2 _).setCell h1 h2 _).setCell h1 h2 _).setCell h1 h2 _⟩
          have ht := HT.out
          have hp := HPQ.out
          subst hp
          simpa [HopNum, HopC, List.range_succ] using ht
        case measure => simp [intOf]; omega
      · have HPQ := Lib.hid hp; clear hp
        go_wp2
        go_ret
        obtain rfl : j = xs.length := by omega
        have hp := HPQ.out
        subst hp
        refine ⟨rfl, Own.mk' h1 h2 (by simpa using HB1.out) (by rw [flat_len HopC 5 (fun _ => rfl)]; simp [HopNum]) hn hm ?_, HO.out⟩
        have hs := HS.out
        rw [List.length_append, flat_len HopC 5 (fun _ => rfl)] at hs ⊢
        simpa [HopNum] using hs
set_option maxRecDepth 100000 in
set_option maxHeartbeats 1000000 in
theorem heldHopS (v : Value) (n q : Nat) (w : World) (h : HopS w.heap.size w v (HopNum q n)) (hq : q + 5 * n ≤ 1000000000000000) :
    Calls Tryz.prog 98 #[v, I q] w fun e w' => e = .returned (I ((q + 5 * n : Nat) : Int)) ∧ Ext w w' := by
  obtain ⟨A, n', c, rfl, hl, hn, hm, -⟩ := id h
  obtain rfl : n = n' := by simpa [HopNum] using hl
  have H := Lib.hid h; clear h hl
  unfold maxLen at hm
  go_enter Tryz.func98, Tryz.ntmps98
  go_wp2
  go_loop [1, 5] (fun k i => ∃ j p : Nat, j ≤ n ∧ p = q + 5 * j ∧ k = I p ∧ i = I j) (fun _ i => n - (intOf i).toNat)
  case atStart => exact ⟨0, q, by omega, by omega, rfl, rfl⟩
  case round =>
    obtain ⟨j, p, hj, hp, rfl, rfl⟩ := hrel
    have hpb : p ≤ 1000000000000000 := by omega
    by_cases hlt : j < n
    · obtain ⟨b, off, rfl, hb, hk, hc⟩ := H.out.at_ hlt
      have hpb : p + 5 ≤ 1000000000000000 := by omega
      have hx : (HopNum q n)[j] = ⟨(p : Int), (p : Int) + 1, (p : Int) + 1 + 1, (p : Int) + 1 + 1 + 1, (p : Int) + 1 + 1 + 1 + 1⟩ := by subst hp; simp [HopNum]
      rw [hx] at hc
      obtain ⟨hc0, hc1, hc2, hc3, hc4⟩ := hc
      dsimp only at hc0 hc1 hc2 hc3 hc4
      have HPQ := Lib.hid hp; clear hp hx
      go_wp2
      go_round
      case rel => exact ⟨j + 1, p + 5, by omega, by rw [HPQ.out]; omega, by go_num, by go_num⟩
      case measure => simp [intOf]; omega
    · have HPQ := Lib.hid hp; clear hp
      go_wp2
      go_ret
      obtain rfl : j = n := by omega
      exact ⟨ret_int (by have := HPQ.out; omega), Ext.refl _⟩
theorem markHopS_row (v : Value) (xs : List DHop) (q : Nat) (qi : Int) (w : World) (h : w.ownsRow 0 165 5 v xs.length (xs.flatMap HopC)) (hqi : qi = (q : Int)) (hq : q + 5 * xs.length ≤ 1000000000000000) :
    Calls Tryz.prog 87 #[v, I qi] w fun e w' => e = .returned (I ((q + 5 * xs.length : Nat) : Int)) ∧ w'.ownsRow 0 165 5 v xs.length ((HopNum q xs.length).flatMap HopC) ∧ OutF v.ownBlock.toList w w' := by
  subst hqi
  exact calls_row h fun lo hi ho => markHopS v xs q lo hi w ho hq
theorem heldHopS_at (v : Value) (n q : Nat) (qi : Int) (w : World) (h : HopS w.heap.size w v (HopNum q n)) (hqi : qi = (q : Int)) (hq : q + 5 * n ≤ 1000000000000000) :
    Calls Tryz.prog 98 #[v, I qi] w fun e w' => e = .returned (I ((q + 5 * n : Nat) : Int)) ∧ Ext w w' := by
  subst hqi
  exact heldHopS v n q w h hq
end Go.Proofs.YtdcfidlngbhpcaaGreat
namespace Go.Proofs.YtdcfidlngbhpcaaGreat
open Go.RowKit
set_option linter.unusedVariables false
theorem info_Segment : (Tryz.prog.info? 47).map (fun i => (i.zero, i.size, i.bytes)) = some (some (.agg #[.int .i64 0, .int .i64 0, .slice none 0 0]), 3, 40) := by kernel_rfl

def SegmentO (lo hi : Nat) (w : World) (v : Value) (x : DSegment) : Prop := ∃ u2, v = .agg #[I x.ts, I x.beta, u2] ∧ Own 165 5 lo hi w u2 x.hops.length (x.hops.flatMap HopC) ∧ lo ≤ hi
theorem SegmentO.keep {lo hi : Nat} {w w' : World} {v : Value} {x : DSegment} (h : SegmentO lo hi w v x) (hk : ∀ k, lo ≤ k → k < hi → k < w.heap.size → w'.heap[k]? = w.heap[k]?) : SegmentO lo hi w' v x := by
  obtain ⟨u2, e, o2, l0⟩ := h
  exact ⟨u2, e, o2.keep fun k h1 h2 h3 => hk k (by omega) (by omega) h3, l0⟩
theorem SegmentO.v {lo hi : Nat} {w : World} {v : Value} {x : DSegment} (h : SegmentO lo hi w v x) : SegmentV hi w v x := by
  obtain ⟨u2, e, o2, l0⟩ := h
  have s2 := (o2.sl (At := HopAt) HopC.len (by omega) HopC.at_)
  obtain ⟨A2, n2, c2, rfl, _⟩ := id s2
  exact ⟨_, _, _, e, s2.keep HopAt.keeps (by omega) (fun _ _ => rfl)⟩
theorem SegmentO.shape {lo hi : Nat} {w : World} {v : Value} {x : DSegment} (h : SegmentO lo hi w v x) : ∃ A2 n2 c2, v = .agg #[I x.ts, I x.beta, .slice A2 n2 c2] := by
  obtain ⟨A2, n2, c2, e, _⟩ := h.v
  exact ⟨A2, n2, c2, e⟩
theorem SegmentO.ext {lo hi : Nat} {w w' : World} {v : Value} {x : DSegment} (h : SegmentO lo hi w v x) (he : Ext w w') (hhi : hi ≤ w.heap.size) : SegmentO lo hi w' v x := h.keep fun k _ _ h3 => he.same k h3
theorem SegmentO.drew {lo hi : Nat} {w : World} {v : Value} {x : DSegment} (h : SegmentO lo hi w v x) : SegmentO lo hi w.drew v x := h.keep fun _ _ _ _ => rfl
theorem SegmentO.out {lo hi lo' hi' : Nat} {w w' : World} {v : Value} {x : DSegment} (h : SegmentO lo hi w v x) (ho : Out lo' hi' w w') (hd : hi' ≤ lo ∨ hi ≤ lo') : SegmentO lo hi w' v x := h.keep fun k h1 h2 h3 => ho.block k h3 (by omega)
theorem SegmentO.more {lo hi lo' hi' : Nat} {w : World} {v : Value} {x : DSegment} (h : SegmentO lo hi w v x) (h1 : lo' ≤ lo) (h2 : hi ≤ hi') : SegmentO lo' hi' w v x := by
  obtain ⟨u2, e, o2, l0⟩ := h
  exact ⟨u2, e, Own.more o2 h1 h2, by omega⟩
theorem SegmentO.up {lo : Nat} {w w' : World} {v : Value} {x : DSegment} (h : SegmentO lo w.heap.size w v x) (he : Ext w w') : SegmentO lo w'.heap.size w' v x := (h.ext he (Nat.le_refl _)).more (Nat.le_refl _) he.size
theorem SegmentO.setT {lo hi g : Nat} {w : World} {v : Value} {x : DSegment} {cs' : List Value} (h : SegmentO lo hi w v x) (hb : Blk w g 47 cs') (i : Nat) (u : Value) : SegmentO lo hi (w.setCell ⟨g, i, none⟩ u) v x := by
  obtain ⟨u2, e, o2, l0⟩ := h
  exact ⟨u2, e, Own.setT o2 hb (by decide) i u, l0⟩
theorem SegmentO_rd {lo hi : Nat} {w : World} {v : Value} {x : DSegment} (h : SegmentO lo hi w v x) (hhi : hi ≤ w.heap.size) : SegmentV w.heap.size w v x := h.v.keep hhi (fun _ _ => rfl)
set_option maxRecDepth 100000 in
set_option maxHeartbeats 1000000 in
theorem toSegment (v : Value) (x : DSegment) (w : World) (h : SegmentV w.heap.size w v x) (hn : x.hops.length ≤ 16777216) :
    Calls Tryz.prog 16 #[v] w fun e w' => ∃ v', e = .returned v' ∧ SegmentO w.heap.size w'.heap.size w' v' x ∧ Ext w w' := by
  obtain ⟨A2, n2, c2, rfl, s2⟩ := h
  have S2 := Lib.hid s2; clear s2
  go_enter Tryz.func16, Tryz.ntmps16
  go_wp2_with fail
  refine (toHopS _ x.hops _ (by exact S2.out.ext xe) (by omega)).mono ?_
  rintro e w2 ⟨v2, rfl, ho2, he2⟩
  obtain ⟨hc2, hf2, hz2⟩ := he2.facts
  simp only [World.size_alloc] at hz2 hc2 hf2
  have la2 : w.heap.size < w2.heap.size := by omega
  have lb2 : w.heap.size + 1 < w2.heap.size := by omega
  have lc2 : w.heap.size + 1 + 1 < w2.heap.size := by omega
  simp only [World.size_alloc] at ho2
  have O2 := Lib.hid ho2; clear ho2
  obtain ⟨a2, m2, q2, hv2⟩ : ∃ a n c, v2 = .slice a n c := O2.out.slice
  subst hv2
  go_wp2_with fail
  refine bodyPost_ret (v := .agg #[I x.ts, I x.beta, .slice a2 m2 q2]) (by simp [results, Tryz.results16, go_sem, *]) rfl ⟨_, rfl, ?_, ?_⟩
  · simp only [World.size_setCell]
    refine ⟨_, rfl, Own.more (lo := w.heap.size + 1 + 1 + 1) (hi := w2.heap.size) (by repeat (first | (with_reducible exact O2.out) | (with_reducible refine Own.alloc ?_ _) | (with_reducible refine Own.setCell (p := _) ?_ (.inl ?ge) _; case ge => (first | omega | (dsimp only; omega) | (simp only [World.size_setCell]; omega) | (simp only [World.size_alloc]; omega))) | (with_reducible refine Own.ext ?_ (by with_reducible assumption) ?ge; case ge => (first | omega | (dsimp only; omega) | (simp only [World.size_setCell]; omega) | (simp only [World.size_alloc]; omega))))) (by omega) (by omega), by omega⟩
  · exact xe
set_option maxRecDepth 100000 in
set_option maxHeartbeats 1000000 in
theorem eqSegment (v1 v2 : Value) (x y : DSegment) (w : World) (h1 : SegmentV w.heap.size w v1 x) (h2 : SegmentV w.heap.size w v2 y) :
    Calls Tryz.prog 20 #[v1, v2] w fun e w' => e = .returned (.bool (decide (x = y))) ∧ Ext w w' := by
  obtain ⟨A12, n12, c12, rfl, s12⟩ := h1
  obtain ⟨A22, n22, c22, rfl, s22⟩ := h2
  have S12 := Lib.hid s12; clear s12
  have S22 := Lib.hid s22; clear s22
  go_enter Tryz.func20, Tryz.ntmps20
  go_wp2_with fail
  all_goals (try (go_ret; exact ⟨ret_bool (by simp_all [DSegment.eq_iff]), xe⟩))
  refine (eqHopS _ _ x.hops y.hops _ (by exact S12.out.ext xe) (by exact S22.out.ext xe)).mono ?_
  rintro e w3 ⟨rfl, he3⟩
  obtain ⟨hc3, hf3, hz3⟩ := he3.facts
  go_wp2_with fail
  all_goals
    go_ret
    exact ⟨ret_bool (by simp_all [DSegment.eq_iff]), xe⟩
set_option maxRecDepth 100000 in
set_option maxHeartbeats 1000000 in
theorem szSegment (v : Value) (x : DSegment) (left : Int) (w : World) (h : SegmentV w.heap.size w v x) (h0 : 0 ≤ left) (hl : left ≤ 1048576) :
    Calls Tryz.prog 12 #[v, I left] w fun e w' => e = .returned (I (szR (x.hops.length) left)) ∧ Ext w w' := by
  obtain ⟨A2, n2, c2, rfl, s2⟩ := h
  have S2 := Lib.hid s2; clear s2
  go_enter Tryz.func12, Tryz.ntmps12
  go_wp2_with fail
  refine (szHopS _ x.hops (left) _ (by exact S2.out.ext xe) (by omega) (by omega)).mono ?_
  rintro e w1 ⟨rfl, he1⟩
  obtain ⟨hc1, hf1, hz1⟩ := he1.facts
  by_cases hlt0 : left < (((x.hops.length) : Nat) : Int)
  · rw [szR_neg hlt0]
    go_wp2_with fail
    go_ret
    exact ⟨ret_int (szR_neg (by omega)).symm, xe⟩
  · rw [szR_pos (by omega)]
    go_wp2_with fail
    go_ret
    exact ⟨ret_int (by rw [szR_pos (by omega)] <;> omega), xe⟩
/-- What marking from q on leaves. -/
def SegmentNum1 (q : Nat) (x : DSegment) : DSegment := { ts := x.ts, beta := x.beta, hops := (HopNum q x.hops.length) }
set_option maxRecDepth 100000 in
set_option maxHeartbeats 1000000 in
theorem markSegment (v : Value) (x : DSegment) (q lo hi : Nat) (w : World) (h : SegmentO lo hi w v x) (hhi : hi ≤ w.heap.size) (hq : (q + 5 * x.hops.length) ≤ 1000000000000000) :
    Calls Tryz.prog 23 #[v, I q] w fun e w' => e = .returned (I (((q + 5 * x.hops.length) : Nat) : Int)) ∧ SegmentO lo hi w' v (SegmentNum1 q x) ∧ Out lo hi w w' := by
  obtain ⟨u2, rfl, o2, l0⟩ := h
  have O2 := Lib.hid o2; clear o2
  obtain ⟨a2, k2, c2, hv2⟩ := O2.out.slice
  subst hv2
  go_enter Tryz.func23, Tryz.ntmps23
  go_wp2_with fail
  refine (markHopS _ x.hops q lo hi _ (by exact (by repeat (first | (with_reducible exact O2.out) | (with_reducible refine Own.ext ?_ (by with_reducible assumption) ?ge; case ge => (first | omega | (simp only [World.size_alloc]; omega))) | (with_reducible refine Own.out ?_ (by with_reducible assumption) ?ge; case ge => omega) | (with_reducible refine Own.alloc ?_ _)))) (by omega)).mono ?_
  rintro e w2 ⟨rfl, p2, t2⟩
  have P2 := Lib.hid p2; clear p2
  have z2 := t2.size
  have hc2 : ∀ k o, k < lo ∨ hi ≤ k → k < _ → w2.cell? ⟨k, o, none⟩ = _ := fun k o h1 h2 => World.cell?_of_block (a := ⟨k, o, none⟩) (t2.block k h2 (by omega))
  simp only [World.size_alloc] at z2
  have lw2 : w.heap.size < w2.heap.size := by omega
  go_wp2_with fail
  go_ret
  have hOut : Out lo hi w w2 := (Out.trans (Out.of_ext xe) (t2.mono (by omega) (by omega)))
  have HOUT := Lib.hid hOut; clear hOut
  exact ⟨rfl, ⟨_, rfl, (by unfold SegmentNum1; dsimp only; rw [HopNum_len]; exact (by repeat (first | (with_reducible exact P2.out) | (with_reducible refine Own.ext ?_ (by with_reducible assumption) ?ge; case ge => (first | omega | (simp only [World.size_alloc]; omega))) | (with_reducible refine Own.out ?_ (by with_reducible assumption) ?ge; case ge => omega) | (with_reducible refine Own.alloc ?_ _)))), l0⟩, HOUT.out⟩
/-- The cells cs of a Segment and the blocks that it owns. -/
def SegmentOC (w : World) (fp : List Nat) (cs : List Value) (x : DSegment) : Prop := ∃ u2, cs = [I x.ts, I x.beta, u2] ∧ w.ownsRow 0 165 5 u2 x.hops.length (x.hops.flatMap HopC) ∧ fp = u2.ownBlock.toList
theorem SegmentOC.keeps : OKeeps SegmentOC := by
  intro w w' fp cs x hk h
  obtain ⟨u2, e, r2, ef⟩ := h
  exact ⟨u2, e, ownsRow_keep r2 (fun b hb => hk b (by rw [ef]; simp [hb])), ef⟩
theorem SegmentOC.at_ (B : Nat) (w : World) (b o : Nat) (fp : List Nat) (cs : List Value) (x : DSegment) (h : SegmentOC w fp cs x) (hb : ∀ b ∈ fp, b < B) (hc : ∀ j u, cs[j]? = some u → w.cell? ⟨b, o + j, none⟩ = some u) : SegmentAt B w b o x := by
  obtain ⟨u2, rfl, r2, ef⟩ := h
  have s2 : HopS B w u2 x.hops := Own.sl (lo := 0) (n := x.hops.length) (At := HopAt) ⟨r2, fun k hk => hb k (by rw [ef]; simp [hk])⟩ HopC.len (by omega) HopC.at_
  obtain ⟨A2, n2, c2, e2, _⟩ := id s2
  subst e2
  exact ⟨A2, n2, c2, hc 0 _ rfl, hc 1 _ rfl, hc 2 _ rfl, s2⟩
theorem SegmentOC.one : OOne SegmentOC := by
  intro w fp cs x h
  obtain ⟨u2, rfl, r2, ef⟩ := h
  obtain ⟨a2, m2, c2, e2⟩ := ownsRow_slice r2
  subst e2
  intro u hu
  simp only [List.mem_cons, List.not_mem_nil, or_false] at hu
  rcases hu with rfl | rfl | rfl <;> rfl
theorem SegmentOC.typed (T : Nat) (n0 : 165 ≠ T) : OTyped SegmentOC T := by
  intro w fp cs x g cs' h hb
  obtain ⟨u2, e, r2, ef⟩ := h
  subst ef
  intro hm
  exact ownsRow_typed r2 hb n0 hm
theorem SegmentOC.len {w : World} {fp : List Nat} {cs : List Value} {x : DSegment} (h : SegmentOC w fp cs x) : cs.length = 3 := by
  obtain ⟨u2, rfl, _⟩ := h
  rfl
theorem SegmentO.to_oc {lo hi : Nat} {w : World} {v : Value} {x : DSegment} (h : SegmentO lo hi w v x) : ∃ a2 k2 q2 fp, v = .agg #[I x.ts, I x.beta, .slice a2 k2 q2] ∧ SegmentOC w fp [I x.ts, I x.beta, .slice a2 k2 q2] x ∧ fp.Nodup ∧ ∀ b ∈ fp, lo ≤ b ∧ b < hi := by
  obtain ⟨u2, e, o2, l0⟩ := h
  obtain ⟨a2, k2, q2, hu2⟩ : ∃ a n c, u2 = .slice a n c := o2.slice
  have b2 : ∀ b ∈ u2.ownBlock.toList, lo ≤ b ∧ b < hi := fun b hb => ⟨(o2.1.lt b (by simpa using hb)).1, o2.2 b (by simpa using hb)⟩
  have d2 : (u2.ownBlock.toList).Nodup := by cases u2.ownBlock <;> simp
  subst hu2
  exact ⟨a2, k2, q2, (Value.slice a2 k2 q2).ownBlock.toList, e, ⟨_, rfl, (o2.more (Nat.zero_le _) (Nat.le_refl _)).1, rfl⟩, d2, b2⟩
/-- A []Segment of the call's own. -/
abbrev SegmentSO (lo hi : Nat) (w : World) (v : Value) (xs : List DSegment) : Prop := NO SegmentOC 47 3 lo hi w v xs
theorem SegmentSO_rd {lo hi : Nat} {w : World} {v : Value} {xs : List DSegment} (h : SegmentSO lo hi w v xs) (hhi : hi ≤ w.heap.size) : SegmentS w.heap.size w v xs := (NO.sl (At := SegmentAt) h (fun _ => rfl) SegmentOC.at_).keep SegmentAt.keeps hhi (fun _ _ => rfl)
theorem SegmentSO_ext {lo hi : Nat} {w w' : World} {v : Value} {xs : List DSegment} (h : SegmentSO lo hi w v xs) (he : Ext w w') (_hhi : hi ≤ w.heap.size) : SegmentSO lo hi w' v xs := NO.keep SegmentOC.keeps h fun k _ _ h3 => he.same k h3
theorem SegmentSO_out {lo hi : Nat} {lo' hi' : Nat} {w w' : World} {v : Value} {xs : List DSegment} (h : SegmentSO lo hi w v xs) (ho : Out lo' hi' w w') (hd : hi' ≤ lo ∨ hi ≤ lo') : SegmentSO lo hi w' v xs := NO.keep SegmentOC.keeps h fun k h1 h2 h3 => ho.block k h3 (by omega)
theorem SegmentSO_drew {lo hi : Nat} {w : World} {v : Value} {xs : List DSegment} (h : SegmentSO lo hi w v xs) : SegmentSO lo hi w.drew v xs := NO.keep SegmentOC.keeps h fun _ _ _ _ => rfl
theorem SegmentSO_alloc {lo hi : Nat} {w : World} {v : Value} {xs : List DSegment} (h : SegmentSO lo hi w v xs) (o : Obj) : SegmentSO lo hi (w.alloc o) v xs := NO.keep SegmentOC.keeps h fun k _ _ h3 => Below.heap_alloc w o k h3
theorem SegmentSO_setCell {lo hi : Nat} {w : World} {v : Value} {xs : List DSegment} (h : SegmentSO lo hi w v xs) {p : Addr} (hp : p.block < lo ∨ hi ≤ p.block) (u : Value) : SegmentSO lo hi (w.setCell p u) v xs := NO.keep SegmentOC.keeps h fun k h1 h2 _ => Below.heap_setCell _ _ _ _ (by omega)
theorem SegmentSO_keep {lo hi : Nat} {w w' : World} {v : Value} {xs : List DSegment} (h : SegmentSO lo hi w v xs) (hk : ∀ k, lo ≤ k → k < hi → k < w.heap.size → w'.heap[k]? = w.heap[k]?) : SegmentSO lo hi w' v xs := NO.keep SegmentOC.keeps h hk
set_option maxRecDepth 100000 in
set_option maxHeartbeats 1000000 in
theorem toSegmentS (v : Value) (ds : List DSegment) (w : World) (h : SegmentS w.heap.size w v ds) (hn : totS (fun y => y.hops.length) ds ≤ 16777216) :
    Calls Tryz.prog 72 #[v] w fun e w' => ∃ v', e = .returned v' ∧ SegmentSO w.heap.size w'.heap.size w' v' ds ∧ Ext w w' := by
  obtain ⟨A, n, c, rfl, hl, -⟩ := id h
  subst hl
  have hn : ds.length + (ds.map fun y => y.hops.length).sum ≤ 16777216 := hn
  have hmk := run_mk (P := Tryz.prog) 35 47 (.agg #[.int .i64 0, .int .i64 0, .slice none 0 0]) 3 40 Tryz.underlying35 info_Segment ds.length (by omega) (by omega)
  have hml := mkRow_len (.agg #[.int .i64 0, .int .i64 0, .slice none 0 0]) (ds.length * 3)
  generalize mkRow (.agg #[.int .i64 0, .int .i64 0, .slice none 0 0]) (ds.length * 3) = mr at *
  have H := Lib.hid h; clear h
  have HM := Lib.hid hml; clear hml
  go_enter Tryz.func72, Tryz.ntmps72
  go_wp2
  go_loopw [4] (fun i wr => ∃ (k : Nat) (cs rest : List Value) (fp : List Nat), k ≤ ds.length ∧ i = I k ∧ Blk wr w.heap.size 47 (cs ++ rest) ∧ OL SegmentOC 3 wr (ds.take k) fp cs ∧ (w.heap.size :: fp).Nodup ∧ (∀ b ∈ fp, w.heap.size < b ∧ b < wr.heap.size) ∧ rest.length = (ds.length - k) * 3 ∧ Ext w wr) (fun i _ => ds.length - (intOf i).toNat)
  case atStart => exact ⟨0, [], mr.toList, [], by omega, rfl, by simpa using Blk.new w 47 mr.toList, ⟨rfl, rfl⟩, by simp, by simp, by simpa using HM.out, (Ext.refl _).alloc _⟩
  case round =>
    obtain ⟨k, cs, rest, fp, hk, rfl, hb, hol, hnd, hbd, hr, he⟩ := hrel
    have HE := Lib.hid he
    have HB := Lib.hid hb; clear hb
    have HOL := Lib.hid hol; clear hol
    have HND := Lib.hid hnd; clear hnd
    have HBD := Lib.hid hbd; clear hbd
    by_cases hlt : k < ds.length
    · obtain ⟨b, off, rfl, hbb, _, hc⟩ := (H.out.ext he).at_ hlt
      have hsm := sum_mem (fun y => y.hops.length) ds k hlt
      obtain ⟨r0, r1, r2, rest, rfl⟩ : ∃ r0 r1 r2 rest', rest = r0 :: r1 :: r2 :: rest' := by
        match rest, hr with
        | r0 :: r1 :: r2 :: rest, _ => exact ⟨r0, r1, r2, rest, rfl⟩
        | [], h => simp at h; omega
        | [_], h => simp at h; omega
        | [_, _], h => simp at h; omega
      have hlr : rest.length = (ds.length - (k + 1)) * 3 := by simp only [List.length_cons] at hr; omega
      have HR := Lib.hid hlr; clear hr he hlr
      have HX := Lib.hid (take_snoc ds k hlt)
      generalize ds[k] = x at *
      obtain ⟨A2, n2, c2, hc0, hc1, hc2, s2⟩ := hc
      have S2 := Lib.hid s2; clear s2
      have hp : cs.length = k * 3 := by rw [HOL.out.len, List.length_take, Nat.min_eq_left hk]
      have HP := Lib.hid hp; clear hp
      have hwg : w.heap.size < wr.heap.size := HB.out.lt
      go_wp2_with fail
      refine (toSegment _ x _ (by exact ⟨_, _, _, rfl, S2.out⟩) (by omega)).mono ?_
      rintro e w1 ⟨v1, rfl, ho1, he1⟩
      obtain ⟨a2, k2, q2, f1, rfl, hoc, hn1, hb1⟩ := ho1.to_oc
      have HOC := Lib.hid hoc; have HN1 := Lib.hid hn1; have HB1F := Lib.hid hb1; clear hoc hn1 hb1 ho1
      have HB1 := Lib.hid (HB.out.below he1.below hwg)
      have hz1 := he1.size
      have HE1 := Lib.hid he1
      clear he1
      obtain ⟨hu0, hu1, hu2⟩ := cells_at3 HB1.out HP.out
      have hf0 := HB1.out.frozen (k * 3)
      have hf1 := HB1.out.frozen (k * 3 + 1)
      have hf2 := HB1.out.frozen (k * 3 + 2)
      go_wp2
      go_roundw
      case rel =>
        obtain ⟨g1, g2, g3⟩ := nest_step (w2 := (((w1.setCell ⟨w.heap.size, k * 3, none⟩ (I x.ts)).setCell ⟨w.heap.size, k * 3 + 1, none⟩ (I x.beta)).setCell ⟨w.heap.size, k * 3 + 2, none⟩ (.slice a2 k2 q2))) SegmentOC.keeps HOL.out HE1.out HOC.out rfl HBD.out HND.out HN1.out HB1F.out hwg (fun b hb => (Eq.trans (Below.heap_setCell _ ⟨w.heap.size, k * 3 + 2, none⟩ _ b hb) (Eq.trans (Below.heap_setCell _ ⟨w.heap.size, k * 3 + 1, none⟩ _ b hb) (Below.heap_setCell _ ⟨w.heap.size, k * 3, none⟩ _ b hb)))) (by simp only [World.size_setCell])
        refine ⟨k + 1, cs ++ [I x.ts, I x.beta, .slice a2 k2 q2], rest, fp ++ f1, by omega, by go_num, ?_, ?_, g2, g3, HR.out, ?_⟩
        · have := ((HB1.out.set_ (k * 3) (I x.ts)).set_ (k * 3 + 1) (I x.beta)).set_ (k * 3 + 2) (.slice a2 k2 q2)
          rw [set_at3 _ _ _ _ _ _ _ _ _ HP.out] at this
          simpa using this
        · rw [HX.out]
          exact g1
        · exact (((HE.out.trans HE1.out).setCell (by simp) _).setCell (by simp) _).setCell (by simp) _
      case measure => simp [intOf]; omega
    · have HR := Lib.hid hr; clear hr he
      go_wp2
      go_ret
      have e : k = ds.length := by omega
      have hr := HR.out
      subst e
      obtain rfl : rest = [] := List.eq_nil_of_length_eq_zero (by simpa using hr)
      have hb := HB.out
      have hol := HOL.out
      rw [List.append_nil] at hb
      rw [List.take_length] at hol
      exact ⟨_, rfl, ⟨cs, fp, Own.of_blk hb hol.len (by unfold maxLen; omega) (Nat.le_refl _) hb.lt, hol, by simpa [Value.ownBlock] using HND.out, fun b hb => ⟨by have := (HBD.out b hb).1; omega, (HBD.out b hb).2⟩⟩, HE.out⟩
set_option maxRecDepth 100000 in
set_option maxHeartbeats 1000000 in
theorem eqSegmentS (v1 v2 : Value) (xs ys : List DSegment) (w : World) (h1 : SegmentS w.heap.size w v1 xs) (h2 : SegmentS w.heap.size w v2 ys) :
    Calls Tryz.prog 80 #[v1, v2] w fun e w' => e = .returned (.bool (decide (xs = ys))) ∧ Ext w w' := by
  obtain ⟨A1, n1, c1, rfl, hl1, hn1, hm1, -⟩ := id h1
  obtain ⟨A2, n2, c2, rfl, hl2, hn2, hm2, -⟩ := id h2
  unfold maxLen at hm1 hm2
  have H1 := Lib.hid h1; have H2 := Lib.hid h2; have E1 := Lib.hid hl1; have E2 := Lib.hid hl2; clear h1 h2 hl1 hl2
  by_cases hn : n1 = n2
  · subst hn
    go_enter Tryz.func80, Tryz.ntmps80
    go_wp2
    go_loopw [5] (fun i wr => ∃ k : Nat, k ≤ n1 ∧ i = I k ∧ xs.take k = ys.take k ∧ Ext w wr) (fun i _ => n1 - (intOf i).toNat)
    case atStart => exact ⟨0, by omega, rfl, by simp, Ext.refl _⟩
    case round =>
      obtain ⟨k, hk, rfl, hq, he⟩ := hrel
      have HQ := Lib.hid hq; clear hq
      have HE := Lib.hid he; clear he
      by_cases hlt : k < n1
      · obtain ⟨b1, o1, rfl, hb1, hk1, hc1⟩ := (H1.out.ext HE.out).at_ hlt
        obtain ⟨b2, o2, rfl, hb2, hk2, hc2⟩ := (H2.out.ext HE.out).at_ hlt
        have i0 : (0 : Int) ≤ (k : Int) := by omega
        have i1 : (k : Int) < (n1 : Int) := by omega
        have X1 := Lib.hid (take_snoc xs k hk1)
        have X2 := Lib.hid (take_snoc ys k hk2)
        have hne : ¬ xs[k] = ys[k] → xs ≠ ys := fun hne h => hne (by subst h; rfl)
        have HN := Lib.hid hne; clear hne
        generalize xs[k] = x at *
        generalize ys[k] = y at *
        obtain ⟨A12, n12, c12, h10, h11, h12, s12⟩ := hc1
        obtain ⟨A22, n22, c22, h20, h21, h22, s22⟩ := hc2
        have S12 := Lib.hid s12; clear s12
        have S22 := Lib.hid s22; clear s22
        go_wp2_with fail
        go_region_held3 (fun W => wr.heap.size ≤ W.heap.size ∧ ∀ b o, b < wr.heap.size → W.cell? ⟨b, o, none⟩ = wr.cell? ⟨b, o, none⟩)
          (first | exact ⟨Nat.le_refl _, fun _ _ _ => rfl⟩ | exact keepC (by assumption) he1)
          (first | (go_at_call 20; refine (eqSegment _ _ x y _ (by exact ⟨_, _, _, rfl, S12.out.ext xe⟩) (by exact ⟨_, _, _, rfl, S22.out.ext xe⟩)).mono ?_; rintro e w1 ⟨rfl, he1⟩))
        have HE1 := Lib.hid (HE.out.drew.trans he1)
        have hdd : decide (x = y) = true ↔ x = y := decide_eq_true_iff
        have HD := Lib.hid hdd; clear hdd
        generalize decide (x = y) = bb at *
        cases bb
        · have hxy : ¬ x = y := fun h => by have := HD.out.2 h; cases this
          have HXY := Lib.hid hxy; clear hxy
          go_wp2
          go_ret
          exact ⟨ret_bool (by simp [HN.out HXY.out]), HE1.out⟩
        · have HXY := Lib.hid (HD.out.1 rfl)
          go_wp2
          go_roundw
          case rel => exact ⟨k + 1, by omega, by go_num, by rw [X1.out, X2.out, HQ.out, HXY.out], HE1.out⟩
          case measure => simp [intOf]; omega
      · go_wp2
        go_ret
        have h := HQ.out
        rw [List.take_of_length_le (by rw [E1.out]; omega), List.take_of_length_le (by rw [E2.out]; omega)] at h
        exact ⟨ret_bool (by simp [h]), HE.out⟩
  · have hb : ((n1 : Int) == (n2 : Int)) = false := by simp; omega
    have hb' : ((n1 : Int) != (n2 : Int)) = true := by simp; omega
    have HN := Lib.hid hn; clear hn
    go_enter Tryz.func80, Tryz.ntmps80
    go_wp2
    go_ret
    have : xs ≠ ys := fun h => HN.out (by rw [← E1.out, ← E2.out, h])
    exact ⟨ret_bool (by simp [this]), Ext.refl _⟩
set_option maxRecDepth 100000 in
set_option maxHeartbeats 1000000 in
theorem szSegmentS (v : Value) (ds : List DSegment) (left : Int) (w : World) (h : SegmentS w.heap.size w v ds) (h0 : 0 ≤ left) (hl : left ≤ 1048576) :
    Calls Tryz.prog 62 #[v, I left] w fun e w' => e = .returned (I (szR (totS (fun y => y.hops.length) ds) left)) ∧ Ext w w' := by
  obtain ⟨A, n, c, rfl, hl1, hn1, hm1, -⟩ := id h
  unfold maxLen at hm1
  subst hl1
  have H := Lib.hid h; clear h
  have HT : Hid (totS (fun y => y.hops.length) ds = ds.length + (ds.map fun y => y.hops.length).sum) := rfl
  by_cases hlt : left < (ds.length : Int)
  · have HF := Lib.hid (szR_neg (t := totS (fun y => y.hops.length) ds) (left := left) (by rw [HT.out]; omega))
    go_enter Tryz.func62, Tryz.ntmps62
    go_wp2
    go_ret
    exact ⟨ret_int HF.out.symm, Ext.refl _⟩
  · go_enter Tryz.func62, Tryz.ntmps62
    go_wp2
    go_loopw [1, 5] (fun l i wr => ∃ (k : Nat) (z : Int), k ≤ ds.length ∧ i = I k ∧ l = I z ∧ z = left - ds.length - (((ds.take k).map fun y => y.hops.length).sum : Nat) ∧ 0 ≤ z ∧ Ext w wr) (fun _ i _ => ds.length - (intOf i).toNat)
    case atStart => exact ⟨0, left - ds.length, by omega, rfl, rfl, by simp, by omega, Ext.refl _⟩
    case round =>
      obtain ⟨k, z, hk, rfl, rfl, hz, hz0, he⟩ := hrel
      have hzl : z ≤ 1048576 := by omega
      have HZ := Lib.hid hz; clear hz
      have HE := Lib.hid he; clear he
      by_cases hkn : k < ds.length
      · obtain ⟨b, off, rfl, hbb, _, hc⟩ := (H.out.ext HE.out).at_ hkn
        have HS := Lib.hid (sum_take (fun y => y.hops.length) ds k hkn)
        have HS2 := Lib.hid (sum_take_le (fun y => y.hops.length) ds (k + 1))
        generalize ds[k] = x at *
        obtain ⟨A2, n2, c2, hc0, hc1, hc2, s2⟩ := hc
        have S2 := Lib.hid s2; clear s2
        go_wp2_with fail
        refine (szSegment _ x z _ (by exact ⟨_, _, _, rfl, S2.out⟩) (by omega) (by omega)).mono ?_
        rintro e w1 ⟨rfl, he1⟩
        by_cases hx : z < ((x.hops.length : Nat) : Int)
        · rw [szR_neg hx]
          go_wp2_with fail
          go_ret
          refine ⟨ret_int (szR_neg ?_).symm, HE.out.trans he1⟩
          rw [HT.out]
          have h1 := HZ.out; have h2 := HS.out; have h3 := HS2.out
          omega
        · rw [szR_pos (by omega)]
          go_wp2_with fail
          go_roundw
          case rel =>
            refine ⟨k + 1, z - ((x.hops.length : Nat) : Int), by omega, by go_num, rfl, ?_, by omega, HE.out.trans he1⟩
            rw [HS.out, HZ.out]
            omega
          case measure => simp [intOf]; omega
      · go_wp2_with fail
        go_ret
        obtain rfl : k = ds.length := by omega
        have h1 := HZ.out
        rw [List.take_length] at h1
        refine ⟨ret_int ?_, HE.out⟩
        rw [szR_pos (by rw [HT.out]; omega), HT.out, h1]
        omega
/-- How many numbers an element takes, and the element with its numbers from q on. -/
def SegmentCnt (x : DSegment) : Nat := 2 + 5 * x.hops.length
def SegmentNumE (q : Nat) (x : DSegment) : DSegment := ⟨(q : Int), (q : Int) + 1, (HopNum (q + 2) x.hops.length)⟩
theorem SegmentCnt_le (x : DSegment) : SegmentCnt x ≤ 10 + 10 * (x.hops.length) := by
  unfold SegmentCnt
  omega
theorem SegmentCnt_sum (l : List DSegment) : (l.map SegmentCnt).sum ≤ 10 * (totS (fun y => y.hops.length) l) := cnt_le (fun x => SegmentCnt_le x) l
set_option maxRecDepth 100000 in
set_option maxHeartbeats 1000000 in
theorem markSegmentS_row (v : Value) (xs : List DSegment) (q : Nat) (qi : Int) (w : World) (cs : List Value) (fp : List Nat) (ho : w.ownsRow 0 47 3 v xs.length cs) (hl : OL SegmentOC 3 w xs fp cs) (hn : (v.ownBlock.toList ++ fp).Nodup) (hqi : qi = (q : Int)) (hq : q + (xs.map SegmentCnt).sum ≤ 1000000000000000) :
    Calls Tryz.prog 86 #[v, I qi] w fun e w' => e = .returned (I ((q + (xs.map SegmentCnt).sum : Nat) : Int)) ∧ (∃ cs', w'.ownsRow 0 47 3 v xs.length cs' ∧ OL SegmentOC 3 w' (numS SegmentNumE SegmentCnt q xs) fp cs') ∧ OutF (v.ownBlock.toList ++ fp) w w' := by
  subst hqi
  rcases Own.cases (hi := w.heap.size) ⟨ho, fun k hk => (ho.lt k hk).2⟩ with ⟨rfl, h0, hx⟩ | ⟨g, cap, rest, rfl, h1, h2, hb, hlc, hnn, hm, hs⟩
  · obtain rfl : xs = [] := List.eq_nil_of_length_eq_zero h0
    subst hx
    have HL := Lib.hid hl; clear hl ho hn h0
    go_enter Tryz.func86, Tryz.ntmps86
    go_wp2
    go_loop [1, 5] (fun k i => k = I q ∧ i = I 0) (fun _ _ => 0)
    case atStart => exact ⟨rfl, rfl⟩
    case round =>
      obtain ⟨rfl, rfl⟩ := hrel
      go_wp2
      go_ret
      exact ⟨rfl, ⟨[], World.ownsRow_nil _ _ _ _, HL.out⟩, OutF.refl _ _⟩
  · have hnd : (g :: fp).Nodup := by simpa [Value.ownBlock] using hn
    have M0 := Lib.hid (MInv.start (f := SegmentNumE) (c := SegmentCnt) (q := q) hb hl)
    have HND := Lib.hid hnd
    have HS := Lib.hid hs
    have HLC := Lib.hid hl.len
    clear ho hl hn hb hlc hs hnd
    unfold maxLen at hm
    go_enter Tryz.func86, Tryz.ntmps86
    go_wp2
    go_loopw [1, 5] (fun k i wr => ∃ j p : Nat, j ≤ xs.length ∧ k = I p ∧ i = I j ∧ MInv SegmentOC 3 SegmentNumE SegmentCnt 47 g rest fp xs q w wr j p) (fun _ i _ => xs.length - (intOf i).toNat)
    case atStart => exact ⟨0, q, by omega, rfl, rfl, M0.out⟩
    case round =>
      obtain ⟨j, p, hj, rfl, rfl, hM⟩ := hrel
      have HM := Lib.hid hM; clear hM M0
      by_cases hlt : j < xs.length
      · have hpb : p + SegmentCnt xs[j] ≤ 1000000000000000 := by
          have h1 := HM.out.1
          have h2 := sum_take SegmentCnt xs j hlt
          have h3 := sum_take_le SegmentCnt xs (j + 1)
          omega
        obtain ⟨f1, pre, post, c1, hoc, hpl, hbl, hg, hf, hgo⟩ := HM.out.step SegmentOC.keeps HND.out hlt
        have HGO := Lib.hid hgo; clear hgo
        have HF := Lib.hid hf; clear hf
        generalize xs[j] = x at *
        unfold SegmentCnt at hpb
        obtain ⟨u2, rfl, r2, rfl⟩ := hoc
        have R2 := Lib.hid r2; clear r2
        obtain ⟨A2, n2, c2, hu2⟩ := ownsRow_slice R2.out
        subst hu2
        have G2 : Hid (g ∉ (Value.slice A2 n2 c2).ownBlock.toList) := fun hm => hg (by first | exact hm | (simp only [List.mem_append] at hm ⊢; simp [hm]))
        clear hg
        have HPL := Lib.hid hpl; clear hpl
        have B0 := Lib.hid hbl; clear hbl
        simp only [List.cons_append, List.nil_append] at B0
        have lg : g < wr.heap.size := B0.out.lt
        obtain ⟨hu0, hu1, hu2⟩ := cells_at3 B0.out HPL.out
        have hf0 := B0.out.frozen (j * 3)
        have hf1 := B0.out.frozen (j * 3 + 1)
        have hf2 := B0.out.frozen (j * 3 + 2)
        go_wp2_with fail
        refine (markHopS_row _ x.hops (p + 2) ((p : Int) + 1 + 1) _ (by exact ownsRow_set (ownsRow_set (R2.out) G2.out) G2.out) (by omega) (by omega)).mono ?_
        rintro e w2 ⟨rfl, r2, t2⟩
        have R2' := Lib.hid r2; clear r2
        have T2 := Lib.hid t2; clear t2
        have B2' := Blk.outF (Blk.set_ (Blk.set_ (B0.out) (j * 3) (I ((p : Int)))) (j * 3 + 1) (I ((p : Int) + 1))) T2.out G2.out
        have B2 : Hid (Blk w2 g 47 (pre ++ (I ((p : Int)) :: I ((p : Int) + 1) :: .slice A2 n2 c2 :: post))) := by
          unfold Hid
          have h := B2'
          rw [← HPL.out] at h
          simpa using h
        clear B2'
        have z2 := T2.out.size
        simp only [World.size_setCell] at z2
        have lg2 : g < w2.heap.size := by omega
        obtain ⟨hv2_0, hv2_1, hv2_2⟩ := cells_at3 B2.out HPL.out
        have hg2_0 := B2.out.frozen (j * 3)
        have hg2_1 := B2.out.frozen (j * 3 + 1)
        have hg2_2 := B2.out.frozen (j * 3 + 2)
        have hOC : SegmentOC w2 ((Value.slice A2 n2 c2).ownBlock.toList) [I ((p : Int)), I ((p : Int) + 1), .slice A2 n2 c2] (SegmentNumE p x) := ⟨_, rfl, (by unfold SegmentNumE; dsimp only; rw [HopNum_len]; exact R2'.out), rfl⟩
        have HOC := Lib.hid hOC; clear hOC
        have hOU : OutF (g :: ((Value.slice A2 n2 c2).ownBlock.toList)) wr w2 := (by repeat (first | (with_reducible exact OutF.refl _ _) | (with_reducible refine OutF.setCell ?_ ?ge _; case ge => simp) | (with_reducible refine OutF.trans ?_ (T2.out.mono (fun x hx => List.mem_cons_of_mem _ (by first | exact hx | (simp only [List.mem_append] at hx ⊢; simp [hx])))))))
        have HOU := Lib.hid hOU; clear hOU
        go_wp2_with fail
        go_roundw
        case rel =>
          exact ⟨j + 1, p + SegmentCnt x, by omega, by simp only [SegmentCnt, Value.int.injEq, true_and]; omega, by go_num, HGO.out _ _ HOC.out rfl B2.out HOU.out⟩
        case measure => simp [intOf]; omega
      · go_wp2_with fail
        go_ret
        obtain rfl : j = xs.length := by omega
        obtain ⟨hp, cs', hb', hl', ho'⟩ := HM.out.stop
        subst hp
        have hs := HS.out
        have e1 : cs'.length = cs.length := by rw [hl'.len, numS_len, HLC.out]
        refine ⟨rfl, ⟨cs', row_of_blk hb' (by rw [hl'.len, numS_len]) hnn (by unfold maxLen; omega) (by rw [← hs, List.length_append, List.length_append, e1]), hl'⟩, by simpa [Value.ownBlock] using ho'⟩
theorem markSegmentS (v : Value) (xs : List DSegment) (q lo hi : Nat) (w : World) (h : SegmentSO lo hi w v xs) (hq : q + (xs.map SegmentCnt).sum ≤ 1000000000000000) :
    Calls Tryz.prog 86 #[v, I q] w fun e w' => e = .returned (I ((q + (xs.map SegmentCnt).sum : Nat) : Int)) ∧ SegmentSO lo hi w' v (numS SegmentNumE SegmentCnt q xs) ∧ Out lo hi w w' :=
  calls_NO numS_len h fun cs fp h1 h2 h3 => markSegmentS_row v xs q q w cs fp h1 h2 h3 rfl hq
set_option maxRecDepth 100000 in
set_option maxHeartbeats 1000000 in
theorem heldSegmentS (v : Value) (xs : List DSegment) (q : Nat) (w : World) (h : SegmentS w.heap.size w v (numS SegmentNumE SegmentCnt q xs)) (hq : q + (xs.map SegmentCnt).sum ≤ 1000000000000000) :
    Calls Tryz.prog 88 #[v, I q] w fun e w' => e = .returned (I ((q + (xs.map SegmentCnt).sum : Nat) : Int)) ∧ Ext w w' := by
  obtain ⟨A, n', c, rfl, hl, hn, hm, -⟩ := id h
  rw [numS_len] at hl
  subst hl
  have H := Lib.hid h; clear h
  unfold maxLen at hm
  go_enter Tryz.func88, Tryz.ntmps88
  go_wp2
  go_loopw [1, 5] (fun k i wr => ∃ j p : Nat, j ≤ xs.length ∧ p = q + ((xs.take j).map SegmentCnt).sum ∧ k = I p ∧ i = I j ∧ Ext w wr) (fun _ i _ => xs.length - (intOf i).toNat)
  case atStart => exact ⟨0, q, by omega, by simp, rfl, rfl, Ext.refl _⟩
  case round =>
    obtain ⟨j, p, hj, hp, rfl, rfl, he⟩ := hrel
    have HPQ := Lib.hid hp; clear hp
    by_cases hlt : j < xs.length
    · have hpb : p + SegmentCnt xs[j] ≤ 1000000000000000 := by
        have h1 := HPQ.out
        have h2 := sum_take SegmentCnt xs j hlt
        have h3 := sum_take_le SegmentCnt xs (j + 1)
        omega
      have HPN : Hid (p + SegmentCnt xs[j] = q + ((xs.take (j + 1)).map SegmentCnt).sum) := by
        unfold Hid
        rw [sum_take SegmentCnt xs j hlt, HPQ.out]
        omega
      obtain ⟨b, off, rfl, hb, hk, hc⟩ := (H.out.ext he).at_ hlt
      rw [numS_get _ _ _ hlt, ← HPQ.out] at hc
      generalize xs[j] = x at *
      unfold SegmentCnt at hpb HPN
      obtain ⟨A2, n2, c2, hc0, hc1, hc2, s2⟩ := hc
      simp only [SegmentNumE] at hc0 hc1 hc2 s2
      have S2 := Lib.hid s2; clear s2
      have i0 : (0 : Int) ≤ (p : Int) := by omega
      go_wp2_with fail
      refine (heldHopS_at _ x.hops.length (p + 2) _ _ (by exact S2.out.ext xe) (by omega) (by omega)).mono ?_
      rintro e w2 ⟨rfl, e2⟩
      obtain ⟨hc2_, -, hz2⟩ := e2.facts
      have i3 : (0 : Int) ≤ ((p + 2 + 5 * x.hops.length : Nat) : Int) := by omega
      have j3 : ¬ ((p + 2 + 5 * x.hops.length : Nat) : Int) < 0 := by omega
      go_wp2_with fail
      go_roundw
      case rel => exact ⟨j + 1, _, by omega, HPN.out, by simp only [Value.int.injEq, true_and]; omega, by go_num, xe⟩
      case measure => simp [intOf]; omega
    · go_wp2_with fail
      go_ret
      obtain rfl : j = xs.length := by omega
      exact ⟨ret_int (by have := HPQ.out; rw [List.take_length] at this; omega), xe⟩
theorem heldSegmentS_at (v : Value) (xs : List DSegment) (q : Nat) (qi : Int) (w : World) (h : SegmentS w.heap.size w v (numS SegmentNumE SegmentCnt q xs)) (hqi : qi = (q : Int)) (hq : q + (xs.map SegmentCnt).sum ≤ 1000000000000000) :
    Calls Tryz.prog 88 #[v, I qi] w fun e w' => e = .returned (I ((q + (xs.map SegmentCnt).sum : Nat) : Int)) ∧ Ext w w' := by
  subst hqi
  exact heldSegmentS v xs q w h hq
end Go.Proofs.YtdcfidlngbhpcaaGreat
namespace Go.Proofs.YtdcfidlngbhpcaaGreat
open Go.RowKit
set_option linter.unusedVariables false
section
variable {α : Type} {OC : World → List Nat → List Value → α → Prop}
/-- A slice of one new element that owns blocks. -/
theorem NO.single (hK : OKeeps OC) {W : World} {E sz lo g : Nat} {fp : List Nat} {cs : List Value} {x : α} (ho : OC W fp cs x) (hn : fp.Nodup) (hb : ∀ b ∈ fp, lo ≤ b ∧ b < W.heap.size) (hl : cs.length = sz) (hlo : lo ≤ W.heap.size) (hg : g = W.heap.size) :
    NO OC E sz lo (W.alloc (.cells cs.toArray E)).heap.size (W.alloc (.cells cs.toArray E)) (.slice (some ⟨g, 0, none⟩) 1 1) [x] := by
  subst hg
  refine ⟨cs, fp, own_new W E sz lo cs hl hlo, OL.one (hK _ _ _ _ _ (fun b hm hs => Below.heap_alloc _ _ _ hs) ho) hl, ?_, fun b hm => ⟨(hb b hm).1, by have := (hb b hm).2; simp only [World.size_alloc]; omega⟩⟩
  simp only [Value.ownBlock, Option.toList_some, List.singleton_append, List.nodup_cons]
  exact ⟨fun hm => by have := hb _ hm; omega, hn⟩
theorem NO.not_block {E sz lo hi g : Nat} {w : World} {v : Value} {ds : List α} (h : NO OC E sz lo hi w v ds) (hg : g < lo) : v.ownBlock ≠ some g := by
  obtain ⟨cs, fp, ho, _⟩ := h
  exact ho.not_block hg
theorem Ext.grownN {a w w' : World} {E sz lo hi : Nat} {v : Value} {ds : List α} (h : Ext a w) (ho : NO OC E sz lo hi w v ds) (hg : w.grownBy w' v.ownBlock) (hl : a.heap.size ≤ lo) : Ext a w' := by
  obtain ⟨cs, fp, ho, _⟩ := ho
  exact h.grownB ho hg hl
variable {P : Program} {ops : Array Oper} {rest : List Oper} {o : Oper} {a : Act} {w : World} {Q : Exit → Act → World → Prop}
theorem wpList_pushN (hgd : o.guard = none) (lo : Nat) (hK : OKeeps OC) (hO : OOne OC) (s x : Operand) (t : TypeId)
    (ho : o.op = .call { callee := .builtin .append, args := #[s, x], argTypes := #[t, t] })
    (E : TypeId) (z : Value) (sz bytes : Nat) (ht : P.underlying t = some (.slice E)) (hinfo : (P.info? E).map (fun i => (i.zero, i.size, i.bytes)) = some (some z, sz, bytes)) (hzs : z.cells.size = sz) (hsz : 0 < sz)
    (v : Value) (ds ds2 : List α) (m l2 h2 : Nat) (hs : a.eval s = v) (A : Option Addr) (k c : Nat) (hx : a.eval x = .slice A k c)
    (hno : NO OC E sz lo m w v ds) (hno2 : NO OC E sz l2 h2 w (.slice A k c) ds2) (hd : m ≤ l2) (hlo : lo ≤ l2) (hm : m ≤ w.heap.size) (hm2 : h2 ≤ w.heap.size) (hlw : lo ≤ w.heap.size)
    (h63 : ds.length + ds2.length ≤ 1000000000) (hby : bytes ≤ 1000)
    (h : ∀ v' w', NO OC E sz lo w'.heap.size w' v' (ds ++ ds2) → w.grownBy w' v.ownBlock → wpList P ops Q rest (a.put o.dst v') w') : wpList P ops Q (o :: rest) a w := by
  obtain ⟨cs, fp, hown, hl, hn, hb⟩ := hno
  obtain ⟨cs2, f2, hown2, hl2, hn2, hb2⟩ := hno2
  obtain ⟨rfl, hr⟩ := NO.row hown2
  refine wpList_pushE hgd lo hK hO s x t ho E z sz bytes ht hinfo hzs hsz v ds ds2 cs cs2 fp f2 hs A _ c hx (hown.more (Nat.le_refl _) hm) hl hn (fun b hbm => ⟨(hb b hbm).1, by have := (hb b hbm).2; omega⟩) hr hl2 (List.nodup_append.1 hn2).2.1 (fun b hbm => ⟨by have := (hb2 b hbm).1; omega, by have := (hb2 b hbm).2; omega⟩) (fun b hbm => ⟨fun hf => ?_, fun e => ?_⟩) hlw h63 hby h
  · have h1 := hb b hf; have h2 := hb2 b hbm; omega
  · have h1 := hown.2 b e; have h2 := hb2 b hbm; omega
end
theorem SegmentO.single {W : World} {lo g : Nat} {x : DSegment} {A : Option Addr} {n c : Nat} {ts be : Int} (ho : SegmentO lo W.heap.size W (.agg #[I ts, I be, .slice A n c]) x) (hlo : lo ≤ W.heap.size) (hg : g = W.heap.size) :
    SegmentSO lo (W.alloc (.cells #[I ts, I be, .slice A n c] 47)).heap.size (W.alloc (.cells #[I ts, I be, .slice A n c] 47)) (.slice (some ⟨g, 0, none⟩) 1 1) [x] := by
  obtain ⟨a, k, q, fp, e, hoc, hn, hb⟩ := ho.to_oc
  have e' : [I ts, I be, .slice A n c] = [I x.ts, I x.beta, .slice a k q] := by
    have := Value.agg.inj e
    exact congrArg Array.toList this
  rw [← e'] at hoc
  exact NO.single SegmentOC.keeps hoc hn hb rfl hlo hg
theorem segV {B : Nat} {w : World} {A : Option Addr} {n c : Nat} {x : DSegment} (h : HopS B w (.slice A n c) x.hops) : SegmentV B w (.agg #[I x.ts, I x.beta, .slice A n c]) x := ⟨_, _, _, rfl, h⟩
end Go.Proofs.YtdcfidlngbhpcaaGreat
namespace Go.Proofs.YtdcfidlngbhpcaaGreat
open Go.RowKit
set_option linter.unusedVariables false
theorem wp_pushX {α : Type} {OC : World → List Nat → List Value → α → Prop} {P : Program} {o : Oper} {a : Act} {w : World} {K : Act → World → Prop} {Q : Exit → Act → World → Prop} (lo : Nat) (hK : OKeeps OC) (hO : OOne OC) (s x : Operand) (t : TypeId)
    (ho : o.op = .call { callee := .builtin .append, args := #[s, x], argTypes := #[t, t] })
    (E : TypeId) (z : Value) (sz bytes : Nat) (ht : P.underlying t = some (.slice E)) (hinfo : (P.info? E).map (fun i => (i.zero, i.size, i.bytes)) = some (some z, sz, bytes)) (hzs : z.cells.size = sz) (hsz : 0 < sz)
    (v : Value) (ds ds2 : List α) (cs news : List Value) (fp f2 : List Nat) (hs : a.eval s = v) (A : Option Addr) (k c : Nat) (hx : a.eval x = .slice A k c)
    (hown : Own E sz lo w.heap.size w v ds.length cs) (hl : OL OC sz w ds fp cs) (hn : ∀ b ∈ fp, v.ownBlock ≠ some b)
    (hr : Row w sz A k news) (hol : OL OC sz w ds2 f2 news) (hd : ∀ b ∈ f2, v.ownBlock ≠ some b) (hlo : lo ≤ w.heap.size)
    (h63 : ds.length + ds2.length ≤ 1000000000) (hby : bytes ≤ 1000)
    (h : ∀ v' w', Own E sz lo w'.heap.size w' v' (ds ++ ds2).length (cs ++ news) → OL OC sz w' (ds ++ ds2) (fp ++ f2) (cs ++ news) → w.grownBy w' v.ownBlock → (v'.ownBlock = v.ownBlock ∨ v'.ownBlock = some w.heap.size) → K (a.put o.dst v') w') : o.wp P a w K Q := by
  have hlen : k * sz = ds2.length * sz := by rw [← hr.1, hol.len]
  have hk : k = ds2.length := Nat.eq_of_mul_eq_mul_right hsz hlen
  subst hk
  have hmul : (ds.length + ds2.length) * bytes ≤ 1000000000 * 1000 := Nat.mul_le_mul h63 hby
  obtain ⟨i0, hi0, hz0, hz1, hz2⟩ := info_parts hinfo
  refine wp_append_any w s x t ho lo E i0 z sz bytes ht hi0 hz0 hz1 hz2 hzs hsz v ds.length cs hs hown.1 A ds2.length c news hx hr (hol.ones hO) (by unfold maxLen; omega) (by omega) hlo ?_
  intro v' w' h2' hg hbl
  have hne : ∀ b ∈ fp ++ f2, v.ownBlock ≠ some b := by
    intro b hm' e
    rcases List.mem_append.1 hm' with h1 | h1
    · exact hn b h1 e
    · exact hd b h1 e
  refine h v' w' (by rw [List.length_append]; exact ⟨h2', fun k hk => (h2'.lt k hk).2⟩) ?_ hg hbl
  refine OL.append (hl.keep hK fun b hbm hbs => ?_) (hol.keep hK fun b hbm hbs => ?_)
  · exact hg.block b hbs (fun e => hne b (by simp [hbm]) e.symm)
  · exact hg.block b hbs (fun e => hne b (by simp [hbm]) e.symm)
section
variable {α : Type} {OC : World → List Nat → List Value → α → Prop} {P : Program} {ops : Array Oper} {rest : List Oper} {o : Oper} {a : Act} {w : World} {K : Act → World → Prop} {Q : Exit → Act → World → Prop} {E' : Prop}
theorem wpList_pushX (hgd : o.guard = none) (lo : Nat) (hK : OKeeps OC) (hO : OOne OC) (s x : Operand) (t : TypeId)
    (ho : o.op = .call { callee := .builtin .append, args := #[s, x], argTypes := #[t, t] })
    (E : TypeId) (z : Value) (sz bytes : Nat) (ht : P.underlying t = some (.slice E)) (hinfo : (P.info? E).map (fun i => (i.zero, i.size, i.bytes)) = some (some z, sz, bytes)) (hzs : z.cells.size = sz) (hsz : 0 < sz)
    (v : Value) (ds ds2 : List α) (cs news : List Value) (fp f2 : List Nat) (hs : a.eval s = v) (A : Option Addr) (k c : Nat) (hx : a.eval x = .slice A k c)
    (hown : Own E sz lo w.heap.size w v ds.length cs) (hl : OL OC sz w ds fp cs) (hn : ∀ b ∈ fp, v.ownBlock ≠ some b)
    (hr : Row w sz A k news) (hol : OL OC sz w ds2 f2 news) (hd : ∀ b ∈ f2, v.ownBlock ≠ some b) (hlo : lo ≤ w.heap.size)
    (h63 : ds.length + ds2.length ≤ 1000000000) (hby : bytes ≤ 1000)
    (h : ∀ v' w', Own E sz lo w'.heap.size w' v' (ds ++ ds2).length (cs ++ news) → OL OC sz w' (ds ++ ds2) (fp ++ f2) (cs ++ news) → w.grownBy w' v.ownBlock → (v'.ownBlock = v.ownBlock ∨ v'.ownBlock = some w.heap.size) → wpList P ops Q rest (a.put o.dst v') w') : wpList P ops Q (o :: rest) a w :=
  wpList_plain hgd fun _ hK' => wp_pushX lo hK hO s x t ho E z sz bytes ht hinfo hzs hsz v ds ds2 cs news fp f2 hs A k c hx hown hl hn hr hol hd hlo h63 hby fun v' w' h2 h3 h4 h5 => hK' _ _ (h v' w' h2 h3 h4 h5)
end
theorem Own.of_row {E sz lo hi n : Nat} {w : World} {v : Value} {cs : List Value} (h : w.ownsRow 0 E sz v n cs) (hb : ∀ b ∈ v.ownBlock.toList, lo ≤ b ∧ b < hi) : Own E sz lo hi w v n cs := by
  obtain ⟨h1, h2⟩ := h
  refine ⟨⟨h1, ?_⟩, fun k hk => (hb k (by simp [hk])).2⟩
  rcases h2 with h2 | ⟨g, cap, cur, rfl, hg, r⟩
  · exact .inl h2
  · exact .inr ⟨g, cap, cur, rfl, (hb g (by simp [Value.ownBlock])).1, r⟩
end Go.Proofs.YtdcfidlngbhpcaaGreat
