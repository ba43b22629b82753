/- The laws' helpers on Policy: to.. (copy), eq.. (compare), sz.. (count), mark.. and held... Printed by gen.py. -/
import Derived.Test.YtcalbcjheenmgaaInts
import Derived.Test.YtcalbcjheenmgaaAppend
import Derived.Test.YtcalbcjheenmgaaMarkRows
namespace Go.Proofs.Ytcalbcjheenmgaa
open Go.RowKit
set_option linter.unusedVariables false
theorem info_Policy : (Try.prog.info? 157).map (fun i => (i.zero, i.size, i.bytes)) = some (some (.agg #[.int .i64 0, .int .i64 0, .int .i64 0, .int .i64 0]), 4, 32) := by kernel_rfl

theorem row_Policy {B : Nat} {w : World} {A : Option Addr} {n c : Nat} {xs : List DPolicy} (h : PolicyS B w (.slice A n c) xs) : Row w 4 A n (xs.flatMap PolicyC) := row_flat (C := PolicyC) (sz := 4) (fun _ => rfl) (by omega) PolicyAt.cells_ h

/-- A []Policy of the call's own. -/
abbrev PolicySO (lo hi : Nat) (w : World) (v : Value) (xs : List DPolicy) : Prop := Own 157 4 lo hi w v xs.length (xs.flatMap PolicyC)
theorem PolicySO_rd {lo hi : Nat} {w : World} {v : Value} {xs : List DPolicy} (h : PolicySO lo hi w v xs) : PolicyS w.heap.size w v xs := (Own.lt_size h).sl (At := PolicyAt) PolicyC.len (by omega) PolicyC.at_
set_option maxRecDepth 100000 in
set_option maxHeartbeats 1000000 in
theorem toPolicy (x : DPolicy) (w : World) : Calls Try.prog 122 #[.agg #[I x.maxLen, I x.denied, I x.closed, I x.life]] w fun e w' => e = .returned (.agg #[I x.maxLen, I x.denied, I x.closed, I x.life]) ∧ Ext w w' := by
  go_enter Try.func122, Try.ntmps122
  go_wp2
  exact bodyPost_ret (v := .agg #[I x.maxLen, I x.denied, I x.closed, I x.life]) (by simp [results, Try.results122, go_sem]) rfl ⟨rfl, (by repeat (first | (with_reducible exact Ext.refl _) | (with_reducible assumption) | (with_reducible refine Ext.alloc ?_ _) | (with_reducible refine Ext.drew ?_) | (with_reducible refine Ext.drewN ?_ _) | (with_reducible refine Ext.setCell (p := _) ?_ ?ge _; case ge => (dsimp only; omega)) | (with_reducible refine Ext.trans ?_ (by with_reducible assumption))))⟩
set_option maxRecDepth 100000 in
set_option maxHeartbeats 1000000 in
theorem toPolicyS (v : Value) (ds : List DPolicy) (w : World) (h : PolicyS w.heap.size w v ds) (hn : ds.length ≤ 16777216) :
    Calls Try.prog 55 #[v] w fun e w' => ∃ v', e = .returned v' ∧ PolicySO w.heap.size w'.heap.size w' v' ds ∧ Ext w w' := by
  obtain ⟨A, n, c, rfl, hl, -⟩ := id h
  subst hl
  have hmk := run_mk (P := Try.prog) 106 157 (.agg #[.int .i64 0, .int .i64 0, .int .i64 0, .int .i64 0]) 4 32 Try.underlying106 info_Policy ds.length (by omega) (by omega)
  have hml := mkRow_len (.agg #[.int .i64 0, .int .i64 0, .int .i64 0, .int .i64 0]) (ds.length * 4)
  generalize mkRow (.agg #[.int .i64 0, .int .i64 0, .int .i64 0, .int .i64 0]) (ds.length * 4) = mr at *
  have H := Lib.hid h; clear h
  have HM := Lib.hid hml; clear hml
  go_enter Try.func55, Try.ntmps55
  go_wp2
  go_loopw [4] (fun i wr => ∃ (k : Nat) (rest : List Value), k ≤ ds.length ∧ i = I k ∧ Blk wr w.heap.size 157 ((ds.take k).flatMap PolicyC ++ rest) ∧ rest.length = (ds.length - k) * 4 ∧ Ext w wr) (fun i _ => ds.length - (intOf i).toNat)
  case atStart => exact ⟨0, mr.toList, by omega, rfl, by simpa using Blk.new w 157 mr.toList, by simpa using HM.out, (Ext.refl _).alloc _⟩
  case round =>
    obtain ⟨k, rest, hk, rfl, hb, hr, he⟩ := hrel
    have HE := Lib.hid he
    have HB := Lib.hid hb; clear hb
    by_cases hlt : k < ds.length
    · obtain ⟨b, off, rfl, hbb, _, hc⟩ := (H.out.ext he).at_ hlt
      obtain ⟨r0, r1, r2, r3, rest, rfl⟩ : ∃ r0 r1 r2 r3 rest', rest = r0 :: r1 :: r2 :: r3 :: rest' := by
        match rest, hr with
        | r0 :: r1 :: r2 :: r3 :: rest, _ => exact ⟨r0, r1, r2, r3, rest, rfl⟩
        | [], h => simp at h; omega
        | [_], h => simp at h; omega
        | [_, _], h => simp at h; omega
        | [_, _, _], h => simp at h; omega
      have hlr : rest.length = (ds.length - (k + 1)) * 4 := by simp only [List.length_cons] at hr; omega
      have HR := Lib.hid hlr; clear hr he hlr
      have HX := Lib.hid (take_snoc ds k hlt)
      generalize ds[k] = x at *
      obtain ⟨hc0, hc1, hc2, hc3⟩ := hc
      have hp := flat_len PolicyC 4 (fun _ => rfl) (ds.take k)
      rw [List.length_take, Nat.min_eq_left hk] at hp
      have HP := Lib.hid hp; clear hp
      have hwg : w.heap.size < wr.heap.size := HB.out.lt
      go_wp2_with fail
      refine (toPolicy x _).mono ?_
      rintro e w1 ⟨rfl, he1⟩
      have HB1 := Lib.hid (HB.out.below he1.below hwg)
      have hz1 := he1.size
      have HE1 := Lib.hid he1
      clear he1
      obtain ⟨hu0, hu1, hu2, hu3⟩ := cells_at4 HB1.out HP.out
      have hf0 := HB1.out.frozen (k * 4)
      have hf1 := HB1.out.frozen (k * 4 + 1)
      have hf2 := HB1.out.frozen (k * 4 + 2)
      have hf3 := HB1.out.frozen (k * 4 + 3)
      go_wp2
      go_roundw
      case rel =>
        refine ⟨k + 1, rest, by omega, by go_num, ?_, HR.out, ?_⟩
        · have := (((HB1.out.set_ (k * 4) (I x.maxLen)).set_ (k * 4 + 1) (I x.denied)).set_ (k * 4 + 2) (I x.closed)).set_ (k * 4 + 3) (I x.life)
          rw [set_at4 _ _ _ _ _ _ _ _ _ _ _ HP.out] at this
          rw [HX.out, List.flatMap_append]
          simpa [PolicyC] using this
        · exact ((((HE.out.trans HE1.out).setCell (by simp) _).setCell (by simp) _).setCell (by simp) _).setCell (by simp) _
      case measure => simp [intOf]; omega
    · have HR := Lib.hid hr; clear hr he
      go_wp2
      go_ret
      have e : k = ds.length := by omega
      have hr := HR.out
      subst e
      obtain rfl : rest = [] := List.eq_nil_of_length_eq_zero (by simpa using hr)
      have hb := HB.out
      rw [List.take_length, List.append_nil] at hb
      exact ⟨_, rfl, Own.of_blk hb (flat_len PolicyC 4 (fun _ => rfl) ds) (by unfold maxLen; omega) (Nat.le_refl _) hb.lt, HE.out⟩
set_option maxRecDepth 100000 in
set_option maxHeartbeats 1000000 in
theorem eqPolicy (v1 v2 : Value) (x y : DPolicy) (w : World) (h1 : PolicyV w.heap.size w v1 x) (h2 : PolicyV w.heap.size w v2 y) :
    Calls Try.prog 129 #[v1, v2] w fun e w' => e = .returned (.bool (decide (x = y))) ∧ Ext w w' := by
  obtain rfl := h1
  obtain rfl := h2
  go_enter Try.func129, Try.ntmps129
  go_wp2_with fail
  all_goals
    go_ret
    exact ⟨ret_bool (by simp_all [DPolicy.eq_iff]), (by repeat (first | (with_reducible exact Ext.refl _) | (with_reducible assumption) | (with_reducible refine Ext.alloc ?_ _) | (with_reducible refine Ext.drew ?_) | (with_reducible refine Ext.drewN ?_ _) | (with_reducible refine Ext.setCell (p := _) ?_ ?ge _; case ge => (dsimp only; omega)) | (with_reducible refine Ext.trans ?_ (by with_reducible assumption))))⟩
set_option maxRecDepth 100000 in
set_option maxHeartbeats 1000000 in
theorem eqPolicyS (v1 v2 : Value) (xs ys : List DPolicy) (w : World) (h1 : PolicyS w.heap.size w v1 xs) (h2 : PolicyS w.heap.size w v2 ys) :
    Calls Try.prog 58 #[v1, v2] w fun e w' => e = .returned (.bool (decide (xs = ys))) ∧ Ext w w' := by
  obtain ⟨A1, n1, c1, rfl, hl1, hn1, hm1, -⟩ := id h1
  obtain ⟨A2, n2, c2, rfl, hl2, hn2, hm2, -⟩ := id h2
  unfold maxLen at hm1 hm2
  have H1 := Lib.hid h1; have H2 := Lib.hid h2; have E1 := Lib.hid hl1; have E2 := Lib.hid hl2; clear h1 h2 hl1 hl2
  by_cases hn : n1 = n2
  · subst hn
    go_enter Try.func58, Try.ntmps58
    go_wp2
    go_loopw [5] (fun i wr => ∃ k : Nat, k ≤ n1 ∧ i = I k ∧ xs.take k = ys.take k ∧ Ext w wr) (fun i _ => n1 - (intOf i).toNat)
    case atStart => exact ⟨0, by omega, rfl, by simp, Ext.refl _⟩
    case round =>
      obtain ⟨k, hk, rfl, hq, he⟩ := hrel
      have HQ := Lib.hid hq; clear hq
      have HE := Lib.hid he; clear he
      by_cases hlt : k < n1
      · obtain ⟨b1, o1, rfl, hb1, hk1, hc1⟩ := (H1.out.ext HE.out).at_ hlt
        obtain ⟨b2, o2, rfl, hb2, hk2, hc2⟩ := (H2.out.ext HE.out).at_ hlt
        have i0 : (0 : Int) ≤ (k : Int) := by omega
        have i1 : (k : Int) < (n1 : Int) := by omega
        have X1 := Lib.hid (take_snoc xs k hk1)
        have X2 := Lib.hid (take_snoc ys k hk2)
        have hne : ¬ xs[k] = ys[k] → xs ≠ ys := fun hne h => hne (by subst h; rfl)
        have HN := Lib.hid hne; clear hne
        generalize xs[k] = x at *
        generalize ys[k] = y at *
        obtain ⟨h10, h11, h12, h13⟩ := hc1
        obtain ⟨h20, h21, h22, h23⟩ := hc2
        go_wp2_with fail
        go_region_held3 (fun W => wr.heap.size ≤ W.heap.size ∧ ∀ b o, b < wr.heap.size → W.cell? ⟨b, o, none⟩ = wr.cell? ⟨b, o, none⟩)
          (first | exact ⟨Nat.le_refl _, fun _ _ _ => rfl⟩ | exact keepC (by assumption) he1)
          (first | (go_at_call 129; refine (eqPolicy _ _ x y _ (by exact rfl) (by exact rfl)).mono ?_; rintro e w1 ⟨rfl, he1⟩))
        have HE1 := Lib.hid (HE.out.drew.trans he1)
        have hdd : decide (x = y) = true ↔ x = y := decide_eq_true_iff
        have HD := Lib.hid hdd; clear hdd
        generalize decide (x = y) = bb at *
        cases bb
        · have hxy : ¬ x = y := fun h => by have := HD.out.2 h; cases this
          have HXY := Lib.hid hxy; clear hxy
          go_wp2
          go_ret
          exact ⟨ret_bool (by simp [HN.out HXY.out]), HE1.out⟩
        · have HXY := Lib.hid (HD.out.1 rfl)
          go_wp2
          go_roundw
          case rel => exact ⟨k + 1, by omega, by go_num, by rw [X1.out, X2.out, HQ.out, HXY.out], HE1.out⟩
          case measure => simp [intOf]; omega
      · go_wp2
        go_ret
        have h := HQ.out
        rw [List.take_of_length_le (by rw [E1.out]; omega), List.take_of_length_le (by rw [E2.out]; omega)] at h
        exact ⟨ret_bool (by simp [h]), HE.out⟩
  · have hb : ((n1 : Int) == (n2 : Int)) = false := by simp; omega
    have hb' : ((n1 : Int) != (n2 : Int)) = true := by simp; omega
    have HN := Lib.hid hn; clear hn
    go_enter Try.func58, Try.ntmps58
    go_wp2
    go_ret
    have : xs ≠ ys := fun h => HN.out (by rw [← E1.out, ← E2.out, h])
    exact ⟨ret_bool (by simp [this]), Ext.refl _⟩
set_option maxRecDepth 100000 in
set_option maxHeartbeats 1000000 in
theorem szPolicyS (v : Value) (ds : List DPolicy) (left : Int) (w : World) (h : PolicyS w.heap.size w v ds) (h0 : 0 ≤ left) (hl : left ≤ 1048576) :
    Calls Try.prog 53 #[v, I left] w fun e w' => e = .returned (I (szR ds.length left)) ∧ Ext w w' := by
  obtain ⟨A, n, c, rfl, hl1, hn1, hm1, -⟩ := id h
  unfold maxLen at hm1
  subst hl1
  clear h
  by_cases hlt : left < (ds.length : Int)
  · have HF := Lib.hid (szR_neg hlt)
    go_enter Try.func53, Try.ntmps53
    go_wp2
    go_ret
    exact ⟨ret_int HF.out.symm, Ext.refl _⟩
  · have HF := Lib.hid (szR_pos (t := ds.length) (left := left) (by omega))
    go_enter Try.func53, Try.ntmps53
    go_wp2
    go_ret
    exact ⟨ret_int HF.out.symm, Ext.refl _⟩
/-- What marking from q on writes. -/
def PolicyNum (q n : Nat) : List DPolicy := (List.range n).map fun j => ⟨((q + 4 * j : Nat) : Int), ((q + 4 * j : Nat) : Int) + 1, ((q + 4 * j : Nat) : Int) + 1 + 1, ((q + 4 * j : Nat) : Int) + 1 + 1 + 1⟩
theorem PolicyNum_len {q n : Nat} : (PolicyNum q n).length = n := by simp [PolicyNum]
set_option maxRecDepth 100000 in
set_option maxHeartbeats 1000000 in
theorem markPolicyS (v : Value) (xs : List DPolicy) (q : Nat) (lo hi : Nat) (w : World) (h : PolicySO lo hi w v xs) (hq : q + 4 * xs.length ≤ 1000000000000000) :
    Calls Try.prog 59 #[v, I q] w fun e w' => e = .returned (I ((q + 4 * xs.length : Nat) : Int)) ∧ Own 157 4 lo hi w' v xs.length ((PolicyNum q xs.length).flatMap PolicyC) ∧ Out lo hi w w' := by
  rcases h.cases with ⟨rfl, h0, hx⟩ | ⟨g, cap, rest, rfl, h1, h2, hb, hlc, hn, hm, hs⟩
  · rw [h0]
    clear h hx h0
    go_enter Try.func59, Try.ntmps59
    go_wp2
    go_loop [1, 5] (fun k i => k = I q ∧ i = I 0) (fun _ _ => 0)
    case atStart => exact ⟨rfl, rfl⟩
    case round =>
      obtain ⟨rfl, rfl⟩ := hrel
      go_wp2
      go_ret
      exact ⟨rfl, Own.nil _ _ _ _ _, Out.refl _ _ _⟩
  · have HB := Lib.hid hb
    have HS := Lib.hid hs
    clear h hb hlc
    unfold maxLen at hm
    go_enter Try.func59, Try.ntmps59
    go_wp2
    go_loopw [1, 5] (fun k i wr => ∃ j p : Nat, j ≤ xs.length ∧ p = q + 4 * j ∧ k = I p ∧ i = I j ∧ Blk wr g 157 ((PolicyNum q j).flatMap PolicyC ++ ((xs.drop j).flatMap PolicyC ++ rest)) ∧ Out lo hi w wr) (fun _ i _ => xs.length - (intOf i).toNat)
    case atStart => exact ⟨0, q, by omega, by omega, rfl, rfl, by simpa [PolicyNum] using HB.out, Out.refl _ _ _⟩
    case round =>
      obtain ⟨j, p, hj, hp, rfl, rfl, hbl, ho⟩ := hrel
      have hpb : p ≤ 1000000000000000 := by omega
      have HB1 := Lib.hid hbl; clear hbl
      have HO := Lib.hid ho; clear ho
      by_cases hlt : j < xs.length
      · have hpb : p + 4 ≤ 1000000000000000 := by omega
        have HPQ := Lib.hid hp; clear hp
        have hd := HB1.out
        rw [List.drop_eq_getElem_cons hlt, List.flatMap_cons, List.append_assoc] at hd
        have hpl : ((PolicyNum q j).flatMap PolicyC).length = j * 4 := by rw [flat_len PolicyC 4 (fun _ => rfl)]; simp [PolicyNum]
        generalize xs[j] = x at *
        have hd : Blk wr g 157 ((PolicyNum q j).flatMap PolicyC ++ I x.maxLen :: I x.denied :: I x.closed :: I x.life :: ((xs.drop (j + 1)).flatMap PolicyC ++ rest)) := hd
        obtain ⟨hu0, hu1, hu2, hu3⟩ := cells_at4 hd hpl
        have hf0 := hd.frozen (j * 4)
        have hf1 := hd.frozen (j * 4 + 1)
        have hf2 := hd.frozen (j * 4 + 2)
        have hf3 := hd.frozen (j * 4 + 3)
        have hset := (((hd.set_ (j * 4) (I ((p : Int)))).set_ (j * 4 + 1) (I ((p : Int) + 1))).set_ (j * 4 + 2) (I ((p : Int) + 1 + 1))).set_ (j * 4 + 3) (I ((p : Int) + 1 + 1 + 1))
        rw [set_at4 _ _ _ _ _ _ _ _ _ _ _ hpl] at hset
        have HT := Lib.hid hset
        clear hd hset hpl
        go_wp2
        go_roundw
        case rel =>
          refine ⟨j + 1, p + 4, by omega, by rw [HPQ.out]; omega, by go_num, by go_num, ?_, (((HO.out.setCell h1 h2 _).setCell h1 h2 _).setCell h1 h2 _).setCell h1 h2 _⟩
          have ht := HT.out
          have hp := HPQ.out
          subst hp
          simpa [PolicyNum, PolicyC, List.range_succ] using ht
        case measure => simp [intOf]; omega
      · have HPQ := Lib.hid hp; clear hp
        go_wp2
        go_ret
        obtain rfl : j = xs.length := by omega
        have hp := HPQ.out
        subst hp
        refine ⟨rfl, Own.mk' h1 h2 (by simpa using HB1.out) (by rw [flat_len PolicyC 4 (fun _ => rfl)]; simp [PolicyNum]) hn hm ?_, HO.out⟩
        have hs := HS.out
        rw [List.length_append, flat_len PolicyC 4 (fun _ => rfl)] at hs ⊢
        simpa [PolicyNum] using hs
theorem markPolicyS_row (v : Value) (xs : List DPolicy) (q : Nat) (qi : Int) (w : World) (h : w.ownsRow 0 157 4 v xs.length (xs.flatMap PolicyC)) (hqi : qi = (q : Int)) (hq : q + 4 * xs.length ≤ 1000000000000000) :
    Calls Try.prog 59 #[v, I qi] w fun e w' => e = .returned (I ((q + 4 * xs.length : Nat) : Int)) ∧ w'.ownsRow 0 157 4 v xs.length ((PolicyNum q xs.length).flatMap PolicyC) ∧ OutF v.ownBlock.toList w w' := by
  subst hqi
  exact calls_row h fun lo hi ho => markPolicyS v xs q lo hi w ho hq
end Go.Proofs.Ytcalbcjheenmgaa
