/- The laws' helpers on []int: copying, comparing, marking, asking the marks. -/
import Derived.Test.YtcalbcjheenmgaaProg
import Derived.Test.YtcalbcjheenmgaaTypes
namespace Go.Proofs.Ytcalbcjheenmgaa
open Go.RowKit
set_option linter.unusedVariables false
theorem info_int : (Try.prog.info? 3).map (fun i => (i.zero, i.size, i.bytes)) = some (some (.int .i64 0), 1, 8) := by kernel_rfl

/-- What is left of a budget. -/
def szR (t : Nat) (left : Int) : Int := if left < t then -1 else left - t
theorem szR_neg {t : Nat} {left : Int} (h : left < t) : szR t left = -1 := by simp [szR, h]
theorem szR_pos {t : Nat} {left : Int} (h : (t : Int) ≤ left) : szR t left = left - t := by simp [szR, Int.not_lt.2 h]
/-- A []int of the call's own. -/
abbrev IntSO (lo hi : Nat) (w : World) (v : Value) (xs : List Int) : Prop := Own 3 1 lo hi w v xs.length (xs.map I)
theorem IntSO_rd {lo hi : Nat} {w : World} {v : Value} {xs : List Int} (h : IntSO lo hi w v xs) : IntS w.heap.size w v xs := (Own.lt_size h).ints

/-- What marking from q on writes. -/
def intsNum (q n : Nat) : List Int := (List.range n).map fun j => ((q + j : Nat) : Int)
theorem intsNum_len {q n : Nat} : (intsNum q n).length = n := by simp [intsNum]

set_option maxRecDepth 100000 in
set_option maxHeartbeats 400000 in
theorem toIntS (v : Value) (zs : List Int) (w : World) (h : IntS w.heap.size w v zs) (hn : zs.length ≤ 16777216) :
    Calls Try.prog 78 #[v] w fun e w' => ∃ v', e = .returned v' ∧ IntSO w.heap.size w'.heap.size w' v' zs ∧ Ext w w' := by
  obtain ⟨A, n, c, rfl, hl, -⟩ := id h
  subst hl
  have hmk := run_mk (P := Try.prog) 38 3 (.int .i64 0) 1 8 Try.underlying38 info_int zs.length (by omega) (by omega)
  have hml := mkRow_len (.int .i64 0) (zs.length * 1)
  generalize mkRow (.int .i64 0) (zs.length * 1) = mr at *
  have H := Lib.hid h; clear h
  have HM := Lib.hid hml; clear hml
  go_enter Try.func78, Try.ntmps78
  go_wp2
  go_loopw [4] (fun i wr => ∃ (k : Nat) (rest : List Value), k ≤ zs.length ∧ i = I k ∧ Blk wr w.heap.size 3 ((zs.take k).map I ++ rest) ∧ rest.length = zs.length - k ∧ Ext w wr) (fun i _ => zs.length - (intOf i).toNat)
  case atStart => exact ⟨0, mr.toList, by omega, rfl, by simpa using Blk.new w 3 mr.toList, by simpa using HM.out, (Ext.refl _).alloc _⟩
  case round =>
    obtain ⟨k, rest, hk, rfl, hb, hr, he⟩ := hrel
    have HE := Lib.hid he
    have HB := Lib.hid hb; clear hb
    by_cases hlt : k < zs.length
    · obtain ⟨b, off, rfl, hbb, _, hc⟩ := (H.out.ext he).at_ hlt
      obtain ⟨r, rest, rfl⟩ : ∃ r rest', rest = r :: rest' := by
        cases rest with
        | nil => simp at hr; omega
        | cons r rest => exact ⟨r, rest, rfl⟩
      have HR := Lib.hid hr; clear hr he
      have hc : wr.cell? ⟨b, off + k, none⟩ = some (I zs[k]) := hc
      have HX := Lib.hid (take_snoc zs k hlt)
      generalize zs[k] = x at *
      have hu : wr.cell? ⟨w.heap.size, k, none⟩ = some r := (HB.out.cell k).trans (get_at _ _ _ _ (by simp; omega))
      have hf := HB.out.frozen k
      go_wp2
      go_roundw
      case rel =>
        refine ⟨k + 1, rest, by omega, by go_num, ?_, ?_, HE.out.setCell (by simp) _⟩
        · have := HB.out.set_ k (I x)
          rw [set_at _ _ _ _ _ (by simp; omega)] at this
          rw [HX.out]
          simpa using this
        · have := HR.out; simp at this; omega
      case measure => simp [intOf]; omega
    · have HR := Lib.hid hr; clear hr he
      go_wp2
      go_ret
      have e : k = zs.length := by omega
      have hr := HR.out
      subst e
      obtain rfl : rest = [] := List.eq_nil_of_length_eq_zero (by omega)
      have hb := HB.out
      rw [List.take_length, List.append_nil] at hb
      exact ⟨_, rfl, Own.of_blk hb (by simp) (by unfold maxLen; omega) (Nat.le_refl _) hb.lt, HE.out⟩
set_option maxRecDepth 100000 in
set_option maxHeartbeats 1000000 in
theorem szIntS (v : Value) (ds : List Int) (left : Int) (w : World) (h : IntS w.heap.size w v ds) (h0 : 0 ≤ left) (hl : left ≤ 1048576) :
    Calls Try.prog 75 #[v, I left] w fun e w' => e = .returned (I (szR ds.length left)) ∧ Ext w w' := by
  obtain ⟨A, n, c, rfl, hl1, hn1, hm1, -⟩ := id h
  unfold maxLen at hm1
  subst hl1
  clear h
  by_cases hlt : left < (ds.length : Int)
  · have HF := Lib.hid (szR_neg hlt)
    go_enter Try.func75, Try.ntmps75
    go_wp2
    go_ret
    exact ⟨ret_int HF.out.symm, Ext.refl _⟩
  · have HF := Lib.hid (szR_pos (t := ds.length) (left := left) (by omega))
    go_enter Try.func75, Try.ntmps75
    go_wp2
    go_ret
    exact ⟨ret_int HF.out.symm, Ext.refl _⟩
set_option maxRecDepth 100000 in
set_option maxHeartbeats 400000 in
theorem eqIntS (v1 v2 : Value) (xs ys : List Int) (w : World) (h1 : IntS w.heap.size w v1 xs) (h2 : IntS w.heap.size w v2 ys) :
    Calls Try.prog 81 #[v1, v2] w fun e w' => e = .returned (.bool (decide (xs = ys))) ∧ Ext w w' := by
  obtain ⟨A1, n1, c1, rfl, hl1, hn1, hm1, -⟩ := id h1
  obtain ⟨A2, n2, c2, rfl, hl2, hn2, hm2, -⟩ := id h2
  unfold maxLen at hm1 hm2
  have H1 := Lib.hid h1; have H2 := Lib.hid h2; have E1 := Lib.hid hl1; have E2 := Lib.hid hl2; clear h1 h2 hl1 hl2
  by_cases hn : n1 = n2
  · subst hn
    go_enter Try.func81, Try.ntmps81
    go_wp2
    go_loopw [5] (fun i wr => ∃ k : Nat, k ≤ n1 ∧ i = I k ∧ xs.take k = ys.take k ∧ Ext w wr) (fun i _ => n1 - (intOf i).toNat)
    case atStart => exact ⟨0, by omega, rfl, by simp, Ext.refl _⟩
    case round =>
      obtain ⟨k, hk, rfl, hq, he⟩ := hrel
      have HQ := Lib.hid hq; clear hq
      have HE := Lib.hid he; clear he
      by_cases hlt : k < n1
      · obtain ⟨b1, o1, rfl, hb1, hk1, hc1⟩ := (H1.out.ext HE.out).at_ hlt
        obtain ⟨b2, o2, rfl, hb2, hk2, hc2⟩ := (H2.out.ext HE.out).at_ hlt
        have hc1 : wr.cell? ⟨b1, o1 + k, none⟩ = some (I xs[k]) := hc1
        have hc2 : wr.cell? ⟨b2, o2 + k, none⟩ = some (I ys[k]) := hc2
        have i0 : (0 : Int) ≤ (k : Int) := by omega
        have i1 : (k : Int) < (n1 : Int) := by omega
        have X1 := Lib.hid (take_snoc xs k hk1)
        have X2 := Lib.hid (take_snoc ys k hk2)
        have hne : ¬ xs[k] = ys[k] → xs ≠ ys := fun hne h => hne (by subst h; rfl)
        generalize xs[k] = x at *
        generalize ys[k] = y at *
        by_cases hxy : x = y
        · subst hxy
          clear hne
          go_wp2
          go_quiet (fail)
          go_wp2
          go_roundw
          case rel => exact ⟨k + 1, by omega, by go_num, by rw [X1.out, X2.out, HQ.out], HE.out.drewN _⟩
          case measure => simp [intOf]; omega
        · have hb : (x == y) = false := by simp [hxy]
          have hb' : (x != y) = true := by simp [hxy]
          have HN := Lib.hid (hne hxy); clear hne hxy
          go_wp2
          go_quiet (fail)
          go_wp2
          go_ret
          exact ⟨ret_bool (by simp [HN.out]), HE.out.drewN _⟩
      · go_wp2
        go_ret
        have e : k = n1 := by omega
        have h := HQ.out
        rw [List.take_of_length_le (by rw [E1.out]; omega), List.take_of_length_le (by rw [E2.out]; omega)] at h
        exact ⟨ret_bool (by simp [h]), HE.out⟩
  · have hb : ((n1 : Int) == (n2 : Int)) = false := by simp; omega
    have hb' : ((n1 : Int) != (n2 : Int)) = true := by simp; omega
    have HN := Lib.hid hn; clear hn
    go_enter Try.func81, Try.ntmps81
    go_wp2
    go_ret
    have : xs ≠ ys := fun h => HN.out (by rw [← E1.out, ← E2.out, h])
    exact ⟨ret_bool (by simp [this]), Ext.refl _⟩
set_option maxRecDepth 100000 in
set_option maxHeartbeats 400000 in
theorem markIntS (v : Value) (xs : List Int) (q : Nat) (lo hi : Nat) (w : World) (h : IntSO lo hi w v xs) (hq : q + xs.length ≤ 1000000000000000) :
    Calls Try.prog 82 #[v, I q] w fun e w' => e = .returned (I ((q + xs.length : Nat) : Int)) ∧ Own 3 1 lo hi w' v xs.length ((intsNum q xs.length).map I) ∧ Out lo hi w w' := by
  rcases h.cases with ⟨rfl, h0, hx⟩ | ⟨g, cap, rest, rfl, h1, h2, hb, hlc, hn, hm, hs⟩
  · rw [h0]
    clear h hx h0
    go_enter Try.func82, Try.ntmps82
    go_wp2
    go_loop [1, 5] (fun k i => k = I q ∧ i = I 0) (fun _ _ => 0)
    case atStart => exact ⟨rfl, rfl⟩
    case round =>
      obtain ⟨rfl, rfl⟩ := hrel
      go_wp2
      go_ret
      exact ⟨rfl, Own.nil _ _ _ _ _, Out.refl _ _ _⟩
  · have HB := Lib.hid hb
    have HS := Lib.hid hs
    clear h hb hlc hs
    unfold maxLen at hm
    go_enter Try.func82, Try.ntmps82
    go_wp2
    go_loopw [1, 5] (fun k i wr => ∃ j : Nat, j ≤ xs.length ∧ k = I ((q + j : Nat) : Int) ∧ i = I j ∧ Blk wr g 3 ((intsNum q j).map I ++ ((xs.drop j).map I ++ rest)) ∧ Out lo hi w wr) (fun _ i _ => xs.length - (intOf i).toNat)
    case atStart => exact ⟨0, by omega, rfl, rfl, by simpa [intsNum] using HB.out, Out.refl _ _ _⟩
    case round =>
      obtain ⟨j, hj, rfl, rfl, hbl, ho⟩ := hrel
      have HB1 := Lib.hid hbl; clear hbl
      have HO := Lib.hid ho; clear ho
      by_cases hlt : j < xs.length
      · have hd := HB1.out
        rw [List.drop_eq_getElem_cons hlt, List.map_cons, List.cons_append] at hd
        have hu : wr.cell? ⟨g, j, none⟩ = some (I xs[j]) := (hd.cell j).trans (get_at _ _ _ _ (by simp [intsNum]))
        have hf := hd.frozen j
        have hset := hd.set_ j (I ((q + j : Nat) : Int))
        rw [set_at _ _ _ _ _ (by simp [intsNum])] at hset
        have HT := Lib.hid hset
        clear hd hset
        generalize xs[j] = x at *
        go_wp2
        go_roundw
        case rel => exact ⟨j + 1, by omega, by go_num, by go_num, by simpa [intsNum, List.range_succ] using HT.out, HO.out.setCell h1 h2 _⟩
        case measure => simp [intOf]; omega
      · go_wp2
        go_ret
        obtain rfl : j = xs.length := by omega
        refine ⟨rfl, Own.mk' h1 h2 (by simpa using HB1.out) (by simp [intsNum]) hn hm (by simpa [intsNum] using HS.out), HO.out⟩
set_option maxRecDepth 100000 in
set_option maxHeartbeats 400000 in
theorem heldIntS (v : Value) (n q : Nat) (w : World) (h : IntS w.heap.size w v (intsNum q n)) (hq : q + n ≤ 1000000000000000) :
    Calls Try.prog 84 #[v, I q] w fun e w' => e = .returned (I ((q + n : Nat) : Int)) ∧ Ext w w' := by
  obtain ⟨A, n', c, rfl, hl, hn, hm, -⟩ := id h
  obtain rfl : n = n' := by simpa [intsNum] using hl
  have H := Lib.hid h; clear h hl
  unfold maxLen at hm
  go_enter Try.func84, Try.ntmps84
  go_wp2
  go_loop [1, 5] (fun k i => ∃ j : Nat, j ≤ n ∧ k = I ((q + j : Nat) : Int) ∧ i = I j) (fun _ i => n - (intOf i).toNat)
  case atStart => exact ⟨0, by omega, rfl, rfl⟩
  case round =>
    obtain ⟨j, hj, rfl, rfl⟩ := hrel
    by_cases hlt : j < n
    · obtain ⟨b, off, rfl, hb, hk, hc⟩ := H.out.at_ hlt
      have hc : w.cell? ⟨b, off + j, none⟩ = some (I ((q + j : Nat) : Int)) := by simpa [IntAt, intsNum] using hc
      go_wp2
      go_round
      case rel => exact ⟨j + 1, by omega, by go_num, by go_num⟩
      case measure => simp [intOf]; omega
    · go_wp2
      go_ret
      obtain rfl : j = n := by omega
      exact ⟨rfl, Ext.refl _⟩
end Go.Proofs.Ytcalbcjheenmgaa
