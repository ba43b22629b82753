/- The laws' helpers on AS: to.. (copy), eq.. (compare), sz.. (count), mark.. and held... Printed by gen.py. -/
import Derived.Test.YtnglhofegajbiaaInts
import Derived.Test.YtnglhofegajbiaaAppend
import Derived.Test.YtnglhofegajbiaaMarkRows
namespace Go.Proofs.Ytnglhofegajbiaa
open Go.RowKit
set_option linter.unusedVariables false
theorem info_AS : (Try.prog.info? 73).map (fun i => (i.zero, i.size, i.bytes)) = some (some (.agg #[.int .i64 0, .bool false, .int .i64 0]), 3, 24) := by kernel_rfl

theorem row_AS {B : Nat} {w : World} {A : Option Addr} {n c : Nat} {xs : List DAS} (h : ASS B w (.slice A n c) xs) : Row w 3 A n (xs.flatMap ASC) := row_flat (C := ASC) (sz := 3) (fun _ => rfl) (by omega) ASAt.cells_ h

/-- A []AS of the call's own. -/
abbrev ASSO (lo hi : Nat) (w : World) (v : Value) (xs : List DAS) : Prop := Own 73 3 lo hi w v xs.length (xs.flatMap ASC)
theorem ASSO_rd {lo hi : Nat} {w : World} {v : Value} {xs : List DAS} (h : ASSO lo hi w v xs) : ASS w.heap.size w v xs := (Own.lt_size h).sl (At := ASAt) ASC.len (by omega) ASC.at_
set_option maxRecDepth 100000 in
set_option maxHeartbeats 1000000 in
theorem toAS (x : DAS) (w : World) : Calls Try.prog 36 #[.agg #[I x.isd, .bool x.core, I x.key]] w fun e w' => e = .returned (.agg #[I x.isd, .bool x.core, I x.key]) ∧ Ext w w' := by
  go_enter Try.func36, Try.ntmps36
  go_wp2
  exact bodyPost_ret (v := .agg #[I x.isd, .bool x.core, I x.key]) (by simp [results, Try.results36, go_sem]) rfl ⟨rfl, (by repeat (first | (with_reducible exact Ext.refl _) | (with_reducible assumption) | (with_reducible refine Ext.alloc ?_ _) | (with_reducible refine Ext.drew ?_) | (with_reducible refine Ext.drewN ?_ _) | (with_reducible refine Ext.setCell (p := _) ?_ ?ge _; case ge => (dsimp only; omega)) | (with_reducible refine Ext.trans ?_ (by with_reducible assumption))))⟩
set_option maxRecDepth 100000 in
set_option maxHeartbeats 1000000 in
theorem toASS (v : Value) (ds : List DAS) (w : World) (h : ASS w.heap.size w v ds) (hn : ds.length ≤ 16777216) :
    Calls Try.prog 26 #[v] w fun e w' => ∃ v', e = .returned v' ∧ ASSO w.heap.size w'.heap.size w' v' ds ∧ Ext w w' := by
  obtain ⟨A, n, c, rfl, hl, -⟩ := id h
  subst hl
  have hmk := run_mk (P := Try.prog) 43 73 (.agg #[.int .i64 0, .bool false, .int .i64 0]) 3 24 Try.underlying43 info_AS ds.length (by omega) (by omega)
  have hml := mkRow_len (.agg #[.int .i64 0, .bool false, .int .i64 0]) (ds.length * 3)
  generalize mkRow (.agg #[.int .i64 0, .bool false, .int .i64 0]) (ds.length * 3) = mr at *
  have H := Lib.hid h; clear h
  have HM := Lib.hid hml; clear hml
  go_enter Try.func26, Try.ntmps26
  go_wp2
  go_loopw [4] (fun i wr => ∃ (k : Nat) (rest : List Value), k ≤ ds.length ∧ i = I k ∧ Blk wr w.heap.size 73 ((ds.take k).flatMap ASC ++ rest) ∧ rest.length = (ds.length - k) * 3 ∧ Ext w wr) (fun i _ => ds.length - (intOf i).toNat)
  case atStart => exact ⟨0, mr.toList, by omega, rfl, by simpa using Blk.new w 73 mr.toList, by simpa using HM.out, (Ext.refl _).alloc _⟩
  case round =>
    obtain ⟨k, rest, hk, rfl, hb, hr, he⟩ := hrel
    have HE := Lib.hid he
    have HB := Lib.hid hb; clear hb
    by_cases hlt : k < ds.length
    · obtain ⟨b, off, rfl, hbb, _, hc⟩ := (H.out.ext he).at_ hlt
      obtain ⟨r0, r1, r2, rest, rfl⟩ : ∃ r0 r1 r2 rest', rest = r0 :: r1 :: r2 :: rest' := by
        match rest, hr with
        | r0 :: r1 :: r2 :: rest, _ => exact ⟨r0, r1, r2, rest, rfl⟩
        | [], h => simp at h; omega
        | [_], h => simp at h; omega
        | [_, _], h => simp at h; omega
      have hlr : rest.length = (ds.length - (k + 1)) * 3 := by simp only [List.length_cons] at hr; omega
      have HR := Lib.hid hlr; clear hr he hlr
      have HX := Lib.hid (take_snoc ds k hlt)
      generalize ds[k] = x at *
      obtain ⟨hc0, hc1, hc2⟩ := hc
      have hp := flat_len ASC 3 (fun _ => rfl) (ds.take k)
      rw [List.length_take, Nat.min_eq_left hk] at hp
      have HP := Lib.hid hp; clear hp
      have hwg : w.heap.size < wr.heap.size := HB.out.lt
      go_wp2_with fail
      refine (toAS x _).mono ?_
      rintro e w1 ⟨rfl, he1⟩
      have HB1 := Lib.hid (HB.out.below he1.below hwg)
      have hz1 := he1.size
      have HE1 := Lib.hid he1
      clear he1
      obtain ⟨hu0, hu1, hu2⟩ := cells_at3 HB1.out HP.out
      have hf0 := HB1.out.frozen (k * 3)
      have hf1 := HB1.out.frozen (k * 3 + 1)
      have hf2 := HB1.out.frozen (k * 3 + 2)
      go_wp2
      go_roundw
      case rel =>
        refine ⟨k + 1, rest, by omega, by go_num, ?_, HR.out, ?_⟩
        · have := ((HB1.out.set_ (k * 3) (I x.isd)).set_ (k * 3 + 1) (.bool x.core)).set_ (k * 3 + 2) (I x.key)
          rw [set_at3 _ _ _ _ _ _ _ _ _ HP.out] at this
          rw [HX.out, List.flatMap_append]
          simpa [ASC] using this
        · exact (((HE.out.trans HE1.out).setCell (by simp) _).setCell (by simp) _).setCell (by simp) _
      case measure => simp [intOf]; omega
    · have HR := Lib.hid hr; clear hr he
      go_wp2
      go_ret
      have e : k = ds.length := by omega
      have hr := HR.out
      subst e
      obtain rfl : rest = [] := List.eq_nil_of_length_eq_zero (by simpa using hr)
      have hb := HB.out
      rw [List.take_length, List.append_nil] at hb
      exact ⟨_, rfl, Own.of_blk hb (flat_len ASC 3 (fun _ => rfl) ds) (by unfold maxLen; omega) (Nat.le_refl _) hb.lt, HE.out⟩
set_option maxRecDepth 100000 in
set_option maxHeartbeats 1000000 in
theorem eqAS (v1 v2 : Value) (x y : DAS) (w : World) (h1 : ASV w.heap.size w v1 x) (h2 : ASV w.heap.size w v2 y) :
    Calls Try.prog 39 #[v1, v2] w fun e w' => e = .returned (.bool (decide (x = y))) ∧ Ext w w' := by
  obtain rfl := h1
  obtain rfl := h2
  go_enter Try.func39, Try.ntmps39
  go_wp2_with fail
  all_goals
    go_ret
    exact ⟨ret_bool (by simp_all [DAS.eq_iff]), (by repeat (first | (with_reducible exact Ext.refl _) | (with_reducible assumption) | (with_reducible refine Ext.alloc ?_ _) | (with_reducible refine Ext.drew ?_) | (with_reducible refine Ext.drewN ?_ _) | (with_reducible refine Ext.setCell (p := _) ?_ ?ge _; case ge => (dsimp only; omega)) | (with_reducible refine Ext.trans ?_ (by with_reducible assumption))))⟩
set_option maxRecDepth 100000 in
set_option maxHeartbeats 1000000 in
theorem eqASS (v1 v2 : Value) (xs ys : List DAS) (w : World) (h1 : ASS w.heap.size w v1 xs) (h2 : ASS w.heap.size w v2 ys) :
    Calls Try.prog 30 #[v1, v2] w fun e w' => e = .returned (.bool (decide (xs = ys))) ∧ Ext w w' := by
  obtain ⟨A1, n1, c1, rfl, hl1, hn1, hm1, -⟩ := id h1
  obtain ⟨A2, n2, c2, rfl, hl2, hn2, hm2, -⟩ := id h2
  unfold maxLen at hm1 hm2
  have H1 := Lib.hid h1; have H2 := Lib.hid h2; have E1 := Lib.hid hl1; have E2 := Lib.hid hl2; clear h1 h2 hl1 hl2
  by_cases hn : n1 = n2
  · subst hn
    go_enter Try.func30, Try.ntmps30
    go_wp2
    go_loopw [5] (fun i wr => ∃ k : Nat, k ≤ n1 ∧ i = I k ∧ xs.take k = ys.take k ∧ Ext w wr) (fun i _ => n1 - (intOf i).toNat)
    case atStart => exact ⟨0, by omega, rfl, by simp, Ext.refl _⟩
    case round =>
      obtain ⟨k, hk, rfl, hq, he⟩ := hrel
      have HQ := Lib.hid hq; clear hq
      have HE := Lib.hid he; clear he
      by_cases hlt : k < n1
      · obtain ⟨b1, o1, rfl, hb1, hk1, hc1⟩ := (H1.out.ext HE.out).at_ hlt
        obtain ⟨b2, o2, rfl, hb2, hk2, hc2⟩ := (H2.out.ext HE.out).at_ hlt
        have i0 : (0 : Int) ≤ (k : Int) := by omega
        have i1 : (k : Int) < (n1 : Int) := by omega
        have X1 := Lib.hid (take_snoc xs k hk1)
        have X2 := Lib.hid (take_snoc ys k hk2)
        have hne : ¬ xs[k] = ys[k] → xs ≠ ys := fun hne h => hne (by subst h; rfl)
        have HN := Lib.hid hne; clear hne
        generalize xs[k] = x at *
        generalize ys[k] = y at *
        obtain ⟨h10, h11, h12⟩ := hc1
        obtain ⟨h20, h21, h22⟩ := hc2
        go_wp2_with fail
        go_region_held3 (fun W => wr.heap.size ≤ W.heap.size ∧ ∀ b o, b < wr.heap.size → W.cell? ⟨b, o, none⟩ = wr.cell? ⟨b, o, none⟩)
          (first | exact ⟨Nat.le_refl _, fun _ _ _ => rfl⟩ | exact keepC (by assumption) he1)
          (first | (go_at_call 39; refine (eqAS _ _ x y _ (by exact rfl) (by exact rfl)).mono ?_; rintro e w1 ⟨rfl, he1⟩))
        have HE1 := Lib.hid (HE.out.drew.trans he1)
        have hdd : decide (x = y) = true ↔ x = y := decide_eq_true_iff
        have HD := Lib.hid hdd; clear hdd
        generalize decide (x = y) = bb at *
        cases bb
        · have hxy : ¬ x = y := fun h => by have := HD.out.2 h; cases this
          have HXY := Lib.hid hxy; clear hxy
          go_wp2
          go_ret
          exact ⟨ret_bool (by simp [HN.out HXY.out]), HE1.out⟩
        · have HXY := Lib.hid (HD.out.1 rfl)
          go_wp2
          go_roundw
          case rel => exact ⟨k + 1, by omega, by go_num, by rw [X1.out, X2.out, HQ.out, HXY.out], HE1.out⟩
          case measure => simp [intOf]; omega
      · go_wp2
        go_ret
        have h := HQ.out
        rw [List.take_of_length_le (by rw [E1.out]; omega), List.take_of_length_le (by rw [E2.out]; omega)] at h
        exact ⟨ret_bool (by simp [h]), HE.out⟩
  · have hb : ((n1 : Int) == (n2 : Int)) = false := by simp; omega
    have hb' : ((n1 : Int) != (n2 : Int)) = true := by simp; omega
    have HN := Lib.hid hn; clear hn
    go_enter Try.func30, Try.ntmps30
    go_wp2
    go_ret
    have : xs ≠ ys := fun h => HN.out (by rw [← E1.out, ← E2.out, h])
    exact ⟨ret_bool (by simp [this]), Ext.refl _⟩
set_option maxRecDepth 100000 in
set_option maxHeartbeats 1000000 in
theorem szASS (v : Value) (ds : List DAS) (left : Int) (w : World) (h : ASS w.heap.size w v ds) (h0 : 0 ≤ left) (hl : left ≤ 1048576) :
    Calls Try.prog 23 #[v, I left] w fun e w' => e = .returned (I (szR ds.length left)) ∧ Ext w w' := by
  obtain ⟨A, n, c, rfl, hl1, hn1, hm1, -⟩ := id h
  unfold maxLen at hm1
  subst hl1
  clear h
  by_cases hlt : left < (ds.length : Int)
  · have HF := Lib.hid (szR_neg hlt)
    go_enter Try.func23, Try.ntmps23
    go_wp2
    go_ret
    exact ⟨ret_int HF.out.symm, Ext.refl _⟩
  · have HF := Lib.hid (szR_pos (t := ds.length) (left := left) (by omega))
    go_enter Try.func23, Try.ntmps23
    go_wp2
    go_ret
    exact ⟨ret_int HF.out.symm, Ext.refl _⟩
end Go.Proofs.Ytnglhofegajbiaa
