/- The laws' helpers on Signature: to.. (copy), eq.. (compare), sz.. (count), mark.. and held... Printed by gen.py. -/
import Derived.Test.YtnglhofegajbiaaInts
import Derived.Test.YtnglhofegajbiaaAppend
import Derived.Test.YtnglhofegajbiaaMarkRows
namespace Go.Proofs.Ytnglhofegajbiaa
open Go.RowKit
set_option linter.unusedVariables false
theorem info_Signature : (Try.prog.info? 48).map (fun i => (i.zero, i.size, i.bytes)) = some (some (.agg #[.int .i64 0, .int .i64 0]), 2, 16) := by kernel_rfl

theorem row_Signature {B : Nat} {w : World} {A : Option Addr} {n c : Nat} {xs : List DSignature} (h : SignatureS B w (.slice A n c) xs) : Row w 2 A n (xs.flatMap SignatureC) := row_flat (C := SignatureC) (sz := 2) (fun _ => rfl) (by omega) SignatureAt.cells_ h
set_option maxRecDepth 100000 in
set_option maxHeartbeats 1000000 in
theorem neq_Signature (x y : DSignature) (w : World) : (binOp .neq 48 (.agg #[I x.asn, I x.value]) (.agg #[I y.asn, I y.value])).run Try.prog w = .ok (.bool (!decide (x = y))) w := by
  have hp : Try.prog.stoodInHeld 48 = false := by kernel_rfl
  have ht : Try.prog.underlying 48 = some (.struct (Try.prog.fieldsOf 48)) := by kernel_rfl
  have hf := ht.symm.trans Try.underlying48
  injection hf with hf
  injection hf with hf
  rw [run_neq_struct, run_equalIn_struct w 9999 48 _ _ ht hp, hf]
  by_cases h0 : x.asn = y.asn
  rotate_left
  · simp [Op.eqFields, go_sem, Try.underlying3, DSignature.eq_iff, h0]
  by_cases h1 : x.value = y.value
  · simp [Op.eqFields, go_sem, Try.underlying3, DSignature.eq_iff, h0, h1]
  · simp [Op.eqFields, go_sem, Try.underlying3, DSignature.eq_iff, h0, h1]
set_option maxRecDepth 100000 in
set_option maxHeartbeats 1000000 in
theorem eql_Signature (x y : DSignature) (w : World) : (binOp .eql 48 (.agg #[I x.asn, I x.value]) (.agg #[I y.asn, I y.value])).run Try.prog w = .ok (.bool (decide (x = y))) w := by
  have hp : Try.prog.stoodInHeld 48 = false := by kernel_rfl
  have ht : Try.prog.underlying 48 = some (.struct (Try.prog.fieldsOf 48)) := by kernel_rfl
  have hf := ht.symm.trans Try.underlying48
  injection hf with hf
  injection hf with hf
  rw [run_eql_struct, run_equalIn_struct w 9999 48 _ _ ht hp, hf]
  by_cases h0 : x.asn = y.asn
  rotate_left
  · simp [Op.eqFields, go_sem, Try.underlying3, DSignature.eq_iff, h0]
  by_cases h1 : x.value = y.value
  · simp [Op.eqFields, go_sem, Try.underlying3, DSignature.eq_iff, h0, h1]
  · simp [Op.eqFields, go_sem, Try.underlying3, DSignature.eq_iff, h0, h1]
theorem guard_Signature : Try.prog.eqGuardType Try.prog.depth 48 = false := by kernel_rfl
/-- A []Signature of the call's own. -/
abbrev SignatureSO (lo hi : Nat) (w : World) (v : Value) (xs : List DSignature) : Prop := Own 48 2 lo hi w v xs.length (xs.flatMap SignatureC)
theorem SignatureSO_rd {lo hi : Nat} {w : World} {v : Value} {xs : List DSignature} (h : SignatureSO lo hi w v xs) : SignatureS w.heap.size w v xs := (Own.lt_size h).sl (At := SignatureAt) SignatureC.len (by omega) SignatureC.at_
set_option maxRecDepth 100000 in
set_option maxHeartbeats 1000000 in
theorem toSignature (x : DSignature) (w : World) : Calls Try.prog 28 #[.agg #[I x.asn, I x.value]] w fun e w' => e = .returned (.agg #[I x.asn, I x.value]) ∧ Ext w w' := by
  go_enter Try.func28, Try.ntmps28
  go_wp2
  exact bodyPost_ret (v := .agg #[I x.asn, I x.value]) (by simp [results, Try.results28, go_sem]) rfl ⟨rfl, (by repeat (first | (with_reducible exact Ext.refl _) | (with_reducible assumption) | (with_reducible refine Ext.alloc ?_ _) | (with_reducible refine Ext.drew ?_) | (with_reducible refine Ext.drewN ?_ _) | (with_reducible refine Ext.setCell (p := _) ?_ ?ge _; case ge => (dsimp only; omega)) | (with_reducible refine Ext.trans ?_ (by with_reducible assumption))))⟩
set_option maxRecDepth 100000 in
set_option maxHeartbeats 1000000 in
theorem toSignatureS (v : Value) (ds : List DSignature) (w : World) (h : SignatureS w.heap.size w v ds) (hn : ds.length ≤ 16777216) :
    Calls Try.prog 19 #[v] w fun e w' => ∃ v', e = .returned v' ∧ SignatureSO w.heap.size w'.heap.size w' v' ds ∧ Ext w w' := by
  obtain ⟨A, n, c, rfl, hl, -⟩ := id h
  subst hl
  have hmk := run_mk (P := Try.prog) 27 48 (.agg #[.int .i64 0, .int .i64 0]) 2 16 Try.underlying27 info_Signature ds.length (by omega) (by omega)
  have hml := mkRow_len (.agg #[.int .i64 0, .int .i64 0]) (ds.length * 2)
  generalize mkRow (.agg #[.int .i64 0, .int .i64 0]) (ds.length * 2) = mr at *
  have H := Lib.hid h; clear h
  have HM := Lib.hid hml; clear hml
  go_enter Try.func19, Try.ntmps19
  go_wp2
  go_loopw [4] (fun i wr => ∃ (k : Nat) (rest : List Value), k ≤ ds.length ∧ i = I k ∧ Blk wr w.heap.size 48 ((ds.take k).flatMap SignatureC ++ rest) ∧ rest.length = (ds.length - k) * 2 ∧ Ext w wr) (fun i _ => ds.length - (intOf i).toNat)
  case atStart => exact ⟨0, mr.toList, by omega, rfl, by simpa using Blk.new w 48 mr.toList, by simpa using HM.out, (Ext.refl _).alloc _⟩
  case round =>
    obtain ⟨k, rest, hk, rfl, hb, hr, he⟩ := hrel
    have HE := Lib.hid he
    have HB := Lib.hid hb; clear hb
    by_cases hlt : k < ds.length
    · obtain ⟨b, off, rfl, hbb, _, hc⟩ := (H.out.ext he).at_ hlt
      obtain ⟨r0, r1, rest, rfl⟩ : ∃ r0 r1 rest', rest = r0 :: r1 :: rest' := by
        match rest, hr with
        | r0 :: r1 :: rest, _ => exact ⟨r0, r1, rest, rfl⟩
        | [], h => simp at h; omega
        | [_], h => simp at h; omega
      have hlr : rest.length = (ds.length - (k + 1)) * 2 := by simp only [List.length_cons] at hr; omega
      have HR := Lib.hid hlr; clear hr he hlr
      have HX := Lib.hid (take_snoc ds k hlt)
      generalize ds[k] = x at *
      obtain ⟨hc0, hc1⟩ := hc
      have hp := flat_len SignatureC 2 (fun _ => rfl) (ds.take k)
      rw [List.length_take, Nat.min_eq_left hk] at hp
      have HP := Lib.hid hp; clear hp
      have hwg : w.heap.size < wr.heap.size := HB.out.lt
      go_wp2_with fail
      refine (toSignature x _).mono ?_
      rintro e w1 ⟨rfl, he1⟩
      have HB1 := Lib.hid (HB.out.below he1.below hwg)
      have hz1 := he1.size
      have HE1 := Lib.hid he1
      clear he1
      obtain ⟨hu0, hu1⟩ := cells_at2 HB1.out HP.out
      have hf0 := HB1.out.frozen (k * 2)
      have hf1 := HB1.out.frozen (k * 2 + 1)
      go_wp2
      go_roundw
      case rel =>
        refine ⟨k + 1, rest, by omega, by go_num, ?_, HR.out, ?_⟩
        · have := (HB1.out.set_ (k * 2) (I x.asn)).set_ (k * 2 + 1) (I x.value)
          rw [set_at2 _ _ _ _ _ _ _ HP.out] at this
          rw [HX.out, List.flatMap_append]
          simpa [SignatureC] using this
        · exact ((HE.out.trans HE1.out).setCell (by simp) _).setCell (by simp) _
      case measure => simp [intOf]; omega
    · have HR := Lib.hid hr; clear hr he
      go_wp2
      go_ret
      have e : k = ds.length := by omega
      have hr := HR.out
      subst e
      obtain rfl : rest = [] := List.eq_nil_of_length_eq_zero (by simpa using hr)
      have hb := HB.out
      rw [List.take_length, List.append_nil] at hb
      exact ⟨_, rfl, Own.of_blk hb (flat_len SignatureC 2 (fun _ => rfl) ds) (by unfold maxLen; omega) (Nat.le_refl _) hb.lt, HE.out⟩
set_option maxRecDepth 100000 in
set_option maxHeartbeats 1000000 in
theorem eqSignature (v1 v2 : Value) (x y : DSignature) (w : World) (h1 : SignatureV w.heap.size w v1 x) (h2 : SignatureV w.heap.size w v2 y) :
    Calls Try.prog 34 #[v1, v2] w fun e w' => e = .returned (.bool (decide (x = y))) ∧ Ext w w' := by
  obtain rfl := h1
  obtain rfl := h2
  go_enter Try.func34, Try.ntmps34
  go_wp2_with fail
  all_goals
    go_ret
    exact ⟨ret_bool (by simp_all [DSignature.eq_iff]), (by repeat (first | (with_reducible exact Ext.refl _) | (with_reducible assumption) | (with_reducible refine Ext.alloc ?_ _) | (with_reducible refine Ext.drew ?_) | (with_reducible refine Ext.drewN ?_ _) | (with_reducible refine Ext.setCell (p := _) ?_ ?ge _; case ge => (dsimp only; omega)) | (with_reducible refine Ext.trans ?_ (by with_reducible assumption))))⟩
set_option maxRecDepth 100000 in
set_option maxHeartbeats 1000000 in
theorem eqSignatureS (v1 v2 : Value) (xs ys : List DSignature) (w : World) (h1 : SignatureS w.heap.size w v1 xs) (h2 : SignatureS w.heap.size w v2 ys) :
    Calls Try.prog 22 #[v1, v2] w fun e w' => e = .returned (.bool (decide (xs = ys))) ∧ Ext w w' := by
  obtain ⟨A1, n1, c1, rfl, hl1, hn1, hm1, -⟩ := id h1
  obtain ⟨A2, n2, c2, rfl, hl2, hn2, hm2, -⟩ := id h2
  unfold maxLen at hm1 hm2
  have H1 := Lib.hid h1; have H2 := Lib.hid h2; have E1 := Lib.hid hl1; have E2 := Lib.hid hl2; clear h1 h2 hl1 hl2
  by_cases hn : n1 = n2
  · subst hn
    go_enter Try.func22, Try.ntmps22
    go_wp2
    go_loopw [5] (fun i wr => ∃ k : Nat, k ≤ n1 ∧ i = I k ∧ xs.take k = ys.take k ∧ Ext w wr) (fun i _ => n1 - (intOf i).toNat)
    case atStart => exact ⟨0, by omega, rfl, by simp, Ext.refl _⟩
    case round =>
      obtain ⟨k, hk, rfl, hq, he⟩ := hrel
      have HQ := Lib.hid hq; clear hq
      have HE := Lib.hid he; clear he
      by_cases hlt : k < n1
      · obtain ⟨b1, o1, rfl, hb1, hk1, hc1⟩ := (H1.out.ext HE.out).at_ hlt
        obtain ⟨b2, o2, rfl, hb2, hk2, hc2⟩ := (H2.out.ext HE.out).at_ hlt
        have i0 : (0 : Int) ≤ (k : Int) := by omega
        have i1 : (k : Int) < (n1 : Int) := by omega
        have X1 := Lib.hid (take_snoc xs k hk1)
        have X2 := Lib.hid (take_snoc ys k hk2)
        have hne : ¬ xs[k] = ys[k] → xs ≠ ys := fun hne h => hne (by subst h; rfl)
        have HN := Lib.hid hne; clear hne
        generalize xs[k] = x at *
        generalize ys[k] = y at *
        obtain ⟨h10, h11⟩ := hc1
        obtain ⟨h20, h21⟩ := hc2
        go_wp2_with fail
        go_region_held3 (fun W => wr.heap.size ≤ W.heap.size ∧ ∀ b o, b < wr.heap.size → W.cell? ⟨b, o, none⟩ = wr.cell? ⟨b, o, none⟩)
          (first | exact ⟨Nat.le_refl _, fun _ _ _ => rfl⟩ | exact keepC (by assumption) he1)
          (first | (go_at_call 34; refine (eqSignature _ _ x y _ (by exact rfl) (by exact rfl)).mono ?_; rintro e w1 ⟨rfl, he1⟩))
        have HE1 := Lib.hid (HE.out.drew.trans he1)
        have hdd : decide (x = y) = true ↔ x = y := decide_eq_true_iff
        have HD := Lib.hid hdd; clear hdd
        generalize decide (x = y) = bb at *
        cases bb
        · have hxy : ¬ x = y := fun h => by have := HD.out.2 h; cases this
          have HXY := Lib.hid hxy; clear hxy
          go_wp2
          go_ret
          exact ⟨ret_bool (by simp [HN.out HXY.out]), HE1.out⟩
        · have HXY := Lib.hid (HD.out.1 rfl)
          go_wp2
          go_roundw
          case rel => exact ⟨k + 1, by omega, by go_num, by rw [X1.out, X2.out, HQ.out, HXY.out], HE1.out⟩
          case measure => simp [intOf]; omega
      · go_wp2
        go_ret
        have h := HQ.out
        rw [List.take_of_length_le (by rw [E1.out]; omega), List.take_of_length_le (by rw [E2.out]; omega)] at h
        exact ⟨ret_bool (by simp [h]), HE.out⟩
  · have hb : ((n1 : Int) == (n2 : Int)) = false := by simp; omega
    have hb' : ((n1 : Int) != (n2 : Int)) = true := by simp; omega
    have HN := Lib.hid hn; clear hn
    go_enter Try.func22, Try.ntmps22
    go_wp2
    go_ret
    have : xs ≠ ys := fun h => HN.out (by rw [← E1.out, ← E2.out, h])
    exact ⟨ret_bool (by simp [this]), Ext.refl _⟩
set_option maxRecDepth 100000 in
set_option maxHeartbeats 1000000 in
theorem szSignatureS (v : Value) (ds : List DSignature) (left : Int) (w : World) (h : SignatureS w.heap.size w v ds) (h0 : 0 ≤ left) (hl : left ≤ 1048576) :
    Calls Try.prog 16 #[v, I left] w fun e w' => e = .returned (I (szR ds.length left)) ∧ Ext w w' := by
  obtain ⟨A, n, c, rfl, hl1, hn1, hm1, -⟩ := id h
  unfold maxLen at hm1
  subst hl1
  clear h
  by_cases hlt : left < (ds.length : Int)
  · have HF := Lib.hid (szR_neg hlt)
    go_enter Try.func16, Try.ntmps16
    go_wp2
    go_ret
    exact ⟨ret_int HF.out.symm, Ext.refl _⟩
  · have HF := Lib.hid (szR_pos (t := ds.length) (left := left) (by omega))
    go_enter Try.func16, Try.ntmps16
    go_wp2
    go_ret
    exact ⟨ret_int HF.out.symm, Ext.refl _⟩
/-- What marking from q on writes. -/
def SignatureNum (q n : Nat) : List DSignature := (List.range n).map fun j => ⟨((q + 2 * j : Nat) : Int), ((q + 2 * j : Nat) : Int) + 1⟩
theorem SignatureNum_len {q n : Nat} : (SignatureNum q n).length = n := by simp [SignatureNum]
end Go.Proofs.Ytnglhofegajbiaa
