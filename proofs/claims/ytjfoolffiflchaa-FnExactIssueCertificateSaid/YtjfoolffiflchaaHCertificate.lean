/- The laws' helpers on Certificate: to.. (copy), eq.. (compare), sz.. (count), mark.. and held... Printed by gen.py. -/
import Derived.Test.YtjfoolffiflchaaHSignature
namespace Go.Proofs.Ytjfoolffiflchaa
open Go.RowKit
set_option linter.unusedVariables false
theorem info_Certificate : (Try.prog.info? 70).map (fun i => (i.zero, i.size, i.bytes)) = some (some (.agg #[.int .i64 0, .int .i64 0, .int .i64 0, .int .i64 0, .int .i64 0, .int .i64 0, .int .i64 0]), 7, 56) := by kernel_rfl

theorem row_Certificate {B : Nat} {w : World} {A : Option Addr} {n c : Nat} {xs : List DCertificate} (h : CertificateS B w (.slice A n c) xs) : Row w 7 A n (xs.flatMap CertificateC) := row_flat (C := CertificateC) (sz := 7) (fun _ => rfl) (by omega) CertificateAt.cells_ h

/-- A []Certificate of the call's own. -/
abbrev CertificateSO (lo hi : Nat) (w : World) (v : Value) (xs : List DCertificate) : Prop := Own 70 7 lo hi w v xs.length (xs.flatMap CertificateC)
theorem CertificateSO_rd {lo hi : Nat} {w : World} {v : Value} {xs : List DCertificate} (h : CertificateSO lo hi w v xs) : CertificateS w.heap.size w v xs := (Own.lt_size h).sl (At := CertificateAt) CertificateC.len (by omega) CertificateC.at_
set_option maxRecDepth 100000 in
set_option maxHeartbeats 1000000 in
theorem toCertificate (x : DCertificate) (w : World) : Calls Try.prog 42 #[.agg #[I x.asn, I x.keyDigest, I x.rootVersion, I x.notBefore, I x.notAfter, I x.sig.asn, I x.sig.value]] w fun e w' => e = .returned (.agg #[I x.asn, I x.keyDigest, I x.rootVersion, I x.notBefore, I x.notAfter, I x.sig.asn, I x.sig.value]) ∧ Ext w w' := by
  go_enter Try.func42, Try.ntmps42
  go_wp2_with fail
  refine (toSignature x.sig _).mono ?_
  rintro e w1 ⟨rfl, he⟩
  obtain ⟨hc1, hf1, hz1⟩ := he.facts
  go_wp2_with fail
  exact bodyPost_ret (v := .agg #[I x.asn, I x.keyDigest, I x.rootVersion, I x.notBefore, I x.notAfter, I x.sig.asn, I x.sig.value]) (by simp [results, Try.results42, go_sem, hc1]) rfl ⟨rfl, (by repeat (first | (with_reducible exact Ext.refl _) | (with_reducible assumption) | (with_reducible refine Ext.alloc ?_ _) | (with_reducible refine Ext.drew ?_) | (with_reducible refine Ext.drewN ?_ _) | (with_reducible refine Ext.setCell (p := _) ?_ ?ge _; case ge => (dsimp only; omega)) | (with_reducible refine Ext.trans ?_ (by with_reducible assumption))))⟩
set_option maxRecDepth 100000 in
set_option maxHeartbeats 1000000 in
theorem toCertificateS (v : Value) (ds : List DCertificate) (w : World) (h : CertificateS w.heap.size w v ds) (hn : ds.length ≤ 16777216) :
    Calls Try.prog 46 #[v] w fun e w' => ∃ v', e = .returned v' ∧ CertificateSO w.heap.size w'.heap.size w' v' ds ∧ Ext w w' := by
  obtain ⟨A, n, c, rfl, hl, -⟩ := id h
  subst hl
  have hmk := run_mk (P := Try.prog) 76 70 (.agg #[.int .i64 0, .int .i64 0, .int .i64 0, .int .i64 0, .int .i64 0, .int .i64 0, .int .i64 0]) 7 56 Try.underlying76 info_Certificate ds.length (by omega) (by omega)
  have hml := mkRow_len (.agg #[.int .i64 0, .int .i64 0, .int .i64 0, .int .i64 0, .int .i64 0, .int .i64 0, .int .i64 0]) (ds.length * 7)
  generalize mkRow (.agg #[.int .i64 0, .int .i64 0, .int .i64 0, .int .i64 0, .int .i64 0, .int .i64 0, .int .i64 0]) (ds.length * 7) = mr at *
  have H := Lib.hid h; clear h
  have HM := Lib.hid hml; clear hml
  go_enter Try.func46, Try.ntmps46
  go_wp2
  go_loopw [4] (fun i wr => ∃ (k : Nat) (rest : List Value), k ≤ ds.length ∧ i = I k ∧ Blk wr w.heap.size 70 ((ds.take k).flatMap CertificateC ++ rest) ∧ rest.length = (ds.length - k) * 7 ∧ Ext w wr) (fun i _ => ds.length - (intOf i).toNat)
  case atStart => exact ⟨0, mr.toList, by omega, rfl, by simpa using Blk.new w 70 mr.toList, by simpa using HM.out, (Ext.refl _).alloc _⟩
  case round =>
    obtain ⟨k, rest, hk, rfl, hb, hr, he⟩ := hrel
    have HE := Lib.hid he
    have HB := Lib.hid hb; clear hb
    by_cases hlt : k < ds.length
    · obtain ⟨b, off, rfl, hbb, _, hc⟩ := (H.out.ext he).at_ hlt
      obtain ⟨r0, r1, r2, r3, r4, r5, r6, rest, rfl⟩ : ∃ r0 r1 r2 r3 r4 r5 r6 rest', rest = r0 :: r1 :: r2 :: r3 :: r4 :: r5 :: r6 :: rest' := by
        match rest, hr with
        | r0 :: r1 :: r2 :: r3 :: r4 :: r5 :: r6 :: rest, _ => exact ⟨r0, r1, r2, r3, r4, r5, r6, rest, rfl⟩
        | [], h => simp at h; omega
        | [_], h => simp at h; omega
        | [_, _], h => simp at h; omega
        | [_, _, _], h => simp at h; omega
        | [_, _, _, _], h => simp at h; omega
        | [_, _, _, _, _], h => simp at h; omega
        | [_, _, _, _, _, _], h => simp at h; omega
      have hlr : rest.length = (ds.length - (k + 1)) * 7 := by simp only [List.length_cons] at hr; omega
      have HR := Lib.hid hlr; clear hr he hlr
      have HX := Lib.hid (take_snoc ds k hlt)
      generalize ds[k] = x at *
      obtain ⟨hc0, hc1, hc2, hc3, hc4, hc5, hc6⟩ := hc
      have hp := flat_len CertificateC 7 (fun _ => rfl) (ds.take k)
      rw [List.length_take, Nat.min_eq_left hk] at hp
      have HP := Lib.hid hp; clear hp
      have hwg : w.heap.size < wr.heap.size := HB.out.lt
      go_wp2_with fail
      refine (toCertificate x _).mono ?_
      rintro e w1 ⟨rfl, he1⟩
      have HB1 := Lib.hid (HB.out.below he1.below hwg)
      have hz1 := he1.size
      have HE1 := Lib.hid he1
      clear he1
      obtain ⟨hu0, hu1, hu2, hu3, hu4, hu5, hu6⟩ := cells_at7 HB1.out HP.out
      have hf0 := HB1.out.frozen (k * 7)
      have hf1 := HB1.out.frozen (k * 7 + 1)
      have hf2 := HB1.out.frozen (k * 7 + 2)
      have hf3 := HB1.out.frozen (k * 7 + 3)
      have hf4 := HB1.out.frozen (k * 7 + 4)
      have hf5 := HB1.out.frozen (k * 7 + 5)
      have hf6 := HB1.out.frozen (k * 7 + 6)
      go_wp2
      go_roundw
      case rel =>
        refine ⟨k + 1, rest, by omega, by go_num, ?_, HR.out, ?_⟩
        · have := ((((((HB1.out.set_ (k * 7) (I x.asn)).set_ (k * 7 + 1) (I x.keyDigest)).set_ (k * 7 + 2) (I x.rootVersion)).set_ (k * 7 + 3) (I x.notBefore)).set_ (k * 7 + 4) (I x.notAfter)).set_ (k * 7 + 5) (I x.sig.asn)).set_ (k * 7 + 6) (I x.sig.value)
          rw [set_at7 _ _ _ _ _ _ _ _ _ _ _ _ _ _ _ _ _ HP.out] at this
          rw [HX.out, List.flatMap_append]
          simpa [CertificateC] using this
        · exact (((((((HE.out.trans HE1.out).setCell (by simp) _).setCell (by simp) _).setCell (by simp) _).setCell (by simp) _).setCell (by simp) _).setCell (by simp) _).setCell (by simp) _
      case measure => simp [intOf]; omega
    · have HR := Lib.hid hr; clear hr he
      go_wp2
      go_ret
      have e : k = ds.length := by omega
      have hr := HR.out
      subst e
      obtain rfl : rest = [] := List.eq_nil_of_length_eq_zero (by simpa using hr)
      have hb := HB.out
      rw [List.take_length, List.append_nil] at hb
      exact ⟨_, rfl, Own.of_blk hb (flat_len CertificateC 7 (fun _ => rfl) ds) (by unfold maxLen; omega) (Nat.le_refl _) hb.lt, HE.out⟩
set_option maxRecDepth 100000 in
set_option maxHeartbeats 1000000 in
theorem eqCertificate (v1 v2 : Value) (x y : DCertificate) (w : World) (h1 : CertificateV w.heap.size w v1 x) (h2 : CertificateV w.heap.size w v2 y) :
    Calls Try.prog 59 #[v1, v2] w fun e w' => e = .returned (.bool (decide (x = y))) ∧ Ext w w' := by
  obtain rfl := h1
  obtain rfl := h2
  go_enter Try.func59, Try.ntmps59
  go_wp2_with fail
  all_goals (try (go_ret; exact ⟨ret_bool (by simp_all [DCertificate.eq_iff]), (by repeat (first | (with_reducible exact Ext.refl _) | (with_reducible assumption) | (with_reducible refine Ext.alloc ?_ _) | (with_reducible refine Ext.drew ?_) | (with_reducible refine Ext.drewN ?_ _) | (with_reducible refine Ext.setCell (p := _) ?_ ?ge _; case ge => (dsimp only; omega)) | (with_reducible refine Ext.trans ?_ (by with_reducible assumption))))⟩))
  refine (eqSignature _ _ x.sig y.sig _ rfl rfl).mono ?_
  rintro e w7 ⟨rfl, he7⟩
  obtain ⟨hc7, hf7, hz7⟩ := he7.facts
  go_wp2_with fail
  all_goals
    go_ret
    exact ⟨ret_bool (by simp_all [DCertificate.eq_iff]), (by repeat (first | (with_reducible exact Ext.refl _) | (with_reducible assumption) | (with_reducible refine Ext.alloc ?_ _) | (with_reducible refine Ext.drew ?_) | (with_reducible refine Ext.drewN ?_ _) | (with_reducible refine Ext.setCell (p := _) ?_ ?ge _; case ge => (dsimp only; omega)) | (with_reducible refine Ext.trans ?_ (by with_reducible assumption))))⟩
set_option maxRecDepth 100000 in
set_option maxHeartbeats 1000000 in
theorem eqCertificateS (v1 v2 : Value) (xs ys : List DCertificate) (w : World) (h1 : CertificateS w.heap.size w v1 xs) (h2 : CertificateS w.heap.size w v2 ys) :
    Calls Try.prog 48 #[v1, v2] w fun e w' => e = .returned (.bool (decide (xs = ys))) ∧ Ext w w' := by
  obtain ⟨A1, n1, c1, rfl, hl1, hn1, hm1, -⟩ := id h1
  obtain ⟨A2, n2, c2, rfl, hl2, hn2, hm2, -⟩ := id h2
  unfold maxLen at hm1 hm2
  have H1 := Lib.hid h1; have H2 := Lib.hid h2; have E1 := Lib.hid hl1; have E2 := Lib.hid hl2; clear h1 h2 hl1 hl2
  by_cases hn : n1 = n2
  · subst hn
    go_enter Try.func48, Try.ntmps48
    go_wp2
    go_loopw [5] (fun i wr => ∃ k : Nat, k ≤ n1 ∧ i = I k ∧ xs.take k = ys.take k ∧ Ext w wr) (fun i _ => n1 - (intOf i).toNat)
    case atStart => exact ⟨0, by omega, rfl, by simp, Ext.refl _⟩
    case round =>
      obtain ⟨k, hk, rfl, hq, he⟩ := hrel
      have HQ := Lib.hid hq; clear hq
      have HE := Lib.hid he; clear he
      by_cases hlt : k < n1
      · obtain ⟨b1, o1, rfl, hb1, hk1, hc1⟩ := (H1.out.ext HE.out).at_ hlt
        obtain ⟨b2, o2, rfl, hb2, hk2, hc2⟩ := (H2.out.ext HE.out).at_ hlt
        have i0 : (0 : Int) ≤ (k : Int) := by omega
        have i1 : (k : Int) < (n1 : Int) := by omega
        have X1 := Lib.hid (take_snoc xs k hk1)
        have X2 := Lib.hid (take_snoc ys k hk2)
        have hne : ¬ xs[k] = ys[k] → xs ≠ ys := fun hne h => hne (by subst h; rfl)
        have HN := Lib.hid hne; clear hne
        generalize xs[k] = x at *
        generalize ys[k] = y at *
        obtain ⟨h10, h11, h12, h13, h14, h15, h16⟩ := hc1
        obtain ⟨h20, h21, h22, h23, h24, h25, h26⟩ := hc2
        go_wp2_with fail
        go_region_held3 (fun W => wr.heap.size ≤ W.heap.size ∧ ∀ b o, b < wr.heap.size → W.cell? ⟨b, o, none⟩ = wr.cell? ⟨b, o, none⟩)
          (first | exact ⟨Nat.le_refl _, fun _ _ _ => rfl⟩ | exact keepC (by assumption) he1)
          (first | (go_at_call 59; refine (eqCertificate _ _ x y _ (by exact rfl) (by exact rfl)).mono ?_; rintro e w1 ⟨rfl, he1⟩))
        have HE1 := Lib.hid (HE.out.drew.trans he1)
        have hdd : decide (x = y) = true ↔ x = y := decide_eq_true_iff
        have HD := Lib.hid hdd; clear hdd
        generalize decide (x = y) = bb at *
        cases bb
        · have hxy : ¬ x = y := fun h => by have := HD.out.2 h; cases this
          have HXY := Lib.hid hxy; clear hxy
          go_wp2
          go_ret
          exact ⟨ret_bool (by simp [HN.out HXY.out]), HE1.out⟩
        · have HXY := Lib.hid (HD.out.1 rfl)
          go_wp2
          go_roundw
          case rel => exact ⟨k + 1, by omega, by go_num, by rw [X1.out, X2.out, HQ.out, HXY.out], HE1.out⟩
          case measure => simp [intOf]; omega
      · go_wp2
        go_ret
        have h := HQ.out
        rw [List.take_of_length_le (by rw [E1.out]; omega), List.take_of_length_le (by rw [E2.out]; omega)] at h
        exact ⟨ret_bool (by simp [h]), HE.out⟩
  · have hb : ((n1 : Int) == (n2 : Int)) = false := by simp; omega
    have hb' : ((n1 : Int) != (n2 : Int)) = true := by simp; omega
    have HN := Lib.hid hn; clear hn
    go_enter Try.func48, Try.ntmps48
    go_wp2
    go_ret
    have : xs ≠ ys := fun h => HN.out (by rw [← E1.out, ← E2.out, h])
    exact ⟨ret_bool (by simp [this]), Ext.refl _⟩
set_option maxRecDepth 100000 in
set_option maxHeartbeats 1000000 in
theorem szCertificateS (v : Value) (ds : List DCertificate) (left : Int) (w : World) (h : CertificateS w.heap.size w v ds) (h0 : 0 ≤ left) (hl : left ≤ 1048576) :
    Calls Try.prog 44 #[v, I left] w fun e w' => e = .returned (I (szR ds.length left)) ∧ Ext w w' := by
  obtain ⟨A, n, c, rfl, hl1, hn1, hm1, -⟩ := id h
  unfold maxLen at hm1
  subst hl1
  clear h
  by_cases hlt : left < (ds.length : Int)
  · have HF := Lib.hid (szR_neg hlt)
    go_enter Try.func44, Try.ntmps44
    go_wp2
    go_ret
    exact ⟨ret_int HF.out.symm, Ext.refl _⟩
  · have HF := Lib.hid (szR_pos (t := ds.length) (left := left) (by omega))
    go_enter Try.func44, Try.ntmps44
    go_wp2
    go_ret
    exact ⟨ret_int HF.out.symm, Ext.refl _⟩
end Go.Proofs.Ytjfoolffiflchaa
