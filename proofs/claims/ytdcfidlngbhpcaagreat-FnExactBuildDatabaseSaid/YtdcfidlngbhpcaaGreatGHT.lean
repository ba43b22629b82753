/- The laws' helpers on AS: to.. (copy), eq.. (compare), sz.. (count), mark.. and held... Printed by gen.py. -/
import Derived.Test.YtdcfidlngbhpcaaGreatGCore
import Derived.Test.YtdcfidlngbhpcaaGreatGGrow
namespace Go.Proofs.YtdcfidlngbhpcaaGreat
open Go.RowKit
set_option linter.unusedVariables false
theorem info_AS : (Tryz.prog.info? 168).map (fun i => (i.zero, i.size, i.bytes)) = some (some (.agg #[.int .i64 0, .bool false, .int .i64 0]), 3, 24) := by kernel_rfl

theorem row_AS {B : Nat} {w : World} {A : Option Addr} {n c : Nat} {xs : List DAS} (h : ASS B w (.slice A n c) xs) : Row w 3 A n (xs.flatMap ASC) := row_flat (C := ASC) (sz := 3) (fun _ => rfl) (by omega) ASAt.cells_ h

/-- A []AS of the call's own. -/
abbrev ASSO (lo hi : Nat) (w : World) (v : Value) (xs : List DAS) : Prop := Own 168 3 lo hi w v xs.length (xs.flatMap ASC)
theorem ASSO_rd {lo hi : Nat} {w : World} {v : Value} {xs : List DAS} (h : ASSO lo hi w v xs) : ASS w.heap.size w v xs := (Own.lt_size h).sl (At := ASAt) ASC.len (by omega) ASC.at_
set_option maxRecDepth 100000 in
set_option maxHeartbeats 1000000 in
theorem toAS (x : DAS) (w : World) : Calls Tryz.prog 135 #[.agg #[I x.isd, .bool x.core, I x.key]] w fun e w' => e = .returned (.agg #[I x.isd, .bool x.core, I x.key]) ∧ Ext w w' := by
  go_enter Tryz.func135, Tryz.ntmps135
  go_wp2
  exact bodyPost_ret (v := .agg #[I x.isd, .bool x.core, I x.key]) (by simp [results, Tryz.results135, go_sem]) rfl ⟨rfl, xe⟩
set_option maxRecDepth 100000 in
set_option maxHeartbeats 1000000 in
theorem toASS (v : Value) (ds : List DAS) (w : World) (h : ASS w.heap.size w v ds) (hn : ds.length ≤ 16777216) :
    Calls Tryz.prog 70 #[v] w fun e w' => ∃ v', e = .returned v' ∧ ASSO w.heap.size w'.heap.size w' v' ds ∧ Ext w w' := by
  obtain ⟨A, n, c, rfl, hl, -⟩ := id h
  subst hl
  have hmk := run_mk (P := Tryz.prog) 39 168 (.agg #[.int .i64 0, .bool false, .int .i64 0]) 3 24 Tryz.underlying39 info_AS ds.length (by omega) (by omega)
  have hml := mkRow_len (.agg #[.int .i64 0, .bool false, .int .i64 0]) (ds.length * 3)
  generalize mkRow (.agg #[.int .i64 0, .bool false, .int .i64 0]) (ds.length * 3) = mr at *
  have H := Lib.hid h; clear h
  have HM := Lib.hid hml; clear hml
  go_enter Tryz.func70, Tryz.ntmps70
  go_wp2
  go_loopw [4] (fun i wr => ∃ (k : Nat) (rest : List Value), k ≤ ds.length ∧ i = I k ∧ Blk wr w.heap.size 168 ((ds.take k).flatMap ASC ++ rest) ∧ rest.length = (ds.length - k) * 3 ∧ Ext w wr) (fun i _ => ds.length - (intOf i).toNat)
  case atStart => exact ⟨0, mr.toList, by omega, rfl, by simpa using Blk.new w 168 mr.toList, by simpa using HM.out, (Ext.refl _).alloc _⟩
  case round =>
    obtain ⟨k, rest, hk, rfl, hb, hr, he⟩ := hrel
    have HE := Lib.hid he
    have HB := Lib.hid hb; clear hb
    by_cases hlt : k < ds.length
    · obtain ⟨b, off, rfl, hbb, _, hc⟩ := (H.out.ext he).at_ hlt
      obtain ⟨r0, r1, r2, rest, rfl⟩ : ∃ r0 r1 r2 rest', rest = r0 :: r1 :: r2 :: rest' := by
        match rest, hr with
        | r0 :: r1 :: r2 :: rest, _ => exact ⟨r0, r1, r2, rest, rfl⟩
        | [], h => simp at h; omega
        | [_], h => simp at h; omega
        | [_, _], h => simp at h; omega
      have hlr : rest.length = (ds.length - (k + 1)) * 3 := by simp only [List.length_cons] at hr; omega
      have HR := Lib.hid hlr; clear hr he hlr
      have HX := Lib.hid (take_snoc ds k hlt)
      generalize ds[k] = x at *
      obtain ⟨hc0, hc1, hc2⟩ := hc
      have hp := flat_len ASC 3 (fun _ => rfl) (ds.take k)
      rw [List.length_take, Nat.min_eq_left hk] at hp
      have HP := Lib.hid hp; clear hp
      have hwg : w.heap.size < wr.heap.size := HB.out.lt
      go_wp2_with fail
      refine (toAS x _).mono ?_
      rintro e w1 ⟨rfl, he1⟩
      have HB1 := Lib.hid (HB.out.below he1.below hwg)
      have hz1 := he1.size
      have HE1 := Lib.hid he1
      clear he1
      obtain ⟨hu0, hu1, hu2⟩ := cells_at3 HB1.out HP.out
      have hf0 := HB1.out.frozen (k * 3)
      have hf1 := HB1.out.frozen (k * 3 + 1)
      have hf2 := HB1.out.frozen (k * 3 + 2)
      go_wp2
      go_roundw
      case rel =>
        refine ⟨k + 1, rest, by omega, by go_num, ?_, HR.out, ?_⟩
        · have := ((HB1.out.set_ (k * 3) (I x.isd)).set_ (k * 3 + 1) (.bool x.core)).set_ (k * 3 + 2) (I x.key)
          rw [set_at3 _ _ _ _ _ _ _ _ _ HP.out] at this
          rw [HX.out, List.flatMap_append]
          simpa [ASC] using this
        · exact (((HE.out.trans HE1.out).setCell (by simp) _).setCell (by simp) _).setCell (by simp) _
      case measure => simp [intOf]; omega
    · have HR := Lib.hid hr; clear hr he
      go_wp2
      go_ret
      have e : k = ds.length := by omega
      have hr := HR.out
      subst e
      obtain rfl : rest = [] := List.eq_nil_of_length_eq_zero (by simpa using hr)
      have hb := HB.out
      rw [List.take_length, List.append_nil] at hb
      exact ⟨_, rfl, Own.of_blk hb (flat_len ASC 3 (fun _ => rfl) ds) (by unfold maxLen; omega) (Nat.le_refl _) hb.lt, HE.out⟩
set_option maxRecDepth 100000 in
set_option maxHeartbeats 1000000 in
theorem eqAS (v1 v2 : Value) (x y : DAS) (w : World) (h1 : ASV w.heap.size w v1 x) (h2 : ASV w.heap.size w v2 y) :
    Calls Tryz.prog 144 #[v1, v2] w fun e w' => e = .returned (.bool (decide (x = y))) ∧ Ext w w' := by
  obtain rfl := h1
  obtain rfl := h2
  go_enter Tryz.func144, Tryz.ntmps144
  go_wp2_with fail
  all_goals
    go_ret
    exact ⟨ret_bool (by simp_all [DAS.eq_iff]), xe⟩
set_option maxRecDepth 100000 in
set_option maxHeartbeats 1000000 in
theorem eqASS (v1 v2 : Value) (xs ys : List DAS) (w : World) (h1 : ASS w.heap.size w v1 xs) (h2 : ASS w.heap.size w v2 ys) :
    Calls Tryz.prog 81 #[v1, v2] w fun e w' => e = .returned (.bool (decide (xs = ys))) ∧ Ext w w' := by
  obtain ⟨A1, n1, c1, rfl, hl1, hn1, hm1, -⟩ := id h1
  obtain ⟨A2, n2, c2, rfl, hl2, hn2, hm2, -⟩ := id h2
  unfold maxLen at hm1 hm2
  have H1 := Lib.hid h1; have H2 := Lib.hid h2; have E1 := Lib.hid hl1; have E2 := Lib.hid hl2; clear h1 h2 hl1 hl2
  by_cases hn : n1 = n2
  · subst hn
    go_enter Tryz.func81, Tryz.ntmps81
    go_wp2
    go_loopw [5] (fun i wr => ∃ k : Nat, k ≤ n1 ∧ i = I k ∧ xs.take k = ys.take k ∧ Ext w wr) (fun i _ => n1 - (intOf i).toNat)
    case atStart => exact ⟨0, by omega, rfl, by simp, Ext.refl _⟩
    case round =>
      obtain ⟨k, hk, rfl, hq, he⟩ := hrel
      have HQ := Lib.hid hq; clear hq
      have HE := Lib.hid he; clear he
      by_cases hlt : k < n1
      · obtain ⟨b1, o1, rfl, hb1, hk1, hc1⟩ := (H1.out.ext HE.out).at_ hlt
        obtain ⟨b2, o2, rfl, hb2, hk2, hc2⟩ := (H2.out.ext HE.out).at_ hlt
        have i0 : (0 : Int) ≤ (k : Int) := by omega
        have i1 : (k : Int) < (n1 : Int) := by omega
        have X1 := Lib.hid (take_snoc xs k hk1)
        have X2 := Lib.hid (take_snoc ys k hk2)
        have hne : ¬ xs[k] = ys[k] → xs ≠ ys := fun hne h => hne (by subst h; rfl)
        have HN := Lib.hid hne; clear hne
        generalize xs[k] = x at *
        generalize ys[k] = y at *
        obtain ⟨h10, h11, h12⟩ := hc1
        obtain ⟨h20, h21, h22⟩ := hc2
        go_wp2_with fail
        go_region_held3 (fun W => wr.heap.size ≤ W.heap.size ∧ ∀ b o, b < wr.heap.size → W.cell? ⟨b, o, none⟩ = wr.cell? ⟨b, o, none⟩)
          (first | exact ⟨Nat.le_refl _, fun _ _ _ => rfl⟩ | exact keepC (by assumption) he1)
          (first | (go_at_call 144; refine (eqAS _ _ x y _ (by exact rfl) (by exact rfl)).mono ?_; rintro e w1 ⟨rfl, he1⟩))
        have HE1 := Lib.hid (HE.out.drew.trans he1)
        have hdd : decide (x = y) = true ↔ x = y := decide_eq_true_iff
        have HD := Lib.hid hdd; clear hdd
        generalize decide (x = y) = bb at *
        cases bb
        · have hxy : ¬ x = y := fun h => by have := HD.out.2 h; cases this
          have HXY := Lib.hid hxy; clear hxy
          go_wp2
          go_ret
          exact ⟨ret_bool (by simp [HN.out HXY.out]), HE1.out⟩
        · have HXY := Lib.hid (HD.out.1 rfl)
          go_wp2
          go_roundw
          case rel => exact ⟨k + 1, by omega, by go_num, by rw [X1.out, X2.out, HQ.out, HXY.out], HE1.out⟩
          case measure => simp [intOf]; omega
      · go_wp2
        go_ret
        have h := HQ.out
        rw [List.take_of_length_le (by rw [E1.out]; omega), List.take_of_length_le (by rw [E2.out]; omega)] at h
        exact ⟨ret_bool (by simp [h]), HE.out⟩
  · have hb : ((n1 : Int) == (n2 : Int)) = false := by simp; omega
    have hb' : ((n1 : Int) != (n2 : Int)) = true := by simp; omega
    have HN := Lib.hid hn; clear hn
    go_enter Tryz.func81, Tryz.ntmps81
    go_wp2
    go_ret
    have : xs ≠ ys := fun h => HN.out (by rw [← E1.out, ← E2.out, h])
    exact ⟨ret_bool (by simp [this]), Ext.refl _⟩
set_option maxRecDepth 100000 in
set_option maxHeartbeats 1000000 in
theorem szASS (v : Value) (ds : List DAS) (left : Int) (w : World) (h : ASS w.heap.size w v ds) (h0 : 0 ≤ left) (hl : left ≤ 1048576) :
    Calls Tryz.prog 60 #[v, I left] w fun e w' => e = .returned (I (szR ds.length left)) ∧ Ext w w' := by
  obtain ⟨A, n, c, rfl, hl1, hn1, hm1, -⟩ := id h
  unfold maxLen at hm1
  subst hl1
  clear h
  by_cases hlt : left < (ds.length : Int)
  · have HF := Lib.hid (szR_neg hlt)
    go_enter Tryz.func60, Tryz.ntmps60
    go_wp2
    go_ret
    exact ⟨ret_int HF.out.symm, Ext.refl _⟩
  · have HF := Lib.hid (szR_pos (t := ds.length) (left := left) (by omega))
    go_enter Tryz.func60, Tryz.ntmps60
    go_wp2
    go_ret
    exact ⟨ret_int HF.out.symm, Ext.refl _⟩
set_option maxRecDepth 100000 in
set_option maxHeartbeats 1000000 in
theorem markASS (v : Value) (xs : List DAS) (q : Nat) (lo hi : Nat) (w : World) (h : ASSO lo hi w v xs) (hq : q + 3 * xs.length ≤ 1000000000000000) :
    Calls Tryz.prog 84 #[v, I q] w fun e w' => e = .returned (I ((q + 3 * xs.length : Nat) : Int)) ∧ Any1 ∧ Out lo hi w w' := by
  rcases h.cases with ⟨rfl, h0, hx⟩ | ⟨g, cap, rest, rfl, h1, h2, hb, hlc, hn, hm, hs⟩
  · rw [h0]
    clear h hx h0
    go_enter Tryz.func84, Tryz.ntmps84
    go_wp2
    go_loop [1, 5] (fun k i => k = I q ∧ i = I 0) (fun _ _ => 0)
    case atStart => exact ⟨rfl, rfl⟩
    case round =>
      obtain ⟨rfl, rfl⟩ := hrel
      go_wp2
      go_ret
      exact ⟨rfl, any1, Out.refl _ _ _⟩
  · have HB := Lib.hid hb
    clear h hb hlc hs
    unfold maxLen at hm
    go_enter Tryz.func84, Tryz.ntmps84
    go_wp2
    go_loopw [1, 5] (fun k i wr => ∃ (j p : Nat) (ys : List DAS), j ≤ xs.length ∧ p = q + 3 * j ∧ k = I p ∧ i = I j ∧ ys.length = j ∧ Blk wr g 168 (ys.flatMap ASC ++ ((xs.drop j).flatMap ASC ++ rest)) ∧ Out lo hi w wr) (fun _ i _ => xs.length - (intOf i).toNat)
    case atStart => exact ⟨0, q, [], by omega, by omega, rfl, rfl, rfl, by simpa using HB.out, Out.refl _ _ _⟩
    case round =>
      obtain ⟨j, p, ys, hj, hp, rfl, rfl, hyl, hbl, ho⟩ := hrel
      have hpb : p ≤ 1000000000000000 := by omega
      have HB1 := Lib.hid hbl; clear hbl
      have HO := Lib.hid ho; clear ho
      by_cases hlt : j < xs.length
      · have hpb : p + 3 ≤ 1000000000000000 := by omega
        have HPQ := Lib.hid hp; clear hp
        have hd := HB1.out
        rw [List.drop_eq_getElem_cons hlt, List.flatMap_cons, List.append_assoc] at hd
        have hpl : (ys.flatMap ASC).length = j * 3 := by rw [flat_len ASC 3 (fun _ => rfl), hyl]
        have HYL := Lib.hid hyl; clear hyl
        generalize xs[j] = x at *
        have hd : Blk wr g 168 (ys.flatMap ASC ++ I x.isd :: .bool x.core :: I x.key :: ((xs.drop (j + 1)).flatMap ASC ++ rest)) := hd
        obtain ⟨hu0, hu1, hu2⟩ := cells_at3 hd hpl
        have hf0 := hd.frozen (j * 3)
        have hf1 := hd.frozen (j * 3 + 1)
        have hf2 := hd.frozen (j * 3 + 2)
        have hset := fun (b1 : Bool) => ((hd.set_ (j * 3) (I ((p : Int)))).set_ (j * 3 + 1) (.bool b1)).set_ (j * 3 + 2) (I ((p : Int) + 1 + 1))
        have HT : Hid (∀ (b1 : Bool), Blk (((wr.setCell ⟨g, j * 3, none⟩ (I ((p : Int)))).setCell ⟨g, j * 3 + 1, none⟩ (.bool b1)).setCell ⟨g, j * 3 + 2, none⟩ (I ((p : Int) + 1 + 1))) g 168 ((ys ++ ([⟨(p : Int), b1, (p : Int) + 1 + 1⟩] : List DAS)).flatMap ASC ++ ((xs.drop (j + 1)).flatMap ASC ++ rest))) := fun (b1 : Bool) => by
          have h := hset b1
          rw [set_at3 _ _ _ _ _ _ _ _ _ hpl] at h
          simpa [ASC] using h
        clear hd hset hpl
        go_wp2
        go_roundw
        case rel => exact ⟨j + 1, p + 3, ys ++ ([⟨(p : Int), _, (p : Int) + 1 + 1⟩] : List DAS), by omega, by rw [HPQ.out]; omega, by go_num, by go_num, by simp [HYL.out], HT.out _, ((HO.out.setCell h1 h2 _).setCell h1 h2 _).setCell h1 h2 _⟩
        case measure => simp [intOf]; omega
      · have HPQ := Lib.hid hp; clear hp
        go_wp2
        go_ret
        obtain rfl : j = xs.length := by omega
        have hp := HPQ.out
        subst hp
        exact ⟨rfl, any1, HO.out⟩
end Go.Proofs.YtdcfidlngbhpcaaGreat
namespace Go.Proofs.YtdcfidlngbhpcaaGreat
open Go.RowKit
set_option linter.unusedVariables false
theorem info_Link : (Tryz.prog.info? 174).map (fun i => (i.zero, i.size, i.bytes)) = some (some (.agg #[.int .i64 0, .int .i64 0, .int .i64 0, .int .i64 0, .int .i64 0]), 5, 40) := by kernel_rfl

theorem row_Link {B : Nat} {w : World} {A : Option Addr} {n c : Nat} {xs : List DLink} (h : LinkS B w (.slice A n c) xs) : Row w 5 A n (xs.flatMap LinkC) := row_flat (C := LinkC) (sz := 5) (fun _ => rfl) (by omega) LinkAt.cells_ h

/-- A []Link of the call's own. -/
abbrev LinkSO (lo hi : Nat) (w : World) (v : Value) (xs : List DLink) : Prop := Own 174 5 lo hi w v xs.length (xs.flatMap LinkC)
theorem LinkSO_rd {lo hi : Nat} {w : World} {v : Value} {xs : List DLink} (h : LinkSO lo hi w v xs) : LinkS w.heap.size w v xs := (Own.lt_size h).sl (At := LinkAt) LinkC.len (by omega) LinkC.at_
set_option maxRecDepth 100000 in
set_option maxHeartbeats 1000000 in
theorem toLink (x : DLink) (w : World) : Calls Tryz.prog 136 #[.agg #[I x.a, I x.ai, I x.b, I x.bi, I x.kind]] w fun e w' => e = .returned (.agg #[I x.a, I x.ai, I x.b, I x.bi, I x.kind]) ∧ Ext w w' := by
  go_enter Tryz.func136, Tryz.ntmps136
  go_wp2
  exact bodyPost_ret (v := .agg #[I x.a, I x.ai, I x.b, I x.bi, I x.kind]) (by simp [results, Tryz.results136, go_sem]) rfl ⟨rfl, xe⟩
set_option maxRecDepth 100000 in
set_option maxHeartbeats 1000000 in
theorem toLinkS (v : Value) (ds : List DLink) (w : World) (h : LinkS w.heap.size w v ds) (hn : ds.length ≤ 16777216) :
    Calls Tryz.prog 71 #[v] w fun e w' => ∃ v', e = .returned v' ∧ LinkSO w.heap.size w'.heap.size w' v' ds ∧ Ext w w' := by
  obtain ⟨A, n, c, rfl, hl, -⟩ := id h
  subst hl
  have hmk := run_mk (P := Tryz.prog) 40 174 (.agg #[.int .i64 0, .int .i64 0, .int .i64 0, .int .i64 0, .int .i64 0]) 5 40 Tryz.underlying40 info_Link ds.length (by omega) (by omega)
  have hml := mkRow_len (.agg #[.int .i64 0, .int .i64 0, .int .i64 0, .int .i64 0, .int .i64 0]) (ds.length * 5)
  generalize mkRow (.agg #[.int .i64 0, .int .i64 0, .int .i64 0, .int .i64 0, .int .i64 0]) (ds.length * 5) = mr at *
  have H := Lib.hid h; clear h
  have HM := Lib.hid hml; clear hml
  go_enter Tryz.func71, Tryz.ntmps71
  go_wp2
  go_loopw [4] (fun i wr => ∃ (k : Nat) (rest : List Value), k ≤ ds.length ∧ i = I k ∧ Blk wr w.heap.size 174 ((ds.take k).flatMap LinkC ++ rest) ∧ rest.length = (ds.length - k) * 5 ∧ Ext w wr) (fun i _ => ds.length - (intOf i).toNat)
  case atStart => exact ⟨0, mr.toList, by omega, rfl, by simpa using Blk.new w 174 mr.toList, by simpa using HM.out, (Ext.refl _).alloc _⟩
  case round =>
    obtain ⟨k, rest, hk, rfl, hb, hr, he⟩ := hrel
    have HE := Lib.hid he
    have HB := Lib.hid hb; clear hb
    by_cases hlt : k < ds.length
    · obtain ⟨b, off, rfl, hbb, _, hc⟩ := (H.out.ext he).at_ hlt
      obtain ⟨r0, r1, r2, r3, r4, rest, rfl⟩ : ∃ r0 r1 r2 r3 r4 rest', rest = r0 :: r1 :: r2 :: r3 :: r4 :: rest' := by
        match rest, hr with
        | r0 :: r1 :: r2 :: r3 :: r4 :: rest, _ => exact ⟨r0, r1, r2, r3, r4, rest, rfl⟩
        | [], h => simp at h; omega
        | [_], h => simp at h; omega
        | [_, _], h => simp at h; omega
        | [_, _, _], h => simp at h; omega
        | [_, _, _, _], h => simp at h; omega
      have hlr : rest.length = (ds.length - (k + 1)) * 5 := by simp only [List.length_cons] at hr; omega
      have HR := Lib.hid hlr; clear hr he hlr
      have HX := Lib.hid (take_snoc ds k hlt)
      generalize ds[k] = x at *
      obtain ⟨hc0, hc1, hc2, hc3, hc4⟩ := hc
      have hp := flat_len LinkC 5 (fun _ => rfl) (ds.take k)
      rw [List.length_take, Nat.min_eq_left hk] at hp
      have HP := Lib.hid hp; clear hp
      have hwg : w.heap.size < wr.heap.size := HB.out.lt
      go_wp2_with fail
      refine (toLink x _).mono ?_
      rintro e w1 ⟨rfl, he1⟩
      have HB1 := Lib.hid (HB.out.below he1.below hwg)
      have hz1 := he1.size
      have HE1 := Lib.hid he1
      clear he1
      obtain ⟨hu0, hu1, hu2, hu3, hu4⟩ := cells_at5 HB1.out HP.out
      have hf0 := HB1.out.frozen (k * 5)
      have hf1 := HB1.out.frozen (k * 5 + 1)
      have hf2 := HB1.out.frozen (k * 5 + 2)
      have hf3 := HB1.out.frozen (k * 5 + 3)
      have hf4 := HB1.out.frozen (k * 5 + 4)
      go_wp2
      go_roundw
      case rel =>
        refine ⟨k + 1, rest, by omega, by go_num, ?_, HR.out, ?_⟩
        · have := ((((HB1.out.set_ (k * 5) (I x.a)).set_ (k * 5 + 1) (I x.ai)).set_ (k * 5 + 2) (I x.b)).set_ (k * 5 + 3) (I x.bi)).set_ (k * 5 + 4) (I x.kind)
          rw [set_at5 _ _ _ _ _ _ _ _ _ _ _ _ _ HP.out] at this
          rw [HX.out, List.flatMap_append]
          simpa [LinkC] using this
        · exact (((((HE.out.trans HE1.out).setCell (by simp) _).setCell (by simp) _).setCell (by simp) _).setCell (by simp) _).setCell (by simp) _
      case measure => simp [intOf]; omega
    · have HR := Lib.hid hr; clear hr he
      go_wp2
      go_ret
      have e : k = ds.length := by omega
      have hr := HR.out
      subst e
      obtain rfl : rest = [] := List.eq_nil_of_length_eq_zero (by simpa using hr)
      have hb := HB.out
      rw [List.take_length, List.append_nil] at hb
      exact ⟨_, rfl, Own.of_blk hb (flat_len LinkC 5 (fun _ => rfl) ds) (by unfold maxLen; omega) (Nat.le_refl _) hb.lt, HE.out⟩
set_option maxRecDepth 100000 in
set_option maxHeartbeats 1000000 in
theorem eqLink (v1 v2 : Value) (x y : DLink) (w : World) (h1 : LinkV w.heap.size w v1 x) (h2 : LinkV w.heap.size w v2 y) :
    Calls Tryz.prog 145 #[v1, v2] w fun e w' => e = .returned (.bool (decide (x = y))) ∧ Ext w w' := by
  obtain rfl := h1
  obtain rfl := h2
  go_enter Tryz.func145, Tryz.ntmps145
  go_wp2_with fail
  all_goals
    go_ret
    exact ⟨ret_bool (by simp_all [DLink.eq_iff]), xe⟩
set_option maxRecDepth 100000 in
set_option maxHeartbeats 1000000 in
theorem eqLinkS (v1 v2 : Value) (xs ys : List DLink) (w : World) (h1 : LinkS w.heap.size w v1 xs) (h2 : LinkS w.heap.size w v2 ys) :
    Calls Tryz.prog 82 #[v1, v2] w fun e w' => e = .returned (.bool (decide (xs = ys))) ∧ Ext w w' := by
  obtain ⟨A1, n1, c1, rfl, hl1, hn1, hm1, -⟩ := id h1
  obtain ⟨A2, n2, c2, rfl, hl2, hn2, hm2, -⟩ := id h2
  unfold maxLen at hm1 hm2
  have H1 := Lib.hid h1; have H2 := Lib.hid h2; have E1 := Lib.hid hl1; have E2 := Lib.hid hl2; clear h1 h2 hl1 hl2
  by_cases hn : n1 = n2
  · subst hn
    go_enter Tryz.func82, Tryz.ntmps82
    go_wp2
    go_loopw [5] (fun i wr => ∃ k : Nat, k ≤ n1 ∧ i = I k ∧ xs.take k = ys.take k ∧ Ext w wr) (fun i _ => n1 - (intOf i).toNat)
    case atStart => exact ⟨0, by omega, rfl, by simp, Ext.refl _⟩
    case round =>
      obtain ⟨k, hk, rfl, hq, he⟩ := hrel
      have HQ := Lib.hid hq; clear hq
      have HE := Lib.hid he; clear he
      by_cases hlt : k < n1
      · obtain ⟨b1, o1, rfl, hb1, hk1, hc1⟩ := (H1.out.ext HE.out).at_ hlt
        obtain ⟨b2, o2, rfl, hb2, hk2, hc2⟩ := (H2.out.ext HE.out).at_ hlt
        have i0 : (0 : Int) ≤ (k : Int) := by omega
        have i1 : (k : Int) < (n1 : Int) := by omega
        have X1 := Lib.hid (take_snoc xs k hk1)
        have X2 := Lib.hid (take_snoc ys k hk2)
        have hne : ¬ xs[k] = ys[k] → xs ≠ ys := fun hne h => hne (by subst h; rfl)
        have HN := Lib.hid hne; clear hne
        generalize xs[k] = x at *
        generalize ys[k] = y at *
        obtain ⟨h10, h11, h12, h13, h14⟩ := hc1
        obtain ⟨h20, h21, h22, h23, h24⟩ := hc2
        go_wp2_with fail
        go_region_held3 (fun W => wr.heap.size ≤ W.heap.size ∧ ∀ b o, b < wr.heap.size → W.cell? ⟨b, o, none⟩ = wr.cell? ⟨b, o, none⟩)
          (first | exact ⟨Nat.le_refl _, fun _ _ _ => rfl⟩ | exact keepC (by assumption) he1)
          (first | (go_at_call 145; refine (eqLink _ _ x y _ (by exact rfl) (by exact rfl)).mono ?_; rintro e w1 ⟨rfl, he1⟩))
        have HE1 := Lib.hid (HE.out.drew.trans he1)
        have hdd : decide (x = y) = true ↔ x = y := decide_eq_true_iff
        have HD := Lib.hid hdd; clear hdd
        generalize decide (x = y) = bb at *
        cases bb
        · have hxy : ¬ x = y := fun h => by have := HD.out.2 h; cases this
          have HXY := Lib.hid hxy; clear hxy
          go_wp2
          go_ret
          exact ⟨ret_bool (by simp [HN.out HXY.out]), HE1.out⟩
        · have HXY := Lib.hid (HD.out.1 rfl)
          go_wp2
          go_roundw
          case rel => exact ⟨k + 1, by omega, by go_num, by rw [X1.out, X2.out, HQ.out, HXY.out], HE1.out⟩
          case measure => simp [intOf]; omega
      · go_wp2
        go_ret
        have h := HQ.out
        rw [List.take_of_length_le (by rw [E1.out]; omega), List.take_of_length_le (by rw [E2.out]; omega)] at h
        exact ⟨ret_bool (by simp [h]), HE.out⟩
  · have hb : ((n1 : Int) == (n2 : Int)) = false := by simp; omega
    have hb' : ((n1 : Int) != (n2 : Int)) = true := by simp; omega
    have HN := Lib.hid hn; clear hn
    go_enter Tryz.func82, Tryz.ntmps82
    go_wp2
    go_ret
    have : xs ≠ ys := fun h => HN.out (by rw [← E1.out, ← E2.out, h])
    exact ⟨ret_bool (by simp [this]), Ext.refl _⟩
set_option maxRecDepth 100000 in
set_option maxHeartbeats 1000000 in
theorem szLinkS (v : Value) (ds : List DLink) (left : Int) (w : World) (h : LinkS w.heap.size w v ds) (h0 : 0 ≤ left) (hl : left ≤ 1048576) :
    Calls Tryz.prog 61 #[v, I left] w fun e w' => e = .returned (I (szR ds.length left)) ∧ Ext w w' := by
  obtain ⟨A, n, c, rfl, hl1, hn1, hm1, -⟩ := id h
  unfold maxLen at hm1
  subst hl1
  clear h
  by_cases hlt : left < (ds.length : Int)
  · have HF := Lib.hid (szR_neg hlt)
    go_enter Tryz.func61, Tryz.ntmps61
    go_wp2
    go_ret
    exact ⟨ret_int HF.out.symm, Ext.refl _⟩
  · have HF := Lib.hid (szR_pos (t := ds.length) (left := left) (by omega))
    go_enter Tryz.func61, Tryz.ntmps61
    go_wp2
    go_ret
    exact ⟨ret_int HF.out.symm, Ext.refl _⟩
/-- What marking from q on writes. -/
def LinkNum (q n : Nat) : List DLink := (List.range n).map fun j => ⟨((q + 5 * j : Nat) : Int), ((q + 5 * j : Nat) : Int) + 1, ((q + 5 * j : Nat) : Int) + 1 + 1, ((q + 5 * j : Nat) : Int) + 1 + 1 + 1, ((q + 5 * j : Nat) : Int) + 1 + 1 + 1 + 1⟩
theorem LinkNum_len {q n : Nat} : (LinkNum q n).length = n := by simp [LinkNum]
set_option maxRecDepth 100000 in
set_option maxHeartbeats 1000000 in
theorem markLinkS (v : Value) (xs : List DLink) (q : Nat) (lo hi : Nat) (w : World) (h : LinkSO lo hi w v xs) (hq : q + 5 * xs.length ≤ 1000000000000000) :
    Calls Tryz.prog 85 #[v, I q] w fun e w' => e = .returned (I ((q + 5 * xs.length : Nat) : Int)) ∧ Own 174 5 lo hi w' v xs.length ((LinkNum q xs.length).flatMap LinkC) ∧ Out lo hi w w' := by
  rcases h.cases with ⟨rfl, h0, hx⟩ | ⟨g, cap, rest, rfl, h1, h2, hb, hlc, hn, hm, hs⟩
  · rw [h0]
    clear h hx h0
    go_enter Tryz.func85, Tryz.ntmps85
    go_wp2
    go_loop [1, 5] (fun k i => k = I q ∧ i = I 0) (fun _ _ => 0)
    case atStart => exact ⟨rfl, rfl⟩
    case round =>
      obtain ⟨rfl, rfl⟩ := hrel
      go_wp2
      go_ret
      exact ⟨rfl, Own.nil _ _ _ _ _, Out.refl _ _ _⟩
  · have HB := Lib.hid hb
    have HS := Lib.hid hs
    clear h hb hlc
    unfold maxLen at hm
    go_enter Tryz.func85, Tryz.ntmps85
    go_wp2
    go_loopw [1, 5] (fun k i wr => ∃ j p : Nat, j ≤ xs.length ∧ p = q + 5 * j ∧ k = I p ∧ i = I j ∧ Blk wr g 174 ((LinkNum q j).flatMap LinkC ++ ((xs.drop j).flatMap LinkC ++ rest)) ∧ Out lo hi w wr) (fun _ i _ => xs.length - (intOf i).toNat)
    case atStart => exact ⟨0, q, by omega, by omega, rfl, rfl, by simpa [LinkNum] using HB.out, Out.refl _ _ _⟩
    case round =>
      obtain ⟨j, p, hj, hp, rfl, rfl, hbl, ho⟩ := hrel
      have hpb : p ≤ 1000000000000000 := by omega
      have HB1 := Lib.hid hbl; clear hbl
      have HO := Lib.hid ho; clear ho
      by_cases hlt : j < xs.length
      · have hpb : p + 5 ≤ 1000000000000000 := by omega
        have HPQ := Lib.hid hp; clear hp
        have hd := HB1.out
        rw [List.drop_eq_getElem_cons hlt, List.flatMap_cons, List.append_assoc] at hd
        have hpl : ((LinkNum q j).flatMap LinkC).length = j * 5 := by rw [flat_len LinkC 5 (fun _ => rfl)]; simp [LinkNum]
        generalize xs[j] = x at *
        have hd : Blk wr g 174 ((LinkNum q j).flatMap LinkC ++ I x.a :: I x.ai :: I x.b :: I x.bi :: I x.kind :: ((xs.drop (j + 1)).flatMap LinkC ++ rest)) := hd
        obtain ⟨hu0, hu1, hu2, hu3, hu4⟩ := cells_at5 hd hpl
        have hf0 := hd.frozen (j * 5)
        have hf1 := hd.frozen (j * 5 + 1)
        have hf2 := hd.frozen (j * 5 + 2)
        have hf3 := hd.frozen (j * 5 + 3)
        have hf4 := hd.frozen (j * 5 + 4)
        have hset := ((((hd.set_ (j * 5) (I ((p : Int)))).set_ (j * 5 + 1) (I ((p : Int) + 1))).set_ (j * 5 + 2) (I ((p : Int) + 1 + 1))).set_ (j * 5 + 3) (I ((p : Int) + 1 + 1 + 1))).set_ (j * 5 + 4) (I ((p : Int) + 1 + 1 + 1 + 1))
        rw [set_at5 _ _ _ _ _ _ _ _ _ _ _ _ _ hpl] at hset
        have HT := Lib.hid hset
        clear hd hset hpl
        go_wp2
        go_roundw
        case rel =>
          refine ⟨j + 1, p + 5, by omega, by rw [HPQ.out]; omega, by go_num, by go_num, ?_, ((((HO.out.setCell h1 h2 _).setCell h1 h2 _).setCell h1 h2 _).setCell h1 h2 _).setCell h1 h2 _⟩
          have ht := HT.out
          have hp := HPQ.out
          subst hp
          simpa [LinkNum, LinkC, List.range_succ] using ht
        case measure => simp [intOf]; omega
      · have HPQ := Lib.hid hp; clear hp
        go_wp2
        go_ret
        obtain rfl : j = xs.length := by omega
        have hp := HPQ.out
        subst hp
        refine ⟨rfl, Own.mk' h1 h2 (by simpa using HB1.out) (by rw [flat_len LinkC 5 (fun _ => rfl)]; simp [LinkNum]) hn hm ?_, HO.out⟩
        have hs := HS.out
        rw [List.length_append, flat_len LinkC 5 (fun _ => rfl)] at hs ⊢
        simpa [LinkNum] using hs
theorem markLinkS_row (v : Value) (xs : List DLink) (q : Nat) (qi : Int) (w : World) (h : w.ownsRow 0 174 5 v xs.length (xs.flatMap LinkC)) (hqi : qi = (q : Int)) (hq : q + 5 * xs.length ≤ 1000000000000000) :
    Calls Tryz.prog 85 #[v, I qi] w fun e w' => e = .returned (I ((q + 5 * xs.length : Nat) : Int)) ∧ w'.ownsRow 0 174 5 v xs.length ((LinkNum q xs.length).flatMap LinkC) ∧ OutF v.ownBlock.toList w w' := by
  subst hqi
  exact calls_row h fun lo hi ho => markLinkS v xs q lo hi w ho hq
end Go.Proofs.YtdcfidlngbhpcaaGreat
namespace Go.Proofs.YtdcfidlngbhpcaaGreat
open Go.RowKit
set_option linter.unusedVariables false
theorem info_Topology : (Tryz.prog.info? 42).map (fun i => (i.zero, i.size, i.bytes)) = some (some (.agg #[.slice none 0 0, .slice none 0 0]), 2, 48) := by kernel_rfl

def TopologyO (lo hi : Nat) (w : World) (v : Value) (x : DTopology) : Prop := ∃ u0 u1 m1, v = .agg #[u0, u1] ∧ Own 168 3 lo m1 w u0 x.ases.length (x.ases.flatMap ASC) ∧ Own 174 5 m1 hi w u1 x.links.length (x.links.flatMap LinkC) ∧ lo ≤ m1 ∧ m1 ≤ hi
theorem TopologyO.keep {lo hi : Nat} {w w' : World} {v : Value} {x : DTopology} (h : TopologyO lo hi w v x) (hk : ∀ k, lo ≤ k → k < hi → k < w.heap.size → w'.heap[k]? = w.heap[k]?) : TopologyO lo hi w' v x := by
  obtain ⟨u0, u1, m1, e, o0, o1, l0, l1⟩ := h
  exact ⟨u0, u1, m1, e, o0.keep fun k h1 h2 h3 => hk k (by omega) (by omega) h3, o1.keep fun k h1 h2 h3 => hk k (by omega) (by omega) h3, l0, l1⟩
theorem TopologyO.v {lo hi : Nat} {w : World} {v : Value} {x : DTopology} (h : TopologyO lo hi w v x) : TopologyV hi w v x := by
  obtain ⟨u0, u1, m1, e, o0, o1, l0, l1⟩ := h
  have s0 := (o0.sl (At := ASAt) ASC.len (by omega) ASC.at_)
  obtain ⟨A0, n0, c0, rfl, _⟩ := id s0
  have s1 := (o1.sl (At := LinkAt) LinkC.len (by omega) LinkC.at_)
  obtain ⟨A1, n1, c1, rfl, _⟩ := id s1
  exact ⟨_, _, _, _, _, _, e, s0.keep ASAt.keeps (by omega) (fun _ _ => rfl), s1.keep LinkAt.keeps (by omega) (fun _ _ => rfl)⟩
theorem TopologyO.shape {lo hi : Nat} {w : World} {v : Value} {x : DTopology} (h : TopologyO lo hi w v x) : ∃ A0 n0 c0, ∃ A1 n1 c1, v = .agg #[.slice A0 n0 c0, .slice A1 n1 c1] := by
  obtain ⟨A0, n0, c0, A1, n1, c1, e, _, _⟩ := h.v
  exact ⟨A0, n0, c0, A1, n1, c1, e⟩
theorem TopologyO.ext {lo hi : Nat} {w w' : World} {v : Value} {x : DTopology} (h : TopologyO lo hi w v x) (he : Ext w w') (hhi : hi ≤ w.heap.size) : TopologyO lo hi w' v x := h.keep fun k _ _ h3 => he.same k h3
theorem TopologyO.drew {lo hi : Nat} {w : World} {v : Value} {x : DTopology} (h : TopologyO lo hi w v x) : TopologyO lo hi w.drew v x := h.keep fun _ _ _ _ => rfl
theorem TopologyO.out {lo hi lo' hi' : Nat} {w w' : World} {v : Value} {x : DTopology} (h : TopologyO lo hi w v x) (ho : Out lo' hi' w w') (hd : hi' ≤ lo ∨ hi ≤ lo') : TopologyO lo hi w' v x := h.keep fun k h1 h2 h3 => ho.block k h3 (by omega)
theorem TopologyO.more {lo hi lo' hi' : Nat} {w : World} {v : Value} {x : DTopology} (h : TopologyO lo hi w v x) (h1 : lo' ≤ lo) (h2 : hi ≤ hi') : TopologyO lo' hi' w v x := by
  obtain ⟨u0, u1, m1, e, o0, o1, l0, l1⟩ := h
  exact ⟨u0, u1, m1, e, Own.more o0 h1 (Nat.le_refl _), Own.more o1 (Nat.le_refl _) h2, by omega, by omega⟩
theorem TopologyO.up {lo : Nat} {w w' : World} {v : Value} {x : DTopology} (h : TopologyO lo w.heap.size w v x) (he : Ext w w') : TopologyO lo w'.heap.size w' v x := (h.ext he (Nat.le_refl _)).more (Nat.le_refl _) he.size
theorem TopologyO.setT {lo hi g : Nat} {w : World} {v : Value} {x : DTopology} {cs' : List Value} (h : TopologyO lo hi w v x) (hb : Blk w g 42 cs') (i : Nat) (u : Value) : TopologyO lo hi (w.setCell ⟨g, i, none⟩ u) v x := by
  obtain ⟨u0, u1, m1, e, o0, o1, l0, l1⟩ := h
  exact ⟨u0, u1, m1, e, Own.setT o0 hb (by decide) i u, Own.setT o1 hb (by decide) i u, l0, l1⟩
theorem TopologyO_rd {lo hi : Nat} {w : World} {v : Value} {x : DTopology} (h : TopologyO lo hi w v x) (hhi : hi ≤ w.heap.size) : TopologyV w.heap.size w v x := h.v.keep hhi (fun _ _ => rfl)
set_option maxRecDepth 100000 in
set_option maxHeartbeats 1000000 in
theorem toTopology (v : Value) (x : DTopology) (w : World) (h : TopologyV w.heap.size w v x) (hn : x.ases.length + x.links.length ≤ 16777216) :
    Calls Tryz.prog 14 #[v] w fun e w' => ∃ v', e = .returned v' ∧ TopologyO w.heap.size w'.heap.size w' v' x ∧ Ext w w' := by
  obtain ⟨A0, n0, c0, A1, n1, c1, rfl, s0, s1⟩ := h
  have S0 := Lib.hid s0; clear s0
  have S1 := Lib.hid s1; clear s1
  go_enter Tryz.func14, Tryz.ntmps14
  go_wp2_with fail
  refine (toASS _ x.ases _ (by exact S0.out.ext xe) (by omega)).mono ?_
  rintro e w0 ⟨v0, rfl, ho0, he0⟩
  obtain ⟨hc0, hf0, hz0⟩ := he0.facts
  simp only [World.size_alloc] at hz0 hc0 hf0
  have la0 : w.heap.size < w0.heap.size := by omega
  have lb0 : w.heap.size + 1 < w0.heap.size := by omega
  have lc0 : w.heap.size + 1 + 1 < w0.heap.size := by omega
  simp only [World.size_alloc] at ho0
  have O0 := Lib.hid ho0; clear ho0
  obtain ⟨a0, m0, q0, hv0⟩ : ∃ a n c, v0 = .slice a n c := O0.out.slice
  subst hv0
  go_wp2_with fail
  refine (toLinkS _ x.links _ (by exact S1.out.ext xe) (by omega)).mono ?_
  rintro e w1 ⟨v1, rfl, ho1, he1⟩
  obtain ⟨hc1, hf1, hz1⟩ := he1.facts
  simp only [World.size_setCell] at hz1 hc1 hf1
  have la1 : w.heap.size < w1.heap.size := by omega
  have lb1 : w.heap.size + 1 < w1.heap.size := by omega
  have lc1 : w.heap.size + 1 + 1 < w1.heap.size := by omega
  simp only [World.size_setCell] at ho1
  have O1 := Lib.hid ho1; clear ho1
  obtain ⟨a1, m1, q1, hv1⟩ : ∃ a n c, v1 = .slice a n c := O1.out.slice
  subst hv1
  go_wp2_with fail
  refine bodyPost_ret (v := .agg #[.slice a0 m0 q0, .slice a1 m1 q1]) (by simp [results, Tryz.results14, go_sem, *]) rfl ⟨_, rfl, ?_, ?_⟩
  · simp only [World.size_setCell]
    refine ⟨_, _, w0.heap.size, rfl, Own.more (lo := w.heap.size + 1 + 1 + 1) (hi := w0.heap.size) (by repeat (first | (with_reducible exact O0.out) | (with_reducible refine Own.alloc ?_ _) | (with_reducible refine Own.setCell (p := _) ?_ (.inl ?ge) _; case ge => (first | omega | (dsimp only; omega) | (simp only [World.size_setCell]; omega) | (simp only [World.size_alloc]; omega))) | (with_reducible refine Own.ext ?_ (by with_reducible assumption) ?ge; case ge => (first | omega | (dsimp only; omega) | (simp only [World.size_setCell]; omega) | (simp only [World.size_alloc]; omega))))) (by omega) (by omega), Own.more (lo := w0.heap.size) (hi := w1.heap.size) (by repeat (first | (with_reducible exact O1.out) | (with_reducible refine Own.alloc ?_ _) | (with_reducible refine Own.setCell (p := _) ?_ (.inl ?ge) _; case ge => (first | omega | (dsimp only; omega) | (simp only [World.size_setCell]; omega) | (simp only [World.size_alloc]; omega))) | (with_reducible refine Own.ext ?_ (by with_reducible assumption) ?ge; case ge => (first | omega | (dsimp only; omega) | (simp only [World.size_setCell]; omega) | (simp only [World.size_alloc]; omega))))) (by omega) (by omega), by omega, by omega⟩
  · exact xe
set_option maxRecDepth 100000 in
set_option maxHeartbeats 1000000 in
theorem eqTopology (v1 v2 : Value) (x y : DTopology) (w : World) (h1 : TopologyV w.heap.size w v1 x) (h2 : TopologyV w.heap.size w v2 y) :
    Calls Tryz.prog 19 #[v1, v2] w fun e w' => e = .returned (.bool (decide (x = y))) ∧ Ext w w' := by
  obtain ⟨A10, n10, c10, A11, n11, c11, rfl, s10, s11⟩ := h1
  obtain ⟨A20, n20, c20, A21, n21, c21, rfl, s20, s21⟩ := h2
  have S10 := Lib.hid s10; clear s10
  have S11 := Lib.hid s11; clear s11
  have S20 := Lib.hid s20; clear s20
  have S21 := Lib.hid s21; clear s21
  go_enter Tryz.func19, Tryz.ntmps19
  go_wp2_with fail
  all_goals (try (go_ret; exact ⟨ret_bool (by simp_all [DTopology.eq_iff]), xe⟩))
  refine (eqASS _ _ x.ases y.ases _ (by exact S10.out.ext xe) (by exact S20.out.ext xe)).mono ?_
  rintro e w1 ⟨rfl, he1⟩
  obtain ⟨hc1, hf1, hz1⟩ := he1.facts
  go_wp2_with fail
  all_goals (try (go_ret; exact ⟨ret_bool (by simp_all [DTopology.eq_iff]), xe⟩))
  refine (eqLinkS _ _ x.links y.links _ (by exact S11.out.ext xe) (by exact S21.out.ext xe)).mono ?_
  rintro e w2 ⟨rfl, he2⟩
  obtain ⟨hc2, hf2, hz2⟩ := he2.facts
  go_wp2_with fail
  all_goals
    go_ret
    exact ⟨ret_bool (by simp_all [DTopology.eq_iff]), xe⟩
set_option maxRecDepth 100000 in
set_option maxHeartbeats 1000000 in
theorem szTopology (v : Value) (x : DTopology) (left : Int) (w : World) (h : TopologyV w.heap.size w v x) (h0 : 0 ≤ left) (hl : left ≤ 1048576) :
    Calls Tryz.prog 10 #[v, I left] w fun e w' => e = .returned (I (szR (x.ases.length + x.links.length) left)) ∧ Ext w w' := by
  obtain ⟨A0, n0, c0, A1, n1, c1, rfl, s0, s1⟩ := h
  have S0 := Lib.hid s0; clear s0
  have S1 := Lib.hid s1; clear s1
  go_enter Tryz.func10, Tryz.ntmps10
  go_wp2_with fail
  refine (szASS _ x.ases (left) _ (by exact S0.out.ext xe) (by omega) (by omega)).mono ?_
  rintro e w1 ⟨rfl, he1⟩
  obtain ⟨hc1, hf1, hz1⟩ := he1.facts
  by_cases hlt0 : left < (((x.ases.length) : Nat) : Int)
  · rw [szR_neg hlt0]
    go_wp2_with fail
    go_ret
    exact ⟨ret_int (szR_neg (by omega)).symm, xe⟩
  · rw [szR_pos (by omega)]
    go_wp2_with fail
    refine (szLinkS _ x.links (left - (((x.ases.length) : Nat) : Int)) _ (by exact S1.out.ext xe) (by omega) (by omega)).mono ?_
    rintro e w2 ⟨rfl, he2⟩
    obtain ⟨hc2, hf2, hz2⟩ := he2.facts
    by_cases hlt1 : left - (((x.ases.length) : Nat) : Int) < (((x.links.length) : Nat) : Int)
    · rw [szR_neg hlt1]
      go_wp2_with fail
      go_ret
      exact ⟨ret_int (szR_neg (by omega)).symm, xe⟩
    · rw [szR_pos (by omega)]
      go_wp2_with fail
      go_ret
      exact ⟨ret_int (by rw [szR_pos (by omega)] <;> omega), xe⟩
set_option maxRecDepth 100000 in
set_option maxHeartbeats 1000000 in
theorem markTopology (v : Value) (x : DTopology) (q lo hi : Nat) (w : World) (h : TopologyO lo hi w v x) (hhi : hi ≤ w.heap.size) (hq : ((q + 3 * x.ases.length) + 5 * x.links.length) ≤ 1000000000000000) :
    Calls Tryz.prog 21 #[v, I q] w fun e w' => e = .returned (I ((((q + 3 * x.ases.length) + 5 * x.links.length) : Nat) : Int)) ∧ Any1 ∧ Out lo hi w w' := by
  obtain ⟨u0, u1, m1, rfl, o0, o1, l0, l1⟩ := h
  have O0 := Lib.hid o0; clear o0
  obtain ⟨a0, k0, c0, hv0⟩ := O0.out.slice
  subst hv0
  have O1 := Lib.hid o1; clear o1
  obtain ⟨a1, k1, c1, hv1⟩ := O1.out.slice
  subst hv1
  go_enter Tryz.func21, Tryz.ntmps21
  go_wp2_with fail
  refine (markASS _ x.ases q lo m1 _ (by exact (by repeat (first | (with_reducible exact O0.out) | (with_reducible refine Own.ext ?_ (by with_reducible assumption) ?ge; case ge => (first | omega | (simp only [World.size_alloc]; omega))) | (with_reducible refine Own.out ?_ (by with_reducible assumption) ?ge; case ge => omega) | (with_reducible refine Own.alloc ?_ _)))) (by omega)).mono ?_
  rintro e w0 ⟨rfl, p0, t0⟩
  have P0 := Lib.hid p0; clear p0
  have z0 := t0.size
  have hc0 : ∀ k o, k < lo ∨ hi ≤ k → k < _ → w0.cell? ⟨k, o, none⟩ = _ := fun k o h1 h2 => World.cell?_of_block (a := ⟨k, o, none⟩) (t0.block k h2 (by omega))
  simp only [World.size_alloc] at z0
  have lw0 : w.heap.size < w0.heap.size := by omega
  go_wp2_with fail
  refine (markLinkS _ x.links (q + 3 * x.ases.length) m1 hi _ (by exact (by repeat (first | (with_reducible exact O1.out) | (with_reducible refine Own.ext ?_ (by with_reducible assumption) ?ge; case ge => (first | omega | (simp only [World.size_alloc]; omega))) | (with_reducible refine Own.out ?_ (by with_reducible assumption) ?ge; case ge => omega) | (with_reducible refine Own.alloc ?_ _)))) (by omega)).mono ?_
  rintro e w1 ⟨rfl, p1, t1⟩
  have P1 := Lib.hid p1; clear p1
  have z1 := t1.size
  have hc1 : ∀ k o, k < lo ∨ hi ≤ k → k < _ → w1.cell? ⟨k, o, none⟩ = _ := fun k o h1 h2 => World.cell?_of_block (a := ⟨k, o, none⟩) (t1.block k h2 (by omega))
  have lw1 : w.heap.size < w1.heap.size := by omega
  go_wp2_with fail
  go_ret
  have hOut : Out lo hi w w1 := (Out.trans (Out.trans (Out.of_ext xe) (t0.mono (by omega) (by omega))) (t1.mono (by omega) (by omega)))
  have HOUT := Lib.hid hOut; clear hOut
  exact ⟨rfl, any1, HOUT.out⟩
end Go.Proofs.YtdcfidlngbhpcaaGreat
