/- The laws' helpers on Signature: to.. (copy), eq.. (compare), sz.. (count), mark.. and held... Printed by gen.py. -/
import Derived.Test.YtbojbgicmdgfaaaGreatGCore
import Derived.Test.YtbojbgicmdgfaaaGreatGGrow
namespace Go.Proofs.YtbojbgicmdgfaaaGreat
open Go.RowKit
set_option linter.unusedVariables false
theorem info_Signature : (Tryz.prog.info? 192).map (fun i => (i.zero, i.size, i.bytes)) = some (some (.agg #[.int .i64 0, .int .i64 0]), 2, 16) := by kernel_rfl

theorem row_Signature {B : Nat} {w : World} {A : Option Addr} {n c : Nat} {xs : List DSignature} (h : SignatureS B w (.slice A n c) xs) : Row w 2 A n (xs.flatMap SignatureC) := row_flat (C := SignatureC) (sz := 2) (fun _ => rfl) (by omega) SignatureAt.cells_ h
set_option maxRecDepth 100000 in
set_option maxHeartbeats 1000000 in
theorem neq_Signature (x y : DSignature) (w : World) : (binOp .neq 192 (.agg #[I x.asn, I x.value]) (.agg #[I y.asn, I y.value])).run Tryz.prog w = .ok (.bool (!decide (x = y))) w := by
  have hp : Tryz.prog.stoodInHeld 192 = false := by kernel_rfl
  have ht : Tryz.prog.underlying 192 = some (.struct (Tryz.prog.fieldsOf 192)) := by kernel_rfl
  have hf := ht.symm.trans Tryz.underlying192
  injection hf with hf
  injection hf with hf
  rw [run_neq_struct, run_equalIn_struct w 9999 192 _ _ ht hp, hf]
  by_cases h0 : x.asn = y.asn
  rotate_left
  · simp [Op.eqFields, go_sem, Tryz.underlying3, DSignature.eq_iff, h0]
  by_cases h1 : x.value = y.value
  · simp [Op.eqFields, go_sem, Tryz.underlying3, DSignature.eq_iff, h0, h1]
  · simp [Op.eqFields, go_sem, Tryz.underlying3, DSignature.eq_iff, h0, h1]
set_option maxRecDepth 100000 in
set_option maxHeartbeats 1000000 in
theorem eql_Signature (x y : DSignature) (w : World) : (binOp .eql 192 (.agg #[I x.asn, I x.value]) (.agg #[I y.asn, I y.value])).run Tryz.prog w = .ok (.bool (decide (x = y))) w := by
  have hp : Tryz.prog.stoodInHeld 192 = false := by kernel_rfl
  have ht : Tryz.prog.underlying 192 = some (.struct (Tryz.prog.fieldsOf 192)) := by kernel_rfl
  have hf := ht.symm.trans Tryz.underlying192
  injection hf with hf
  injection hf with hf
  rw [run_eql_struct, run_equalIn_struct w 9999 192 _ _ ht hp, hf]
  by_cases h0 : x.asn = y.asn
  rotate_left
  · simp [Op.eqFields, go_sem, Tryz.underlying3, DSignature.eq_iff, h0]
  by_cases h1 : x.value = y.value
  · simp [Op.eqFields, go_sem, Tryz.underlying3, DSignature.eq_iff, h0, h1]
  · simp [Op.eqFields, go_sem, Tryz.underlying3, DSignature.eq_iff, h0, h1]
theorem guard_Signature : Tryz.prog.eqGuardType Tryz.prog.depth 192 = false := by kernel_rfl
/-- A []Signature of the call's own. -/
abbrev SignatureSO (lo hi : Nat) (w : World) (v : Value) (xs : List DSignature) : Prop := Own 192 2 lo hi w v xs.length (xs.flatMap SignatureC)
theorem SignatureSO_rd {lo hi : Nat} {w : World} {v : Value} {xs : List DSignature} (h : SignatureSO lo hi w v xs) : SignatureS w.heap.size w v xs := (Own.lt_size h).sl (At := SignatureAt) SignatureC.len (by omega) SignatureC.at_
set_option maxRecDepth 100000 in
set_option maxHeartbeats 1000000 in
theorem toSignature (x : DSignature) (w : World) : Calls Tryz.prog 217 #[.agg #[I x.asn, I x.value]] w fun e w' => e = .returned (.agg #[I x.asn, I x.value]) ∧ Ext w w' := by
  go_enter Tryz.func217, Tryz.ntmps217
  go_wp2
  exact bodyPost_ret (v := .agg #[I x.asn, I x.value]) (by simp [results, Tryz.results217, go_sem]) rfl ⟨rfl, xe⟩
set_option maxRecDepth 100000 in
set_option maxHeartbeats 1000000 in
theorem toSignatureS (v : Value) (ds : List DSignature) (w : World) (h : SignatureS w.heap.size w v ds) (hn : ds.length ≤ 16777216) :
    Calls Tryz.prog 216 #[v] w fun e w' => ∃ v', e = .returned v' ∧ SignatureSO w.heap.size w'.heap.size w' v' ds ∧ Ext w w' := by
  obtain ⟨A, n, c, rfl, hl, -⟩ := id h
  subst hl
  have hmk := run_mk (P := Tryz.prog) 186 192 (.agg #[.int .i64 0, .int .i64 0]) 2 16 Tryz.underlying186 info_Signature ds.length (by omega) (by omega)
  have hml := mkRow_len (.agg #[.int .i64 0, .int .i64 0]) (ds.length * 2)
  generalize mkRow (.agg #[.int .i64 0, .int .i64 0]) (ds.length * 2) = mr at *
  have H := Lib.hid h; clear h
  have HM := Lib.hid hml; clear hml
  go_enter Tryz.func216, Tryz.ntmps216
  go_wp2
  go_loopw [4] (fun i wr => ∃ (k : Nat) (rest : List Value), k ≤ ds.length ∧ i = I k ∧ Blk wr w.heap.size 192 ((ds.take k).flatMap SignatureC ++ rest) ∧ rest.length = (ds.length - k) * 2 ∧ Ext w wr) (fun i _ => ds.length - (intOf i).toNat)
  case atStart => exact ⟨0, mr.toList, by omega, rfl, by simpa using Blk.new w 192 mr.toList, by simpa using HM.out, (Ext.refl _).alloc _⟩
  case round =>
    obtain ⟨k, rest, hk, rfl, hb, hr, he⟩ := hrel
    have HE := Lib.hid he
    have HB := Lib.hid hb; clear hb
    by_cases hlt : k < ds.length
    · obtain ⟨b, off, rfl, hbb, _, hc⟩ := (H.out.ext he).at_ hlt
      obtain ⟨r0, r1, rest, rfl⟩ : ∃ r0 r1 rest', rest = r0 :: r1 :: rest' := by
        match rest, hr with
        | r0 :: r1 :: rest, _ => exact ⟨r0, r1, rest, rfl⟩
        | [], h => simp at h; omega
        | [_], h => simp at h; omega
      have hlr : rest.length = (ds.length - (k + 1)) * 2 := by simp only [List.length_cons] at hr; omega
      have HR := Lib.hid hlr; clear hr he hlr
      have HX := Lib.hid (take_snoc ds k hlt)
      generalize ds[k] = x at *
      obtain ⟨hc0, hc1⟩ := hc
      have hp := flat_len SignatureC 2 (fun _ => rfl) (ds.take k)
      rw [List.length_take, Nat.min_eq_left hk] at hp
      have HP := Lib.hid hp; clear hp
      have hwg : w.heap.size < wr.heap.size := HB.out.lt
      go_wp2_with fail
      refine (toSignature x _).mono ?_
      rintro e w1 ⟨rfl, he1⟩
      have HB1 := Lib.hid (HB.out.below he1.below hwg)
      have hz1 := he1.size
      have HE1 := Lib.hid he1
      clear he1
      obtain ⟨hu0, hu1⟩ := cells_at2 HB1.out HP.out
      have hf0 := HB1.out.frozen (k * 2)
      have hf1 := HB1.out.frozen (k * 2 + 1)
      go_wp2
      go_roundw
      case rel =>
        refine ⟨k + 1, rest, by omega, by go_num, ?_, HR.out, ?_⟩
        · have := (HB1.out.set_ (k * 2) (I x.asn)).set_ (k * 2 + 1) (I x.value)
          rw [set_at2 _ _ _ _ _ _ _ HP.out] at this
          rw [HX.out, List.flatMap_append]
          simpa [SignatureC] using this
        · exact ((HE.out.trans HE1.out).setCell (by simp) _).setCell (by simp) _
      case measure => simp [intOf]; omega
    · have HR := Lib.hid hr; clear hr he
      go_wp2
      go_ret
      have e : k = ds.length := by omega
      have hr := HR.out
      subst e
      obtain rfl : rest = [] := List.eq_nil_of_length_eq_zero (by simpa using hr)
      have hb := HB.out
      rw [List.take_length, List.append_nil] at hb
      exact ⟨_, rfl, Own.of_blk hb (flat_len SignatureC 2 (fun _ => rfl) ds) (by unfold maxLen; omega) (Nat.le_refl _) hb.lt, HE.out⟩
set_option maxRecDepth 100000 in
set_option maxHeartbeats 1000000 in
theorem eqSignature (v1 v2 : Value) (x y : DSignature) (w : World) (h1 : SignatureV w.heap.size w v1 x) (h2 : SignatureV w.heap.size w v2 y) :
    Calls Tryz.prog 228 #[v1, v2] w fun e w' => e = .returned (.bool (decide (x = y))) ∧ Ext w w' := by
  obtain rfl := h1
  obtain rfl := h2
  go_enter Tryz.func228, Tryz.ntmps228
  go_wp2_with fail
  all_goals
    go_ret
    exact ⟨ret_bool (by simp_all [DSignature.eq_iff]), xe⟩
set_option maxRecDepth 100000 in
set_option maxHeartbeats 1000000 in
theorem eqSignatureS (v1 v2 : Value) (xs ys : List DSignature) (w : World) (h1 : SignatureS w.heap.size w v1 xs) (h2 : SignatureS w.heap.size w v2 ys) :
    Calls Tryz.prog 227 #[v1, v2] w fun e w' => e = .returned (.bool (decide (xs = ys))) ∧ Ext w w' := by
  obtain ⟨A1, n1, c1, rfl, hl1, hn1, hm1, -⟩ := id h1
  obtain ⟨A2, n2, c2, rfl, hl2, hn2, hm2, -⟩ := id h2
  unfold maxLen at hm1 hm2
  have H1 := Lib.hid h1; have H2 := Lib.hid h2; have E1 := Lib.hid hl1; have E2 := Lib.hid hl2; clear h1 h2 hl1 hl2
  by_cases hn : n1 = n2
  · subst hn
    go_enter Tryz.func227, Tryz.ntmps227
    go_wp2
    go_loopw [5] (fun i wr => ∃ k : Nat, k ≤ n1 ∧ i = I k ∧ xs.take k = ys.take k ∧ Ext w wr) (fun i _ => n1 - (intOf i).toNat)
    case atStart => exact ⟨0, by omega, rfl, by simp, Ext.refl _⟩
    case round =>
      obtain ⟨k, hk, rfl, hq, he⟩ := hrel
      have HQ := Lib.hid hq; clear hq
      have HE := Lib.hid he; clear he
      by_cases hlt : k < n1
      · obtain ⟨b1, o1, rfl, hb1, hk1, hc1⟩ := (H1.out.ext HE.out).at_ hlt
        obtain ⟨b2, o2, rfl, hb2, hk2, hc2⟩ := (H2.out.ext HE.out).at_ hlt
        have i0 : (0 : Int) ≤ (k : Int) := by omega
        have i1 : (k : Int) < (n1 : Int) := by omega
        have X1 := Lib.hid (take_snoc xs k hk1)
        have X2 := Lib.hid (take_snoc ys k hk2)
        have hne : ¬ xs[k] = ys[k] → xs ≠ ys := fun hne h => hne (by subst h; rfl)
        have HN := Lib.hid hne; clear hne
        generalize xs[k] = x at *
        generalize ys[k] = y at *
        obtain ⟨h10, h11⟩ := hc1
        obtain ⟨h20, h21⟩ := hc2
        go_wp2_with fail
        go_region_held3 (fun W => wr.heap.size ≤ W.heap.size ∧ ∀ b o, b < wr.heap.size → W.cell? ⟨b, o, none⟩ = wr.cell? ⟨b, o, none⟩)
          (first | exact ⟨Nat.le_refl _, fun _ _ _ => rfl⟩ | exact keepC (by assumption) he1)
          (first | (go_at_call 228; refine (eqSignature _ _ x y _ (by exact rfl) (by exact rfl)).mono ?_; rintro e w1 ⟨rfl, he1⟩))
        have HE1 := Lib.hid (HE.out.drew.trans he1)
        have hdd : decide (x = y) = true ↔ x = y := decide_eq_true_iff
        have HD := Lib.hid hdd; clear hdd
        generalize decide (x = y) = bb at *
        cases bb
        · have hxy : ¬ x = y := fun h => by have := HD.out.2 h; cases this
          have HXY := Lib.hid hxy; clear hxy
          go_wp2
          go_ret
          exact ⟨ret_bool (by simp [HN.out HXY.out]), HE1.out⟩
        · have HXY := Lib.hid (HD.out.1 rfl)
          go_wp2
          go_roundw
          case rel => exact ⟨k + 1, by omega, by go_num, by rw [X1.out, X2.out, HQ.out, HXY.out], HE1.out⟩
          case measure => simp [intOf]; omega
      · go_wp2
        go_ret
        have h := HQ.out
        rw [List.take_of_length_le (by rw [E1.out]; omega), List.take_of_length_le (by rw [E2.out]; omega)] at h
        exact ⟨ret_bool (by simp [h]), HE.out⟩
  · have hb : ((n1 : Int) == (n2 : Int)) = false := by simp; omega
    have hb' : ((n1 : Int) != (n2 : Int)) = true := by simp; omega
    have HN := Lib.hid hn; clear hn
    go_enter Tryz.func227, Tryz.ntmps227
    go_wp2
    go_ret
    have : xs ≠ ys := fun h => HN.out (by rw [← E1.out, ← E2.out, h])
    exact ⟨ret_bool (by simp [this]), Ext.refl _⟩
set_option maxRecDepth 100000 in
set_option maxHeartbeats 1000000 in
theorem szSignatureS (v : Value) (ds : List DSignature) (left : Int) (w : World) (h : SignatureS w.heap.size w v ds) (h0 : 0 ≤ left) (hl : left ≤ 1048576) :
    Calls Tryz.prog 209 #[v, I left] w fun e w' => e = .returned (I (szR ds.length left)) ∧ Ext w w' := by
  obtain ⟨A, n, c, rfl, hl1, hn1, hm1, -⟩ := id h
  unfold maxLen at hm1
  subst hl1
  clear h
  by_cases hlt : left < (ds.length : Int)
  · have HF := Lib.hid (szR_neg hlt)
    go_enter Tryz.func209, Tryz.ntmps209
    go_wp2
    go_ret
    exact ⟨ret_int HF.out.symm, Ext.refl _⟩
  · have HF := Lib.hid (szR_pos (t := ds.length) (left := left) (by omega))
    go_enter Tryz.func209, Tryz.ntmps209
    go_wp2
    go_ret
    exact ⟨ret_int HF.out.symm, Ext.refl _⟩
/-- What marking from q on writes. -/
def SignatureNum (q n : Nat) : List DSignature := (List.range n).map fun j => ⟨((q + 2 * j : Nat) : Int), ((q + 2 * j : Nat) : Int) + 1⟩
theorem SignatureNum_len {q n : Nat} : (SignatureNum q n).length = n := by simp [SignatureNum]
set_option maxRecDepth 100000 in
set_option maxHeartbeats 1000000 in
theorem markSignatureS (v : Value) (xs : List DSignature) (q : Nat) (lo hi : Nat) (w : World) (h : SignatureSO lo hi w v xs) (hq : q + 2 * xs.length ≤ 1000000000000000) :
    Calls Tryz.prog 148 #[v, I q] w fun e w' => e = .returned (I ((q + 2 * xs.length : Nat) : Int)) ∧ Own 192 2 lo hi w' v xs.length ((SignatureNum q xs.length).flatMap SignatureC) ∧ Out lo hi w w' := by
  rcases h.cases with ⟨rfl, h0, hx⟩ | ⟨g, cap, rest, rfl, h1, h2, hb, hlc, hn, hm, hs⟩
  · rw [h0]
    clear h hx h0
    go_enter Tryz.func148, Tryz.ntmps148
    go_wp2
    go_loop [1, 5] (fun k i => k = I q ∧ i = I 0) (fun _ _ => 0)
    case atStart => exact ⟨rfl, rfl⟩
    case round =>
      obtain ⟨rfl, rfl⟩ := hrel
      go_wp2
      go_ret
      exact ⟨rfl, Own.nil _ _ _ _ _, Out.refl _ _ _⟩
  · have HB := Lib.hid hb
    have HS := Lib.hid hs
    clear h hb hlc
    unfold maxLen at hm
    go_enter Tryz.func148, Tryz.ntmps148
    go_wp2
    go_loopw [1, 5] (fun k i wr => ∃ j p : Nat, j ≤ xs.length ∧ p = q + 2 * j ∧ k = I p ∧ i = I j ∧ Blk wr g 192 ((SignatureNum q j).flatMap SignatureC ++ ((xs.drop j).flatMap SignatureC ++ rest)) ∧ Out lo hi w wr) (fun _ i _ => xs.length - (intOf i).toNat)
    case atStart => exact ⟨0, q, by omega, by omega, rfl, rfl, by simpa [SignatureNum] using HB.out, Out.refl _ _ _⟩
    case round =>
      obtain ⟨j, p, hj, hp, rfl, rfl, hbl, ho⟩ := hrel
      have hpb : p ≤ 1000000000000000 := by omega
      have HB1 := Lib.hid hbl; clear hbl
      have HO := Lib.hid ho; clear ho
      by_cases hlt : j < xs.length
      · have hpb : p + 2 ≤ 1000000000000000 := by omega
        have HPQ := Lib.hid hp; clear hp
        have hd := HB1.out
        rw [List.drop_eq_getElem_cons hlt, List.flatMap_cons, List.append_assoc] at hd
        have hpl : ((SignatureNum q j).flatMap SignatureC).length = j * 2 := by rw [flat_len SignatureC 2 (fun _ => rfl)]; simp [SignatureNum]
        generalize xs[j] = x at *
        have hd : Blk wr g 192 ((SignatureNum q j).flatMap SignatureC ++ I x.asn :: I x.value :: ((xs.drop (j + 1)).flatMap SignatureC ++ rest)) := hd
        obtain ⟨hu0, hu1⟩ := cells_at2 hd hpl
        have hf0 := hd.frozen (j * 2)
        have hf1 := hd.frozen (j * 2 + 1)
        have hset := (hd.set_ (j * 2) (I ((p : Int)))).set_ (j * 2 + 1) (I ((p : Int) + 1))
        rw [set_at2 _ _ _ _ _ _ _ hpl] at hset
        have HT := Lib.hid hset
        clear hd hset hpl
        go_wp2
        go_roundw
        case rel =>
          refine ⟨j + 1, p + 2, by omega, by rw [HPQ.out]; omega, by go_num, by go_num, ?_, (HO.out.setCell h1 h2 _).setCell h1 h2 _⟩
          have ht := HT.out
          have hp := HPQ.out
          subst hp
          simpa [SignatureNum, SignatureC, List.range_succ] using ht
        case measure => simp [intOf]; omega
      · have HPQ := Lib.hid hp; clear hp
        go_wp2
        go_ret
        obtain rfl : j = xs.length := by omega
        have hp := HPQ.out
        subst hp
        refine ⟨rfl, Own.mk' h1 h2 (by simpa using HB1.out) (by rw [flat_len SignatureC 2 (fun _ => rfl)]; simp [SignatureNum]) hn hm ?_, HO.out⟩
        have hs := HS.out
        rw [List.length_append, flat_len SignatureC 2 (fun _ => rfl)] at hs ⊢
        simpa [SignatureNum] using hs
theorem markSignatureS_row (v : Value) (xs : List DSignature) (q : Nat) (qi : Int) (w : World) (h : w.ownsRow 0 192 2 v xs.length (xs.flatMap SignatureC)) (hqi : qi = (q : Int)) (hq : q + 2 * xs.length ≤ 1000000000000000) :
    Calls Tryz.prog 148 #[v, I qi] w fun e w' => e = .returned (I ((q + 2 * xs.length : Nat) : Int)) ∧ w'.ownsRow 0 192 2 v xs.length ((SignatureNum q xs.length).flatMap SignatureC) ∧ OutF v.ownBlock.toList w w' := by
  subst hqi
  exact calls_row h fun lo hi ho => markSignatureS v xs q lo hi w ho hq
end Go.Proofs.YtbojbgicmdgfaaaGreat
namespace Go.Proofs.YtbojbgicmdgfaaaGreat
open Go.RowKit
set_option linter.unusedVariables false
theorem info_TrustRoot : (Tryz.prog.info? 188).map (fun i => (i.zero, i.size, i.bytes)) = some (some (.agg #[.int .i64 0, .int .i64 0, .int .i64 0, .int .i64 0, .int .i64 0, .int .i64 0, .slice none 0 0]), 7, 72) := by kernel_rfl

def TrustRootO (lo hi : Nat) (w : World) (v : Value) (x : DTrustRoot) : Prop := ∃ u6, v = .agg #[I x.isd, I x.version, I x.notBefore, I x.notAfter, I x.voters, I x.quorum, u6] ∧ Own 192 2 lo hi w u6 x.sigs.length (x.sigs.flatMap SignatureC) ∧ lo ≤ hi
theorem TrustRootO.keep {lo hi : Nat} {w w' : World} {v : Value} {x : DTrustRoot} (h : TrustRootO lo hi w v x) (hk : ∀ k, lo ≤ k → k < hi → k < w.heap.size → w'.heap[k]? = w.heap[k]?) : TrustRootO lo hi w' v x := by
  obtain ⟨u6, e, o6, l0⟩ := h
  exact ⟨u6, e, o6.keep fun k h1 h2 h3 => hk k (by omega) (by omega) h3, l0⟩
theorem TrustRootO.v {lo hi : Nat} {w : World} {v : Value} {x : DTrustRoot} (h : TrustRootO lo hi w v x) : TrustRootV hi w v x := by
  obtain ⟨u6, e, o6, l0⟩ := h
  have s6 := (o6.sl (At := SignatureAt) SignatureC.len (by omega) SignatureC.at_)
  obtain ⟨A6, n6, c6, rfl, _⟩ := id s6
  exact ⟨_, _, _, e, s6.keep SignatureAt.keeps (by omega) (fun _ _ => rfl)⟩
theorem TrustRootO.shape {lo hi : Nat} {w : World} {v : Value} {x : DTrustRoot} (h : TrustRootO lo hi w v x) : ∃ A6 n6 c6, v = .agg #[I x.isd, I x.version, I x.notBefore, I x.notAfter, I x.voters, I x.quorum, .slice A6 n6 c6] := by
  obtain ⟨A6, n6, c6, e, _⟩ := h.v
  exact ⟨A6, n6, c6, e⟩
theorem TrustRootO.ext {lo hi : Nat} {w w' : World} {v : Value} {x : DTrustRoot} (h : TrustRootO lo hi w v x) (he : Ext w w') (hhi : hi ≤ w.heap.size) : TrustRootO lo hi w' v x := h.keep fun k _ _ h3 => he.same k h3
theorem TrustRootO.drew {lo hi : Nat} {w : World} {v : Value} {x : DTrustRoot} (h : TrustRootO lo hi w v x) : TrustRootO lo hi w.drew v x := h.keep fun _ _ _ _ => rfl
theorem TrustRootO.out {lo hi lo' hi' : Nat} {w w' : World} {v : Value} {x : DTrustRoot} (h : TrustRootO lo hi w v x) (ho : Out lo' hi' w w') (hd : hi' ≤ lo ∨ hi ≤ lo') : TrustRootO lo hi w' v x := h.keep fun k h1 h2 h3 => ho.block k h3 (by omega)
theorem TrustRootO.more {lo hi lo' hi' : Nat} {w : World} {v : Value} {x : DTrustRoot} (h : TrustRootO lo hi w v x) (h1 : lo' ≤ lo) (h2 : hi ≤ hi') : TrustRootO lo' hi' w v x := by
  obtain ⟨u6, e, o6, l0⟩ := h
  exact ⟨u6, e, Own.more o6 h1 h2, by omega⟩
theorem TrustRootO.up {lo : Nat} {w w' : World} {v : Value} {x : DTrustRoot} (h : TrustRootO lo w.heap.size w v x) (he : Ext w w') : TrustRootO lo w'.heap.size w' v x := (h.ext he (Nat.le_refl _)).more (Nat.le_refl _) he.size
theorem TrustRootO.setT {lo hi g : Nat} {w : World} {v : Value} {x : DTrustRoot} {cs' : List Value} (h : TrustRootO lo hi w v x) (hb : Blk w g 188 cs') (i : Nat) (u : Value) : TrustRootO lo hi (w.setCell ⟨g, i, none⟩ u) v x := by
  obtain ⟨u6, e, o6, l0⟩ := h
  exact ⟨u6, e, Own.setT o6 hb (by decide) i u, l0⟩
theorem TrustRootO_rd {lo hi : Nat} {w : World} {v : Value} {x : DTrustRoot} (h : TrustRootO lo hi w v x) (hhi : hi ≤ w.heap.size) : TrustRootV w.heap.size w v x := h.v.keep hhi (fun _ _ => rfl)
set_option maxRecDepth 100000 in
set_option maxHeartbeats 1000000 in
theorem toTrustRoot (v : Value) (x : DTrustRoot) (w : World) (h : TrustRootV w.heap.size w v x) (hn : x.sigs.length ≤ 16777216) :
    Calls Tryz.prog 136 #[v] w fun e w' => ∃ v', e = .returned v' ∧ TrustRootO w.heap.size w'.heap.size w' v' x ∧ Ext w w' := by
  obtain ⟨A6, n6, c6, rfl, s6⟩ := h
  have S6 := Lib.hid s6; clear s6
  go_enter Tryz.func136, Tryz.ntmps136
  go_wp2_with fail
  refine (toSignatureS _ x.sigs _ (by exact S6.out.ext xe) (by omega)).mono ?_
  rintro e w6 ⟨v6, rfl, ho6, he6⟩
  obtain ⟨hc6, hf6, hz6⟩ := he6.facts
  simp only [World.size_alloc] at hz6 hc6 hf6
  have la6 : w.heap.size < w6.heap.size := by omega
  have lb6 : w.heap.size + 1 < w6.heap.size := by omega
  have lc6 : w.heap.size + 1 + 1 < w6.heap.size := by omega
  simp only [World.size_alloc] at ho6
  have O6 := Lib.hid ho6; clear ho6
  obtain ⟨a6, m6, q6, hv6⟩ : ∃ a n c, v6 = .slice a n c := O6.out.slice
  subst hv6
  go_wp2_with fail
  refine bodyPost_ret (v := .agg #[I x.isd, I x.version, I x.notBefore, I x.notAfter, I x.voters, I x.quorum, .slice a6 m6 q6]) (by simp [results, Tryz.results136, go_sem, *]) rfl ⟨_, rfl, ?_, ?_⟩
  · simp only [World.size_setCell]
    refine ⟨_, rfl, Own.more (lo := w.heap.size + 1 + 1 + 1) (hi := w6.heap.size) (by repeat (first | (with_reducible exact O6.out) | (with_reducible refine Own.alloc ?_ _) | (with_reducible refine Own.setCell (p := _) ?_ (.inl ?ge) _; case ge => (first | omega | (dsimp only; omega) | (simp only [World.size_setCell]; omega) | (simp only [World.size_alloc]; omega))) | (with_reducible refine Own.ext ?_ (by with_reducible assumption) ?ge; case ge => (first | omega | (dsimp only; omega) | (simp only [World.size_setCell]; omega) | (simp only [World.size_alloc]; omega))))) (by omega) (by omega), by omega⟩
  · exact xe
set_option maxRecDepth 100000 in
set_option maxHeartbeats 1000000 in
theorem eqTrustRoot (v1 v2 : Value) (x y : DTrustRoot) (w : World) (h1 : TrustRootV w.heap.size w v1 x) (h2 : TrustRootV w.heap.size w v2 y) :
    Calls Tryz.prog 145 #[v1, v2] w fun e w' => e = .returned (.bool (decide (x = y))) ∧ Ext w w' := by
  obtain ⟨A16, n16, c16, rfl, s16⟩ := h1
  obtain ⟨A26, n26, c26, rfl, s26⟩ := h2
  have S16 := Lib.hid s16; clear s16
  have S26 := Lib.hid s26; clear s26
  go_enter Tryz.func145, Tryz.ntmps145
  go_wp2_with fail
  all_goals (try (go_ret; exact ⟨ret_bool (by simp_all [DTrustRoot.eq_iff]), xe⟩))
  refine (eqSignatureS _ _ x.sigs y.sigs _ (by exact S16.out.ext xe) (by exact S26.out.ext xe)).mono ?_
  rintro e w7 ⟨rfl, he7⟩
  obtain ⟨hc7, hf7, hz7⟩ := he7.facts
  go_wp2_with fail
  all_goals
    go_ret
    exact ⟨ret_bool (by simp_all [DTrustRoot.eq_iff]), xe⟩
set_option maxRecDepth 100000 in
set_option maxHeartbeats 1000000 in
theorem szTrustRoot (v : Value) (x : DTrustRoot) (left : Int) (w : World) (h : TrustRootV w.heap.size w v x) (h0 : 0 ≤ left) (hl : left ≤ 1048576) :
    Calls Tryz.prog 130 #[v, I left] w fun e w' => e = .returned (I (szR (x.sigs.length) left)) ∧ Ext w w' := by
  obtain ⟨A6, n6, c6, rfl, s6⟩ := h
  have S6 := Lib.hid s6; clear s6
  go_enter Tryz.func130, Tryz.ntmps130
  go_wp2_with fail
  refine (szSignatureS _ x.sigs (left) _ (by exact S6.out.ext xe) (by omega) (by omega)).mono ?_
  rintro e w1 ⟨rfl, he1⟩
  obtain ⟨hc1, hf1, hz1⟩ := he1.facts
  by_cases hlt0 : left < (((x.sigs.length) : Nat) : Int)
  · rw [szR_neg hlt0]
    go_wp2_with fail
    go_ret
    exact ⟨ret_int (szR_neg (by omega)).symm, xe⟩
  · rw [szR_pos (by omega)]
    go_wp2_with fail
    go_ret
    exact ⟨ret_int (by rw [szR_pos (by omega)] <;> omega), xe⟩
/-- What marking from q on leaves. -/
def TrustRootNum1 (q : Nat) (x : DTrustRoot) : DTrustRoot := { isd := x.isd, version := x.version, notBefore := x.notBefore, notAfter := x.notAfter, voters := x.voters, quorum := x.quorum, sigs := (SignatureNum q x.sigs.length) }
/-- The cells cs of a TrustRoot and the blocks that it owns. -/
def TrustRootOC (w : World) (fp : List Nat) (cs : List Value) (x : DTrustRoot) : Prop := ∃ u6, cs = [I x.isd, I x.version, I x.notBefore, I x.notAfter, I x.voters, I x.quorum, u6] ∧ w.ownsRow 0 192 2 u6 x.sigs.length (x.sigs.flatMap SignatureC) ∧ fp = u6.ownBlock.toList
theorem TrustRootOC.keeps : OKeeps TrustRootOC := by
  intro w w' fp cs x hk h
  obtain ⟨u6, e, r6, ef⟩ := h
  exact ⟨u6, e, ownsRow_keep r6 (fun b hb => hk b (by rw [ef]; simp [hb])), ef⟩
theorem TrustRootOC.at_ (B : Nat) (w : World) (b o : Nat) (fp : List Nat) (cs : List Value) (x : DTrustRoot) (h : TrustRootOC w fp cs x) (hb : ∀ b ∈ fp, b < B) (hc : ∀ j u, cs[j]? = some u → w.cell? ⟨b, o + j, none⟩ = some u) : TrustRootAt B w b o x := by
  obtain ⟨u6, rfl, r6, ef⟩ := h
  have s6 : SignatureS B w u6 x.sigs := Own.sl (lo := 0) (n := x.sigs.length) (At := SignatureAt) ⟨r6, fun k hk => hb k (by rw [ef]; simp [hk])⟩ SignatureC.len (by omega) SignatureC.at_
  obtain ⟨A6, n6, c6, e6, _⟩ := id s6
  subst e6
  exact ⟨A6, n6, c6, hc 0 _ rfl, hc 1 _ rfl, hc 2 _ rfl, hc 3 _ rfl, hc 4 _ rfl, hc 5 _ rfl, hc 6 _ rfl, s6⟩
theorem TrustRootOC.one : OOne TrustRootOC := by
  intro w fp cs x h
  obtain ⟨u6, rfl, r6, ef⟩ := h
  obtain ⟨a6, m6, c6, e6⟩ := ownsRow_slice r6
  subst e6
  intro u hu
  simp only [List.mem_cons, List.not_mem_nil, or_false] at hu
  rcases hu with rfl | rfl | rfl | rfl | rfl | rfl | rfl <;> rfl
theorem TrustRootOC.typed (T : Nat) (n0 : 192 ≠ T) : OTyped TrustRootOC T := by
  intro w fp cs x g cs' h hb
  obtain ⟨u6, e, r6, ef⟩ := h
  subst ef
  intro hm
  exact ownsRow_typed r6 hb n0 hm
theorem TrustRootOC.len {w : World} {fp : List Nat} {cs : List Value} {x : DTrustRoot} (h : TrustRootOC w fp cs x) : cs.length = 7 := by
  obtain ⟨u6, rfl, _⟩ := h
  rfl
theorem TrustRootO.to_oc {lo hi : Nat} {w : World} {v : Value} {x : DTrustRoot} (h : TrustRootO lo hi w v x) : ∃ a6 k6 q6 fp, v = .agg #[I x.isd, I x.version, I x.notBefore, I x.notAfter, I x.voters, I x.quorum, .slice a6 k6 q6] ∧ TrustRootOC w fp [I x.isd, I x.version, I x.notBefore, I x.notAfter, I x.voters, I x.quorum, .slice a6 k6 q6] x ∧ fp.Nodup ∧ ∀ b ∈ fp, lo ≤ b ∧ b < hi := by
  obtain ⟨u6, e, o6, l0⟩ := h
  obtain ⟨a6, k6, q6, hu6⟩ : ∃ a n c, u6 = .slice a n c := o6.slice
  have b6 : ∀ b ∈ u6.ownBlock.toList, lo ≤ b ∧ b < hi := fun b hb => ⟨(o6.1.lt b (by simpa using hb)).1, o6.2 b (by simpa using hb)⟩
  have d6 : (u6.ownBlock.toList).Nodup := by cases u6.ownBlock <;> simp
  subst hu6
  exact ⟨a6, k6, q6, (Value.slice a6 k6 q6).ownBlock.toList, e, ⟨_, rfl, (o6.more (Nat.zero_le _) (Nat.le_refl _)).1, rfl⟩, d6, b6⟩
/-- A []TrustRoot of the call's own. -/
abbrev TrustRootSO (lo hi : Nat) (w : World) (v : Value) (xs : List DTrustRoot) : Prop := NO TrustRootOC 188 7 lo hi w v xs
theorem TrustRootSO_rd {lo hi : Nat} {w : World} {v : Value} {xs : List DTrustRoot} (h : TrustRootSO lo hi w v xs) (hhi : hi ≤ w.heap.size) : TrustRootS w.heap.size w v xs := (NO.sl (At := TrustRootAt) h (fun _ => rfl) TrustRootOC.at_).keep TrustRootAt.keeps hhi (fun _ _ => rfl)
theorem TrustRootSO_ext {lo hi : Nat} {w w' : World} {v : Value} {xs : List DTrustRoot} (h : TrustRootSO lo hi w v xs) (he : Ext w w') (_hhi : hi ≤ w.heap.size) : TrustRootSO lo hi w' v xs := NO.keep TrustRootOC.keeps h fun k _ _ h3 => he.same k h3
theorem TrustRootSO_out {lo hi : Nat} {lo' hi' : Nat} {w w' : World} {v : Value} {xs : List DTrustRoot} (h : TrustRootSO lo hi w v xs) (ho : Out lo' hi' w w') (hd : hi' ≤ lo ∨ hi ≤ lo') : TrustRootSO lo hi w' v xs := NO.keep TrustRootOC.keeps h fun k h1 h2 h3 => ho.block k h3 (by omega)
theorem TrustRootSO_drew {lo hi : Nat} {w : World} {v : Value} {xs : List DTrustRoot} (h : TrustRootSO lo hi w v xs) : TrustRootSO lo hi w.drew v xs := NO.keep TrustRootOC.keeps h fun _ _ _ _ => rfl
theorem TrustRootSO_alloc {lo hi : Nat} {w : World} {v : Value} {xs : List DTrustRoot} (h : TrustRootSO lo hi w v xs) (o : Obj) : TrustRootSO lo hi (w.alloc o) v xs := NO.keep TrustRootOC.keeps h fun k _ _ h3 => Below.heap_alloc w o k h3
theorem TrustRootSO_setCell {lo hi : Nat} {w : World} {v : Value} {xs : List DTrustRoot} (h : TrustRootSO lo hi w v xs) {p : Addr} (hp : p.block < lo ∨ hi ≤ p.block) (u : Value) : TrustRootSO lo hi (w.setCell p u) v xs := NO.keep TrustRootOC.keeps h fun k h1 h2 _ => Below.heap_setCell _ _ _ _ (by omega)
theorem TrustRootSO_keep {lo hi : Nat} {w w' : World} {v : Value} {xs : List DTrustRoot} (h : TrustRootSO lo hi w v xs) (hk : ∀ k, lo ≤ k → k < hi → k < w.heap.size → w'.heap[k]? = w.heap[k]?) : TrustRootSO lo hi w' v xs := NO.keep TrustRootOC.keeps h hk
set_option maxRecDepth 100000 in
set_option maxHeartbeats 1000000 in
theorem toTrustRootS (v : Value) (ds : List DTrustRoot) (w : World) (h : TrustRootS w.heap.size w v ds) (hn : totS (fun y => y.sigs.length) ds ≤ 16777216) :
    Calls Tryz.prog 52 #[v] w fun e w' => ∃ v', e = .returned v' ∧ TrustRootSO w.heap.size w'.heap.size w' v' ds ∧ Ext w w' := by
  obtain ⟨A, n, c, rfl, hl, -⟩ := id h
  subst hl
  have hn : ds.length + (ds.map fun y => y.sigs.length).sum ≤ 16777216 := hn
  have hmk := run_mk (P := Tryz.prog) 99 188 (.agg #[.int .i64 0, .int .i64 0, .int .i64 0, .int .i64 0, .int .i64 0, .int .i64 0, .slice none 0 0]) 7 72 Tryz.underlying99 info_TrustRoot ds.length (by omega) (by omega)
  have hml := mkRow_len (.agg #[.int .i64 0, .int .i64 0, .int .i64 0, .int .i64 0, .int .i64 0, .int .i64 0, .slice none 0 0]) (ds.length * 7)
  generalize mkRow (.agg #[.int .i64 0, .int .i64 0, .int .i64 0, .int .i64 0, .int .i64 0, .int .i64 0, .slice none 0 0]) (ds.length * 7) = mr at *
  have H := Lib.hid h; clear h
  have HM := Lib.hid hml; clear hml
  go_enter Tryz.func52, Tryz.ntmps52
  go_wp2
  go_loopw [4] (fun i wr => ∃ (k : Nat) (cs rest : List Value) (fp : List Nat), k ≤ ds.length ∧ i = I k ∧ Blk wr w.heap.size 188 (cs ++ rest) ∧ OL TrustRootOC 7 wr (ds.take k) fp cs ∧ (w.heap.size :: fp).Nodup ∧ (∀ b ∈ fp, w.heap.size < b ∧ b < wr.heap.size) ∧ rest.length = (ds.length - k) * 7 ∧ Ext w wr) (fun i _ => ds.length - (intOf i).toNat)
  case atStart => exact ⟨0, [], mr.toList, [], by omega, rfl, by simpa using Blk.new w 188 mr.toList, ⟨rfl, rfl⟩, by simp, by simp, by simpa using HM.out, (Ext.refl _).alloc _⟩
  case round =>
    obtain ⟨k, cs, rest, fp, hk, rfl, hb, hol, hnd, hbd, hr, he⟩ := hrel
    have HE := Lib.hid he
    have HB := Lib.hid hb; clear hb
    have HOL := Lib.hid hol; clear hol
    have HND := Lib.hid hnd; clear hnd
    have HBD := Lib.hid hbd; clear hbd
    by_cases hlt : k < ds.length
    · obtain ⟨b, off, rfl, hbb, _, hc⟩ := (H.out.ext he).at_ hlt
      have hsm := sum_mem (fun y => y.sigs.length) ds k hlt
      obtain ⟨r0, r1, r2, r3, r4, r5, r6, rest, rfl⟩ : ∃ r0 r1 r2 r3 r4 r5 r6 rest', rest = r0 :: r1 :: r2 :: r3 :: r4 :: r5 :: r6 :: rest' := by
        match rest, hr with
        | r0 :: r1 :: r2 :: r3 :: r4 :: r5 :: r6 :: rest, _ => exact ⟨r0, r1, r2, r3, r4, r5, r6, rest, rfl⟩
        | [], h => simp at h; omega
        | [_], h => simp at h; omega
        | [_, _], h => simp at h; omega
        | [_, _, _], h => simp at h; omega
        | [_, _, _, _], h => simp at h; omega
        | [_, _, _, _, _], h => simp at h; omega
        | [_, _, _, _, _, _], h => simp at h; omega
      have hlr : rest.length = (ds.length - (k + 1)) * 7 := by simp only [List.length_cons] at hr; omega
      have HR := Lib.hid hlr; clear hr he hlr
      have HX := Lib.hid (take_snoc ds k hlt)
      generalize ds[k] = x at *
      obtain ⟨A6, n6, c6, hc0, hc1, hc2, hc3, hc4, hc5, hc6, s6⟩ := hc
      have S6 := Lib.hid s6; clear s6
      have hp : cs.length = k * 7 := by rw [HOL.out.len, List.length_take, Nat.min_eq_left hk]
      have HP := Lib.hid hp; clear hp
      have hwg : w.heap.size < wr.heap.size := HB.out.lt
      go_wp2_with fail
      refine (toTrustRoot _ x _ (by exact ⟨_, _, _, rfl, S6.out⟩) (by omega)).mono ?_
      rintro e w1 ⟨v1, rfl, ho1, he1⟩
      obtain ⟨a6, k6, q6, f1, rfl, hoc, hn1, hb1⟩ := ho1.to_oc
      have HOC := Lib.hid hoc; have HN1 := Lib.hid hn1; have HB1F := Lib.hid hb1; clear hoc hn1 hb1 ho1
      have HB1 := Lib.hid (HB.out.below he1.below hwg)
      have hz1 := he1.size
      have HE1 := Lib.hid he1
      clear he1
      obtain ⟨hu0, hu1, hu2, hu3, hu4, hu5, hu6⟩ := cells_at7 HB1.out HP.out
      have hf0 := HB1.out.frozen (k * 7)
      have hf1 := HB1.out.frozen (k * 7 + 1)
      have hf2 := HB1.out.frozen (k * 7 + 2)
      have hf3 := HB1.out.frozen (k * 7 + 3)
      have hf4 := HB1.out.frozen (k * 7 + 4)
      have hf5 := HB1.out.frozen (k * 7 + 5)
      have hf6 := HB1.out.frozen (k * 7 + 6)
      go_wp2
      go_roundw
      case rel =>
        obtain ⟨g1, g2, g3⟩ := nest_step (w2 := (((((((w1.setCell ⟨w.heap.size, k * 7, none⟩ (I x.isd)).setCell ⟨w.heap.size, k * 7 + 1, none⟩ (I x.version)).setCell ⟨w.heap.size, k * 7 + 2, none⟩ (I x.notBefore)).setCell ⟨w.heap.size, k * 7 + 3, none⟩ (I x.notAfter)).setCell ⟨w.heap.size, k * 7 + 4, none⟩ (I x.voters)).setCell ⟨w.heap.size, k * 7 + 5, none⟩ (I x.quorum)).setCell ⟨w.heap.size, k * 7 + 6, none⟩ (.slice a6 k6 q6))) TrustRootOC.keeps HOL.out HE1.out HOC.out rfl HBD.out HND.out HN1.out HB1F.out hwg (fun b hb => (Eq.trans (Below.heap_setCell _ ⟨w.heap.size, k * 7 + 6, none⟩ _ b hb) (Eq.trans (Below.heap_setCell _ ⟨w.heap.size, k * 7 + 5, none⟩ _ b hb) (Eq.trans (Below.heap_setCell _ ⟨w.heap.size, k * 7 + 4, none⟩ _ b hb) (Eq.trans (Below.heap_setCell _ ⟨w.heap.size, k * 7 + 3, none⟩ _ b hb) (Eq.trans (Below.heap_setCell _ ⟨w.heap.size, k * 7 + 2, none⟩ _ b hb) (Eq.trans (Below.heap_setCell _ ⟨w.heap.size, k * 7 + 1, none⟩ _ b hb) (Below.heap_setCell _ ⟨w.heap.size, k * 7, none⟩ _ b hb)))))))) (by simp only [World.size_setCell])
        refine ⟨k + 1, cs ++ [I x.isd, I x.version, I x.notBefore, I x.notAfter, I x.voters, I x.quorum, .slice a6 k6 q6], rest, fp ++ f1, by omega, by go_num, ?_, ?_, g2, g3, HR.out, ?_⟩
        · have := ((((((HB1.out.set_ (k * 7) (I x.isd)).set_ (k * 7 + 1) (I x.version)).set_ (k * 7 + 2) (I x.notBefore)).set_ (k * 7 + 3) (I x.notAfter)).set_ (k * 7 + 4) (I x.voters)).set_ (k * 7 + 5) (I x.quorum)).set_ (k * 7 + 6) (.slice a6 k6 q6)
          rw [set_at7 _ _ _ _ _ _ _ _ _ _ _ _ _ _ _ _ _ HP.out] at this
          simpa using this
        · rw [HX.out]
          exact g1
        · exact (((((((HE.out.trans HE1.out).setCell (by simp) _).setCell (by simp) _).setCell (by simp) _).setCell (by simp) _).setCell (by simp) _).setCell (by simp) _).setCell (by simp) _
      case measure => simp [intOf]; omega
    · have HR := Lib.hid hr; clear hr he
      go_wp2
      go_ret
      have e : k = ds.length := by omega
      have hr := HR.out
      subst e
      obtain rfl : rest = [] := List.eq_nil_of_length_eq_zero (by simpa using hr)
      have hb := HB.out
      have hol := HOL.out
      rw [List.append_nil] at hb
      rw [List.take_length] at hol
      exact ⟨_, rfl, ⟨cs, fp, Own.of_blk hb hol.len (by unfold maxLen; omega) (Nat.le_refl _) hb.lt, hol, by simpa [Value.ownBlock] using HND.out, fun b hb => ⟨by have := (HBD.out b hb).1; omega, (HBD.out b hb).2⟩⟩, HE.out⟩
set_option maxRecDepth 100000 in
set_option maxHeartbeats 1000000 in
theorem eqTrustRootS (v1 v2 : Value) (xs ys : List DTrustRoot) (w : World) (h1 : TrustRootS w.heap.size w v1 xs) (h2 : TrustRootS w.heap.size w v2 ys) :
    Calls Tryz.prog 56 #[v1, v2] w fun e w' => e = .returned (.bool (decide (xs = ys))) ∧ Ext w w' := by
  obtain ⟨A1, n1, c1, rfl, hl1, hn1, hm1, -⟩ := id h1
  obtain ⟨A2, n2, c2, rfl, hl2, hn2, hm2, -⟩ := id h2
  unfold maxLen at hm1 hm2
  have H1 := Lib.hid h1; have H2 := Lib.hid h2; have E1 := Lib.hid hl1; have E2 := Lib.hid hl2; clear h1 h2 hl1 hl2
  by_cases hn : n1 = n2
  · subst hn
    go_enter Tryz.func56, Tryz.ntmps56
    go_wp2
    go_loopw [5] (fun i wr => ∃ k : Nat, k ≤ n1 ∧ i = I k ∧ xs.take k = ys.take k ∧ Ext w wr) (fun i _ => n1 - (intOf i).toNat)
    case atStart => exact ⟨0, by omega, rfl, by simp, Ext.refl _⟩
    case round =>
      obtain ⟨k, hk, rfl, hq, he⟩ := hrel
      have HQ := Lib.hid hq; clear hq
      have HE := Lib.hid he; clear he
      by_cases hlt : k < n1
      · obtain ⟨b1, o1, rfl, hb1, hk1, hc1⟩ := (H1.out.ext HE.out).at_ hlt
        obtain ⟨b2, o2, rfl, hb2, hk2, hc2⟩ := (H2.out.ext HE.out).at_ hlt
        have i0 : (0 : Int) ≤ (k : Int) := by omega
        have i1 : (k : Int) < (n1 : Int) := by omega
        have X1 := Lib.hid (take_snoc xs k hk1)
        have X2 := Lib.hid (take_snoc ys k hk2)
        have hne : ¬ xs[k] = ys[k] → xs ≠ ys := fun hne h => hne (by subst h; rfl)
        have HN := Lib.hid hne; clear hne
        generalize xs[k] = x at *
        generalize ys[k] = y at *
        obtain ⟨A16, n16, c16, h10, h11, h12, h13, h14, h15, h16, s16⟩ := hc1
        obtain ⟨A26, n26, c26, h20, h21, h22, h23, h24, h25, h26, s26⟩ := hc2
        have S16 := Lib.hid s16; clear s16
        have S26 := Lib.hid s26; clear s26
        go_wp2_with fail
        go_region_held3 (fun W => wr.heap.size ≤ W.heap.size ∧ ∀ b o, b < wr.heap.size → W.cell? ⟨b, o, none⟩ = wr.cell? ⟨b, o, none⟩)
          (first | exact ⟨Nat.le_refl _, fun _ _ _ => rfl⟩ | exact keepC (by assumption) he1)
          (first | (go_at_call 145; refine (eqTrustRoot _ _ x y _ (by exact ⟨_, _, _, rfl, S16.out.ext xe⟩) (by exact ⟨_, _, _, rfl, S26.out.ext xe⟩)).mono ?_; rintro e w1 ⟨rfl, he1⟩))
        have HE1 := Lib.hid (HE.out.drew.trans he1)
        have hdd : decide (x = y) = true ↔ x = y := decide_eq_true_iff
        have HD := Lib.hid hdd; clear hdd
        generalize decide (x = y) = bb at *
        cases bb
        · have hxy : ¬ x = y := fun h => by have := HD.out.2 h; cases this
          have HXY := Lib.hid hxy; clear hxy
          go_wp2
          go_ret
          exact ⟨ret_bool (by simp [HN.out HXY.out]), HE1.out⟩
        · have HXY := Lib.hid (HD.out.1 rfl)
          go_wp2
          go_roundw
          case rel => exact ⟨k + 1, by omega, by go_num, by rw [X1.out, X2.out, HQ.out, HXY.out], HE1.out⟩
          case measure => simp [intOf]; omega
      · go_wp2
        go_ret
        have h := HQ.out
        rw [List.take_of_length_le (by rw [E1.out]; omega), List.take_of_length_le (by rw [E2.out]; omega)] at h
        exact ⟨ret_bool (by simp [h]), HE.out⟩
  · have hb : ((n1 : Int) == (n2 : Int)) = false := by simp; omega
    have hb' : ((n1 : Int) != (n2 : Int)) = true := by simp; omega
    have HN := Lib.hid hn; clear hn
    go_enter Tryz.func56, Tryz.ntmps56
    go_wp2
    go_ret
    have : xs ≠ ys := fun h => HN.out (by rw [← E1.out, ← E2.out, h])
    exact ⟨ret_bool (by simp [this]), Ext.refl _⟩
set_option maxRecDepth 100000 in
set_option maxHeartbeats 1000000 in
theorem szTrustRootS (v : Value) (ds : List DTrustRoot) (left : Int) (w : World) (h : TrustRootS w.heap.size w v ds) (h0 : 0 ≤ left) (hl : left ≤ 1048576) :
    Calls Tryz.prog 48 #[v, I left] w fun e w' => e = .returned (I (szR (totS (fun y => y.sigs.length) ds) left)) ∧ Ext w w' := by
  obtain ⟨A, n, c, rfl, hl1, hn1, hm1, -⟩ := id h
  unfold maxLen at hm1
  subst hl1
  have H := Lib.hid h; clear h
  have HT : Hid (totS (fun y => y.sigs.length) ds = ds.length + (ds.map fun y => y.sigs.length).sum) := rfl
  by_cases hlt : left < (ds.length : Int)
  · have HF := Lib.hid (szR_neg (t := totS (fun y => y.sigs.length) ds) (left := left) (by rw [HT.out]; omega))
    go_enter Tryz.func48, Tryz.ntmps48
    go_wp2
    go_ret
    exact ⟨ret_int HF.out.symm, Ext.refl _⟩
  · go_enter Tryz.func48, Tryz.ntmps48
    go_wp2
    go_loopw [1, 5] (fun l i wr => ∃ (k : Nat) (z : Int), k ≤ ds.length ∧ i = I k ∧ l = I z ∧ z = left - ds.length - (((ds.take k).map fun y => y.sigs.length).sum : Nat) ∧ 0 ≤ z ∧ Ext w wr) (fun _ i _ => ds.length - (intOf i).toNat)
    case atStart => exact ⟨0, left - ds.length, by omega, rfl, rfl, by simp, by omega, Ext.refl _⟩
    case round =>
      obtain ⟨k, z, hk, rfl, rfl, hz, hz0, he⟩ := hrel
      have hzl : z ≤ 1048576 := by omega
      have HZ := Lib.hid hz; clear hz
      have HE := Lib.hid he; clear he
      by_cases hkn : k < ds.length
      · obtain ⟨b, off, rfl, hbb, _, hc⟩ := (H.out.ext HE.out).at_ hkn
        have HS := Lib.hid (sum_take (fun y => y.sigs.length) ds k hkn)
        have HS2 := Lib.hid (sum_take_le (fun y => y.sigs.length) ds (k + 1))
        generalize ds[k] = x at *
        obtain ⟨A6, n6, c6, hc0, hc1, hc2, hc3, hc4, hc5, hc6, s6⟩ := hc
        have S6 := Lib.hid s6; clear s6
        go_wp2_with fail
        refine (szTrustRoot _ x z _ (by exact ⟨_, _, _, rfl, S6.out⟩) (by omega) (by omega)).mono ?_
        rintro e w1 ⟨rfl, he1⟩
        by_cases hx : z < ((x.sigs.length : Nat) : Int)
        · rw [szR_neg hx]
          go_wp2_with fail
          go_ret
          refine ⟨ret_int (szR_neg ?_).symm, HE.out.trans he1⟩
          rw [HT.out]
          have h1 := HZ.out; have h2 := HS.out; have h3 := HS2.out
          omega
        · rw [szR_pos (by omega)]
          go_wp2_with fail
          go_roundw
          case rel =>
            refine ⟨k + 1, z - ((x.sigs.length : Nat) : Int), by omega, by go_num, rfl, ?_, by omega, HE.out.trans he1⟩
            rw [HS.out, HZ.out]
            omega
          case measure => simp [intOf]; omega
      · go_wp2_with fail
        go_ret
        obtain rfl : k = ds.length := by omega
        have h1 := HZ.out
        rw [List.take_length] at h1
        refine ⟨ret_int ?_, HE.out⟩
        rw [szR_pos (by rw [HT.out]; omega), HT.out, h1]
        omega
/-- How many numbers an element takes, and the element with its numbers from q on. -/
def TrustRootCnt (x : DTrustRoot) : Nat := 6 + 2 * x.sigs.length
def TrustRootNumE (q : Nat) (x : DTrustRoot) : DTrustRoot := ⟨(q : Int), (q : Int) + 1, (q : Int) + 1 + 1, (q : Int) + 1 + 1 + 1, (q : Int) + 1 + 1 + 1 + 1, (q : Int) + 1 + 1 + 1 + 1 + 1, (SignatureNum (q + 6) x.sigs.length)⟩
theorem TrustRootCnt_le (x : DTrustRoot) : TrustRootCnt x ≤ 10 + 10 * (x.sigs.length) := by
  unfold TrustRootCnt
  omega
theorem TrustRootCnt_sum (l : List DTrustRoot) : (l.map TrustRootCnt).sum ≤ 10 * (totS (fun y => y.sigs.length) l) := cnt_le (fun x => TrustRootCnt_le x) l
set_option maxRecDepth 100000 in
set_option maxHeartbeats 1000000 in
theorem markTrustRootS_row (v : Value) (xs : List DTrustRoot) (q : Nat) (qi : Int) (w : World) (cs : List Value) (fp : List Nat) (ho : w.ownsRow 0 188 7 v xs.length cs) (hl : OL TrustRootOC 7 w xs fp cs) (hn : (v.ownBlock.toList ++ fp).Nodup) (hqi : qi = (q : Int)) (hq : q + (xs.map TrustRootCnt).sum ≤ 1000000000000000) :
    Calls Tryz.prog 65 #[v, I qi] w fun e w' => e = .returned (I ((q + (xs.map TrustRootCnt).sum : Nat) : Int)) ∧ (∃ cs', w'.ownsRow 0 188 7 v xs.length cs' ∧ OL TrustRootOC 7 w' (numS TrustRootNumE TrustRootCnt q xs) fp cs') ∧ OutF (v.ownBlock.toList ++ fp) w w' := by
  subst hqi
  rcases Own.cases (hi := w.heap.size) ⟨ho, fun k hk => (ho.lt k hk).2⟩ with ⟨rfl, h0, hx⟩ | ⟨g, cap, rest, rfl, h1, h2, hb, hlc, hnn, hm, hs⟩
  · obtain rfl : xs = [] := List.eq_nil_of_length_eq_zero h0
    subst hx
    have HL := Lib.hid hl; clear hl ho hn h0
    go_enter Tryz.func65, Tryz.ntmps65
    go_wp2
    go_loop [1, 5] (fun k i => k = I q ∧ i = I 0) (fun _ _ => 0)
    case atStart => exact ⟨rfl, rfl⟩
    case round =>
      obtain ⟨rfl, rfl⟩ := hrel
      go_wp2
      go_ret
      exact ⟨rfl, ⟨[], World.ownsRow_nil _ _ _ _, HL.out⟩, OutF.refl _ _⟩
  · have hnd : (g :: fp).Nodup := by simpa [Value.ownBlock] using hn
    have M0 := Lib.hid (MInv.start (f := TrustRootNumE) (c := TrustRootCnt) (q := q) hb hl)
    have HND := Lib.hid hnd
    have HS := Lib.hid hs
    have HLC := Lib.hid hl.len
    clear ho hl hn hb hlc hs hnd
    unfold maxLen at hm
    go_enter Tryz.func65, Tryz.ntmps65
    go_wp2
    go_loopw [1, 5] (fun k i wr => ∃ j p : Nat, j ≤ xs.length ∧ k = I p ∧ i = I j ∧ MInv TrustRootOC 7 TrustRootNumE TrustRootCnt 188 g rest fp xs q w wr j p) (fun _ i _ => xs.length - (intOf i).toNat)
    case atStart => exact ⟨0, q, by omega, rfl, rfl, M0.out⟩
    case round =>
      obtain ⟨j, p, hj, rfl, rfl, hM⟩ := hrel
      have HM := Lib.hid hM; clear hM M0
      by_cases hlt : j < xs.length
      · have hpb : p + TrustRootCnt xs[j] ≤ 1000000000000000 := by
          have h1 := HM.out.1
          have h2 := sum_take TrustRootCnt xs j hlt
          have h3 := sum_take_le TrustRootCnt xs (j + 1)
          omega
        obtain ⟨f1, pre, post, c1, hoc, hpl, hbl, hg, hf, hgo⟩ := HM.out.step TrustRootOC.keeps HND.out hlt
        have HGO := Lib.hid hgo; clear hgo
        have HF := Lib.hid hf; clear hf
        generalize xs[j] = x at *
        unfold TrustRootCnt at hpb
        obtain ⟨u6, rfl, r6, rfl⟩ := hoc
        have R6 := Lib.hid r6; clear r6
        obtain ⟨A6, n6, c6, hu6⟩ := ownsRow_slice R6.out
        subst hu6
        have G6 : Hid (g ∉ (Value.slice A6 n6 c6).ownBlock.toList) := fun hm => hg (by first | exact hm | (simp only [List.mem_append] at hm ⊢; simp [hm]))
        clear hg
        have HPL := Lib.hid hpl; clear hpl
        have B0 := Lib.hid hbl; clear hbl
        simp only [List.cons_append, List.nil_append] at B0
        have lg : g < wr.heap.size := B0.out.lt
        obtain ⟨hu0, hu1, hu2, hu3, hu4, hu5, hu6⟩ := cells_at7 B0.out HPL.out
        have hf0 := B0.out.frozen (j * 7)
        have hf1 := B0.out.frozen (j * 7 + 1)
        have hf2 := B0.out.frozen (j * 7 + 2)
        have hf3 := B0.out.frozen (j * 7 + 3)
        have hf4 := B0.out.frozen (j * 7 + 4)
        have hf5 := B0.out.frozen (j * 7 + 5)
        have hf6 := B0.out.frozen (j * 7 + 6)
        go_wp2_with fail
        refine (markSignatureS_row _ x.sigs (p + 6) ((p : Int) + 1 + 1 + 1 + 1 + 1 + 1) _ (by exact ownsRow_set (ownsRow_set (ownsRow_set (ownsRow_set (ownsRow_set (ownsRow_set (R6.out) G6.out) G6.out) G6.out) G6.out) G6.out) G6.out) (by omega) (by omega)).mono ?_
        rintro e w6 ⟨rfl, r6, t6⟩
        have R6' := Lib.hid r6; clear r6
        have T6 := Lib.hid t6; clear t6
        have B6' := Blk.outF (Blk.set_ (Blk.set_ (Blk.set_ (Blk.set_ (Blk.set_ (Blk.set_ (B0.out) (j * 7) (I ((p : Int)))) (j * 7 + 1) (I ((p : Int) + 1))) (j * 7 + 2) (I ((p : Int) + 1 + 1))) (j * 7 + 3) (I ((p : Int) + 1 + 1 + 1))) (j * 7 + 4) (I ((p : Int) + 1 + 1 + 1 + 1))) (j * 7 + 5) (I ((p : Int) + 1 + 1 + 1 + 1 + 1))) T6.out G6.out
        have B6 : Hid (Blk w6 g 188 (pre ++ (I ((p : Int)) :: I ((p : Int) + 1) :: I ((p : Int) + 1 + 1) :: I ((p : Int) + 1 + 1 + 1) :: I ((p : Int) + 1 + 1 + 1 + 1) :: I ((p : Int) + 1 + 1 + 1 + 1 + 1) :: .slice A6 n6 c6 :: post))) := by
          unfold Hid
          have h := B6'
          rw [← HPL.out] at h
          simpa using h
        clear B6'
        have z6 := T6.out.size
        simp only [World.size_setCell] at z6
        have lg6 : g < w6.heap.size := by omega
        obtain ⟨hv6_0, hv6_1, hv6_2, hv6_3, hv6_4, hv6_5, hv6_6⟩ := cells_at7 B6.out HPL.out
        have hg6_0 := B6.out.frozen (j * 7)
        have hg6_1 := B6.out.frozen (j * 7 + 1)
        have hg6_2 := B6.out.frozen (j * 7 + 2)
        have hg6_3 := B6.out.frozen (j * 7 + 3)
        have hg6_4 := B6.out.frozen (j * 7 + 4)
        have hg6_5 := B6.out.frozen (j * 7 + 5)
        have hg6_6 := B6.out.frozen (j * 7 + 6)
        have hOC : TrustRootOC w6 ((Value.slice A6 n6 c6).ownBlock.toList) [I ((p : Int)), I ((p : Int) + 1), I ((p : Int) + 1 + 1), I ((p : Int) + 1 + 1 + 1), I ((p : Int) + 1 + 1 + 1 + 1), I ((p : Int) + 1 + 1 + 1 + 1 + 1), .slice A6 n6 c6] (TrustRootNumE p x) := ⟨_, rfl, (by unfold TrustRootNumE; dsimp only; rw [SignatureNum_len]; exact R6'.out), rfl⟩
        have HOC := Lib.hid hOC; clear hOC
        have hOU : OutF (g :: ((Value.slice A6 n6 c6).ownBlock.toList)) wr w6 := (by repeat (first | (with_reducible exact OutF.refl _ _) | (with_reducible refine OutF.setCell ?_ ?ge _; case ge => simp) | (with_reducible refine OutF.trans ?_ (T6.out.mono (fun x hx => List.mem_cons_of_mem _ (by first | exact hx | (simp only [List.mem_append] at hx ⊢; simp [hx])))))))
        have HOU := Lib.hid hOU; clear hOU
        go_wp2_with fail
        go_roundw
        case rel =>
          exact ⟨j + 1, p + TrustRootCnt x, by omega, by simp only [TrustRootCnt, Value.int.injEq, true_and]; omega, by go_num, HGO.out _ _ HOC.out rfl B6.out HOU.out⟩
        case measure => simp [intOf]; omega
      · go_wp2_with fail
        go_ret
        obtain rfl : j = xs.length := by omega
        obtain ⟨hp, cs', hb', hl', ho'⟩ := HM.out.stop
        subst hp
        have hs := HS.out
        have e1 : cs'.length = cs.length := by rw [hl'.len, numS_len, HLC.out]
        refine ⟨rfl, ⟨cs', row_of_blk hb' (by rw [hl'.len, numS_len]) hnn (by unfold maxLen; omega) (by rw [← hs, List.length_append, List.length_append, e1]), hl'⟩, by simpa [Value.ownBlock] using ho'⟩
theorem markTrustRootS (v : Value) (xs : List DTrustRoot) (q lo hi : Nat) (w : World) (h : TrustRootSO lo hi w v xs) (hq : q + (xs.map TrustRootCnt).sum ≤ 1000000000000000) :
    Calls Tryz.prog 65 #[v, I q] w fun e w' => e = .returned (I ((q + (xs.map TrustRootCnt).sum : Nat) : Int)) ∧ TrustRootSO lo hi w' v (numS TrustRootNumE TrustRootCnt q xs) ∧ Out lo hi w w' :=
  calls_NO numS_len h fun cs fp h1 h2 h3 => markTrustRootS_row v xs q q w cs fp h1 h2 h3 rfl hq
end Go.Proofs.YtbojbgicmdgfaaaGreat
namespace Go.Proofs.YtbojbgicmdgfaaaGreat
open Go.RowKit
set_option linter.unusedVariables false
theorem info_Certificate : (Tryz.prog.info? 194).map (fun i => (i.zero, i.size, i.bytes)) = some (some (.agg #[.int .i64 0, .int .i64 0, .int .i64 0, .int .i64 0, .int .i64 0, .int .i64 0, .int .i64 0]), 7, 56) := by kernel_rfl

theorem row_Certificate {B : Nat} {w : World} {A : Option Addr} {n c : Nat} {xs : List DCertificate} (h : CertificateS B w (.slice A n c) xs) : Row w 7 A n (xs.flatMap CertificateC) := row_flat (C := CertificateC) (sz := 7) (fun _ => rfl) (by omega) CertificateAt.cells_ h

/-- A []Certificate of the call's own. -/
abbrev CertificateSO (lo hi : Nat) (w : World) (v : Value) (xs : List DCertificate) : Prop := Own 194 7 lo hi w v xs.length (xs.flatMap CertificateC)
theorem CertificateSO_rd {lo hi : Nat} {w : World} {v : Value} {xs : List DCertificate} (h : CertificateSO lo hi w v xs) : CertificateS w.heap.size w v xs := (Own.lt_size h).sl (At := CertificateAt) CertificateC.len (by omega) CertificateC.at_
set_option maxRecDepth 100000 in
set_option maxHeartbeats 1000000 in
theorem toCertificate (x : DCertificate) (w : World) : Calls Tryz.prog 137 #[.agg #[I x.asn, I x.keyDigest, I x.rootVersion, I x.notBefore, I x.notAfter, I x.sig.asn, I x.sig.value]] w fun e w' => e = .returned (.agg #[I x.asn, I x.keyDigest, I x.rootVersion, I x.notBefore, I x.notAfter, I x.sig.asn, I x.sig.value]) ∧ Ext w w' := by
  go_enter Tryz.func137, Tryz.ntmps137
  go_wp2_with fail
  refine (toSignature x.sig _).mono ?_
  rintro e w1 ⟨rfl, he⟩
  obtain ⟨hc1, hf1, hz1⟩ := he.facts
  go_wp2_with fail
  exact bodyPost_ret (v := .agg #[I x.asn, I x.keyDigest, I x.rootVersion, I x.notBefore, I x.notAfter, I x.sig.asn, I x.sig.value]) (by simp [results, Tryz.results137, go_sem, hc1]) rfl ⟨rfl, xe⟩
set_option maxRecDepth 100000 in
set_option maxHeartbeats 1000000 in
theorem toCertificateS (v : Value) (ds : List DCertificate) (w : World) (h : CertificateS w.heap.size w v ds) (hn : ds.length ≤ 16777216) :
    Calls Tryz.prog 53 #[v] w fun e w' => ∃ v', e = .returned v' ∧ CertificateSO w.heap.size w'.heap.size w' v' ds ∧ Ext w w' := by
  obtain ⟨A, n, c, rfl, hl, -⟩ := id h
  subst hl
  have hmk := run_mk (P := Tryz.prog) 101 194 (.agg #[.int .i64 0, .int .i64 0, .int .i64 0, .int .i64 0, .int .i64 0, .int .i64 0, .int .i64 0]) 7 56 Tryz.underlying101 info_Certificate ds.length (by omega) (by omega)
  have hml := mkRow_len (.agg #[.int .i64 0, .int .i64 0, .int .i64 0, .int .i64 0, .int .i64 0, .int .i64 0, .int .i64 0]) (ds.length * 7)
  generalize mkRow (.agg #[.int .i64 0, .int .i64 0, .int .i64 0, .int .i64 0, .int .i64 0, .int .i64 0, .int .i64 0]) (ds.length * 7) = mr at *
  have H := Lib.hid h; clear h
  have HM := Lib.hid hml; clear hml
  go_enter Tryz.func53, Tryz.ntmps53
  go_wp2
  go_loopw [4] (fun i wr => ∃ (k : Nat) (rest : List Value), k ≤ ds.length ∧ i = I k ∧ Blk wr w.heap.size 194 ((ds.take k).flatMap CertificateC ++ rest) ∧ rest.length = (ds.length - k) * 7 ∧ Ext w wr) (fun i _ => ds.length - (intOf i).toNat)
  case atStart => exact ⟨0, mr.toList, by omega, rfl, by simpa using Blk.new w 194 mr.toList, by simpa using HM.out, (Ext.refl _).alloc _⟩
  case round =>
    obtain ⟨k, rest, hk, rfl, hb, hr, he⟩ := hrel
    have HE := Lib.hid he
    have HB := Lib.hid hb; clear hb
    by_cases hlt : k < ds.length
    · obtain ⟨b, off, rfl, hbb, _, hc⟩ := (H.out.ext he).at_ hlt
      obtain ⟨r0, r1, r2, r3, r4, r5, r6, rest, rfl⟩ : ∃ r0 r1 r2 r3 r4 r5 r6 rest', rest = r0 :: r1 :: r2 :: r3 :: r4 :: r5 :: r6 :: rest' := by
        match rest, hr with
        | r0 :: r1 :: r2 :: r3 :: r4 :: r5 :: r6 :: rest, _ => exact ⟨r0, r1, r2, r3, r4, r5, r6, rest, rfl⟩
        | [], h => simp at h; omega
        | [_], h => simp at h; omega
        | [_, _], h => simp at h; omega
        | [_, _, _], h => simp at h; omega
        | [_, _, _, _], h => simp at h; omega
        | [_, _, _, _, _], h => simp at h; omega
        | [_, _, _, _, _, _], h => simp at h; omega
      have hlr : rest.length = (ds.length - (k + 1)) * 7 := by simp only [List.length_cons] at hr; omega
      have HR := Lib.hid hlr; clear hr he hlr
      have HX := Lib.hid (take_snoc ds k hlt)
      generalize ds[k] = x at *
      obtain ⟨hc0, hc1, hc2, hc3, hc4, hc5, hc6⟩ := hc
      have hp := flat_len CertificateC 7 (fun _ => rfl) (ds.take k)
      rw [List.length_take, Nat.min_eq_left hk] at hp
      have HP := Lib.hid hp; clear hp
      have hwg : w.heap.size < wr.heap.size := HB.out.lt
      go_wp2_with fail
      refine (toCertificate x _).mono ?_
      rintro e w1 ⟨rfl, he1⟩
      have HB1 := Lib.hid (HB.out.below he1.below hwg)
      have hz1 := he1.size
      have HE1 := Lib.hid he1
      clear he1
      obtain ⟨hu0, hu1, hu2, hu3, hu4, hu5, hu6⟩ := cells_at7 HB1.out HP.out
      have hf0 := HB1.out.frozen (k * 7)
      have hf1 := HB1.out.frozen (k * 7 + 1)
      have hf2 := HB1.out.frozen (k * 7 + 2)
      have hf3 := HB1.out.frozen (k * 7 + 3)
      have hf4 := HB1.out.frozen (k * 7 + 4)
      have hf5 := HB1.out.frozen (k * 7 + 5)
      have hf6 := HB1.out.frozen (k * 7 + 6)
      go_wp2
      go_roundw
      case rel =>
        refine ⟨k + 1, rest, by omega, by go_num, ?_, HR.out, ?_⟩
        · have := ((((((HB1.out.set_ (k * 7) (I x.asn)).set_ (k * 7 + 1) (I x.keyDigest)).set_ (k * 7 + 2) (I x.rootVersion)).set_ (k * 7 + 3) (I x.notBefore)).set_ (k * 7 + 4) (I x.notAfter)).set_ (k * 7 + 5) (I x.sig.asn)).set_ (k * 7 + 6) (I x.sig.value)
          rw [set_at7 _ _ _ _ _ _ _ _ _ _ _ _ _ _ _ _ _ HP.out] at this
          rw [HX.out, List.flatMap_append]
          simpa [CertificateC] using this
        · exact (((((((HE.out.trans HE1.out).setCell (by simp) _).setCell (by simp) _).setCell (by simp) _).setCell (by simp) _).setCell (by simp) _).setCell (by simp) _).setCell (by simp) _
      case measure => simp [intOf]; omega
    · have HR := Lib.hid hr; clear hr he
      go_wp2
      go_ret
      have e : k = ds.length := by omega
      have hr := HR.out
      subst e
      obtain rfl : rest = [] := List.eq_nil_of_length_eq_zero (by simpa using hr)
      have hb := HB.out
      rw [List.take_length, List.append_nil] at hb
      exact ⟨_, rfl, Own.of_blk hb (flat_len CertificateC 7 (fun _ => rfl) ds) (by unfold maxLen; omega) (Nat.le_refl _) hb.lt, HE.out⟩
set_option maxRecDepth 100000 in
set_option maxHeartbeats 1000000 in
theorem eqCertificate (v1 v2 : Value) (x y : DCertificate) (w : World) (h1 : CertificateV w.heap.size w v1 x) (h2 : CertificateV w.heap.size w v2 y) :
    Calls Tryz.prog 146 #[v1, v2] w fun e w' => e = .returned (.bool (decide (x = y))) ∧ Ext w w' := by
  obtain rfl := h1
  obtain rfl := h2
  go_enter Tryz.func146, Tryz.ntmps146
  go_wp2_with fail
  all_goals (try (go_ret; exact ⟨ret_bool (by simp_all [DCertificate.eq_iff]), xe⟩))
  refine (eqSignature _ _ x.sig y.sig _ rfl rfl).mono ?_
  rintro e w7 ⟨rfl, he7⟩
  obtain ⟨hc7, hf7, hz7⟩ := he7.facts
  go_wp2_with fail
  all_goals
    go_ret
    exact ⟨ret_bool (by simp_all [DCertificate.eq_iff]), xe⟩
set_option maxRecDepth 100000 in
set_option maxHeartbeats 1000000 in
theorem eqCertificateS (v1 v2 : Value) (xs ys : List DCertificate) (w : World) (h1 : CertificateS w.heap.size w v1 xs) (h2 : CertificateS w.heap.size w v2 ys) :
    Calls Tryz.prog 57 #[v1, v2] w fun e w' => e = .returned (.bool (decide (xs = ys))) ∧ Ext w w' := by
  obtain ⟨A1, n1, c1, rfl, hl1, hn1, hm1, -⟩ := id h1
  obtain ⟨A2, n2, c2, rfl, hl2, hn2, hm2, -⟩ := id h2
  unfold maxLen at hm1 hm2
  have H1 := Lib.hid h1; have H2 := Lib.hid h2; have E1 := Lib.hid hl1; have E2 := Lib.hid hl2; clear h1 h2 hl1 hl2
  by_cases hn : n1 = n2
  · subst hn
    go_enter Tryz.func57, Tryz.ntmps57
    go_wp2
    go_loopw [5] (fun i wr => ∃ k : Nat, k ≤ n1 ∧ i = I k ∧ xs.take k = ys.take k ∧ Ext w wr) (fun i _ => n1 - (intOf i).toNat)
    case atStart => exact ⟨0, by omega, rfl, by simp, Ext.refl _⟩
    case round =>
      obtain ⟨k, hk, rfl, hq, he⟩ := hrel
      have HQ := Lib.hid hq; clear hq
      have HE := Lib.hid he; clear he
      by_cases hlt : k < n1
      · obtain ⟨b1, o1, rfl, hb1, hk1, hc1⟩ := (H1.out.ext HE.out).at_ hlt
        obtain ⟨b2, o2, rfl, hb2, hk2, hc2⟩ := (H2.out.ext HE.out).at_ hlt
        have i0 : (0 : Int) ≤ (k : Int) := by omega
        have i1 : (k : Int) < (n1 : Int) := by omega
        have X1 := Lib.hid (take_snoc xs k hk1)
        have X2 := Lib.hid (take_snoc ys k hk2)
        have hne : ¬ xs[k] = ys[k] → xs ≠ ys := fun hne h => hne (by subst h; rfl)
        have HN := Lib.hid hne; clear hne
        generalize xs[k] = x at *
        generalize ys[k] = y at *
        obtain ⟨h10, h11, h12, h13, h14, h15, h16⟩ := hc1
        obtain ⟨h20, h21, h22, h23, h24, h25, h26⟩ := hc2
        go_wp2_with fail
        go_region_held3 (fun W => wr.heap.size ≤ W.heap.size ∧ ∀ b o, b < wr.heap.size → W.cell? ⟨b, o, none⟩ = wr.cell? ⟨b, o, none⟩)
          (first | exact ⟨Nat.le_refl _, fun _ _ _ => rfl⟩ | exact keepC (by assumption) he1)
          (first | (go_at_call 146; refine (eqCertificate _ _ x y _ (by exact rfl) (by exact rfl)).mono ?_; rintro e w1 ⟨rfl, he1⟩))
        have HE1 := Lib.hid (HE.out.drew.trans he1)
        have hdd : decide (x = y) = true ↔ x = y := decide_eq_true_iff
        have HD := Lib.hid hdd; clear hdd
        generalize decide (x = y) = bb at *
        cases bb
        · have hxy : ¬ x = y := fun h => by have := HD.out.2 h; cases this
          have HXY := Lib.hid hxy; clear hxy
          go_wp2
          go_ret
          exact ⟨ret_bool (by simp [HN.out HXY.out]), HE1.out⟩
        · have HXY := Lib.hid (HD.out.1 rfl)
          go_wp2
          go_roundw
          case rel => exact ⟨k + 1, by omega, by go_num, by rw [X1.out, X2.out, HQ.out, HXY.out], HE1.out⟩
          case measure => simp [intOf]; omega
      · go_wp2
        go_ret
        have h := HQ.out
        rw [List.take_of_length_le (by rw [E1.out]; omega), List.take_of_length_le (by rw [E2.out]; omega)] at h
        exact ⟨ret_bool (by simp [h]), HE.out⟩
  · have hb : ((n1 : Int) == (n2 : Int)) = false := by simp; omega
    have hb' : ((n1 : Int) != (n2 : Int)) = true := by simp; omega
    have HN := Lib.hid hn; clear hn
    go_enter Tryz.func57, Tryz.ntmps57
    go_wp2
    go_ret
    have : xs ≠ ys := fun h => HN.out (by rw [← E1.out, ← E2.out, h])
    exact ⟨ret_bool (by simp [this]), Ext.refl _⟩
set_option maxRecDepth 100000 in
set_option maxHeartbeats 1000000 in
theorem szCertificateS (v : Value) (ds : List DCertificate) (left : Int) (w : World) (h : CertificateS w.heap.size w v ds) (h0 : 0 ≤ left) (hl : left ≤ 1048576) :
    Calls Tryz.prog 49 #[v, I left] w fun e w' => e = .returned (I (szR ds.length left)) ∧ Ext w w' := by
  obtain ⟨A, n, c, rfl, hl1, hn1, hm1, -⟩ := id h
  unfold maxLen at hm1
  subst hl1
  clear h
  by_cases hlt : left < (ds.length : Int)
  · have HF := Lib.hid (szR_neg hlt)
    go_enter Tryz.func49, Tryz.ntmps49
    go_wp2
    go_ret
    exact ⟨ret_int HF.out.symm, Ext.refl _⟩
  · have HF := Lib.hid (szR_pos (t := ds.length) (left := left) (by omega))
    go_enter Tryz.func49, Tryz.ntmps49
    go_wp2
    go_ret
    exact ⟨ret_int HF.out.symm, Ext.refl _⟩
set_option maxRecDepth 100000 in
set_option maxHeartbeats 1000000 in
theorem markCertificateS (v : Value) (xs : List DCertificate) (q : Nat) (lo hi : Nat) (w : World) (h : CertificateSO lo hi w v xs) (hq : q + 7 * xs.length ≤ 1000000000000000) :
    Calls Tryz.prog 66 #[v, I q] w fun e w' => e = .returned (I ((q + 7 * xs.length : Nat) : Int)) ∧ Any1 ∧ Out lo hi w w' := by
  rcases h.cases with ⟨rfl, h0, hx⟩ | ⟨g, cap, rest, rfl, h1, h2, hb, hlc, hn, hm, hs⟩
  · rw [h0]
    clear h hx h0
    go_enter Tryz.func66, Tryz.ntmps66
    go_wp2
    go_loop [1, 5] (fun k i => k = I q ∧ i = I 0) (fun _ _ => 0)
    case atStart => exact ⟨rfl, rfl⟩
    case round =>
      obtain ⟨rfl, rfl⟩ := hrel
      go_wp2
      go_ret
      exact ⟨rfl, any1, Out.refl _ _ _⟩
  · have HB := Lib.hid hb
    clear h hb hlc hs
    unfold maxLen at hm
    go_enter Tryz.func66, Tryz.ntmps66
    go_wp2
    go_loopw [1, 5] (fun k i wr => ∃ (j p : Nat) (ys : List DCertificate), j ≤ xs.length ∧ p = q + 7 * j ∧ k = I p ∧ i = I j ∧ ys.length = j ∧ Blk wr g 194 (ys.flatMap CertificateC ++ ((xs.drop j).flatMap CertificateC ++ rest)) ∧ Out lo hi w wr) (fun _ i _ => xs.length - (intOf i).toNat)
    case atStart => exact ⟨0, q, [], by omega, by omega, rfl, rfl, rfl, by simpa using HB.out, Out.refl _ _ _⟩
    case round =>
      obtain ⟨j, p, ys, hj, hp, rfl, rfl, hyl, hbl, ho⟩ := hrel
      have hpb : p ≤ 1000000000000000 := by omega
      have HB1 := Lib.hid hbl; clear hbl
      have HO := Lib.hid ho; clear ho
      by_cases hlt : j < xs.length
      · have hpb : p + 7 ≤ 1000000000000000 := by omega
        have HPQ := Lib.hid hp; clear hp
        have hd := HB1.out
        rw [List.drop_eq_getElem_cons hlt, List.flatMap_cons, List.append_assoc] at hd
        have hpl : (ys.flatMap CertificateC).length = j * 7 := by rw [flat_len CertificateC 7 (fun _ => rfl), hyl]
        have HYL := Lib.hid hyl; clear hyl
        generalize xs[j] = x at *
        have hd : Blk wr g 194 (ys.flatMap CertificateC ++ I x.asn :: I x.keyDigest :: I x.rootVersion :: I x.notBefore :: I x.notAfter :: I x.sig.asn :: I x.sig.value :: ((xs.drop (j + 1)).flatMap CertificateC ++ rest)) := hd
        obtain ⟨hu0, hu1, hu2, hu3, hu4, hu5, hu6⟩ := cells_at7 hd hpl
        have hf0 := hd.frozen (j * 7)
        have hf1 := hd.frozen (j * 7 + 1)
        have hf2 := hd.frozen (j * 7 + 2)
        have hf3 := hd.frozen (j * 7 + 3)
        have hf4 := hd.frozen (j * 7 + 4)
        have hf5 := hd.frozen (j * 7 + 5)
        have hf6 := hd.frozen (j * 7 + 6)
        have hset := fun (_ : Unit) => ((((((hd.set_ (j * 7) (I ((p : Int)))).set_ (j * 7 + 1) (I ((p : Int) + 1))).set_ (j * 7 + 2) (I ((p : Int) + 1 + 1))).set_ (j * 7 + 3) (I ((p : Int) + 1 + 1 + 1))).set_ (j * 7 + 4) (I ((p : Int) + 1 + 1 + 1 + 1))).set_ (j * 7 + 5) (I ((p : Int) + 1 + 1 + 1 + 1 + 1))).set_ (j * 7 + 6) (I ((p : Int) + 1 + 1 + 1 + 1 + 1 + 1))
        have HT : Hid (∀ (_ : Unit), Blk (((((((wr.setCell ⟨g, j * 7, none⟩ (I ((p : Int)))).setCell ⟨g, j * 7 + 1, none⟩ (I ((p : Int) + 1))).setCell ⟨g, j * 7 + 2, none⟩ (I ((p : Int) + 1 + 1))).setCell ⟨g, j * 7 + 3, none⟩ (I ((p : Int) + 1 + 1 + 1))).setCell ⟨g, j * 7 + 4, none⟩ (I ((p : Int) + 1 + 1 + 1 + 1))).setCell ⟨g, j * 7 + 5, none⟩ (I ((p : Int) + 1 + 1 + 1 + 1 + 1))).setCell ⟨g, j * 7 + 6, none⟩ (I ((p : Int) + 1 + 1 + 1 + 1 + 1 + 1))) g 194 ((ys ++ ([⟨(p : Int), (p : Int) + 1, (p : Int) + 1 + 1, (p : Int) + 1 + 1 + 1, (p : Int) + 1 + 1 + 1 + 1, ⟨(p : Int) + 1 + 1 + 1 + 1 + 1, (p : Int) + 1 + 1 + 1 + 1 + 1 + 1⟩⟩] : List DCertificate)).flatMap CertificateC ++ ((xs.drop (j + 1)).flatMap CertificateC ++ rest))) := fun (_ : Unit) => by
          have h := hset ()
          rw [set_at7 _ _ _ _ _ _ _ _ _ _ _ _ _ _ _ _ _ hpl] at h
          simpa [CertificateC] using h
        clear hd hset hpl
        go_wp2
        go_roundw
        case rel => exact ⟨j + 1, p + 7, ys ++ ([⟨(p : Int), (p : Int) + 1, (p : Int) + 1 + 1, (p : Int) + 1 + 1 + 1, (p : Int) + 1 + 1 + 1 + 1, ⟨(p : Int) + 1 + 1 + 1 + 1 + 1, (p : Int) + 1 + 1 + 1 + 1 + 1 + 1⟩⟩] : List DCertificate), by omega, by rw [HPQ.out]; omega, by go_num, by go_num, by simp [HYL.out], HT.out (), ((((((HO.out.setCell h1 h2 _).setCell h1 h2 _).setCell h1 h2 _).setCell h1 h2 _).setCell h1 h2 _).setCell h1 h2 _).setCell h1 h2 _⟩
        case measure => simp [intOf]; omega
      · have HPQ := Lib.hid hp; clear hp
        go_wp2
        go_ret
        obtain rfl : j = xs.length := by omega
        have hp := HPQ.out
        subst hp
        exact ⟨rfl, any1, HO.out⟩
end Go.Proofs.YtbojbgicmdgfaaaGreat
