/- Contracts of the program's and the reference's functions on signatures: EqualSignatures, AddSignature. -/
import Derived.Test.YtikjpenhpmamiaaL03
import Derived.Test.YtikjpenhpmamiaaHSignature
namespace Go.Proofs.Ytikjpenhpmamiaa
open Go.RowKit
set_option linter.unusedVariables false
set_option maxRecDepth 100000 in
set_option maxHeartbeats 1000000 in
theorem impl_EqualSignatures (v1 v2 : Value) (xs ys : List DSignature) (w : World) (h1 : SignatureS w.heap.size w v1 xs) (h2 : SignatureS w.heap.size w v2 ys) :
    Calls Try.prog 28 #[v1, v2] w fun e w' => e = .returned (.bool (decide (xs = ys))) ∧ Ext w w' := by
  obtain ⟨A1, n1, c1, rfl, hl1, hn1, hm1, -⟩ := id h1
  obtain ⟨A2, n2, c2, rfl, hl2, hn2, hm2, -⟩ := id h2
  unfold maxLen at hm1 hm2
  have H1 := Lib.hid h1; have H2 := Lib.hid h2; have E1 := Lib.hid hl1; have E2 := Lib.hid hl2; clear h1 h2 hl1 hl2
  by_cases hn : n1 = n2
  · subst hn
    go_enter Try.func28, Try.ntmps28
    go_wp2
    go_loopw [13] (fun i wr => ∃ k : Nat, k ≤ n1 ∧ i = I k ∧ xs.take k = ys.take k ∧ Ext w wr) (fun i _ => n1 - (intOf i).toNat)
    case atStart => exact ⟨0, by omega, rfl, by simp, Ext.refl _⟩
    case round =>
      obtain ⟨k, hk, rfl, hq, he⟩ := hrel
      have HQ := Lib.hid hq; clear hq
      have HE := Lib.hid he; clear he
      by_cases hlt : k < n1
      · obtain ⟨b1, o1, rfl, hb1, hk1, hc1⟩ := (H1.out.ext HE.out).at_ hlt
        obtain ⟨b2, o2, rfl, hb2, hk2, hc2⟩ := (H2.out.ext HE.out).at_ hlt
        have i0 : (0 : Int) ≤ (k : Int) := by omega
        have i1 : (k : Int) < (n1 : Int) := by omega
        have X1 := Lib.hid (take_snoc xs k hk1)
        have X2 := Lib.hid (take_snoc ys k hk2)
        have hne : ¬ xs[k] = ys[k] → xs ≠ ys := fun hne h => hne (by subst h; rfl)
        have HN := Lib.hid hne; clear hne
        generalize xs[k] = x at *
        generalize ys[k] = y at *
        obtain ⟨h10, h11⟩ := hc1
        obtain ⟨h20, h21⟩ := hc2
        have hqn := fun W => neq_Signature x y W
        have hgd := guard_Signature
        have hdd : decide (x = y) = true ↔ x = y := decide_eq_true_iff
        have HD := Lib.hid hdd; clear hdd
        generalize decide (x = y) = bb at *
        cases bb
        · have hxy : ¬ x = y := fun h => by have := HD.out.2 h; cases this
          have HXY := Lib.hid hxy; clear hxy
          go_wp2
          go_quiet (fail)
          go_wp2
          go_ret
          exact ⟨ret_bool (by simp [HN.out HXY.out]), HE.out.drewN _⟩
        · have HXY := Lib.hid (HD.out.1 rfl)
          go_wp2
          go_quiet (fail)
          go_wp2
          go_roundw
          case rel => exact ⟨k + 1, by omega, by go_num, by rw [X1.out, X2.out, HQ.out, HXY.out], HE.out.drewN _⟩
          case measure => simp [intOf]; omega
      · go_wp2
        go_ret
        have h := HQ.out
        rw [List.take_of_length_le (by rw [E1.out]; omega), List.take_of_length_le (by rw [E2.out]; omega)] at h
        exact ⟨ret_bool (by simp [h]), HE.out⟩
  · have hb : ((n1 : Int) == (n2 : Int)) = false := by simp; omega
    have hb' : ((n1 : Int) != (n2 : Int)) = true := by simp; omega
    have HN := Lib.hid hn; clear hn
    go_enter Try.func28, Try.ntmps28
    go_wp2
    go_ret
    have : xs ≠ ys := fun h => HN.out (by rw [← E1.out, ← E2.out, h])
    exact ⟨ret_bool (by simp [this]), Ext.refl _⟩
set_option maxRecDepth 100000 in
set_option maxHeartbeats 1000000 in
theorem spec_EqualSignatures (v1 v2 : Value) (xs ys : List DSignature) (w : World) (h1 : SignatureS w.heap.size w v1 xs) (h2 : SignatureS w.heap.size w v2 ys) :
    Calls Try.prog 26 #[v1, v2] w fun e w' => e = .returned (.bool (decide (xs = ys))) ∧ Ext w w' := by
  obtain ⟨A1, n1, c1, rfl, hl1, hn1, hm1, -⟩ := id h1
  obtain ⟨A2, n2, c2, rfl, hl2, hn2, hm2, -⟩ := id h2
  unfold maxLen at hm1 hm2
  have H1 := Lib.hid h1; have H2 := Lib.hid h2; have E1 := Lib.hid hl1; have E2 := Lib.hid hl2; clear h1 h2 hl1 hl2
  by_cases hn : n1 = n2
  · subst hn
    go_enter Try.func26, Try.ntmps26
    go_wp2
    go_loopw [5] (fun i wr => ∃ k : Nat, k ≤ n1 ∧ i = I k ∧ xs.take k = ys.take k ∧ Ext w wr) (fun i _ => n1 - (intOf i).toNat)
    case atStart => exact ⟨0, by omega, rfl, by simp, Ext.refl _⟩
    case round =>
      obtain ⟨k, hk, rfl, hq, he⟩ := hrel
      have HQ := Lib.hid hq; clear hq
      have HE := Lib.hid he; clear he
      by_cases hlt : k < n1
      · obtain ⟨b1, o1, rfl, hb1, hk1, hc1⟩ := (H1.out.ext HE.out).at_ hlt
        obtain ⟨b2, o2, rfl, hb2, hk2, hc2⟩ := (H2.out.ext HE.out).at_ hlt
        have i0 : (0 : Int) ≤ (k : Int) := by omega
        have i1 : (k : Int) < (n1 : Int) := by omega
        have X1 := Lib.hid (take_snoc xs k hk1)
        have X2 := Lib.hid (take_snoc ys k hk2)
        have hne : ¬ xs[k] = ys[k] → xs ≠ ys := fun hne h => hne (by subst h; rfl)
        have HN := Lib.hid hne; clear hne
        generalize xs[k] = x at *
        generalize ys[k] = y at *
        obtain ⟨h10, h11⟩ := hc1
        obtain ⟨h20, h21⟩ := hc2
        have hqn := fun W => neq_Signature x y W
        have hgd := guard_Signature
        have hdd : decide (x = y) = true ↔ x = y := decide_eq_true_iff
        have HD := Lib.hid hdd; clear hdd
        generalize decide (x = y) = bb at *
        cases bb
        · have hxy : ¬ x = y := fun h => by have := HD.out.2 h; cases this
          have HXY := Lib.hid hxy; clear hxy
          go_wp2
          go_quiet (fail)
          go_wp2
          go_ret
          exact ⟨ret_bool (by simp [HN.out HXY.out]), HE.out.drewN _⟩
        · have HXY := Lib.hid (HD.out.1 rfl)
          go_wp2
          go_quiet (fail)
          go_wp2
          go_roundw
          case rel => exact ⟨k + 1, by omega, by go_num, by rw [X1.out, X2.out, HQ.out, HXY.out], HE.out.drewN _⟩
          case measure => simp [intOf]; omega
      · go_wp2
        go_ret
        have h := HQ.out
        rw [List.take_of_length_le (by rw [E1.out]; omega), List.take_of_length_le (by rw [E2.out]; omega)] at h
        exact ⟨ret_bool (by simp [h]), HE.out⟩
  · have hb : ((n1 : Int) == (n2 : Int)) = false := by simp; omega
    have hb' : ((n1 : Int) != (n2 : Int)) = true := by simp; omega
    have HN := Lib.hid hn; clear hn
    go_enter Try.func26, Try.ntmps26
    go_wp2
    go_ret
    have : xs ≠ ys := fun h => HN.out (by rw [← E1.out, ← E2.out, h])
    exact ⟨ret_bool (by simp [this]), Ext.refl _⟩
set_option maxRecDepth 100000 in
set_option maxHeartbeats 1000000 in
theorem impl_copySignatures (v : Value) (xs : List DSignature) (w : World) (h : SignatureS w.heap.size w v xs) (hl : xs.length ≤ 100000000) :
    Calls Try.prog 60 #[v] w fun e w' => ∃ v', e = .returned v' ∧ SignatureSO w.heap.size w'.heap.size w' v' xs ∧ Ext w w' := by
  obtain ⟨A, n, c, rfl, hl1, hn, hm, -⟩ := id h
  subst hl1
  have H := Lib.hid h; clear h
  go_enter Try.func60, Try.ntmps60
  go_wp2_with (at_builtin; refine hold ?_)
  refine unhold (wpList_app w rfl (.tmp 3) (.tmp 4) _ rfl 29 _ 2 16 Try.underlying42 info_Signature rfl (by omega) _ 0 [] rfl A xs.length c (xs.flatMap SignatureC) rfl
    (own_zero w _ 2 _ (Nat.le_refl _)) (by exact row_Signature (H.out.ext (by repeat (first | (with_reducible exact Ext.refl _) | (with_reducible assumption) | (with_reducible refine Ext.alloc ?_ _) | (with_reducible refine Ext.drew ?_) | (with_reducible refine Ext.drewN ?_ _) | (with_reducible refine Ext.setCell (p := _) ?_ ?ge _; case ge => (dsimp only; omega)) | (with_reducible refine Ext.trans ?_ (by with_reducible assumption)))))) (one_Signature xs) (by repeat (first | (with_reducible exact Ext.refl _) | (with_reducible assumption) | (with_reducible refine Ext.alloc ?_ _) | (with_reducible refine Ext.drew ?_) | (with_reducible refine Ext.drewN ?_ _) | (with_reducible refine Ext.setCell (p := _) ?_ ?ge _; case ge => (dsimp only; omega)) | (with_reducible refine Ext.trans ?_ (by with_reducible assumption)))) (by unfold maxLen; omega) (by omega) ?_)
  intro v1 w1 ho1 he1 _ _
  have O1 := Lib.hid ho1; clear ho1
  go_wp2_with (at_builtin; refine hold ?_)
  go_ret
  exact ⟨_, rfl, by simpa using O1.out, he1⟩
/-- A signature added: in the place of the first one of its AS, or at the end. -/
def addSig : List DSignature → DSignature → List DSignature
  | [], x => [x]
  | y :: ys, x => if y.asn = x.asn then x :: ys else y :: addSig ys x
theorem addSig_drop_yes (xs : List DSignature) (x : DSignature) (k : Nat) (h : k < xs.length) (he : xs[k].asn = x.asn) : addSig (xs.drop k) x = x :: xs.drop (k + 1) := by
  rw [List.drop_eq_getElem_cons h, addSig, if_pos he]
theorem addSig_drop_no (xs : List DSignature) (x : DSignature) (k : Nat) (h : k < xs.length) (he : ¬ xs[k].asn = x.asn) : addSig (xs.drop k) x = xs[k] :: addSig (xs.drop (k + 1)) x := by
  rw [List.drop_eq_getElem_cons h, addSig, if_neg he]
theorem addSig_len (xs : List DSignature) (x : DSignature) : (addSig xs x).length ≤ xs.length + 1 := by
  induction xs with
  | nil => simp [addSig]
  | cons y ys ih => simp only [addSig]; split <;> simp <;> omega
set_option maxRecDepth 100000 in
set_option maxHeartbeats 1000000 in
theorem impl_AddSignature (v : Value) (x : DSignature) (xs : List DSignature) (w : World) (h : SignatureS w.heap.size w v xs) (hl : xs.length ≤ 10000000) :
    Calls Try.prog 32 #[v, .agg #[I x.asn, I x.value]] w fun e w' => ∃ v', e = .returned v' ∧ SignatureSO w.heap.size w'.heap.size w' v' (addSig xs x) ∧ Ext w w' := by
  obtain ⟨A, n, c, rfl, hl1, hn, hm, -⟩ := id h
  subst hl1
  have H := Lib.hid h; clear h
  go_enter Try.func32, Try.ntmps32
  go_wp2_with fail
  have bx : Blk (w.alloc (.cells #[I x.asn, I x.value] 29)) w.heap.size 29 [I x.asn, I x.value] := Blk.new w _ _
  have ew : Ext w (w.alloc (.cells #[I x.asn, I x.value] 29)) := (Ext.refl _).alloc _
  have zw : w.heap.size + 1 ≤ (w.alloc (.cells #[I x.asn, I x.value] 29)).heap.size := by simp only [World.size_alloc]; omega
  generalize w.alloc (.cells #[I x.asn, I x.value] 29) = w0 at *
  refine (impl_copySignatures _ xs _ (by exact H.out.ext ew) (by omega)).mono ?_
  rintro e w1 ⟨v1, rfl, o1, e1⟩
  have bx1 := bx.ext e1
  have O1 := Lib.hid o1
  have BX := Lib.hid bx1
  obtain ⟨q0, q1⟩ := blk2 bx1
  have z1 := e1.size
  have EW := Lib.hid (ew.trans e1)
  clear bx bx1 ew e1
  rcases o1.cases with ⟨rfl, h0, hx⟩ | ⟨g, cap, rest, rfl, g1, g2, hb, hlc, hnc, hcm, hs⟩
  · obtain rfl : xs = [] := List.eq_nil_of_length_eq_zero h0
    clear o1 h0 hx
    go_wp2_with fail
    go_loop [11] (fun i => i = I 0) (fun _ => 0)
    case atStart => rfl
    case round =>
      subst hrel
      go_wp2_with (at_builtin; refine hold ?_)
      refine unhold (wpList_app w rfl (.tmp 28) (.tmp 30) _ rfl 29 _ 2 16 Try.underlying42 info_Signature rfl (by omega) _ 0 [] rfl _ 1 1 [I x.asn, I x.value] rfl
        (Own.nil _ _ _ _ _) (row_new w1 29 2 [I x.asn, I x.value] rfl) (by simp [Value.oneCell']) (by exact EW.out.alloc _) (by unfold maxLen; omega) (by omega) ?_)
      intro v2 w2 ho2 he2 _ _
      have O2 := Lib.hid ho2; clear ho2
      go_wp2_with (at_builtin; refine hold ?_)
      go_ret
      exact ⟨_, rfl, O2.out, he2⟩
  · have HB := Lib.hid hb; clear hb o1
    unfold maxLen at hcm
    go_wp2_with fail
    go_loopw [11] (fun i wr => ∃ k m : Nat, k ≤ xs.length ∧ i = I k ∧ wr = w1.drewN m ∧ addSig xs x = xs.take k ++ addSig (xs.drop k) x) (fun i _ => xs.length - (intOf i).toNat)
    case atStart => exact ⟨0, 0, by omega, rfl, rfl, by simp⟩
    case round =>
      obtain ⟨k, m, hk, rfl, rfl, hq⟩ := hrel
      have HQ := Lib.hid hq; clear hq
      by_cases hlt : k < xs.length
      · have hd := HB.out
        rw [flat_split SignatureC xs k hlt, List.append_assoc] at hd
        have hp := flat_take_len SignatureC 2 (fun _ => rfl) xs k hk
        have HP := Lib.hid hp
        have HY := Lib.hid (addSig_drop_yes xs x k hlt)
        have HN := Lib.hid (addSig_drop_no xs x k hlt)
        have HT := Lib.hid (take_snoc xs k hlt)
        have HS := Lib.hid (set_split xs k x hlt)
        generalize xs[k] = y at *
        have hd : Blk w1 g 29 ((xs.take k).flatMap SignatureC ++ I y.asn :: I y.value :: ((xs.drop (k + 1)).flatMap SignatureC ++ rest)) := hd
        obtain ⟨c0, c1⟩ := cells_at2 hd hp
        have f0 := hd.frozen (k * 2)
        have f1 := hd.frozen (k * 2 + 1)
        have HD := Lib.hid hd
        clear hd hp
        by_cases hxy : y.asn = x.asn
        · have hb : (y.asn == x.asn) = true := by simp [hxy]
          have HXY := Lib.hid hxy; clear hxy
          go_wp2
          go_quiet (fail)
          go_wp2
          go_ret
          refine ⟨_, rfl, ?_, ?_⟩
          · have hdd : Blk (w1.drewN (m + nq)) g 29 _ := HD.out
            have hset := (hdd.set_ (k * 2) (I x.asn)).set_ (k * 2 + 1) (I x.value)
            rw [set_at2 _ _ _ _ _ _ _ HP.out] at hset
            have e : addSig xs x = xs.take k ++ x :: xs.drop (k + 1) := by rw [HQ.out, HY.out HXY.out]
            have e1 : (addSig xs x).length = xs.length := by rw [e, ← HS.out, List.length_set]
            unfold SignatureSO
            rw [e1, e]
            refine Own.mk' (rest := rest) (by omega) (by simp; omega) ?_ ?_ hnc (by unfold maxLen; exact hcm) ?_
            · simpa [SignatureC] using hset
            · rw [flat_len SignatureC 2 (fun _ => rfl), ← HS.out, List.length_set]
            · rw [List.length_append, flat_len SignatureC 2 (fun _ => rfl), ← HS.out, List.length_set, ← hs, List.length_append, flat_len SignatureC 2 (fun _ => rfl)]
          · exact ((EW.out.drewN _).setCell (by dsimp only; omega) _).setCell (by dsimp only; omega) _
        · have hb : (y.asn == x.asn) = false := by simp [hxy]
          have HXY := Lib.hid hxy; clear hxy
          go_wp2
          go_quiet (fail)
          go_wp2
          go_roundw
          case rel => exact ⟨k + 1, _, by omega, by go_num, rfl, by rw [HQ.out, HN.out HXY.out, HT.out]; simp⟩
          case measure => simp [intOf]; omega
      · obtain rfl : k = xs.length := by omega
        go_wp2_with (at_builtin; refine hold ?_)
        refine unhold (wpList_app w rfl (.tmp 28) (.tmp 30) _ rfl 29 _ 2 16 Try.underlying42 info_Signature rfl (by omega) _ xs.length (xs.flatMap SignatureC) rfl _ 1 1 [I x.asn, I x.value] rfl
          (by exact ((O1.out.more (by omega) (Nat.le_refl _)).keep (fun _ _ _ _ => rfl : ∀ k, _ → _ → _ → (w1.drewN m).heap[k]? = w1.heap[k]?)).alloc _ |>.lt_size) (row_new (w1.drewN m) 29 2 [I x.asn, I x.value] rfl) (by simp [Value.oneCell']) (by exact (EW.out.drewN m).alloc _) (by unfold maxLen; omega) (by omega) ?_)
        intro v2 w2 ho2 he2 _ _
        have O2 := Lib.hid ho2; clear ho2
        go_wp2_with (at_builtin; refine hold ?_)
        go_ret
        have e : addSig xs x = xs ++ [x] := by rw [HQ.out]; simp [addSig]
        refine ⟨_, rfl, ?_, he2⟩
        unfold SignatureSO
        rw [e]
        simpa [SignatureC] using O2.out
set_option maxRecDepth 100000 in
set_option maxHeartbeats 1000000 in
theorem spec_AddSignature (v : Value) (x : DSignature) (xs : List DSignature) (w : World) (h : SignatureS w.heap.size w v xs) (hl : xs.length ≤ 10000000) :
    Calls Try.prog 30 #[v, .agg #[I x.asn, I x.value]] w fun e w' => ∃ v', e = .returned v' ∧ SignatureSO w.heap.size w'.heap.size w' v' (addSig xs x) ∧ Ext w w' := by
  obtain ⟨A, n, c, rfl, hl1, hn, hm, -⟩ := id h
  subst hl1
  have H := Lib.hid h; clear h
  go_enter Try.func30, Try.ntmps30
  go_wp2_with (at_builtin; refine hold ?_)
  have bx : Blk (w.alloc (.cells #[I x.asn, I x.value] 29)) w.heap.size 29 [I x.asn, I x.value] := Blk.new w _ _
  have ew : Ext w (w.alloc (.cells #[I x.asn, I x.value] 29)) := (Ext.refl _).alloc _
  have zw : w.heap.size + 1 ≤ (w.alloc (.cells #[I x.asn, I x.value] 29)).heap.size := by simp only [World.size_alloc]; omega
  have HZ : Hid (w.heap.size + 1 = (w.alloc (.cells #[I x.asn, I x.value] 29)).heap.size) := by unfold Hid; simp only [World.size_alloc]
  generalize w.alloc (.cells #[I x.asn, I x.value] 29) = w0 at *
  refine unhold (wpList_app w0 rfl (.tmp 7) (.tmp 8) _ rfl 29 _ 2 16 Try.underlying42 info_Signature rfl (by omega) _ 0 [] rfl A xs.length c (xs.flatMap SignatureC) rfl
    (own_zero' w0 _ 2 _ _ HZ.out (Nat.le_refl _)) (by exact row_Signature (H.out.ext (ew.alloc _))) (one_Signature xs) (by exact (Ext.refl _).alloc _) (by unfold maxLen; omega) (by omega) ?_)
  intro v1 w1 o1 e1 _ _
  simp only [Nat.zero_add, List.nil_append] at o1
  have bx1 := bx.ext e1
  have O1 := Lib.hid o1
  have BX := Lib.hid bx1
  obtain ⟨q0, q1⟩ := blk2 bx1
  have z1 := e1.size
  have EW := Lib.hid (ew.trans e1)
  clear bx bx1 ew e1
  rcases o1.cases with ⟨rfl, h0, hx⟩ | ⟨g, cap, rest, rfl, g1, g2, hb, hlc, hnc, hcm, hs⟩
  · obtain rfl : xs = [] := List.eq_nil_of_length_eq_zero h0
    clear o1 h0 hx
    go_wp2_with fail
    go_loop [6] (fun i => i = I 0) (fun _ => 0)
    case atStart => rfl
    case round =>
      subst hrel
      go_wp2_with (at_builtin; refine hold ?_)
      refine unhold (wpList_app w rfl (.tmp 29) (.tmp 31) _ rfl 29 _ 2 16 Try.underlying42 info_Signature rfl (by omega) _ 0 [] rfl _ 1 1 [I x.asn, I x.value] rfl
        (Own.nil _ _ _ _ _) (row_new w1 29 2 [I x.asn, I x.value] rfl) (by simp [Value.oneCell']) (by exact EW.out.alloc _) (by unfold maxLen; omega) (by omega) ?_)
      intro v2 w2 ho2 he2 _ _
      have O2 := Lib.hid ho2; clear ho2
      go_wp2_with (at_builtin; refine hold ?_)
      go_ret
      exact ⟨_, rfl, O2.out, he2⟩
  · have HB := Lib.hid hb; clear hb o1
    unfold maxLen at hcm
    go_wp2_with fail
    go_loopw [6] (fun i wr => ∃ k m : Nat, k ≤ xs.length ∧ i = I k ∧ wr = w1.drewN m ∧ addSig xs x = xs.take k ++ addSig (xs.drop k) x) (fun i _ => xs.length - (intOf i).toNat)
    case atStart => exact ⟨0, 0, by omega, rfl, rfl, by simp⟩
    case round =>
      obtain ⟨k, m, hk, rfl, rfl, hq⟩ := hrel
      have HQ := Lib.hid hq; clear hq
      by_cases hlt : k < xs.length
      · have hd := HB.out
        rw [flat_split SignatureC xs k hlt, List.append_assoc] at hd
        have hp := flat_take_len SignatureC 2 (fun _ => rfl) xs k hk
        have HP := Lib.hid hp
        have HY := Lib.hid (addSig_drop_yes xs x k hlt)
        have HN := Lib.hid (addSig_drop_no xs x k hlt)
        have HT := Lib.hid (take_snoc xs k hlt)
        have HS := Lib.hid (set_split xs k x hlt)
        generalize xs[k] = y at *
        have hd : Blk w1 g 29 ((xs.take k).flatMap SignatureC ++ I y.asn :: I y.value :: ((xs.drop (k + 1)).flatMap SignatureC ++ rest)) := hd
        obtain ⟨c0, c1⟩ := cells_at2 hd hp
        have f0 := hd.frozen (k * 2)
        have f1 := hd.frozen (k * 2 + 1)
        have HD := Lib.hid hd
        clear hd hp
        by_cases hxy : y.asn = x.asn
        · have hb : (y.asn == x.asn) = true := by simp [hxy]
          have HXY := Lib.hid hxy; clear hxy
          go_wp2
          go_quiet (fail)
          go_wp2
          go_ret
          refine ⟨_, rfl, ?_, ?_⟩
          · have hdd : Blk (w1.drewN (m + nq)) g 29 _ := HD.out
            have hset := (hdd.set_ (k * 2) (I x.asn)).set_ (k * 2 + 1) (I x.value)
            rw [set_at2 _ _ _ _ _ _ _ HP.out] at hset
            have e : addSig xs x = xs.take k ++ x :: xs.drop (k + 1) := by rw [HQ.out, HY.out HXY.out]
            have e1 : (addSig xs x).length = xs.length := by rw [e, ← HS.out, List.length_set]
            unfold SignatureSO
            rw [e1, e]
            refine Own.mk' (rest := rest) (by omega) (by simp; omega) ?_ ?_ hnc (by unfold maxLen; exact hcm) ?_
            · simpa [SignatureC] using hset
            · rw [flat_len SignatureC 2 (fun _ => rfl), ← HS.out, List.length_set]
            · rw [List.length_append, flat_len SignatureC 2 (fun _ => rfl), ← HS.out, List.length_set, ← hs, List.length_append, flat_len SignatureC 2 (fun _ => rfl)]
          · exact ((EW.out.drewN _).setCell (by dsimp only; omega) _).setCell (by dsimp only; omega) _
        · have hb : (y.asn == x.asn) = false := by simp [hxy]
          have HXY := Lib.hid hxy; clear hxy
          go_wp2
          go_quiet (fail)
          go_wp2
          go_roundw
          case rel => exact ⟨k + 1, _, by omega, by go_num, rfl, by rw [HQ.out, HN.out HXY.out, HT.out]; simp⟩
          case measure => simp [intOf]; omega
      · obtain rfl : k = xs.length := by omega
        go_wp2_with (at_builtin; refine hold ?_)
        refine unhold (wpList_app w rfl (.tmp 29) (.tmp 31) _ rfl 29 _ 2 16 Try.underlying42 info_Signature rfl (by omega) _ xs.length (xs.flatMap SignatureC) rfl _ 1 1 [I x.asn, I x.value] rfl
          (by exact ((O1.out.more (by omega) (Nat.le_refl _)).keep (fun _ _ _ _ => rfl : ∀ k, _ → _ → _ → (w1.drewN m).heap[k]? = w1.heap[k]?)).alloc _ |>.lt_size) (row_new (w1.drewN m) 29 2 [I x.asn, I x.value] rfl) (by simp [Value.oneCell']) (by exact (EW.out.drewN m).alloc _) (by unfold maxLen; omega) (by omega) ?_)
        intro v2 w2 ho2 he2 _ _
        have O2 := Lib.hid ho2; clear ho2
        go_wp2_with (at_builtin; refine hold ?_)
        go_ret
        have e : addSig xs x = xs ++ [x] := by rw [HQ.out]; simp [addSig]
        refine ⟨_, rfl, ?_, he2⟩
        unfold SignatureSO
        rw [e]
        simpa [SignatureC] using O2.out
end Go.Proofs.Ytikjpenhpmamiaa
