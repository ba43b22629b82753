/- Contracts of the program's and the reference's functions on signatures: EqualSignatures, AddSignature. -/
import Derived.Test.YtmlfnfflpacchaaGL0
import Derived.Test.YtmlfnfflpacchaaGHR
import Derived.Test.YtmlfnfflpacchaaGL5
import Derived.Deep.RegionWith
import Derived.Test.YtmlfnfflpacchaaGL9
import Derived.Test.YtmlfnfflpacchaaGHS
namespace Go.Proofs.Ytmlfnfflpacchaa
open Go.RowKit
set_option linter.unusedVariables false
set_option maxRecDepth 100000 in
set_option maxHeartbeats 1000000 in
theorem impl_EqualSignatures (v1 v2 : Value) (xs ys : List DSignature) (w : World) (h1 : SignatureS w.heap.size w v1 xs) (h2 : SignatureS w.heap.size w v2 ys) :
    Calls Try.prog 32 #[v1, v2] w fun e w' => e = .returned (.bool (decide (xs = ys))) ∧ Ext w w' := by
  obtain ⟨A1, n1, c1, rfl, hl1, hn1, hm1, -⟩ := id h1
  obtain ⟨A2, n2, c2, rfl, hl2, hn2, hm2, -⟩ := id h2
  unfold maxLen at hm1 hm2
  have H1 := Lib.hid h1; have H2 := Lib.hid h2; have E1 := Lib.hid hl1; have E2 := Lib.hid hl2; clear h1 h2 hl1 hl2
  by_cases hn : n1 = n2
  · subst hn
    go_enter Try.func32, Try.ntmps32
    go_wp2
    go_loopw [13] (fun i wr => ∃ k : Nat, k ≤ n1 ∧ i = I k ∧ xs.take k = ys.take k ∧ Ext w wr) (fun i _ => n1 - (intOf i).toNat)
    case atStart => exact ⟨0, by omega, rfl, by simp, Ext.refl _⟩
    case round =>
      obtain ⟨k, hk, rfl, hq, he⟩ := hrel
      have HQ := Lib.hid hq; clear hq
      have HE := Lib.hid he; clear he
      by_cases hlt : k < n1
      · obtain ⟨b1, o1, rfl, hb1, hk1, hc1⟩ := (H1.out.ext HE.out).at_ hlt
        obtain ⟨b2, o2, rfl, hb2, hk2, hc2⟩ := (H2.out.ext HE.out).at_ hlt
        have i0 : (0 : Int) ≤ (k : Int) := by omega
        have i1 : (k : Int) < (n1 : Int) := by omega
        have X1 := Lib.hid (take_snoc xs k hk1)
        have X2 := Lib.hid (take_snoc ys k hk2)
        have hne : ¬ xs[k] = ys[k] → xs ≠ ys := fun hne h => hne (by subst h; rfl)
        have HN := Lib.hid hne; clear hne
        generalize xs[k] = x at *
        generalize ys[k] = y at *
        obtain ⟨h10, h11⟩ := hc1
        obtain ⟨h20, h21⟩ := hc2
        have hqn := fun W => neq_Signature x y W
        have hgd := guard_Signature
        have hdd : decide (x = y) = true ↔ x = y := decide_eq_true_iff
        have HD := Lib.hid hdd; clear hdd
        generalize decide (x = y) = bb at *
        cases bb
        · have hxy : ¬ x = y := fun h => by have := HD.out.2 h; cases this
          have HXY := Lib.hid hxy; clear hxy
          go_wp2
          go_quiet (fail)
          go_wp2
          go_ret
          exact ⟨ret_bool (by simp [HN.out HXY.out]), HE.out.drewN _⟩
        · have HXY := Lib.hid (HD.out.1 rfl)
          go_wp2
          go_quiet (fail)
          go_wp2
          go_roundw
          case rel => exact ⟨k + 1, by omega, by go_num, by rw [X1.out, X2.out, HQ.out, HXY.out], HE.out.drewN _⟩
          case measure => simp [intOf]; omega
      · go_wp2
        go_ret
        have h := HQ.out
        rw [List.take_of_length_le (by rw [E1.out]; omega), List.take_of_length_le (by rw [E2.out]; omega)] at h
        exact ⟨ret_bool (by simp [h]), HE.out⟩
  · have hb : ((n1 : Int) == (n2 : Int)) = false := by simp; omega
    have hb' : ((n1 : Int) != (n2 : Int)) = true := by simp; omega
    have HN := Lib.hid hn; clear hn
    go_enter Try.func32, Try.ntmps32
    go_wp2
    go_ret
    have : xs ≠ ys := fun h => HN.out (by rw [← E1.out, ← E2.out, h])
    exact ⟨ret_bool (by simp [this]), Ext.refl _⟩
set_option maxRecDepth 100000 in
set_option maxHeartbeats 1000000 in
theorem impl_copySignatures (v : Value) (xs : List DSignature) (w : World) (h : SignatureS w.heap.size w v xs) (hl : xs.length ≤ 100000000) :
    Calls Try.prog 93 #[v] w fun e w' => ∃ v', e = .returned v' ∧ SignatureSO w.heap.size w'.heap.size w' v' xs ∧ Ext w w' := by
  obtain ⟨A, n, c, rfl, hl1, hn, hm, -⟩ := id h
  subst hl1
  have H := Lib.hid h; clear h
  go_enter Try.func93, Try.ntmps93
  go_wp2_with (at_builtin; refine hold ?_)
  refine unhold (wpList_app w rfl (.tmp 3) (.tmp 4) _ rfl 36 _ 2 16 Try.underlying31 info_Signature rfl (by omega) _ 0 [] rfl A xs.length c (xs.flatMap SignatureC) rfl
    (own_zero w _ 2 _ (Nat.le_refl _)) (by exact row_Signature (H.out.ext xe)) (one_Signature xs) xe (by unfold maxLen; omega) (by omega) ?_)
  intro v1 w1 ho1 he1 _ _
  have O1 := Lib.hid ho1; clear ho1
  go_wp2_with (at_builtin; refine hold ?_)
  go_ret
  exact ⟨_, rfl, by simpa using O1.out, he1⟩
/-- A signature added: in the place of the first one of its AS, or at the end. -/
def addSig : List DSignature → DSignature → List DSignature
  | [], x => [x]
  | y :: ys, x => if y.asn = x.asn then x :: ys else y :: addSig ys x
theorem addSig_drop_yes (xs : List DSignature) (x : DSignature) (k : Nat) (h : k < xs.length) (he : xs[k].asn = x.asn) : addSig (xs.drop k) x = x :: xs.drop (k + 1) := by
  rw [List.drop_eq_getElem_cons h, addSig, if_pos he]
theorem addSig_drop_no (xs : List DSignature) (x : DSignature) (k : Nat) (h : k < xs.length) (he : ¬ xs[k].asn = x.asn) : addSig (xs.drop k) x = xs[k] :: addSig (xs.drop (k + 1)) x := by
  rw [List.drop_eq_getElem_cons h, addSig, if_neg he]
theorem addSig_len (xs : List DSignature) (x : DSignature) : (addSig xs x).length ≤ xs.length + 1 := by
  induction xs with
  | nil => simp [addSig]
  | cons y ys ih => simp only [addSig]; split <;> simp <;> omega
set_option maxRecDepth 100000 in
set_option maxHeartbeats 1000000 in
theorem impl_AddSignature (v : Value) (x : DSignature) (xs : List DSignature) (w : World) (h : SignatureS w.heap.size w v xs) (hl : xs.length ≤ 10000000) :
    Calls Try.prog 30 #[v, .agg #[I x.asn, I x.value]] w fun e w' => ∃ v', e = .returned v' ∧ SignatureSO w.heap.size w'.heap.size w' v' (addSig xs x) ∧ Ext w w' := by
  obtain ⟨A, n, c, rfl, hl1, hn, hm, -⟩ := id h
  subst hl1
  have H := Lib.hid h; clear h
  go_enter Try.func30, Try.ntmps30
  go_wp2_with fail
  have bx : Blk (w.alloc (.cells #[I x.asn, I x.value] 36)) w.heap.size 36 [I x.asn, I x.value] := Blk.new w _ _
  have ew : Ext w (w.alloc (.cells #[I x.asn, I x.value] 36)) := (Ext.refl _).alloc _
  have zw : w.heap.size + 1 ≤ (w.alloc (.cells #[I x.asn, I x.value] 36)).heap.size := by simp only [World.size_alloc]; omega
  generalize w.alloc (.cells #[I x.asn, I x.value] 36) = w0 at *
  refine (impl_copySignatures _ xs _ (by exact H.out.ext ew) (by omega)).mono ?_
  rintro e w1 ⟨v1, rfl, o1, e1⟩
  have bx1 := bx.ext e1
  have O1 := Lib.hid o1
  have BX := Lib.hid bx1
  obtain ⟨q0, q1⟩ := blk2 bx1
  have z1 := e1.size
  have EW := Lib.hid (ew.trans e1)
  clear bx bx1 ew e1
  rcases o1.cases with ⟨rfl, h0, hx⟩ | ⟨g, cap, rest, rfl, g1, g2, hb, hlc, hnc, hcm, hs⟩
  · obtain rfl : xs = [] := List.eq_nil_of_length_eq_zero h0
    clear o1 h0 hx
    go_wp2_with fail
    go_loop [11] (fun i => i = I 0) (fun _ => 0)
    case atStart => rfl
    case round =>
      subst hrel
      go_wp2_with (at_builtin; refine hold ?_)
      refine unhold (wpList_app w rfl (.tmp 28) (.tmp 30) _ rfl 36 _ 2 16 Try.underlying31 info_Signature rfl (by omega) _ 0 [] rfl _ 1 1 [I x.asn, I x.value] rfl
        (Own.nil _ _ _ _ _) (row_new w1 36 2 [I x.asn, I x.value] rfl) (by simp [Value.oneCell']) (by exact EW.out.alloc _) (by unfold maxLen; omega) (by omega) ?_)
      intro v2 w2 ho2 he2 _ _
      have O2 := Lib.hid ho2; clear ho2
      go_wp2_with (at_builtin; refine hold ?_)
      go_ret
      exact ⟨_, rfl, O2.out, he2⟩
  · have HB := Lib.hid hb; clear hb o1
    unfold maxLen at hcm
    go_wp2_with fail
    go_loopw [11] (fun i wr => ∃ k m : Nat, k ≤ xs.length ∧ i = I k ∧ wr = w1.drewN m ∧ addSig xs x = xs.take k ++ addSig (xs.drop k) x) (fun i _ => xs.length - (intOf i).toNat)
    case atStart => exact ⟨0, 0, by omega, rfl, rfl, by simp⟩
    case round =>
      obtain ⟨k, m, hk, rfl, rfl, hq⟩ := hrel
      have HQ := Lib.hid hq; clear hq
      by_cases hlt : k < xs.length
      · have hd := HB.out
        rw [flat_split SignatureC xs k hlt, List.append_assoc] at hd
        have hp := flat_take_len SignatureC 2 (fun _ => rfl) xs k hk
        have HP := Lib.hid hp
        have HY := Lib.hid (addSig_drop_yes xs x k hlt)
        have HN := Lib.hid (addSig_drop_no xs x k hlt)
        have HT := Lib.hid (take_snoc xs k hlt)
        have HS := Lib.hid (set_split xs k x hlt)
        generalize xs[k] = y at *
        have hd : Blk w1 g 36 ((xs.take k).flatMap SignatureC ++ I y.asn :: I y.value :: ((xs.drop (k + 1)).flatMap SignatureC ++ rest)) := hd
        obtain ⟨c0, c1⟩ := cells_at2 hd hp
        have f0 := hd.frozen (k * 2)
        have f1 := hd.frozen (k * 2 + 1)
        have HD := Lib.hid hd
        clear hd hp
        by_cases hxy : y.asn = x.asn
        · have hb : (y.asn == x.asn) = true := by simp [hxy]
          have HXY := Lib.hid hxy; clear hxy
          go_wp2
          go_quiet (fail)
          go_wp2
          go_ret
          refine ⟨_, rfl, ?_, ?_⟩
          · have hdd : Blk (w1.drewN (m + nq)) g 36 _ := HD.out
            have hset := (hdd.set_ (k * 2) (I x.asn)).set_ (k * 2 + 1) (I x.value)
            rw [set_at2 _ _ _ _ _ _ _ HP.out] at hset
            have e : addSig xs x = xs.take k ++ x :: xs.drop (k + 1) := by rw [HQ.out, HY.out HXY.out]
            have e1 : (addSig xs x).length = xs.length := by rw [e, ← HS.out, List.length_set]
            unfold SignatureSO
            rw [e1, e]
            refine Own.mk' (rest := rest) (by omega) (by simp; omega) ?_ ?_ hnc (by unfold maxLen; exact hcm) ?_
            · simpa [SignatureC] using hset
            · rw [flat_len SignatureC 2 (fun _ => rfl), ← HS.out, List.length_set]
            · rw [List.length_append, flat_len SignatureC 2 (fun _ => rfl), ← HS.out, List.length_set, ← hs, List.length_append, flat_len SignatureC 2 (fun _ => rfl)]
          · exact ((EW.out.drewN _).setCell (by dsimp only; omega) _).setCell (by dsimp only; omega) _
        · have hb : (y.asn == x.asn) = false := by simp [hxy]
          have HXY := Lib.hid hxy; clear hxy
          go_wp2
          go_quiet (fail)
          go_wp2
          go_roundw
          case rel => exact ⟨k + 1, _, by omega, by go_num, rfl, by rw [HQ.out, HN.out HXY.out, HT.out]; simp⟩
          case measure => simp [intOf]; omega
      · obtain rfl : k = xs.length := by omega
        go_wp2_with (at_builtin; refine hold ?_)
        refine unhold (wpList_app w rfl (.tmp 28) (.tmp 30) _ rfl 36 _ 2 16 Try.underlying31 info_Signature rfl (by omega) _ xs.length (xs.flatMap SignatureC) rfl _ 1 1 [I x.asn, I x.value] rfl
          (by exact ((O1.out.more (by omega) (Nat.le_refl _)).keep (fun _ _ _ _ => rfl : ∀ k, _ → _ → _ → (w1.drewN m).heap[k]? = w1.heap[k]?)).alloc _ |>.lt_size) (row_new (w1.drewN m) 36 2 [I x.asn, I x.value] rfl) (by simp [Value.oneCell']) (by exact (EW.out.drewN m).alloc _) (by unfold maxLen; omega) (by omega) ?_)
        intro v2 w2 ho2 he2 _ _
        have O2 := Lib.hid ho2; clear ho2
        go_wp2_with (at_builtin; refine hold ?_)
        go_ret
        have e : addSig xs x = xs ++ [x] := by rw [HQ.out]; simp [addSig]
        refine ⟨_, rfl, ?_, he2⟩
        unfold SignatureSO
        rw [e]
        simpa [SignatureC] using O2.out
set_option maxRecDepth 100000 in
set_option maxHeartbeats 1000000 in
theorem spec_AddSignature (v : Value) (x : DSignature) (xs : List DSignature) (w : World) (h : SignatureS w.heap.size w v xs) (hl : xs.length ≤ 10000000) :
    Calls Try.prog 31 #[v, .agg #[I x.asn, I x.value]] w fun e w' => ∃ v', e = .returned v' ∧ SignatureSO w.heap.size w'.heap.size w' v' (addSig xs x) ∧ Ext w w' := by
  obtain ⟨A, n, c, rfl, hl1, hn, hm, -⟩ := id h
  subst hl1
  have H := Lib.hid h; clear h
  go_enter Try.func31, Try.ntmps31
  go_wp2_with (at_builtin; refine hold ?_)
  have bx : Blk (w.alloc (.cells #[I x.asn, I x.value] 36)) w.heap.size 36 [I x.asn, I x.value] := Blk.new w _ _
  have ew : Ext w (w.alloc (.cells #[I x.asn, I x.value] 36)) := (Ext.refl _).alloc _
  have zw : w.heap.size + 1 ≤ (w.alloc (.cells #[I x.asn, I x.value] 36)).heap.size := by simp only [World.size_alloc]; omega
  have HZ : Hid (w.heap.size + 1 = (w.alloc (.cells #[I x.asn, I x.value] 36)).heap.size) := by unfold Hid; simp only [World.size_alloc]
  generalize w.alloc (.cells #[I x.asn, I x.value] 36) = w0 at *
  refine unhold (wpList_app w0 rfl (.tmp 7) (.tmp 8) _ rfl 36 _ 2 16 Try.underlying31 info_Signature rfl (by omega) _ 0 [] rfl A xs.length c (xs.flatMap SignatureC) rfl
    (own_zero' w0 _ 2 _ _ HZ.out (Nat.le_refl _)) (by exact row_Signature (H.out.ext (ew.alloc _))) (one_Signature xs) (by exact (Ext.refl _).alloc _) (by unfold maxLen; omega) (by omega) ?_)
  intro v1 w1 o1 e1 _ _
  simp only [Nat.zero_add, List.nil_append] at o1
  have bx1 := bx.ext e1
  have O1 := Lib.hid o1
  have BX := Lib.hid bx1
  obtain ⟨q0, q1⟩ := blk2 bx1
  have z1 := e1.size
  have EW := Lib.hid (ew.trans e1)
  clear bx bx1 ew e1
  rcases o1.cases with ⟨rfl, h0, hx⟩ | ⟨g, cap, rest, rfl, g1, g2, hb, hlc, hnc, hcm, hs⟩
  · obtain rfl : xs = [] := List.eq_nil_of_length_eq_zero h0
    clear o1 h0 hx
    go_wp2_with fail
    go_loop [6] (fun i => i = I 0) (fun _ => 0)
    case atStart => rfl
    case round =>
      subst hrel
      go_wp2_with (at_builtin; refine hold ?_)
      refine unhold (wpList_app w rfl (.tmp 29) (.tmp 31) _ rfl 36 _ 2 16 Try.underlying31 info_Signature rfl (by omega) _ 0 [] rfl _ 1 1 [I x.asn, I x.value] rfl
        (Own.nil _ _ _ _ _) (row_new w1 36 2 [I x.asn, I x.value] rfl) (by simp [Value.oneCell']) (by exact EW.out.alloc _) (by unfold maxLen; omega) (by omega) ?_)
      intro v2 w2 ho2 he2 _ _
      have O2 := Lib.hid ho2; clear ho2
      go_wp2_with (at_builtin; refine hold ?_)
      go_ret
      exact ⟨_, rfl, O2.out, he2⟩
  · have HB := Lib.hid hb; clear hb o1
    unfold maxLen at hcm
    go_wp2_with fail
    go_loopw [6] (fun i wr => ∃ k m : Nat, k ≤ xs.length ∧ i = I k ∧ wr = w1.drewN m ∧ addSig xs x = xs.take k ++ addSig (xs.drop k) x) (fun i _ => xs.length - (intOf i).toNat)
    case atStart => exact ⟨0, 0, by omega, rfl, rfl, by simp⟩
    case round =>
      obtain ⟨k, m, hk, rfl, rfl, hq⟩ := hrel
      have HQ := Lib.hid hq; clear hq
      by_cases hlt : k < xs.length
      · have hd := HB.out
        rw [flat_split SignatureC xs k hlt, List.append_assoc] at hd
        have hp := flat_take_len SignatureC 2 (fun _ => rfl) xs k hk
        have HP := Lib.hid hp
        have HY := Lib.hid (addSig_drop_yes xs x k hlt)
        have HN := Lib.hid (addSig_drop_no xs x k hlt)
        have HT := Lib.hid (take_snoc xs k hlt)
        have HS := Lib.hid (set_split xs k x hlt)
        generalize xs[k] = y at *
        have hd : Blk w1 g 36 ((xs.take k).flatMap SignatureC ++ I y.asn :: I y.value :: ((xs.drop (k + 1)).flatMap SignatureC ++ rest)) := hd
        obtain ⟨c0, c1⟩ := cells_at2 hd hp
        have f0 := hd.frozen (k * 2)
        have f1 := hd.frozen (k * 2 + 1)
        have HD := Lib.hid hd
        clear hd hp
        by_cases hxy : y.asn = x.asn
        · have hb : (y.asn == x.asn) = true := by simp [hxy]
          have HXY := Lib.hid hxy; clear hxy
          go_wp2
          go_quiet (fail)
          go_wp2
          go_ret
          refine ⟨_, rfl, ?_, ?_⟩
          · have hdd : Blk (w1.drewN (m + nq)) g 36 _ := HD.out
            have hset := (hdd.set_ (k * 2) (I x.asn)).set_ (k * 2 + 1) (I x.value)
            rw [set_at2 _ _ _ _ _ _ _ HP.out] at hset
            have e : addSig xs x = xs.take k ++ x :: xs.drop (k + 1) := by rw [HQ.out, HY.out HXY.out]
            have e1 : (addSig xs x).length = xs.length := by rw [e, ← HS.out, List.length_set]
            unfold SignatureSO
            rw [e1, e]
            refine Own.mk' (rest := rest) (by omega) (by simp; omega) ?_ ?_ hnc (by unfold maxLen; exact hcm) ?_
            · simpa [SignatureC] using hset
            · rw [flat_len SignatureC 2 (fun _ => rfl), ← HS.out, List.length_set]
            · rw [List.length_append, flat_len SignatureC 2 (fun _ => rfl), ← HS.out, List.length_set, ← hs, List.length_append, flat_len SignatureC 2 (fun _ => rfl)]
          · exact ((EW.out.drewN _).setCell (by dsimp only; omega) _).setCell (by dsimp only; omega) _
        · have hb : (y.asn == x.asn) = false := by simp [hxy]
          have HXY := Lib.hid hxy; clear hxy
          go_wp2
          go_quiet (fail)
          go_wp2
          go_roundw
          case rel => exact ⟨k + 1, _, by omega, by go_num, rfl, by rw [HQ.out, HN.out HXY.out, HT.out]; simp⟩
          case measure => simp [intOf]; omega
      · obtain rfl : k = xs.length := by omega
        go_wp2_with (at_builtin; refine hold ?_)
        refine unhold (wpList_app w rfl (.tmp 29) (.tmp 31) _ rfl 36 _ 2 16 Try.underlying31 info_Signature rfl (by omega) _ xs.length (xs.flatMap SignatureC) rfl _ 1 1 [I x.asn, I x.value] rfl
          (by exact ((O1.out.more (by omega) (Nat.le_refl _)).keep (fun _ _ _ _ => rfl : ∀ k, _ → _ → _ → (w1.drewN m).heap[k]? = w1.heap[k]?)).alloc _ |>.lt_size) (row_new (w1.drewN m) 36 2 [I x.asn, I x.value] rfl) (by simp [Value.oneCell']) (by exact (EW.out.drewN m).alloc _) (by unfold maxLen; omega) (by omega) ?_)
        intro v2 w2 ho2 he2 _ _
        have O2 := Lib.hid ho2; clear ho2
        go_wp2_with (at_builtin; refine hold ?_)
        go_ret
        have e : addSig xs x = xs ++ [x] := by rw [HQ.out]; simp [addSig]
        refine ⟨_, rfl, ?_, he2⟩
        unfold SignatureSO
        rw [e]
        simpa [SignatureC] using O2.out
end Go.Proofs.Ytmlfnfflpacchaa
namespace Go.Proofs.Ytmlfnfflpacchaa
open Go.RowKit
set_option linter.unusedVariables false
def verifySig (t : DTopology) (v : DSignature) (l : List Int) : Bool := isAs t v.asn && v.value == sign (asAt t v.asn).key l
def signAs (t : DTopology) (r : Int) (l : List Int) : DSignature := if isAs t r then ⟨r, sign (asAt t r).key l⟩ else ⟨-1, 0⟩
set_option maxRecDepth 100000 in
set_option maxHeartbeats 1000000 in
theorem impl_VerifySignature (vt : Value) (s : DSignature) (vl : Value) (t : DTopology) (l : List Int) (w : World) (ht : TopologyV w.heap.size w vt t) (hl : IntS w.heap.size w vl l) (hn : l.length ≤ 100000000) :
    Calls Try.prog 24 #[vt, .agg #[I s.asn, I s.value], vl] w fun e w' => e = .returned (.bool (verifySig t s l)) ∧ Ext w w' := by
  obtain ⟨A0, n0, c0, A1, n1, c1, rfl, s0, s1⟩ := ht
  obtain ⟨hl0, _, hm0⟩ := s0.len
  subst hl0
  unfold maxLen at hm0
  have S0 := Lib.hid s0; have S1 := Lib.hid s1; have HL := Lib.hid hl; clear s0 s1 hl
  go_enter Try.func24, Try.ntmps24
  go_wp2_with fail
  have bt : Blk ((w.alloc (.cells #[.slice A0 t.ases.length c0, .slice A1 n1 c1] 27)).alloc (.cells #[I s.asn, I s.value] 36)) w.heap.size 27 [.slice A0 t.ases.length c0, .slice A1 n1 c1] := (Blk.new w _ _).alloc _
  have bv : Blk ((w.alloc (.cells #[.slice A0 t.ases.length c0, .slice A1 n1 c1] 27)).alloc (.cells #[I s.asn, I s.value] 36)) (w.heap.size + 1) 36 [I s.asn, I s.value] := by simpa using Blk.new (w.alloc (.cells #[.slice A0 t.ases.length c0, .slice A1 n1 c1] 27)) 36 [I s.asn, I s.value]
  have ew : Ext w ((w.alloc (.cells #[.slice A0 t.ases.length c0, .slice A1 n1 c1] 27)).alloc (.cells #[I s.asn, I s.value] 36)) := ((Ext.refl _).alloc _).alloc _
  generalize (w.alloc (.cells #[.slice A0 t.ases.length c0, .slice A1 n1 c1] 27)).alloc (.cells #[I s.asn, I s.value] 36) = w0 at *
  have lt0 := bt.lt
  have lt1 := bv.lt
  obtain ⟨p0, p1⟩ := blk2 bt
  obtain ⟨q0, q1⟩ := blk2 bv
  have EW := Lib.hid ew; clear bt bv
  cases hv : isAs t s.asn
  · have HV := Lib.hid hv
    have HF : Hid (verifySig t s l = false) := by unfold Hid; simp [verifySig, hv]
    clear hv
    refine wp_region_ext (w0 := w0) (by kernel_rfl) (by kernel_rfl) (by exact Ext.refl _) ?_
    repeat (first
      | go_big_quiet_skip
      | (go_big_quiet_want
         apply Exists.intro
         refine ⟨fun W hW => ?_, ?_⟩
         · have hS := (Ext.facts hW).1
           go_simp
           first | done | (go_at_call 92; refine (impl_isAS _ _ t _ (by exact ⟨_, _, _, _, _, _, rfl, S0.out.ext (EW.out.trans hW), S1.out.ext (EW.out.trans hW)⟩)).mono ?_; rintro e w1 ⟨rfl, e1⟩; exact ⟨by rw [HV.out], hW.trans e1⟩) | (with_reducible rfl)
         simp only [Act.put, List.setIfInBounds_toArray, List.set_cons_zero, List.set_cons_succ]
         go_big_quiet_on))
    refine wpQuiet_nil ?_
    intro w1 e1
    go_wp2_with fail
    go_ret
    exact ⟨ret_bool HF.out.symm, EW.out.trans e1⟩
  · have HV := Lib.hid hv
    obtain ⟨i0, i1⟩ := inR_iff.1 hv
    obtain ⟨k, hk⟩ := Int.eq_ofNat_of_zero_le i0
    have hkl : k < t.ases.length := by omega
    obtain ⟨b, off, rfl, hb, hkk, hc⟩ := (S0.out.ext ew).at_ hkl
    have HF : Hid (verifySig t s l = (s.value == sign (t.ases[k]).key l)) := by unfold Hid; rw [verifySig, hv, hk, asAt_nat t k hkk]; simp
    generalize t.ases[k] = y at *
    obtain ⟨h0, h1, h2⟩ := hc
    have hk' : s.asn = (k : Int) := hk
    generalize s.asn = sa at *
    subst hk'
    clear hv hk
    go_region_held3 (fun W => w0.heap.size ≤ W.heap.size ∧ ∀ b o, b < w0.heap.size → W.cell? ⟨b, o, none⟩ = w0.cell? ⟨b, o, none⟩)
      (first | exact ⟨Nat.le_refl _, fun _ _ _ => rfl⟩ | exact keepC (by assumption) e2 | exact keepC (by assumption) e1)
      (first | (go_at_call 92; refine (impl_isAS _ _ t _ (by exact ⟨_, _, _, _, _, _, rfl, S0.out.ext xe, S1.out.ext xe⟩)).mono ?_; rintro e w1 ⟨rfl, e1⟩; rw [HV.out]) | (go_at_call 36; refine (impl_Sign _ _ l _ (by exact HL.out.ext xe) (by omega)).mono ?_; rintro e w2 ⟨rfl, e2⟩))
    go_wp2_with fail
    go_ret
    exact ⟨ret_bool HF.out.symm, ((EW.out.drew).trans e1).trans e2⟩
set_option maxRecDepth 100000 in
set_option maxHeartbeats 1000000 in
theorem spec_VerifySignature (vt : Value) (s : DSignature) (vl : Value) (t : DTopology) (l : List Int) (w : World) (ht : TopologyV w.heap.size w vt t) (hl : IntS w.heap.size w vl l) (hn : l.length ≤ 100000000) :
    Calls Try.prog 25 #[vt, .agg #[I s.asn, I s.value], vl] w fun e w' => e = .returned (.bool (verifySig t s l)) ∧ Ext w w' := by
  obtain ⟨A0, n0, c0, A1, n1, c1, rfl, s0, s1⟩ := ht
  obtain ⟨hl0, _, hm0⟩ := s0.len
  subst hl0
  unfold maxLen at hm0
  have S0 := Lib.hid s0; have S1 := Lib.hid s1; have HL := Lib.hid hl; clear s0 s1 hl
  go_enter Try.func25, Try.ntmps25
  go_wp2_with fail
  have bt : Blk ((w.alloc (.cells #[.slice A0 t.ases.length c0, .slice A1 n1 c1] 27)).alloc (.cells #[I s.asn, I s.value] 36)) w.heap.size 27 [.slice A0 t.ases.length c0, .slice A1 n1 c1] := (Blk.new w _ _).alloc _
  have bv : Blk ((w.alloc (.cells #[.slice A0 t.ases.length c0, .slice A1 n1 c1] 27)).alloc (.cells #[I s.asn, I s.value] 36)) (w.heap.size + 1) 36 [I s.asn, I s.value] := by simpa using Blk.new (w.alloc (.cells #[.slice A0 t.ases.length c0, .slice A1 n1 c1] 27)) 36 [I s.asn, I s.value]
  have ew : Ext w ((w.alloc (.cells #[.slice A0 t.ases.length c0, .slice A1 n1 c1] 27)).alloc (.cells #[I s.asn, I s.value] 36)) := ((Ext.refl _).alloc _).alloc _
  generalize (w.alloc (.cells #[.slice A0 t.ases.length c0, .slice A1 n1 c1] 27)).alloc (.cells #[I s.asn, I s.value] 36) = w0 at *
  have lt0 := bt.lt
  have lt1 := bv.lt
  obtain ⟨p0, p1⟩ := blk2 bt
  obtain ⟨q0, q1⟩ := blk2 bv
  have EW := Lib.hid ew; clear bt bv
  cases hv : isAs t s.asn
  · have HV := Lib.hid hv
    have HF : Hid (verifySig t s l = false) := by unfold Hid; simp [verifySig, hv]
    clear hv
    refine wp_region_ext (w0 := w0) (by kernel_rfl) (by kernel_rfl) (by exact Ext.refl _) ?_
    repeat (first
      | go_big_quiet_skip
      | (go_big_quiet_want
         apply Exists.intro
         refine ⟨fun W hW => ?_, ?_⟩
         · have hS := (Ext.facts hW).1
           go_simp
           first | done | (go_at_call 101; refine (spec_l5Realm _ _ t _ (by exact ⟨_, _, _, _, _, _, rfl, S0.out.ext (EW.out.trans hW), S1.out.ext (EW.out.trans hW)⟩)).mono ?_; rintro e w1 ⟨rfl, e1⟩; exact ⟨by rw [HV.out], hW.trans e1⟩) | (with_reducible rfl)
         simp only [Act.put, List.setIfInBounds_toArray, List.set_cons_zero, List.set_cons_succ]
         go_big_quiet_on))
    refine wpQuiet_nil ?_
    intro w1 e1
    go_wp2_with fail
    go_ret
    exact ⟨ret_bool HF.out.symm, EW.out.trans e1⟩
  · have HV := Lib.hid hv
    obtain ⟨i0, i1⟩ := inR_iff.1 hv
    obtain ⟨k, hk⟩ := Int.eq_ofNat_of_zero_le i0
    have hkl : k < t.ases.length := by omega
    obtain ⟨b, off, rfl, hb, hkk, hc⟩ := (S0.out.ext ew).at_ hkl
    have HF : Hid (verifySig t s l = (s.value == sign (t.ases[k]).key l)) := by unfold Hid; rw [verifySig, hv, hk, asAt_nat t k hkk]; simp
    generalize t.ases[k] = y at *
    obtain ⟨h0, h1, h2⟩ := hc
    have hk' : s.asn = (k : Int) := hk
    generalize s.asn = sa at *
    subst hk'
    clear hv hk
    go_region_held3 (fun W => w0.heap.size ≤ W.heap.size ∧ ∀ b o, b < w0.heap.size → W.cell? ⟨b, o, none⟩ = w0.cell? ⟨b, o, none⟩)
      (first | exact ⟨Nat.le_refl _, fun _ _ _ => rfl⟩ | exact keepC (by assumption) e2 | exact keepC (by assumption) e1)
      (first | (go_at_call 101; refine (spec_l5Realm _ _ t _ (by exact ⟨_, _, _, _, _, _, rfl, S0.out.ext xe, S1.out.ext xe⟩)).mono ?_; rintro e w1 ⟨rfl, e1⟩; rw [HV.out]) | (go_at_call 37; refine (spec_Sign _ _ l _ (by exact HL.out.ext xe) (by omega)).mono ?_; rintro e w2 ⟨rfl, e2⟩))
    go_wp2_with fail
    go_ret
    exact ⟨ret_bool HF.out.symm, ((EW.out.drew).trans e1).trans e2⟩
set_option maxRecDepth 100000 in
set_option maxHeartbeats 1000000 in
theorem impl_SignAs (vt : Value) (r : Int) (vl : Value) (t : DTopology) (l : List Int) (w : World) (ht : TopologyV w.heap.size w vt t) (hl : IntS w.heap.size w vl l) (hn : l.length ≤ 100000000) :
    Calls Try.prog 11 #[vt, I r, vl] w fun e w' => e = .returned (.agg #[I (signAs t r l).asn, I (signAs t r l).value]) ∧ Ext w w' := by
  obtain ⟨A0, n0, c0, A1, n1, c1, rfl, s0, s1⟩ := ht
  obtain ⟨hl0, _, hm0⟩ := s0.len
  subst hl0
  unfold maxLen at hm0
  have S0 := Lib.hid s0; have S1 := Lib.hid s1; have HL := Lib.hid hl; clear s0 s1 hl
  cases hv : isAs t r
  · have HV := Lib.hid hv
    have HF : Hid (signAs t r l = ⟨-1, 0⟩) := by unfold Hid; simp [signAs, hv]
    clear hv
    go_enter Try.func11, Try.ntmps11
    go_wp2_with fail
    refine (impl_isAS _ _ t _ (by exact ⟨_, _, _, _, _, _, rfl, S0.out.ext xe, S1.out.ext xe⟩)).mono ?_
    rintro e w1 ⟨rfl, e1⟩
    rw [HV.out]
    obtain ⟨hc1, hf1, hz1⟩ := e1.facts
    simp only [World.size_alloc] at hc1 hf1 hz1
    have la : w.heap.size < w1.heap.size := by omega
    have lb : w.heap.size + 1 < w1.heap.size := by omega
    go_wp2_with fail
    rw [HF.out]
    refine bodyPost_ret (v := .agg #[I (-1), I 0]) (by simp [results, Try.results11, go_sem, *]) rfl ⟨rfl, xe⟩
  · have HV := Lib.hid hv
    obtain ⟨i0, i1⟩ := inR_iff.1 hv
    obtain ⟨k, rfl⟩ := Int.eq_ofNat_of_zero_le i0
    have hkl : k < t.ases.length := by omega
    have HF : Hid (signAs t k l = ⟨k, sign (t.ases[k]).key l⟩) := by unfold Hid; rw [signAs, hv, asAt_nat t k hkl]; rfl
    clear hv
    go_enter Try.func11, Try.ntmps11
    go_wp2_with fail
    refine (impl_isAS _ _ t _ (by exact ⟨_, _, _, _, _, _, rfl, S0.out.ext xe, S1.out.ext xe⟩)).mono ?_
    rintro e w1 ⟨rfl, e1⟩
    rw [HV.out]
    obtain ⟨hc1, hf1, hz1⟩ := e1.facts
    simp only [World.size_alloc] at hc1 hf1 hz1
    have la : w.heap.size < w1.heap.size := by omega
    have lb : w.heap.size + 1 < w1.heap.size := by omega
    obtain ⟨b, off, rfl, hb, hkk, hc⟩ := (S0.out.ext (w' := w1) xe).at_ hkl
    generalize t.ases[k] = y at *
    obtain ⟨h0, h1, h2⟩ := hc
    go_wp2_with fail
    refine (impl_Sign _ _ l _ (by exact HL.out.ext xe) (by omega)).mono ?_
    rintro e w2 ⟨rfl, e2⟩
    obtain ⟨hc2, hf2, hz2⟩ := e2.facts
    have lc : w.heap.size + 1 < w2.heap.size := by omega
    go_wp2_with fail
    rw [HF.out]
    refine bodyPost_ret (v := .agg #[I k, I (sign y.key l)]) (by simp [results, Try.results11, go_sem, *]) rfl ⟨rfl, xe⟩
set_option maxRecDepth 100000 in
set_option maxHeartbeats 1000000 in
theorem spec_SignAs (vt : Value) (r : Int) (vl : Value) (t : DTopology) (l : List Int) (w : World) (ht : TopologyV w.heap.size w vt t) (hl : IntS w.heap.size w vl l) (hn : l.length ≤ 100000000) :
    Calls Try.prog 28 #[vt, I r, vl] w fun e w' => e = .returned (.agg #[I (signAs t r l).asn, I (signAs t r l).value]) ∧ Ext w w' := by
  obtain ⟨A0, n0, c0, A1, n1, c1, rfl, s0, s1⟩ := ht
  obtain ⟨hl0, _, hm0⟩ := s0.len
  subst hl0
  unfold maxLen at hm0
  have S0 := Lib.hid s0; have S1 := Lib.hid s1; have HL := Lib.hid hl; clear s0 s1 hl
  cases hv : isAs t r
  · have HV := Lib.hid hv
    have HF : Hid (signAs t r l = ⟨-1, 0⟩) := by unfold Hid; simp [signAs, hv]
    clear hv
    go_enter Try.func28, Try.ntmps28
    go_wp2_with fail
    refine (spec_l5Realm _ _ t _ (by exact ⟨_, _, _, _, _, _, rfl, S0.out.ext xe, S1.out.ext xe⟩)).mono ?_
    rintro e w1 ⟨rfl, e1⟩
    rw [HV.out]
    obtain ⟨hc1, hf1, hz1⟩ := e1.facts
    simp only [World.size_alloc] at hc1 hf1 hz1
    have la : w.heap.size < w1.heap.size := by omega
    have lb : w.heap.size + 1 < w1.heap.size := by omega
    go_wp2_with fail
    rw [HF.out]
    refine bodyPost_ret (v := .agg #[I (-1), I 0]) (by simp [results, Try.results28, go_sem, *]) rfl ⟨rfl, xe⟩
  · have HV := Lib.hid hv
    obtain ⟨i0, i1⟩ := inR_iff.1 hv
    obtain ⟨k, rfl⟩ := Int.eq_ofNat_of_zero_le i0
    have hkl : k < t.ases.length := by omega
    have HF : Hid (signAs t k l = ⟨k, sign (t.ases[k]).key l⟩) := by unfold Hid; rw [signAs, hv, asAt_nat t k hkl]; rfl
    clear hv
    go_enter Try.func28, Try.ntmps28
    go_wp2_with fail
    refine (spec_l5Realm _ _ t _ (by exact ⟨_, _, _, _, _, _, rfl, S0.out.ext xe, S1.out.ext xe⟩)).mono ?_
    rintro e w1 ⟨rfl, e1⟩
    rw [HV.out]
    obtain ⟨hc1, hf1, hz1⟩ := e1.facts
    simp only [World.size_alloc] at hc1 hf1 hz1
    have la : w.heap.size < w1.heap.size := by omega
    have lb : w.heap.size + 1 < w1.heap.size := by omega
    obtain ⟨b, off, rfl, hb, hkk, hc⟩ := (S0.out.ext (w' := w1) xe).at_ hkl
    generalize t.ases[k] = y at *
    obtain ⟨h0, h1, h2⟩ := hc
    go_wp2_with fail
    refine (spec_Sign _ _ l _ (by exact HL.out.ext xe) (by omega)).mono ?_
    rintro e w2 ⟨rfl, e2⟩
    obtain ⟨hc2, hf2, hz2⟩ := e2.facts
    have lc : w.heap.size + 1 < w2.heap.size := by omega
    go_wp2_with fail
    rw [HF.out]
    refine bodyPost_ret (v := .agg #[I k, I (sign y.key l)]) (by simp [results, Try.results28, go_sem, *]) rfl ⟨rfl, xe⟩
end Go.Proofs.Ytmlfnfflpacchaa
namespace Go.Proofs.Ytmlfnfflpacchaa
open Go.RowKit
set_option linter.unusedVariables false
def hopInts (h : DHop) : List Int := [h.asn, h.ing, h.egr, h.exp, h.mac]
def signedData (s : DSegment) (i : Int) : List Int := if inR i 0 s.hops.length then [s.ts, s.beta, i] ++ (s.hops.take i.toNat).flatMap hopInts else []
theorem hopInts_len (l : List DHop) : (l.flatMap hopInts).length = l.length * 5 := by
  induction l with
  | nil => rfl
  | cons h l ih => rw [List.flatMap_cons, List.length_append, ih, List.length_cons]; simp [hopInts]; omega
theorem signedData_len (s : DSegment) (i : Int) : (signedData s i).length ≤ 3 + 5 * s.hops.length := by
  unfold signedData
  split
  · have h := hopInts_len (s.hops.take i.toNat)
    have h2 : (s.hops.take i.toNat).length ≤ s.hops.length := by rw [List.length_take]; omega
    rw [List.length_append, h]
    simp
    omega
  · simp
theorem hopInts_snoc (l : List DHop) (k : Nat) (h : k < l.length) : (l.take (k + 1)).flatMap hopInts = (l.take k).flatMap hopInts ++ hopInts l[k] := by
  rw [take_snoc l k h, List.flatMap_append]
  simp
set_option maxRecDepth 100000 in
set_option maxHeartbeats 1000000 in
theorem impl_hopInts (h : DHop) (w : World) : Calls Try.prog 104 #[.agg #[I h.asn, I h.ing, I h.egr, I h.exp, I h.mac]] w fun e w' => ∃ v', e = .returned v' ∧ IntSO w.heap.size w'.heap.size w' v' (hopInts h) ∧ Ext w w' := by
  go_enter Try.func104, Try.ntmps104
  go_wp2
  go_ret
  refine ⟨_, rfl, ?_, xe⟩
  refine Own.of_blk (cs := (hopInts h).map I) ?_ rfl (by unfold maxLen; simp) (by simp) (by simp)
  unfold Blk
  rw [← World.size_alloc]
  exact heap_alloc_new _ _
set_option maxRecDepth 100000 in
set_option maxHeartbeats 1000000 in
theorem impl_SignedData (v : Value) (i : Int) (x : DSegment) (w : World) (h : SegmentV w.heap.size w v x) (hn : x.hops.length ≤ 16777216) :
    Calls Try.prog 34 #[v, I i] w fun e w' => ∃ v', e = .returned v' ∧ IntSO w.heap.size w'.heap.size w' v' (signedData x i) ∧ Ext w w' := by
  obtain ⟨A, n, c, rfl, s⟩ := h
  obtain ⟨hl, hnc, hm⟩ := s.len
  subst hl
  unfold maxLen at hm
  have S := Lib.hid s; clear s
  cases hr : inR i 0 x.hops.length
  · have HR := Lib.hid hr
    have HF : Hid (signedData x i = []) := by unfold Hid; simp [signedData, hr]
    clear hr
    go_enter Try.func34, Try.ntmps34
    go_wp2_with fail
    refine (impl_InRange _ _ _ _).mono ?_
    rintro e w' ⟨rfl, rfl⟩
    rw [HR.out]
    go_wp2_with fail
    go_ret
    rw [HF.out]
    exact ⟨_, rfl, Own.nil _ _ _ _ _, xe⟩
  · have HR := Lib.hid hr
    obtain ⟨i0, i1⟩ := inR_iff.1 hr
    obtain ⟨m, rfl⟩ := Int.eq_ofNat_of_zero_le i0
    have HF : Hid (signedData x m = [x.ts, x.beta, (m : Int)] ++ (x.hops.take m).flatMap hopInts) := by unfold Hid; simp [signedData, hr]
    clear hr
    go_enter Try.func34, Try.ntmps34
    go_wp2_with fail
    refine (impl_InRange _ _ _ _).mono ?_
    rintro e w' ⟨rfl, rfl⟩
    rw [HR.out]
    go_wp2_with fail
    have ob : Own 3 1 w.heap.size ((w.alloc (.cells #[I x.ts, I x.beta, .slice A x.hops.length c] 55)).alloc (.cells #[I x.ts, I x.beta, I m] 3)).heap.size ((w.alloc (.cells #[I x.ts, I x.beta, .slice A x.hops.length c] 55)).alloc (.cells #[I x.ts, I x.beta, I m] 3)) (.slice (some ⟨w.heap.size + 1, 0, none⟩) 3 3) 3 [I x.ts, I x.beta, I m] := by
      refine Own.of_blk ?_ rfl (by unfold maxLen; simp) (by simp) (by simp)
      have hb := Blk.new (w.alloc (.cells #[I x.ts, I x.beta, .slice A x.hops.length c] 55)) 3 [I x.ts, I x.beta, I m]
      simpa using hb
    have ew : Ext w ((w.alloc (.cells #[I x.ts, I x.beta, .slice A x.hops.length c] 55)).alloc (.cells #[I x.ts, I x.beta, I m] 3)) := ((Ext.refl _).alloc _).alloc _
    generalize (w.alloc (.cells #[I x.ts, I x.beta, .slice A x.hops.length c] 55)).alloc (.cells #[I x.ts, I x.beta, I m] 3) = w0 at *
    have OB := Lib.hid ob; have EW := Lib.hid ew; clear ob ew
    go_loopw [5, 25] (fun o j wr => ∃ (k : Nat), k ≤ m ∧ j = I k ∧ Own 3 1 w.heap.size wr.heap.size wr o (3 + k * 5) (([x.ts, x.beta, (m : Int)] ++ (x.hops.take k).flatMap hopInts).map I) ∧ Ext w wr) (fun _ j _ => m - (intOf j).toNat)
    case atStart => exact ⟨0, by omega, rfl, by simpa using OB.out, EW.out⟩
    case round =>
      obtain ⟨k, hk, rfl, ho, he⟩ := hrel
      have HE := Lib.hid he; clear he
      have HO := Lib.hid ho; clear ho
      by_cases hlt : k < m
      · obtain ⟨b, off, rfl, hb, hkl, hc⟩ := (S.out.ext HE.out).at_ (show k < x.hops.length by omega)
        have HX := Lib.hid (hopInts_snoc x.hops k hkl)
        generalize x.hops[k] = y at *
        obtain ⟨h0, h1, h2, h3, h4⟩ := hc
        go_wp2_with (at_builtin; refine hold ?_)
        refine (impl_hopInts y _).mono ?_
        rintro e w1 ⟨v1, rfl, o1, e1⟩
        have O1 := Lib.hid o1; clear o1
        obtain ⟨A1, n1, c1, rfl, hl1, _⟩ := IntSO_rd O1.out
        have he1 : Ext w w1 := (HE.out.alloc _).trans e1
        have z1 := e1.size
        simp only [World.size_alloc] at z1
        subst hl1
        go_wp2_with (at_builtin; refine hold ?_)
        refine unhold (wpList_app w rfl (.tmp 29) (.tmp 31) _ rfl 3 (.int .i64 0) 1 8 Try.underlying38 info_int rfl (by omega) _ _ _ rfl A1 _ c1 ((hopInts y).map I) rfl
          (by exact ((HO.out.alloc _).ext e1 (by simp only [World.size_alloc]; omega)).lt_size) (by exact row_ints (IntSO_rd O1.out)) (one_ints _) he1 (by unfold maxLen; simp [hopInts]; omega) (by simp [hopInts]; omega) ?_)
        intro v2 w2 o2 e2 _ _
        have O2 := Lib.hid o2; clear o2
        go_wp2_with (at_builtin; refine hold ?_)
        go_roundw
        case rel =>
          refine ⟨k + 1, by omega, by go_num, ?_, e2⟩
          have h := O2.out
          rw [HX.out]
          rw [show 3 + (k + 1) * 5 = 3 + k * 5 + (hopInts y).length from by simp [hopInts]; omega]
          simpa using h
        case measure => simp [intOf]; omega
      · obtain rfl : k = m := by omega
        go_wp2_with (at_builtin; refine hold ?_)
        go_ret
        rw [HF.out]
        refine ⟨_, rfl, ?_, HE.out⟩
        unfold IntSO
        rw [List.length_append, hopInts_len, List.length_take, Nat.min_eq_left (by omega)]
        exact HO.out
set_option maxRecDepth 100000 in
set_option maxHeartbeats 1000000 in
theorem spec_SignedData (v : Value) (i : Int) (x : DSegment) (w : World) (h : SegmentV w.heap.size w v x) (hn : x.hops.length ≤ 16777216) :
    Calls Try.prog 35 #[v, I i] w fun e w' => ∃ v', e = .returned v' ∧ IntSO w.heap.size w'.heap.size w' v' (signedData x i) ∧ Ext w w' := by
  obtain ⟨A, n, c, rfl, s⟩ := h
  obtain ⟨hl, hnc, hm⟩ := s.len
  subst hl
  unfold maxLen at hm
  have S := Lib.hid s; clear s
  cases hr : inR i 0 x.hops.length
  · have HR := Lib.hid hr
    have HF : Hid (signedData x i = []) := by unfold Hid; simp [signedData, hr]
    clear hr
    go_enter Try.func35, Try.ntmps35
    go_wp2_with fail
    refine (spec_l1In _ _ _ _).mono ?_
    rintro e w' ⟨rfl, rfl⟩
    rw [HR.out]
    go_wp2_with fail
    go_ret
    rw [HF.out]
    refine ⟨_, rfl, ?_, xe⟩
    exact own_zero' _ 3 1 _ _ (by simp) (by simp)
  · have HR := Lib.hid hr
    obtain ⟨i0, i1⟩ := inR_iff.1 hr
    obtain ⟨m, rfl⟩ := Int.eq_ofNat_of_zero_le i0
    have HF : Hid (signedData x m = [x.ts, x.beta, (m : Int)] ++ (x.hops.take m).flatMap hopInts) := by unfold Hid; simp [signedData, hr]
    clear hr
    go_enter Try.func35, Try.ntmps35
    go_wp2_with fail
    refine (spec_l1In _ _ _ _).mono ?_
    rintro e w' ⟨rfl, rfl⟩
    rw [HR.out]
    go_wp2_with fail
    have bx : Blk (w.alloc (.cells #[I x.ts, I x.beta, .slice A x.hops.length c] 55)) w.heap.size 55 [I x.ts, I x.beta, .slice A x.hops.length c] := Blk.new w _ _
    have ew : Ext w (w.alloc (.cells #[I x.ts, I x.beta, .slice A x.hops.length c] 55)) := (Ext.refl _).alloc _
    have zw : w.heap.size + 1 = (w.alloc (.cells #[I x.ts, I x.beta, .slice A x.hops.length c] 55)).heap.size := by simp only [World.size_alloc]
    have ob := own_newN (w.alloc (.cells #[I x.ts, I x.beta, .slice A x.hops.length c] 55)) 3 1 3 _ (w.heap.size + 1) [I x.ts, I x.beta, I m] zw rfl (by unfold maxLen; omega) (Nat.le_refl _)
    have zl : w.heap.size ≤ (w.alloc (.cells #[I x.ts, I x.beta, .slice A x.hops.length c] 55)).heap.size := by omega
    clear zw
    generalize w.alloc (.cells #[I x.ts, I x.beta, .slice A x.hops.length c] 55) = wb at *
    have OB := Lib.hid ob; have EW := Lib.hid ew; have BX := Lib.hid bx; clear ob ew bx
    go_loopw [5, 6] (fun o j wr => ∃ (k : Nat), k ≤ m ∧ j = I k ∧ Own 3 1 wb.heap.size wr.heap.size wr o (3 + k * 5) (([x.ts, x.beta, (m : Int)] ++ (x.hops.take k).flatMap hopInts).map I) ∧ Ext wb wr) (fun _ j _ => m - (intOf j).toNat)
    case atStart => exact ⟨0, by omega, rfl, by simpa using OB.out, (Ext.refl _).alloc _⟩
    case round =>
      obtain ⟨k, hk, rfl, ho, he⟩ := hrel
      have HE := Lib.hid he; clear he
      have HO := Lib.hid ho; clear ho
      by_cases hlt : k < m
      · obtain ⟨b, off, rfl, hb, hkl, hc⟩ := (S.out.ext (EW.out.trans HE.out)).at_ (show k < x.hops.length by omega)
        have HX := Lib.hid (hopInts_snoc x.hops k hkl)
        generalize x.hops[k] = y at *
        obtain ⟨h0, h1, h2, h3, h4⟩ := hc
        have bc := BX.out.ext HE.out
        obtain ⟨p0, p1, p2⟩ := blk3 bc
        have lbx := bc.lt
        clear bc
        go_wp2_with (at_builtin; refine hold ?_)
        refine unhold (wpList_app wb rfl (.tmp 31) (.tmp 42) _ rfl 3 (.int .i64 0) 1 8 Try.underlying38 info_int rfl (by omega) _ _ _ rfl _ 5 5 ((hopInts y).map I) rfl
          (by exact ((HO.out.alloc _).alloc _).lt_size) (row_newN _ 3 1 5 _ ((hopInts y).map I) (by simp) rfl) (one_ints _) (by exact (HE.out.alloc _).alloc _) (by unfold maxLen; omega) (by omega) ?_)
        intro v2 w2 o2 e2 _ _
        have O2 := Lib.hid o2; clear o2
        go_wp2_with (at_builtin; refine hold ?_)
        go_roundw
        case rel =>
          refine ⟨k + 1, by omega, by go_num, ?_, e2⟩
          have h := O2.out
          rw [HX.out]
          rw [show 3 + (k + 1) * 5 = 3 + k * 5 + 5 from by omega]
          simpa using h
        case measure => simp [intOf]; omega
      · obtain rfl : k = m := by omega
        go_wp2_with (at_builtin; refine hold ?_)
        go_ret
        rw [HF.out]
        refine ⟨_, rfl, ?_, EW.out.trans HE.out⟩
        unfold IntSO
        rw [List.length_append, hopInts_len, List.length_take, Nat.min_eq_left (by omega)]
        exact HO.out.more zl (Nat.le_refl _)
end Go.Proofs.Ytmlfnfflpacchaa
