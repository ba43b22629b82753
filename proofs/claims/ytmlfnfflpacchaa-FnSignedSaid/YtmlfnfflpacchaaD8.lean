/- The walk of the law FnUsurps. No conditions. -/
import Derived.Test.YtmlfnfflpacchaaD7
import Derived.Test.YtmlfnfflpacchaaP18u
namespace Go.Proofs.Ytmlfnfflpacchaa
open Go.RowKit
set_option linter.unusedVariables false
set_option maxRecDepth 100000 in
set_option maxHeartbeats 1000000 in
theorem laws_big (vb : Value) (bs : List Nat) (w : World) (hb : ByteS w.heap.size w vb bs) : Calls Try.prog 8 #[vb] w fun e w' => e = .returned (.bool (decide (1048576 < bs.length))) ∧ Ext w w' := by
  obtain ⟨A, n, c, rfl, ln, -, mc, -⟩ := id hb
  subst ln
  unfold maxLen at mc
  go_enter Try.func8, Try.ntmps8
  by_cases h : 1048576 < bs.length
  · have i1 : (1048576 : Int) < (bs.length : Int) := by omega
    go_wp2_with fail
    go_ret
    exact ⟨by simp [h], xe⟩
  · have i1 : ¬ (1048576 : Int) < (bs.length : Int) := by omega
    go_wp2_with fail
    go_ret
    exact ⟨by simp, xe⟩
theorem totS_bound {α : Type} {f : α → Nat} {b : Nat} : ∀ (l : List α), (∀ x ∈ l, f x ≤ b) → totS f l ≤ (b + 1) * l.length
  | [], _ => by simp [totS]
  | x :: l, h => by
    have h1 := h x (List.mem_cons_self ..)
    have h2 := totS_bound l fun y hy => h y (List.mem_cons_of_mem _ hy)
    have e : totS f (x :: l) = f x + 1 + totS f l := by simp [totS]; omega
    rw [e, List.length_cons, Nat.mul_succ]
    omega
theorem othersTo_succ (t : DTopology) (s : Int) (k : Nat) : othersTo t s (k + 1) = if contains s (k : Int) then othersTo t s k else othersTo t s k ++ [(k : Int)] := by
  unfold othersTo
  rw [List.range_succ, List.filter_append]
  cases h : contains s (k : Int)
  · simp [h]
  · simp [h]
theorem upd_a {t : DTopology} {l : List DTrustRoot} {a : DTrustRoot} {n k : Nat} (h : validChain t l = true) (h0 : 0 < l.length) (hl : l.length ≤ 900000) (hx : l[l.length - 1]? = some a) (hn : n ≤ t.ases.length) (hk : k ≤ (elements a.voters).length) :
    (updRoots t l (nextRoot a (usurpSigs t a n k))).length = if a.quorum ≤ (k : Int) then l.length + 1 else l.length := by
  obtain ⟨h1, rfl⟩ := List.getElem?_eq_some_iff.1 hx
  exact usurp_upd h h0 hl hn hk
theorem quo_a {t : DTopology} {l : List DTrustRoot} {a : DTrustRoot} (h : validChain t l = true) (h0 : 0 < l.length) (hx : l[l.length - 1]? = some a) : 1 ≤ a.quorum ∧ a.quorum ≤ ((elements a.voters).length : Int) := by
  obtain ⟨h1, rfl⟩ := List.getElem?_eq_some_iff.1 hx
  exact usurp_quorum h h0
theorem usurp_zero (t : DTopology) (a : DTrustRoot) (n : Nat) : usurpSigs t a n 0 = (othersTo t a.voters n).map fun r => signAs t r (rootData (nextRoot a [])) := by
  unfold usurpSigs
  simp
theorem usurp_next {t : DTopology} {a : DTrustRoot} {n k : Nat} (hk : k < (elements a.voters).length) : usurpSigs t a n (k + 1) = usurpSigs t a n k ++ [signAs t (elements a.voters)[k] (rootData (nextRoot a []))] := by
  unfold usurpSigs
  rw [List.take_succ_eq_append_getElem hk, List.map_append, List.append_assoc]
  rfl
/-- What others have signed. -/
def oSigs (t : DTopology) (a : DTrustRoot) (k : Nat) : List DSignature := (othersTo t a.voters k).map fun r => signAs t r (rootData (nextRoot a []))
theorem oSigs_yes {t : DTopology} {a : DTrustRoot} {k : Nat} (h : contains a.voters (k : Int) = true) : oSigs t a (k + 1) = oSigs t a k := by
  unfold oSigs
  rw [othersTo_succ, h]
  rfl
theorem oSigs_no {t : DTopology} {a : DTrustRoot} {k : Nat} (h : contains a.voters (k : Int) = false) : oSigs t a (k + 1) = oSigs t a k ++ [signAs t k (rootData (nextRoot a []))] := by
  unfold oSigs
  rw [othersTo_succ, h]
  simp
theorem oSigs_len (t : DTopology) (a : DTrustRoot) (k : Nat) : (oSigs t a k).length ≤ k := by
  unfold oSigs othersTo
  rw [List.length_map, List.length_map]
  exact Nat.le_trans (List.length_filter_le _ _) (by simp)
set_option maxRecDepth 100000 in
set_option maxHeartbeats 1000000 in
theorem usurps_walk (vb : Value) (bs : List Nat) (w : World) (hb : ByteS w.heap.size w vb bs) : Calls Try.prog 3 #[vb] w fun e w' => e = .returned (.bool true) ∧ Ext w w' := by
  have HB := Lib.hid hb; clear hb
  go_enter Try.func3, Try.ntmps3
  go_wp2_with fail
  refine (laws_big vb bs w HB.out).mono ?_
  rintro e w1 ⟨rfl, e1⟩
  by_cases hn : 1048576 < bs.length
  · rw [show decide (1048576 < bs.length) = true by simpa using hn]
    go_wp2_with fail
    go_ret
    exact ⟨rfl, xe⟩
  rw [show decide (1048576 < bs.length) = false by simpa using hn]
  go_wp2_with fail
  refine (spec_DrawRoots vb bs w1 (Sl.ext ByteAt.keeps HB.out e1) (by omega)).mono ?_
  rintro e w2 ⟨⟨v1, v2, rfl, t, l, ht, ⟨hn1, hn2, hn3⟩, hl, hl0, hl5, -, hp⟩, e2⟩
  have HP := Lib.hid hp; clear hp
  have HT := Lib.hid ht
  obtain ⟨At_0, nt_0, ct_0, At_1, nt_1, ct_1, rfl, st0, st1⟩ := ht
  obtain ⟨lt_0, kt_0, mt_0⟩ := st0.len
  subst lt_0
  unfold maxLen at mt_0
  clear st0 st1
  obtain ⟨Al, nl, cl, rfl, ll, kl, ml, -⟩ := id hl
  subst ll
  unfold maxLen at ml
  obtain ⟨j, hj⟩ : ∃ j : Nat, l.length = j + 1 := ⟨l.length - 1, by omega⟩
  obtain ⟨bk, off, hA, hbk, hkl, hc⟩ := hl.at_ (k := j) (by omega)
  have HL := Lib.hid hl; clear hl
  have hx0 : l[l.length - 1]? = some l[j] := by rw [show l.length - 1 = j by omega]; exact List.getElem?_eq_getElem hkl
  have hxm := HP.out l[j] (List.getElem_mem hkl)
  generalize l[j] = a at *
  have HX := Lib.hid hx0; clear hx0
  subst hA
  obtain ⟨Aa_6, na_6, ca_6, ha_0, ha_1, ha_2, ha_3, ha_4, ha_5, ha_6, sa_6⟩ := hc
  obtain ⟨la_6, ka_6, ma_6⟩ := sa_6.len
  subst la_6
  unfold maxLen at ma_6
  have Ra : Hid (TrustRootV w2.heap.size w2 (.agg #[I a.isd, I a.version, I a.notBefore, I a.notAfter, I a.voters, I a.quorum, .slice Aa_6 a.sigs.length ca_6]) a) := ⟨_, _, _, rfl, sa_6⟩
  have Sa_6 := Lib.hid sa_6; clear sa_6
  have HJ := Lib.hid hj
  have j0 : (0 : Int) ≤ (l.length : Int) - 1 := by omega
  have j1 : (l.length : Int) - 1 < (l.length : Int) := by omega
  have j2 : ((l.length : Int) - 1).toNat = j := by omega
  clear hj
  go_wp2_with fail
  have hnv : IntKind.i64.wrap (a.version + 1) = a.version + 1 := IntWalk.i64_in _ (by omega)
  refine name_wp (fun W => Ext w2 W ∧ W.heap.size = w2.heap.size + 1 + 1 + 1 + 1 ∧ Blk W w2.heap.size 27 [.slice At_0 t.ases.length ct_0, .slice At_1 nt_1 ct_1] ∧ Blk W (w2.heap.size + 1) 33 [I a.isd, I a.version, I a.notBefore, I a.notAfter, I a.voters, I a.quorum, .slice Aa_6 a.sigs.length ca_6] ∧ RootVar (w2.heap.size + 1 + 1 + 1) W (w2.heap.size + 1 + 1) (nextRoot a [])) ⟨xe, by simp only [World.size_alloc], xb, xb, ⟨_, _, (by show Blk _ _ _ [I a.isd, I (IntKind.i64.wrap (a.version + 1)), I a.notBefore, I a.notAfter, I a.voters, I a.quorum, .slice _ 0 _]; rw [hnv]; exact xb), Own.more (own_zero' _ _ _ _ _ (by simp) (Nat.le_refl _)) (by simp) (Nat.le_refl _), by simp⟩⟩ ?_
  rintro w3 ⟨e3, z3, bt, bl, rv⟩
  have BT := Lib.hid bt; have BL := Lib.hid bl; have RV := Lib.hid rv; clear bt bl rv
  go_loopw [7] (fun i wr => ∃ k : Nat, k ≤ t.ases.length ∧ i = I k ∧ RootVar (w2.heap.size + 1 + 1 + 1) wr (w2.heap.size + 1 + 1) (nextRoot a (oSigs t a k)) ∧ Blk wr w2.heap.size 27 [.slice At_0 t.ases.length ct_0, .slice At_1 nt_1 ct_1] ∧ Blk wr (w2.heap.size + 1) 33 [I a.isd, I a.version, I a.notBefore, I a.notAfter, I a.voters, I a.quorum, .slice Aa_6 a.sigs.length ca_6] ∧ Ext w2 wr) (fun i _ => t.ases.length - (intOf i).toNat)
  case atStart => exact ⟨0, by omega, rfl, RV.out, BT.out, BL.out, e3⟩
  case round =>
    clear RV BT BL
    obtain ⟨k, hk, rfl, hrv, hbt, hbl, hd⟩ := hrel
    have zr := hd.size
    have BT := Lib.hid hbt; have BL := Lib.hid hbl; clear hbt hbl
    obtain ⟨A6, c6, hb6, h6, hl6⟩ := hrv
    have hol := oSigs_len t a k
    obtain ⟨y, hy⟩ : ∃ y, nextRoot a (oSigs t a k) = y := ⟨_, rfl⟩
    rw [hy] at hb6 h6
    have hyl : y.sigs.length ≤ k := by rw [← hy]; exact hol
    have HY := Lib.hid hy; clear hy hol
    have HB6 := Lib.hid hb6; have H6 := Lib.hid h6; clear hb6 h6
    have b0 := BT.out.ext (w' := wr) xe
    have lb0 := b0.lt
    obtain ⟨qb0_0, qb0_1⟩ := blk2 b0
    have fb0_0 := b0.frozen 0
    have fb0_1 := b0.frozen 1
    clear b0
    have b1 := BL.out.ext (w' := wr) xe
    have lb1 := b1.lt
    obtain ⟨qb1_0, qb1_1, qb1_2, qb1_3, qb1_4, qb1_5, qb1_6⟩ := blk7 b1
    have fb1_0 := b1.frozen 0
    have fb1_1 := b1.frozen 1
    have fb1_2 := b1.frozen 2
    have fb1_3 := b1.frozen 3
    have fb1_4 := b1.frozen 4
    have fb1_5 := b1.frozen 5
    have fb1_6 := b1.frozen 6
    clear b1
    by_cases hlt : k < t.ases.length
    · have i1 : (k : Int) < (t.ases.length : Int) := by omega
      have HTr := Lib.hid (HT.out.ext hd)
      go_wp2_with fail
      refine (impl_Contains _ _ _).mono ?_
      rintro e w4 ⟨rfl, rfl⟩
      cases hcn : contains a.voters (k : Int)
      ·
        have HCN := Lib.hid hcn; clear hcn
        have b6 := HB6.out.ext (w' := wr) xe
        have lb6 := b6.lt
        obtain ⟨qb6_0, qb6_1, qb6_2, qb6_3, qb6_4, qb6_5, qb6_6⟩ := blk7 b6
        have fb6_0 := b6.frozen 0
        have fb6_1 := b6.frozen 1
        have fb6_2 := b6.frozen 2
        have fb6_3 := b6.frozen 3
        have fb6_4 := b6.frozen 4
        have fb6_5 := b6.frozen 5
        have fb6_6 := b6.frozen 6
        clear b6
        have HXV : Hid (TrustRootV wr.heap.size wr (.agg #[I y.isd, I y.version, I y.notBefore, I y.notAfter, I y.voters, I y.quorum, .slice A6 y.sigs.length c6]) y) := ⟨_, _, _, rfl, SignatureSO_rd H6.out⟩
        have hdl : (rootData y).length = 6 := rfl
        go_wp2_with fail
        refine wp_region_LT 8 (E := Ext) (w0 := wr) (G := fun τ => match τ with | 47 => some (fun v W => IntS W.heap.size W v (rootData y)) | 48 => some (fun v W => v = .agg #[I (signAs t k (rootData y)).asn, I (signAs t k (rootData y)).value]) | 49 => some (fun v W => Fresh1 36 wr.heap.size [I (signAs t k (rootData y)).asn, I (signAs t k (rootData y)).value] v W) | _ => none) Ext.refl (fun h k => Ext.trans h k) (by kernel_rfl) (by kernel_rfl) (by kernel_rfl) (by kernel_rfl) (by kernel_rfl) (by kernel_rfl) xg (Ext.drew (by exact Ext.refl _)) ?_
        simp only [List.take_succ_cons, List.take_zero]
        repeat' (first
          | ((with_reducible refine wpL_skip ?_ ?_ ?_)
             · rfl
             · rfl
             simp only [Act.put, List.setIfInBounds_toArray, List.set_cons_zero, List.set_cons_succ])
          | ((with_reducible refine wpL_quiet ?_ ?_ ?_ ?_)
             · rfl
             · rfl
             · rfl
             apply Exists.intro
             refine ⟨fun W hW hS => ?_, ?_⟩
             · have hC := (Ext.facts hW).1
               go_simp
               first | done | (with_reducible rfl) | (rw [if_neg (by omega)]; exact ⟨rfl, rfl⟩) | rfl
             first | (with_reducible refine wpL_boolT ?_) | (with_reducible refine wpL_boolF ?_) | (with_reducible refine wpL_bool (fun hB => ?_) (fun hB => ?_)) | skip
             all_goals simp only [Act.put, List.setIfInBounds_toArray, List.set_cons_zero, List.set_cons_succ])
          | ((refine wpL_call ?_ rfl rfl ?_ ?_ ?_)
             · rfl
             · rfl
             · intro W hW hS
               have hC := (Ext.facts hW).1
               unfold growAt
               go_simp
               simp only [growUpon]
               first | (go_at_call 12; (with_reducible refine Calls.mono (impl_RootData _ y _ (by exact HXV.out.ext xe)) ?_); rintro e w9_ ⟨v9, rfl, o9, e9⟩; exact ⟨_, rfl, e9, IntSO_rd o9⟩) | (have hs47 : IntS W.heap.size W _ (rootData y) := hS 47 (by decide); go_at_call 11; (with_reducible refine Calls.mono (impl_SignAs _ k _ t (rootData y) _ (by exact HTr.out.ext xe) hs47 (by omega)) ?_); rintro e w9_ ⟨rfl, e9⟩; exact ⟨_, rfl, e9, rfl⟩) | (exact ⟨xe, Fresh1.new _ 36 _ _ _ rfl (Ext.size (by assumption))⟩)
             first | (with_reducible refine wpL_boolT ?_) | (with_reducible refine wpL_boolF ?_) | (with_reducible refine wpL_bool (fun hB => ?_) (fun hB => ?_)) | skip
             all_goals simp only [Act.put, List.setIfInBounds_toArray, List.set_cons_zero, List.set_cons_succ])
          | ((refine wpL_grow ?_ rfl rfl ?_ ?_)
             · rfl
             · intro W hW hS
               have hC := (Ext.facts hW).1
               unfold growAt
               go_simp
               simp only [growUpon]
               first | (go_at_call 12; (with_reducible refine Calls.mono (impl_RootData _ y _ (by exact HXV.out.ext xe)) ?_); rintro e w9_ ⟨v9, rfl, o9, e9⟩; exact ⟨_, rfl, e9, IntSO_rd o9⟩) | (have hs47 : IntS W.heap.size W _ (rootData y) := hS 47 (by decide); go_at_call 11; (with_reducible refine Calls.mono (impl_SignAs _ k _ t (rootData y) _ (by exact HTr.out.ext xe) hs47 (by omega)) ?_); rintro e w9_ ⟨rfl, e9⟩; exact ⟨_, rfl, e9, rfl⟩) | (exact ⟨xe, Fresh1.new _ 36 _ _ _ rfl (Ext.size (by assumption))⟩)
             intro v W' hW' hv
             first | (obtain ⟨A5, n5, c5, rfl, -⟩ := id hv) | (subst hv) | (obtain ⟨g5, rfl, -⟩ := hv) | (obtain ⟨A5, n5, c5, rfl, -⟩ := id hv; clear hv) | (obtain ⟨A5, n5, c5, rfl⟩ := NO.slice hv) | skip
             all_goals simp only [Act.put, List.setIfInBounds_toArray, List.set_cons_zero, List.set_cons_succ]))
        refine wpL_nil (fun w5 e5 hL => ?_)
        obtain ⟨g5, hv5, hg5, hb5⟩ : Fresh1 36 wr.heap.size [I (signAs t k (rootData y)).asn, I (signAs t k (rootData y)).value] _ w5 := hL 49
        cases hv5
        clear hL lb0 qb0_0 qb0_1 fb0_0 fb0_1 lb1 qb1_0 qb1_1 qb1_2 qb1_3 qb1_4 qb1_5 qb1_6 fb1_0 fb1_1 fb1_2 fb1_3 fb1_4 fb1_5 fb1_6 lb6 qb6_0 qb6_1 qb6_2 qb6_3 qb6_4 qb6_5 qb6_6 fb6_0 fb6_1 fb6_2 fb6_3 fb6_4 fb6_5 fb6_6
        have HSG : Hid ({ y with sigs := y.sigs ++ [signAs t k (rootData y)] } = nextRoot a (oSigs t a (k + 1))) := by
          unfold Hid
          rw [oSigs_no HCN.out, ← HY.out]
          rfl
        generalize signAs t k (rootData y) = sg at *
        have z5 := e5.size
        have HB5 := Lib.hid (HB6.out.ext e5)
        have BT5 := Lib.hid (BT.out.ext e5)
        have BL5 := Lib.hid (BL.out.ext e5)
        have H65 := Lib.hid ((H6.out.ext e5 (Nat.le_refl _)).lt_size)
        simp only [List.drop_succ_cons, List.drop_zero]
        go_wp2_with (at_builtin; refine hold ?_)
        refine unhold (wpList_appL (w2.heap.size + 1 + 1 + 1) rfl (.tmp 43) (.tmp 49) _ rfl 36 _ 2 16 Try.underlying31 info_Signature rfl (by omega) (.slice A6 y.sigs.length c6) y.sigs.length (y.sigs.flatMap SignatureC) rfl _ 1 1 (SignatureC sg) rfl H65.out (row_blk hb5 rfl) (fun u hu => one_Signature [sg] u (by simpa using hu)) (by omega) (by unfold maxLen; omega) (by omega) ?_)
        intro v8 w8 o8 hg8
        obtain ⟨a8, m8, q8, hv8⟩ := o8.slice
        subst hv8
        obtain ⟨hm8, -⟩ := NO.row o8
        subst hm8
        have B8 := Lib.hid (Blk.grown HB5.out hg8 (off_type H65.out HB5.out (by decide)))
        have BT8 := Lib.hid (Blk.grown BT5.out hg8 (off_type H65.out BT5.out (by decide)))
        have BL8 := Lib.hid (Blk.grown BL5.out hg8 (off_type H65.out BL5.out (by decide)))
        have z8 := hg8.size
        have dd : Ext w2 w8 := Ext.grownB (Ext.trans hd e5) H65.out hg8 (by omega)
        have o9 : Own 36 2 (w2.heap.size + 1 + 1 + 1) w8.heap.size w8 (.slice a8 (y.sigs.length + 1) q8) (y.sigs.length + 1) ((y.sigs ++ [sg]).flatMap SignatureC) := by rw [List.flatMap_append]; simpa using o8
        have O8 := Lib.hid o9; clear o8 o9 hg8
        have b8 := B8.out.ext (w' := w8) xe
        have lb8 := b8.lt
        obtain ⟨qb8_0, qb8_1, qb8_2, qb8_3, qb8_4, qb8_5, qb8_6⟩ := blk7 b8
        have fb8_0 := b8.frozen 0
        have fb8_1 := b8.frozen 1
        have fb8_2 := b8.frozen 2
        have fb8_3 := b8.frozen 3
        have fb8_4 := b8.frozen 4
        have fb8_5 := b8.frozen 5
        have fb8_6 := b8.frozen 6
        clear b8
        go_wp2_with (at_builtin; refine hold ?_)
        go_roundw
        case rel =>
          refine ⟨k + 1, by omega, by go_num, ?_, BT8.out.far (by dsimp only; omega) _, BL8.out.far (by dsimp only; omega) _, Ext.setCell dd (by dsimp only; omega) _⟩
          rw [← HSG.out]
          refine ⟨a8, q8, ?_, ?_, by simp only [World.size_setCell]; omega⟩
          · simpa using B8.out.set_ 6 (.slice a8 (y.sigs.length + 1) q8)
          · simp only [World.size_setCell]
            have h9 := O8.out.setT B8.out (by decide) 6 (.slice a8 (y.sigs.length + 1) q8)
            rw [List.length_append, List.length_singleton]
            exact h9
        case measure => first | (simp [intOf]; done) | (simp [intOf]; omega)
      · go_wp2_with fail
        go_roundw
        case rel => exact ⟨k + 1, by omega, by go_num, by rw [oSigs_yes hcn, HY.out]; exact ⟨A6, c6, HB6.out, H6.out, hl6⟩, BT.out, BL.out, xe⟩
        case measure => first | (simp [intOf]; done) | (simp [intOf]; omega)
    · obtain rfl : k = t.ases.length := by omega
      have i1 : ¬ (t.ases.length : Int) < (t.ases.length : Int) := by omega
      have HTr := Lib.hid (HT.out.ext hd)
      have HLr := Lib.hid (TrustRootS.ext HL.out hd)
      have HXV : Hid (TrustRootV wr.heap.size wr (.agg #[I y.isd, I y.version, I y.notBefore, I y.notAfter, I y.voters, I y.quorum, .slice A6 y.sigs.length c6]) y) := ⟨_, _, _, rfl, SignatureSO_rd H6.out⟩
      go_wp2_with fail
      refine (spec_ValidRootChain _ _ t l _ (by exact HTr.out) (by exact HLr.out)).mono ?_
      rintro e w4 ⟨rfl, e4⟩
      clear lb0 qb0_0 qb0_1 fb0_0 fb0_1 lb1 qb1_0 qb1_1 qb1_2 qb1_3 qb1_4 qb1_5 qb1_6 fb1_0 fb1_1 fb1_2 fb1_3 fb1_4 fb1_5 fb1_6
      cases hv : validChain t l
      ·
        go_wp2_with fail
        go_ret
        exact ⟨rfl, xe⟩
      ·
        have HV := Lib.hid hv; clear hv
        have b0 := BT.out.ext (w' := w4) xe
        have lb0 := b0.lt
        obtain ⟨qb0_0, qb0_1⟩ := blk2 b0
        have fb0_0 := b0.frozen 0
        have fb0_1 := b0.frozen 1
        clear b0
        go_wp2_with fail
        refine (impl_ValidRootChain _ _ t l _ (by exact HTr.out.ext xe) (by exact TrustRootS.ext HLr.out xe)).mono ?_
        rintro e w5 ⟨rfl, e5⟩
        rw [HV.out]
        clear lb0 qb0_0 qb0_1 fb0_0 fb0_1
        have b0 := BT.out.ext (w' := w5) xe
        have lb0 := b0.lt
        obtain ⟨qb0_0, qb0_1⟩ := blk2 b0
        have fb0_0 := b0.frozen 0
        have fb0_1 := b0.frozen 1
        clear b0
        have b6 := HB6.out.ext (w' := w5) xe
        have lb6 := b6.lt
        obtain ⟨qb6_0, qb6_1, qb6_2, qb6_3, qb6_4, qb6_5, qb6_6⟩ := blk7 b6
        have fb6_0 := b6.frozen 0
        have fb6_1 := b6.frozen 1
        have fb6_2 := b6.frozen 2
        have fb6_3 := b6.frozen 3
        have fb6_4 := b6.frozen 4
        have fb6_5 := b6.frozen 5
        have fb6_6 := b6.frozen 6
        clear b6
        go_wp2_with fail
        refine (impl_UpdateRoots _ _ _ t l y _ (by exact HTr.out.ext xe) (by exact TrustRootS.ext HLr.out xe) (by exact HXV.out.ext xe) ?hn (by omega)).mono ?_
        case hn => exact Nat.le_trans (totS_bound l (fun x hx => (HP.out x hx).1)) (by omega)
        rintro e w6 ⟨v6, rfl, o6, e6⟩
        obtain ⟨A7, n7, c7, rfl, l7, -, m7, -⟩ := TrustRootSO_rd o6 (Nat.le_refl _)
        have hqa := quo_a HV.out hl0 HX.out
        have hup : (updRoots t l y).length = l.length := by
          have h9 := upd_a (n := t.ases.length) (k := 0) HV.out hl0 (by omega) HX.out (Nat.le_refl _) (Nat.zero_le _)
          rw [usurp_zero] at h9
          rw [← HY.out]
          unfold oSigs
          rw [h9, if_neg (by omega)]
        rw [hup] at l7
        subst l7
        unfold maxLen at m7
        clear lb0 qb0_0 qb0_1 fb0_0 fb0_1 lb6 qb6_0 qb6_1 qb6_2 qb6_3 qb6_4 qb6_5 qb6_6 fb6_0 fb6_1 fb6_2 fb6_3 fb6_4 fb6_5 fb6_6
        have z4 := e4.size
        have z5 := e5.size
        have z6 := e6.size
        have b1 := BL.out.ext (w' := w6) xe
        have lb1 := b1.lt
        obtain ⟨qb1_0, qb1_1, qb1_2, qb1_3, qb1_4, qb1_5, qb1_6⟩ := blk7 b1
        have fb1_0 := b1.frozen 0
        have fb1_1 := b1.frozen 1
        have fb1_2 := b1.frozen 2
        have fb1_3 := b1.frozen 3
        have fb1_4 := b1.frozen 4
        have fb1_5 := b1.frozen 5
        have fb1_6 := b1.frozen 6
        clear b1
        go_wp2_with fail
        refine (impl_Elements a.voters w6).mono ?_
        rintro e w7 ⟨v7, rfl, o7, e7⟩
        obtain ⟨A8, n8, c8, rfl⟩ := o7.slice
        obtain ⟨hn8, -⟩ := NO.row o7
        subst hn8
        have O7 := Lib.hid o7; clear o7
        have z7 := e7.size
        have hel : (elements a.voters).length ≤ 16 := elemsTo_len a.voters 16
        have er7 : Ext wr w7 := xe
        have RV : Hid (RootVar (w2.heap.size + 1 + 1 + 1) w7 (w2.heap.size + 1 + 1) (nextRoot a (usurpSigs t a t.ases.length 0))) := by
          unfold Hid
          rw [usurp_zero]
          have h9 := HY.out
          unfold oSigs at h9
          rw [h9]
          exact RootVar.ext ⟨A6, c6, HB6.out, H6.out, hl6⟩ er7
        clear lb1 qb1_0 qb1_1 qb1_2 qb1_3 qb1_4 qb1_5 qb1_6 fb1_0 fb1_1 fb1_2 fb1_3 fb1_4 fb1_5 fb1_6
        have BT7 := Lib.hid (BT.out.ext er7)
        have BL7 := Lib.hid (BL.out.ext er7)
        have d27 : Ext w2 w7 := Ext.trans hd er7
        go_wp2_with fail
        go_loopw [9] (fun i wr => ∃ k : Nat, (k : Int) ≤ a.quorum ∧ i = I k ∧ RootVar (w2.heap.size + 1 + 1 + 1) wr (w2.heap.size + 1 + 1) (nextRoot a (usurpSigs t a t.ases.length k)) ∧ Blk wr w2.heap.size 27 [.slice At_0 t.ases.length ct_0, .slice At_1 nt_1 ct_1] ∧ Blk wr (w2.heap.size + 1) 33 [I a.isd, I a.version, I a.notBefore, I a.notAfter, I a.voters, I a.quorum, .slice Aa_6 a.sigs.length ca_6] ∧ IntSO w6.heap.size w7.heap.size wr (.slice A8 (elements a.voters).length c8) (elements a.voters) ∧ w7.heap.size ≤ wr.heap.size ∧ Ext w2 wr) (fun i _ => a.quorum.toNat - (intOf i).toNat)
        case atStart => exact ⟨0, by omega, rfl, RV.out, BT7.out, BL7.out, O7.out, Nat.le_refl _, d27⟩
        case round =>
          clear RV BT7 BL7 O7 BT BL HB6 H6 HXV HY hup hyl hl6 er7 d27 hd HTr HLr zr
          obtain ⟨k, hk, rfl, hrv, hbt, hbl, ho, hz7, hd⟩ := hrel
          have zr := hd.size
          have BT := Lib.hid hbt; have BL := Lib.hid hbl; have HO := Lib.hid ho; clear hbt hbl ho
          obtain ⟨A6, c6, hb6, h6, hl6⟩ := hrv
          have hol : (usurpSigs t a t.ases.length k).length ≤ t.ases.length + k := by
            unfold usurpSigs
            rw [List.length_append, List.length_map, List.length_map, List.length_take]
            have := oSigs_len t a t.ases.length
            unfold oSigs at this
            rw [List.length_map] at this
            omega
          obtain ⟨y, hy⟩ : ∃ y, nextRoot a (usurpSigs t a t.ases.length k) = y := ⟨_, rfl⟩
          rw [hy] at hb6 h6
          have hyl : y.sigs.length ≤ t.ases.length + k := by rw [← hy]; exact hol
          have HY := Lib.hid hy; clear hy hol
          have HB6 := Lib.hid hb6; have H6 := Lib.hid h6; clear hb6 h6
          have b0 := BT.out.ext (w' := wr) xe
          have lb0 := b0.lt
          obtain ⟨qb0_0, qb0_1⟩ := blk2 b0
          have fb0_0 := b0.frozen 0
          have fb0_1 := b0.frozen 1
          clear b0
          have b1 := BL.out.ext (w' := wr) xe
          have lb1 := b1.lt
          obtain ⟨qb1_0, qb1_1, qb1_2, qb1_3, qb1_4, qb1_5, qb1_6⟩ := blk7 b1
          have fb1_0 := b1.frozen 0
          have fb1_1 := b1.frozen 1
          have fb1_2 := b1.frozen 2
          have fb1_3 := b1.frozen 3
          have fb1_4 := b1.frozen 4
          have fb1_5 := b1.frozen 5
          have fb1_6 := b1.frozen 6
          clear b1
          have b6 := HB6.out.ext (w' := wr) xe
          have lb6 := b6.lt
          obtain ⟨qb6_0, qb6_1, qb6_2, qb6_3, qb6_4, qb6_5, qb6_6⟩ := blk7 b6
          have fb6_0 := b6.frozen 0
          have fb6_1 := b6.frozen 1
          have fb6_2 := b6.frozen 2
          have fb6_3 := b6.frozen 3
          have fb6_4 := b6.frozen 4
          have fb6_5 := b6.frozen 5
          have fb6_6 := b6.frozen 6
          clear b6
          have HTr := Lib.hid (HT.out.ext hd)
          have HLr := Lib.hid (TrustRootS.ext HL.out hd)
          by_cases hlt : (k : Int) < a.quorum
          · have hkl : k < (elements a.voters).length := by omega
            obtain ⟨bq, offq, hA8, hbq, hkq, hcq⟩ := (IntSO_rd HO.out).at_ hkl
            have hcq : wr.cell? ⟨bq, offq + k, none⟩ = some (I (elements a.voters)[k]) := hcq
            have HUN := Lib.hid (usurp_next (t := t) (n := t.ases.length) hkl)
            generalize (elements a.voters)[k] = r at *
            subst hA8
            have i0 : (0 : Int) ≤ (k : Int) := by omega
            have i2 : (k : Int) < ((elements a.voters).length : Int) := by omega
            have HXV : Hid (TrustRootV wr.heap.size wr (.agg #[I y.isd, I y.version, I y.notBefore, I y.notAfter, I y.voters, I y.quorum, .slice A6 y.sigs.length c6]) y) := ⟨_, _, _, rfl, SignatureSO_rd H6.out⟩
            have hdl : (rootData y).length = 6 := rfl
            go_wp2_with fail
            refine wp_region_LT 11 (E := Ext) (w0 := wr) (G := fun τ => match τ with | 87 => some (fun v W => IntS W.heap.size W v (rootData y)) | 88 => some (fun v W => v = .agg #[I (signAs t r (rootData y)).asn, I (signAs t r (rootData y)).value]) | 89 => some (fun v W => Fresh1 36 wr.heap.size [I (signAs t r (rootData y)).asn, I (signAs t r (rootData y)).value] v W) | _ => none) Ext.refl (fun h k => Ext.trans h k) (by kernel_rfl) (by kernel_rfl) (by kernel_rfl) (by kernel_rfl) (by kernel_rfl) (by kernel_rfl) xg (Ext.drew (by exact Ext.refl _)) ?_
            simp only [List.take_succ_cons, List.take_zero]
            repeat' (first
              | ((with_reducible refine wpL_skip ?_ ?_ ?_)
                 · rfl
                 · rfl
                 simp only [Act.put, List.setIfInBounds_toArray, List.set_cons_zero, List.set_cons_succ])
              | ((with_reducible refine wpL_quiet ?_ ?_ ?_ ?_)
                 · rfl
                 · rfl
                 · rfl
                 apply Exists.intro
                 refine ⟨fun W hW hS => ?_, ?_⟩
                 · have hC := (Ext.facts hW).1
                   go_simp
                   first | done | (with_reducible rfl) | (rw [if_neg (by omega)]; exact ⟨rfl, rfl⟩) | rfl
                 first | (with_reducible refine wpL_boolT ?_) | (with_reducible refine wpL_boolF ?_) | (with_reducible refine wpL_bool (fun hB => ?_) (fun hB => ?_)) | skip
                 all_goals simp only [Act.put, List.setIfInBounds_toArray, List.set_cons_zero, List.set_cons_succ])
              | ((refine wpL_call ?_ rfl rfl ?_ ?_ ?_)
                 · rfl
                 · rfl
                 · intro W hW hS
                   have hC := (Ext.facts hW).1
                   unfold growAt
                   go_simp
                   simp only [growUpon]
                   first | (go_at_call 12; (with_reducible refine Calls.mono (impl_RootData _ y _ (by exact HXV.out.ext xe)) ?_); rintro e w9_ ⟨v9, rfl, o9, e9⟩; exact ⟨_, rfl, e9, IntSO_rd o9⟩) | (have hs47 : IntS W.heap.size W _ (rootData y) := hS 87 (by decide); go_at_call 11; (with_reducible refine Calls.mono (impl_SignAs _ r _ t (rootData y) _ (by exact HTr.out.ext xe) hs47 (by omega)) ?_); rintro e w9_ ⟨rfl, e9⟩; exact ⟨_, rfl, e9, rfl⟩) | (exact ⟨xe, Fresh1.new _ 36 _ _ _ rfl (Ext.size (by assumption))⟩)
                 first | (with_reducible refine wpL_boolT ?_) | (with_reducible refine wpL_boolF ?_) | (with_reducible refine wpL_bool (fun hB => ?_) (fun hB => ?_)) | skip
                 all_goals simp only [Act.put, List.setIfInBounds_toArray, List.set_cons_zero, List.set_cons_succ])
              | ((refine wpL_grow ?_ rfl rfl ?_ ?_)
                 · rfl
                 · intro W hW hS
                   have hC := (Ext.facts hW).1
                   unfold growAt
                   go_simp
                   simp only [growUpon]
                   first | (go_at_call 12; (with_reducible refine Calls.mono (impl_RootData _ y _ (by exact HXV.out.ext xe)) ?_); rintro e w9_ ⟨v9, rfl, o9, e9⟩; exact ⟨_, rfl, e9, IntSO_rd o9⟩) | (have hs47 : IntS W.heap.size W _ (rootData y) := hS 87 (by decide); go_at_call 11; (with_reducible refine Calls.mono (impl_SignAs _ r _ t (rootData y) _ (by exact HTr.out.ext xe) hs47 (by omega)) ?_); rintro e w9_ ⟨rfl, e9⟩; exact ⟨_, rfl, e9, rfl⟩) | (exact ⟨xe, Fresh1.new _ 36 _ _ _ rfl (Ext.size (by assumption))⟩)
                 intro v W' hW' hv
                 first | (obtain ⟨A5, n5, c5, rfl, -⟩ := id hv) | (subst hv) | (obtain ⟨g5, rfl, -⟩ := hv) | (obtain ⟨A5, n5, c5, rfl, -⟩ := id hv; clear hv) | (obtain ⟨A5, n5, c5, rfl⟩ := NO.slice hv) | skip
                 all_goals simp only [Act.put, List.setIfInBounds_toArray, List.set_cons_zero, List.set_cons_succ]))
            refine wpL_nil (fun wp ep hL => ?_)
            obtain ⟨g5, hv5, hg5, hb5⟩ : Fresh1 36 wr.heap.size [I (signAs t r (rootData y)).asn, I (signAs t r (rootData y)).value] _ wp := hL 89
            cases hv5
            clear hL lb0 qb0_0 qb0_1 fb0_0 fb0_1 lb1 qb1_0 qb1_1 qb1_2 qb1_3 qb1_4 qb1_5 qb1_6 fb1_0 fb1_1 fb1_2 fb1_3 fb1_4 fb1_5 fb1_6 lb6 qb6_0 qb6_1 qb6_2 qb6_3 qb6_4 qb6_5 qb6_6 fb6_0 fb6_1 fb6_2 fb6_3 fb6_4 fb6_5 fb6_6 hcq
            have HSG : Hid ({ y with sigs := y.sigs ++ [signAs t r (rootData y)] } = nextRoot a (usurpSigs t a t.ases.length (k + 1))) := by
              unfold Hid
              rw [HUN.out, ← HY.out]
              rfl
            generalize signAs t r (rootData y) = sg at *
            have z5_ := ep.size
            have HB5 := Lib.hid (HB6.out.ext ep)
            have BT5 := Lib.hid (BT.out.ext ep)
            have BL5 := Lib.hid (BL.out.ext ep)
            have H65 := Lib.hid ((H6.out.ext ep (Nat.le_refl _)).lt_size)
            simp only [List.drop_succ_cons, List.drop_zero]
            go_wp2_with (at_builtin; refine hold ?_)
            refine unhold (wpList_appL (w2.heap.size + 1 + 1 + 1) rfl (.tmp 80) (.tmp 89) _ rfl 36 _ 2 16 Try.underlying31 info_Signature rfl (by omega) (.slice A6 y.sigs.length c6) y.sigs.length (y.sigs.flatMap SignatureC) rfl _ 1 1 (SignatureC sg) rfl H65.out (row_blk hb5 rfl) (fun u hu => one_Signature [sg] u (by simpa using hu)) (by omega) (by unfold maxLen; omega) (by omega) ?_)
            intro v8 wq o8 hg8
            obtain ⟨a8, m8, q8, hv8⟩ := o8.slice
            subst hv8
            obtain ⟨hm8, -⟩ := NO.row o8
            subst hm8
            have B8 := Lib.hid (Blk.grown HB5.out hg8 (off_type H65.out HB5.out (by decide)))
            have BT8 := Lib.hid (Blk.grown BT5.out hg8 (off_type H65.out BT5.out (by decide)))
            have BL8 := Lib.hid (Blk.grown BL5.out hg8 (off_type H65.out BL5.out (by decide)))
            have L8 := Lib.hid (other_type (HO.out.ext ep (by omega)) H65.out (by decide) hg8)
            have z8 := hg8.size
            have dd : Ext w2 wq := Ext.grownB (Ext.trans hd ep) H65.out hg8 (by omega)
            have o9 : Own 36 2 (w2.heap.size + 1 + 1 + 1) wq.heap.size wq (.slice a8 (y.sigs.length + 1) q8) (y.sigs.length + 1) ((y.sigs ++ [sg]).flatMap SignatureC) := by rw [List.flatMap_append]; simpa using o8
            have O8 := Lib.hid o9; clear o8 o9 hg8
            have b8 := B8.out.ext (w' := wq) xe
            have lb8 := b8.lt
            obtain ⟨qb8_0, qb8_1, qb8_2, qb8_3, qb8_4, qb8_5, qb8_6⟩ := blk7 b8
            have fb8_0 := b8.frozen 0
            have fb8_1 := b8.frozen 1
            have fb8_2 := b8.frozen 2
            have fb8_3 := b8.frozen 3
            have fb8_4 := b8.frozen 4
            have fb8_5 := b8.frozen 5
            have fb8_6 := b8.frozen 6
            clear b8
            go_wp2_with (at_builtin; refine hold ?_)
            refine name_wp (fun W => Ext w2 W ∧ W.heap.size = wq.heap.size ∧ Blk W w2.heap.size 27 [.slice At_0 t.ases.length ct_0, .slice At_1 nt_1 ct_1] ∧ Blk W (w2.heap.size + 1) 33 [I a.isd, I a.version, I a.notBefore, I a.notAfter, I a.voters, I a.quorum, .slice Aa_6 a.sigs.length ca_6] ∧ RootVar (w2.heap.size + 1 + 1 + 1) W (w2.heap.size + 1 + 1) { y with sigs := y.sigs ++ [sg] } ∧ IntSO w6.heap.size w7.heap.size W (.slice (some ⟨bq, offq, none⟩) (elements a.voters).length c8) (elements a.voters)) ⟨Ext.setCell dd (by dsimp only; omega) _, by simp only [World.size_setCell], BT8.out.far (by dsimp only; omega) _, BL8.out.far (by dsimp only; omega) _, ⟨a8, q8, by simpa using B8.out.set_ 6 (.slice a8 (y.sigs.length + 1) q8), by simp only [World.size_setCell]; have h9 := O8.out.setT B8.out (by decide) 6 (.slice a8 (y.sigs.length + 1) q8); rw [List.length_append, List.length_singleton]; exact h9, by simp only [World.size_setCell]; omega⟩, L8.out.setT B8.out (by decide) _ _⟩ ?_
            clear lb8 qb8_0 qb8_1 qb8_2 qb8_3 qb8_4 qb8_5 qb8_6 fb8_0 fb8_1 fb8_2 fb8_3 fb8_4 fb8_5 fb8_6
            rintro wc ⟨dc, zc, bt2, bl2, rv2, ho2⟩
            have zc1 : wq.heap.size ≤ wc.heap.size := by omega
            clear zc
            rw [HSG.out] at rv2
            have hol2 : (usurpSigs t a t.ases.length (k + 1)).length ≤ y.sigs.length + 1 := by
              have h9 := congrArg (fun z : DTrustRoot => z.sigs.length) HSG.out
              have h9 : (y.sigs ++ [sg]).length = (usurpSigs t a t.ases.length (k + 1)).length := h9
              rw [List.length_append, List.length_singleton] at h9
              omega
            have RV2 := Lib.hid rv2; have BT2 := Lib.hid bt2; have BL2 := Lib.hid bl2; have HO2 := Lib.hid ho2; clear bt2 bl2 ho2
            have hup := upd_a (n := t.ases.length) (k := k + 1) HV.out hl0 (by omega) HX.out (Nat.le_refl _) (by omega)
            obtain ⟨y2, hy2⟩ : ∃ y2, nextRoot a (usurpSigs t a t.ases.length (k + 1)) = y2 := ⟨_, rfl⟩
            have hy2l : y2.sigs.length ≤ y.sigs.length + 1 := by rw [← hy2]; exact hol2
            rw [hy2] at rv2 hup
            clear hy2 hol2
            obtain ⟨A9, c9, hb9, h9, hl9⟩ := rv2
            have HB9 := Lib.hid hb9
            have HXV2 : Hid (TrustRootV wc.heap.size wc (.agg #[I y2.isd, I y2.version, I y2.notBefore, I y2.notAfter, I y2.voters, I y2.quorum, .slice A9 y2.sigs.length c9]) y2) := ⟨_, _, _, rfl, SignatureSO_rd h9⟩
            clear hb9 h9
            have hnt : totS (fun y => y.sigs.length) l ≤ 1048576 := Nat.le_trans (totS_bound l (fun x hx => (HP.out x hx).1)) (by omega)
            have HTc := Lib.hid (HT.out.ext dc)
            have HLc := Lib.hid (TrustRootS.ext HL.out dc)
            have b0 := BT2.out.ext (w' := wc) xe
            have lb0 := b0.lt
            obtain ⟨qb0_0, qb0_1⟩ := blk2 b0
            have fb0_0 := b0.frozen 0
            have fb0_1 := b0.frozen 1
            clear b0
            have b1 := BL2.out.ext (w' := wc) xe
            have lb1 := b1.lt
            obtain ⟨qb1_0, qb1_1, qb1_2, qb1_3, qb1_4, qb1_5, qb1_6⟩ := blk7 b1
            have fb1_0 := b1.frozen 0
            have fb1_1 := b1.frozen 1
            have fb1_2 := b1.frozen 2
            have fb1_3 := b1.frozen 3
            have fb1_4 := b1.frozen 4
            have fb1_5 := b1.frozen 5
            have fb1_6 := b1.frozen 6
            clear b1
            have b9 := HB9.out.ext (w' := wc) xe
            have lb9 := b9.lt
            obtain ⟨qb9_0, qb9_1, qb9_2, qb9_3, qb9_4, qb9_5, qb9_6⟩ := blk7 b9
            have fb9_0 := b9.frozen 0
            have fb9_1 := b9.frozen 1
            have fb9_2 := b9.frozen 2
            have fb9_3 := b9.frozen 3
            have fb9_4 := b9.frozen 4
            have fb9_5 := b9.frozen 5
            have fb9_6 := b9.frozen 6
            clear b9
            have wl : IntKind.i64.wrap ((l.length : Int) + 1) = (l.length : Int) + 1 := IntWalk.i64_in _ (by omega)
            have wk : IntKind.i64.wrap ((k : Int) + 1) = (k : Int) + 1 := IntWalk.i64_in _ (by omega)
            by_cases hq : a.quorum ≤ (k : Int) + 1
            · rw [if_pos (by omega)] at hup
              refine wp_region_L (E := Ext) (w0 := wc) (G := fun τ => match τ with | 95 => some (fun v W => TrustRootS W.heap.size W v (updRoots t l y2)) | _ => none) Ext.refl (fun h k => Ext.trans h k) (by kernel_rfl) (by kernel_rfl) xg (Ext.drew (by exact Ext.refl _)) ?_
              repeat' (first
                | ((with_reducible refine wpL_skip ?_ ?_ ?_)
                   · rfl
                   · rfl
                   simp only [Act.put, List.setIfInBounds_toArray, List.set_cons_zero, List.set_cons_succ])
                | ((with_reducible refine wpL_quiet ?_ ?_ ?_ ?_)
                   · rfl
                   · rfl
                   · rfl
                   apply Exists.intro
                   refine ⟨fun W hW hS => ?_, ?_⟩
                   · have hC := (Ext.facts hW).1
                     go_simp
                     first | done | (with_reducible rfl) | (rw [if_neg (by omega)]; exact ⟨rfl, rfl⟩) | rfl
                   first | (with_reducible refine wpL_boolT ?_) | (with_reducible refine wpL_boolF ?_) | (with_reducible refine wpL_bool (fun hB => ?_) (fun hB => ?_)) | skip
                   all_goals simp only [Act.put, List.setIfInBounds_toArray, List.set_cons_zero, List.set_cons_succ])
                | ((refine wpL_grow ?_ rfl rfl ?_ ?_)
                   · rfl
                   · intro W hW hS
                     have hC := (Ext.facts hW).1
                     unfold growAt
                     go_simp
                     simp only [growUpon]
                     first | (go_at_call 15; (with_reducible refine Calls.mono (impl_UpdateRoots _ _ _ t l y2 _ (by exact HTc.out.ext xe) (by exact TrustRootS.ext HLc.out xe) (by exact HXV2.out.ext xe) hnt (by omega)) ?_); rintro e w9_ ⟨v9, rfl, o9, e9⟩; exact ⟨_, rfl, e9, TrustRootSO_rd o9 (Nat.le_refl _)⟩)
                   intro v W' hW' hv
                   first | (obtain ⟨A5, n5, c5, rfl, l5, -, m5, -⟩ := hv; rw [hup] at l5; subst l5) | (obtain ⟨A5, n5, c5, rfl, -⟩ := id hv; clear hv) | (obtain ⟨A5, n5, c5, rfl⟩ := NO.slice hv) | skip
                   all_goals simp only [Act.put, List.setIfInBounds_toArray, List.set_cons_zero, List.set_cons_succ]))
              all_goals (refine wpL_nil (fun w9 e9 hL => ?_); clear hL)
              all_goals first
                | (exfalso; revert hB; simp; omega)
                | skip
              all_goals go_wp2_with fail
              go_roundw
              case rel => exact ⟨k + 1, by omega, by go_num, RV2.out.ext e9, BT2.out.ext e9, BL2.out.ext e9, HO2.out.ext e9 (by omega), by have := e9.size; omega, Ext.trans dc e9⟩
              case measure => first | (simp [intOf]; done) | (simp [intOf]; omega)
            · rw [if_neg (by omega)] at hup
              refine wp_region_L (E := Ext) (w0 := wc) (G := fun τ => match τ with | 95 => some (fun v W => TrustRootS W.heap.size W v (updRoots t l y2)) | _ => none) Ext.refl (fun h k => Ext.trans h k) (by kernel_rfl) (by kernel_rfl) xg (Ext.drew (by exact Ext.refl _)) ?_
              repeat' (first
                | ((with_reducible refine wpL_skip ?_ ?_ ?_)
                   · rfl
                   · rfl
                   simp only [Act.put, List.setIfInBounds_toArray, List.set_cons_zero, List.set_cons_succ])
                | ((with_reducible refine wpL_quiet ?_ ?_ ?_ ?_)
                   · rfl
                   · rfl
                   · rfl
                   apply Exists.intro
                   refine ⟨fun W hW hS => ?_, ?_⟩
                   · have hC := (Ext.facts hW).1
                     go_simp
                     first | done | (with_reducible rfl) | (rw [if_neg (by omega)]; exact ⟨rfl, rfl⟩) | rfl
                   first | (with_reducible refine wpL_boolT ?_) | (with_reducible refine wpL_boolF ?_) | (with_reducible refine wpL_bool (fun hB => ?_) (fun hB => ?_)) | skip
                   all_goals simp only [Act.put, List.setIfInBounds_toArray, List.set_cons_zero, List.set_cons_succ])
                | ((refine wpL_grow ?_ rfl rfl ?_ ?_)
                   · rfl
                   · intro W hW hS
                     have hC := (Ext.facts hW).1
                     unfold growAt
                     go_simp
                     simp only [growUpon]
                     first | (go_at_call 15; (with_reducible refine Calls.mono (impl_UpdateRoots _ _ _ t l y2 _ (by exact HTc.out.ext xe) (by exact TrustRootS.ext HLc.out xe) (by exact HXV2.out.ext xe) hnt (by omega)) ?_); rintro e w9_ ⟨v9, rfl, o9, e9⟩; exact ⟨_, rfl, e9, TrustRootSO_rd o9 (Nat.le_refl _)⟩)
                   intro v W' hW' hv
                   first | (obtain ⟨A5, n5, c5, rfl, l5, -, m5, -⟩ := hv; rw [hup] at l5; subst l5) | (obtain ⟨A5, n5, c5, rfl, -⟩ := id hv; clear hv) | (obtain ⟨A5, n5, c5, rfl⟩ := NO.slice hv) | skip
                   all_goals simp only [Act.put, List.setIfInBounds_toArray, List.set_cons_zero, List.set_cons_succ]))
              all_goals (refine wpL_nil (fun w9 e9 hL => ?_); clear hL)
              all_goals first
                | (exfalso; revert hB; simp; omega)
                | skip
              all_goals go_wp2_with fail
              go_roundw
              case rel => exact ⟨k + 1, by omega, by go_num, RV2.out.ext e9, BT2.out.ext e9, BL2.out.ext e9, HO2.out.ext e9 (by omega), by have := e9.size; omega, Ext.trans dc e9⟩
              case measure => first | (simp [intOf]; done) | (simp [intOf]; omega)
          · have hke : (k : Int) = a.quorum := by omega
            go_wp2_with fail
            go_ret
            exact ⟨rfl, xe⟩
end Go.Proofs.Ytmlfnfflpacchaa
