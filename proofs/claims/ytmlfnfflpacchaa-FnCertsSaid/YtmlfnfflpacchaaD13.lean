/- Contracts of the reference's draws of certificates: l19Cert, l19Draw. No conditions. -/
import Derived.Test.YtmlfnfflpacchaaD10
import Derived.Test.YtmlfnfflpacchaaP19
namespace Go.Proofs.Ytmlfnfflpacchaa
open Go.RowKit
set_option linter.unusedVariables false
/-- The cells of a certificate. -/
abbrev CertL (x : DCertificate) : List Value := [I x.asn, I x.keyDigest, I x.rootVersion, I x.notBefore, I x.notAfter, I x.sig.asn, I x.sig.value]
/-- A certificate as it was issued. -/
inductive CertD (t : DTopology) : Value → Prop where
  | mk (r b ver f z : Int) : CertD t (.agg #[I (issueCert t r b ver f (wrap64 z)).asn, I (issueCert t r b ver f (wrap64 z)).keyDigest, I (issueCert t r b ver f (wrap64 z)).rootVersion, I (issueCert t r b ver f (wrap64 z)).notBefore, I (issueCert t r b ver f (wrap64 z)).notAfter, I (issueCert t r b ver f (wrap64 z)).sig.asn, I (issueCert t r b ver f (wrap64 z)).sig.value])
set_option maxRecDepth 100000 in
set_option maxHeartbeats 1000000 in
theorem spec_l19Cert (g : Nat) (vt vl : Value) (t : DTopology) (l : List DTrustRoot) (lo hi : Nat) (w : World) (hc : Cur w g) (ht : TopologyO lo hi w vt t) (hl : TrustRootSO lo hi w vl l) (hg : g < lo) (hhi : hi ≤ w.heap.size) (hlh : lo ≤ hi) (hn : t.ases.length ≤ 8) (hl0 : 0 < l.length) (hl5 : l.length ≤ 5) :
    Calls Try.prog 119 #[.pointer (some ⟨g, 0, none⟩), vt, vl] w fun e w' => (∃ x, e = .returned (.agg #[I x.asn, I x.keyDigest, I x.rootVersion, I x.notBefore, I x.notAfter, I x.sig.asn, I x.sig.value]) ∧ DrawnCert t x) ∧ D g w w' := by
  have HC := Lib.hid hc
  have hgw := hc.lt
  have HT := Lib.hid ht; have HL := Lib.hid hl
  obtain ⟨At_0, nt_0, ct_0, At_1, nt_1, ct_1, rfl, st_0, st_1⟩ := ht.v
  obtain ⟨lt_0, kt_0, mt_0⟩ := st_0.len
  subst lt_0
  obtain ⟨A', n', c', rfl, ln', -, ml, -⟩ := id (TrustRootSO_rd hl hhi)
  subst ln'
  unfold maxLen at ml
  clear hc st_0 st_1 ht hl
  go_enter Try.func119, Try.ntmps119
  go_wp2_with fail
  refine name_calls (fun W => D g w W ∧ W.heap.size = w.heap.size + 1 + 1 ∧ Blk W w.heap.size 27 [.slice At_0 t.ases.length ct_0, .slice At_1 nt_1 ct_1] ∧ Blk W (w.heap.size + 1) 82 [I 0, I 0, I 0, I 0, I 0, I 0, I 0]) ⟨D.alloc (D.alloc (D.refl _ _) hgw _) hgw _, by simp only [World.size_alloc], xb, xb⟩ ?_
  rintro w0 ⟨d0, z0_, bt, br⟩
  obtain ⟨z0, z0'⟩ := le_both z0_
  clear z0_
  have BT := Lib.hid bt; have BR := Lib.hid br; clear bt br
  have HC0 := Lib.hid (d0.cur HC.out)
  refine (spec_l1Below g (l.length : Int) w0 HC0.out (by omega)).mono ?_
  rintro e w1 ⟨x1, rfl, ⟨x1a, x1b, -⟩, d1⟩
  have x1b := x1b (by omega)
  obtain ⟨k, rfl⟩ : ∃ k : Nat, x1 = (k : Int) := ⟨x1.toNat, by omega⟩
  have z1 := d1.size
  obtain ⟨gl, A6, c6, hA, -, hg7, hg8, hg9, ⟨q0, q1, q2, q3, q4, q5, q6⟩, -⟩ := root_at (NO.d TrustRootOC.keeps HL.out (D.trans d0 d1) hg) (k := k) (by omega) hlh
  subst hA
  generalize l[k] = x at *
  go_wp2_with fail
  refine name_calls (fun W => Ext w1 W ∧ W.heap.size = w1.heap.size + 1 ∧ Blk W w1.heap.size 33 [I x.isd, I x.version, I x.notBefore, I x.notAfter, I x.voters, I x.quorum, .slice A6 x.sigs.length c6]) ⟨xe, by simp only [World.size_alloc], xb⟩ ?_
  rintro w2 ⟨e2, z2_, bx⟩
  have BX := Lib.hid bx; clear bx
  obtain ⟨z2, z2'⟩ := le_both z2_
  clear z2_
  clear q0 q1 q2 q3 q4 q5 q6
  refine (spec_Elements x.voters w2).mono ?_
  rintro e w3 ⟨v3, rfl, o3, e3⟩
  obtain ⟨A3, n3, c3, rfl⟩ := o3.slice
  obtain ⟨hn3, -⟩ := NO.row o3
  subst hn3
  have O3 := Lib.hid o3; clear o3
  have z3 := e3.size
  have hel : (elements x.voters).length ≤ 16 := elemsTo_len x.voters 16
  have d13 : D g w1 w3 := D.of_ext (Ext.trans e2 e3) (by omega)
  have d03 : D g w0 w3 := D.trans d1 d13
  have BT3 := Lib.hid (BT.out.d d03 (by omega))
  have nb0 : ¬ w.heap.size = g := by omega
  have b0 := BT3.out.ext (w' := w3) xe
  have lb0 := b0.lt
  obtain ⟨qb0_0, qb0_1⟩ := blk2 b0
  have fb0_0 := b0.frozen 0
  have fb0_1 := b0.frozen 1
  clear b0
  go_wp2_with fail
  clear lb0 qb0_0 qb0_1 fb0_0 fb0_1
  refine (spec_l1Below g (t.ases.length : Int) w3 (d03.cur HC0.out) (by omega)).mono ?_
  rintro e w4 ⟨by1, rfl, -, d4⟩
  have z4 := d4.size
  have HC3 := Lib.hid (d03.cur HC0.out)
  have BX3 := Lib.hid (BX.out.ext e3)
  have dw3 : D g w w3 := D.trans d0 d03
  have O4 := Lib.hid (O3.out.d d4 (by omega))
  have ht8 : t.ases.length ≤ 8 := hn
  generalize elements x.voters = L at *
  by_cases hq : 0 < L.length
  case' pos =>
    have i1 : (0 : Int) < (L.length : Int) := by omega
    go_wp2_with fail
    refine (spec_l1Below g (L.length : Int) w4 (d4.cur HC3.out) (by omega)).mono ?_
    rintro e w5 ⟨x5, rfl, ⟨x5a, x5b, -⟩, d5⟩
    have x5b := x5b (by omega)
    obtain ⟨k5, rfl⟩ : ∃ k5 : Nat, x5 = (k5 : Int) := ⟨x5.toNat, by omega⟩
    have z5 := d5.size
    obtain ⟨b5, off5, hA5, hb5, hk5, hc5⟩ := (IntSO_rd (Own.more (O4.out.d d5 (by omega)) (Nat.le_refl _) (by omega))).at_ (k := k5) (by omega)
    have hc5 : w5.cell? ⟨b5, off5 + k5, none⟩ = some (I L[k5]) := hc5
    generalize L[k5] = by2 at *
    subst hA5
    go_wp2_with fail
    refine name_calls (fun W => D g w3 W) (D.trans d4 d5) ?_
  case' neg =>
    have i1 : ¬ (0 : Int) < (L.length : Int) := by omega
    go_wp2_with fail
    refine name_calls (fun W => D g w3 W) d4 ?_
  all_goals
    clear i1
    rintro w6 d6
    refine (spec_l1Once g 8 w6 (d6.cur HC3.out) (by omega)).mono ?_
    rintro e w7 ⟨b7, rfl, d7⟩
    have d37 : D g w3 w7 := D.trans d6 d7
    have z37 := d37.size
    cases b7
    case' true =>
      have BT7 := Lib.hid (BT3.out.d d37 (by omega))
      have b0 := BT7.out.ext (w' := w7) xe
      have lb0 := b0.lt
      obtain ⟨qb0_0, qb0_1⟩ := blk2 b0
      have fb0_0 := b0.frozen 0
      have fb0_1 := b0.frozen 1
      clear b0
      go_wp2_with fail
      clear lb0 qb0_0 qb0_1 fb0_0 fb0_1
      refine (spec_l1Below g (t.ases.length : Int) w7 (d37.cur HC3.out) (by omega)).mono ?_
      rintro e w8 ⟨by3, rfl, -, d8⟩
      go_wp2_with fail
      refine name_wp (fun W => D g w3 W) (D.trans d37 d8) ?_
    case' false =>
      go_wp2_with fail
      refine name_wp (fun W => D g w3 W) d37 ?_
    all_goals
      rintro w9 d9
      have z9 := d9.size
      have hg9 : g < w9.heap.size := by omega
      have dw9 : D g w w9 := D.trans dw3 d9
      have zw9 := dw9.size
      have HC9 := Lib.hid (d9.cur HC3.out)
      have BT9 := Lib.hid (BT3.out.d d9 (by omega))
      have BX9 := Lib.hid (BX3.out.d d9 (by omega))
      have HT9 := Lib.hid (HT.out.d dw9 hg)
      have hhi9 : hi ≤ w9.heap.size := by omega
      have nb0 : ¬ w.heap.size = g := by omega
      have nb1 : ¬ w1.heap.size = g := by omega
      have b0 := BT9.out.ext (w' := w9) xe
      have lb0 := b0.lt
      obtain ⟨qb0_0, qb0_1⟩ := blk2 b0
      have fb0_0 := b0.frozen 0
      have fb0_1 := b0.frozen 1
      clear b0
      have b1 := BX9.out.ext (w' := w9) xe
      have lb1 := b1.lt
      obtain ⟨qb1_0, qb1_1, qb1_2, qb1_3, qb1_4, qb1_5, qb1_6⟩ := blk7 b1
      have fb1_0 := b1.frozen 0
      have fb1_1 := b1.frozen 1
      have fb1_2 := b1.frozen 2
      have fb1_3 := b1.frozen 3
      have fb1_4 := b1.frozen 4
      have fb1_5 := b1.frozen 5
      have fb1_6 := b1.frozen 6
      clear b1
      refine wp_region_LT 18 (E := D g) (w0 := w9) (G := fun τ => match τ with | 59 => some (fun v W => CertD t v) | 48 => some (fun v W => ∃ x : Int, v = I x) | 57 => some (fun v W => ∃ x : Int, v = I x) | 10 => some (fun v W => Zero1 82 w9.heap.size [I 0, I 0, I 0, I 0, I 0, I 0, I 0] v W) | _ => none) (D.refl g) (fun h k => D.trans h k) (by kernel_rfl) (by kernel_rfl) (by kernel_rfl) (by kernel_rfl) (by kernel_rfl) (by kernel_rfl) (by intro t φ hG; split at hG; all_goals first | (cases hG; done) | (cases Option.some.inj hG; intro v W W' hE hv; first | exact hv | exact hv.d hE (by omega) | (obtain ⟨y, hy⟩ := hv; exact ⟨y, Fresh1.d hy hE (by omega)⟩))) (D.drew (by exact D.refl _ _)) ?_
      simp only [List.take_succ_cons, List.take_zero]
      repeat' (first
        | ((with_reducible refine wpL_skip ?_ ?_ ?_)
           · rfl
           · rfl
           simp only [Act.put, List.setIfInBounds_toArray, List.set_cons_zero, List.set_cons_succ])
        | ((with_reducible refine wpL_quiet ?_ ?_ ?_ ?_)
           · rfl
           · rfl
           · rfl
           apply Exists.intro
           refine ⟨fun W hW hS => ?_, ?_⟩
           · have hC := (D.facts hW).1
             go_simp
             first | done | (with_reducible rfl) | (rw [if_neg (by omega)]; exact ⟨rfl, rfl⟩) | rfl
           first | (with_reducible refine wpL_boolT ?_) | (with_reducible refine wpL_boolF ?_) | (with_reducible refine wpL_bool (fun hB => ?_) (fun hB => ?_)) | skip
           all_goals simp only [Act.put, List.setIfInBounds_toArray, List.set_cons_zero, List.set_cons_succ])
        | ((refine wpL_grow ?_ rfl rfl ?_ ?_)
           · rfl
           · intro W hW hS
             have hC := (D.facts hW).1
             unfold growAt
             go_simp
             simp only [growUpon]
             first | (go_at_call 65; (with_reducible refine Calls.mono (spec_IssueCertificate _ _ _ _ _ _ t _ (by exact TopologyO_rd (HT9.out.d hW hg) (Nat.le_trans hhi9 hW.size))) ?_); rintro e w9_ ⟨rfl, e9⟩; exact ⟨_, rfl, D.of_ext e9 (Nat.lt_of_lt_of_le hg9 hW.size), by first | exact CertD.mk _ _ _ _ _ | (rw [IntWalk.i64_left]; exact CertD.mk _ _ _ _ _)⟩) | (go_at_call 96; (with_reducible refine Calls.mono (spec_l1Below g _ _ (hW.cur HC9.out) (by omega)) ?_); rintro e w9_ ⟨x, rfl, -, d9_⟩; exact ⟨_, rfl, d9_, ⟨x, rfl⟩⟩) | (go_at_call 96; (with_reducible refine Calls.mono (spec_l1Below g _ _ (hW.cur HC9.out) (by omega)) ?_); rintro e w9_ ⟨x, rfl, -, d9_⟩; exact ⟨_, rfl, d9_, ⟨x, rfl⟩⟩) | (exact ⟨D.of_ext ((Ext.refl _).alloc _) (Nat.lt_of_lt_of_le hg9 hW.size), ⟨_, rfl, hW.size, Blk.new _ _ _⟩⟩)
           intro v W' hW' hv
           first | ((with_reducible refine intro_at 59 _ ?_); obtain ⟨r, b, ver, f, z⟩ := hv) | ((with_reducible refine intro_at 48 _ ?_); obtain ⟨x48, rfl⟩ := hv) | ((with_reducible refine intro_at 57 _ ?_); obtain ⟨x57, rfl⟩ := hv) | ((with_reducible refine intro_at 10 _ ?_); obtain ⟨g10, rfl, hg10, hb10⟩ := hv) | (obtain ⟨A5, n5, c5, rfl, -⟩ := id hv; clear hv) | (obtain ⟨A5, n5, c5, rfl⟩ := NO.slice hv) | skip
           all_goals simp only [Act.put, List.setIfInBounds_toArray, List.set_cons_zero, List.set_cons_succ]))
      refine wpL_nil (fun w10 e10 hL => ?_)
      obtain ⟨g10, hv10, hg10, hb10⟩ : Zero1 82 w9.heap.size [I 0, I 0, I 0, I 0, I 0, I 0, I 0] _ w10 := hL 10
      cases hv10
      clear hL lb0 qb0_0 qb0_1 fb0_0 fb0_1 lb1 qb1_0 qb1_1 qb1_2 qb1_3 qb1_4 qb1_5 qb1_6 fb1_0 fb1_1 fb1_2 fb1_3 fb1_4 fb1_5 fb1_6
      have HB10 := Lib.hid hb10; clear hb10
      have z10 := e10.size
      obtain ⟨m, hm⟩ : ∃ m, m = issueCert t r b ver f (wrap64 z) := ⟨_, rfl⟩
      rw [← hm]
      have HM := Lib.hid hm; clear hm
      have b2 := HB10.out.ext (w' := w10) xe
      have lb2 := b2.lt
      obtain ⟨qb2_0, qb2_1, qb2_2, qb2_3, qb2_4, qb2_5, qb2_6⟩ := blk7 b2
      have fb2_0 := b2.frozen 0
      have fb2_1 := b2.frozen 1
      have fb2_2 := b2.frozen 2
      have fb2_3 := b2.frozen 3
      have fb2_4 := b2.frozen 4
      have fb2_5 := b2.frozen 5
      have fb2_6 := b2.frozen 6
      clear b2
      try simp only [List.drop_succ_cons, List.drop_zero]
      go_wp2_with fail
      refine name_calls (fun W => D g w3 W ∧ Blk W g10 82 (CertL m)) ⟨D.trans d9 (by exact xd), by simpa using ((((((HB10.out.set_ 0 (I m.asn)).set_ 1 (I m.keyDigest)).set_ 2 (I m.rootVersion)).set_ 3 (I m.notBefore)).set_ 4 (I m.notAfter)).set_ 5 (I m.sig.asn)).set_ 6 (I m.sig.value)⟩ ?_
      clear lb2 qb2_0 qb2_1 qb2_2 qb2_3 qb2_4 qb2_5 qb2_6 fb2_0 fb2_1 fb2_2 fb2_3 fb2_4 fb2_5 fb2_6 HB10
      rintro w11 ⟨d11, hb11⟩
      have HB11 := Lib.hid hb11; clear hb11
      refine (spec_l1Below g 10 w11 (d11.cur HC3.out) (by omega)).mono ?_
      rintro e w12 ⟨x12, rfl, -, d12⟩
      have d312 : D g w3 w12 := D.trans d11 d12
      have HB12 := Lib.hid (HB11.out.d d12 (by omega))
      have HR12 := Lib.hid ((BR.out.d d03 (by omega)).d d312 (by omega))
      have ng6 : ¬ g10 = w.heap.size + 1 := by omega
      have ng7 : ¬ w.heap.size + 1 = g10 := by omega
      by_cases h0 : x12 = 0
      · subst h0
        have dwx : D g w w12 := D.trans dw3 d312
        have b2 := HB12.out.ext (w' := w12) xe
        have lb2 := b2.lt
        obtain ⟨qb2_0, qb2_1, qb2_2, qb2_3, qb2_4, qb2_5, qb2_6⟩ := blk7 b2
        have fb2_0 := b2.frozen 0
        have fb2_1 := b2.frozen 1
        have fb2_2 := b2.frozen 2
        have fb2_3 := b2.frozen 3
        have fb2_4 := b2.frozen 4
        have fb2_5 := b2.frozen 5
        have fb2_6 := b2.frozen 6
        clear b2
        have b3 := HR12.out.ext (w' := w12) xe
        have lb3 := b3.lt
        obtain ⟨qb3_0, qb3_1, qb3_2, qb3_3, qb3_4, qb3_5, qb3_6⟩ := blk7 b3
        have fb3_0 := b3.frozen 0
        have fb3_1 := b3.frozen 1
        have fb3_2 := b3.frozen 2
        have fb3_3 := b3.frozen 3
        have fb3_4 := b3.frozen 4
        have fb3_5 := b3.frozen 5
        have fb3_6 := b3.frozen 6
        clear b3
        go_wp2_with fail
        refine bodyPost_ret (v := .agg #[I m.asn, I (wrap64 (m.keyDigest + 1)), I m.rootVersion, I m.notBefore, I m.notAfter, I m.sig.asn, I m.sig.value]) (by simp [results, Try.results119, go_sem, *]) rfl ⟨⟨{ m with keyDigest := wrap64 (m.keyDigest + 1) }, rfl, ⟨r, b, ver, f, z, .inr (.inl (by rw [HM.out]))⟩⟩, xd⟩
      have q0 : (x12 == 0) = false := beq_eq_false_iff_ne.2 h0
      by_cases h1 : x12 = 1
      · subst h1
        go_wp2_with fail
        refine (spec_l1Below g 8 w12 (d312.cur HC3.out) (by omega)).mono ?_
        rintro e w13 ⟨x13, rfl, -, d13_⟩
        have dwx : D g w w13 := D.trans dw3 (D.trans d312 d13_)
        have HB13 := Lib.hid (HB12.out.d d13_ (by omega)); have HR13 := Lib.hid (HR12.out.d d13_ (by omega))
        have b2 := HB13.out.ext (w' := w13) xe
        have lb2 := b2.lt
        obtain ⟨qb2_0, qb2_1, qb2_2, qb2_3, qb2_4, qb2_5, qb2_6⟩ := blk7 b2
        have fb2_0 := b2.frozen 0
        have fb2_1 := b2.frozen 1
        have fb2_2 := b2.frozen 2
        have fb2_3 := b2.frozen 3
        have fb2_4 := b2.frozen 4
        have fb2_5 := b2.frozen 5
        have fb2_6 := b2.frozen 6
        clear b2
        have b3 := HR13.out.ext (w' := w13) xe
        have lb3 := b3.lt
        obtain ⟨qb3_0, qb3_1, qb3_2, qb3_3, qb3_4, qb3_5, qb3_6⟩ := blk7 b3
        have fb3_0 := b3.frozen 0
        have fb3_1 := b3.frozen 1
        have fb3_2 := b3.frozen 2
        have fb3_3 := b3.frozen 3
        have fb3_4 := b3.frozen 4
        have fb3_5 := b3.frozen 5
        have fb3_6 := b3.frozen 6
        clear b3
        go_wp2_with fail
        refine bodyPost_ret (v := .agg #[I x13, I m.keyDigest, I m.rootVersion, I m.notBefore, I m.notAfter, I m.sig.asn, I m.sig.value]) (by simp [results, Try.results119, go_sem, *]) rfl ⟨⟨{ m with asn := x13 }, rfl, ⟨r, b, ver, f, z, .inr (.inr ⟨x13, by rw [HM.out]⟩)⟩⟩, xd⟩
      · have q1 : (x12 == 1) = false := beq_eq_false_iff_ne.2 h1
        have dwx : D g w w12 := D.trans dw3 d312
        have b2 := HB12.out.ext (w' := w12) xe
        have lb2 := b2.lt
        obtain ⟨qb2_0, qb2_1, qb2_2, qb2_3, qb2_4, qb2_5, qb2_6⟩ := blk7 b2
        have fb2_0 := b2.frozen 0
        have fb2_1 := b2.frozen 1
        have fb2_2 := b2.frozen 2
        have fb2_3 := b2.frozen 3
        have fb2_4 := b2.frozen 4
        have fb2_5 := b2.frozen 5
        have fb2_6 := b2.frozen 6
        clear b2
        have b3 := HR12.out.ext (w' := w12) xe
        have lb3 := b3.lt
        obtain ⟨qb3_0, qb3_1, qb3_2, qb3_3, qb3_4, qb3_5, qb3_6⟩ := blk7 b3
        have fb3_0 := b3.frozen 0
        have fb3_1 := b3.frozen 1
        have fb3_2 := b3.frozen 2
        have fb3_3 := b3.frozen 3
        have fb3_4 := b3.frozen 4
        have fb3_5 := b3.frozen 5
        have fb3_6 := b3.frozen 6
        clear b3
        go_wp2_with fail
        refine bodyPost_ret (v := .agg #[I m.asn, I m.keyDigest, I m.rootVersion, I m.notBefore, I m.notAfter, I m.sig.asn, I m.sig.value]) (by simp [results, Try.results119, go_sem, *]) rfl ⟨⟨m, rfl, ⟨r, b, ver, f, z, .inl HM.out⟩⟩, xd⟩
/-- What l19Draw hands back. -/
def RootsCerts (lo : Nat) (W : World) (vt vl vm : Value) : Prop := ∃ t l m, TopologyO lo W.heap.size W vt t ∧ DrawnTopo t ∧ TrustRootSO lo W.heap.size W vl l ∧ DrawnRoots l ∧ CertificateSO lo W.heap.size W vm m ∧ m.length ≤ 5
set_option maxRecDepth 100000 in
set_option maxHeartbeats 1000000 in
theorem spec_l19Draw (g : Nat) (w : World) (hc : Cur w g) : Calls Try.prog 120 #[.pointer (some ⟨g, 0, none⟩)] w fun e w' => (∃ vt vl vm, e = .returned (.tuple #[vt, vl, vm]) ∧ RootsCerts w.heap.size w' vt vl vm) ∧ D g w w' := by
  have HC := Lib.hid hc
  have hgw := hc.lt
  clear hc
  go_enter Try.func120, Try.ntmps120
  go_wp2_with fail
  refine name_calls (fun W => D g w W ∧ W.heap.size = w.heap.size + 1 ∧ Blk W w.heap.size 27 [.slice none 0 0, .slice none 0 0]) ⟨D.alloc (D.refl _ _) hgw _, by simp only [World.size_alloc], xb⟩ ?_
  rintro wa ⟨da, za_, br⟩
  obtain ⟨za, za'⟩ := le_both za_
  clear za_
  have BR := Lib.hid br; clear br
  have HCA := Lib.hid (da.cur HC.out)
  refine (spec_l18Draw g wa HCA.out).mono ?_
  rintro e w2 ⟨⟨v1, v2, rfl, t, l, ot, hdt, ol, hl0, hl5, hp⟩, d2⟩
  have HDR : Hid (DrawnRoots l) := ⟨hl0, hl5, fun x hx => (hp x hx).1⟩
  clear hp
  have z2 := d2.size
  obtain ⟨At_0, nt_0, ct_0, At_1, nt_1, ct_1, rfl⟩ := TopologyO.shape ot
  obtain ⟨Al, nl, cl, rfl⟩ := NO.slice ol
  have OT := Lib.hid ot; have OL := Lib.hid ol; have HDT := Lib.hid hdt; clear ot ol
  have ht8 : t.ases.length ≤ 8 := hdt.2.1
  clear hdt
  have HC2 := Lib.hid (d2.cur HCA.out)
  go_wp2_with fail
  refine name_calls (fun W => ∃ wb, D g w2 wb ∧ wb.heap.size = w2.heap.size + 1 ∧ Blk wb w2.heap.size 27 [.slice At_0 nt_0 ct_0, .slice At_1 nt_1 ct_1] ∧ D g wb W ∧ CertificateSO wb.heap.size W.heap.size W (.slice (some ⟨w2.heap.size + 1, 0, none⟩) 0 0) []) ⟨_, D.alloc (D.refl _ _) (by omega) _, by simp only [World.size_alloc], xb, D.alloc (D.refl _ _) (by simp only [World.size_alloc]; omega) _, own_zero' _ _ _ _ _ (by simp) (Nat.le_refl _)⟩ ?_
  rintro w3 ⟨wb, db, zb_, bt, d3, hz⟩
  obtain ⟨zb, zb'⟩ := le_both zb_
  clear zb_
  have BT := Lib.hid bt; have HZ := Lib.hid hz; clear bt hz
  have HCB := Lib.hid (db.cur HC2.out)
  have hgb : g < wb.heap.size := by omega
  refine (spec_l1Below g 6 w3 (d3.cur HCB.out) (by omega)).mono ?_
  rintro e w4 ⟨x1, rfl, ⟨x1a, x1b, -⟩, d4⟩
  have x1b := x1b (by omega)
  obtain ⟨c1, rfl⟩ : ∃ c1 : Nat, x1 = (c1 : Int) := ⟨x1.toNat, by omega⟩
  go_wp2_with fail
  go_loopw [7, 8] (fun v i wr => ∃ (kk : Nat) (xs : List DCertificate), kk ≤ 5 ∧ i = I kk ∧ CertificateSO wb.heap.size wr.heap.size wr v xs ∧ xs.length + kk ≤ 5 ∧ D g wb wr) (fun _ i _ => (intOf i).toNat)
  case atStart => exact ⟨c1, [], by omega, rfl, Own.dUp HZ.out d4 (by omega), by simp; omega, D.trans d3 d4⟩
  case round =>
    obtain ⟨kk, xs, hkk, rfl, hno, hlk, hd⟩ := hrel
    obtain ⟨av, nv, cv, hvv⟩ := hno.slice
    subst hvv
    obtain ⟨hnv, -⟩ := NO.row hno
    subst hnv
    have HNO := Lib.hid hno; clear hno
    have zr := hd.size
    have hgr : g < wr.heap.size := by omega
    have HBT := Lib.hid (BT.out.d hd (by omega))
    have HCR := Lib.hid (hd.cur HCB.out)
    have d2r : D g w2 wr := D.trans db hd
    have OTr := Lib.hid (OT.out.d d2r (by omega)); have OLr := Lib.hid (NO.d TrustRootOC.keeps OL.out d2r (by omega))
    by_cases hk0 : 0 < kk
    · obtain ⟨km, rfl⟩ : ∃ km : Nat, kk = km + 1 := ⟨kk - 1, by omega⟩
      have i2 : (0 : Int) < ((km + 1 : Nat) : Int) := by omega
      have b0 := HBT.out.ext (w' := wr) xe
      have lb0 := b0.lt
      obtain ⟨qb0_0, qb0_1⟩ := blk2 b0
      have fb0_0 := b0.frozen 0
      have fb0_1 := b0.frozen 1
      clear b0
      go_wp2_with fail
      clear lb0 qb0_0 qb0_1 fb0_0 fb0_1
      refine (spec_l19Cert g _ _ t l wa.heap.size w2.heap.size wr HCR.out OTr.out OLr.out (by omega) (by omega) z2 ht8 hl0 hl5).mono ?_
      rintro e w6 ⟨⟨x, rfl, -⟩, d6⟩
      have z6 := d6.size
      go_wp2_with (at_builtin; refine hold ?_)
      refine unhold (name_wpl (fun W => D g wr W ∧ ∃ (gn : Nat), gn = w6.heap.size + 1 ∧ wr.heap.size ≤ gn ∧ Blk W gn 82 (CertL x)) ⟨xd, _, rfl, by omega, xb⟩ ?_)
      rintro wq ⟨dq, gn, hgn, hgn2, hbn⟩
      have HNq := Lib.hid ((HNO.out.d dq (by omega)).lt_size)
      have zq := dq.size
      have HBN := Lib.hid hbn; clear hbn
      refine wpList_appL wb.heap.size rfl (.tmp 26) (.tmp 28) _ rfl 82 _ 7 56 Try.underlying87 info_Certificate rfl (by omega) (.slice av xs.length cv) xs.length (xs.flatMap CertificateC) rfl _ 1 1 (CertificateC x) rfl HNq.out (by rw [← hgn]; exact row_blk HBN.out rfl) (fun u hu => one_Certificate [x] u (by simpa using hu)) (by omega) (by unfold maxLen; omega) (by omega) ?_
      intro v10 w10 o10 hg10
      have d10 : D g wb w10 := D.grown (D.trans hd dq) hgb hg10 (fun j hj => by have := (HNq.out.1.lt j hj).1; omega)
      obtain ⟨a10, m10, q10, hv10⟩ := o10.slice
      subst hv10
      obtain ⟨hm10, -⟩ := NO.row o10
      subst hm10
      have o11 : CertificateSO wb.heap.size w10.heap.size w10 (.slice a10 (xs.length + 1) q10) (xs ++ [x]) := by
        unfold CertificateSO
        rw [List.length_append, List.length_singleton, List.flatMap_append]
        simpa using o10
      have O11 := Lib.hid o11; clear o10 o11 hg10
      go_wp2_with (at_builtin; refine hold ?_)
      go_roundw
      case rel => exact ⟨km, xs ++ [x], by omega, by go_num, O11.out, by simp; omega, d10⟩
      case measure => first | (simp [intOf]; done) | (simp [intOf]; omega)
    · have i2 : ¬ (0 : Int) < (kk : Int) := by omega
      have dwr : D g w wr := D.trans da (D.trans d2 d2r)
      have HBR := Lib.hid (BR.out.d (D.trans d2 d2r) (by omega))
      have b0 := HBT.out.ext (w' := wr) xe
      have lb0 := b0.lt
      obtain ⟨qb0_0, qb0_1⟩ := blk2 b0
      have fb0_0 := b0.frozen 0
      have fb0_1 := b0.frozen 1
      clear b0
      have b8 := HBR.out.ext (w' := wr) xe
      have lb8 := b8.lt
      obtain ⟨qb8_0, qb8_1⟩ := blk2 b8
      have fb8_0 := b8.frozen 0
      have fb8_1 := b8.frozen 1
      clear b8
      go_wp2_with fail
      refine bodyPost_ret (v := .tuple #[.agg #[.slice At_0 nt_0 ct_0, .slice At_1 nt_1 ct_1], .slice Al nl cl, .slice av xs.length cv]) (by simp [results, Try.results120, go_sem, *]) rfl ⟨⟨_, _, _, rfl, ?rc⟩, xd⟩
      refine ⟨t, l, xs, ?_, HDT.out, ?_, HDR.out, ?_, by omega⟩
      · simp only [World.size_setCell]
        exact (OTr.out.keep (fun k h1 h2 _ => (Below.heap_setCell _ _ _ _ (by dsimp only; omega)).trans (Below.heap_setCell _ _ _ _ (by dsimp only; omega)))).more (by omega) (by omega)
      · simp only [World.size_setCell]
        exact NO.more (TrustRootSO_setCell (TrustRootSO_setCell OLr.out (.inl (by dsimp only; omega)) _) (.inl (by dsimp only; omega)) _) (by omega) (by omega)
      · simp only [World.size_setCell]
        exact Own.more (Own.setCell (Own.setCell HNO.out (.inl (by dsimp only; omega)) _) (.inl (by dsimp only; omega)) _) (by omega) (Nat.le_refl _)
end Go.Proofs.Ytmlfnfflpacchaa
