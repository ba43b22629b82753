/- Contracts of the reference's draws that the law FnCerts uses. The given slice holds bytes. -/
import Derived.Test.YtmlfnfflpacchaaD13
namespace Go.Proofs.Ytmlfnfflpacchaa
open Go.RowKit
set_option linter.unusedVariables false
/-- A drawn certificate's value. -/
inductive CertX (t : DTopology) : Value → Prop where
  | mk (x : DCertificate) (h : DrawnCert t x) : CertX t (.agg #[I x.asn, I x.keyDigest, I x.rootVersion, I x.notBefore, I x.notAfter, I x.sig.asn, I x.sig.value])
theorem CertificateSO.kp {lo hi m : Nat} {a b : World} {v : Value} {t : List DCertificate} (h : CertificateSO lo hi a v t) (hk : Kp m a b) (hm : m ≤ lo) (hh : hi ≤ a.heap.size) : CertificateS b.heap.size b v t :=
  CertificateSO_rd (Own.more (lo' := lo) (hi' := b.heap.size) (h.keep fun k h1 _ _ => hk.same k (by omega)) (Nat.le_refl _) (by rw [hk.size]; exact hh))
def OutCV (W : World) (vt vl : Value) (x : DCertificate) : Prop := ∃ t l, TopologyV W.heap.size W vt t ∧ TrustRootS W.heap.size W vl l ∧ DrawnTopo t ∧ DrawnRoots l ∧ DrawnCert t x
def OutTLM (W : World) (vt vl vm : Value) : Prop := ∃ t l m, TopologyV W.heap.size W vt t ∧ TrustRootS W.heap.size W vl l ∧ CertificateS W.heap.size W vm m ∧ DrawnRoots l ∧ m.length ≤ 5
set_option maxRecDepth 100000 in
set_option maxHeartbeats 1000000 in
theorem spec_DrawCertificateValid (vb : Value) (bs : List Nat) (w : World) (hb : ByteS w.heap.size w vb bs) (hn : bs.length ≤ 1048576) : Calls Try.prog 57 #[vb] w fun e w' => (∃ vt vl x n, e = .returned (.tuple #[vt, vl, .agg #[I x.asn, I x.keyDigest, I x.rootVersion, I x.notBefore, I x.notAfter, I x.sig.asn, I x.sig.value], I n]) ∧ OutCV w' vt vl x) ∧ Ext w w' := by
  have HB := Lib.hid hb; clear hb
  go_enter Try.func57, Try.ntmps57
  go_wp2_with fail
  refine name_calls (fun W => Ext w W ∧ W.heap.size = w.heap.size + 1 + 1 ∧ Blk W (w.heap.size) 27 [.slice none 0 0, .slice none 0 0] ∧ Blk W (w.heap.size + 1) 82 [I 0, I 0, I 0, I 0, I 0, I 0, I 0]) ⟨xe, by simp only [World.size_alloc], xb, xb⟩ ?_
  rintro wa ⟨ea, za_, br0, br1⟩
  obtain ⟨za, za'⟩ := le_both za_
  clear za_
  have B0 := Lib.hid br0; have B1 := Lib.hid br1; clear br0 br1
  refine (spec_l1NewB vb bs w.heap.size wa (HB.out.keep ByteAt.keeps (Nat.le_refl _) fun k hk => ea.same k hk) (by omega) hn).mono ?_
  rintro e w1 ⟨g, rfl, hg, hcur, e1⟩
  have HCB := Lib.hid hcur
  have HC := Lib.hid hcur.cur
  have hg1 := hcur.lt
  clear hcur
  have z1 := e1.size
  go_wp2_with fail
  refine (spec_l18Any g w1 HC.out).mono ?_
  rintro e w2 ⟨⟨v1, v2, rfl, t, l, ot, hdt, ol, hdr⟩, d2⟩
  have z2 := d2.size
  have e2 : Ext wa w2 := d2.ext e1 hg
  obtain ⟨At_0, nt_0, ct_0, At_1, nt_1, ct_1, rfl⟩ := TopologyO.shape ot
  obtain ⟨Al, nl, cl, rfl⟩ := NO.slice ol
  have HDR := Lib.hid hdr
  obtain ⟨hl0, hl5, -⟩ := hdr
  have OT := Lib.hid ot; have OL := Lib.hid ol; have HDT := Lib.hid hdt; clear ot ol
  have ht8 : t.ases.length ≤ 8 := hdt.2.1
  clear hdt
  go_wp2_with fail
  refine name_wp (fun W => Ext w2 W ∧ W.heap.size = w2.heap.size + 1 ∧ Blk W w2.heap.size 27 [.slice At_0 nt_0 ct_0, .slice At_1 nt_1 ct_1]) ⟨xe, by simp only [World.size_alloc], xb⟩ ?_
  rintro w3 ⟨e3, z3_, b5⟩
  obtain ⟨z3, z3'⟩ := le_both z3_
  clear z3_
  have BT := Lib.hid b5; clear b5
  have ea3 : Ext wa w3 := Ext.trans e2 e3
  have ew3 : Ext w w3 := Ext.trans ea ea3
  have OT3 := Lib.hid (OT.out.ext e3 (Nat.le_refl _)); have OL3 := Lib.hid (TrustRootSO_ext OL.out e3 (Nat.le_refl _))
  have HCB3 := Lib.hid ((D.of_ext e3 (by omega : g < w2.heap.size)).cur (d2.cur HCB.out))
  have hg3 : g < w3.heap.size := by omega
  have nb0 : ¬ w2.heap.size = g := by omega
  have mb0 : wa.heap.size ≤ w2.heap.size := by omega
  have b4_ := BT.out.ext (w' := w3) xe
  have lb4_ := b4_.lt
  obtain ⟨qb4__0, qb4__1⟩ := blk2 b4_
  have fb4__0 := b4_.frozen 0
  have fb4__1 := b4_.frozen 1
  clear b4_
  have hh3 : w2.heap.size ≤ w3.heap.size := by omega
  refine wp_region_LV 8 9 [1] _ (E := DW g w.heap.size wa.heap.size) (w0 := w3) (G := fun τ => match τ with | 21 => some (fun v W => CertX t v) | 23 => some (fun v W => ∃ x : Int, v = I x ∧ 0 ≤ x) | _ => none)  (DW.refl _ _ _) (fun h k => DW.trans h k) (by kernel_rfl) (by kernel_rfl) rfl rfl (by kernel_rfl) (by kernel_rfl) (by kernel_rfl) (by kernel_rfl) (by kernel_rfl) (by kernel_rfl) (by kernel_rfl) (by kernel_rfl) (by kernel_rfl) (by intro i hi oi hoi; simp only [List.mem_cons, List.not_mem_nil, or_false] at hi; rcases hi with rfl; obtain rfl := Option.some.inj hoi <;> exact ⟨rfl, rfl, by kernel_rfl⟩) (by intro t φ hG; split at hG; all_goals first | (cases hG; done) | (cases Option.some.inj hG; intro v W W' hE hv; first | exact hv | exact hv.dw hE (by omega) (by omega))) (DW.drew (by exact DW.refl _ _ _ _)) ?_
  simp only [List.take_succ_cons, List.take_zero, List.drop_succ_cons, List.drop_zero, List.cons_append, List.nil_append]
  repeat' (first
    | ((with_reducible refine wpL_skip ?_ ?_ ?_)
       · rfl
       · rfl
       simp only [Act.put, List.setIfInBounds_toArray, List.set_cons_zero, List.set_cons_succ])
    | ((with_reducible refine wpL_quiet ?_ ?_ ?_ ?_)
       · rfl
       · rfl
       · rfl
       apply Exists.intro
       refine ⟨fun W hW hS => ?_, ?_⟩
       · have hC := (DW.facts hW).1
         go_simp
         first | done | (with_reducible rfl) | (rw [if_neg (by omega)]; exact ⟨rfl, rfl⟩) | rfl
       first | (with_reducible refine wpL_boolT ?_) | (with_reducible refine wpL_boolF ?_) | (with_reducible refine wpL_bool (fun hB => ?_) (fun hB => ?_)) | skip
       all_goals simp only [Act.put, List.setIfInBounds_toArray, List.set_cons_zero, List.set_cons_succ])
    | ((refine wpL_grow ?_ rfl rfl ?_ ?_)
       · rfl
       · intro W hW hS
         have hC := (DW.facts hW).1
         unfold growAt
         go_simp
         simp only [growUpon]
         first | (go_at_call 119; (with_reducible refine Calls.mono (spec_l19Cert g _ _ t l w1.heap.size w2.heap.size _ ((hW.cur (Nat.le_refl _) hg HCB3.out).cur) (by exact OT3.out.dw hW (by omega) (by omega)) (by exact NO.dw TrustRootOC.keeps OL3.out hW (by omega) (by omega)) (by omega) (Nat.le_trans hh3 hW.size) z2 ht8 hl0 hl5) ?_); rintro e w9 ⟨⟨x, rfl, hx⟩, d9⟩; exact ⟨_, rfl, DW.of_d d9, CertX.mk x hx⟩) | (go_at_call 96; (with_reducible refine Calls.mono (spec_l1Below g _ _ ((hW.cur (Nat.le_refl _) hg HCB3.out).cur) (by omega)) ?_); rintro e w9 ⟨x, rfl, hx, d9⟩; exact ⟨_, rfl, DW.of_d d9, ⟨x, rfl, hx.1⟩⟩)
       intro v W' hW' hv
       first | ((with_reducible refine intro_at 21 _ ?_); obtain ⟨x21, hx21⟩ := hv) | ((with_reducible refine intro_at 23 _ ?_); obtain ⟨x23, rfl, h23⟩ := hv) | (obtain ⟨A5, n5, c5, rfl, -⟩ := id hv; clear hv) | (obtain ⟨A5, n5, c5, rfl⟩ := NO.slice hv) | skip
       all_goals simp only [Act.put, List.setIfInBounds_toArray, List.set_cons_zero, List.set_cons_succ]))
  refine wpL_nil (fun w4 e4 hL => ?_)
  clear hL
  obtain ⟨s0, hs0, bs0⟩ := e4.shape hg _ _ _ (by omega) (by omega) (B0.out.ext ea3)
  obtain ⟨s0_0, s0_1, rfl⟩ := len2 hs0
  have BS0 := Lib.hid bs0; clear bs0
  obtain ⟨s1, hs1, bs1⟩ := e4.shape hg _ _ _ (by omega) (by omega) (B1.out.ext ea3)
  obtain ⟨s1_0, s1_1, s1_2, s1_3, s1_4, s1_5, s1_6, rfl⟩ := len7 hs1
  have BS1 := Lib.hid bs1; clear bs1
  have z4 := e4.size
  have ew4 : Ext w w4 := DW.ext e4 ew3 (by omega) (Nat.le_refl _)
  have d0_ := BS0.out.ext (w' := w4) xe
  have ld0_ := d0_.lt
  obtain ⟨qd0__0, qd0__1⟩ := blk2 d0_
  have fd0__0 := d0_.frozen 0
  have fd0__1 := d0_.frozen 1
  clear d0_
  refine ⟨undef, (w4.setCell ⟨w.heap.size, 0, none⟩ (.slice At_0 nt_0 ct_0)).setCell ⟨w.heap.size, 1, none⟩ (.slice At_1 nt_1 ct_1), .skip, .inr ⟨rfl, rfl⟩, ?run, ?_⟩
  case run =>
    go_simp
    first | done | rfl
  refine ⟨DW.set (DW.set (DW.refl _ _ _ _) (Nat.le_refl _) (by omega) _) (Nat.le_refl _) (by omega) _, ?_⟩
  refine name_wpl (fun W => Ext w W ∧ Kp wa.heap.size w4 W ∧ Blk W w.heap.size 27 [.slice At_0 nt_0 ct_0, .slice At_1 nt_1 ct_1] ∧ Blk W (w.heap.size + 1) 82 [s1_0, s1_1, s1_2, s1_3, s1_4, s1_5, s1_6]) ⟨xset, kp, by simpa using (BS0.out.set_ 0 (.slice At_0 nt_0 ct_0)).set_ 1 (.slice At_1 nt_1 ct_1), (BS1.out.far (by dsimp only; omega) _).far (by dsimp only; omega) _⟩ ?_
  clear ld0_ qd0__0 qd0__1 fd0__0 fd0__1
  rintro w5 ⟨e5, kp5, b0, b1⟩
  have V0 := Lib.hid b0; have V1 := Lib.hid b1; clear b0 b1
  have d0_ := V0.out.ext (w' := w5) xe
  have ld0_ := d0_.lt
  obtain ⟨qd0__0, qd0__1⟩ := blk2 d0_
  have fd0__0 := d0_.frozen 0
  have fd0__1 := d0_.frozen 1
  clear d0_
  have d1_ := V1.out.ext (w' := w5) xe
  have ld1_ := d1_.lt
  obtain ⟨qd1__0, qd1__1, qd1__2, qd1__3, qd1__4, qd1__5, qd1__6⟩ := blk7 d1_
  have fd1__0 := d1_.frozen 0
  have fd1__1 := d1_.frozen 1
  have fd1__2 := d1_.frozen 2
  have fd1__3 := d1_.frozen 3
  have fd1__4 := d1_.frozen 4
  have fd1__5 := d1_.frozen 5
  have fd1__6 := d1_.frozen 6
  clear d1_
  try simp only [List.drop_succ_cons, List.drop_zero]
  go_wp2_with fail
  refine bodyPost_ret (v := .tuple #[.agg #[.slice At_0 nt_0 ct_0, .slice At_1 nt_1 ct_1], .slice Al nl cl, .agg #[I x21.asn, I x21.keyDigest, I x21.rootVersion, I x21.notBefore, I x21.notAfter, I x21.sig.asn, I x21.sig.value], I x23]) (by simp [results, Try.results57, go_sem, *]) rfl ⟨⟨_, _, x21, _, rfl, ?rc⟩, ?_⟩
  case rc =>
    refine ⟨t, l, ?_, ?_, HDT.out, HDR.out, hx21⟩
    · exact TopologyO.kp (m := wa.heap.size) (OT3.out.dw e4 (by omega) (by omega)) (kp5.trans kp) (by omega) (by omega)
    · exact TrustRootSO.kp (m := wa.heap.size) (NO.dw TrustRootOC.keeps OL3.out e4 (by omega) (by omega)) (kp5.trans kp) (by omega) (by omega)
  exact xset
set_option maxRecDepth 100000 in
set_option maxHeartbeats 1000000 in
theorem spec_DrawIssueCertificate (vb : Value) (bs : List Nat) (w : World) (hb : ByteS w.heap.size w vb bs) (hn : bs.length ≤ 1048576) : Calls Try.prog 58 #[vb] w fun e w' => (∃ vt r b ver f n, e = .returned (.tuple #[vt, I r, I b, I ver, I f, I n]) ∧ 0 ≤ b ∧ ∃ t, TopologyV w'.heap.size w' vt t) ∧ Ext w w' := by
  have HB := Lib.hid hb; clear hb
  go_enter Try.func58, Try.ntmps58
  go_wp2_with fail
  refine name_calls (fun W => Ext w W ∧ W.heap.size = w.heap.size + 1 ∧ Blk W (w.heap.size) 27 [.slice none 0 0, .slice none 0 0]) ⟨xe, by simp only [World.size_alloc], xb⟩ ?_
  rintro wa ⟨ea, za_, br0⟩
  obtain ⟨za, za'⟩ := le_both za_
  clear za_
  have B0 := Lib.hid br0; clear br0
  refine (spec_l1NewB vb bs w.heap.size wa (HB.out.keep ByteAt.keeps (Nat.le_refl _) fun k hk => ea.same k hk) (by omega) hn).mono ?_
  rintro e w1 ⟨g, rfl, hg, hcur, e1⟩
  have HCB := Lib.hid hcur
  have HC := Lib.hid hcur.cur
  have hg1 := hcur.lt
  clear hcur
  have z1 := e1.size
  go_wp2_with fail
  refine (spec_l5Draw g w1 HC.out).mono ?_
  rintro e w2 ⟨v1, rfl, ⟨t, ot, hdt⟩, d2⟩
  have z2 := d2.size
  have e2 : Ext wa w2 := d2.ext e1 hg
  obtain ⟨At_0, nt_0, ct_0, At_1, nt_1, ct_1, rfl⟩ := TopologyO.shape ot
  have OT := Lib.hid ot; have HDT := Lib.hid hdt; clear ot
  have ht8 : t.ases.length ≤ 8 := hdt.2.1
  clear hdt
  go_wp2_with fail
  refine name_wp (fun W => Ext w2 W ∧ W.heap.size = w2.heap.size + 1 ∧ Blk W w2.heap.size 27 [.slice At_0 nt_0 ct_0, .slice At_1 nt_1 ct_1]) ⟨xe, by simp only [World.size_alloc], xb⟩ ?_
  rintro w3 ⟨e3, z3_, b5⟩
  obtain ⟨z3, z3'⟩ := le_both z3_
  clear z3_
  have BT := Lib.hid b5; clear b5
  have ea3 : Ext wa w3 := Ext.trans e2 e3
  have ew3 : Ext w w3 := Ext.trans ea ea3
  have OT3 := Lib.hid (OT.out.ext e3 (Nat.le_refl _))
  have HCB3 := Lib.hid ((D.of_ext e3 (by omega : g < w2.heap.size)).cur (d2.cur HCB.out))
  have hg3 : g < w3.heap.size := by omega
  have nb0 : ¬ w2.heap.size = g := by omega
  have mb0 : wa.heap.size ≤ w2.heap.size := by omega
  have b4_ := BT.out.ext (w' := w3) xe
  have lb4_ := b4_.lt
  obtain ⟨qb4__0, qb4__1⟩ := blk2 b4_
  have fb4__0 := b4_.frozen 0
  have fb4__1 := b4_.frozen 1
  clear b4_
  refine wp_region_LV 12 13 [3] _ (E := DW g w.heap.size wa.heap.size) (w0 := w3) (G := fun τ => match τ with | 16 => some (fun v W => ∃ x : Int, v = I x ∧ 0 ≤ x) | 19 => some (fun v W => ∃ x : Int, v = I x ∧ 0 ≤ x) | 21 => some (fun v W => ∃ x : Int, v = I x ∧ 0 ≤ x) | 23 => some (fun v W => ∃ x : Int, v = I x ∧ 0 ≤ x) | 25 => some (fun v W => ∃ x : Int, v = I x ∧ 0 ≤ x) | _ => none)  (DW.refl _ _ _) (fun h k => DW.trans h k) (by kernel_rfl) (by kernel_rfl) rfl rfl (by kernel_rfl) (by kernel_rfl) (by kernel_rfl) (by kernel_rfl) (by kernel_rfl) (by kernel_rfl) (by kernel_rfl) (by kernel_rfl) (by kernel_rfl) (by intro i hi oi hoi; simp only [List.mem_cons, List.not_mem_nil, or_false] at hi; rcases hi with rfl; obtain rfl := Option.some.inj hoi <;> exact ⟨rfl, rfl, by kernel_rfl⟩) (by intro t φ hG; split at hG; all_goals first | (cases hG; done) | (cases Option.some.inj hG; intro v W W' hE hv; first | exact hv | exact hv.dw hE (by omega) (by omega))) (DW.drew (by exact DW.refl _ _ _ _)) ?_
  simp only [List.take_succ_cons, List.take_zero, List.drop_succ_cons, List.drop_zero, List.cons_append, List.nil_append]
  repeat' (first
    | ((with_reducible refine wpL_skip ?_ ?_ ?_)
       · rfl
       · rfl
       simp only [Act.put, List.setIfInBounds_toArray, List.set_cons_zero, List.set_cons_succ])
    | ((with_reducible refine wpL_quiet ?_ ?_ ?_ ?_)
       · rfl
       · rfl
       · rfl
       apply Exists.intro
       refine ⟨fun W hW hS => ?_, ?_⟩
       · have hC := (DW.facts hW).1
         go_simp
         first | done | (with_reducible rfl) | (rw [if_neg (by omega)]; exact ⟨rfl, rfl⟩) | rfl
       first | (with_reducible refine wpL_boolT ?_) | (with_reducible refine wpL_boolF ?_) | (with_reducible refine wpL_bool (fun hB => ?_) (fun hB => ?_)) | skip
       all_goals simp only [Act.put, List.setIfInBounds_toArray, List.set_cons_zero, List.set_cons_succ])
    | ((refine wpL_grow ?_ rfl rfl ?_ ?_)
       · rfl
       · intro W hW hS
         have hC := (DW.facts hW).1
         unfold growAt
         go_simp
         simp only [growUpon]
         first | (go_at_call 96; (with_reducible refine Calls.mono (spec_l1Below g _ _ ((hW.cur (Nat.le_refl _) hg HCB3.out).cur) (by omega)) ?_); rintro e w9 ⟨x, rfl, hx, d9⟩; exact ⟨_, rfl, DW.of_d d9, ⟨x, rfl, hx.1⟩⟩) | (go_at_call 96; (with_reducible refine Calls.mono (spec_l1Below g _ _ ((hW.cur (Nat.le_refl _) hg HCB3.out).cur) (by omega)) ?_); rintro e w9 ⟨x, rfl, hx, d9⟩; exact ⟨_, rfl, DW.of_d d9, ⟨x, rfl, hx.1⟩⟩) | (go_at_call 96; (with_reducible refine Calls.mono (spec_l1Below g _ _ ((hW.cur (Nat.le_refl _) hg HCB3.out).cur) (by omega)) ?_); rintro e w9 ⟨x, rfl, hx, d9⟩; exact ⟨_, rfl, DW.of_d d9, ⟨x, rfl, hx.1⟩⟩) | (go_at_call 96; (with_reducible refine Calls.mono (spec_l1Below g _ _ ((hW.cur (Nat.le_refl _) hg HCB3.out).cur) (by omega)) ?_); rintro e w9 ⟨x, rfl, hx, d9⟩; exact ⟨_, rfl, DW.of_d d9, ⟨x, rfl, hx.1⟩⟩) | (go_at_call 96; (with_reducible refine Calls.mono (spec_l1Below g _ _ ((hW.cur (Nat.le_refl _) hg HCB3.out).cur) (by omega)) ?_); rintro e w9 ⟨x, rfl, hx, d9⟩; exact ⟨_, rfl, DW.of_d d9, ⟨x, rfl, hx.1⟩⟩)
       intro v W' hW' hv
       first | ((with_reducible refine intro_at 16 _ ?_); obtain ⟨x16, rfl, h16⟩ := hv) | ((with_reducible refine intro_at 19 _ ?_); obtain ⟨x19, rfl, h19⟩ := hv) | ((with_reducible refine intro_at 21 _ ?_); obtain ⟨x21, rfl, h21⟩ := hv) | ((with_reducible refine intro_at 23 _ ?_); obtain ⟨x23, rfl, h23⟩ := hv) | ((with_reducible refine intro_at 25 _ ?_); obtain ⟨x25, rfl, h25⟩ := hv) | (obtain ⟨A5, n5, c5, rfl, -⟩ := id hv; clear hv) | (obtain ⟨A5, n5, c5, rfl⟩ := NO.slice hv) | skip
       all_goals simp only [Act.put, List.setIfInBounds_toArray, List.set_cons_zero, List.set_cons_succ]))
  refine wpL_nil (fun w4 e4 hL => ?_)
  clear hL
  obtain ⟨s0, hs0, bs0⟩ := e4.shape hg _ _ _ (by omega) (by omega) (B0.out.ext ea3)
  obtain ⟨s0_0, s0_1, rfl⟩ := len2 hs0
  have BS0 := Lib.hid bs0; clear bs0
  have z4 := e4.size
  have ew4 : Ext w w4 := DW.ext e4 ew3 (by omega) (Nat.le_refl _)
  have d0_ := BS0.out.ext (w' := w4) xe
  have ld0_ := d0_.lt
  obtain ⟨qd0__0, qd0__1⟩ := blk2 d0_
  have fd0__0 := d0_.frozen 0
  have fd0__1 := d0_.frozen 1
  clear d0_
  refine ⟨undef, (w4.setCell ⟨w.heap.size, 0, none⟩ (.slice At_0 nt_0 ct_0)).setCell ⟨w.heap.size, 1, none⟩ (.slice At_1 nt_1 ct_1), .skip, .inr ⟨rfl, rfl⟩, ?run, ?_⟩
  case run =>
    go_simp
    first | done | rfl
  refine ⟨DW.set (DW.set (DW.refl _ _ _ _) (Nat.le_refl _) (by omega) _) (Nat.le_refl _) (by omega) _, ?_⟩
  refine name_wpl (fun W => Ext w W ∧ Kp wa.heap.size w4 W ∧ Blk W w.heap.size 27 [.slice At_0 nt_0 ct_0, .slice At_1 nt_1 ct_1]) ⟨xset, kp, by simpa using (BS0.out.set_ 0 (.slice At_0 nt_0 ct_0)).set_ 1 (.slice At_1 nt_1 ct_1)⟩ ?_
  clear ld0_ qd0__0 qd0__1 fd0__0 fd0__1
  rintro w5 ⟨e5, kp5, b0⟩
  have V0 := Lib.hid b0; clear b0
  have d0_ := V0.out.ext (w' := w5) xe
  have ld0_ := d0_.lt
  obtain ⟨qd0__0, qd0__1⟩ := blk2 d0_
  have fd0__0 := d0_.frozen 0
  have fd0__1 := d0_.frozen 1
  clear d0_
  try simp only [List.drop_succ_cons, List.drop_zero]
  go_wp2_with fail
  refine bodyPost_ret (v := .tuple #[.agg #[.slice At_0 nt_0 ct_0, .slice At_1 nt_1 ct_1], I _, I x19, I x21, I x23, I x25]) (by simp [results, Try.results58, go_sem, *]; rfl) rfl ⟨⟨_, _, _, _, _, _, rfl, h19, t, ?_⟩, ?_⟩
  · exact TopologyO.kp (m := wa.heap.size) (OT3.out.dw e4 (by omega) (by omega)) (kp5.trans kp) (by omega) (by omega)
  · exact xset
set_option maxRecDepth 100000 in
set_option maxHeartbeats 1000000 in
theorem spec_DrawFindCertificate (vb : Value) (bs : List Nat) (w : World) (hb : ByteS w.heap.size w vb bs) (hn : bs.length ≤ 1048576) : Calls Try.prog 59 #[vb] w fun e w' => (∃ vt vl vm n23 n25, e = .returned (.tuple #[vt, vl, vm, I n23, I n25]) ∧ OutTLM w' vt vl vm) ∧ Ext w w' := by
  have HB := Lib.hid hb; clear hb
  go_enter Try.func59, Try.ntmps59
  go_wp2_with fail
  refine name_calls (fun W => Ext w W ∧ W.heap.size = w.heap.size + 1 ∧ Blk W (w.heap.size) 27 [.slice none 0 0, .slice none 0 0]) ⟨xe, by simp only [World.size_alloc], xb⟩ ?_
  rintro wa ⟨ea, za_, br0⟩
  obtain ⟨za, za'⟩ := le_both za_
  clear za_
  have B0 := Lib.hid br0; clear br0
  refine (spec_l1NewB vb bs w.heap.size wa (HB.out.keep ByteAt.keeps (Nat.le_refl _) fun k hk => ea.same k hk) (by omega) hn).mono ?_
  rintro e w1 ⟨g, rfl, hg, hcur, e1⟩
  have HCB := Lib.hid hcur
  have HC := Lib.hid hcur.cur
  have hg1 := hcur.lt
  clear hcur
  have z1 := e1.size
  go_wp2_with fail
  refine (spec_l19Draw g w1 HC.out).mono ?_
  rintro e w2 ⟨⟨v1, v2, v3, rfl, t, l, m, ot, hdt, ol, hdr, om, hm5⟩, d2⟩
  have z2 := d2.size
  have e2 : Ext wa w2 := d2.ext e1 hg
  obtain ⟨At_0, nt_0, ct_0, At_1, nt_1, ct_1, rfl⟩ := TopologyO.shape ot
  obtain ⟨Al, nl, cl, rfl⟩ := NO.slice ol
  obtain ⟨Am, nm, cm, rfl⟩ := om.slice
  have HDR := Lib.hid hdr; clear hdr
  have OT := Lib.hid ot; have OL := Lib.hid ol; have OM := Lib.hid om; have HDT := Lib.hid hdt; clear ot ol om hdt
  go_wp2_with fail
  refine name_wp (fun W => Ext w2 W ∧ W.heap.size = w2.heap.size + 1 ∧ Blk W w2.heap.size 27 [.slice At_0 nt_0 ct_0, .slice At_1 nt_1 ct_1]) ⟨xe, by simp only [World.size_alloc], xb⟩ ?_
  rintro w3 ⟨e3, z3_, b5⟩
  obtain ⟨z3, z3'⟩ := le_both z3_
  clear z3_
  have BT := Lib.hid b5; clear b5
  have ea3 : Ext wa w3 := Ext.trans e2 e3
  have ew3 : Ext w w3 := Ext.trans ea ea3
  have OT3 := Lib.hid (OT.out.ext e3 (Nat.le_refl _)); have OL3 := Lib.hid (TrustRootSO_ext OL.out e3 (Nat.le_refl _)); have OM3 := Lib.hid (OM.out.ext e3 (Nat.le_refl _))
  have HCB3 := Lib.hid ((D.of_ext e3 (by omega : g < w2.heap.size)).cur (d2.cur HCB.out))
  have hg3 : g < w3.heap.size := by omega
  have nb0 : ¬ w2.heap.size = g := by omega
  have mb0 : wa.heap.size ≤ w2.heap.size := by omega
  have b4_ := BT.out.ext (w' := w3) xe
  have lb4_ := b4_.lt
  obtain ⟨qb4__0, qb4__1⟩ := blk2 b4_
  have fb4__0 := b4_.frozen 0
  have fb4__1 := b4_.frozen 1
  clear b4_
  have d0_ := B0.out.ext (w' := w3) xe
  have ld0_ := d0_.lt
  obtain ⟨qd0__0, qd0__1⟩ := blk2 d0_
  have fd0__0 := d0_.frozen 0
  have fd0__1 := d0_.frozen 1
  clear d0_
  have nb1 : ¬ w.heap.size = g := by omega
  have nb2 : ¬ w2.heap.size = w.heap.size := by omega
  have nb3 : ¬ w.heap.size = w2.heap.size := by omega
  have HCD := Lib.hid ((D.drew (D.refl g w3)).cur HCB3.out.cur)
  go_region_with (go_at_call 96; refine (spec_l1Below g _ _ (by first | assumption | exact HCD.out) (by omega)).mono ?_; rintro e w9 ⟨x9, rfl, -, d9⟩; have hcn := d9.cur (by first | assumption | exact HCD.out); have dn9 : D g w3 w9 := D.trans (by first | assumption | exact D.drew (D.refl _ _)) d9; obtain ⟨hc9, hf9, hz9⟩ := dn9.facts)
  all_goals
    have ew9 : Ext w w9 := D.ext dn9 ew3 (by omega)
    have zn9 := dn9.size
    go_wp2_with fail
    refine bodyPost_ret (v := .tuple #[.agg #[.slice At_0 nt_0 ct_0, .slice At_1 nt_1 ct_1], .slice Al nl cl, .slice Am nm cm, I _, I _]) (by simp [results, Try.results59, go_sem, *]; first | rfl | exact ⟨rfl, rfl⟩) rfl ⟨⟨_, _, _, _, _, rfl, ?_⟩, ?_⟩
    · refine ⟨t, l, m, ?_, ?_, ?_, HDR.out, hm5⟩
      · exact TopologyO.kp (m := wa.heap.size) (OT3.out.d dn9 (by omega)) kp (by omega) (by omega)
      · exact TrustRootSO.kp (m := wa.heap.size) (NO.d TrustRootOC.keeps OL3.out dn9 (by omega)) kp (by omega) (by omega)
      · exact CertificateSO.kp (m := wa.heap.size) (OM3.out.d dn9 (by omega)) kp (by omega) (by omega)
    · exact xset
set_option maxRecDepth 100000 in
set_option maxHeartbeats 1000000 in
theorem spec_DrawCertifiedASes (vb : Value) (bs : List Nat) (w : World) (hb : ByteS w.heap.size w vb bs) (hn : bs.length ≤ 1048576) : Calls Try.prog 60 #[vb] w fun e w' => (∃ vt vl vm n22, e = .returned (.tuple #[vt, vl, vm, I n22]) ∧ OutTLM w' vt vl vm) ∧ Ext w w' := by
  have HB := Lib.hid hb; clear hb
  go_enter Try.func60, Try.ntmps60
  go_wp2_with fail
  refine name_calls (fun W => Ext w W ∧ W.heap.size = w.heap.size + 1 ∧ Blk W (w.heap.size) 27 [.slice none 0 0, .slice none 0 0]) ⟨xe, by simp only [World.size_alloc], xb⟩ ?_
  rintro wa ⟨ea, za_, br0⟩
  obtain ⟨za, za'⟩ := le_both za_
  clear za_
  have B0 := Lib.hid br0; clear br0
  refine (spec_l1NewB vb bs w.heap.size wa (HB.out.keep ByteAt.keeps (Nat.le_refl _) fun k hk => ea.same k hk) (by omega) hn).mono ?_
  rintro e w1 ⟨g, rfl, hg, hcur, e1⟩
  have HCB := Lib.hid hcur
  have HC := Lib.hid hcur.cur
  have hg1 := hcur.lt
  clear hcur
  have z1 := e1.size
  go_wp2_with fail
  refine (spec_l19Draw g w1 HC.out).mono ?_
  rintro e w2 ⟨⟨v1, v2, v3, rfl, t, l, m, ot, hdt, ol, hdr, om, hm5⟩, d2⟩
  have z2 := d2.size
  have e2 : Ext wa w2 := d2.ext e1 hg
  obtain ⟨At_0, nt_0, ct_0, At_1, nt_1, ct_1, rfl⟩ := TopologyO.shape ot
  obtain ⟨Al, nl, cl, rfl⟩ := NO.slice ol
  obtain ⟨Am, nm, cm, rfl⟩ := om.slice
  have HDR := Lib.hid hdr; clear hdr
  have OT := Lib.hid ot; have OL := Lib.hid ol; have OM := Lib.hid om; have HDT := Lib.hid hdt; clear ot ol om hdt
  go_wp2_with fail
  refine name_wp (fun W => Ext w2 W ∧ W.heap.size = w2.heap.size + 1 ∧ Blk W w2.heap.size 27 [.slice At_0 nt_0 ct_0, .slice At_1 nt_1 ct_1]) ⟨xe, by simp only [World.size_alloc], xb⟩ ?_
  rintro w3 ⟨e3, z3_, b5⟩
  obtain ⟨z3, z3'⟩ := le_both z3_
  clear z3_
  have BT := Lib.hid b5; clear b5
  have ea3 : Ext wa w3 := Ext.trans e2 e3
  have ew3 : Ext w w3 := Ext.trans ea ea3
  have OT3 := Lib.hid (OT.out.ext e3 (Nat.le_refl _)); have OL3 := Lib.hid (TrustRootSO_ext OL.out e3 (Nat.le_refl _)); have OM3 := Lib.hid (OM.out.ext e3 (Nat.le_refl _))
  have HCB3 := Lib.hid ((D.of_ext e3 (by omega : g < w2.heap.size)).cur (d2.cur HCB.out))
  have hg3 : g < w3.heap.size := by omega
  have nb0 : ¬ w2.heap.size = g := by omega
  have mb0 : wa.heap.size ≤ w2.heap.size := by omega
  have b4_ := BT.out.ext (w' := w3) xe
  have lb4_ := b4_.lt
  obtain ⟨qb4__0, qb4__1⟩ := blk2 b4_
  have fb4__0 := b4_.frozen 0
  have fb4__1 := b4_.frozen 1
  clear b4_
  have d0_ := B0.out.ext (w' := w3) xe
  have ld0_ := d0_.lt
  obtain ⟨qd0__0, qd0__1⟩ := blk2 d0_
  have fd0__0 := d0_.frozen 0
  have fd0__1 := d0_.frozen 1
  clear d0_
  have nb1 : ¬ w.heap.size = g := by omega
  have nb2 : ¬ w2.heap.size = w.heap.size := by omega
  have nb3 : ¬ w.heap.size = w2.heap.size := by omega
  have HCD := Lib.hid ((D.drew (D.refl g w3)).cur HCB3.out.cur)
  go_region_with (go_at_call 96; refine (spec_l1Below g _ _ (by first | assumption | exact HCD.out) (by omega)).mono ?_; rintro e w9 ⟨x9, rfl, -, d9⟩; have hcn := d9.cur (by first | assumption | exact HCD.out); have dn9 : D g w3 w9 := D.trans (by first | assumption | exact D.drew (D.refl _ _)) d9; obtain ⟨hc9, hf9, hz9⟩ := dn9.facts)
  all_goals
    have ew9 : Ext w w9 := D.ext dn9 ew3 (by omega)
    have zn9 := dn9.size
    go_wp2_with fail
    refine bodyPost_ret (v := .tuple #[.agg #[.slice At_0 nt_0 ct_0, .slice At_1 nt_1 ct_1], .slice Al nl cl, .slice Am nm cm, I _]) (by simp [results, Try.results60, go_sem, *]; first | rfl | exact ⟨rfl, rfl⟩) rfl ⟨⟨_, _, _, _, rfl, ?_⟩, ?_⟩
    · refine ⟨t, l, m, ?_, ?_, ?_, HDR.out, hm5⟩
      · exact TopologyO.kp (m := wa.heap.size) (OT3.out.d dn9 (by omega)) kp (by omega) (by omega)
      · exact TrustRootSO.kp (m := wa.heap.size) (NO.d TrustRootOC.keeps OL3.out dn9 (by omega)) kp (by omega) (by omega)
      · exact CertificateSO.kp (m := wa.heap.size) (OM3.out.d dn9 (by omega)) kp (by omega) (by omega)
    · exact xset
set_option maxRecDepth 100000 in
set_option maxHeartbeats 1000000 in
theorem spec_DrawFormatCertificate (vb : Value) (bs : List Nat) (w : World) (hb : ByteS w.heap.size w vb bs) (hn : bs.length ≤ 1048576) : Calls Try.prog 61 #[vb] w fun e w' => (∃ (vt : Value) (x : DCertificate), e = .returned (.tuple #[vt, .agg #[I x.asn, I x.keyDigest, I x.rootVersion, I x.notBefore, I x.notAfter, I x.sig.asn, I x.sig.value]]) ∧ ∃ t, TopologyV w'.heap.size w' vt t) ∧ Ext w w' := by
  have HB := Lib.hid hb; clear hb
  go_enter Try.func61, Try.ntmps61
  go_wp2_with fail
  refine name_calls (fun W => Ext w W ∧ W.heap.size = w.heap.size + 1 + 1 ∧ Blk W (w.heap.size) 27 [.slice none 0 0, .slice none 0 0] ∧ Blk W (w.heap.size + 1) 82 [I 0, I 0, I 0, I 0, I 0, I 0, I 0]) ⟨xe, by simp only [World.size_alloc], xb, xb⟩ ?_
  rintro wa ⟨ea, za_, br0, br1⟩
  obtain ⟨za, za'⟩ := le_both za_
  clear za_
  have B0 := Lib.hid br0; have B1 := Lib.hid br1; clear br0 br1
  refine (spec_l1NewB vb bs w.heap.size wa (HB.out.keep ByteAt.keeps (Nat.le_refl _) fun k hk => ea.same k hk) (by omega) hn).mono ?_
  rintro e w1 ⟨g, rfl, hg, hcur, e1⟩
  have HCB := Lib.hid hcur
  have HC := Lib.hid hcur.cur
  have hg1 := hcur.lt
  clear hcur
  have z1 := e1.size
  go_wp2_with fail
  refine (spec_l18Draw g w1 HC.out).mono ?_
  rintro e w2 ⟨⟨v1, v2, rfl, t, l, ot, hdt, ol, hl0, hl5, hp⟩, d2⟩
  have z2 := d2.size
  have e2 : Ext wa w2 := d2.ext e1 hg
  obtain ⟨At_0, nt_0, ct_0, At_1, nt_1, ct_1, rfl⟩ := TopologyO.shape ot
  obtain ⟨Al, nl, cl, rfl⟩ := NO.slice ol
  have HDR : Hid (DrawnRoots l) := ⟨hl0, hl5, fun x hx => (hp x hx).1⟩
  clear hp
  have OT := Lib.hid ot; have OL := Lib.hid ol; have HDT := Lib.hid hdt; clear ot ol
  have ht8 : t.ases.length ≤ 8 := hdt.2.1
  clear hdt
  go_wp2_with fail
  refine name_wp (fun W => Ext w2 W ∧ W.heap.size = w2.heap.size + 1 ∧ Blk W w2.heap.size 27 [.slice At_0 nt_0 ct_0, .slice At_1 nt_1 ct_1]) ⟨xe, by simp only [World.size_alloc], xb⟩ ?_
  rintro w3 ⟨e3, z3_, b5⟩
  obtain ⟨z3, z3'⟩ := le_both z3_
  clear z3_
  have BT := Lib.hid b5; clear b5
  have ea3 : Ext wa w3 := Ext.trans e2 e3
  have ew3 : Ext w w3 := Ext.trans ea ea3
  have OT3 := Lib.hid (OT.out.ext e3 (Nat.le_refl _)); have OL3 := Lib.hid (TrustRootSO_ext OL.out e3 (Nat.le_refl _))
  have HCB3 := Lib.hid ((D.of_ext e3 (by omega : g < w2.heap.size)).cur (d2.cur HCB.out))
  have hg3 : g < w3.heap.size := by omega
  have nb0 : ¬ w2.heap.size = g := by omega
  have mb0 : wa.heap.size ≤ w2.heap.size := by omega
  have b4_ := BT.out.ext (w' := w3) xe
  have lb4_ := b4_.lt
  obtain ⟨qb4__0, qb4__1⟩ := blk2 b4_
  have fb4__0 := b4_.frozen 0
  have fb4__1 := b4_.frozen 1
  clear b4_
  have hh3 : w2.heap.size ≤ w3.heap.size := by omega
  refine wp_region_LV 5 6 [] _ (E := DW g w.heap.size wa.heap.size) (w0 := w3) (G := fun τ => match τ with | 18 => some (fun v W => CertX t v) | _ => none)  (DW.refl _ _ _) (fun h k => DW.trans h k) (by kernel_rfl) (by kernel_rfl) rfl rfl (by kernel_rfl) (by kernel_rfl) (by kernel_rfl) (by kernel_rfl) (by kernel_rfl) (by kernel_rfl) (by kernel_rfl) (by kernel_rfl) (by kernel_rfl) (by intro i hi; cases hi) (by intro t φ hG; split at hG; all_goals first | (cases hG; done) | (cases Option.some.inj hG; intro v W W' hE hv; first | exact hv | exact hv.dw hE (by omega) (by omega))) (DW.drew (by exact DW.refl _ _ _ _)) ?_
  simp only [List.take_succ_cons, List.take_zero, List.drop_succ_cons, List.drop_zero, List.cons_append, List.nil_append]
  repeat' (first
    | ((with_reducible refine wpL_skip ?_ ?_ ?_)
       · rfl
       · rfl
       simp only [Act.put, List.setIfInBounds_toArray, List.set_cons_zero, List.set_cons_succ])
    | ((with_reducible refine wpL_quiet ?_ ?_ ?_ ?_)
       · rfl
       · rfl
       · rfl
       apply Exists.intro
       refine ⟨fun W hW hS => ?_, ?_⟩
       · have hC := (DW.facts hW).1
         go_simp
         first | done | (with_reducible rfl) | (rw [if_neg (by omega)]; exact ⟨rfl, rfl⟩) | rfl
       first | (with_reducible refine wpL_boolT ?_) | (with_reducible refine wpL_boolF ?_) | (with_reducible refine wpL_bool (fun hB => ?_) (fun hB => ?_)) | skip
       all_goals simp only [Act.put, List.setIfInBounds_toArray, List.set_cons_zero, List.set_cons_succ])
    | ((refine wpL_grow ?_ rfl rfl ?_ ?_)
       · rfl
       · intro W hW hS
         have hC := (DW.facts hW).1
         unfold growAt
         go_simp
         simp only [growUpon]
         first | (go_at_call 119; (with_reducible refine Calls.mono (spec_l19Cert g _ _ t l w1.heap.size w2.heap.size _ ((hW.cur (Nat.le_refl _) hg HCB3.out).cur) (by exact OT3.out.dw hW (by omega) (by omega)) (by exact NO.dw TrustRootOC.keeps OL3.out hW (by omega) (by omega)) (by omega) (Nat.le_trans hh3 hW.size) z2 ht8 hl0 hl5) ?_); rintro e w9 ⟨⟨x, rfl, hx⟩, d9⟩; exact ⟨_, rfl, DW.of_d d9, CertX.mk x hx⟩)
       intro v W' hW' hv
       first | ((with_reducible refine intro_at 18 _ ?_); obtain ⟨x18, hx18⟩ := hv) | (obtain ⟨A5, n5, c5, rfl, -⟩ := id hv; clear hv) | (obtain ⟨A5, n5, c5, rfl⟩ := NO.slice hv) | skip
       all_goals simp only [Act.put, List.setIfInBounds_toArray, List.set_cons_zero, List.set_cons_succ]))
  refine wpL_nil (fun w4 e4 hL => ?_)
  clear hL
  obtain ⟨s0, hs0, bs0⟩ := e4.shape hg _ _ _ (by omega) (by omega) (B0.out.ext ea3)
  obtain ⟨s0_0, s0_1, rfl⟩ := len2 hs0
  have BS0 := Lib.hid bs0; clear bs0
  obtain ⟨s1, hs1, bs1⟩ := e4.shape hg _ _ _ (by omega) (by omega) (B1.out.ext ea3)
  obtain ⟨s1_0, s1_1, s1_2, s1_3, s1_4, s1_5, s1_6, rfl⟩ := len7 hs1
  have BS1 := Lib.hid bs1; clear bs1
  have z4 := e4.size
  have ew4 : Ext w w4 := DW.ext e4 ew3 (by omega) (Nat.le_refl _)
  have d0_ := BS0.out.ext (w' := w4) xe
  have ld0_ := d0_.lt
  obtain ⟨qd0__0, qd0__1⟩ := blk2 d0_
  have fd0__0 := d0_.frozen 0
  have fd0__1 := d0_.frozen 1
  clear d0_
  refine ⟨undef, (w4.setCell ⟨w.heap.size, 0, none⟩ (.slice At_0 nt_0 ct_0)).setCell ⟨w.heap.size, 1, none⟩ (.slice At_1 nt_1 ct_1), .skip, .inr ⟨rfl, rfl⟩, ?run, ?_⟩
  case run =>
    go_simp
    first | done | rfl
  refine ⟨DW.set (DW.set (DW.refl _ _ _ _) (Nat.le_refl _) (by omega) _) (Nat.le_refl _) (by omega) _, ?_⟩
  refine name_wpl (fun W => Ext w W ∧ Kp wa.heap.size w4 W ∧ Blk W w.heap.size 27 [.slice At_0 nt_0 ct_0, .slice At_1 nt_1 ct_1] ∧ Blk W (w.heap.size + 1) 82 [s1_0, s1_1, s1_2, s1_3, s1_4, s1_5, s1_6]) ⟨xset, kp, by simpa using (BS0.out.set_ 0 (.slice At_0 nt_0 ct_0)).set_ 1 (.slice At_1 nt_1 ct_1), (BS1.out.far (by dsimp only; omega) _).far (by dsimp only; omega) _⟩ ?_
  clear ld0_ qd0__0 qd0__1 fd0__0 fd0__1
  rintro w5 ⟨e5, kp5, b0, b1⟩
  have V0 := Lib.hid b0; have V1 := Lib.hid b1; clear b0 b1
  have d0_ := V0.out.ext (w' := w5) xe
  have ld0_ := d0_.lt
  obtain ⟨qd0__0, qd0__1⟩ := blk2 d0_
  have fd0__0 := d0_.frozen 0
  have fd0__1 := d0_.frozen 1
  clear d0_
  have d1_ := V1.out.ext (w' := w5) xe
  have ld1_ := d1_.lt
  obtain ⟨qd1__0, qd1__1, qd1__2, qd1__3, qd1__4, qd1__5, qd1__6⟩ := blk7 d1_
  have fd1__0 := d1_.frozen 0
  have fd1__1 := d1_.frozen 1
  have fd1__2 := d1_.frozen 2
  have fd1__3 := d1_.frozen 3
  have fd1__4 := d1_.frozen 4
  have fd1__5 := d1_.frozen 5
  have fd1__6 := d1_.frozen 6
  clear d1_
  try simp only [List.drop_succ_cons, List.drop_zero]
  go_wp2_with fail
  refine bodyPost_ret (v := .tuple #[.agg #[.slice At_0 nt_0 ct_0, .slice At_1 nt_1 ct_1], .agg #[I x18.asn, I x18.keyDigest, I x18.rootVersion, I x18.notBefore, I x18.notAfter, I x18.sig.asn, I x18.sig.value]] ) (by simp [results, Try.results61, go_sem, *]) rfl ⟨⟨_, x18, rfl, t, ?_⟩, ?_⟩
  · exact TopologyO.kp (m := wa.heap.size) (OT3.out.dw e4 (by omega) (by omega)) (kp5.trans kp) (by omega) (by omega)
  · exact xset
end Go.Proofs.Ytmlfnfflpacchaa
