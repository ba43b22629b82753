/- The walk of the law FnCerts. No conditions. -/
import Derived.Test.YtmlfnfflpacchaaD8
import Derived.Test.YtmlfnfflpacchaaD11
import Derived.Test.YtmlfnfflpacchaaD14
import Derived.Test.YtmlfnfflpacchaaL19d
namespace Go.Proofs.Ytmlfnfflpacchaa
open Go.RowKit
set_option linter.unusedVariables false
/-- v is u. -/
inductive IsV (u : Value) : Value → Prop where
  | mk : IsV u u
set_option maxRecDepth 100000 in
set_option maxHeartbeats 1000000 in
theorem neqs_Certificate (x : DCertificate) (w : World) : (binOp .neq 82 (.agg #[I x.asn, I x.keyDigest, I x.rootVersion, I x.notBefore, I x.notAfter, I x.sig.asn, I x.sig.value]) (.agg #[I x.asn, I x.keyDigest, I x.rootVersion, I x.notBefore, I x.notAfter, I x.sig.asn, I x.sig.value])).run Try.prog w = .ok (.bool false) w := by
  have hp : Try.prog.stoodInHeld 82 = false := by kernel_rfl
  have ht : Try.prog.underlying 82 = some (.struct (Try.prog.fieldsOf 82)) := by kernel_rfl
  have hf := ht.symm.trans Try.underlying82
  injection hf with hf
  injection hf with hf
  rw [run_neq_struct, run_equalIn_struct w 9999 82 _ _ ht hp, hf]
  simp [Op.eqFields, go_sem, Try.underlying3]
theorem guard_Certificate : Try.prog.eqGuardType Try.prog.depth 82 = false := by kernel_rfl
theorem cert_facts {t : DTopology} {l : List DTrustRoot} {x : DCertificate} {now : Int} (h : certValid t l x now = true) : validChain t l = true ∧ x.notBefore ≤ now ∧ now ≤ x.notAfter := by
  unfold certValid certHead at h
  simp only [Bool.and_eq_true] at h
  exact ⟨h.1.1, inR_iff.1 h.1.2.2.2.2⟩
theorem issued_good {t : DTopology} {r b ver f n : Int} (hr : isAs t r = true) (hb : isAs t b = true) : verifySig t (issueCert t r b ver f n).sig (certData (issueCert t r b ver f n)) = true := by
  have e0 : issueCert t r b ver f n = ⟨r, digest [(asAt t r).key], ver, f, n, signAs t b [r, digest [(asAt t r).key], ver, f, n]⟩ := by unfold issueCert; rw [hr, hb]; rfl
  rw [e0]
  unfold verifySig signAs
  rw [if_pos hb]
  simp [hb, certData]
set_option maxRecDepth 100000 in
set_option maxHeartbeats 8000000 in
theorem certs_walk (vb : Value) (bs : List Nat) (w : World) (hb : ByteS w.heap.size w vb bs) : Calls Try.prog 6 #[vb] w fun e w' => e = .returned (.bool true) ∧ Ext w w' := by
  have HB := Lib.hid hb; clear hb
  go_enter Try.func6, Try.ntmps6
  go_wp2_with fail
  refine (laws_big vb bs w HB.out).mono ?_
  rintro e u0 ⟨rfl, e0⟩
  by_cases hn : 1048576 < bs.length
  · rw [show decide (1048576 < bs.length) = true by simpa using hn]
    go_wp2_with fail
    go_ret
    exact ⟨rfl, xe⟩
  rw [show decide (1048576 < bs.length) = false by simpa using hn]
  go_wp2_with fail
  refine (spec_DrawCertificateValid vb bs u0 (Sl.ext ByteAt.keeps HB.out xe) (by omega)).mono ?_
  rintro e w1 ⟨⟨vt1, vl1, x1, n1, rfl, ⟨t1, l1, ht1, hl1, hdt1, hdl1, hdx1⟩⟩, e1⟩
  obtain ⟨At1_0, nt1_0, ct1_0, At1_1, nt1_1, ct1_1, rfl, st1_0, st1_1⟩ := id ht1
  obtain ⟨lt1_0, kt1_0, mt1_0⟩ := st1_0.len
  subst lt1_0
  unfold maxLen at mt1_0
  obtain ⟨lt1_1, kt1_1, mt1_1⟩ := st1_1.len
  subst lt1_1
  unfold maxLen at mt1_1
  have Rt1 := Lib.hid ht1; clear ht1
  have St1_0 := Lib.hid st1_0; clear st1_0
  have St1_1 := Lib.hid st1_1; clear st1_1
  obtain ⟨Al1, nl1, cl1, rfl, ll1, kl1, ml1, -⟩ := id hl1
  subst ll1
  unfold maxLen at ml1
  have Rl1 := Lib.hid hl1; clear hl1
  go_wp2_with fail
  refine name_calls (fun W => Ext w1 W ∧ W.heap.size = w1.heap.size + 1 + 1 ∧ Blk W (w1.heap.size) 27 [.slice At1_0 t1.ases.length ct1_0, .slice At1_1 t1.links.length ct1_1] ∧ Blk W (w1.heap.size + 1) 82 [I x1.asn, I x1.keyDigest, I x1.rootVersion, I x1.notBefore, I x1.notAfter, I x1.sig.asn, I x1.sig.value]) ⟨xe, by first | rfl | simp only [World.size_alloc], xb, xb⟩ ?_
  rintro u1 ⟨f1, z1, bt1, bx1⟩
  have Kt1 := Lib.hid bt1; have Kx1 := Lib.hid bx1; clear bt1 bx1
  have eu1 : Ext u0 u1 := Ext.trans e1 f1
  refine (spec_DrawIssueCertificate vb bs u1 (Sl.ext ByteAt.keeps HB.out xe) (by omega)).mono ?_
  rintro e w2 ⟨⟨vt2, qr, qb, qv, qf, qn, rfl, hqb, t2, ht2⟩, e2⟩
  obtain ⟨At2_0, nt2_0, ct2_0, At2_1, nt2_1, ct2_1, rfl, st2_0, st2_1⟩ := id ht2
  obtain ⟨lt2_0, kt2_0, mt2_0⟩ := st2_0.len
  subst lt2_0
  unfold maxLen at mt2_0
  obtain ⟨lt2_1, kt2_1, mt2_1⟩ := st2_1.len
  subst lt2_1
  unfold maxLen at mt2_1
  have Rt2 := Lib.hid ht2; clear ht2
  have St2_0 := Lib.hid st2_0; clear st2_0
  have St2_1 := Lib.hid st2_1; clear st2_1
  go_wp2_with fail
  refine name_calls (fun W => Ext w2 W ∧ W.heap.size = w2.heap.size + 1 ∧ Blk W (w2.heap.size) 27 [.slice At2_0 t2.ases.length ct2_0, .slice At2_1 t2.links.length ct2_1]) ⟨xe, by first | rfl | simp only [World.size_alloc], xb⟩ ?_
  rintro u2 ⟨f2, z2, bt2⟩
  have Kt2 := Lib.hid bt2; clear bt2
  have eu2 : Ext u0 u2 := Ext.trans eu1 (Ext.trans e2 f2)
  refine (spec_DrawFindCertificate vb bs u2 (Sl.ext ByteAt.keeps HB.out xe) (by omega)).mono ?_
  rintro e w3 ⟨⟨vt3, vl3, vm3, r3, n3, rfl, ⟨t3, l3, m3, ht3, hl3, hm3, -, -⟩⟩, e3⟩
  obtain ⟨At3_0, nt3_0, ct3_0, At3_1, nt3_1, ct3_1, rfl, st3_0, st3_1⟩ := id ht3
  obtain ⟨lt3_0, kt3_0, mt3_0⟩ := st3_0.len
  subst lt3_0
  unfold maxLen at mt3_0
  obtain ⟨lt3_1, kt3_1, mt3_1⟩ := st3_1.len
  subst lt3_1
  unfold maxLen at mt3_1
  have Rt3 := Lib.hid ht3; clear ht3
  have St3_0 := Lib.hid st3_0; clear st3_0
  have St3_1 := Lib.hid st3_1; clear st3_1
  obtain ⟨Al3, nl3, cl3, rfl, ll3, kl3, ml3, -⟩ := id hl3
  subst ll3
  unfold maxLen at ml3
  have Rl3 := Lib.hid hl3; clear hl3
  obtain ⟨Am3, nm3, cm3, rfl, lm3, km3, mm3, -⟩ := id hm3
  subst lm3
  unfold maxLen at mm3
  have Rm3 := Lib.hid hm3; clear hm3
  go_wp2_with fail
  refine name_calls (fun W => Ext w3 W ∧ W.heap.size = w3.heap.size + 1 ∧ Blk W (w3.heap.size) 27 [.slice At3_0 t3.ases.length ct3_0, .slice At3_1 t3.links.length ct3_1]) ⟨xe, by first | rfl | simp only [World.size_alloc], xb⟩ ?_
  rintro u3 ⟨f3, z3, bt3⟩
  have Kt3 := Lib.hid bt3; clear bt3
  have eu3 : Ext u0 u3 := Ext.trans eu2 (Ext.trans e3 f3)
  refine (spec_DrawCertifiedASes vb bs u3 (Sl.ext ByteAt.keeps HB.out xe) (by omega)).mono ?_
  rintro e w4 ⟨⟨vt4, vl4, vm4, n4, rfl, ⟨t4, l4, m4, ht4, hl4, hm4, -, -⟩⟩, e4⟩
  obtain ⟨At4_0, nt4_0, ct4_0, At4_1, nt4_1, ct4_1, rfl, st4_0, st4_1⟩ := id ht4
  obtain ⟨lt4_0, kt4_0, mt4_0⟩ := st4_0.len
  subst lt4_0
  unfold maxLen at mt4_0
  obtain ⟨lt4_1, kt4_1, mt4_1⟩ := st4_1.len
  subst lt4_1
  unfold maxLen at mt4_1
  have Rt4 := Lib.hid ht4; clear ht4
  have St4_0 := Lib.hid st4_0; clear st4_0
  have St4_1 := Lib.hid st4_1; clear st4_1
  obtain ⟨Al4, nl4, cl4, rfl, ll4, kl4, ml4, -⟩ := id hl4
  subst ll4
  unfold maxLen at ml4
  have Rl4 := Lib.hid hl4; clear hl4
  obtain ⟨Am4, nm4, cm4, rfl, lm4, km4, mm4, -⟩ := id hm4
  subst lm4
  unfold maxLen at mm4
  have Rm4 := Lib.hid hm4; clear hm4
  go_wp2_with fail
  refine name_calls (fun W => Ext w4 W ∧ W.heap.size = w4.heap.size + 1 ∧ Blk W (w4.heap.size) 27 [.slice At4_0 t4.ases.length ct4_0, .slice At4_1 t4.links.length ct4_1]) ⟨xe, by first | rfl | simp only [World.size_alloc], xb⟩ ?_
  rintro u4 ⟨f4, z4, bt4⟩
  have Kt4 := Lib.hid bt4; clear bt4
  have eu4 : Ext u0 u4 := Ext.trans eu3 (Ext.trans e4 f4)
  refine (spec_DrawFormatCertificate vb bs u4 (Sl.ext ByteAt.keeps HB.out xe) (by omega)).mono ?_
  rintro e w5 ⟨⟨vt5, x5, rfl, ⟨t5, ht5⟩⟩, e5⟩
  obtain ⟨At5_0, nt5_0, ct5_0, At5_1, nt5_1, ct5_1, rfl, st5_0, st5_1⟩ := id ht5
  obtain ⟨lt5_0, kt5_0, mt5_0⟩ := st5_0.len
  subst lt5_0
  unfold maxLen at mt5_0
  obtain ⟨lt5_1, kt5_1, mt5_1⟩ := st5_1.len
  subst lt5_1
  unfold maxLen at mt5_1
  have Rt5 := Lib.hid ht5; clear ht5
  have St5_0 := Lib.hid st5_0; clear st5_0
  have St5_1 := Lib.hid st5_1; clear st5_1
  have JP := Lib.hid (Kt2.out.ext (w' := w5) (Ext.trans e3 (Ext.trans f3 (Ext.trans e4 (Ext.trans f4 e5)))))
  have p2_ := JP.out.ext (w' := w5) xe
  have lp2_ := p2_.lt
  obtain ⟨qp2__0, qp2__1⟩ := blk2 p2_
  have fp2__0 := p2_.frozen 0
  have fp2__1 := p2_.frozen 1
  clear p2_
  go_wp2_with fail
  refine name_calls (fun W => Ext w5 W ∧ W.heap.size = w5.heap.size + 1 + 1 ∧ Blk W (w5.heap.size) 27 [.slice At5_0 t5.ases.length ct5_0, .slice At5_1 t5.links.length ct5_1] ∧ Blk W (w5.heap.size + 1) 82 [I x5.asn, I x5.keyDigest, I x5.rootVersion, I x5.notBefore, I x5.notAfter, I x5.sig.asn, I x5.sig.value]) ⟨xe, by first | rfl | simp only [World.size_alloc], xb, xb⟩ ?_
  rintro u5 ⟨f5, z5, bt5, bx5⟩
  have Kt5 := Lib.hid bt5; have Kx5 := Lib.hid bx5; clear bt5 bx5
  have eu5 : Ext u0 u5 := Ext.trans eu4 (Ext.trans e5 f5)
  have g5 : Ext w5 u5 := f5
  have g4 : Ext w4 u5 := Ext.trans f4 (Ext.trans e5 g5)
  have g3 : Ext w3 u5 := Ext.trans f3 (Ext.trans e4 g4)
  have g2 : Ext w2 u5 := Ext.trans f2 (Ext.trans e3 g3)
  have g1 : Ext w1 u5 := Ext.trans f1 (Ext.trans e2 g2)
  clear lp2_ qp2__0 qp2__1 fp2__0 fp2__1 JP
  refine (impl_IssueCertificate _ qr qb qv qf qn t2 u5 (by exact Rt2.out.ext g2)).mono ?_
  rintro e w6 ⟨rfl, e6⟩
  obtain ⟨z, hz⟩ : ∃ z, issueCert t2 qr qb qv qf qn = z := ⟨_, rfl⟩
  rw [hz]
  have HZ := Lib.hid hz; clear hz
  go_wp2_with fail
  refine name_wp (fun W => Ext u5 W ∧ W.heap.size = w6.heap.size + 1 ∧ Blk W w6.heap.size 82 [I z.asn, I z.keyDigest, I z.rootVersion, I z.notBefore, I z.notAfter, I z.sig.asn, I z.sig.value]) ⟨xe, by simp only [World.size_alloc], xb⟩ ?_
  rintro u6 ⟨f6, z6, bz⟩
  have Jz := Lib.hid bz; clear bz
  have k1 : Ext w1 u6 := Ext.trans g1 f6
  have k2 : Ext w2 u6 := Ext.trans g2 f6
  have k3 : Ext w3 u6 := Ext.trans g3 f6
  have k4 : Ext w4 u6 := Ext.trans g4 f6
  have k5 : Ext w5 u6 := Ext.trans g5 f6
  have eu6 : Ext u0 u6 := Ext.trans eu5 f6
  have Jt1 := Lib.hid (Kt1.out.ext (w' := u6) (Ext.trans e2 k2))
  have Jx1 := Lib.hid (Kx1.out.ext (w' := u6) (Ext.trans e2 k2))
  have Jt2 := Lib.hid (Kt2.out.ext (w' := u6) (Ext.trans e3 k3))
  have Jt3 := Lib.hid (Kt3.out.ext (w' := u6) (Ext.trans e4 k4))
  have Jt4 := Lib.hid (Kt4.out.ext (w' := u6) (Ext.trans e5 k5))
  have Jt5 := Lib.hid (Kt5.out.ext (w' := u6) f6)
  have Jx5 := Lib.hid (Kx5.out.ext (w' := u6) f6)
  have St1 := Lib.hid (Rt1.out.ext k1); clear Rt1
  have Sl1 := Lib.hid (TrustRootS.ext Rl1.out k1); clear Rl1
  have St2 := Lib.hid (Rt2.out.ext k2); clear Rt2
  have St3 := Lib.hid (Rt3.out.ext k3); clear Rt3
  have Sl3 := Lib.hid (TrustRootS.ext Rl3.out k3); clear Rl3
  have Sm3 := Lib.hid (CertificateS.ext Rm3.out k3); clear Rm3
  have St4 := Lib.hid (Rt4.out.ext k4); clear Rt4
  have Sl4 := Lib.hid (TrustRootS.ext Rl4.out k4); clear Rl4
  have Sm4 := Lib.hid (CertificateS.ext Rm4.out k4); clear Rm4
  have St5 := Lib.hid (Rt5.out.ext k5); clear Rt5
  have ltz : w6.heap.size < u6.heap.size := by omega
  have bt1_ := Jt1.out.ext (w' := u6) xe
  have lbt1_ := bt1_.lt
  obtain ⟨qbt1__0, qbt1__1⟩ := blk2 bt1_
  have fbt1__0 := bt1_.frozen 0
  have fbt1__1 := bt1_.frozen 1
  clear bt1_
  have bx1_ := Jx1.out.ext (w' := u6) xe
  have lbx1_ := bx1_.lt
  obtain ⟨qbx1__0, qbx1__1, qbx1__2, qbx1__3, qbx1__4, qbx1__5, qbx1__6⟩ := blk7 bx1_
  have fbx1__0 := bx1_.frozen 0
  have fbx1__1 := bx1_.frozen 1
  have fbx1__2 := bx1_.frozen 2
  have fbx1__3 := bx1_.frozen 3
  have fbx1__4 := bx1_.frozen 4
  have fbx1__5 := bx1_.frozen 5
  have fbx1__6 := bx1_.frozen 6
  clear bx1_
  have bt2_ := Jt2.out.ext (w' := u6) xe
  have lbt2_ := bt2_.lt
  obtain ⟨qbt2__0, qbt2__1⟩ := blk2 bt2_
  have fbt2__0 := bt2_.frozen 0
  have fbt2__1 := bt2_.frozen 1
  clear bt2_
  have bt3_ := Jt3.out.ext (w' := u6) xe
  have lbt3_ := bt3_.lt
  obtain ⟨qbt3__0, qbt3__1⟩ := blk2 bt3_
  have fbt3__0 := bt3_.frozen 0
  have fbt3__1 := bt3_.frozen 1
  clear bt3_
  have bt4_ := Jt4.out.ext (w' := u6) xe
  have lbt4_ := bt4_.lt
  obtain ⟨qbt4__0, qbt4__1⟩ := blk2 bt4_
  have fbt4__0 := bt4_.frozen 0
  have fbt4__1 := bt4_.frozen 1
  clear bt4_
  have bt5_ := Jt5.out.ext (w' := u6) xe
  have lbt5_ := bt5_.lt
  obtain ⟨qbt5__0, qbt5__1⟩ := blk2 bt5_
  have fbt5__0 := bt5_.frozen 0
  have fbt5__1 := bt5_.frozen 1
  clear bt5_
  have bx5_ := Jx5.out.ext (w' := u6) xe
  have lbx5_ := bx5_.lt
  obtain ⟨qbx5__0, qbx5__1, qbx5__2, qbx5__3, qbx5__4, qbx5__5, qbx5__6⟩ := blk7 bx5_
  have fbx5__0 := bx5_.frozen 0
  have fbx5__1 := bx5_.frozen 1
  have fbx5__2 := bx5_.frozen 2
  have fbx5__3 := bx5_.frozen 3
  have fbx5__4 := bx5_.frozen 4
  have fbx5__5 := bx5_.frozen 5
  have fbx5__6 := bx5_.frozen 6
  clear bx5_
  have bz_ := Jz.out.ext (w' := u6) xe
  have lbz_ := bz_.lt
  obtain ⟨qbz__0, qbz__1, qbz__2, qbz__3, qbz__4, qbz__5, qbz__6⟩ := blk7 bz_
  have fbz__0 := bz_.frozen 0
  have fbz__1 := bz_.frozen 1
  have fbz__2 := bz_.frozen 2
  have fbz__3 := bz_.frozen 3
  have fbz__4 := bz_.frozen 4
  have fbz__5 := bz_.frozen 5
  have fbz__6 := bz_.frozen 6
  clear bz_
  clear z1 z2 z3 z4 z5 z6
  have nb9 : ∀ b : Bool, (b != b) = false := fun b => by cases b <;> rfl
  have ni9 : ∀ i : Int, (i != i) = false := fun i => by simp
  have hqn := fun W => neqs_Certificate z W
  have hgd := guard_Certificate
  refine wp_region_L (E := Ext) (w0 := u6) (G := fun τ => match τ with | 75 => some (fun v W => IsV (.bool (certValid t1 l1 x1 n1)) v) | 80 => some (fun v W => IsV (.bool (certValid t1 l1 x1 n1)) v) | 90 => some (fun v W => IsV (.agg #[I z.asn, I z.keyDigest, I z.rootVersion, I z.notBefore, I z.notAfter, I z.sig.asn, I z.sig.value]) v) | 99 => some (fun v W => IsV (I (findCert t3 l3 m3 r3 n3)) v) | 105 => some (fun v W => IsV (I (findCert t3 l3 m3 r3 n3)) v) | 113 => some (fun v W => IsV (I (certASes t4 l4 m4 n4)) v) | 118 => some (fun v W => IsV (I (certASes t4 l4 m4 n4)) v) | 124 => some (fun v W => IsV (.string (fmtCert t5 x5)) v) | 127 => some (fun v W => IsV (.string (fmtCert t5 x5)) v) | 132 => some (fun v W => IntS W.heap.size W v (certData x5)) | 134 => some (fun v W => IntS W.heap.size W v (certData x5)) | 135 => some (fun v W => IsV (.bool true) v) | _ => none) Ext.refl (fun h k => Ext.trans h k) (by kernel_rfl) (by kernel_rfl) xg (Ext.drew (by exact Ext.refl _)) ?_
  try simp only [List.append_eq, List.cons_append, List.nil_append]
  repeat' (first
    | ((with_reducible refine wpL_skip ?_ ?_ ?_)
       · rfl
       · rfl
       simp only [Act.put, List.setIfInBounds_toArray, List.set_cons_zero, List.set_cons_succ])
    | ((with_reducible refine wpL_quiet ?_ ?_ ?_ ?_)
       · rfl
       · rfl
       · rfl
       apply Exists.intro
       refine ⟨fun W hW hS => ?_, ?_⟩
       · have hC := (Ext.facts hW).1
         go_simp
         first | done | (with_reducible rfl) | (rw [if_neg (by omega)]; exact ⟨rfl, rfl⟩) | rfl
       first | (with_reducible refine wpL_boolT ?_) | (with_reducible refine wpL_boolF ?_) | (with_reducible refine wpL_bool (fun hB => ?_) (fun hB => ?_)) | skip
       all_goals simp only [Act.put, List.setIfInBounds_toArray, List.set_cons_zero, List.set_cons_succ])
    | ((refine wpL_grow ?_ rfl rfl ?_ ?_)
       · rfl
       · intro W hW hS
         have hC := (Ext.facts hW).1
         unfold growAt
         go_simp
         simp only [growUpon]
         first | (go_at_call 63; (with_reducible refine Calls.mono (impl_CertificateValid _ _ x1 n1 t1 l1 _ (by exact St1.out.ext xe) (by exact TrustRootS.ext Sl1.out xe)) ?_); rintro e w9_ ⟨rfl, e9⟩; exact ⟨_, rfl, e9, IsV.mk⟩) | (go_at_call 64; (with_reducible refine Calls.mono (spec_CertificateValid _ _ x1 n1 t1 l1 _ (by exact St1.out.ext xe) (by exact TrustRootS.ext Sl1.out xe)) ?_); rintro e w9_ ⟨rfl, e9⟩; exact ⟨_, rfl, e9, IsV.mk⟩) | (go_at_call 65; (with_reducible refine Calls.mono (spec_IssueCertificate _ qr qb qv qf qn t2 _ (by exact St2.out.ext xe)) ?_); rintro e w9_ ⟨rfl, e9⟩; exact ⟨_, rfl, e9, by rw [HZ.out]; exact IsV.mk⟩) | (go_at_call 66; (with_reducible refine Calls.mono (impl_FindCertificate _ _ _ r3 n3 t3 l3 m3 _ (by exact St3.out.ext xe) (by exact TrustRootS.ext Sl3.out xe) (by exact CertificateS.ext Sm3.out xe)) ?_); rintro e w9_ ⟨rfl, e9⟩; exact ⟨_, rfl, e9, IsV.mk⟩) | (go_at_call 67; (with_reducible refine Calls.mono (spec_FindCertificate _ _ _ r3 n3 t3 l3 m3 _ (by exact St3.out.ext xe) (by exact TrustRootS.ext Sl3.out xe) (by exact CertificateS.ext Sm3.out xe)) ?_); rintro e w9_ ⟨rfl, e9⟩; exact ⟨_, rfl, e9, IsV.mk⟩) | (go_at_call 68; (with_reducible refine Calls.mono (impl_CertifiedASes _ _ _ n4 t4 l4 m4 _ (by exact St4.out.ext xe) (by exact TrustRootS.ext Sl4.out xe) (by exact CertificateS.ext Sm4.out xe)) ?_); rintro e w9_ ⟨rfl, e9⟩; exact ⟨_, rfl, e9, IsV.mk⟩) | (go_at_call 69; (with_reducible refine Calls.mono (spec_CertifiedASes _ _ _ n4 t4 l4 m4 _ (by exact St4.out.ext xe) (by exact TrustRootS.ext Sl4.out xe) (by exact CertificateS.ext Sm4.out xe)) ?_); rintro e w9_ ⟨rfl, e9⟩; exact ⟨_, rfl, e9, IsV.mk⟩) | (go_at_call 70; (with_reducible refine Calls.mono (impl_FormatCertificate _ x5 t5 _ (by exact St5.out.ext xe)) ?_); rintro e w9_ ⟨rfl, e9⟩; exact ⟨_, rfl, e9, IsV.mk⟩) | (go_at_call 71; (with_reducible refine Calls.mono (spec_FormatCertificate _ x5 t5 _ (by exact St5.out.ext xe)) ?_); rintro e w9_ ⟨rfl, e9⟩; exact ⟨_, rfl, e9, IsV.mk⟩) | (go_at_call 72; (with_reducible refine Calls.mono (impl_CertificateData x5 _) ?_); rintro e w9_ ⟨v9, rfl, o9, e9⟩; exact ⟨_, rfl, e9, IntSO_rd o9⟩) | (go_at_call 73; (with_reducible refine Calls.mono (spec_CertificateData x5 _) ?_); rintro e w9_ ⟨v9, rfl, o9, e9⟩; exact ⟨_, rfl, e9, IntSO_rd o9⟩) | (have ha : IntS W.heap.size W _ (certData x5) := hS 132 (by decide); have hb : IntS W.heap.size W _ (certData x5) := hS 134 (by decide); go_at_call 33; (with_reducible refine Calls.mono (laws_sameInts _ _ (certData x5) _ ha hb) ?_); rintro e w9_ ⟨rfl, e9⟩; exact ⟨_, rfl, e9, IsV.mk⟩)
       intro v W' hW' hv
       first | ((with_reducible refine intro_at 75 _ ?_); cases hv) | ((with_reducible refine intro_at 80 _ ?_); cases hv) | ((with_reducible refine intro_at 90 _ ?_); cases hv) | ((with_reducible refine intro_at 99 _ ?_); cases hv) | ((with_reducible refine intro_at 105 _ ?_); cases hv) | ((with_reducible refine intro_at 113 _ ?_); cases hv) | ((with_reducible refine intro_at 118 _ ?_); cases hv) | ((with_reducible refine intro_at 124 _ ?_); cases hv) | ((with_reducible refine intro_at 127 _ ?_); cases hv) | ((with_reducible refine intro_at 132 _ ?_); skip) | ((with_reducible refine intro_at 134 _ ?_); skip) | ((with_reducible refine intro_at 135 _ ?_); cases hv) | (obtain ⟨A5, n5, c5, rfl, -⟩ := id hv; clear hv) | (obtain ⟨A5, n5, c5, rfl⟩ := NO.slice hv) | skip
       all_goals simp only [Act.put, List.setIfInBounds_toArray, List.set_cons_zero, List.set_cons_succ]))
  refine wpL_nil (fun w10 e10 hL => ?_)
  clear hL hqn hgd
  go_wp2_with fail
  have z10 := e10.size
  clear lbt1_ qbt1__0 fbt1__0 qbt1__1 fbt1__1 lbx1_ qbx1__0 fbx1__0 qbx1__1 fbx1__1 qbx1__2 fbx1__2 qbx1__3 fbx1__3 qbx1__4 fbx1__4 qbx1__5 fbx1__5 qbx1__6 fbx1__6 lbt2_ qbt2__0 fbt2__0 qbt2__1 fbt2__1 lbt3_ qbt3__0 fbt3__0 qbt3__1 fbt3__1 lbt4_ qbt4__0 fbt4__0 qbt4__1 fbt4__1 lbt5_ qbt5__0 fbt5__0 qbt5__1 fbt5__1 lbx5_ qbx5__0 fbx5__0 qbx5__1 fbx5__1 qbx5__2 fbx5__2 qbx5__3 fbx5__3 qbx5__4 fbx5__4 qbx5__5 fbx5__5 qbx5__6 fbx5__6 lbz_ qbz__0 fbz__0 qbz__1 fbz__1 qbz__2 fbz__2 qbz__3 fbz__3 qbz__4 fbz__4 qbz__5 fbz__5 qbz__6 fbz__6
  have Jt1 := Lib.hid (Jt1.out.ext (w' := w10) e10)
  have Jx1 := Lib.hid (Jx1.out.ext (w' := w10) e10)
  have Jt2 := Lib.hid (Jt2.out.ext (w' := w10) e10)
  have Jt3 := Lib.hid (Jt3.out.ext (w' := w10) e10)
  have Jt4 := Lib.hid (Jt4.out.ext (w' := w10) e10)
  have Jt5 := Lib.hid (Jt5.out.ext (w' := w10) e10)
  have Jx5 := Lib.hid (Jx5.out.ext (w' := w10) e10)
  have Jz := Lib.hid (Jz.out.ext (w' := w10) e10)
  have St1 := Lib.hid (St1.out.ext (w' := w10) e10); have Sl1 := Lib.hid (TrustRootS.ext (w' := w10) Sl1.out e10); have St2 := Lib.hid (St2.out.ext (w' := w10) e10)
  have eu10 : Ext u0 w10 := Ext.trans eu6 e10
  have HMO := Lib.hid (cert_more (l := l1) (now := n1) hdt1.2.2.2 hdt1.2.1 hdx1)
  obtain ⟨y, hy⟩ : ∃ y : DCertificate, { x1 with notAfter := wrap64 (x1.notAfter + 1) } = y := ⟨_, rfl⟩
  have HY : Hid (certValid t1 l1 y n1 = false) := by
    unfold Hid
    rw [← hy]
    exact HMO.out
  clear HMO
  have HYE := Lib.hid hy; clear hy
  have HDX := Lib.hid hdx1; clear hdx1
  have HDT := Lib.hid hdt1; clear hdt1
  cases hv : certValid t1 l1 x1 n1
  case' false =>
    have HV := Lib.hid hv; clear hv
    have bt1_ := Jt1.out.ext (w' := w10) xe
    have lbt1_ := bt1_.lt
    obtain ⟨qbt1__0, qbt1__1⟩ := blk2 bt1_
    have fbt1__0 := bt1_.frozen 0
    have fbt1__1 := bt1_.frozen 1
    clear bt1_
    have bx1_ := Jx1.out.ext (w' := w10) xe
    have lbx1_ := bx1_.lt
    obtain ⟨qbx1__0, qbx1__1, qbx1__2, qbx1__3, qbx1__4, qbx1__5, qbx1__6⟩ := blk7 bx1_
    have fbx1__0 := bx1_.frozen 0
    have fbx1__1 := bx1_.frozen 1
    have fbx1__2 := bx1_.frozen 2
    have fbx1__3 := bx1_.frozen 3
    have fbx1__4 := bx1_.frozen 4
    have fbx1__5 := bx1_.frozen 5
    have fbx1__6 := bx1_.frozen 6
    clear bx1_
    refine wp_region_L (E := Ext) (w0 := w10) (G := fun τ => match τ with | 142 => some (fun v W => IsV (.bool false) v) | _ => none) Ext.refl (fun h k => Ext.trans h k) (by kernel_rfl) (by kernel_rfl) xg (Ext.drew (by exact Ext.refl _)) ?_
    repeat' (first
      | ((with_reducible refine wpL_skip ?_ ?_ ?_)
         · rfl
         · rfl
         simp only [Act.put, List.setIfInBounds_toArray, List.set_cons_zero, List.set_cons_succ])
      | ((with_reducible refine wpL_quiet ?_ ?_ ?_ ?_)
         · rfl
         · rfl
         · rfl
         apply Exists.intro
         refine ⟨fun W hW hS => ?_, ?_⟩
         · have hC := (Ext.facts hW).1
           go_simp
           first | done | (with_reducible rfl) | (rw [if_neg (by omega)]; exact ⟨rfl, rfl⟩) | rfl
         first | (with_reducible refine wpL_boolT ?_) | (with_reducible refine wpL_boolF ?_) | (with_reducible refine wpL_bool (fun hB => ?_) (fun hB => ?_)) | skip
         all_goals simp only [Act.put, List.setIfInBounds_toArray, List.set_cons_zero, List.set_cons_succ])
      | ((refine wpL_grow ?_ rfl rfl ?_ ?_)
         · rfl
         · intro W hW hS
           have hC := (Ext.facts hW).1
           unfold growAt
           go_simp
           simp only [growUpon]
           first | (go_at_call 63; (with_reducible refine Calls.mono (impl_CertificateValid _ _ x1 n1 t1 l1 _ (by exact St1.out.ext xe) (by exact TrustRootS.ext Sl1.out xe)) ?_); rintro e w9_ ⟨rfl, e9⟩; exact ⟨_, rfl, e9, by rw [HV.out]; exact IsV.mk⟩)
         intro v W' hW' hv
         first | ((with_reducible refine intro_at 142 _ ?_); cases hv) | (obtain ⟨A5, n5, c5, rfl, -⟩ := id hv; clear hv) | (obtain ⟨A5, n5, c5, rfl⟩ := NO.slice hv) | skip
         all_goals simp only [Act.put, List.setIfInBounds_toArray, List.set_cons_zero, List.set_cons_succ]))
    refine wpL_nil (fun w11 e11 hL => ?_)
    clear hL
    clear lbt1_ qbt1__0 fbt1__0 qbt1__1 fbt1__1 lbx1_ qbx1__0 fbx1__0 qbx1__1 fbx1__1 qbx1__2 fbx1__2 qbx1__3 fbx1__3 qbx1__4 fbx1__4 qbx1__5 fbx1__5 qbx1__6 fbx1__6
    have bt1_ := Jt1.out.ext (w' := w11) xe
    have lbt1_ := bt1_.lt
    obtain ⟨qbt1__0, qbt1__1⟩ := blk2 bt1_
    have fbt1__0 := bt1_.frozen 0
    have fbt1__1 := bt1_.frozen 1
    clear bt1_
    have bx1_ := Jx1.out.ext (w' := w11) xe
    have lbx1_ := bx1_.lt
    obtain ⟨qbx1__0, qbx1__1, qbx1__2, qbx1__3, qbx1__4, qbx1__5, qbx1__6⟩ := blk7 bx1_
    have fbx1__0 := bx1_.frozen 0
    have fbx1__1 := bx1_.frozen 1
    have fbx1__2 := bx1_.frozen 2
    have fbx1__3 := bx1_.frozen 3
    have fbx1__4 := bx1_.frozen 4
    have fbx1__5 := bx1_.frozen 5
    have fbx1__6 := bx1_.frozen 6
    clear bx1_
    go_wp2_with fail
    refine name_wp (fun W => Ext w10 W ∧ W.heap.size = w11.heap.size + 1 ∧ Blk W w11.heap.size 82 [I y.asn, I y.keyDigest, I y.rootVersion, I y.notBefore, I y.notAfter, I y.sig.asn, I y.sig.value]) ⟨xe, by simp only [World.size_alloc], by (rw [← HYE.out]; exact xb)⟩ ?_
  case' true =>
    have HF := Lib.hid (cert_facts hv)
    obtain ⟨ha1, hk1, -⟩ := cert_parts hv
    have HV := Lib.hid hv; clear hv
    have HK := Lib.hid hk1; clear hk1
    obtain ⟨k, hxk, hkl⟩ := isAs_nat ha1
    clear ha1
    have HXK := Lib.hid hxk
    obtain ⟨bk, off, hA, hbk, hkk, hck⟩ := (St1_0.out.ext (w' := w10) (Ext.trans k1 e10)).at_ hkl
    rw [HXK.out, asAt_nat t1 k hkl] at HK
    generalize t1.ases[k] = sk at *
    obtain ⟨ck0, ck1, ck2⟩ := hck
    subst hA
    have i0 : (0 : Int) ≤ x1.asn := by omega
    have i1 : x1.asn < (t1.ases.length : Int) := by omega
    have i2 : x1.asn.toNat = k := by omega
    have i3 : ¬ n1 < x1.notBefore := by have := HF.out.2.1; omega
    have i4 : ¬ x1.notAfter < n1 := by have := HF.out.2.2; omega
    clear hxk
    have bt1_ := Jt1.out.ext (w' := w10) xe
    have lbt1_ := bt1_.lt
    obtain ⟨qbt1__0, qbt1__1⟩ := blk2 bt1_
    have fbt1__0 := bt1_.frozen 0
    have fbt1__1 := bt1_.frozen 1
    clear bt1_
    have bx1_ := Jx1.out.ext (w' := w10) xe
    have lbx1_ := bx1_.lt
    obtain ⟨qbx1__0, qbx1__1, qbx1__2, qbx1__3, qbx1__4, qbx1__5, qbx1__6⟩ := blk7 bx1_
    have fbx1__0 := bx1_.frozen 0
    have fbx1__1 := bx1_.frozen 1
    have fbx1__2 := bx1_.frozen 2
    have fbx1__3 := bx1_.frozen 3
    have fbx1__4 := bx1_.frozen 4
    have fbx1__5 := bx1_.frozen 5
    have fbx1__6 := bx1_.frozen 6
    clear bx1_
    refine wp_region_L (E := Ext) (w0 := w10) (G := fun τ => match τ with | 142 => some (fun v W => IsV (.bool true) v) | 157 => some (fun v W => IsV (.bool true) v) | 168 => some (fun v W => IntS W.heap.size W v ([sk.key])) | 169 => some (fun v W => IsV (I x1.keyDigest) v) | _ => none) Ext.refl (fun h k => Ext.trans h k) (by kernel_rfl) (by kernel_rfl) xg (Ext.drew (by exact Ext.refl _)) ?_
    repeat' (first
      | ((with_reducible refine wpL_skip ?_ ?_ ?_)
         · rfl
         · rfl
         simp only [Act.put, List.setIfInBounds_toArray, List.set_cons_zero, List.set_cons_succ])
      | ((with_reducible refine wpL_quiet ?_ ?_ ?_ ?_)
         · rfl
         · rfl
         · rfl
         apply Exists.intro
         refine ⟨fun W hW hS => ?_, ?_⟩
         · have hC := (Ext.facts hW).1
           go_simp
           first | done | (with_reducible rfl) | (rw [if_neg (by omega)]; exact ⟨rfl, rfl⟩) | rfl
         first | (with_reducible refine wpL_boolT ?_) | (with_reducible refine wpL_boolF ?_) | (with_reducible refine wpL_bool (fun hB => ?_) (fun hB => ?_)) | skip
         all_goals simp only [Act.put, List.setIfInBounds_toArray, List.set_cons_zero, List.set_cons_succ])
      | ((refine wpL_grow ?_ rfl rfl ?_ ?_)
         · rfl
         · intro W hW hS
           have hC := (Ext.facts hW).1
           unfold growAt
           go_simp
           simp only [growUpon]
           first | (go_at_call 63; (with_reducible refine Calls.mono (impl_CertificateValid _ _ x1 n1 t1 l1 _ (by exact St1.out.ext xe) (by exact TrustRootS.ext Sl1.out xe)) ?_); rintro e w9_ ⟨rfl, e9⟩; exact ⟨_, rfl, e9, by rw [HV.out]; exact IsV.mk⟩) | (go_at_call 14; (with_reducible refine Calls.mono (impl_ValidRootChain _ _ t1 l1 _ (by exact St1.out.ext xe) (by exact TrustRootS.ext Sl1.out xe)) ?_); rintro e w9_ ⟨rfl, e9⟩; exact ⟨_, rfl, e9, by rw [HF.out.1]; exact IsV.mk⟩) | (refine ⟨xe, Own.ints (E := 3) (n := 1) (lo := 0) ?_⟩; (first | exact own_new _ _ _ _ _ rfl (Nat.zero_le _) | exact own_newN _ _ _ _ _ _ _ rfl (by simp) (by unfold maxLen; omega) (Nat.zero_le _))) | (have hs : IntS W.heap.size W _ [sk.key] := hS 168 (by decide); go_at_call 74; (with_reducible refine Calls.mono (impl_Digest _ [sk.key] _ hs) ?_); rintro e w9_ ⟨rfl, rfl⟩; exact ⟨_, rfl, Ext.refl _, by rw [← HK.out]; exact IsV.mk⟩)
         intro v W' hW' hv
         first | ((with_reducible refine intro_at 142 _ ?_); cases hv) | ((with_reducible refine intro_at 157 _ ?_); cases hv) | ((with_reducible refine intro_at 169 _ ?_); cases hv) | (obtain ⟨A5, n5, c5, rfl, -⟩ := id hv; clear hv) | (obtain ⟨A5, n5, c5, rfl⟩ := NO.slice hv) | skip
         all_goals simp only [Act.put, List.setIfInBounds_toArray, List.set_cons_zero, List.set_cons_succ]))
    refine wpL_nil (fun w11 e11 hL => ?_)
    clear hL ck0 ck1 ck2
    clear lbt1_ qbt1__0 fbt1__0 qbt1__1 fbt1__1 lbx1_ qbx1__0 fbx1__0 qbx1__1 fbx1__1 qbx1__2 fbx1__2 qbx1__3 fbx1__3 qbx1__4 fbx1__4 qbx1__5 fbx1__5 qbx1__6 fbx1__6
    have bt1_ := Jt1.out.ext (w' := w11) xe
    have lbt1_ := bt1_.lt
    obtain ⟨qbt1__0, qbt1__1⟩ := blk2 bt1_
    have fbt1__0 := bt1_.frozen 0
    have fbt1__1 := bt1_.frozen 1
    clear bt1_
    have bx1_ := Jx1.out.ext (w' := w11) xe
    have lbx1_ := bx1_.lt
    obtain ⟨qbx1__0, qbx1__1, qbx1__2, qbx1__3, qbx1__4, qbx1__5, qbx1__6⟩ := blk7 bx1_
    have fbx1__0 := bx1_.frozen 0
    have fbx1__1 := bx1_.frozen 1
    have fbx1__2 := bx1_.frozen 2
    have fbx1__3 := bx1_.frozen 3
    have fbx1__4 := bx1_.frozen 4
    have fbx1__5 := bx1_.frozen 5
    have fbx1__6 := bx1_.frozen 6
    clear bx1_
    go_wp2_with fail
    refine name_wp (fun W => Ext w10 W ∧ W.heap.size = w11.heap.size + 1 ∧ Blk W w11.heap.size 82 [I y.asn, I y.keyDigest, I y.rootVersion, I y.notBefore, I y.notAfter, I y.sig.asn, I y.sig.value]) ⟨xe, by simp only [World.size_alloc], by (rw [← HYE.out]; exact xb)⟩ ?_
  all_goals
    rintro w12 ⟨e12, zy, by_⟩
    have Jy := Lib.hid by_; clear by_
    have z12 := e12.size
    have Jt1 := Lib.hid (Jt1.out.ext (w' := w12) e12)
    have Jt2 := Lib.hid (Jt2.out.ext (w' := w12) e12)
    have Jz := Lib.hid (Jz.out.ext (w' := w12) e12)
    have St1 := Lib.hid (St1.out.ext (w' := w12) e12); have Sl1 := Lib.hid (TrustRootS.ext (w' := w12) Sl1.out e12); have St2 := Lib.hid (St2.out.ext (w' := w12) e12)
    have eu12 : Ext u0 w12 := Ext.trans eu10 e12
    have lty : w11.heap.size < w12.heap.size := by omega
    clear zy
    by_cases h1 : qr < 0
    · have i5 : qr < 0 := h1
      clear h1
      have bt1_ := Jt1.out.ext (w' := w12) xe
      have lbt1_ := bt1_.lt
      obtain ⟨qbt1__0, qbt1__1⟩ := blk2 bt1_
      have fbt1__0 := bt1_.frozen 0
      have fbt1__1 := bt1_.frozen 1
      clear bt1_
      have bt2_ := Jt2.out.ext (w' := w12) xe
      have lbt2_ := bt2_.lt
      obtain ⟨qbt2__0, qbt2__1⟩ := blk2 bt2_
      have fbt2__0 := bt2_.frozen 0
      have fbt2__1 := bt2_.frozen 1
      clear bt2_
      have bz_ := Jz.out.ext (w' := w12) xe
      have lbz_ := bz_.lt
      obtain ⟨qbz__0, qbz__1, qbz__2, qbz__3, qbz__4, qbz__5, qbz__6⟩ := blk7 bz_
      have fbz__0 := bz_.frozen 0
      have fbz__1 := bz_.frozen 1
      have fbz__2 := bz_.frozen 2
      have fbz__3 := bz_.frozen 3
      have fbz__4 := bz_.frozen 4
      have fbz__5 := bz_.frozen 5
      have fbz__6 := bz_.frozen 6
      clear bz_
      have by_ := Jy.out.ext (w' := w12) xe
      have lby_ := by_.lt
      obtain ⟨qby__0, qby__1, qby__2, qby__3, qby__4, qby__5, qby__6⟩ := blk7 by_
      have fby__0 := by_.frozen 0
      have fby__1 := by_.frozen 1
      have fby__2 := by_.frozen 2
      have fby__3 := by_.frozen 3
      have fby__4 := by_.frozen 4
      have fby__5 := by_.frozen 5
      have fby__6 := by_.frozen 6
      clear by_
      refine wp_region_L (E := Ext) (w0 := w12) (G := fun τ => match τ with | 184 => some (fun v W => IsV (.bool false) v) | _ => none) Ext.refl (fun h k => Ext.trans h k) (by kernel_rfl) (by kernel_rfl) xg (Ext.drew (by exact Ext.refl _)) ?_
      repeat' (first
        | ((with_reducible refine wpL_skip ?_ ?_ ?_)
           · rfl
           · rfl
           simp only [Act.put, List.setIfInBounds_toArray, List.set_cons_zero, List.set_cons_succ])
        | ((with_reducible refine wpL_quiet ?_ ?_ ?_ ?_)
           · rfl
           · rfl
           · rfl
           apply Exists.intro
           refine ⟨fun W hW hS => ?_, ?_⟩
           · have hC := (Ext.facts hW).1
             go_simp
             first | done | (with_reducible rfl) | (rw [if_neg (by omega)]; exact ⟨rfl, rfl⟩) | rfl
           first | (with_reducible refine wpL_boolT ?_) | (with_reducible refine wpL_boolF ?_) | (with_reducible refine wpL_bool (fun hB => ?_) (fun hB => ?_)) | skip
           all_goals simp only [Act.put, List.setIfInBounds_toArray, List.set_cons_zero, List.set_cons_succ])
        | ((refine wpL_grow ?_ rfl rfl ?_ ?_)
           · rfl
           · intro W hW hS
             have hC := (Ext.facts hW).1
             unfold growAt
             go_simp
             simp only [growUpon]
             first | (go_at_call 63; (with_reducible refine Calls.mono (impl_CertificateValid _ _ y n1 t1 l1 _ (by exact St1.out.ext xe) (by exact TrustRootS.ext Sl1.out xe)) ?_); rintro e w9_ ⟨rfl, e9⟩; exact ⟨_, rfl, e9, by rw [HY.out]; exact IsV.mk⟩)
           intro v W' hW' hv
           first | ((with_reducible refine intro_at 184 _ ?_); cases hv) | (obtain ⟨A5, n5, c5, rfl, -⟩ := id hv; clear hv) | (obtain ⟨A5, n5, c5, rfl⟩ := NO.slice hv) | skip
           all_goals simp only [Act.put, List.setIfInBounds_toArray, List.set_cons_zero, List.set_cons_succ]))
      refine wpL_nil (fun w13 e13 hL => ?_)
      clear hL
      go_wp2_with fail
      go_ret
      exact ⟨rfl, xe⟩
    by_cases h2 : (t2.ases.length : Int) ≤ qr
    · have i5 : ¬ qr < 0 := h1; have i6 : (t2.ases.length : Int) ≤ qr := h2
      clear h2
      have bt1_ := Jt1.out.ext (w' := w12) xe
      have lbt1_ := bt1_.lt
      obtain ⟨qbt1__0, qbt1__1⟩ := blk2 bt1_
      have fbt1__0 := bt1_.frozen 0
      have fbt1__1 := bt1_.frozen 1
      clear bt1_
      have bt2_ := Jt2.out.ext (w' := w12) xe
      have lbt2_ := bt2_.lt
      obtain ⟨qbt2__0, qbt2__1⟩ := blk2 bt2_
      have fbt2__0 := bt2_.frozen 0
      have fbt2__1 := bt2_.frozen 1
      clear bt2_
      have bz_ := Jz.out.ext (w' := w12) xe
      have lbz_ := bz_.lt
      obtain ⟨qbz__0, qbz__1, qbz__2, qbz__3, qbz__4, qbz__5, qbz__6⟩ := blk7 bz_
      have fbz__0 := bz_.frozen 0
      have fbz__1 := bz_.frozen 1
      have fbz__2 := bz_.frozen 2
      have fbz__3 := bz_.frozen 3
      have fbz__4 := bz_.frozen 4
      have fbz__5 := bz_.frozen 5
      have fbz__6 := bz_.frozen 6
      clear bz_
      have by_ := Jy.out.ext (w' := w12) xe
      have lby_ := by_.lt
      obtain ⟨qby__0, qby__1, qby__2, qby__3, qby__4, qby__5, qby__6⟩ := blk7 by_
      have fby__0 := by_.frozen 0
      have fby__1 := by_.frozen 1
      have fby__2 := by_.frozen 2
      have fby__3 := by_.frozen 3
      have fby__4 := by_.frozen 4
      have fby__5 := by_.frozen 5
      have fby__6 := by_.frozen 6
      clear by_
      refine wp_region_L (E := Ext) (w0 := w12) (G := fun τ => match τ with | 184 => some (fun v W => IsV (.bool false) v) | _ => none) Ext.refl (fun h k => Ext.trans h k) (by kernel_rfl) (by kernel_rfl) xg (Ext.drew (by exact Ext.refl _)) ?_
      repeat' (first
        | ((with_reducible refine wpL_skip ?_ ?_ ?_)
           · rfl
           · rfl
           simp only [Act.put, List.setIfInBounds_toArray, List.set_cons_zero, List.set_cons_succ])
        | ((with_reducible refine wpL_quiet ?_ ?_ ?_ ?_)
           · rfl
           · rfl
           · rfl
           apply Exists.intro
           refine ⟨fun W hW hS => ?_, ?_⟩
           · have hC := (Ext.facts hW).1
             go_simp
             first | done | (with_reducible rfl) | (rw [if_neg (by omega)]; exact ⟨rfl, rfl⟩) | rfl
           first | (with_reducible refine wpL_boolT ?_) | (with_reducible refine wpL_boolF ?_) | (with_reducible refine wpL_bool (fun hB => ?_) (fun hB => ?_)) | skip
           all_goals simp only [Act.put, List.setIfInBounds_toArray, List.set_cons_zero, List.set_cons_succ])
        | ((refine wpL_grow ?_ rfl rfl ?_ ?_)
           · rfl
           · intro W hW hS
             have hC := (Ext.facts hW).1
             unfold growAt
             go_simp
             simp only [growUpon]
             first | (go_at_call 63; (with_reducible refine Calls.mono (impl_CertificateValid _ _ y n1 t1 l1 _ (by exact St1.out.ext xe) (by exact TrustRootS.ext Sl1.out xe)) ?_); rintro e w9_ ⟨rfl, e9⟩; exact ⟨_, rfl, e9, by rw [HY.out]; exact IsV.mk⟩)
           intro v W' hW' hv
           first | ((with_reducible refine intro_at 184 _ ?_); cases hv) | (obtain ⟨A5, n5, c5, rfl, -⟩ := id hv; clear hv) | (obtain ⟨A5, n5, c5, rfl⟩ := NO.slice hv) | skip
           all_goals simp only [Act.put, List.setIfInBounds_toArray, List.set_cons_zero, List.set_cons_succ]))
      refine wpL_nil (fun w13 e13 hL => ?_)
      clear hL
      go_wp2_with fail
      go_ret
      exact ⟨rfl, xe⟩
    by_cases h3 : (t2.ases.length : Int) ≤ qb
    · have i5 : ¬ qr < 0 := h1; have i6 : ¬ (t2.ases.length : Int) ≤ qr := h2; have i7 : (t2.ases.length : Int) ≤ qb := h3
      clear h3
      have bt1_ := Jt1.out.ext (w' := w12) xe
      have lbt1_ := bt1_.lt
      obtain ⟨qbt1__0, qbt1__1⟩ := blk2 bt1_
      have fbt1__0 := bt1_.frozen 0
      have fbt1__1 := bt1_.frozen 1
      clear bt1_
      have bt2_ := Jt2.out.ext (w' := w12) xe
      have lbt2_ := bt2_.lt
      obtain ⟨qbt2__0, qbt2__1⟩ := blk2 bt2_
      have fbt2__0 := bt2_.frozen 0
      have fbt2__1 := bt2_.frozen 1
      clear bt2_
      have bz_ := Jz.out.ext (w' := w12) xe
      have lbz_ := bz_.lt
      obtain ⟨qbz__0, qbz__1, qbz__2, qbz__3, qbz__4, qbz__5, qbz__6⟩ := blk7 bz_
      have fbz__0 := bz_.frozen 0
      have fbz__1 := bz_.frozen 1
      have fbz__2 := bz_.frozen 2
      have fbz__3 := bz_.frozen 3
      have fbz__4 := bz_.frozen 4
      have fbz__5 := bz_.frozen 5
      have fbz__6 := bz_.frozen 6
      clear bz_
      have by_ := Jy.out.ext (w' := w12) xe
      have lby_ := by_.lt
      obtain ⟨qby__0, qby__1, qby__2, qby__3, qby__4, qby__5, qby__6⟩ := blk7 by_
      have fby__0 := by_.frozen 0
      have fby__1 := by_.frozen 1
      have fby__2 := by_.frozen 2
      have fby__3 := by_.frozen 3
      have fby__4 := by_.frozen 4
      have fby__5 := by_.frozen 5
      have fby__6 := by_.frozen 6
      clear by_
      refine wp_region_L (E := Ext) (w0 := w12) (G := fun τ => match τ with | 184 => some (fun v W => IsV (.bool false) v) | _ => none) Ext.refl (fun h k => Ext.trans h k) (by kernel_rfl) (by kernel_rfl) xg (Ext.drew (by exact Ext.refl _)) ?_
      repeat' (first
        | ((with_reducible refine wpL_skip ?_ ?_ ?_)
           · rfl
           · rfl
           simp only [Act.put, List.setIfInBounds_toArray, List.set_cons_zero, List.set_cons_succ])
        | ((with_reducible refine wpL_quiet ?_ ?_ ?_ ?_)
           · rfl
           · rfl
           · rfl
           apply Exists.intro
           refine ⟨fun W hW hS => ?_, ?_⟩
           · have hC := (Ext.facts hW).1
             go_simp
             first | done | (with_reducible rfl) | (rw [if_neg (by omega)]; exact ⟨rfl, rfl⟩) | rfl
           first | (with_reducible refine wpL_boolT ?_) | (with_reducible refine wpL_boolF ?_) | (with_reducible refine wpL_bool (fun hB => ?_) (fun hB => ?_)) | skip
           all_goals simp only [Act.put, List.setIfInBounds_toArray, List.set_cons_zero, List.set_cons_succ])
        | ((refine wpL_grow ?_ rfl rfl ?_ ?_)
           · rfl
           · intro W hW hS
             have hC := (Ext.facts hW).1
             unfold growAt
             go_simp
             simp only [growUpon]
             first | (go_at_call 63; (with_reducible refine Calls.mono (impl_CertificateValid _ _ y n1 t1 l1 _ (by exact St1.out.ext xe) (by exact TrustRootS.ext Sl1.out xe)) ?_); rintro e w9_ ⟨rfl, e9⟩; exact ⟨_, rfl, e9, by rw [HY.out]; exact IsV.mk⟩)
           intro v W' hW' hv
           first | ((with_reducible refine intro_at 184 _ ?_); cases hv) | (obtain ⟨A5, n5, c5, rfl, -⟩ := id hv; clear hv) | (obtain ⟨A5, n5, c5, rfl⟩ := NO.slice hv) | skip
           all_goals simp only [Act.put, List.setIfInBounds_toArray, List.set_cons_zero, List.set_cons_succ]))
      refine wpL_nil (fun w13 e13 hL => ?_)
      clear hL
      go_wp2_with fail
      go_ret
      exact ⟨rfl, xe⟩
    have hr2 : isAs t2 qr = true := inR_iff.2 (by omega)
    have hb2 : isAs t2 qb = true := inR_iff.2 (by omega)
    have HG : Hid (verifySig t2 z.sig (certData z) = true) := by
      have h9 := issued_good (ver := qv) (f := qf) (n := qn) hr2 hb2
      rw [HZ.out] at h9
      exact h9
    have i5 : ¬ qr < 0 := h1
    have i6 : ¬ (t2.ases.length : Int) ≤ qr := h2
    have i7 : ¬ (t2.ases.length : Int) ≤ qb := h3
    clear hr2 hb2 h1 h2 h3
    have bt1_ := Jt1.out.ext (w' := w12) xe
    have lbt1_ := bt1_.lt
    obtain ⟨qbt1__0, qbt1__1⟩ := blk2 bt1_
    have fbt1__0 := bt1_.frozen 0
    have fbt1__1 := bt1_.frozen 1
    clear bt1_
    have bt2_ := Jt2.out.ext (w' := w12) xe
    have lbt2_ := bt2_.lt
    obtain ⟨qbt2__0, qbt2__1⟩ := blk2 bt2_
    have fbt2__0 := bt2_.frozen 0
    have fbt2__1 := bt2_.frozen 1
    clear bt2_
    have bz_ := Jz.out.ext (w' := w12) xe
    have lbz_ := bz_.lt
    obtain ⟨qbz__0, qbz__1, qbz__2, qbz__3, qbz__4, qbz__5, qbz__6⟩ := blk7 bz_
    have fbz__0 := bz_.frozen 0
    have fbz__1 := bz_.frozen 1
    have fbz__2 := bz_.frozen 2
    have fbz__3 := bz_.frozen 3
    have fbz__4 := bz_.frozen 4
    have fbz__5 := bz_.frozen 5
    have fbz__6 := bz_.frozen 6
    clear bz_
    have by_ := Jy.out.ext (w' := w12) xe
    have lby_ := by_.lt
    obtain ⟨qby__0, qby__1, qby__2, qby__3, qby__4, qby__5, qby__6⟩ := blk7 by_
    have fby__0 := by_.frozen 0
    have fby__1 := by_.frozen 1
    have fby__2 := by_.frozen 2
    have fby__3 := by_.frozen 3
    have fby__4 := by_.frozen 4
    have fby__5 := by_.frozen 5
    have fby__6 := by_.frozen 6
    clear by_
    refine wp_region_L (E := Ext) (w0 := w12) (G := fun τ => match τ with | 184 => some (fun v W => IsV (.bool false) v) | 208 => some (fun v W => IntS W.heap.size W v (certData z)) | 209 => some (fun v W => IsV (.bool true) v) | _ => none) Ext.refl (fun h k => Ext.trans h k) (by kernel_rfl) (by kernel_rfl) xg (Ext.drew (by exact Ext.refl _)) ?_
    repeat' (first
      | ((with_reducible refine wpL_skip ?_ ?_ ?_)
         · rfl
         · rfl
         simp only [Act.put, List.setIfInBounds_toArray, List.set_cons_zero, List.set_cons_succ])
      | ((with_reducible refine wpL_quiet ?_ ?_ ?_ ?_)
         · rfl
         · rfl
         · rfl
         apply Exists.intro
         refine ⟨fun W hW hS => ?_, ?_⟩
         · have hC := (Ext.facts hW).1
           go_simp
           first | done | (with_reducible rfl) | (rw [if_neg (by omega)]; exact ⟨rfl, rfl⟩) | rfl
         first | (with_reducible refine wpL_boolT ?_) | (with_reducible refine wpL_boolF ?_) | (with_reducible refine wpL_bool (fun hB => ?_) (fun hB => ?_)) | skip
         all_goals simp only [Act.put, List.setIfInBounds_toArray, List.set_cons_zero, List.set_cons_succ])
      | ((refine wpL_grow ?_ rfl rfl ?_ ?_)
         · rfl
         · intro W hW hS
           have hC := (Ext.facts hW).1
           unfold growAt
           go_simp
           simp only [growUpon]
           first | (go_at_call 63; (with_reducible refine Calls.mono (impl_CertificateValid _ _ y n1 t1 l1 _ (by exact St1.out.ext xe) (by exact TrustRootS.ext Sl1.out xe)) ?_); rintro e w9_ ⟨rfl, e9⟩; exact ⟨_, rfl, e9, by rw [HY.out]; exact IsV.mk⟩) | (go_at_call 72; (with_reducible refine Calls.mono (impl_CertificateData z _) ?_); rintro e w9_ ⟨v9, rfl, o9, e9⟩; exact ⟨_, rfl, e9, IntSO_rd o9⟩) | (have ha : IntS W.heap.size W _ (certData z) := hS 208 (by decide); go_at_call 24; (with_reducible refine Calls.mono (impl_VerifySignature _ z.sig _ t2 (certData z) _ (by exact St2.out.ext xe) ha (by simp [certData])) ?_); rintro e w9_ ⟨rfl, e9⟩; exact ⟨_, rfl, e9, by rw [HG.out]; exact IsV.mk⟩)
         intro v W' hW' hv
         first | ((with_reducible refine intro_at 184 _ ?_); cases hv) | ((with_reducible refine intro_at 208 _ ?_); skip) | ((with_reducible refine intro_at 209 _ ?_); cases hv) | (obtain ⟨A5, n5, c5, rfl, -⟩ := id hv; clear hv) | (obtain ⟨A5, n5, c5, rfl⟩ := NO.slice hv) | skip
         all_goals simp only [Act.put, List.setIfInBounds_toArray, List.set_cons_zero, List.set_cons_succ]))
    refine wpL_nil (fun w13 e13 hL => ?_)
    clear hL
    go_wp2_with fail
    go_ret
    exact ⟨rfl, xe⟩
end Go.Proofs.Ytmlfnfflpacchaa
