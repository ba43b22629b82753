/- Contracts of the reference's draws that the law FnVotes uses. The given slice holds bytes. -/
import Derived.Test.YtmlfnfflpacchaaD10
import Derived.Test.YtmlfnfflpacchaaD16
namespace Go.Proofs.Ytmlfnfflpacchaa
open Go.RowKit
set_option linter.unusedVariables false
/-- Small numbers of the call's own, while a cursor is turned. -/
def SmallD (lo n : Nat) (v : Value) (W : World) : Prop := ∃ xs : List Int, IntSO lo W.heap.size W v xs ∧ xs.length ≤ n ∧ ∀ x ∈ xs, Small x
theorem SmallD.d {lo n g : Nat} {v : Value} {W W' : World} (h : SmallD lo n v W) (hd : D g W W') (hg : g < lo) : SmallD lo n v W' := by
  obtain ⟨xs, h1, h2, h3⟩ := h
  exact ⟨xs, Own.dUp h1 hd hg, h2, h3⟩
theorem SmallD.dw {lo n g l m : Nat} {v : Value} {W W' : World} (h : SmallD lo n v W) (hd : DW g l m W W') (hg : g < lo) (hm : m ≤ lo) : SmallD lo n v W' := by
  obtain ⟨xs, h1, h2, h3⟩ := h
  exact ⟨xs, Own.dwUp h1 hd hg hm, h2, h3⟩
theorem VotesD.dw {lo n g l m : Nat} {v : Value} {W W' : World} (h : VotesD lo n v W) (hd : DW g l m W W') (hg : g < lo) (hm : m ≤ lo) : VotesD lo n v W' := by
  obtain ⟨xs, h1, h2⟩ := h
  exact ⟨xs, Own.dwUp h1 hd hg hm, h2⟩
theorem IntSO.kp {lo hi m : Nat} {a b : World} {v : Value} {t : List Int} (h : IntSO lo hi a v t) (hk : Kp m a b) (hm : m ≤ lo) (hh : hi ≤ a.heap.size) : IntS b.heap.size b v t :=
  IntSO_rd (Own.more (lo' := lo) (hi' := b.heap.size) (h.keep fun k h1 _ _ => hk.same k (by omega)) (Nat.le_refl _) (by rw [hk.size]; exact hh))
theorem SignatureSO.kp {lo hi m : Nat} {a b : World} {v : Value} {t : List DSignature} (h : SignatureSO lo hi a v t) (hk : Kp m a b) (hm : m ≤ lo) (hh : hi ≤ a.heap.size) : SignatureS b.heap.size b v t :=
  SignatureSO_rd (Own.more (lo' := lo) (hi' := b.heap.size) (h.keep fun k h1 _ _ => hk.same k (by omega)) (Nat.le_refl _) (by rw [hk.size]; exact hh))
def OutSmall (W : World) (v : Value) : Prop := ∃ l : List Int, IntS W.heap.size W v l ∧ l.length ≤ 10 ∧ ∀ x ∈ l, Small x
def OutVotes (W : World) (v : Value) : Prop := ∃ l : List DSignature, SignatureS W.heap.size W v l ∧ l.length ≤ 10
theorem SmallD.outKp {lo n m : Nat} {v : Value} {a b : World} (h : SmallD lo n v a) (hk : Kp m a b) (hm : m ≤ lo) (hn : n ≤ 10) : OutSmall b v := by
  obtain ⟨xs, h1, h2, h3⟩ := h
  exact ⟨xs, IntSO.kp h1 hk hm (Nat.le_refl _), by omega, h3⟩
theorem VotesD.outKp {lo n m : Nat} {v : Value} {a b : World} (h : VotesD lo n v a) (hk : Kp m a b) (hm : m ≤ lo) (hn : n ≤ 10) : OutVotes b v := by
  obtain ⟨xs, h1, h2⟩ := h
  exact ⟨xs, SignatureSO.kp h1 hk hm (Nat.le_refl _), by omega⟩
set_option maxRecDepth 100000 in
set_option maxHeartbeats 1000000 in
theorem spec_DrawSign (vb : Value) (bs : List Nat) (w : World) (hb : ByteS w.heap.size w vb bs) (hn : bs.length ≤ 1048576) : Calls Try.prog 23 #[vb] w fun e w' => (∃ k vl, e = .returned (.tuple #[I k, vl]) ∧ OutSmall w' vl) ∧ Ext w w' := by
  have HB := Lib.hid hb; clear hb
  go_enter Try.func23, Try.ntmps23
  go_wp2_with fail
  refine (spec_l1NewB vb bs w.heap.size w HB.out (Nat.le_refl _) hn).mono ?_
  rintro e w1 ⟨g, rfl, hg, hcur, e1⟩
  have HC := Lib.hid hcur.cur
  have hg1 := hcur.lt
  clear hcur
  have z1 := e1.size
  go_wp2_with fail
  refine (spec_l3Word g w1 HC.out).mono ?_
  rintro e w2 ⟨k, rfl, d2⟩
  have z2 := d2.size
  go_wp2_with fail
  refine (spec_l2Ints g 4 w2 (d2.cur HC.out) (by omega)).mono ?_
  rintro e w3 ⟨v, rfl, ⟨l, ol, hl, hs⟩, d3⟩
  go_wp2_with fail
  refine bodyPost_ret (v := .tuple #[I k, v]) (by simp [results, Try.results23, go_sem, *]) rfl ⟨⟨k, v, rfl, l, IntSO_rd ol, by omega, hs⟩, D.ext (D.trans d2 d3) e1 hg⟩
set_option maxRecDepth 100000 in
set_option maxHeartbeats 1000000 in
theorem spec_DrawSignAs (vb : Value) (bs : List Nat) (w : World) (hb : ByteS w.heap.size w vb bs) (hn : bs.length ≤ 1048576) : Calls Try.prog 19 #[vb] w fun e w' => (∃ vt r vl, e = .returned (.tuple #[vt, I r, vl]) ∧ (∃ t, TopologyV w'.heap.size w' vt t ∧ DrawnTopo t) ∧ -1 ≤ r ∧ r < 8 ∧ OutSmall w' vl) ∧ Ext w w' := by
  have HB := Lib.hid hb; clear hb
  go_enter Try.func19, Try.ntmps19
  go_wp2_with fail
  refine name_calls (fun W => Ext w W ∧ W.heap.size = w.heap.size + 1 ∧ Blk W (w.heap.size) 27 [.slice none 0 0, .slice none 0 0]) ⟨xe, by simp only [World.size_alloc], xb⟩ ?_
  rintro wa ⟨ea, za_, br0⟩
  obtain ⟨za, za'⟩ := le_both za_
  clear za_
  have B0 := Lib.hid br0; clear br0
  refine (spec_l1NewB vb bs w.heap.size wa (HB.out.keep ByteAt.keeps (Nat.le_refl _) fun k hk => ea.same k hk) (by omega) hn).mono ?_
  rintro e w1 ⟨g, rfl, hg, hcur, e1⟩
  have HCB := Lib.hid hcur
  have HC := Lib.hid hcur.cur
  have hg1 := hcur.lt
  clear hcur
  have z1 := e1.size
  go_wp2_with fail
  refine (spec_l5Draw g w1 HC.out).mono ?_
  rintro e w2 ⟨v1, rfl, ⟨t, ot, hdt⟩, d2⟩
  have z2 := d2.size
  have e2 : Ext wa w2 := d2.ext e1 hg
  obtain ⟨At_0, nt_0, ct_0, At_1, nt_1, ct_1, rfl⟩ := TopologyO.shape ot
  have OT := Lib.hid ot; have HDT := Lib.hid hdt; clear ot
  have ht8 : t.ases.length ≤ 8 := hdt.2.1
  clear hdt
  go_wp2_with fail
  refine name_wp (fun W => Ext w2 W ∧ W.heap.size = w2.heap.size + 1 ∧ Blk W w2.heap.size 27 [.slice At_0 nt_0 ct_0, .slice At_1 nt_1 ct_1]) ⟨xe, by simp only [World.size_alloc], xb⟩ ?_
  rintro w3 ⟨e3, z3_, b5⟩
  obtain ⟨z3, z3'⟩ := le_both z3_
  clear z3_
  have BT := Lib.hid b5; clear b5
  have ea3 : Ext wa w3 := Ext.trans e2 e3
  have ew3 : Ext w w3 := Ext.trans ea ea3
  have OT3 := Lib.hid (OT.out.ext e3 (Nat.le_refl _))
  have HCB3 := Lib.hid ((D.of_ext e3 (by omega : g < w2.heap.size)).cur (d2.cur HCB.out))
  have hg3 : g < w3.heap.size := by omega
  have nb0 : ¬ w2.heap.size = g := by omega
  have mb0 : wa.heap.size ≤ w2.heap.size := by omega
  have b4_ := BT.out.ext (w' := w3) xe
  have lb4_ := b4_.lt
  obtain ⟨qb4__0, qb4__1⟩ := blk2 b4_
  have fb4__0 := b4_.frozen 0
  have fb4__1 := b4_.frozen 1
  clear b4_
  refine wp_region_LV 6 7 [3] _ (E := DW g w.heap.size wa.heap.size) (w0 := w3) (G := fun τ => match τ with | 13 => some (fun v W => ∃ x : Int, v = I x ∧ 0 ≤ x ∧ x < 9) | 16 => some (fun v W => SmallD w3.heap.size 3 v W) | _ => none)  (DW.refl _ _ _) (fun h k => DW.trans h k) (by kernel_rfl) (by kernel_rfl) rfl rfl (by kernel_rfl) (by kernel_rfl) (by kernel_rfl) (by kernel_rfl) (by kernel_rfl) (by kernel_rfl) (by kernel_rfl) (by kernel_rfl) (by kernel_rfl) (by intro i hi oi hoi; simp only [List.mem_cons, List.not_mem_nil, or_false] at hi; rcases hi with rfl; obtain rfl := Option.some.inj hoi <;> exact ⟨rfl, rfl, by kernel_rfl⟩) (by intro t φ hG; split at hG; all_goals first | (cases hG; done) | (cases Option.some.inj hG; intro v W W' hE hv; first | exact hv | exact hv.dw hE (by omega) (by omega))) (DW.drew (by exact DW.refl _ _ _ _)) ?_
  simp only [List.take_succ_cons, List.take_zero, List.drop_succ_cons, List.drop_zero, List.cons_append, List.nil_append]
  repeat' (first
    | ((with_reducible refine wpL_skip ?_ ?_ ?_)
       · rfl
       · rfl
       simp only [Act.put, List.setIfInBounds_toArray, List.set_cons_zero, List.set_cons_succ])
    | ((with_reducible refine wpL_quiet ?_ ?_ ?_ ?_)
       · rfl
       · rfl
       · rfl
       apply Exists.intro
       refine ⟨fun W hW hS => ?_, ?_⟩
       · have hC := (DW.facts hW).1
         go_simp
         first | done | (with_reducible rfl) | (rw [if_neg (by omega)]; exact ⟨rfl, rfl⟩) | rfl
       first | (with_reducible refine wpL_boolT ?_) | (with_reducible refine wpL_boolF ?_) | (with_reducible refine wpL_bool (fun hB => ?_) (fun hB => ?_)) | skip
       all_goals simp only [Act.put, List.setIfInBounds_toArray, List.set_cons_zero, List.set_cons_succ])
    | ((refine wpL_grow ?_ rfl rfl ?_ ?_)
       · rfl
       · intro W hW hS
         have hC := (DW.facts hW).1
         unfold growAt
         go_simp
         simp only [growUpon]
         first | (go_at_call 96; (with_reducible refine Calls.mono (spec_l1Below g _ _ ((hW.cur (Nat.le_refl _) hg HCB3.out).cur) (by omega)) ?_); rintro e w9 ⟨x, rfl, hx, d9⟩; exact ⟨_, rfl, DW.of_d d9, ⟨x, rfl, hx.1, hx.2.1 (by omega)⟩⟩) | (go_at_call 95; (with_reducible refine Calls.mono (spec_l2Ints g 3 _ ((hW.cur (Nat.le_refl _) hg HCB3.out).cur) (by omega)) ?_); rintro e w9 ⟨v9, rfl, ⟨xs, o9, hl9, hs9⟩, d9⟩; exact ⟨_, rfl, DW.of_d d9, ⟨xs, Own.more o9 hW.size (Nat.le_refl _), hl9, hs9⟩⟩)
       intro v W' hW' hv
       first | ((with_reducible refine intro_at 13 _ ?_); obtain ⟨x13, rfl, h13, k13⟩ := hv) | ((with_reducible refine intro_at 16 _ ?_); skip) | (obtain ⟨A5, n5, c5, rfl, -⟩ := id hv; clear hv) | (obtain ⟨A5, n5, c5, rfl⟩ := NO.slice hv) | skip
       all_goals simp only [Act.put, List.setIfInBounds_toArray, List.set_cons_zero, List.set_cons_succ]))
  refine wpL_nil (fun w4 e4 hL => ?_)
  have h16 : SmallD w3.heap.size 3 _ w4 := hL 16
  clear hL
  have H16 := Lib.hid h16; clear h16
  obtain ⟨s0, hs0, bs0⟩ := e4.shape hg _ _ _ (by omega) (by omega) (B0.out.ext ea3)
  obtain ⟨s0_0, s0_1, rfl⟩ := len2 hs0
  have BS0 := Lib.hid bs0; clear bs0
  have z4 := e4.size
  have ew4 : Ext w w4 := DW.ext e4 ew3 (by omega) (Nat.le_refl _)
  have d0_ := BS0.out.ext (w' := w4) xe
  have ld0_ := d0_.lt
  obtain ⟨qd0__0, qd0__1⟩ := blk2 d0_
  have fd0__0 := d0_.frozen 0
  have fd0__1 := d0_.frozen 1
  clear d0_
  refine ⟨undef, (w4.setCell ⟨w.heap.size, 0, none⟩ (.slice At_0 nt_0 ct_0)).setCell ⟨w.heap.size, 1, none⟩ (.slice At_1 nt_1 ct_1), .skip, .inr ⟨rfl, rfl⟩, ?run, ?_⟩
  case run =>
    go_simp
    first | done | rfl
  refine ⟨DW.set (DW.set (DW.refl _ _ _ _) (Nat.le_refl _) (by omega) _) (Nat.le_refl _) (by omega) _, ?_⟩
  refine name_wpl (fun W => Ext w W ∧ Kp wa.heap.size w4 W ∧ Blk W w.heap.size 27 [.slice At_0 nt_0 ct_0, .slice At_1 nt_1 ct_1]) ⟨xset, kp, by simpa using (BS0.out.set_ 0 (.slice At_0 nt_0 ct_0)).set_ 1 (.slice At_1 nt_1 ct_1)⟩ ?_
  clear ld0_ qd0__0 qd0__1 fd0__0 fd0__1
  rintro w5 ⟨e5, kp5, b0⟩
  have V0 := Lib.hid b0; clear b0
  have d0_ := V0.out.ext (w' := w5) xe
  have ld0_ := d0_.lt
  obtain ⟨qd0__0, qd0__1⟩ := blk2 d0_
  have fd0__0 := d0_.frozen 0
  have fd0__1 := d0_.frozen 1
  clear d0_
  try simp only [List.drop_succ_cons, List.drop_zero]
  go_wp2_with fail
  refine bodyPost_ret (v := .tuple #[.agg #[.slice At_0 nt_0 ct_0, .slice At_1 nt_1 ct_1], I (IntKind.i64.wrap (x13 - 1)), v]) (by simp [results, Try.results19, go_sem, *]; try exact ⟨rfl, rfl⟩) rfl ⟨⟨_, _, _, rfl, ⟨t, ?_, HDT.out⟩, ?_, ?_, ?_⟩, ?_⟩
  · exact TopologyO.kp (m := wa.heap.size) (OT3.out.dw e4 (by omega) (by omega)) (kp5.trans kp) (by omega) (by omega)
  · rw [IntWalk.i64_in _ (by omega)]; omega
  · rw [IntWalk.i64_in _ (by omega)]; omega
  · exact H16.out.outKp (m := wa.heap.size) (kp5.trans kp) (by omega) (by omega)
  · exact xset
set_option maxRecDepth 100000 in
set_option maxHeartbeats 1000000 in
theorem spec_DrawSigners (vb : Value) (bs : List Nat) (w : World) (hb : ByteS w.heap.size w vb bs) (hn : bs.length ≤ 1048576) : Calls Try.prog 18 #[vb] w fun e w' => (∃ vt vv m vl, e = .returned (.tuple #[vt, vv, I m, vl]) ∧ (∃ t, TopologyV w'.heap.size w' vt t) ∧ OutVotes w' vv ∧ OutSmall w' vl) ∧ Ext w w' := by
  have HB := Lib.hid hb; clear hb
  go_enter Try.func18, Try.ntmps18
  go_wp2_with fail
  refine name_calls (fun W => Ext w W ∧ W.heap.size = w.heap.size + 1 ∧ Blk W (w.heap.size) 27 [.slice none 0 0, .slice none 0 0]) ⟨xe, by simp only [World.size_alloc], xb⟩ ?_
  rintro wa ⟨ea, za_, br0⟩
  obtain ⟨za, za'⟩ := le_both za_
  clear za_
  have B0 := Lib.hid br0; clear br0
  refine (spec_l1NewB vb bs w.heap.size wa (HB.out.keep ByteAt.keeps (Nat.le_refl _) fun k hk => ea.same k hk) (by omega) hn).mono ?_
  rintro e w1 ⟨g, rfl, hg, hcur, e1⟩
  have HCB := Lib.hid hcur
  have HC := Lib.hid hcur.cur
  have hg1 := hcur.lt
  clear hcur
  have z1 := e1.size
  go_wp2_with fail
  refine (spec_l5Draw g w1 HC.out).mono ?_
  rintro e w2 ⟨v1, rfl, ⟨t, ot, hdt⟩, d2⟩
  have z2 := d2.size
  have e2 : Ext wa w2 := d2.ext e1 hg
  obtain ⟨At_0, nt_0, ct_0, At_1, nt_1, ct_1, rfl⟩ := TopologyO.shape ot
  have OT := Lib.hid ot; have HDT := Lib.hid hdt; clear ot
  have ht8 : t.ases.length ≤ 8 := hdt.2.1
  clear hdt
  go_wp2_with fail
  refine name_calls (fun W => Ext w2 W ∧ W.heap.size = w2.heap.size + 1 ∧ Blk W w2.heap.size 27 [.slice At_0 nt_0 ct_0, .slice At_1 nt_1 ct_1]) ⟨xe, by simp only [World.size_alloc], xb⟩ ?_
  rintro wx ⟨ex, zx_, b5⟩
  obtain ⟨zx, zx'⟩ := le_both zx_
  clear zx_
  have BTX := Lib.hid b5; clear b5
  have hnt8 : nt_0 ≤ 8 := by
    obtain ⟨_, _, _, _, _, _, e, s0, -⟩ := OT.out.v
    have h := s0.len
    simp only [Value.agg.injEq, Array.mk.injEq, List.cons.injEq, Value.slice.injEq] at e
    omega
  have dx : D g w1 wx := D.trans d2 (D.of_ext ex (by omega))
  have OTX := Lib.hid (OT.out.ext ex (Nat.le_refl _))
  refine (spec_l2Ints g 3 wx (dx.cur HC.out) (by omega)).mono ?_
  rintro e w3 ⟨v8, rfl, ⟨l, ol, hl3, hsl⟩, d3⟩
  have HL3 := Lib.hid ol; have HSL := Lib.hid hsl; clear ol hsl
  go_wp2_with fail
  have z3 := d3.size
  have d13 : D g w1 w3 := D.trans dx d3
  have BT := Lib.hid (BTX.out.d d3 (by omega))
  have OT3 := Lib.hid (OTX.out.d d3 (by omega))
  have HC3 := Lib.hid (d13.cur HC.out)
  have hg3 : g < w3.heap.size := by omega
  have nb0 : ¬ w2.heap.size = g := by omega
  have ea3 : Ext wa w3 := d13.ext e1 hg
  have ew3 : Ext w w3 := Ext.trans ea ea3
  have HCB3 := Lib.hid (d13.cur HCB.out)
  have mb0 : wa.heap.size ≤ w2.heap.size := by omega
  have b4_ := BT.out.ext (w' := w3) xe
  have lb4_ := b4_.lt
  obtain ⟨qb4__0, qb4__1⟩ := blk2 b4_
  have fb4__0 := b4_.frozen 0
  have fb4__1 := b4_.frozen 1
  clear b4_
  have d0_ := B0.out.ext (w' := w3) xe
  have ld0_ := d0_.lt
  obtain ⟨qd0__0, qd0__1⟩ := blk2 d0_
  have fd0__0 := d0_.frozen 0
  have fd0__1 := d0_.frozen 1
  clear d0_
  have nb1 : ¬ w.heap.size = g := by omega
  have nb2 : ¬ w2.heap.size = w.heap.size := by omega
  have nb3 : ¬ w.heap.size = w2.heap.size := by omega
  have dd : D g w3 w3.drew := D.drew (D.refl _ _)
  have HCD := Lib.hid (dd.cur HC3.out)
  have OTD := Lib.hid (OT3.out.d dd (by omega)); have HLD := Lib.hid (HL3.out.d dd (by omega))
  go_region_with (first
    | (go_at_call 97; go_loud (refine (spec_l17Votes g _ _ t l w1.heap.size w3.heap.size w3.drew (by exact HCD.out) (by exact OTD.out.more (Nat.le_refl _) (by omega)) (by exact Own.more HLD.out (by omega) (Nat.le_refl _)) (by omega) (Nat.le_refl _) ht8 (by omega)).mono ?_; rintro e w7 ⟨v7, rfl, ⟨xs, ox, hx4⟩, d7⟩; have hcn := Lib.hid (d7.cur HCD.out); have dn7 : D g w3 w7 := D.trans dd d7; have OX := Lib.hid (show SignatureSO w3.heap.size _ _ _ _ from ox); clear ox; have z7 := dn7.size; obtain ⟨hc7, hf7, hz7⟩ := dn7.facts))
    | (go_at_call 96; go_loud (refine (spec_l1Below g _ _ (by exact hcn.out) (by omega)).mono ?_; rintro e w9 ⟨x9, rfl, -, d9⟩; have dn9 : D g w3 w9 := D.trans dn7 d9; have OX9 := Lib.hid (OX.out.d d9 (by omega)); have z9 := d9.size; clear hc7 hf7 hz7; obtain ⟨hc9, hf9, hz9⟩ := dn9.facts)))
  all_goals
    have ew9 : Ext w w9 := Ext.trans ea (D.ext (D.trans d13 dn9) e1 hg)
    go_wp2_with fail
    refine bodyPost_ret (v := .tuple #[.agg #[.slice At_0 nt_0 ct_0, .slice At_1 nt_1 ct_1], v7, I x9, v8]) (by simp [results, Try.results18, go_sem, *]) rfl ⟨⟨_, _, _, _, rfl, ⟨t, ?_⟩, ⟨xs, ?_, by omega⟩, ⟨l, ?_, by omega, HSL.out⟩⟩, ?_⟩
    · exact TopologyO.kp (m := wa.heap.size) (OT3.out.d dn9 (by omega)) kp (by omega) (by omega)
    · exact SignatureSO.kp (m := wa.heap.size) OX9.out kp (by omega) (by omega)
    · exact IntSO.kp (m := wa.heap.size) (HL3.out.d dn9 (by omega)) kp (by omega) (by omega)
    · exact xset
set_option maxRecDepth 100000 in
set_option maxHeartbeats 1000000 in
theorem spec_DrawVerifySignature (vb : Value) (bs : List Nat) (w : World) (hb : ByteS w.heap.size w vb bs) (hn : bs.length ≤ 1048576) : Calls Try.prog 17 #[vb] w fun e w' => (∃ (vt : Value) (y : DSignature) (vl : Value), e = .returned (.tuple #[vt, .agg #[I y.asn, I y.value], vl]) ∧ (∃ t, TopologyV w'.heap.size w' vt t) ∧ OutSmall w' vl) ∧ Ext w w' := by
  have HB := Lib.hid hb; clear hb
  go_enter Try.func17, Try.ntmps17
  go_wp2_with fail
  refine name_calls (fun W => Ext w W ∧ W.heap.size = w.heap.size + 1 + 1 ∧ Blk W (w.heap.size) 27 [.slice none 0 0, .slice none 0 0] ∧ Blk W (w.heap.size + 1) 36 [I 0, I 0]) ⟨xe, by simp only [World.size_alloc], xb, xb⟩ ?_
  rintro wa ⟨ea, za_, br0, br1⟩
  obtain ⟨za, za'⟩ := le_both za_
  clear za_
  have B0 := Lib.hid br0; have B1 := Lib.hid br1; clear br0 br1
  refine (spec_l1NewB vb bs w.heap.size wa (HB.out.keep ByteAt.keeps (Nat.le_refl _) fun k hk => ea.same k hk) (by omega) hn).mono ?_
  rintro e w1 ⟨g, rfl, hg, hcur, e1⟩
  have HCB := Lib.hid hcur
  have HC := Lib.hid hcur.cur
  have hg1 := hcur.lt
  clear hcur
  have z1 := e1.size
  go_wp2_with fail
  refine (spec_l5Draw g w1 HC.out).mono ?_
  rintro e w2 ⟨v1, rfl, ⟨t, ot, hdt⟩, d2⟩
  have z2 := d2.size
  have e2 : Ext wa w2 := d2.ext e1 hg
  obtain ⟨At_0, nt_0, ct_0, At_1, nt_1, ct_1, rfl⟩ := TopologyO.shape ot
  have OT := Lib.hid ot; have HDT := Lib.hid hdt; clear ot
  have ht8 : t.ases.length ≤ 8 := hdt.2.1
  clear hdt
  go_wp2_with fail
  refine name_calls (fun W => Ext w2 W ∧ W.heap.size = w2.heap.size + 1 ∧ Blk W w2.heap.size 27 [.slice At_0 nt_0 ct_0, .slice At_1 nt_1 ct_1]) ⟨xe, by simp only [World.size_alloc], xb⟩ ?_
  rintro wx ⟨ex, zx_, b5⟩
  obtain ⟨zx, zx'⟩ := le_both zx_
  clear zx_
  have BTX := Lib.hid b5; clear b5
  have hnt8 : nt_0 ≤ 8 := by
    obtain ⟨_, _, _, _, _, _, e, s0, -⟩ := OT.out.v
    have h := s0.len
    simp only [Value.agg.injEq, Array.mk.injEq, List.cons.injEq, Value.slice.injEq] at e
    omega
  have dx : D g w1 wx := D.trans d2 (D.of_ext ex (by omega))
  have OTX := Lib.hid (OT.out.ext ex (Nat.le_refl _))
  refine (spec_l2Ints g 3 wx (dx.cur HC.out) (by omega)).mono ?_
  rintro e w3 ⟨v8, rfl, ⟨l, ol, hl3, hsl⟩, d3⟩
  have HL3 := Lib.hid ol; have HSL := Lib.hid hsl; clear ol hsl
  have z3 := d3.size
  have d13 : D g w1 w3 := D.trans dx d3
  have BT := Lib.hid (BTX.out.d d3 (by omega))
  have OT3 := Lib.hid (OTX.out.d d3 (by omega))
  have HC3 := Lib.hid (d13.cur HC.out)
  have hg3 : g < w3.heap.size := by omega
  have nb0 : ¬ w2.heap.size = g := by omega
  have ea3 : Ext wa w3 := d13.ext e1 hg
  have ew3 : Ext w w3 := Ext.trans ea ea3
  have HCB3 := Lib.hid (d13.cur HCB.out)
  have mb0 : wa.heap.size ≤ w2.heap.size := by omega
  have b4_ := BT.out.ext (w' := w3) xe
  have lb4_ := b4_.lt
  obtain ⟨qb4__0, qb4__1⟩ := blk2 b4_
  have fb4__0 := b4_.frozen 0
  have fb4__1 := b4_.frozen 1
  clear b4_
  go_wp2_with fail
  have hg_ : g < w1.heap.size := hg1
  refine wp_region_LT 9 (E := D g) (w0 := w3) (G := fun τ => match τ with | 8 => some (fun v W => Zero1 36 w3.heap.size [I 0, I 0] v W) | 22 => some (fun v W => ∃ s : DSignature, v = .agg #[I s.asn, I s.value]) | 20 => some (fun v W => ∃ x : Int, v = I x) | _ => none) (D.refl g) (fun h k => D.trans h k) (by kernel_rfl) (by kernel_rfl) (by kernel_rfl) (by kernel_rfl) (by kernel_rfl) (by kernel_rfl) (by intro t φ hG; split at hG; all_goals first | (cases hG; done) | (cases Option.some.inj hG; intro v W W' hE hv; first | exact hv | exact hv.d hE (by omega) | (obtain ⟨y, hy⟩ := hv; exact ⟨y, Fresh1.d hy hE (by omega)⟩))) (D.drew (by exact D.refl _ _)) ?_
  simp only [List.take_succ_cons, List.take_zero]
  repeat' (first
    | ((with_reducible refine wpL_skip ?_ ?_ ?_)
       · rfl
       · rfl
       simp only [Act.put, List.setIfInBounds_toArray, List.set_cons_zero, List.set_cons_succ])
    | ((with_reducible refine wpL_quiet ?_ ?_ ?_ ?_)
       · rfl
       · rfl
       · rfl
       apply Exists.intro
       refine ⟨fun W hW hS => ?_, ?_⟩
       · have hC := (D.facts hW).1
         go_simp
         first | done | (with_reducible rfl) | (rw [if_neg (by omega)]; exact ⟨rfl, rfl⟩) | rfl
       first | (with_reducible refine wpL_boolT ?_) | (with_reducible refine wpL_boolF ?_) | (with_reducible refine wpL_bool (fun hB => ?_) (fun hB => ?_)) | skip
       all_goals simp only [Act.put, List.setIfInBounds_toArray, List.set_cons_zero, List.set_cons_succ])
    | ((refine wpL_grow ?_ rfl rfl ?_ ?_)
       · rfl
       · intro W hW hS
         have hC := (D.facts hW).1
         unfold growAt
         go_simp
         simp only [growUpon]
         first | (exact ⟨D.of_ext ((Ext.refl _).alloc _) (Nat.lt_of_lt_of_le hg3 hW.size), ⟨_, rfl, hW.size, Blk.new _ _ _⟩⟩) | (go_at_call 28; (with_reducible refine Calls.mono (spec_SignAs _ x20 _ t l _ (by exact TopologyO_rd (OT3.out.d hW hg_) (by have := hW.size; omega)) (by exact IntSO_rd (Own.more (HL3.out.d hW (by omega)) (Nat.le_refl _) hW.size)) (by omega)) ?_); rintro e w9 ⟨rfl, e9⟩; exact ⟨_, rfl, D.of_ext e9 (Nat.lt_of_lt_of_le hg3 hW.size), ⟨_, rfl⟩⟩) | (go_at_call 96; (with_reducible refine Calls.mono (spec_l1Below g _ _ (hW.cur HC3.out) (by omega)) ?_); rintro e w9 ⟨x, rfl, -, d9⟩; exact ⟨_, rfl, d9, ⟨x, rfl⟩⟩)
       intro v W' hW' hv
       first | ((with_reducible refine intro_at 8 _ ?_); obtain ⟨g8, rfl, hg8, hb8⟩ := hv) | ((with_reducible refine intro_at 22 _ ?_); obtain ⟨s22, rfl⟩ := hv) | ((with_reducible refine intro_at 20 _ ?_); obtain ⟨x20, rfl⟩ := hv) | (obtain ⟨A5, n5, c5, rfl, -⟩ := id hv; clear hv) | (obtain ⟨A5, n5, c5, rfl⟩ := NO.slice hv) | skip
       all_goals simp only [Act.put, List.setIfInBounds_toArray, List.set_cons_zero, List.set_cons_succ]))
  refine wpL_nil (fun w4 e4 hL => ?_)
  obtain ⟨g8, hv8, hg8, hb8⟩ : Zero1 36 w3.heap.size [I 0, I 0] _ w4 := hL 8
  cases hv8
  clear hL lb4_ qb4__0 qb4__1 fb4__0 fb4__1
  have z4 := e4.size
  have HB8 := Lib.hid hb8; clear hb8
  have b8 := HB8.out.ext (w' := w4) xe
  have lb8 := b8.lt
  obtain ⟨qb8_0, qb8_1⟩ := blk2 b8
  have fb8_0 := b8.frozen 0
  have fb8_1 := b8.frozen 1
  clear b8
  simp only [List.drop_succ_cons, List.drop_zero]
  go_wp2_with fail
  refine name_calls (fun W => D g w3 W ∧ W.heap.size = w4.heap.size ∧ Blk W g8 36 [I s22.asn, I s22.value]) ⟨D.setNew (D.setNew e4 hg3 (by first | omega | (dsimp only; omega)) _) hg3 (by first | omega | (dsimp only; omega)) _, by simp only [World.size_setCell], by simpa using (HB8.out.set_ 0 (I s22.asn)).set_ 1 (I s22.value)⟩ ?_
  clear lb8 qb8_0 qb8_1 fb8_0 fb8_1
  rintro w5 ⟨d35, z5, hb5⟩
  have HB5 := Lib.hid hb5; clear hb5
  refine (spec_l1Below g 4 w5 (d35.cur HC3.out) (by omega)).mono ?_
  rintro e w6 ⟨x6, rfl, -, d6⟩
  have z6 := d6.size
  have HB6 := Lib.hid (HB5.out.d d6 (by omega))
  have d36 : D g w3 w6 := D.trans d35 d6
  have d16 : D g w1 w6 := D.trans d13 d36
  obtain ⟨y, hy⟩ : ∃ y : DSignature, y = s22 := ⟨_, rfl⟩
  by_cases h0 : x6 = 0
  · subst h0
    go_wp2_with fail
    refine (spec_l1Below g 9 w6 (d36.cur HC3.out) (by omega)).mono ?_
    rintro e w7 ⟨x7, rfl, -, d7⟩
    have z7 := d7.size
    have HB7 := Lib.hid (HB6.out.d d7 (by omega))
    have b8 := HB7.out.ext (w' := w7) xe
    have lb8 := b8.lt
    obtain ⟨qb8_0, qb8_1⟩ := blk2 b8
    have fb8_0 := b8.frozen 0
    have fb8_1 := b8.frozen 1
    clear b8
    go_wp2_with fail
    refine name_wp (fun W => D g w3 W ∧ ∃ y : DSignature, Blk W g8 36 [I y.asn, I y.value]) ⟨D.setNew (D.trans d36 d7) hg3 (by first | omega | (dsimp only; omega)) _, ⟨wrap64 (x7 - 1), s22.value⟩, by simpa using HB7.out.set_ 0 (I (wrap64 (x7 - 1)))⟩ ?_
    clear lb8 qb8_0 qb8_1 fb8_0 fb8_1 hy y
    rintro w8 ⟨d38, y, hb8⟩
    have BV8 := Lib.hid hb8; clear hb8
    have z8 := d38.size
    have dx8 : D g wx w8 := D.trans d3 d38
    have d18 : D g w1 w8 := D.trans dx dx8
    have ew8 : Ext w w8 := Ext.trans ea (D.ext d18 e1 hg)
    have BX8 := Lib.hid (BTX.out.d dx8 (by omega))
    have lt0 : w.heap.size < wa.heap.size := by omega
    have lt1 : w.heap.size + 1 < wa.heap.size := by omega
    have b4_ := BX8.out.ext (w' := w8) xe
    have lb4_ := b4_.lt
    obtain ⟨qb4__0, qb4__1⟩ := blk2 b4_
    have fb4__0 := b4_.frozen 0
    have fb4__1 := b4_.frozen 1
    clear b4_
    have b6_ := BV8.out.ext (w' := w8) xe
    have lb6_ := b6_.lt
    obtain ⟨qb6__0, qb6__1⟩ := blk2 b6_
    have fb6__0 := b6_.frozen 0
    have fb6__1 := b6_.frozen 1
    clear b6_
    have BA0 := Lib.hid (B0.out.ext (w' := w8) (D.ext d18 e1 hg)); have BA1 := Lib.hid (B1.out.ext (w' := w8) (D.ext d18 e1 hg))
    have c0_ := BA0.out.ext (w' := w8) xe
    have lc0_ := c0_.lt
    obtain ⟨qc0__0, qc0__1⟩ := blk2 c0_
    have fc0__0 := c0_.frozen 0
    have fc0__1 := c0_.frozen 1
    clear c0_
    have c1_ := BA1.out.ext (w' := w8) xe
    have lc1_ := c1_.lt
    obtain ⟨qc1__0, qc1__1⟩ := blk2 c1_
    have fc1__0 := c1_.frozen 0
    have fc1__1 := c1_.frozen 1
    clear c1_
    go_wp2_with fail
    go_region
    go_wp2_with fail
    refine bodyPost_ret (v := .tuple #[.agg #[.slice At_0 nt_0 ct_0, .slice At_1 nt_1 ct_1], .agg #[I y.asn, I y.value], v8]) (by simp [results, Try.results17, go_sem, *]) rfl ⟨⟨_, y, _, rfl, ⟨t, ?_⟩, ⟨l, ?_, by first | omega | (simp; omega), HSL.out⟩⟩, ?_⟩
    · exact TopologyO.kp (m := wa.heap.size) (OTX.out.d dx8 (by omega)) kp (by omega) (by omega)
    · exact IntSO.kp (m := wa.heap.size) (HL3.out.d d38 (by omega)) kp (by omega) (by omega)
    · exact xset
  have q0 : (x6 == 0) = false := beq_eq_false_iff_ne.2 h0
  subst hy
  by_cases h1 : x6 = 1
  · subst h1
    have z36 := d36.size
    have HN6 := Lib.hid ((HL3.out.d d36 (by omega)))
    obtain ⟨av, nv, cv, hvv⟩ := HL3.out.slice
    subst hvv
    obtain ⟨hnv, -⟩ := NO.row HL3.out
    subst hnv
    go_wp2_with (at_builtin; refine hold ?_)
    refine unhold (wpList_appL wx.heap.size rfl (.tmp 33) (.tmp 34) _ rfl 3 (.int .i64 0) 1 8 Try.underlying38 info_int rfl (by omega) (.slice av l.length cv) l.length (l.map I) rfl _ 1 1 [I 1] rfl (by exact (Own.ext HN6.out (w' := w6.alloc _) xe (by omega)).lt_size) (row_one _ _ _ _ _ (by first | rfl | simp) rfl) (one_ints [1]) (by simp only [World.size_alloc]; omega) (by unfold maxLen; omega) (by omega) ?_)
    intro v8 w8 o8 hg8_
    have h57 := (Own.ext HN6.out (w' := w6.alloc (.cells #[I 1] 3)) xe (by omega)).lt_size
    have dx8 : D g wx w8 := D.grown (w := w6.alloc (.cells #[I 1] 3)) (D.alloc (D.trans d3 d36) (by omega) _) (by omega) hg8_ (fun j hj => by have := (h57.1.lt j hj).1; omega)
    have hb6a : Blk (w6.alloc (.cells #[I 1] 3)) g8 36 [I y.asn, I y.value] := HB6.out.ext xe
    have BV8 := Lib.hid (Blk.grown hb6a hg8_ (off_type h57 hb6a (by decide)))
    have d18 : D g w1 w8 := D.trans dx dx8
    have z8 := dx8.size
    have o9 : IntSO wx.heap.size w8.heap.size w8 v8 (l ++ [1]) := by
      unfold IntSO
      rw [List.length_append, List.length_singleton, List.map_append]
      exact o8
    have O9 := Lib.hid o9
    have HS9 : Hid (∀ x ∈ l ++ [1], Small x) := fun x hx => by
      rcases List.mem_append.1 hx with hx | hx
      · exact HSL.out x hx
      · have e : x = 1 := by simpa using hx
        subst e
        unfold Small
        omega
    clear o8 o9 h57 hg8_ hb6a
    have ew8 : Ext w w8 := Ext.trans ea (D.ext d18 e1 hg)
    have BX8 := Lib.hid (BTX.out.d dx8 (by omega))
    have lt0 : w.heap.size < wa.heap.size := by omega
    have lt1 : w.heap.size + 1 < wa.heap.size := by omega
    have b4_ := BX8.out.ext (w' := w8) xe
    have lb4_ := b4_.lt
    obtain ⟨qb4__0, qb4__1⟩ := blk2 b4_
    have fb4__0 := b4_.frozen 0
    have fb4__1 := b4_.frozen 1
    clear b4_
    have b6_ := BV8.out.ext (w' := w8) xe
    have lb6_ := b6_.lt
    obtain ⟨qb6__0, qb6__1⟩ := blk2 b6_
    have fb6__0 := b6_.frozen 0
    have fb6__1 := b6_.frozen 1
    clear b6_
    have BA0 := Lib.hid (B0.out.ext (w' := w8) (D.ext d18 e1 hg)); have BA1 := Lib.hid (B1.out.ext (w' := w8) (D.ext d18 e1 hg))
    have c0_ := BA0.out.ext (w' := w8) xe
    have lc0_ := c0_.lt
    obtain ⟨qc0__0, qc0__1⟩ := blk2 c0_
    have fc0__0 := c0_.frozen 0
    have fc0__1 := c0_.frozen 1
    clear c0_
    have c1_ := BA1.out.ext (w' := w8) xe
    have lc1_ := c1_.lt
    obtain ⟨qc1__0, qc1__1⟩ := blk2 c1_
    have fc1__0 := c1_.frozen 0
    have fc1__1 := c1_.frozen 1
    clear c1_
    go_wp2_with fail
    go_region
    go_wp2_with fail
    refine bodyPost_ret (v := .tuple #[.agg #[.slice At_0 nt_0 ct_0, .slice At_1 nt_1 ct_1], .agg #[I y.asn, I y.value], v8]) (by simp [results, Try.results17, go_sem, *]) rfl ⟨⟨_, y, _, rfl, ⟨t, ?_⟩, ⟨l ++ [1], ?_, by first | omega | (simp; omega), HS9.out⟩⟩, ?_⟩
    · exact TopologyO.kp (m := wa.heap.size) (OTX.out.d dx8 (by omega)) kp (by omega) (by omega)
    · exact IntSO.kp (m := wa.heap.size) (O9.out) kp (by omega) (by omega)
    · exact xset
  · have q1 : (x6 == 1) = false := beq_eq_false_iff_ne.2 h1
    have BV6 := Lib.hid HB6.out
    have dx6 : D g wx w6 := D.trans d3 d36
    have ew6 : Ext w w6 := Ext.trans ea (D.ext d16 e1 hg)
    have BX6 := Lib.hid (BTX.out.d dx6 (by omega))
    have lt0 : w.heap.size < wa.heap.size := by omega
    have lt1 : w.heap.size + 1 < wa.heap.size := by omega
    have b4_ := BX6.out.ext (w' := w6) xe
    have lb4_ := b4_.lt
    obtain ⟨qb4__0, qb4__1⟩ := blk2 b4_
    have fb4__0 := b4_.frozen 0
    have fb4__1 := b4_.frozen 1
    clear b4_
    have b6_ := BV6.out.ext (w' := w6) xe
    have lb6_ := b6_.lt
    obtain ⟨qb6__0, qb6__1⟩ := blk2 b6_
    have fb6__0 := b6_.frozen 0
    have fb6__1 := b6_.frozen 1
    clear b6_
    have BA0 := Lib.hid (B0.out.ext (w' := w6) (D.ext d16 e1 hg)); have BA1 := Lib.hid (B1.out.ext (w' := w6) (D.ext d16 e1 hg))
    have c0_ := BA0.out.ext (w' := w6) xe
    have lc0_ := c0_.lt
    obtain ⟨qc0__0, qc0__1⟩ := blk2 c0_
    have fc0__0 := c0_.frozen 0
    have fc0__1 := c0_.frozen 1
    clear c0_
    have c1_ := BA1.out.ext (w' := w6) xe
    have lc1_ := c1_.lt
    obtain ⟨qc1__0, qc1__1⟩ := blk2 c1_
    have fc1__0 := c1_.frozen 0
    have fc1__1 := c1_.frozen 1
    clear c1_
    go_wp2_with fail
    go_region
    go_wp2_with fail
    refine bodyPost_ret (v := .tuple #[.agg #[.slice At_0 nt_0 ct_0, .slice At_1 nt_1 ct_1], .agg #[I y.asn, I y.value], v8]) (by simp [results, Try.results17, go_sem, *]) rfl ⟨⟨_, y, _, rfl, ⟨t, ?_⟩, ⟨l, ?_, by first | omega | (simp; omega), HSL.out⟩⟩, ?_⟩
    · exact TopologyO.kp (m := wa.heap.size) (OTX.out.d dx6 (by omega)) kp (by omega) (by omega)
    · exact IntSO.kp (m := wa.heap.size) (HL3.out.d d36 (by omega)) kp (by omega) (by omega)
    · exact xset
set_option maxRecDepth 100000 in
set_option maxHeartbeats 1000000 in
theorem spec_DrawAddSignature (vb : Value) (bs : List Nat) (w : World) (hb : ByteS w.heap.size w vb bs) (hn : bs.length ≤ 1048576) : Calls Try.prog 20 #[vb] w fun e w' => (∃ (vv : Value) (y : DSignature), e = .returned (.tuple #[vv, .agg #[I y.asn, I y.value]]) ∧ OutVotes w' vv) ∧ Ext w w' := by
  have HB := Lib.hid hb; clear hb
  go_enter Try.func20, Try.ntmps20
  go_wp2_with fail
  refine name_calls (fun W => Ext w W ∧ W.heap.size = w.heap.size + 1 ∧ Blk W (w.heap.size) 36 [I 0, I 0]) ⟨xe, by simp only [World.size_alloc], xb⟩ ?_
  rintro wa ⟨ea, za_, br0⟩
  obtain ⟨za, za'⟩ := le_both za_
  clear za_
  have B0 := Lib.hid br0; clear br0
  refine (spec_l1NewB vb bs w.heap.size wa (HB.out.keep ByteAt.keeps (Nat.le_refl _) fun k hk => ea.same k hk) (by omega) hn).mono ?_
  rintro e w1 ⟨g, rfl, hg, hcur, e1⟩
  have HCB := Lib.hid hcur
  have HC := Lib.hid hcur.cur
  have hg1 := hcur.lt
  clear hcur
  have z1 := e1.size
  go_wp2_with fail
  refine (spec_l5Draw g w1 HC.out).mono ?_
  rintro e w2 ⟨v1, rfl, ⟨t, ot, hdt⟩, d2⟩
  have z2 := d2.size
  have e2 : Ext wa w2 := d2.ext e1 hg
  obtain ⟨At_0, nt_0, ct_0, At_1, nt_1, ct_1, rfl⟩ := TopologyO.shape ot
  have OT := Lib.hid ot; have HDT := Lib.hid hdt; clear ot
  have ht8 : t.ases.length ≤ 8 := hdt.2.1
  clear hdt
  go_wp2_with fail
  refine name_calls (fun W => ∃ wx, Ext w2 wx ∧ wx.heap.size = w2.heap.size + 1 ∧ Blk wx w2.heap.size 27 [.slice At_0 nt_0 ct_0, .slice At_1 nt_1 ct_1] ∧ Ext wx W ∧ W.heap.size = wx.heap.size + 1 ∧ IntSO wx.heap.size W.heap.size W (.slice (some ⟨w2.heap.size + 1, 0, none⟩) 1 1) [1]) ⟨_, xe, by simp only [World.size_alloc], xb, xe, by simp only [World.size_alloc], own_newN _ _ 1 1 _ _ [I 1] (by simp only [World.size_alloc]) rfl (by unfold maxLen; omega) (Nat.le_refl _)⟩ ?_
  rintro wy ⟨wx, ex, zx_, b5, ey, zy_, hone⟩
  obtain ⟨zx, zx'⟩ := le_both zx_
  obtain ⟨zy, zy'⟩ := le_both zy_
  clear zx_ zy_
  have BTX := Lib.hid (b5.ext ey); have HONE := Lib.hid hone; clear b5 hone
  have hnt8 : nt_0 ≤ 8 := by
    obtain ⟨_, _, _, _, _, _, e, s0, -⟩ := OT.out.v
    have h := s0.len
    simp only [Value.agg.injEq, Array.mk.injEq, List.cons.injEq, Value.slice.injEq] at e
    omega
  have dx : D g w1 wy := D.trans d2 (D.of_ext (Ext.trans ex ey) (by omega))
  have OTX := Lib.hid (OT.out.ext (Ext.trans ex ey) (Nat.le_refl _))
  refine (spec_l17Votes g _ _ t [1] w1.heap.size wy.heap.size wy (dx.cur HC.out) (OTX.out.more (Nat.le_refl _) (by omega)) (Own.more HONE.out (by omega) (Nat.le_refl _)) (by omega) (Nat.le_refl _) ht8 (by simp)).mono ?_
  rintro e w3 ⟨v8, rfl, ⟨xs, ox, hx4⟩, d3⟩
  have OX := Lib.hid ox; clear ox
  have z3 := d3.size
  have d13 : D g w1 w3 := D.trans dx d3
  have BT := Lib.hid (BTX.out.d d3 (by omega))
  have OT3 := Lib.hid (OTX.out.d d3 (by omega))
  have HC3 := Lib.hid (d13.cur HC.out)
  have hg3 : g < w3.heap.size := by omega
  have nb0 : ¬ w2.heap.size = g := by omega
  have ea3 : Ext wa w3 := d13.ext e1 hg
  have ew3 : Ext w w3 := Ext.trans ea ea3
  have HCB3 := Lib.hid (d13.cur HCB.out)
  have mb0 : wa.heap.size ≤ w2.heap.size := by omega
  have b4_ := BT.out.ext (w' := w3) xe
  have lb4_ := b4_.lt
  obtain ⟨qb4__0, qb4__1⟩ := blk2 b4_
  have fb4__0 := b4_.frozen 0
  have fb4__1 := b4_.frozen 1
  clear b4_
  go_wp2_with fail
  have hg_ : g < w1.heap.size := hg1
  refine wp_region_LT 9 (E := D g) (w0 := w3) (G := fun τ => match τ with | 22 => some (fun v W => IntsD w3.heap.size [2] v W) | 23 => some (fun v W => ∃ s : DSignature, v = .agg #[I s.asn, I s.value]) | 21 => some (fun v W => ∃ x : Int, v = I x) | _ => none) (D.refl g) (fun h k => D.trans h k) (by kernel_rfl) (by kernel_rfl) (by kernel_rfl) (by kernel_rfl) (by kernel_rfl) (by kernel_rfl) (by intro t φ hG; split at hG; all_goals first | (cases hG; done) | (cases Option.some.inj hG; intro v W W' hE hv; first | exact hv | exact hv.d hE (by omega) | (obtain ⟨y, hy⟩ := hv; exact ⟨y, Fresh1.d hy hE (by omega)⟩))) (D.drew (by exact D.refl _ _)) ?_
  simp only [List.take_succ_cons, List.take_zero]
  repeat' (first
    | ((with_reducible refine wpL_skip ?_ ?_ ?_)
       · rfl
       · rfl
       simp only [Act.put, List.setIfInBounds_toArray, List.set_cons_zero, List.set_cons_succ])
    | ((with_reducible refine wpL_quiet ?_ ?_ ?_ ?_)
       · rfl
       · rfl
       · rfl
       apply Exists.intro
       refine ⟨fun W hW hS => ?_, ?_⟩
       · have hC := (D.facts hW).1
         go_simp
         first | done | (with_reducible rfl) | (rw [if_neg (by omega)]; exact ⟨rfl, rfl⟩) | rfl
       first | (with_reducible refine wpL_boolT ?_) | (with_reducible refine wpL_boolF ?_) | (with_reducible refine wpL_bool (fun hB => ?_) (fun hB => ?_)) | skip
       all_goals simp only [Act.put, List.setIfInBounds_toArray, List.set_cons_zero, List.set_cons_succ])
    | ((refine wpL_grow ?_ rfl rfl ?_ ?_)
       · rfl
       · intro W hW hS
         have hC := (D.facts hW).1
         unfold growAt
         go_simp
         simp only [growUpon]
         first | (exact ⟨D.of_ext ((Ext.refl _).alloc _) (Nat.lt_of_lt_of_le hg3 hW.size), own_newN _ _ 1 1 _ _ [I 2] rfl rfl (by unfold maxLen; omega) hW.size⟩) | (have hi : IntsD w3.heap.size [2] _ W := hS 22 (by decide); go_at_call 28; (with_reducible refine Calls.mono (spec_SignAs _ x21 _ t [2] _ (by exact TopologyO_rd (OT3.out.d hW hg_) (by have := hW.size; omega)) (by exact IntSO_rd hi.so) (by simp)) ?_); rintro e w9 ⟨rfl, e9⟩; exact ⟨_, rfl, D.of_ext e9 (Nat.lt_of_lt_of_le hg3 hW.size), ⟨_, rfl⟩⟩) | (go_at_call 96; (with_reducible refine Calls.mono (spec_l1Below g _ _ (hW.cur HC3.out) (by omega)) ?_); rintro e w9 ⟨x, rfl, -, d9⟩; exact ⟨_, rfl, d9, ⟨x, rfl⟩⟩)
       intro v W' hW' hv
       first | ((with_reducible refine intro_at 22 _ ?_); skip) | ((with_reducible refine intro_at 23 _ ?_); obtain ⟨s23, rfl⟩ := hv) | ((with_reducible refine intro_at 21 _ ?_); obtain ⟨x21, rfl⟩ := hv) | (obtain ⟨A5, n5, c5, rfl, -⟩ := id hv; clear hv) | (obtain ⟨A5, n5, c5, rfl⟩ := NO.slice hv) | skip
       all_goals simp only [Act.put, List.setIfInBounds_toArray, List.set_cons_zero, List.set_cons_succ]))
  refine wpL_nil (fun w4 e4 hL => ?_)
  clear hL
  have z4 := e4.size
  have d14 : D g w1 w4 := D.trans d13 e4
  have ew4 : Ext w w4 := Ext.trans ea (D.ext d14 e1 hg)
  have BA0 := Lib.hid (B0.out.ext (w' := w4) (D.ext d14 e1 hg))
  have lt0 : w.heap.size < wa.heap.size := by omega
  have c0_ := BA0.out.ext (w' := w4) xe
  have lc0_ := c0_.lt
  obtain ⟨qc0__0, qc0__1⟩ := blk2 c0_
  have fc0__0 := c0_.frozen 0
  have fc0__1 := c0_.frozen 1
  clear c0_
  simp only [List.drop_succ_cons, List.drop_zero]
  go_wp2_with fail
  refine bodyPost_ret (v := .tuple #[v8, .agg #[I s23.asn, I s23.value]]) (by simp [results, Try.results20, go_sem, *]) rfl ⟨⟨_, s23, rfl, xs, ?_, by omega⟩, ?_⟩
  · exact SignatureSO.kp (m := wa.heap.size) (OX.out.d e4 (by omega)) kp (by omega) (by omega)
  · exact xset
set_option maxRecDepth 100000 in
set_option maxHeartbeats 1000000 in
theorem spec_DrawEqualSignatures (vb : Value) (bs : List Nat) (w : World) (hb : ByteS w.heap.size w vb bs) (hn : bs.length ≤ 1048576) : Calls Try.prog 21 #[vb] w fun e w' => (∃ va vc, e = .returned (.tuple #[va, vc]) ∧ OutVotes w' va ∧ OutVotes w' vc) ∧ Ext w w' := by
  have HB := Lib.hid hb; clear hb
  go_enter Try.func21, Try.ntmps21
  go_wp2_with fail
  refine (spec_l1NewB vb bs w.heap.size w HB.out (Nat.le_refl _) hn).mono ?_
  rintro e w1 ⟨g, rfl, hg, hcur, e1⟩
  have HC := Lib.hid hcur.cur
  have hg1 := hcur.lt
  clear hcur
  have z1 := e1.size
  go_wp2_with fail
  refine (spec_l5Draw g w1 HC.out).mono ?_
  rintro e w2 ⟨v1, rfl, ⟨t, ot, hdt⟩, d2⟩
  have z2 := d2.size
  obtain ⟨At_0, nt_0, ct_0, At_1, nt_1, ct_1, rfl⟩ := TopologyO.shape ot
  have OT := Lib.hid ot; have HDT := Lib.hid hdt; clear ot
  have ht8 : t.ases.length ≤ 8 := hdt.2.1
  clear hdt
  go_wp2_with fail
  refine name_calls (fun W => ∃ wx, Ext w2 wx ∧ wx.heap.size = w2.heap.size + 1 ∧ Blk wx w2.heap.size 27 [.slice At_0 nt_0 ct_0, .slice At_1 nt_1 ct_1] ∧ Ext wx W ∧ W.heap.size = wx.heap.size + 1 ∧ IntSO wx.heap.size W.heap.size W (.slice (some ⟨w2.heap.size + 1, 0, none⟩) 1 1) [1]) ⟨_, xe, by simp only [World.size_alloc], xb, xe, by simp only [World.size_alloc], own_newN _ _ 1 1 _ _ [I 1] (by simp only [World.size_alloc]) rfl (by unfold maxLen; omega) (Nat.le_refl _)⟩ ?_
  rintro wy ⟨wx, ex, zx_, b5, ey, zy_, hone⟩
  obtain ⟨zx, zx'⟩ := le_both zx_
  obtain ⟨zy, zy'⟩ := le_both zy_
  clear zx_ zy_
  have BTX := Lib.hid (b5.ext ey); have HONE := Lib.hid hone; clear b5 hone
  have hnt8 : nt_0 ≤ 8 := by
    obtain ⟨_, _, _, _, _, _, e, s0, -⟩ := OT.out.v
    have h := s0.len
    simp only [Value.agg.injEq, Array.mk.injEq, List.cons.injEq, Value.slice.injEq] at e
    omega
  have dx : D g w1 wy := D.trans d2 (D.of_ext (Ext.trans ex ey) (by omega))
  have OTX := Lib.hid (OT.out.ext (Ext.trans ex ey) (Nat.le_refl _))
  refine (spec_l17Votes g _ _ t [1] w1.heap.size wy.heap.size wy (dx.cur HC.out) (OTX.out.more (Nat.le_refl _) (by omega)) (Own.more HONE.out (by omega) (Nat.le_refl _)) (by omega) (Nat.le_refl _) ht8 (by simp)).mono ?_
  rintro e w3 ⟨v8, rfl, ⟨xs, ox, hx4⟩, d3⟩
  have OX := Lib.hid ox; clear ox
  have z3 := d3.size
  have d13 : D g w1 w3 := D.trans dx d3
  have BT := Lib.hid (BTX.out.d d3 (by omega))
  have OT3 := Lib.hid (OTX.out.d d3 (by omega))
  have HC3 := Lib.hid (d13.cur HC.out)
  have hg3 : g < w3.heap.size := by omega
  have nb0 : ¬ w2.heap.size = g := by omega
  have ew3 : Ext w w3 := d13.ext e1 hg
  go_wp2_with fail
  refine (spec_l1Once g 2 w3 HC3.out (by omega)).mono ?_
  rintro e w4 ⟨b4, rfl, d4⟩
  have z4 := d4.size
  obtain ⟨av, nv, cv, hvv⟩ := OX.out.slice
  subst hvv
  obtain ⟨hnv, hnm⟩ := NO.row OX.out
  subst hnv
  have OX4 := Lib.hid (OX.out.d d4 (by omega))
  have d14 : D g w1 w4 := D.trans d13 d4
  have ew4 : Ext w w4 := d14.ext e1 hg
  cases b4
  · have BT4 := Lib.hid (BT.out.d d4 (by omega))
    have OT4 := Lib.hid (OT3.out.d d4 (by omega))
    have b4_ := BT4.out.ext (w' := w4) xe
    have lb4_ := b4_.lt
    obtain ⟨qb4__0, qb4__1⟩ := blk2 b4_
    have fb4__0 := b4_.frozen 0
    have fb4__1 := b4_.frozen 1
    clear b4_
    go_wp2_with fail
    refine name_calls (fun W => Ext w4 W ∧ W.heap.size = w4.heap.size + 1 ∧ IntSO w4.heap.size W.heap.size W (.slice (some ⟨w4.heap.size, 0, none⟩) 1 1) [1]) ⟨xe, by simp only [World.size_alloc], own_newN _ _ 1 1 _ _ [I 1] rfl rfl (by unfold maxLen; omega) (Nat.le_refl _)⟩ ?_
    rintro w5 ⟨e5, z5, hone2⟩
    have HT2 := Lib.hid hone2; clear hone2
    have d5 : D g w4 w5 := D.of_ext e5 (by omega)
    refine (spec_l17Votes g _ _ t [1] w1.heap.size w5.heap.size w5 ((D.trans d14 d5).cur HC.out) ((OT4.out.d d5 (by omega)).more (Nat.le_refl _) (by omega)) (Own.more HT2.out (by omega) (Nat.le_refl _)) (by omega) (Nat.le_refl _) ht8 (by simp)).mono ?_
    rintro e w6 ⟨v9, rfl, ⟨ys, oy, hy4⟩, d6⟩
    have z6 := d6.size
    go_wp2_with fail
    refine bodyPost_ret (v := .tuple #[.slice av xs.length cv, v9]) (by simp [results, Try.results21, go_sem, *]) rfl ⟨⟨_, _, rfl, ⟨xs, SignatureSO_rd (Own.more ((OX4.out.d d5 (by omega)).d d6 (by omega)) (Nat.le_refl _) (by omega)), by omega⟩, ys, SignatureSO_rd oy, by omega⟩, D.ext (D.trans (D.trans d14 d5) d6) e1 hg⟩
  · go_wp2_with (at_builtin; refine hold ?_)
    refine unhold (wpList_app w4 rfl (.tmp 18) (.tmp 19) _ rfl 36 _ 2 16 Try.underlying31 info_Signature rfl (by omega) _ 0 [] rfl av xs.length cv (xs.flatMap SignatureC) rfl
      (own_zero' w4 _ 2 _ _ rfl (Nat.le_refl _)) (by exact row_Signature ((SignatureSO_rd (Own.more OX4.out (Nat.le_refl _) (by omega))).ext ((Ext.refl _).alloc _))) (one_Signature xs) (by exact (Ext.refl _).alloc _) (by unfold maxLen; omega) (by omega) ?_)
    intro v5 w5 o5 e5 _ _
    simp only [Nat.zero_add, List.nil_append] at o5
    have O5 := Lib.hid o5; clear o5
    go_wp2_with (at_builtin; refine hold ?_)
    refine bodyPost_ret (v := .tuple #[.slice av xs.length cv, v5]) (by simp [results, Try.results21, go_sem, *]) rfl ⟨⟨_, _, rfl, ⟨xs, SignatureSO_rd (Own.more (Own.ext OX4.out e5 (by omega)) (Nat.le_refl _) (by have := e5.size; omega)), by omega⟩, xs, SignatureSO_rd O5.out, by omega⟩, Ext.trans ew4 e5⟩
end Go.Proofs.Ytmlfnfflpacchaa
