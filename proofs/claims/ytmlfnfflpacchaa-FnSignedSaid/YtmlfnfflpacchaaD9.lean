/- Contracts of the reference's draws of sets, numbers, votes and roots with a thing turned: l4Set, l3Word, l17Votes, l18Any. No conditions. -/
import Derived.Test.YtmlfnfflpacchaaD7
import Derived.Test.YtmlfnfflpacchaaNestAt



namespace Go.Proofs.Ytmlfnfflpacchaa
open Go.RowKit
set_option linter.unusedVariables false
theorem intro_at {P : Program} {ops : Array Oper} {E : World → World → Prop} {w0 : World} {G : Tmp → Option (Value → World → Prop)} {Q : Act → World → Prop} {rest : List Oper} {a : Act} {L : List (Tmp × (World → Prop))} (t : Tmp) (p : World → Prop) (h : wpL P ops E w0 G Q rest a ((t, p) :: L)) : wpL P ops E w0 G Q rest a ((t, p) :: L) := h
theorem Zero1.d {E lo g : Nat} {zs : List Value} {v : Value} {W W' : World} (h : Zero1 E lo zs v W) (hd : D g W W') (hg : g < lo) : Zero1 E lo zs v W' := by
  obtain ⟨k, e, hk, hb⟩ := h
  exact ⟨k, e, hk, hb.d hd (by omega)⟩
theorem shl_ok : ∀ k : Nat, k < 17 → wrap64 ((2 : Int) ^ k) ≤ 16777216 := by decide +kernel
/-- Numbers, and votes, of the call's own while a cursor is turned. -/
def IntsD (lo : Nat) (l : List Int) (v : Value) (W : World) : Prop := IntSO lo W.heap.size W v l
theorem IntsD.d {lo g : Nat} {l : List Int} {v : Value} {W W' : World} (h : IntsD lo l v W) (hd : D g W W') (hg : g < lo) : IntsD lo l v W' := Own.dUp h hd hg
theorem IntsD.so {lo : Nat} {l : List Int} {v : Value} {W : World} (h : IntsD lo l v W) : IntSO lo W.heap.size W v l := h
def VotesD (lo n : Nat) (v : Value) (W : World) : Prop := ∃ xs : List DSignature, SignatureSO lo W.heap.size W v xs ∧ xs.length ≤ n
theorem VotesD.d {lo n g : Nat} {v : Value} {W W' : World} (h : VotesD lo n v W) (hd : D g W W') (hg : g < lo) : VotesD lo n v W' := by
  obtain ⟨xs, h1, h2⟩ := h
  exact ⟨xs, Own.dUp h1 hd hg, h2⟩
set_option maxRecDepth 100000 in
set_option maxHeartbeats 1000000 in
theorem spec_l4Set (g : Nat) (w : World) (hc : Cur w g) : Calls Try.prog 144 #[.pointer (some ⟨g, 0, none⟩)] w fun e w' => ∃ x : Int, e = .returned (I x) ∧ D g w w' := by
  have HC := Lib.hid hc
  have hgw := hc.lt
  clear hc
  go_enter Try.func144, Try.ntmps144
  go_wp2_with fail
  refine (spec_l1Once g 8 w HC.out (by omega)).mono ?_
  rintro e w1 ⟨b, rfl, d1⟩
  have z1 := d1.size
  cases b
  · go_wp2_with fail
    refine (spec_l1Below g 17 w1 (d1.cur HC.out) (by omega)).mono ?_
    rintro e w2 ⟨x, rfl, ⟨x0, x1, -⟩, d2⟩
    have x1 := x1 (by omega)
    go_wp2_with fail
    refine (spec_l1Below g (wrap64 (2 ^ x.toNat)) w2 (d2.cur (d1.cur HC.out)) (shl_ok _ (by omega))).mono ?_
    rintro e w3 ⟨y, rfl, -, d3⟩
    go_wp2_with fail
    go_ret
    exact ⟨_, rfl, xd⟩
  · go_wp2_with fail
    have dn : D g w1 (w1.alloc (.cells #[I (-1), I 65535, I 65536] 3)) := D.alloc (D.refl _ _) (by omega) _
    refine (spec_l1Int g _ [-1, 65535, 65536] _ (dn.cur (d1.cur HC.out)) (own_newN w1 3 1 3 (g + 1) w1.heap.size [I (-1), I 65535, I 65536] rfl rfl (by unfold maxLen; omega) (by omega)) (by decide) (by decide)).mono ?_
    rintro e w2 ⟨x, rfl, -, d2⟩
    go_wp2_with fail
    go_ret
    exact ⟨_, rfl, D.trans d1 (D.trans dn d2)⟩
set_option maxRecDepth 100000 in
set_option maxHeartbeats 1000000 in
theorem spec_l3Word (g : Nat) (w : World) (hc : Cur w g) : Calls Try.prog 100 #[.pointer (some ⟨g, 0, none⟩)] w fun e w' => ∃ x : Int, e = .returned (I x) ∧ D g w w' := by
  have HC := Lib.hid hc
  have hgw := hc.lt
  clear hc
  go_enter Try.func100, Try.ntmps100
  go_wp2_with fail
  refine (spec_l1Once g 10 w HC.out (by omega)).mono ?_
  rintro e w1 ⟨b, rfl, d1⟩
  have z1 := d1.size
  cases b
  · go_wp2_with fail
    refine (spec_l1Once g 4 w1 (d1.cur HC.out) (by omega)).mono ?_
    rintro e w2 ⟨b2, rfl, d2⟩
    have z2 := d2.size
    have d12 := D.trans d1 d2
    cases b2
    · go_wp2_with fail
      refine (spec_l1Below g 1000000 w2 (d12.cur HC.out) (by omega)).mono ?_
      rintro e w3 ⟨x, rfl, -, d3⟩
      go_wp2_with fail
      refine (spec_l1Below g 2000 w3 (d3.cur (d12.cur HC.out)) (by omega)).mono ?_
      rintro e w4 ⟨y, rfl, -, d4⟩
      go_wp2_with fail
      go_ret
      exact ⟨_, rfl, xd⟩
    · go_wp2_with fail
      have dn : D g w2 (w2.alloc (.cells #[I 0, I 1, I 2147483646] 3)) := D.alloc (D.refl _ _) (by omega) _
      refine (spec_l1Int g _ [0, 1, 2147483646] _ (dn.cur (d12.cur HC.out)) (own_newN w2 3 1 3 (g + 1) w2.heap.size [I 0, I 1, I 2147483646] rfl rfl (by unfold maxLen; omega) (by omega)) (by decide) (by decide)).mono ?_
      rintro e w3 ⟨x, rfl, -, d3⟩
      go_wp2_with fail
      go_ret
      exact ⟨_, rfl, D.trans d12 (D.trans dn d3)⟩
  · go_wp2_with fail
    have dn : D g w1 (w1.alloc (.cells #[I (-1), I 2147483647, I 2147483648] 3)) := D.alloc (D.refl _ _) (by omega) _
    refine (spec_l1Int g _ [-1, 2147483647, 2147483648] _ (dn.cur (d1.cur HC.out)) (own_newN w1 3 1 3 (g + 1) w1.heap.size [I (-1), I 2147483647, I 2147483648] rfl rfl (by unfold maxLen; omega) (by omega)) (by decide) (by decide)).mono ?_
    rintro e w2 ⟨x, rfl, -, d2⟩
    go_wp2_with fail
    go_ret
    exact ⟨_, rfl, D.trans d1 (D.trans dn d2)⟩
set_option maxRecDepth 100000 in
set_option maxHeartbeats 1000000 in
theorem spec_l17Votes (g : Nat) (vt vl : Value) (t : DTopology) (l : List Int) (lo hi : Nat) (w : World) (hc : Cur w g) (ht : TopologyO lo hi w vt t) (hl : IntSO lo hi w vl l) (hg : g < lo) (hhi : hi ≤ w.heap.size) (hn : t.ases.length ≤ 8) (hll : l.length ≤ 100) :
    Calls Try.prog 97 #[.pointer (some ⟨g, 0, none⟩), vt, vl] w fun e w' => ∃ v', e = .returned v' ∧ (∃ xs : List DSignature, SignatureSO w.heap.size w'.heap.size w' v' xs ∧ xs.length ≤ 4) ∧ D g w w' := by
  have HC := Lib.hid hc
  have hgw := hc.lt
  have HT := Lib.hid ht
  have HL := Lib.hid hl
  obtain ⟨At_0, nt_0, ct_0, At_1, nt_1, ct_1, rfl, st_0, st_1⟩ := ht.v
  obtain ⟨lt_0, kt_0, mt_0⟩ := st_0.len
  subst lt_0
  obtain ⟨Al, nl, cl, rfl⟩ := hl.slice
  clear hc st_0 st_1 ht hl
  go_enter Try.func97, Try.ntmps97
  go_wp2_with fail
  refine name_calls (fun W => ∃ wb, D g w wb ∧ wb.heap.size = w.heap.size + 1 ∧ Blk wb w.heap.size 27 [.slice At_0 t.ases.length ct_0, .slice At_1 nt_1 ct_1] ∧ D g wb W ∧ W.heap.size = wb.heap.size + 1 ∧ SignatureSO wb.heap.size W.heap.size W (.slice (some ⟨w.heap.size + 1, 0, none⟩) 0 0) []) ⟨_, D.alloc (D.refl _ _) hgw _, by simp only [World.size_alloc], xb, D.alloc (D.refl _ _) (by simp only [World.size_alloc]; omega) _, by simp only [World.size_alloc], own_zero' _ _ _ _ _ (by simp) (Nat.le_refl _)⟩ ?_
  rintro w0 ⟨wb, db, zb, bt, d0, z0, hz⟩
  have BT := Lib.hid bt; have HZ := Lib.hid hz; clear bt hz
  have HCB := Lib.hid (db.cur HC.out)
  have hgb : g < wb.heap.size := by omega
  refine (spec_l1Below g 5 w0 (d0.cur HCB.out) (by omega)).mono ?_
  rintro e w1 ⟨x1, rfl, ⟨x1a, x1b, -⟩, d1⟩
  have x1b := x1b (by omega)
  obtain ⟨c1, rfl⟩ : ∃ c1 : Nat, x1 = (c1 : Int) := ⟨x1.toNat, by omega⟩
  go_wp2_with fail
  go_loopw [7, 8] (fun v i wr => ∃ (kk : Nat) (xs : List DSignature), kk ≤ 4 ∧ i = I kk ∧ SignatureSO wb.heap.size wr.heap.size wr v xs ∧ xs.length + kk ≤ 4 ∧ D g wb wr) (fun _ i _ => (intOf i).toNat)
  case atStart => exact ⟨c1, [], by omega, rfl, Own.dUp HZ.out d1 (by omega), by simp; omega, D.trans d0 d1⟩
  case round =>
    obtain ⟨kk, xs, hkk, rfl, hno, hlk, hd⟩ := hrel
    obtain ⟨av, nv, cv, hvv⟩ := hno.slice
    subst hvv
    obtain ⟨hnv, -⟩ := NO.row hno
    subst hnv
    have HNO := Lib.hid hno; clear hno
    have zr := hd.size
    have hgr : g < wr.heap.size := by omega
    have HBT := Lib.hid (BT.out.d hd (by omega))
    have HCR := Lib.hid (hd.cur HCB.out)
    have dwr : D g w wr := D.trans db hd
    by_cases hk0 : 0 < kk
    · obtain ⟨km, rfl⟩ : ∃ km : Nat, kk = km + 1 := ⟨kk - 1, by omega⟩
      have i2 : (0 : Int) < ((km + 1 : Nat) : Int) := by omega
      have HTr := Lib.hid (HT.out.d dwr hg)
      have HLr := Lib.hid (HL.out.d dwr hg)
      have hhr : hi ≤ wr.heap.size := by have := dwr.size; omega
      have nb0 : ¬ w.heap.size = g := by omega
      have b0 := HBT.out.ext (w' := wr) xe
      have lb0 := b0.lt
      obtain ⟨qb0_0, qb0_1⟩ := blk2 b0
      have fb0_0 := b0.frozen 0
      have fb0_1 := b0.frozen 1
      clear b0
      go_wp2_with fail
      refine wp_region_LT 9 (E := D g) (w0 := wr) (G := fun τ => match τ with | 9 => some (fun v W => Zero1 36 wr.heap.size [I 0, I 0] v W) | 24 => some (fun v W => ∃ s : DSignature, v = .agg #[I s.asn, I s.value]) | 22 => some (fun v W => ∃ x : Int, v = I x) | _ => none) (D.refl g) (fun h k => D.trans h k) (by kernel_rfl) (by kernel_rfl) (by kernel_rfl) (by kernel_rfl) (by kernel_rfl) (by kernel_rfl) (by intro t φ hG; split at hG; all_goals first | (cases hG; done) | (cases Option.some.inj hG; intro v W W' hE hv; first | exact hv | exact hv.d hE (by omega) | (obtain ⟨y, hy⟩ := hv; exact ⟨y, Fresh1.d hy hE (by omega)⟩))) (D.drew (by exact D.refl _ _)) ?_
      simp only [List.take_succ_cons, List.take_zero]
      repeat' (first
        | ((with_reducible refine wpL_skip ?_ ?_ ?_)
           · rfl
           · rfl
           simp only [Act.put, List.setIfInBounds_toArray, List.set_cons_zero, List.set_cons_succ])
        | ((with_reducible refine wpL_quiet ?_ ?_ ?_ ?_)
           · rfl
           · rfl
           · rfl
           apply Exists.intro
           refine ⟨fun W hW hS => ?_, ?_⟩
           · have hC := (D.facts hW).1
             go_simp
             first | done | (with_reducible rfl) | (rw [if_neg (by omega)]; exact ⟨rfl, rfl⟩) | rfl
           first | (with_reducible refine wpL_boolT ?_) | (with_reducible refine wpL_boolF ?_) | (with_reducible refine wpL_bool (fun hB => ?_) (fun hB => ?_)) | skip
           all_goals simp only [Act.put, List.setIfInBounds_toArray, List.set_cons_zero, List.set_cons_succ])
        | ((refine wpL_grow ?_ rfl rfl ?_ ?_)
           · rfl
           · intro W hW hS
             have hC := (D.facts hW).1
             unfold growAt
             go_simp
             simp only [growUpon]
             first | (exact ⟨D.of_ext ((Ext.refl _).alloc _) (Nat.lt_of_lt_of_le hgr hW.size), ⟨_, rfl, hW.size, Blk.new _ _ _⟩⟩) | (go_at_call 28; (with_reducible refine Calls.mono (spec_SignAs _ x22 _ t l _ (by exact TopologyO_rd (HTr.out.d hW hg) (Nat.le_trans hhr hW.size)) (by exact IntSO_rd (Own.more (HLr.out.d hW hg) (Nat.le_refl _) (Nat.le_trans hhr hW.size))) (by omega)) ?_); rintro e w9 ⟨rfl, e9⟩; exact ⟨_, rfl, D.of_ext e9 (Nat.lt_of_lt_of_le hgr hW.size), ⟨_, rfl⟩⟩) | (go_at_call 96; (with_reducible refine Calls.mono (spec_l1Below g _ _ (hW.cur HCR.out) (by omega)) ?_); rintro e w9 ⟨x, rfl, -, d9⟩; exact ⟨_, rfl, d9, ⟨x, rfl⟩⟩)
           intro v W' hW' hv
           first | ((with_reducible refine intro_at 9 _ ?_); obtain ⟨g9, rfl, hg9, hb9⟩ := hv) | ((with_reducible refine intro_at 24 _ ?_); obtain ⟨s24, rfl⟩ := hv) | ((with_reducible refine intro_at 22 _ ?_); obtain ⟨x22, rfl⟩ := hv) | (obtain ⟨A5, n5, c5, rfl, -⟩ := id hv; clear hv) | (obtain ⟨A5, n5, c5, rfl⟩ := NO.slice hv) | skip
           all_goals simp only [Act.put, List.setIfInBounds_toArray, List.set_cons_zero, List.set_cons_succ]))
      refine wpL_nil (fun w5 e5 hL => ?_)
      obtain ⟨g9, hv9, hg9, hb9⟩ : Zero1 36 wr.heap.size [I 0, I 0] _ w5 := hL 9
      cases hv9
      clear hL lb0 qb0_0 qb0_1 fb0_0 fb0_1
      have z5 := e5.size
      have HB9 := Lib.hid hb9; clear hb9
      have b9 := HB9.out.ext (w' := w5) xe
      have lb9 := b9.lt
      obtain ⟨qb9_0, qb9_1⟩ := blk2 b9
      have fb9_0 := b9.frozen 0
      have fb9_1 := b9.frozen 1
      clear b9
      simp only [List.drop_succ_cons, List.drop_zero]
      go_wp2_with fail
      refine name_calls (fun W => D g wr W ∧ W.heap.size = w5.heap.size ∧ Blk W g9 36 [I s24.asn, I s24.value]) ⟨D.setNew (D.setNew e5 hgr (by dsimp only; omega) _) hgr (by dsimp only; omega) _, by simp only [World.size_setCell], by simpa using (HB9.out.set_ 0 (I s24.asn)).set_ 1 (I s24.value)⟩ ?_
      clear lb9 qb9_0 qb9_1 fb9_0 fb9_1
      rintro w6 ⟨d6, z6, hb6⟩
      have HB6 := Lib.hid hb6; clear hb6
      refine (spec_l1Once g 5 w6 (d6.cur HCR.out) (by omega)).mono ?_
      rintro e w7 ⟨b7, rfl, d7⟩
      have z7 := d7.size
      have HB7 := Lib.hid (HB6.out.d d7 (by omega))
      cases b7
      case' true =>
        go_wp2_with fail
        refine (spec_l3Word g w7 (D.cur (D.trans d6 d7) HCR.out)).mono ?_
        rintro e w8 ⟨y8, rfl, d8⟩
        have z8 := d8.size
        have HB8 := Lib.hid (HB7.out.d d8 (by omega))
        have b8 := HB8.out.ext (w' := w8) xe
        have lb8 := b8.lt
        obtain ⟨qb8_0, qb8_1⟩ := blk2 b8
        have fb8_0 := b8.frozen 0
        have fb8_1 := b8.frozen 1
        clear b8
        go_wp2_with (at_builtin; refine hold ?_)
        refine unhold (name_wpl (fun W => D g wr W ∧ ∃ (gn : Nat) (y : DSignature), gn = w8.heap.size ∧ wr.heap.size ≤ gn ∧ Blk W gn 36 [I y.asn, I y.value]) ⟨D.alloc (D.setNew (D.trans (D.trans d6 d7) d8) hgr (by dsimp only; omega) _) hgr _, _, ⟨s24.asn, y8⟩, rfl, by omega, xb⟩ ?_)
      case' false =>
        have b8 := HB7.out.ext (w' := w7) xe
        have lb8 := b8.lt
        obtain ⟨qb8_0, qb8_1⟩ := blk2 b8
        have fb8_0 := b8.frozen 0
        have fb8_1 := b8.frozen 1
        clear b8
        go_wp2_with (at_builtin; refine hold ?_)
        refine unhold (name_wpl (fun W => D g wr W ∧ ∃ (gn : Nat) (y : DSignature), gn = w7.heap.size ∧ wr.heap.size ≤ gn ∧ Blk W gn 36 [I y.asn, I y.value]) ⟨D.alloc (D.trans d6 d7) hgr _, _, ⟨s24.asn, s24.value⟩, rfl, by omega, Blk.new _ _ _⟩ ?_)
      all_goals
        rintro wq ⟨dq, gn, yq, hgn, hgn2, hbn⟩
        have zq := dq.size
        have HNq := Lib.hid ((HNO.out.d dq (by omega)).lt_size)
        have HBN := Lib.hid hbn; clear hbn
        refine wpList_appL wb.heap.size rfl (.tmp 30) (.tmp 32) _ rfl 36 _ 2 16 Try.underlying31 info_Signature rfl (by omega) (.slice av xs.length cv) xs.length (xs.flatMap SignatureC) rfl _ 1 1 (SignatureC yq) rfl HNq.out (by rw [← hgn]; exact row_blk HBN.out rfl) (fun u hu => one_Signature [yq] u (by simpa using hu)) (by omega) (by unfold maxLen; omega) (by omega) ?_
        intro v10 w10 o10 hg10
        have d10 : D g wb w10 := D.grown (D.trans hd dq) hgb hg10 (fun j hj => by have := (HNq.out.1.lt j hj).1; omega)
        obtain ⟨a10, m10, q10, hv10⟩ := o10.slice
        subst hv10
        obtain ⟨hm10, -⟩ := NO.row o10
        subst hm10
        have o11 : SignatureSO wb.heap.size w10.heap.size w10 (.slice a10 (xs.length + 1) q10) (xs ++ [yq]) := by
          unfold SignatureSO
          rw [List.length_append, List.length_singleton, List.flatMap_append]
          simpa using o10
        have O11 := Lib.hid o11; clear o10 o11 hg10
        go_wp2_with (at_builtin; refine hold ?_)
        go_roundw
        case rel => exact ⟨km, xs ++ [yq], by omega, by go_num, O11.out, by simp; omega, d10⟩
        case measure => first | (simp [intOf]; done) | (simp [intOf]; omega)
    · have i2 : ¬ (0 : Int) < (kk : Int) := by omega
      go_wp2_with fail
      go_ret
      exact ⟨_, rfl, ⟨xs, Own.more HNO.out (by omega) (Nat.le_refl _), by omega⟩, dwr⟩
theorem TrustRootOC.v {B : Nat} {w : World} {fp : List Nat} {cs : List Value} {x : DTrustRoot} (h : TrustRootOC w fp cs x) (hb : ∀ b ∈ fp, b < B) : TrustRootV B w (.agg cs.toArray) x := by
  obtain ⟨u6, rfl, r6, ef⟩ := h
  have s6 : SignatureS B w u6 x.sigs := Own.sl (lo := 0) (n := x.sigs.length) (At := SignatureAt) ⟨r6, fun k hk => hb k (by rw [ef]; simp [hk])⟩ SignatureC.len (by omega) SignatureC.at_
  obtain ⟨A6, n6, c6, e6, _⟩ := id s6
  subst e6
  exact ⟨A6, n6, c6, rfl, s6⟩
theorem TrustRootOC.shape {w : World} {fp : List Nat} {cs : List Value} {x : DTrustRoot} (h : TrustRootOC w fp cs x) : ∃ A c, cs = [I x.isd, I x.version, I x.notBefore, I x.notAfter, I x.voters, I x.quorum, .slice A x.sigs.length c] := by
  obtain ⟨u6, e, r6, -⟩ := h
  obtain ⟨A, n, c, e6⟩ := ownsRow_slice r6
  subst e6
  have hr := NO.row (E := 36) (sz := 2) (lo := 0) (hi := w.heap.size + c + 1 + (A.map (fun a => a.block)).getD 0) (w := w) (n := x.sigs.length) ⟨r6, fun k hk => by (cases A with | none => simp [Value.ownBlock] at hk | some a => (simp [Value.ownBlock] at hk; simp; omega))⟩
  obtain ⟨rfl, -⟩ := hr
  exact ⟨A, c, e⟩
theorem TopologyO.setTT {T lo hi g : Nat} {w : World} {v : Value} {x : DTopology} {cs' : List Value} (h : TopologyO lo hi w v x) (hb : Blk w g T cs') (n0 : 102 ≠ T) (n1 : 156 ≠ T) (i : Nat) (u : Value) : TopologyO lo hi (w.setCell ⟨g, i, none⟩ u) v x := by
  obtain ⟨u0, u1, m1, e, o0, o1, l0, l1⟩ := h
  exact ⟨u0, u1, m1, e, Own.setT o0 hb n0 i u, Own.setT o1 hb n1 i u, l0, l1⟩
/-- What roots with a thing turned are like. -/
def DrawnRoots (l : List DTrustRoot) : Prop := 0 < l.length ∧ l.length ≤ 5 ∧ ∀ x ∈ l, x.sigs.length ≤ 16
theorem DrawnRoots.set {l : List DTrustRoot} (h : DrawnRoots l) (k : Nat) (x : DTrustRoot) (hx : x.sigs.length ≤ 16) : DrawnRoots (l.set k x) := by
  refine ⟨by rw [List.length_set]; exact h.1, by rw [List.length_set]; exact h.2.1, fun y hy => ?_⟩
  rcases List.mem_or_eq_of_mem_set hy with h1 | rfl
  · exact h.2.2 y h1
  · exact hx
def rootFlat (x : DTrustRoot) : List Int := [x.isd, x.version, x.notBefore, x.notAfter, x.voters, x.quorum]
theorem root_flat {lo hi gl k c : Nat} {W : World} {l : List DTrustRoot} {x y : DTrustRoot} {j : Nat} {n : Int} (h : TrustRootSO lo hi W (.slice (some ⟨gl, 0, none⟩) l.length c) l) (hk : k < l.length) (hx : x = l[k]) (hj : j < 6) (hs : y.sigs = x.sigs) (hy : rootFlat y = (rootFlat x).set j n) :
    TrustRootSO lo hi (W.setCell ⟨gl, k * 7 + j, none⟩ (I n)) (.slice (some ⟨gl, 0, none⟩) l.length c) (l.set k y) := by
  obtain ⟨g', f0, c0, hA, -, -, -, -, hoc, -, hnd0, -, -, -, -, hset⟩ := NO.elem TrustRootOC.keeps h hk
  cases hA
  rw [← hx] at hoc
  obtain ⟨u6, rfl, r6, ef⟩ := hoc
  refine hset j (I n) f0 y hi (by omega) (Nat.le_refl _) ?_ hnd0 (.inl rfl)
  refine ⟨u6, ?_, by rw [hs]; exact r6, ef⟩
  have e1 : [I x.isd, I x.version, I x.notBefore, I x.notAfter, I x.voters, I x.quorum, u6] = (rootFlat x).map I ++ [u6] := rfl
  have e2 : [I y.isd, I y.version, I y.notBefore, I y.notAfter, I y.voters, I y.quorum, u6] = (rootFlat y).map I ++ [u6] := rfl
  rw [e1, e2, hy, List.set_append_left _ _ (by simpa [rootFlat] using hj), List.map_set]
theorem root_sigs {lo hi mid gl k c m q : Nat} {W : World} {l : List DTrustRoot} {A : Option Addr} {xs : List DSignature} (h : TrustRootSO lo hi W (.slice (some ⟨gl, 0, none⟩) l.length c) l) (hk : k < l.length) (hx : SignatureSO mid W.heap.size W (.slice A m q) xs) (hm : hi ≤ mid) (hh : hi ≤ W.heap.size) :
    TrustRootSO lo W.heap.size (W.setCell ⟨gl, k * 7 + 6, none⟩ (.slice A m q)) (.slice (some ⟨gl, 0, none⟩) l.length c) (l.set k { l[k] with sigs := xs }) := by
  obtain ⟨g', f0, c0, hA, -, -, -, -, hoc, -, hnd0, -, -, -, -, hset⟩ := NO.elem TrustRootOC.keeps h hk
  cases hA
  obtain ⟨u6, rfl, r6, ef⟩ := hoc
  have d6 : ((Value.slice A m q).ownBlock.toList).Nodup := by cases (Value.slice A m q).ownBlock <;> simp
  refine hset 6 (.slice A m q) (Value.slice A m q).ownBlock.toList _ W.heap.size (by omega) hh ⟨_, rfl, (hx.more (Nat.zero_le _) (Nat.le_refl _)).1, rfl⟩ d6 (.inr fun b hb => ⟨?_, hx.2 b (by simpa using hb)⟩)
  have := (hx.1.lt b (by simpa using hb)).1
  omega
set_option maxRecDepth 100000 in
set_option maxHeartbeats 1000000 in
theorem spec_l18Any (g : Nat) (w : World) (hc : Cur w g) : Calls Try.prog 108 #[.pointer (some ⟨g, 0, none⟩)] w fun e w' => (∃ vt vl, e = .returned (.tuple #[vt, vl]) ∧ ∃ t l, TopologyO w.heap.size w'.heap.size w' vt t ∧ DrawnTopo t ∧ TrustRootSO w.heap.size w'.heap.size w' vl l ∧ DrawnRoots l) ∧ D g w w' := by
  have HC := Lib.hid hc
  have hgw := hc.lt
  clear hc
  go_enter Try.func108, Try.ntmps108
  go_wp2_with fail
  refine name_calls (fun W => D g w W ∧ W.heap.size = w.heap.size + 1 ∧ Blk W w.heap.size 27 [.slice none 0 0, .slice none 0 0]) ⟨D.alloc (D.refl _ _) hgw _, by simp only [World.size_alloc], xb⟩ ?_
  rintro wa ⟨da, za, br⟩
  have BR := Lib.hid br; clear br
  have HCA := Lib.hid (da.cur HC.out)
  refine (spec_l18Draw g wa HCA.out).mono ?_
  rintro e w2 ⟨⟨v1, v2, rfl, t, l, ot, hdt, ol, hl0, hl5, hp⟩, d2⟩
  have HDR : Hid (DrawnRoots l) := ⟨hl0, hl5, fun x hx => (hp x hx).1⟩
  clear hp
  have z2 := d2.size
  obtain ⟨At_0, nt_0, ct_0, At_1, nt_1, ct_1, rfl⟩ := TopologyO.shape ot
  obtain ⟨Al, nl, cl, rfl⟩ := NO.slice ol
  obtain ⟨A', n', c', e', ln', -, ml, -⟩ := id (TrustRootSO_rd ol (Nat.le_refl _))
  cases e'
  subst ln'
  unfold maxLen at ml
  have OT := Lib.hid ot; have OL := Lib.hid ol; have HDT := Lib.hid hdt; clear ot ol hdt
  have HC2 := Lib.hid (d2.cur HCA.out)
  go_wp2_with fail
  refine name_calls (fun W => D g w2 W ∧ W.heap.size = w2.heap.size + 1 ∧ Blk W w2.heap.size 27 [.slice At_0 nt_0 ct_0, .slice At_1 nt_1 ct_1]) ⟨D.alloc (D.refl _ _) (by omega) _, by simp only [World.size_alloc], xb⟩ ?_
  rintro w3 ⟨d3, z3, b3⟩
  have BT := Lib.hid b3; clear b3
  refine (spec_l1Below g (l.length : Int) w3 (d3.cur HC2.out) (by omega)).mono ?_
  rintro e w4 ⟨x4, rfl, ⟨x4a, x4b, -⟩, d4⟩
  have x4b := x4b (by omega)
  obtain ⟨k, rfl⟩ : ∃ k : Nat, x4 = (k : Int) := ⟨x4.toNat, by omega⟩
  have hk : k < l.length := by omega
  have HFIN : ∀ (W : World) (l2 : List DTrustRoot) (u0 u1 : Value), (D g wa W ∧ TopologyO wa.heap.size W.heap.size W (.agg #[.slice At_0 nt_0 ct_0, .slice At_1 nt_1 ct_1]) t ∧ Blk W w2.heap.size 27 [.slice At_0 nt_0 ct_0, .slice At_1 nt_1 ct_1]) → TrustRootSO wa.heap.size W.heap.size W (.slice Al l.length cl) l2 → DrawnRoots l2 →
      (∃ vt vl, Ending.returned (.tuple #[.agg #[.slice At_0 nt_0 ct_0, .slice At_1 nt_1 ct_1], .slice Al l.length cl]) = .returned (.tuple #[vt, vl]) ∧ ∃ t l, TopologyO w.heap.size ((W.setCell ⟨w.heap.size, 0, none⟩ u0).setCell ⟨w.heap.size, 1, none⟩ u1).heap.size ((W.setCell ⟨w.heap.size, 0, none⟩ u0).setCell ⟨w.heap.size, 1, none⟩ u1) vt t ∧ DrawnTopo t ∧ TrustRootSO w.heap.size ((W.setCell ⟨w.heap.size, 0, none⟩ u0).setCell ⟨w.heap.size, 1, none⟩ u1).heap.size ((W.setCell ⟨w.heap.size, 0, none⟩ u0).setCell ⟨w.heap.size, 1, none⟩ u1) vl l ∧ DrawnRoots l) ∧ D g w ((W.setCell ⟨w.heap.size, 0, none⟩ u0).setCell ⟨w.heap.size, 1, none⟩ u1) := by
    intro W l2 u0 u1 ⟨hd, ho, _⟩ hl hr
    refine ⟨⟨_, _, rfl, t, l2, ?_, HDT.out, ?_, hr⟩, ?_⟩
    · simp only [World.size_setCell]
      exact (ho.keep (fun k h1 h2 _ => (Below.heap_setCell _ _ _ _ (by dsimp only; omega)).trans (Below.heap_setCell _ _ _ _ (by dsimp only; omega)))).more (by omega) (by omega)
    · simp only [World.size_setCell]
      exact NO.more (TrustRootSO_setCell (TrustRootSO_setCell hl (.inl (by dsimp only; omega)) _) (.inl (by dsimp only; omega)) _) (by omega) (Nat.le_refl _)
    · exact D.setNew (D.setNew (D.trans da hd) hgw (by dsimp only; omega) _) hgw (by dsimp only; omega) _
  have HFIN2 := Lib.hid HFIN; clear HFIN
  go_wp2_with fail
  refine (spec_l1Below g 10 w4 (D.cur (D.trans d3 d4) HC2.out) (by omega)).mono ?_
  rintro e w5 ⟨x5, rfl, ⟨x5a, x5b, -⟩, d5⟩
  have x5b := x5b (by omega)
  have d25 : D g w2 w5 := D.trans (D.trans d3 d4) d5
  have z5 := d25.size
  have da5 : D g wa w5 := D.trans d2 d25
  have hg5 : g < w5.heap.size := by omega
  have OT5 := Lib.hid (OT.out.d d25 (by omega))
  have OL5 := Lib.hid (NO.d TrustRootOC.keeps OL.out d25 (by omega))
  have BT5 := Lib.hid (BT.out.d (D.trans d4 d5) (by omega))
  have BR5 := Lib.hid (BR.out.d da5 (by omega))
  have HC5 := Lib.hid (d25.cur HC2.out)
  have nb0 : ¬ w2.heap.size = g := by omega
  clear OT OL BT BR
  obtain ⟨gl, f0, c0, hA, -, hg1, hg2, hg3, hoc, hc0, hnd0, hbd0, hfr, hcell, ⟨csg, hblk⟩, -⟩ := NO.elem TrustRootOC.keeps OL5.out hk
  subst hA
  obtain ⟨x, hx⟩ : ∃ x, x = l[k] := ⟨_, rfl⟩
  have hxm := HDR.out.2.2 l[k] (List.getElem_mem hk)
  rw [← hx] at hoc hxm
  have HX := Lib.hid hx; clear hx
  obtain ⟨A6, c6, rfl⟩ := hoc.shape
  have q0 : w5.cell? ⟨gl, k * 7, none⟩ = some (I x.isd) := hcell 0 _ rfl; have q1 := hcell 1 _ rfl; have q2 := hcell 2 _ rfl; have q3 := hcell 3 _ rfl; have q4 := hcell 4 _ rfl; have q5 := hcell 5 _ rfl; have q6 := hcell 6 _ rfl
  have f1 := hfr 1; have f3 := hfr 3; have f4 := hfr 4; have f5 := hfr 5; have f6 := hfr 6
  have ngl : ¬ gl = g := by omega
  have k0 : (0 : Int) ≤ (k : Int) := by omega
  have k1 : (k : Int) < (l.length : Int) := by omega
  have HOC := Lib.hid hoc; have HBLK := Lib.hid hblk
  clear hoc hcell hfr hblk
  have HDT2 : ∀ (W : World) (u : Value), D g w5 W → ∀ j, D g wa (W.setCell ⟨gl, k * 7 + j, none⟩ u) ∧ TopologyO wa.heap.size (W.setCell ⟨gl, k * 7 + j, none⟩ u).heap.size (W.setCell ⟨gl, k * 7 + j, none⟩ u) (.agg #[.slice At_0 nt_0 ct_0, .slice At_1 nt_1 ct_1]) t ∧ Blk (W.setCell ⟨gl, k * 7 + j, none⟩ u) w2.heap.size 27 [.slice At_0 nt_0 ct_0, .slice At_1 nt_1 ct_1] := by
    intro W u hW j
    refine ⟨D.setNew (D.trans da5 hW) (by omega) (by dsimp only; omega) _, ?_, (BT5.out.d hW (by omega)).far (by dsimp only; omega) _⟩
    have h1 := (OT5.out.d hW (by omega)).setTT (HBLK.out.d hW ngl) (by decide) (by decide) (k * 7 + j) u
    exact h1.more (Nat.le_refl _) (by simp only [World.size_setCell]; have := hW.size; omega)
  have HDT3 := Lib.hid HDT2; clear HDT2
  have HFL : ∀ (W : World) (y : DTrustRoot) (j : Nat) (n : Int), D g w5 W → j < 6 → y.sigs = x.sigs → rootFlat y = (rootFlat x).set j n → TrustRootSO wa.heap.size (W.setCell ⟨gl, k * 7 + j, none⟩ (I n)).heap.size (W.setCell ⟨gl, k * 7 + j, none⟩ (I n)) (.slice (some ⟨gl, 0, none⟩) l.length cl) (l.set k y) := by
    intro W y j n hW hj hs hy
    have h1 := root_flat (NO.d TrustRootOC.keeps OL5.out hW (by omega)) hk HX.out hj hs hy
    exact h1.more (Nat.le_refl _) (by simp only [World.size_setCell]; have := hW.size; omega)
  have HFL2 := Lib.hid HFL; clear HFL
  obtain ⟨⟨p0_0, p0_1⟩, ⟨p9_0, p9_1⟩⟩ := And.intro (blk2 BT5.out) (blk2 BR5.out)
  have fp9_0 := BR5.out.frozen 0; have fp9_1 := BR5.out.frozen 1
  have lp0 := BT5.out.lt; have lp9 := BR5.out.lt
  have nl0 : ¬ w2.heap.size = gl := by omega
  have nl9 : ¬ w.heap.size = gl := by omega
  have nl0' : ¬ gl = w2.heap.size := by omega
  have nl9' : ¬ gl = w.heap.size := by omega
  by_cases h0 : x5 = 0
  · subst h0
    go_wp2_with fail
    exact bodyPost_ret (v := .tuple #[.agg #[.slice At_0 nt_0 ct_0, .slice At_1 nt_1 ct_1], .slice (some ⟨gl, 0, none⟩) l.length cl]) (by simp [results, Try.results108, go_sem, *]) rfl (HFIN2.out _ _ _ _ (HDT3.out w5 (I (wrap64 (x.version + 1))) (D.refl _ _) 1) (HFL2.out w5 { x with version := wrap64 (x.version + 1) } 1 _ (D.refl _ _) (by omega) rfl rfl) (HDR.out.set _ _ hxm))
  have dd0 : (x5 == 0) = false := beq_eq_false_iff_ne.2 h0
  by_cases h1 : x5 = 1
  · subst h1
    go_wp2_with fail
    have dn : D g w5 (w5.alloc (.cells #[I 0, I 9] 3)) := D.alloc (D.refl _ _) (by omega) _
    refine (spec_l1Int g _ [0, 9] _ (dn.cur HC5.out) (own_newN w5 3 1 2 (g + 1) w5.heap.size [I 0, I 9] rfl rfl (by unfold maxLen; omega) (by omega)) (by decide) (by decide)).mono ?_
    rintro e w6 ⟨y, rfl, -, d6⟩
    have d56 := D.trans dn d6
    obtain ⟨hc6, hf6, hz6⟩ := d56.facts
    have f5w := (hf6 gl (k * 7 + 5) (by omega) ngl).trans f5
    have q5w := (hc6 gl (k * 7 + 5) (by omega) ngl).trans q5
    have p0_0w := (hc6 w2.heap.size 0 (by omega) nb0).trans p0_0; have p0_1w := (hc6 w2.heap.size 1 (by omega) nb0).trans p0_1
    have p9_0w := (hc6 w.heap.size 0 (by omega) (by omega)).trans p9_0; have p9_1w := (hc6 w.heap.size 1 (by omega) (by omega)).trans p9_1
    have fp9_0w := (hf6 w.heap.size 0 (by omega) (by omega)).trans fp9_0; have fp9_1w := (hf6 w.heap.size 1 (by omega) (by omega)).trans fp9_1
    clear hc6 hf6
    go_wp2_with fail
    exact bodyPost_ret (v := .tuple #[.agg #[.slice At_0 nt_0 ct_0, .slice At_1 nt_1 ct_1], .slice (some ⟨gl, 0, none⟩) l.length cl]) (by simp [results, Try.results108, go_sem, *]) rfl (HFIN2.out _ _ _ _ (HDT3.out w6 (I y) d56 5) (HFL2.out w6 { x with quorum := y } 5 _ d56 (by omega) rfl rfl) (HDR.out.set _ _ hxm))
  have dd1 : (x5 == 1) = false := beq_eq_false_iff_ne.2 h1
  by_cases h2 : x5 = 2
  · subst h2
    go_wp2_with fail
    refine (spec_l4Set g w5 HC5.out).mono ?_
    rintro e w6 ⟨y, rfl, d56⟩
    obtain ⟨hc6, hf6, hz6⟩ := d56.facts
    have f4w := (hf6 gl (k * 7 + 4) (by omega) ngl).trans f4
    have q4w := (hc6 gl (k * 7 + 4) (by omega) ngl).trans q4
    have p0_0w := (hc6 w2.heap.size 0 (by omega) nb0).trans p0_0; have p0_1w := (hc6 w2.heap.size 1 (by omega) nb0).trans p0_1
    have p9_0w := (hc6 w.heap.size 0 (by omega) (by omega)).trans p9_0; have p9_1w := (hc6 w.heap.size 1 (by omega) (by omega)).trans p9_1
    have fp9_0w := (hf6 w.heap.size 0 (by omega) (by omega)).trans fp9_0; have fp9_1w := (hf6 w.heap.size 1 (by omega) (by omega)).trans fp9_1
    clear hc6 hf6
    go_wp2_with fail
    exact bodyPost_ret (v := .tuple #[.agg #[.slice At_0 nt_0 ct_0, .slice At_1 nt_1 ct_1], .slice (some ⟨gl, 0, none⟩) l.length cl]) (by simp [results, Try.results108, go_sem, *]) rfl (HFIN2.out _ _ _ _ (HDT3.out w6 (I y) d56 4) (HFL2.out w6 { x with voters := y } 4 _ d56 (by omega) rfl rfl) (HDR.out.set _ _ hxm))
  have dd2 : (x5 == 2) = false := beq_eq_false_iff_ne.2 h2
  by_cases h3 : x5 = 3
  · subst h3
    have ht8 : t.ases.length ≤ 8 := HDT.out.2.1
    have HDD : ∀ W, D g w5 W → TrustRootV W.heap.size W (.agg #[I x.isd, I x.version, I x.notBefore, I x.notAfter, I x.voters, I x.quorum, .slice A6 x.sigs.length c6]) x := by
      intro W hW
      have h1 := TrustRootOC.keeps _ W _ _ _ (fun b hb hs => hW.block hs (by have := hbd0 b hb; omega)) HOC.out
      exact h1.v fun b hb => by have := hbd0 b hb; have := hW.size; omega
    have HDD2 := Lib.hid HDD; clear HDD
    go_wp2_with fail
    refine wp_region_LT 12 (E := D g) (w0 := w5) (G := fun τ => match τ with | 57 => some (fun v W => IntsD w5.heap.size (rootData x) v W) | 58 => some (fun v W => VotesD w5.heap.size 4 v W) | _ => none) (D.refl g) (fun h k => D.trans h k) (by kernel_rfl) (by kernel_rfl) (by kernel_rfl) (by kernel_rfl) (by kernel_rfl) (by kernel_rfl) (by intro t φ hG; split at hG; all_goals first | (cases hG; done) | (cases Option.some.inj hG; intro v W W' hE hv; first | exact hv | exact hv.d hE (by omega) | (obtain ⟨y, hy⟩ := hv; exact ⟨y, Fresh1.d hy hE (by omega)⟩))) (D.drew (by exact D.refl _ _)) ?_
    simp only [List.take_succ_cons, List.take_zero]
    repeat' (first
      | ((with_reducible refine wpL_skip ?_ ?_ ?_)
         · rfl
         · rfl
         simp only [Act.put, List.setIfInBounds_toArray, List.set_cons_zero, List.set_cons_succ])
      | ((with_reducible refine wpL_quiet ?_ ?_ ?_ ?_)
         · rfl
         · rfl
         · rfl
         apply Exists.intro
         refine ⟨fun W hW hS => ?_, ?_⟩
         · have hC := (D.facts hW).1
           go_simp
           first | done | (with_reducible rfl) | (rw [if_neg (by omega)]; exact ⟨rfl, rfl⟩) | rfl
         first | (with_reducible refine wpL_boolT ?_) | (with_reducible refine wpL_boolF ?_) | (with_reducible refine wpL_bool (fun hB => ?_) (fun hB => ?_)) | skip
         all_goals simp only [Act.put, List.setIfInBounds_toArray, List.set_cons_zero, List.set_cons_succ])
      | ((refine wpL_grow ?_ rfl rfl ?_ ?_)
         · rfl
         · intro W hW hS
           have hC := (D.facts hW).1
           unfold growAt
           go_simp
           simp only [growUpon]
           first | (go_at_call 54; (with_reducible refine Calls.mono (spec_RootData _ x _ (HDD2.out _ hW)) ?_); rintro e w9_ ⟨v9, rfl, o9, e9⟩; exact ⟨_, rfl, D.of_ext e9 (Nat.lt_of_lt_of_le hg5 hW.size), Own.more o9 hW.size (Nat.le_refl _)⟩) | (have hs57 : IntsD w5.heap.size (rootData x) _ W := hS 57 (by decide); go_at_call 97; (with_reducible refine Calls.mono (spec_l17Votes g _ _ t (rootData x) wa.heap.size W.heap.size _ (hW.cur HC5.out) (by exact (OT5.out.d hW (by omega)).more (Nat.le_refl _) (by have := hW.size; omega)) (by exact Own.more hs57.so (by omega) (Nat.le_refl _)) (by omega) (Nat.le_refl _) ht8 (by simp [rootData])) ?_); rintro e w9_ ⟨v9, rfl, ⟨xs9, o9, l9⟩, d9⟩; exact ⟨_, rfl, d9, ⟨xs9, Own.more o9 hW.size (Nat.le_refl _), l9⟩⟩)
         intro v W' hW' hv
         first | ((with_reducible refine intro_at 57 _ ?_); obtain ⟨A57, n57, c57, rfl⟩ := Own.slice hv) | ((with_reducible refine intro_at 58 _ ?_); obtain ⟨xs58, h58, l58⟩ := hv; obtain ⟨A58, n58, c58, rfl⟩ := Own.slice h58) | (obtain ⟨A5, n5, c5, rfl, -⟩ := id hv; clear hv) | (obtain ⟨A5, n5, c5, rfl⟩ := NO.slice hv) | skip
         all_goals simp only [Act.put, List.setIfInBounds_toArray, List.set_cons_zero, List.set_cons_succ]))
    refine wpL_nil (fun w6 d56 hL => ?_)
    obtain ⟨xs9, h9, l9⟩ : VotesD w5.heap.size 4 (.slice A58 n58 c58) w6 := hL 58
    clear hL
    obtain ⟨hn9, -⟩ := NO.row h9
    subst hn9
    have HS9 : Hid (TrustRootSO wa.heap.size (w6.setCell ⟨gl, k * 7 + 6, none⟩ (.slice A58 xs9.length c58)).heap.size (w6.setCell ⟨gl, k * 7 + 6, none⟩ (.slice A58 xs9.length c58)) (.slice (some ⟨gl, 0, none⟩) l.length cl) (l.set k { l[k] with sigs := xs9 })) := by
      unfold Hid
      simp only [World.size_setCell]
      exact root_sigs (NO.d TrustRootOC.keeps OL5.out d56 (by omega)) hk h9 (by omega) (by have := d56.size; omega)
    clear h9
    obtain ⟨hc6, hf6, hz6⟩ := d56.facts
    have f6w := (hf6 gl (k * 7 + 6) (by omega) ngl).trans f6
    have q6w := (hc6 gl (k * 7 + 6) (by omega) ngl).trans q6
    have p0_0w := (hc6 w2.heap.size 0 (by omega) nb0).trans p0_0; have p0_1w := (hc6 w2.heap.size 1 (by omega) nb0).trans p0_1
    have p9_0w := (hc6 w.heap.size 0 (by omega) (by omega)).trans p9_0; have p9_1w := (hc6 w.heap.size 1 (by omega) (by omega)).trans p9_1
    have fp9_0w := (hf6 w.heap.size 0 (by omega) (by omega)).trans fp9_0; have fp9_1w := (hf6 w.heap.size 1 (by omega) (by omega)).trans fp9_1
    clear hc6 hf6
    simp only [List.drop_succ_cons, List.drop_zero]
    go_wp2_with fail
    obtain ⟨⟨vt1, vl1, e1, t1, l1, p1, p2, p3, p4⟩, pd⟩ := HFIN2.out _ _ (.slice At_0 nt_0 ct_0) (.slice At_1 nt_1 ct_1) (HDT3.out w6 (.slice A58 xs9.length c58) d56 6) HS9.out (HDR.out.set _ _ (by show xs9.length ≤ 16; omega))
    exact bodyPost_ret (v := .tuple #[.agg #[.slice At_0 nt_0 ct_0, .slice At_1 nt_1 ct_1], .slice (some ⟨gl, 0, none⟩) l.length cl]) (by simp [results, Try.results108, go_sem, *]) rfl (by first | exact ⟨⟨vt1, vl1, e1, t1, l1, p1, p2, p3, p4⟩, pd⟩ | exact ⟨⟨vt1, vl1, e1, t1, p1, p2, l1, p3, p4⟩, pd⟩ | exact ⟨⟨vt1, vl1, e1, t1, p1, p2, ⟨l1, p3, p4⟩⟩, pd⟩ | exact ⟨⟨vt1, vl1, e1, t1, p1, ⟨p2, ⟨l1, p3, p4⟩⟩⟩, pd⟩)
  have dd3 : (x5 == 3) = false := beq_eq_false_iff_ne.2 h3
  by_cases h4 : x5 = 4
  · subst h4
    go_wp2_with fail
    exact bodyPost_ret (v := .tuple #[.agg #[.slice At_0 nt_0 ct_0, .slice At_1 nt_1 ct_1], .slice (some ⟨gl, 0, none⟩) l.length cl]) (by simp [results, Try.results108, go_sem, *]) rfl (HFIN2.out _ _ _ _ (HDT3.out w5 (I (wrap64 (x.notBefore - 1))) (D.refl _ _) 3) (HFL2.out w5 { x with notAfter := wrap64 (x.notBefore - 1) } 3 _ (D.refl _ _) (by omega) rfl rfl) (HDR.out.set _ _ hxm))
  have dd4 : (x5 == 4) = false := beq_eq_false_iff_ne.2 h4
  go_wp2_with fail
  exact bodyPost_ret (v := .tuple #[.agg #[.slice At_0 nt_0 ct_0, .slice At_1 nt_1 ct_1], .slice (some ⟨gl, 0, none⟩) l.length cl]) (by simp [results, Try.results108, go_sem, *]) rfl (HFIN2.out _ _ _ _ ⟨da5, OT5.out.more (Nat.le_refl _) (by omega), BT5.out⟩ (OL5.out.more (Nat.le_refl _) (by omega)) HDR.out)
end Go.Proofs.Ytmlfnfflpacchaa
