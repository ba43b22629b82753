/- The walk of the law FnVotes. No conditions. -/
import Derived.Test.YtmlfnfflpacchaaD8
import Derived.Test.YtmlfnfflpacchaaD11
import Derived.Test.YtmlfnfflpacchaaD17
import Derived.Test.YtmlfnfflpacchaaD22
import Derived.Test.YtmlfnfflpacchaaPD
import Derived.Test.YtmlfnfflpacchaaP18u
import Derived.Test.YtmlfnfflpacchaaGL17
import Derived.Test.YtmlfnfflpacchaaGL18
namespace Go.Proofs.Ytmlfnfflpacchaa
open Go.RowKit
set_option linter.unusedVariables false
/-- v is u. -/
inductive IsV (u : Value) : Value → Prop where
  | mk : IsV u u
theorem run_app1 {P : Program} {W : World} (t ty e : TypeId) (z : Value) (size bytes : Nat) (ht : P.underlying t = some (.slice e)) (hinfo : (P.info? e).map (fun i => (i.zero, i.size, i.bytes)) = some (some z, size, bytes)) (hzs : z.cells.size = size) (hsz : 0 < size)
    (g lo : Nat) (cs : List Value) (hlo : lo ≤ g) (hb : Blk W g e cs) (hcs : cs.length = size) (A : Option Addr) (m c : Nat) (news : List Value) (hr : Row W size A m news) (h1 : ∀ u ∈ news, u.oneCell' = true) (h63 : 1 + m ≤ maxLen) (hbytes : (1 + m) * bytes ≤ 140737488355328) :
    ∃ v' w', (Builtin.append_ #[t, t] ty #[.slice (some ⟨g, 0, none⟩) 1 1, .slice A m c]).run P W = .ok v' w' ∧ Own e size lo w'.heap.size w' v' (1 + m) (cs ++ news) ∧ Ext W w' := by
  obtain ⟨i, hi, hz, hz1, hz2⟩ := info_parts hinfo
  have hown : Own e size lo W.heap.size W (.slice (some ⟨g, 0, none⟩) 1 1) 1 cs := Own.of_blk hb (by omega) (by unfold maxLen; omega) hlo hb.lt
  rcases Nat.eq_zero_or_pos m with h0 | h0
  · subst h0
    have hn : news = [] := List.eq_nil_of_length_eq_zero (by simpa using hr.1)
    subst hn
    refine ⟨_, W, ?_, by simpa using hown, Ext.refl _⟩
    cases A with
    | none => exact run_append_of_nil W 0 t ty e i size ht hi _ 1 cs ((hown.more (Nat.zero_le _) (Nat.le_refl _)).1) c
    | some ad =>
      have := run_append_room_cells (P := P) W t ty e i ht hi g 0 1 1 ad 0 c [] (by simp) (by simp) h1 (Nat.le_refl _) (by simp) (by simp)
      simpa [World.setCells] using this
  · obtain ⟨ad, rfl, hc⟩ := hr.2 h0
    obtain ⟨v', w', hrun, h2, h3⟩ := run_append_arg_grows (P := P) W t ty e i z size bytes ht hi hz hz1 hz2 hzs hsz ⟨g, 0, none⟩ 1 1 cs (by omega) (fun j u hu => by rw [add_none, Nat.zero_add]; exact (hb.cell j).trans hu) ad m c news hr.1 hc (by omega) (by omega) hbytes
    refine ⟨v', w', hrun, ?_, ext_of_grown h3⟩
    have hlt := hb.lt
    exact Own.more (hi := w'.heap.size) ⟨h2, fun k hk => (h2.lt k hk).2⟩ (by omega) (Nat.le_refl _)
theorem grow_app1 {P : Program} {o : Oper} {a : Act} {φ : Value → World → Prop} {W : World} (s x : Operand) (t : TypeId) (ho : o.op = .call { callee := .builtin .append, args := #[s, x], argTypes := #[t, t] })
    (e : TypeId) (z : Value) (size bytes : Nat) (ht : P.underlying t = some (.slice e)) (hinfo : (P.info? e).map (fun i => (i.zero, i.size, i.bytes)) = some (some z, size, bytes)) (hzs : z.cells.size = size) (hsz : 0 < size)
    (lo : Nat) (cs : List Value) (hcs : cs.length = size) (v0 : Value) (hs : a.eval s = v0) (hf : Fresh1 e lo cs v0 W) (A : Option Addr) (m c : Nat) (news : List Value) (hx : a.eval x = .slice A m c) (hr : Row W size A m news) (h1 : ∀ u ∈ news, u.oneCell' = true) (h63 : 1 + m ≤ maxLen) (hbytes : (1 + m) * bytes ≤ 140737488355328)
    (hφ : ∀ v' w', Own e size lo w'.heap.size w' v' (1 + m) (cs ++ news) → φ v' w') : growAt P o a Ext φ W := by
  obtain ⟨g, rfl, hlo, hb⟩ := hf
  obtain ⟨v', w', hrun, h2, h3⟩ := run_app1 (P := P) t o.type e z size bytes ht hinfo hzs hsz g lo cs hlo hb hcs A m c news hr h1 h63 hbytes
  unfold growAt execOp
  simp only [ho, resolve, invoke, builtin, Sem.run_bind, Sem.run_pure, Result.andThen_ok, List.map_toArray, List.map_cons, List.map_nil, hs, hx, hrun, growUpon]
  exact ⟨h3, hφ v' w' h2⟩
set_option maxRecDepth 100000 in
set_option maxHeartbeats 1000000 in
theorem laws_sameVotesX (v1 v2 : Value) (xs ys : List DSignature) (w : World) (h1 : SignatureS w.heap.size w v1 xs) (h2 : SignatureS w.heap.size w v2 ys) :
    Calls Try.prog 29 #[v1, v2] w fun e w' => e = .returned (.bool (decide (xs = ys))) ∧ Ext w w' := by
  obtain ⟨A1, n1, c1, rfl, hl1, hn1, hm1, -⟩ := id h1
  obtain ⟨A2, n2, c2, rfl, hl2, hn2, hm2, -⟩ := id h2
  unfold maxLen at hm1 hm2
  have H1 := Lib.hid h1; have H2 := Lib.hid h2; have E1 := Lib.hid hl1; have E2 := Lib.hid hl2; clear h1 h2 hl1 hl2
  by_cases hn : n1 = n2
  · subst hn
    go_enter Try.func29, Try.ntmps29
    go_wp2
    go_loopw [5] (fun i wr => ∃ k : Nat, k ≤ n1 ∧ i = I k ∧ xs.take k = ys.take k ∧ Ext w wr) (fun i _ => n1 - (intOf i).toNat)
    case atStart => exact ⟨0, by omega, rfl, by simp, Ext.refl _⟩
    case round =>
      obtain ⟨k, hk, rfl, hq, he⟩ := hrel
      have HQ := Lib.hid hq; clear hq
      have HE := Lib.hid he; clear he
      by_cases hlt : k < n1
      · obtain ⟨b1, o1, rfl, hb1, hk1, hc1⟩ := (H1.out.ext HE.out).at_ hlt
        obtain ⟨b2, o2, rfl, hb2, hk2, hc2⟩ := (H2.out.ext HE.out).at_ hlt
        have i0 : (0 : Int) ≤ (k : Int) := by omega
        have i1 : (k : Int) < (n1 : Int) := by omega
        have X1 := Lib.hid (take_snoc xs k hk1)
        have X2 := Lib.hid (take_snoc ys k hk2)
        have hne : ¬ xs[k] = ys[k] → xs ≠ ys := fun hne h => hne (by subst h; rfl)
        have HN := Lib.hid hne; clear hne
        generalize xs[k] = x at *
        generalize ys[k] = y at *
        obtain ⟨h10, h11⟩ := hc1
        obtain ⟨h20, h21⟩ := hc2
        have hqn := fun W => neq_Signature x y W
        have hgd := guard_Signature
        have hdd : decide (x = y) = true ↔ x = y := decide_eq_true_iff
        have HD := Lib.hid hdd; clear hdd
        generalize decide (x = y) = bb at *
        cases bb
        · have hxy : ¬ x = y := fun h => by have := HD.out.2 h; cases this
          have HXY := Lib.hid hxy; clear hxy
          go_wp2
          go_quiet (fail)
          go_wp2
          go_ret
          exact ⟨ret_bool (by simp [HN.out HXY.out]), HE.out.drewN _⟩
        · have HXY := Lib.hid (HD.out.1 rfl)
          go_wp2
          go_quiet (fail)
          go_wp2
          go_roundw
          case rel => exact ⟨k + 1, by omega, by go_num, by rw [X1.out, X2.out, HQ.out, HXY.out], HE.out.drewN _⟩
          case measure => simp [intOf]; omega
      · go_wp2
        go_ret
        have h := HQ.out
        rw [List.take_of_length_le (by rw [E1.out]; omega), List.take_of_length_le (by rw [E2.out]; omega)] at h
        exact ⟨ret_bool (by simp [h]), HE.out⟩
  · have hb : ((n1 : Int) == (n2 : Int)) = false := by simp; omega
    have hb' : ((n1 : Int) != (n2 : Int)) = true := by simp; omega
    have HN := Lib.hid hn; clear hn
    go_enter Try.func29, Try.ntmps29
    go_wp2
    go_ret
    have : xs ≠ ys := fun h => HN.out (by rw [← E1.out, ← E2.out, h])
    exact ⟨ret_bool (by simp [this]), Ext.refl _⟩
theorem IntSO_len {B : Nat} {w : World} {A : Option Addr} {n c : Nat} {l : List Int} (h : IntS B w (.slice A n c) l) : n ≤ c ∧ c ≤ maxLen := by
  obtain ⟨A', n', c', e, h1, h2, h3, -⟩ := h
  cases e
  exact ⟨h2, h3⟩
theorem row_suf1 {B : Nat} {w : World} {b off c : Nat} {l : List Int} (h : IntS B w (.slice (some ⟨b, off, none⟩) l.length c) l) (hp : 0 < l.length) : Row w 1 (some ⟨b, off + 1, none⟩) (l.length - 1) ((l.drop 1).map I) := by
  have h2 := row_suf h 1 (by omega)
  refine ⟨h2.1, fun h0 => ⟨_, rfl, fun j u hu => ?_⟩⟩
  obtain ⟨ad, e, hc⟩ := h2.2 h0
  rw [if_neg (by have := (IntSO_len h).1; omega), Option.map_some, add_none, Nat.one_mul] at e
  cases e
  exact hc j u hu
theorem row_suf10 {w : World} {A : Option Addr} {n : Nat} {l : List Int} (hn : l.length ≤ 1 ∧ n = l.length - 1) : Row w 1 A n ((l.drop 1).map I) := by
  obtain ⟨h1, rfl⟩ := hn
  exact ⟨by rw [List.length_map, List.length_drop]; omega, fun h0 => by omega⟩
theorem ints_cons {lo m : Nat} {w : World} {v : Value} {l : List Int} {y : Int} (h : Own 3 1 lo w.heap.size w v (1 + m) ([I y] ++ (l.drop 1).map I)) : IntS w.heap.size w v (y :: l.drop 1) := by
  have hm : 1 + m = (y :: l.drop 1).length := by
    have h1 := h.1.1
    simp only [List.length_append, List.length_cons, List.length_nil, List.length_map, Nat.mul_one] at h1
    rw [List.length_cons]
    omega
  refine IntSO_rd (lo := lo) (hi := w.heap.size) ?_
  unfold IntSO
  rw [← hm]
  exact h
theorem signed_good {t : DTopology} {r : Int} {l : List Int} (h : isAs t r = true) : verifySig t (signAs t r l) l = true := by
  unfold verifySig signAs
  rw [if_pos h]
  simp [h]
theorem unsigned_bad {t : DTopology} {r : Int} {l : List Int} (h : isAs t r = false) : (signAs t r l).asn = -1 ∧ verifySig t (signAs t r l) l = false := by
  have e : signAs t r l = ⟨-1, 0⟩ := by unfold signAs; rw [h]; rfl
  rw [e]
  refine ⟨rfl, ?_⟩
  unfold verifySig
  have h2 : isAs t (-1) = false := by
    cases h3 : isAs t (-1)
    · rfl
    · have := inR_iff.1 h3; omega
  rw [h2]
  rfl
theorem sign_twice {t : DTopology} {r : Int} {l : List Int} (h : isAs t r = true) (h8 : t.ases.length ≤ 8) : signers t [signAs t r l, signAs t r l] (addElem 0 r) l = addElem 0 r := by
  obtain ⟨k, rfl, hk⟩ := isAs_nat h
  have hv : validSet 0 = true := by decide
  have hc : contains (addElem 0 (k : Int)) (k : Int) = true := (contains_addElem hv (by omega)).2 (.inr rfl)
  have hi : addElem (addElem 0 (k : Int)) (k : Int) = addElem 0 (k : Int) := by
    have h8 : k < 8 := by omega
    revert h8
    generalize k = j
    revert j
    decide +kernel
  unfold signers
  rw [List.foldl_cons, List.foldl_cons, List.foldl_nil, sig1_voter h hc, sig1_voter h hc, hi]
theorem next_bad {t : DTopology} {v : DSignature} {a : Int} {l : List Int} (h : verifySig t v (a :: l) = true) (ha : Small a) : verifySig t v (wrap64 (a + 1) :: l) = false :=
  verify_apart (a := []) (b := l) h (wrap_next a (by unfold Small at ha; omega))
theorem next_bad1 {t : DTopology} {v : DSignature} {a : Int} {l : List Int} (h : verifySig t v (a :: l) = true) (ha : Small a) : verifySig t v ((a + 1) :: l) = false := by
  have h2 := next_bad h ha
  have e : wrap64 (a + 1) = a + 1 := IntWalk.wrap64_in _ (by unfold Small at ha; omega)
  rw [e] at h2
  exact h2
set_option maxRecDepth 100000 in
set_option maxHeartbeats 40000000 in
theorem votes_walk (vb : Value) (bs : List Nat) (w : World) (hb : ByteS w.heap.size w vb bs) : Calls Try.prog 4 #[vb] w fun e w' => e = .returned (.bool true) ∧ Ext w w' := by
  have HB := Lib.hid hb; clear hb
  go_enter Try.func4, Try.ntmps4
  go_wp2_with fail
  refine (laws_big vb bs w HB.out).mono ?_
  rintro e u0 ⟨rfl, e0⟩
  by_cases hn : 1048576 < bs.length
  · rw [show decide (1048576 < bs.length) = true by simpa using hn]
    go_wp2_with fail
    go_ret
    exact ⟨rfl, xe⟩
  rw [show decide (1048576 < bs.length) = false by simpa using hn]
  go_wp2_with fail
  refine (spec_DrawVerifySignature vb bs u0 (Sl.ext ByteAt.keeps HB.out xe) (by omega)).mono ?_
  rintro e w1 ⟨⟨vt1, x1, vl1, rfl, ⟨t1, ht1⟩, ⟨l1, hl1, hl1n, hl1s⟩⟩, e1⟩
  obtain ⟨At1_0, nt1_0, ct1_0, At1_1, nt1_1, ct1_1, rfl, st1_0, st1_1⟩ := id ht1
  obtain ⟨lt1_0, kt1_0, mt1_0⟩ := st1_0.len
  subst lt1_0
  unfold maxLen at mt1_0
  obtain ⟨lt1_1, kt1_1, mt1_1⟩ := st1_1.len
  subst lt1_1
  unfold maxLen at mt1_1
  have Rt1 := Lib.hid ht1; clear ht1
  have St1_0 := Lib.hid st1_0; clear st1_0
  have St1_1 := Lib.hid st1_1; clear st1_1
  obtain ⟨Al1, nl1, cl1, rfl, ll1, kl1, ml1, -⟩ := id hl1
  subst ll1
  unfold maxLen at ml1
  have Rl1 := Lib.hid hl1; clear hl1
  have HS1 := Lib.hid hl1s; clear hl1s
  go_wp2_with fail
  refine name_calls (fun W => Ext w1 W ∧ W.heap.size = w1.heap.size + 1 + 1 ∧ Blk W (w1.heap.size) 27 [.slice At1_0 t1.ases.length ct1_0, .slice At1_1 t1.links.length ct1_1] ∧ Blk W (w1.heap.size + 1) 36 [I x1.asn, I x1.value]) ⟨xe, by first | rfl | simp only [World.size_alloc], xb, xb⟩ ?_
  rintro u1 ⟨f1, z1, bt1, bx1⟩
  have Kt1 := Lib.hid bt1; have Kx1 := Lib.hid bx1; clear bt1 bx1
  have eu1 : Ext u0 u1 := Ext.trans e1 f1
  refine (spec_DrawSigners vb bs u1 (Sl.ext ByteAt.keeps HB.out xe) (by omega)).mono ?_
  rintro e w2 ⟨⟨vt2, vm2, k2, vl2, rfl, ⟨t2, ht2⟩, ⟨m2, hm2, hm2n⟩, ⟨l2, hl2, hl2n, -⟩⟩, e2⟩
  obtain ⟨At2_0, nt2_0, ct2_0, At2_1, nt2_1, ct2_1, rfl, st2_0, st2_1⟩ := id ht2
  obtain ⟨lt2_0, kt2_0, mt2_0⟩ := st2_0.len
  subst lt2_0
  unfold maxLen at mt2_0
  obtain ⟨lt2_1, kt2_1, mt2_1⟩ := st2_1.len
  subst lt2_1
  unfold maxLen at mt2_1
  have Rt2 := Lib.hid ht2; clear ht2
  have St2_0 := Lib.hid st2_0; clear st2_0
  have St2_1 := Lib.hid st2_1; clear st2_1
  obtain ⟨Am2, nm2, cm2, rfl, lm2, km2, mm2, -⟩ := id hm2
  subst lm2
  unfold maxLen at mm2
  have Rm2 := Lib.hid hm2; clear hm2
  obtain ⟨Al2, nl2, cl2, rfl, ll2, kl2, ml2, -⟩ := id hl2
  subst ll2
  unfold maxLen at ml2
  have Rl2 := Lib.hid hl2; clear hl2
  go_wp2_with fail
  refine name_calls (fun W => Ext w2 W ∧ W.heap.size = w2.heap.size + 1 ∧ Blk W (w2.heap.size) 27 [.slice At2_0 t2.ases.length ct2_0, .slice At2_1 t2.links.length ct2_1]) ⟨xe, by first | rfl | simp only [World.size_alloc], xb⟩ ?_
  rintro u2 ⟨f2, z2, bt2⟩
  have Kt2 := Lib.hid bt2; clear bt2
  have eu2 : Ext u0 u2 := Ext.trans eu1 (Ext.trans e2 f2)
  refine (spec_DrawSignAs vb bs u2 (Sl.ext ByteAt.keeps HB.out xe) (by omega)).mono ?_
  rintro e w3 ⟨⟨vt3, r3, vl3, rfl, ⟨t3, ht3, hdt3⟩, hr3, hr3b, ⟨l3, hl3, hl3n, -⟩⟩, e3⟩
  obtain ⟨At3_0, nt3_0, ct3_0, At3_1, nt3_1, ct3_1, rfl, st3_0, st3_1⟩ := id ht3
  obtain ⟨lt3_0, kt3_0, mt3_0⟩ := st3_0.len
  subst lt3_0
  unfold maxLen at mt3_0
  obtain ⟨lt3_1, kt3_1, mt3_1⟩ := st3_1.len
  subst lt3_1
  unfold maxLen at mt3_1
  have Rt3 := Lib.hid ht3; clear ht3
  have St3_0 := Lib.hid st3_0; clear st3_0
  have St3_1 := Lib.hid st3_1; clear st3_1
  obtain ⟨Al3, nl3, cl3, rfl, ll3, kl3, ml3, -⟩ := id hl3
  subst ll3
  unfold maxLen at ml3
  have Rl3 := Lib.hid hl3; clear hl3
  have HDT3 := Lib.hid hdt3; clear hdt3
  go_wp2_with fail
  refine name_calls (fun W => Ext w3 W ∧ W.heap.size = w3.heap.size + 1 ∧ Blk W (w3.heap.size) 27 [.slice At3_0 t3.ases.length ct3_0, .slice At3_1 t3.links.length ct3_1]) ⟨xe, by first | rfl | simp only [World.size_alloc], xb⟩ ?_
  rintro u3 ⟨f3, z3, bt3⟩
  have Kt3 := Lib.hid bt3; clear bt3
  have eu3 : Ext u0 u3 := Ext.trans eu2 (Ext.trans e3 f3)
  refine (spec_DrawAddSignature vb bs u3 (Sl.ext ByteAt.keeps HB.out xe) (by omega)).mono ?_
  rintro e w4 ⟨⟨va4, x4, rfl, ⟨a4, ha4, ha4n⟩⟩, e4⟩
  obtain ⟨Aa4, na4, ca4, rfl, la4, ka4, ma4, -⟩ := id ha4
  subst la4
  unfold maxLen at ma4
  have Ra4 := Lib.hid ha4; clear ha4
  go_wp2_with fail
  refine name_calls (fun W => Ext w4 W ∧ W.heap.size = w4.heap.size + 1 ∧ Blk W (w4.heap.size) 36 [I x4.asn, I x4.value]) ⟨xe, by first | rfl | simp only [World.size_alloc], xb⟩ ?_
  rintro u4 ⟨f4, z4, bx4⟩
  have Kx4 := Lib.hid bx4; clear bx4
  have eu4 : Ext u0 u4 := Ext.trans eu3 (Ext.trans e4 f4)
  refine (spec_DrawEqualSignatures vb bs u4 (Sl.ext ByteAt.keeps HB.out xe) (by omega)).mono ?_
  rintro e w5 ⟨⟨vb5, vc5, rfl, ⟨b5, hb5, hb5n⟩, ⟨c5, hc5, hc5n⟩⟩, e5⟩
  obtain ⟨Ab5, nb5, cb5, rfl, lb5, kb5, mb5, -⟩ := id hb5
  subst lb5
  unfold maxLen at mb5
  have Rb5 := Lib.hid hb5; clear hb5
  obtain ⟨Ac5, nc5, cc5, rfl, lc5, kc5, mc5, -⟩ := id hc5
  subst lc5
  unfold maxLen at mc5
  have Rc5 := Lib.hid hc5; clear hc5
  go_wp2_with fail
  refine name_calls (fun W => Ext w5 W ∧ W.heap.size = w5.heap.size) ⟨xe, by first | rfl | simp only [World.size_alloc]⟩ ?_
  rintro u5 ⟨f5, z5⟩
  have eu5 : Ext u0 u5 := Ext.trans eu4 (Ext.trans e5 f5)
  refine (spec_DrawSignedData vb bs u5 (Sl.ext ByteAt.keeps HB.out xe) (by omega)).mono ?_
  rintro e w6 ⟨⟨vs6, i6, rfl, s6, hs6, hs6n⟩, e6⟩
  obtain ⟨As6_2, ns6_2, cs6_2, rfl, ss6_2⟩ := id hs6
  obtain ⟨ls6_2, ks6_2, ms6_2⟩ := ss6_2.len
  subst ls6_2
  unfold maxLen at ms6_2
  have Rs6 := Lib.hid hs6; clear hs6
  have Ss6_2 := Lib.hid ss6_2; clear ss6_2
  go_wp2_with fail
  refine name_calls (fun W => Ext w6 W ∧ W.heap.size = w6.heap.size + 1 ∧ Blk W (w6.heap.size) 55 [I s6.ts, I s6.beta, .slice As6_2 s6.hops.length cs6_2]) ⟨xe, by first | rfl | simp only [World.size_alloc], xb⟩ ?_
  rintro u6 ⟨f6, z6, bs6⟩
  have Ks6 := Lib.hid bs6; clear bs6
  have eu6 : Ext u0 u6 := Ext.trans eu5 (Ext.trans e6 f6)
  refine (spec_DrawSign vb bs u6 (Sl.ext ByteAt.keeps HB.out xe) (by omega)).mono ?_
  rintro e w7 ⟨⟨k7, vl7, rfl, ⟨l7, hl7, hl7n, -⟩⟩, e7⟩
  obtain ⟨Al7, nl7, cl7, rfl, ll7, kl7, ml7, -⟩ := id hl7
  subst ll7
  unfold maxLen at ml7
  have Rl7 := Lib.hid hl7; clear hl7
  go_wp2_with fail
  refine name_wp (fun W => Ext w7 W ∧ W.heap.size = w7.heap.size) ⟨xe, by first | rfl | simp only [World.size_alloc]⟩ ?_
  rintro u7 ⟨f7, z7⟩
  have eu7 : Ext u0 u7 := Ext.trans eu6 (Ext.trans e7 f7)
  have g7 : Ext w7 u7 := f7
  have g6 : Ext w6 u7 := Ext.trans f6 (Ext.trans e7 g7)
  have g5 : Ext w5 u7 := Ext.trans f5 (Ext.trans e6 g6)
  have g4 : Ext w4 u7 := Ext.trans f4 (Ext.trans e5 g5)
  have g3 : Ext w3 u7 := Ext.trans f3 (Ext.trans e4 g4)
  have g2 : Ext w2 u7 := Ext.trans f2 (Ext.trans e3 g3)
  have g1 : Ext w1 u7 := Ext.trans f1 (Ext.trans e2 g2)
  have Jt1 := Lib.hid (Kt1.out.ext (w' := u7) (Ext.trans e2 g2))
  have Jx1 := Lib.hid (Kx1.out.ext (w' := u7) (Ext.trans e2 g2))
  have Jt2 := Lib.hid (Kt2.out.ext (w' := u7) (Ext.trans e3 g3))
  have Jt3 := Lib.hid (Kt3.out.ext (w' := u7) (Ext.trans e4 g4))
  have Jx4 := Lib.hid (Kx4.out.ext (w' := u7) (Ext.trans e5 g5))
  have Js6 := Lib.hid (Ks6.out.ext (w' := u7) (Ext.trans e7 g7))
  have St1 := Lib.hid (Rt1.out.ext g1); clear Rt1
  have Sl1 := Lib.hid (IntS.ext Rl1.out g1); clear Rl1
  have St2 := Lib.hid (Rt2.out.ext g2); clear Rt2
  have Sm2 := Lib.hid (SignatureS.ext Rm2.out g2); clear Rm2
  have Sl2 := Lib.hid (IntS.ext Rl2.out g2); clear Rl2
  have St3 := Lib.hid (Rt3.out.ext g3); clear Rt3
  have Sl3 := Lib.hid (IntS.ext Rl3.out g3); clear Rl3
  have Sa4 := Lib.hid (SignatureS.ext Ra4.out g4); clear Ra4
  have Sb5 := Lib.hid (SignatureS.ext Rb5.out g5); clear Rb5
  have Sc5 := Lib.hid (SignatureS.ext Rc5.out g5); clear Rc5
  have Ss6 := Lib.hid (Rs6.out.ext g6); clear Rs6
  have Sl7 := Lib.hid (IntS.ext Rl7.out g7); clear Rl7
  have bt1_ := Jt1.out.ext (w' := u7) xe
  have lbt1_ := bt1_.lt
  obtain ⟨qbt1__0, qbt1__1⟩ := blk2 bt1_
  have fbt1__0 := bt1_.frozen 0
  have fbt1__1 := bt1_.frozen 1
  clear bt1_
  have bx1_ := Jx1.out.ext (w' := u7) xe
  have lbx1_ := bx1_.lt
  obtain ⟨qbx1__0, qbx1__1⟩ := blk2 bx1_
  have fbx1__0 := bx1_.frozen 0
  have fbx1__1 := bx1_.frozen 1
  clear bx1_
  have bt2_ := Jt2.out.ext (w' := u7) xe
  have lbt2_ := bt2_.lt
  obtain ⟨qbt2__0, qbt2__1⟩ := blk2 bt2_
  have fbt2__0 := bt2_.frozen 0
  have fbt2__1 := bt2_.frozen 1
  clear bt2_
  have bt3_ := Jt3.out.ext (w' := u7) xe
  have lbt3_ := bt3_.lt
  obtain ⟨qbt3__0, qbt3__1⟩ := blk2 bt3_
  have fbt3__0 := bt3_.frozen 0
  have fbt3__1 := bt3_.frozen 1
  clear bt3_
  have bx4_ := Jx4.out.ext (w' := u7) xe
  have lbx4_ := bx4_.lt
  obtain ⟨qbx4__0, qbx4__1⟩ := blk2 bx4_
  have fbx4__0 := bx4_.frozen 0
  have fbx4__1 := bx4_.frozen 1
  clear bx4_
  have bs6_ := Js6.out.ext (w' := u7) xe
  have lbs6_ := bs6_.lt
  obtain ⟨qbs6__0, qbs6__1, qbs6__2⟩ := blk3 bs6_
  have fbs6__0 := bs6_.frozen 0
  have fbs6__1 := bs6_.frozen 1
  have fbs6__2 := bs6_.frozen 2
  clear bs6_
  clear z1 z2 z3 z4 z5 z6 z7
  obtain ⟨z, hz⟩ : ∃ z, signAs t3 r3 l3 = z := ⟨_, rfl⟩
  have HZ := Lib.hid hz; clear hz
  have hqn := fun W => neq_Signature z z W
  have hgd := guard_Signature
  have nb9 : ∀ b : Bool, (b != b) = false := fun b => by cases b <;> rfl
  have ni9 : ∀ i : Int, (i != i) = false := fun i => by simp
  have ha4x := addSig_len a4 x4
  refine wp_region_L (E := Ext) (w0 := u7) (G := fun τ => match τ with | 66 => some (fun v W => IsV (.bool (verifySig t1 x1 l1)) v) | 70 => some (fun v W => IsV (.bool (verifySig t1 x1 l1)) v) | 77 => some (fun v W => IsV (I (signers t2 m2 k2 l2)) v) | 82 => some (fun v W => IsV (I (signers t2 m2 k2 l2)) v) | 89 => some (fun v W => IsV (.agg #[I z.asn, I z.value]) v) | 93 => some (fun v W => IsV (.agg #[I z.asn, I z.value]) v) | 99 => some (fun v W => SignatureS W.heap.size W v (addSig a4 x4)) | 102 => some (fun v W => SignatureS W.heap.size W v (addSig a4 x4)) | 103 => some (fun v W => IsV (.bool true) v) | 109 => some (fun v W => IsV (.bool (decide (b5 = c5))) v) | 112 => some (fun v W => IsV (.bool (decide (b5 = c5))) v) | 118 => some (fun v W => IntS W.heap.size W v (signedData s6 i6)) | 121 => some (fun v W => IntS W.heap.size W v (signedData s6 i6)) | 122 => some (fun v W => IsV (.bool true) v) | 128 => some (fun v W => IsV (I (sign k7 l7)) v) | 131 => some (fun v W => IsV (I (sign k7 l7)) v) | _ => none) Ext.refl (fun h k => Ext.trans h k) (by kernel_rfl) (by kernel_rfl) xg (Ext.drew (by exact Ext.refl _)) ?_
  try simp only [List.append_eq, List.cons_append, List.nil_append]
  repeat' (first
    | ((with_reducible refine wpL_skip ?_ ?_ ?_)
       · rfl
       · rfl
       simp only [Act.put, List.setIfInBounds_toArray, List.set_cons_zero, List.set_cons_succ])
    | ((with_reducible refine wpL_quiet ?_ ?_ ?_ ?_)
       · rfl
       · rfl
       · rfl
       apply Exists.intro
       refine ⟨fun W hW hS => ?_, ?_⟩
       · have hC := (Ext.facts hW).1
         go_simp
         first | done | (with_reducible rfl) | (rw [if_neg (by omega)]; exact ⟨rfl, rfl⟩) | rfl
       first | (with_reducible refine wpL_boolT ?_) | (with_reducible refine wpL_boolF ?_) | (with_reducible refine wpL_bool (fun hB => ?_) (fun hB => ?_)) | skip
       all_goals simp only [Act.put, List.setIfInBounds_toArray, List.set_cons_zero, List.set_cons_succ])
    | ((refine wpL_grow ?_ rfl rfl ?_ ?_)
       · rfl
       · intro W hW hS
         have hC := (Ext.facts hW).1
         unfold growAt
         go_simp
         simp only [growUpon]
         first | (go_at_call 24; (with_reducible refine Calls.mono (impl_VerifySignature _ x1 _ t1 l1 _ (by exact St1.out.ext xe) (by exact IntS.ext Sl1.out xe) (by omega)) ?_); rintro e w9_ ⟨rfl, e9⟩; exact ⟨_, rfl, e9, IsV.mk⟩) | (go_at_call 25; (with_reducible refine Calls.mono (spec_VerifySignature _ x1 _ t1 l1 _ (by exact St1.out.ext xe) (by exact IntS.ext Sl1.out xe) (by omega)) ?_); rintro e w9_ ⟨rfl, e9⟩; exact ⟨_, rfl, e9, IsV.mk⟩) | (go_at_call 26; (with_reducible refine Calls.mono (impl_Signers _ _ k2 _ t2 m2 l2 _ (by exact St2.out.ext xe) (by exact SignatureS.ext Sm2.out xe) (by exact IntS.ext Sl2.out xe) (by omega)) ?_); rintro e w9_ ⟨rfl, e9⟩; exact ⟨_, rfl, e9, IsV.mk⟩) | (go_at_call 27; (with_reducible refine Calls.mono (spec_Signers _ _ k2 _ t2 m2 l2 _ (by exact St2.out.ext xe) (by exact SignatureS.ext Sm2.out xe) (by exact IntS.ext Sl2.out xe) (by omega)) ?_); rintro e w9_ ⟨rfl, e9⟩; exact ⟨_, rfl, e9, IsV.mk⟩) | (go_at_call 11; (with_reducible refine Calls.mono (impl_SignAs _ r3 _ t3 l3 _ (by exact St3.out.ext xe) (by exact IntS.ext Sl3.out xe) (by omega)) ?_); rintro e w9_ ⟨rfl, e9⟩; exact ⟨_, rfl, e9, by rw [HZ.out]; exact IsV.mk⟩) | (go_at_call 28; (with_reducible refine Calls.mono (spec_SignAs _ r3 _ t3 l3 _ (by exact St3.out.ext xe) (by exact IntS.ext Sl3.out xe) (by omega)) ?_); rintro e w9_ ⟨rfl, e9⟩; exact ⟨_, rfl, e9, by rw [HZ.out]; exact IsV.mk⟩) | (go_at_call 30; (with_reducible refine Calls.mono (impl_AddSignature _ x4 a4 _ (by exact SignatureS.ext Sa4.out xe) (by omega)) ?_); rintro e w9_ ⟨v9, rfl, o9, e9⟩; exact ⟨_, rfl, e9, SignatureSO_rd o9⟩) | (go_at_call 31; (with_reducible refine Calls.mono (spec_AddSignature _ x4 a4 _ (by exact SignatureS.ext Sa4.out xe) (by omega)) ?_); rintro e w9_ ⟨v9, rfl, o9, e9⟩; exact ⟨_, rfl, e9, SignatureSO_rd o9⟩) | (have ha : SignatureS W.heap.size W _ (addSig a4 x4) := hS 99 (by decide); have hb : SignatureS W.heap.size W _ (addSig a4 x4) := hS 102 (by decide); go_at_call 29; (with_reducible refine Calls.mono (laws_sameVotes _ _ (addSig a4 x4) _ ha hb) ?_); rintro e w9_ ⟨rfl, e9⟩; exact ⟨_, rfl, e9, IsV.mk⟩) | (go_at_call 32; (with_reducible refine Calls.mono (impl_EqualSignatures _ _ b5 c5 _ (by exact SignatureS.ext Sb5.out xe) (by exact SignatureS.ext Sc5.out xe)) ?_); rintro e w9_ ⟨rfl, e9⟩; exact ⟨_, rfl, e9, IsV.mk⟩) | (go_at_call 29; (with_reducible refine Calls.mono (laws_sameVotesX _ _ b5 c5 _ (by exact SignatureS.ext Sb5.out xe) (by exact SignatureS.ext Sc5.out xe)) ?_); rintro e w9_ ⟨rfl, e9⟩; exact ⟨_, rfl, e9, IsV.mk⟩) | (go_at_call 34; (with_reducible refine Calls.mono (impl_SignedData _ i6 s6 _ (by exact Ss6.out.ext xe) (by omega)) ?_); rintro e w9_ ⟨v9, rfl, o9, e9⟩; exact ⟨_, rfl, e9, IntSO_rd o9⟩) | (go_at_call 35; (with_reducible refine Calls.mono (spec_SignedData _ i6 s6 _ (by exact Ss6.out.ext xe) (by omega)) ?_); rintro e w9_ ⟨v9, rfl, o9, e9⟩; exact ⟨_, rfl, e9, IntSO_rd o9⟩) | (have ha : IntS W.heap.size W _ (signedData s6 i6) := hS 118 (by decide); have hb : IntS W.heap.size W _ (signedData s6 i6) := hS 121 (by decide); go_at_call 33; (with_reducible refine Calls.mono (laws_sameInts _ _ (signedData s6 i6) _ ha hb) ?_); rintro e w9_ ⟨rfl, e9⟩; exact ⟨_, rfl, e9, IsV.mk⟩) | (go_at_call 36; (with_reducible refine Calls.mono (impl_Sign k7 _ l7 _ (by exact IntS.ext Sl7.out xe) (by omega)) ?_); rintro e w9_ ⟨rfl, e9⟩; exact ⟨_, rfl, e9, IsV.mk⟩) | (go_at_call 37; (with_reducible refine Calls.mono (spec_Sign k7 _ l7 _ (by exact IntS.ext Sl7.out xe) (by omega)) ?_); rintro e w9_ ⟨rfl, e9⟩; exact ⟨_, rfl, e9, IsV.mk⟩)
       intro v W' hW' hv
       first | ((with_reducible refine intro_at 66 _ ?_); cases hv) | ((with_reducible refine intro_at 70 _ ?_); cases hv) | ((with_reducible refine intro_at 77 _ ?_); cases hv) | ((with_reducible refine intro_at 82 _ ?_); cases hv) | ((with_reducible refine intro_at 89 _ ?_); cases hv) | ((with_reducible refine intro_at 93 _ ?_); cases hv) | ((with_reducible refine intro_at 99 _ ?_); skip) | ((with_reducible refine intro_at 102 _ ?_); skip) | ((with_reducible refine intro_at 103 _ ?_); cases hv) | ((with_reducible refine intro_at 109 _ ?_); cases hv) | ((with_reducible refine intro_at 112 _ ?_); cases hv) | ((with_reducible refine intro_at 118 _ ?_); skip) | ((with_reducible refine intro_at 121 _ ?_); skip) | ((with_reducible refine intro_at 122 _ ?_); cases hv) | ((with_reducible refine intro_at 128 _ ?_); cases hv) | ((with_reducible refine intro_at 131 _ ?_); cases hv) | (obtain ⟨A5, n5, c5, rfl, -⟩ := id hv; clear hv) | (obtain ⟨A5, n5, c5, rfl⟩ := NO.slice hv) | skip
       all_goals simp only [Act.put, List.setIfInBounds_toArray, List.set_cons_zero, List.set_cons_succ]))
  refine wpL_nil (fun w10 e10 hL => ?_)
  clear hL hqn hgd
  clear lbt1_ qbt1__0 fbt1__0 qbt1__1 fbt1__1 lbx1_ qbx1__0 fbx1__0 qbx1__1 fbx1__1 lbt2_ qbt2__0 fbt2__0 qbt2__1 fbt2__1 lbt3_ qbt3__0 fbt3__0 qbt3__1 fbt3__1 lbx4_ qbx4__0 fbx4__0 qbx4__1 fbx4__1 lbs6_ qbs6__0 fbs6__0 qbs6__1 fbs6__1 qbs6__2 fbs6__2
  have z10 := e10.size
  have Jt1 := Lib.hid (Jt1.out.ext (w' := w10) e10)
  have Jx1 := Lib.hid (Jx1.out.ext (w' := w10) e10)
  have Jt3 := Lib.hid (Jt3.out.ext (w' := w10) e10)
  have St1 := Lib.hid (St1.out.ext (w' := w10) e10)
  have Sl1 := Lib.hid (IntS.ext (w' := w10) Sl1.out e10)
  have St3 := Lib.hid (St3.out.ext (w' := w10) e10)
  have Sl3 := Lib.hid (IntS.ext (w' := w10) Sl3.out e10)
  have eu10 : Ext u0 w10 := Ext.trans eu7 e10
  have bt3_ := Jt3.out.ext (w' := w10) xe
  have lbt3_ := bt3_.lt
  obtain ⟨qbt3__0, qbt3__1⟩ := blk2 bt3_
  have fbt3__0 := bt3_.frozen 0
  have fbt3__1 := bt3_.frozen 1
  clear bt3_
  go_wp2_with fail
  clear lbt3_ qbt3__0 fbt3__0 qbt3__1 fbt3__1
  refine (impl_SignAs _ r3 _ t3 l3 w10 (by exact St3.out) (by exact Sl3.out) (by omega)).mono ?_
  rintro e w11 ⟨rfl, e11⟩
  rw [HZ.out]
  have z11 := e11.size
  have eu11 : Ext u0 w11 := Ext.trans eu10 e11
  have Jt1 := Lib.hid (Jt1.out.ext (w' := w11) e11)
  have Jx1 := Lib.hid (Jx1.out.ext (w' := w11) e11)
  have Jt3 := Lib.hid (Jt3.out.ext (w' := w11) e11)
  have St1 := Lib.hid (St1.out.ext (w' := w11) e11)
  have Sl1 := Lib.hid (IntS.ext (w' := w11) Sl1.out e11)
  have St3 := Lib.hid (St3.out.ext (w' := w11) e11)
  have Sl3 := Lib.hid (IntS.ext (w' := w11) Sl3.out e11)
  cases hr : isAs t3 r3
  · obtain ⟨hy1, hy2⟩ := unsigned_bad (l := l3) hr
    rw [HZ.out] at hy1 hy2
    have HV := Lib.hid hy2; clear hy2
    have qz : (z.asn == -1) = true := beq_iff_eq.2 hy1
    clear hy1
    have hor : r3 < 0 ∨ (t3.ases.length : Int) ≤ r3 := by
      by_cases h1 : r3 < 0
      · exact .inl h1
      · by_cases h2 : (t3.ases.length : Int) ≤ r3
        · exact .inr h2
        · have h3 : isAs t3 r3 = true := inR_iff.2 (by omega)
          rw [hr] at h3; cases h3
    have HR := Lib.hid hr; clear hr
    rcases hor with i1 | i1
    case' inr => have i2 : ¬ r3 < 0 := by omega
    all_goals
      have bt3_ := Jt3.out.ext (w' := w11) xe
      have lbt3_ := bt3_.lt
      obtain ⟨qbt3__0, qbt3__1⟩ := blk2 bt3_
      have fbt3__0 := bt3_.frozen 0
      have fbt3__1 := bt3_.frozen 1
      clear bt3_
      go_wp2_with fail
      refine (impl_VerifySignature _ z _ t3 l3 _ (by exact St3.out.ext xe) (by exact IntS.ext Sl3.out xe) (by omega)).mono ?_
      rintro e w12 ⟨rfl, e12⟩
      rw [HV.out]
      go_wp2_with fail
      go_ret
      exact ⟨rfl, xe⟩
  · have HG : Hid (verifySig t3 z l3 = true) := by have h := signed_good (l := l3) hr; rw [HZ.out] at h; exact h
    have h8 := HDT3.out.2.1
    have hT : signers t3 [z, z] (addElem 0 r3) l3 = addElem 0 r3 := by have h := sign_twice (l := l3) hr h8; rw [HZ.out] at h; exact h
    obtain ⟨q, hq⟩ : ∃ q, addElem 0 r3 = q := ⟨_, rfl⟩
    rw [hq] at hT
    have HT := Lib.hid hT; have HQ := Lib.hid hq; clear hT hq
    have h1 := inR_iff.1 hr
    have i1 : ¬ r3 < 0 := by omega
    have i2 : ¬ (t3.ases.length : Int) ≤ r3 := by omega
    have HR := Lib.hid hr; clear hr h1 h8
    have bt3_ := Jt3.out.ext (w' := w11) xe
    have lbt3_ := bt3_.lt
    obtain ⟨qbt3__0, qbt3__1⟩ := blk2 bt3_
    have fbt3__0 := bt3_.frozen 0
    have fbt3__1 := bt3_.frozen 1
    clear bt3_
    go_wp2_with fail
    refine name_wp (fun W => Ext w11 W ∧ W.heap.size = w11.heap.size + 1 ∧ Blk W w11.heap.size 36 [I z.asn, I z.value]) ⟨xe, by simp only [World.size_alloc], xb⟩ ?_
    clear lbt3_ qbt3__0 fbt3__0 qbt3__1 fbt3__1
    rintro w12 ⟨e12, z12_, bz⟩
    obtain ⟨z12, z12'⟩ : w11.heap.size + 1 ≤ w12.heap.size ∧ w12.heap.size ≤ w11.heap.size + 1 := by omega
    clear z12_ i1 i2
    have Jz := Lib.hid bz; clear bz
    have eu12 : Ext u0 w12 := Ext.trans eu11 e12
    have Jt1 := Lib.hid (Jt1.out.ext (w' := w12) e12)
    have Jx1 := Lib.hid (Jx1.out.ext (w' := w12) e12)
    have Jt3 := Lib.hid (Jt3.out.ext (w' := w12) e12)
    have St1 := Lib.hid (St1.out.ext (w' := w12) e12)
    have Sl1 := Lib.hid (IntS.ext (w' := w12) Sl1.out e12)
    have St3 := Lib.hid (St3.out.ext (w' := w12) e12)
    have Sl3 := Lib.hid (IntS.ext (w' := w12) Sl3.out e12)
    cases hb1 : verifySig t1 x1 l1
    · have HB1 := Lib.hid hb1; clear hb1
      have bt3_ := Jt3.out.ext (w' := w12) xe
      have lbt3_ := bt3_.lt
      obtain ⟨qbt3__0, qbt3__1⟩ := blk2 bt3_
      have fbt3__0 := bt3_.frozen 0
      have fbt3__1 := bt3_.frozen 1
      clear bt3_
      have bz_ := Jz.out.ext (w' := w12) xe
      have lbz_ := bz_.lt
      obtain ⟨qbz__0, qbz__1⟩ := blk2 bz_
      have fbz__0 := bz_.frozen 0
      have fbz__1 := bz_.frozen 1
      clear bz_
      have bt1_ := Jt1.out.ext (w' := w12) xe
      have lbt1_ := bt1_.lt
      obtain ⟨qbt1__0, qbt1__1⟩ := blk2 bt1_
      have fbt1__0 := bt1_.frozen 0
      have fbt1__1 := bt1_.frozen 1
      clear bt1_
      have bx1_ := Jx1.out.ext (w' := w12) xe
      have lbx1_ := bx1_.lt
      obtain ⟨qbx1__0, qbx1__1⟩ := blk2 bx1_
      have fbx1__0 := bx1_.frozen 0
      have fbx1__1 := bx1_.frozen 1
      clear bx1_
      refine wp_region_L (E := Ext) (w0 := w12) (G := fun τ => match τ with | 160 => some (fun v W => IsV (.bool true) v) | 165 => some (fun v W => SignatureS W.heap.size W v [z, z]) | 167 => some (fun v W => IsV (I q) v) | 169 => some (fun v W => IsV (I q) v) | 171 => some (fun v W => IsV (I q) v) | 178 => some (fun v W => IsV (.bool false) v) | _ => none) Ext.refl (fun h k => Ext.trans h k) (by kernel_rfl) (by kernel_rfl) xg (Ext.drew (by exact Ext.refl _)) ?_
      repeat' (first
        | ((with_reducible refine wpL_skip ?_ ?_ ?_)
           · rfl
           · rfl
           simp only [Act.put, List.setIfInBounds_toArray, List.set_cons_zero, List.set_cons_succ])
        | ((with_reducible refine wpL_quiet ?_ ?_ ?_ ?_)
           · rfl
           · rfl
           · rfl
           apply Exists.intro
           refine ⟨fun W hW hS => ?_, ?_⟩
           · have hC := (Ext.facts hW).1
             go_simp
             first | done | (with_reducible rfl) | (rw [if_neg (by omega)]; exact ⟨rfl, rfl⟩) | rfl
           first | (with_reducible refine wpL_boolT ?_) | (with_reducible refine wpL_boolF ?_) | (with_reducible refine wpL_bool (fun hB => ?_) (fun hB => ?_)) | skip
           all_goals simp only [Act.put, List.setIfInBounds_toArray, List.set_cons_zero, List.set_cons_succ])
        | ((refine wpL_grow ?_ rfl rfl ?_ ?_)
           · rfl
           · intro W hW hS
             have hC := (Ext.facts hW).1
             unfold growAt
             go_simp
             simp only [growUpon]
             first | (go_at_call 24; (with_reducible show Calls _ _ #[_, .agg #[I z.asn, I z.value], _] _ _); (with_reducible refine Calls.mono (impl_VerifySignature _ z _ t3 l3 _ (by exact St3.out.ext xe) (by exact IntS.ext Sl3.out xe) (by omega)) ?_); rintro e w9_ ⟨rfl, e9⟩; exact ⟨_, rfl, e9, by rw [HG.out]; exact IsV.mk⟩) | (exact ⟨xe, SignatureSO_rd (show SignatureSO 0 _ _ _ [z, z] from own_newN _ _ 2 2 _ _ [I z.asn, I z.value, I z.asn, I z.value] rfl rfl (by unfold maxLen; omega) (Nat.zero_le _))⟩) | (go_at_call 38; (with_reducible refine Calls.mono (impl_AddElement 0 r3 _) ?_); rintro e w9_ ⟨rfl, rfl⟩; exact ⟨_, rfl, Ext.refl _, by rw [HQ.out]; exact IsV.mk⟩) | (have hs : SignatureS W.heap.size W _ [z, z] := hS 165 (by decide); go_at_call 26; (with_reducible refine Calls.mono (impl_Signers _ _ q _ t3 [z, z] l3 _ (by exact St3.out.ext xe) hs (by exact IntS.ext Sl3.out xe) (by omega)) ?_); rintro e w9_ ⟨rfl, e9⟩; exact ⟨_, rfl, e9, by rw [HT.out]; exact IsV.mk⟩) | (go_at_call 38; (with_reducible refine Calls.mono (impl_AddElement 0 r3 _) ?_); rintro e w9_ ⟨rfl, rfl⟩; exact ⟨_, rfl, Ext.refl _, by rw [HQ.out]; exact IsV.mk⟩) | (go_at_call 24; (with_reducible show Calls _ _ #[_, .agg #[I x1.asn, I x1.value], .slice _ l1.length _] _ _); (with_reducible refine Calls.mono (impl_VerifySignature _ x1 _ t1 l1 _ (by exact St1.out.ext xe) (by exact IntS.ext Sl1.out xe) (by omega)) ?_); rintro e w9_ ⟨rfl, e9⟩; exact ⟨_, rfl, e9, by rw [HB1.out]; exact IsV.mk⟩)
           intro v W' hW' hv
           first | ((with_reducible refine intro_at 160 _ ?_); cases hv) | ((with_reducible refine intro_at 165 _ ?_); skip) | ((with_reducible refine intro_at 167 _ ?_); cases hv) | ((with_reducible refine intro_at 169 _ ?_); cases hv) | ((with_reducible refine intro_at 171 _ ?_); cases hv) | ((with_reducible refine intro_at 178 _ ?_); cases hv) | (obtain ⟨A5, n5, c5, rfl, -⟩ := id hv; clear hv) | (obtain ⟨A5, n5, c5, rfl⟩ := NO.slice hv) | skip
           all_goals simp only [Act.put, List.setIfInBounds_toArray, List.set_cons_zero, List.set_cons_succ]))
      refine wpL_nil (fun w13 e13 hL => ?_)
      clear hL
      go_wp2_with fail
      go_ret
      exact ⟨rfl, xe⟩
    · by_cases hl0 : l1.length = 0
      · have HB1 := Lib.hid hb1; clear hb1
        have q0 : ((l1.length : Int) == 0) = true := by rw [hl0]; rfl
        have HL0 := Lib.hid hl0; clear hl0
        have bt3_ := Jt3.out.ext (w' := w12) xe
        have lbt3_ := bt3_.lt
        obtain ⟨qbt3__0, qbt3__1⟩ := blk2 bt3_
        have fbt3__0 := bt3_.frozen 0
        have fbt3__1 := bt3_.frozen 1
        clear bt3_
        have bz_ := Jz.out.ext (w' := w12) xe
        have lbz_ := bz_.lt
        obtain ⟨qbz__0, qbz__1⟩ := blk2 bz_
        have fbz__0 := bz_.frozen 0
        have fbz__1 := bz_.frozen 1
        clear bz_
        have bt1_ := Jt1.out.ext (w' := w12) xe
        have lbt1_ := bt1_.lt
        obtain ⟨qbt1__0, qbt1__1⟩ := blk2 bt1_
        have fbt1__0 := bt1_.frozen 0
        have fbt1__1 := bt1_.frozen 1
        clear bt1_
        have bx1_ := Jx1.out.ext (w' := w12) xe
        have lbx1_ := bx1_.lt
        obtain ⟨qbx1__0, qbx1__1⟩ := blk2 bx1_
        have fbx1__0 := bx1_.frozen 0
        have fbx1__1 := bx1_.frozen 1
        clear bx1_
        refine wp_region_L (E := Ext) (w0 := w12) (G := fun τ => match τ with | 160 => some (fun v W => IsV (.bool true) v) | 165 => some (fun v W => SignatureS W.heap.size W v [z, z]) | 167 => some (fun v W => IsV (I q) v) | 169 => some (fun v W => IsV (I q) v) | 171 => some (fun v W => IsV (I q) v) | 178 => some (fun v W => IsV (.bool true) v) | _ => none) Ext.refl (fun h k => Ext.trans h k) (by kernel_rfl) (by kernel_rfl) xg (Ext.drew (by exact Ext.refl _)) ?_
        repeat' (first
          | ((with_reducible refine wpL_skip ?_ ?_ ?_)
             · rfl
             · rfl
             simp only [Act.put, List.setIfInBounds_toArray, List.set_cons_zero, List.set_cons_succ])
          | ((with_reducible refine wpL_quiet ?_ ?_ ?_ ?_)
             · rfl
             · rfl
             · rfl
             apply Exists.intro
             refine ⟨fun W hW hS => ?_, ?_⟩
             · have hC := (Ext.facts hW).1
               go_simp
               first | done | (with_reducible rfl) | (rw [if_neg (by omega)]; exact ⟨rfl, rfl⟩) | rfl
             first | (with_reducible refine wpL_boolT ?_) | (with_reducible refine wpL_boolF ?_) | (with_reducible refine wpL_bool (fun hB => ?_) (fun hB => ?_)) | skip
             all_goals simp only [Act.put, List.setIfInBounds_toArray, List.set_cons_zero, List.set_cons_succ])
          | ((refine wpL_grow ?_ rfl rfl ?_ ?_)
             · rfl
             · intro W hW hS
               have hC := (Ext.facts hW).1
               unfold growAt
               go_simp
               simp only [growUpon]
               first | (go_at_call 24; (with_reducible show Calls _ _ #[_, .agg #[I z.asn, I z.value], _] _ _); (with_reducible refine Calls.mono (impl_VerifySignature _ z _ t3 l3 _ (by exact St3.out.ext xe) (by exact IntS.ext Sl3.out xe) (by omega)) ?_); rintro e w9_ ⟨rfl, e9⟩; exact ⟨_, rfl, e9, by rw [HG.out]; exact IsV.mk⟩) | (exact ⟨xe, SignatureSO_rd (show SignatureSO 0 _ _ _ [z, z] from own_newN _ _ 2 2 _ _ [I z.asn, I z.value, I z.asn, I z.value] rfl rfl (by unfold maxLen; omega) (Nat.zero_le _))⟩) | (go_at_call 38; (with_reducible refine Calls.mono (impl_AddElement 0 r3 _) ?_); rintro e w9_ ⟨rfl, rfl⟩; exact ⟨_, rfl, Ext.refl _, by rw [HQ.out]; exact IsV.mk⟩) | (have hs : SignatureS W.heap.size W _ [z, z] := hS 165 (by decide); go_at_call 26; (with_reducible refine Calls.mono (impl_Signers _ _ q _ t3 [z, z] l3 _ (by exact St3.out.ext xe) hs (by exact IntS.ext Sl3.out xe) (by omega)) ?_); rintro e w9_ ⟨rfl, e9⟩; exact ⟨_, rfl, e9, by rw [HT.out]; exact IsV.mk⟩) | (go_at_call 38; (with_reducible refine Calls.mono (impl_AddElement 0 r3 _) ?_); rintro e w9_ ⟨rfl, rfl⟩; exact ⟨_, rfl, Ext.refl _, by rw [HQ.out]; exact IsV.mk⟩) | (go_at_call 24; (with_reducible show Calls _ _ #[_, .agg #[I x1.asn, I x1.value], .slice _ l1.length _] _ _); (with_reducible refine Calls.mono (impl_VerifySignature _ x1 _ t1 l1 _ (by exact St1.out.ext xe) (by exact IntS.ext Sl1.out xe) (by omega)) ?_); rintro e w9_ ⟨rfl, e9⟩; exact ⟨_, rfl, e9, by rw [HB1.out]; exact IsV.mk⟩)
             intro v W' hW' hv
             first | ((with_reducible refine intro_at 160 _ ?_); cases hv) | ((with_reducible refine intro_at 165 _ ?_); skip) | ((with_reducible refine intro_at 167 _ ?_); cases hv) | ((with_reducible refine intro_at 169 _ ?_); cases hv) | ((with_reducible refine intro_at 171 _ ?_); cases hv) | ((with_reducible refine intro_at 178 _ ?_); cases hv) | (obtain ⟨A5, n5, c5, rfl, -⟩ := id hv; clear hv) | (obtain ⟨A5, n5, c5, rfl⟩ := NO.slice hv) | skip
             all_goals simp only [Act.put, List.setIfInBounds_toArray, List.set_cons_zero, List.set_cons_succ]))
        refine wpL_nil (fun w13 e13 hL => ?_)
        clear hL
        go_wp2_with fail
        go_ret
        exact ⟨rfl, xe⟩
      · have hpos : 0 < l1.length := by omega
        have q0 : ((l1.length : Int) == 0) = false := beq_eq_false_iff_ne.2 (by omega)
        obtain ⟨bl, ol, hA, hbl, hk0, hc0⟩ := Sl1.out.at_ hpos
        have hc0 : w12.cell? ⟨bl, ol, none⟩ = some (I l1[0]) := hc0
        have hcons : l1 = l1[0] :: l1.drop 1 := by
          cases l1 with
          | nil => simp at hpos
          | cons a r => rfl
        have hsm := HS1.out l1[0] (List.getElem_mem _)
        have hvn : verifySig t1 x1 (wrap64 (l1[0] + 1) :: l1.drop 1) = false := next_bad (by rw [← hcons]; exact hb1) hsm
        have HB1 := Lib.hid hb1; clear hb1 hcons hsm
        generalize l1[0] = a at *
        obtain ⟨y, hy⟩ : ∃ y, wrap64 (a + 1) = y := ⟨_, rfl⟩
        rw [hy] at hvn
        have HVN := Lib.hid hvn; clear hvn
        have hwa : IntKind.i64.wrap (a + 1) = y := (IntWalk.i64_left _).trans hy
        subst hA
        have HSL := Lib.hid (IntSO_len Sl1.out)
        obtain ⟨hlc, hcm⟩ := IntSO_len Sl1.out
        clear HSL
        have j1 : (1 : Int) ≤ (l1.length : Int) := by omega
        have j2 : (1 : Int) ≤ (cl1 : Int) := by omega
        have j3 : (0 : Int) < (l1.length : Int) := by omega
        rcases Nat.lt_or_ge 1 cl1 with hck | hck
        case' inl => have hcn : ¬ cl1 = 1 := by omega
        case' inr => obtain rfl : cl1 = 1 := by omega
        all_goals
          have bt3_ := Jt3.out.ext (w' := w12) xe
          have lbt3_ := bt3_.lt
          obtain ⟨qbt3__0, qbt3__1⟩ := blk2 bt3_
          have fbt3__0 := bt3_.frozen 0
          have fbt3__1 := bt3_.frozen 1
          clear bt3_
          have bz_ := Jz.out.ext (w' := w12) xe
          have lbz_ := bz_.lt
          obtain ⟨qbz__0, qbz__1⟩ := blk2 bz_
          have fbz__0 := bz_.frozen 0
          have fbz__1 := bz_.frozen 1
          clear bz_
          have bt1_ := Jt1.out.ext (w' := w12) xe
          have lbt1_ := bt1_.lt
          obtain ⟨qbt1__0, qbt1__1⟩ := blk2 bt1_
          have fbt1__0 := bt1_.frozen 0
          have fbt1__1 := bt1_.frozen 1
          clear bt1_
          have bx1_ := Jx1.out.ext (w' := w12) xe
          have lbx1_ := bx1_.lt
          obtain ⟨qbx1__0, qbx1__1⟩ := blk2 bx1_
          have fbx1__0 := bx1_.frozen 0
          have fbx1__1 := bx1_.frozen 1
          clear bx1_
          refine wp_region_L (E := Ext) (w0 := w12) (G := fun τ => match τ with | 192 => some (fun v W => Fresh1 3 w12.heap.size [I y] v W) | 195 => some (fun v W => IntS W.heap.size W v (y :: l1.drop 1)) | 196 => some (fun v W => IsV (.bool false) v) | 160 => some (fun v W => IsV (.bool true) v) | 165 => some (fun v W => SignatureS W.heap.size W v [z, z]) | 167 => some (fun v W => IsV (I q) v) | 169 => some (fun v W => IsV (I q) v) | 171 => some (fun v W => IsV (I q) v) | 178 => some (fun v W => IsV (.bool true) v) | _ => none) Ext.refl (fun h k => Ext.trans h k) (by kernel_rfl) (by kernel_rfl) xg (Ext.drew (by exact Ext.refl _)) ?_
          repeat' (first
            | ((with_reducible refine wpL_skip ?_ ?_ ?_)
               · rfl
               · rfl
               simp only [Act.put, List.setIfInBounds_toArray, List.set_cons_zero, List.set_cons_succ])
            | ((with_reducible refine wpL_quiet ?_ ?_ ?_ ?_)
               · rfl
               · rfl
               · rfl
               apply Exists.intro
               refine ⟨fun W hW hS => ?_, ?_⟩
               · have hC := (Ext.facts hW).1
                 go_simp
                 first | done | (with_reducible rfl) | (rw [if_neg (by omega)]; exact ⟨rfl, rfl⟩) | rfl
               first | (with_reducible refine wpL_boolT ?_) | (with_reducible refine wpL_boolF ?_) | (with_reducible refine wpL_bool (fun hB => ?_) (fun hB => ?_)) | skip
               all_goals simp only [Act.put, List.setIfInBounds_toArray, List.set_cons_zero, List.set_cons_succ])
            | ((refine wpL_grow ?_ rfl rfl ?_ ?_)
               · rfl
               · intro W hW hS
                 first | (exact grow_app1 (.tmp 192) (.tmp 194) _ rfl 3 _ 1 8 Try.underlying38 info_int rfl (by omega) w12.heap.size [I y] rfl _ rfl (hS 192 (by decide)) _ _ _ ((l1.drop 1).map I) rfl (by first | exact row_suf1 (IntS.ext Sl1.out xe) hpos | exact row_suf10 (by omega)) (one_ints _) (by unfold maxLen; omega) (by omega) (fun v1 w1 o1 => ints_cons o1)) | skip
                 all_goals have hC := (Ext.facts hW).1
                 all_goals unfold growAt
                 all_goals go_simp
                 all_goals simp only [growUpon]
                 all_goals first | (exact ⟨xe, Fresh1.new _ 3 _ _ _ rfl (Ext.size (by assumption))⟩) | (have h5 : IntS W.heap.size W _ (y :: l1.drop 1) := hS 195 (by decide); go_at_call 24; (fail_if_success (with_reducible show Calls _ _ #[_, .agg #[I x1.asn, I x1.value], .slice _ l1.length _] _ _)); (with_reducible show Calls _ _ #[_, .agg #[I x1.asn, I x1.value], _] _ _); (with_reducible refine Calls.mono (impl_VerifySignature _ x1 _ t1 (y :: l1.drop 1) _ (by exact St1.out.ext xe) h5 (by simp; omega)) ?_); rintro e w9_ ⟨rfl, e9⟩; exact ⟨_, rfl, e9, by rw [HVN.out]; exact IsV.mk⟩) | (go_at_call 24; (with_reducible show Calls _ _ #[_, .agg #[I z.asn, I z.value], _] _ _); (with_reducible refine Calls.mono (impl_VerifySignature _ z _ t3 l3 _ (by exact St3.out.ext xe) (by exact IntS.ext Sl3.out xe) (by omega)) ?_); rintro e w9_ ⟨rfl, e9⟩; exact ⟨_, rfl, e9, by rw [HG.out]; exact IsV.mk⟩) | (exact ⟨xe, SignatureSO_rd (show SignatureSO 0 _ _ _ [z, z] from own_newN _ _ 2 2 _ _ [I z.asn, I z.value, I z.asn, I z.value] rfl rfl (by unfold maxLen; omega) (Nat.zero_le _))⟩) | (go_at_call 38; (with_reducible refine Calls.mono (impl_AddElement 0 r3 _) ?_); rintro e w9_ ⟨rfl, rfl⟩; exact ⟨_, rfl, Ext.refl _, by rw [HQ.out]; exact IsV.mk⟩) | (have hs : SignatureS W.heap.size W _ [z, z] := hS 165 (by decide); go_at_call 26; (with_reducible refine Calls.mono (impl_Signers _ _ q _ t3 [z, z] l3 _ (by exact St3.out.ext xe) hs (by exact IntS.ext Sl3.out xe) (by omega)) ?_); rintro e w9_ ⟨rfl, e9⟩; exact ⟨_, rfl, e9, by rw [HT.out]; exact IsV.mk⟩) | (go_at_call 38; (with_reducible refine Calls.mono (impl_AddElement 0 r3 _) ?_); rintro e w9_ ⟨rfl, rfl⟩; exact ⟨_, rfl, Ext.refl _, by rw [HQ.out]; exact IsV.mk⟩) | (go_at_call 24; (with_reducible show Calls _ _ #[_, .agg #[I x1.asn, I x1.value], .slice _ l1.length _] _ _); (with_reducible refine Calls.mono (impl_VerifySignature _ x1 _ t1 l1 _ (by exact St1.out.ext xe) (by exact IntS.ext Sl1.out xe) (by omega)) ?_); rintro e w9_ ⟨rfl, e9⟩; exact ⟨_, rfl, e9, by rw [HB1.out]; exact IsV.mk⟩)
               intro v W' hW' hv
               first | (obtain ⟨g5, rfl, -⟩ := hv) | ((with_reducible refine intro_at 196 _ ?_); cases hv) | ((with_reducible refine intro_at 160 _ ?_); cases hv) | ((with_reducible refine intro_at 165 _ ?_); skip) | ((with_reducible refine intro_at 167 _ ?_); cases hv) | ((with_reducible refine intro_at 169 _ ?_); cases hv) | ((with_reducible refine intro_at 171 _ ?_); cases hv) | ((with_reducible refine intro_at 178 _ ?_); cases hv) | (obtain ⟨A5, n5, c5, rfl, -⟩ := id hv; clear hv) | (obtain ⟨A5, n5, c5, rfl⟩ := NO.slice hv) | skip
               all_goals simp only [Act.put, List.setIfInBounds_toArray, List.set_cons_zero, List.set_cons_succ]))
          refine wpL_nil (fun w13 e13 hL => ?_)
          clear hL
          go_wp2_with fail
          go_ret
          exact ⟨rfl, xe⟩
end Go.Proofs.Ytmlfnfflpacchaa
