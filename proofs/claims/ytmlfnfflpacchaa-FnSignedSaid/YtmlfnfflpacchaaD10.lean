/- Contracts of the reference's draws that the law FnRoots uses: a topology and roots, some of them. The given slice holds bytes. -/
import Derived.Test.YtmlfnfflpacchaaD9
import Derived.Test.YtmlfnfflpacchaaDW
namespace Go.Proofs.Ytmlfnfflpacchaa
open Go.RowKit
set_option linter.unusedVariables false
theorem le_both {a b : Nat} (h : a = b) : b ≤ a ∧ a ≤ b := by omega
/-- Above lo nothing has turned. -/
structure Kp (lo : Nat) (a b : World) : Prop where
  size : b.heap.size = a.heap.size
  same : ∀ k, lo ≤ k → b.heap[k]? = a.heap[k]?
theorem Kp.refl (lo : Nat) (a : World) : Kp lo a a := ⟨rfl, fun _ _ => rfl⟩
theorem Kp.set {lo : Nat} {a b : World} (h : Kp lo a b) {p : Addr} (hp : p.block < lo) (u : Value) : Kp lo a (b.setCell p u) := ⟨by rw [World.size_setCell]; exact h.size, fun k hk => (Below.heap_setCell _ _ _ _ (by omega)).trans (h.same k hk)⟩
theorem Kp.trans {lo : Nat} {a b c : World} (h : Kp lo a b) (k : Kp lo b c) : Kp lo a c := ⟨k.size.trans h.size, fun j hj => (k.same j hj).trans (h.same j hj)⟩
theorem Kp.drew {lo : Nat} {a b : World} (h : Kp lo a b) : Kp lo a b.drew := ⟨h.size, h.same⟩
theorem kp {lo : Nat} {a b : World} (h : Kp lo a b := by repeat (first | (with_reducible exact Kp.refl _ _) | (with_reducible refine Kp.drew ?_) | (with_reducible refine Kp.set (p := _) ?_ ?ge _; case ge => (first | (dsimp only; first | assumption | exact Nat.le_refl _ | exact Nat.le_add_right _ _ | exact Nat.le_succ_of_le (Nat.le_add_right _ _)) | omega | (dsimp only; omega))))) : Kp lo a b := h
theorem xset {a b : World} (h : Ext a b := by repeat (first | (with_reducible assumption) | (with_reducible refine Ext.drew ?_) | (with_reducible refine Ext.setCell (p := _) ?_ ?ge _; case ge => (first | (dsimp only; first | assumption | exact Nat.le_refl _ | exact Nat.le_add_right _ _ | exact Nat.le_succ_of_le (Nat.le_add_right _ _)) | omega | (dsimp only; omega))))) : Ext a b := h
theorem TopologyO.kp {lo hi m : Nat} {a b : World} {v : Value} {t : DTopology} (h : TopologyO lo hi a v t) (hk : Kp m a b) (hm : m ≤ lo) (hh : hi ≤ a.heap.size) : TopologyV b.heap.size b v t :=
  TopologyO_rd (h.keep fun k h1 _ _ => hk.same k (by omega)) (by rw [hk.size]; exact hh)
theorem TrustRootO.kp {lo hi m : Nat} {a b : World} {v : Value} {t : DTrustRoot} (h : TrustRootO lo hi a v t) (hk : Kp m a b) (hm : m ≤ lo) (hh : hi ≤ a.heap.size) : TrustRootV b.heap.size b v t :=
  TrustRootO_rd (h.keep fun k h1 _ _ => hk.same k (by omega)) (by rw [hk.size]; exact hh)
theorem TrustRootSO.kp {lo hi m : Nat} {a b : World} {v : Value} {t : List DTrustRoot} (h : TrustRootSO lo hi a v t) (hk : Kp m a b) (hm : m ≤ lo) (hh : hi ≤ a.heap.size) : TrustRootS b.heap.size b v t :=
  TrustRootSO_rd (TrustRootSO_keep h fun k h1 _ _ => hk.same k (by omega)) (by rw [hk.size]; exact hh)
theorem root_at {lo hi k n c : Nat} {W : World} {A : Option Addr} {l : List DTrustRoot} (h : TrustRootSO lo hi W (.slice A n c) l) (hk : k < l.length) (hlh : lo ≤ hi) : ∃ gl A6 c6, A = some ⟨gl, 0, none⟩ ∧ n = l.length ∧ lo ≤ gl ∧ gl < hi ∧ gl < W.heap.size ∧
    (W.cell? ⟨gl, k * 7, none⟩ = some (I l[k].isd) ∧ W.cell? ⟨gl, k * 7 + 1, none⟩ = some (I l[k].version) ∧ W.cell? ⟨gl, k * 7 + 2, none⟩ = some (I l[k].notBefore) ∧ W.cell? ⟨gl, k * 7 + 3, none⟩ = some (I l[k].notAfter) ∧ W.cell? ⟨gl, k * 7 + 4, none⟩ = some (I l[k].voters) ∧ W.cell? ⟨gl, k * 7 + 5, none⟩ = some (I l[k].quorum) ∧ W.cell? ⟨gl, k * 7 + 6, none⟩ = some (.slice A6 l[k].sigs.length c6)) ∧
    TrustRootO lo hi W (.agg #[I l[k].isd, I l[k].version, I l[k].notBefore, I l[k].notAfter, I l[k].voters, I l[k].quorum, .slice A6 l[k].sigs.length c6]) l[k] := by
  obtain ⟨gl, f0, c0, hA, hn, hg1, hg2, hg3, hoc, -, -, hbd, -, hcell, -, -⟩ := NO.elem TrustRootOC.keeps h hk
  obtain ⟨A6, c6, rfl⟩ := hoc.shape
  obtain ⟨u6, e, r6, ef⟩ := hoc
  obtain rfl : Value.slice A6 l[k].sigs.length c6 = u6 := by simpa using e
  refine ⟨gl, A6, c6, hA, hn, hg1, hg2, hg3, ⟨hcell 0 _ rfl, hcell 1 _ rfl, hcell 2 _ rfl, hcell 3 _ rfl, hcell 4 _ rfl, hcell 5 _ rfl, hcell 6 _ rfl⟩, _, rfl, ⟨ownsRow_base r6 fun b hb => (hbd b (by rw [ef]; simp [hb])).1, fun b hb => (hbd b (by rw [ef]; simp [hb])).2.1⟩, hlh⟩
/-- A root of the draw's own. -/
def RootD (lo hi n : Nat) (v : Value) (W : World) : Prop := ∃ x, TrustRootO lo hi W v x ∧ x.sigs.length ≤ n
theorem RootD.d {lo hi n g : Nat} {v : Value} {W W' : World} (h : RootD lo hi n v W) (hd : D g W W') (hg : g < lo) : RootD lo hi n v W' := by
  obtain ⟨x, h1, h2⟩ := h
  exact ⟨x, h1.keep fun k hk _ h3 => hd.block h3 (by omega), h2⟩
set_option maxRecDepth 100000 in
set_option maxHeartbeats 1000000 in
theorem spec_DrawIsInitialRoot (vb : Value) (bs : List Nat) (w : World) (hb : ByteS w.heap.size w vb bs) (hn : bs.length ≤ 1048576) : Calls Try.prog 43 #[vb] w fun e w' => (∃ vt vx, e = .returned (.tuple #[vt, vx]) ∧ ∃ t x, TopologyV w'.heap.size w' vt t ∧ TrustRootV w'.heap.size w' vx x ∧ x.sigs.length ≤ 16) ∧ Ext w w' := by
  have HB := Lib.hid hb; clear hb
  go_enter Try.func43, Try.ntmps43
  go_wp2_with fail
  refine name_calls (fun W => Ext w W ∧ W.heap.size = w.heap.size + 1 + 1 ∧ Blk W (w.heap.size) 27 [.slice none 0 0, .slice none 0 0] ∧ Blk W (w.heap.size + 1) 33 [I 0, I 0, I 0, I 0, I 0, I 0, .slice none 0 0]) ⟨xe, by simp only [World.size_alloc], xb, xb⟩ ?_
  rintro wa ⟨ea, za_, br0, br1⟩
  obtain ⟨za, za'⟩ := le_both za_
  clear za_
  have B0 := Lib.hid br0; have B1 := Lib.hid br1; clear br0 br1
  refine (spec_l1NewB vb bs w.heap.size wa (HB.out.keep ByteAt.keeps (Nat.le_refl _) fun k hk => ea.same k hk) (by omega) hn).mono ?_
  rintro e w1 ⟨g, rfl, hg, hcur, e1⟩
  have HCB := Lib.hid hcur
  have HC := Lib.hid hcur.cur
  have hg1 := hcur.lt
  clear hcur
  have z1 := e1.size
  go_wp2_with fail
  refine (spec_l18Any g w1 HC.out).mono ?_
  rintro e w2 ⟨⟨v1, v2, rfl, t, l, ot, hdt, ol, hdr⟩, d2⟩
  have HDR := Lib.hid hdr
  obtain ⟨hl0, hl5, hp⟩ := hdr
  have HP := Lib.hid hp; clear hp
  have z2 := d2.size
  have e2 : Ext wa w2 := d2.ext e1 hg
  obtain ⟨At_0, nt_0, ct_0, At_1, nt_1, ct_1, rfl⟩ := TopologyO.shape ot
  obtain ⟨Al, nl, cl, rfl⟩ := NO.slice ol
  obtain ⟨A', n', c', e', ln', -, ml, -⟩ := id (TrustRootSO_rd ol (Nat.le_refl _))
  cases e'
  subst ln'
  unfold maxLen at ml
  have OT := Lib.hid ot; have OL := Lib.hid ol; clear ot ol
  go_wp2_with fail
  refine name_wp (fun W => Ext w2 W ∧ W.heap.size = w2.heap.size + 1 ∧ Blk W w2.heap.size 27 [.slice At_0 nt_0 ct_0, .slice At_1 nt_1 ct_1]) ⟨xe, by simp only [World.size_alloc], xb⟩ ?_
  rintro w3 ⟨e3, z3, b5⟩
  have BT := Lib.hid b5; clear b5
  have ea3 : Ext wa w3 := Ext.trans e2 e3
  have ew3 : Ext w w3 := Ext.trans ea ea3
  have OT3 := Lib.hid (OT.out.ext e3 (Nat.le_refl _)); have OL3 := Lib.hid (TrustRootSO_ext OL.out e3 (Nat.le_refl _))
  obtain ⟨gl, A6, c6, hA, -, hg7, hg8, hg9, ⟨q0, q1, q2, q3, q4, q5, q6⟩, ox⟩ := root_at OL3.out (k := 0) (by omega) (by omega)
  subst hA
  have OX := Lib.hid ox; clear ox
  have hx := HP.out l[0] (List.getElem_mem hl0)
  have i1 : (0 : Int) < (l.length : Int) := by omega
  simp only [Nat.zero_mul, Nat.zero_add] at q0 q1 q2 q3 q4 q5 q6
  generalize l[0] = x at *
  have b4_ := BT.out.ext (w' := w3) xe
  have lb4_ := b4_.lt
  obtain ⟨qb4__0, qb4__1⟩ := blk2 b4_
  have fb4__0 := b4_.frozen 0
  have fb4__1 := b4_.frozen 1
  clear b4_
  have c0_ := B0.out.ext (w' := w3) xe
  have lc0_ := c0_.lt
  obtain ⟨qc0__0, qc0__1⟩ := blk2 c0_
  have fc0__0 := c0_.frozen 0
  have fc0__1 := c0_.frozen 1
  clear c0_
  have c1_ := B1.out.ext (w' := w3) xe
  have lc1_ := c1_.lt
  obtain ⟨qc1__0, qc1__1, qc1__2, qc1__3, qc1__4, qc1__5, qc1__6⟩ := blk7 c1_
  have fc1__0 := c1_.frozen 0
  have fc1__1 := c1_.frozen 1
  have fc1__2 := c1_.frozen 2
  have fc1__3 := c1_.frozen 3
  have fc1__4 := c1_.frozen 4
  have fc1__5 := c1_.frozen 5
  have fc1__6 := c1_.frozen 6
  clear c1_
  go_region
  go_wp2_with fail
  refine bodyPost_ret (v := .tuple #[.agg #[.slice At_0 nt_0 ct_0, .slice At_1 nt_1 ct_1], .agg #[I x.isd, I x.version, I x.notBefore, I x.notAfter, I x.voters, I x.quorum, .slice A6 x.sigs.length c6]] ) (by simp [results, Try.results43, go_sem, *]) rfl ⟨⟨_, _, rfl, t, x, ?_, ?_, hx⟩, ?_⟩
  · exact TopologyO.kp (m := wa.heap.size) OT3.out kp (by omega) (by omega)
  · exact TrustRootO.kp (m := wa.heap.size) OX.out kp (by omega) (by omega)
  · exact xset
set_option maxRecDepth 100000 in
set_option maxHeartbeats 1000000 in
theorem spec_DrawValidRoot (vb : Value) (bs : List Nat) (w : World) (hb : ByteS w.heap.size w vb bs) (hn : bs.length ≤ 1048576) : Calls Try.prog 39 #[vb] w fun e w' => (∃ vt vx, e = .returned (.tuple #[vt, vx]) ∧ ∃ t x, TopologyV w'.heap.size w' vt t ∧ TrustRootV w'.heap.size w' vx x ∧ x.sigs.length ≤ 16) ∧ Ext w w' := by
  have HB := Lib.hid hb; clear hb
  go_enter Try.func39, Try.ntmps39
  go_wp2_with fail
  refine name_calls (fun W => Ext w W ∧ W.heap.size = w.heap.size + 1 + 1 ∧ Blk W (w.heap.size) 27 [.slice none 0 0, .slice none 0 0] ∧ Blk W (w.heap.size + 1) 33 [I 0, I 0, I 0, I 0, I 0, I 0, .slice none 0 0]) ⟨xe, by simp only [World.size_alloc], xb, xb⟩ ?_
  rintro wa ⟨ea, za_, br0, br1⟩
  obtain ⟨za, za'⟩ := le_both za_
  clear za_
  have B0 := Lib.hid br0; have B1 := Lib.hid br1; clear br0 br1
  refine (spec_l1NewB vb bs w.heap.size wa (HB.out.keep ByteAt.keeps (Nat.le_refl _) fun k hk => ea.same k hk) (by omega) hn).mono ?_
  rintro e w1 ⟨g, rfl, hg, hcur, e1⟩
  have HCB := Lib.hid hcur
  have HC := Lib.hid hcur.cur
  have hg1 := hcur.lt
  clear hcur
  have z1 := e1.size
  go_wp2_with fail
  refine (spec_l18Any g w1 HC.out).mono ?_
  rintro e w2 ⟨⟨v1, v2, rfl, t, l, ot, hdt, ol, hdr⟩, d2⟩
  have HDR := Lib.hid hdr
  obtain ⟨hl0, hl5, hp⟩ := hdr
  have HP := Lib.hid hp; clear hp
  have z2 := d2.size
  have e2 : Ext wa w2 := d2.ext e1 hg
  obtain ⟨At_0, nt_0, ct_0, At_1, nt_1, ct_1, rfl⟩ := TopologyO.shape ot
  obtain ⟨Al, nl, cl, rfl⟩ := NO.slice ol
  obtain ⟨A', n', c', e', ln', -, ml, -⟩ := id (TrustRootSO_rd ol (Nat.le_refl _))
  cases e'
  subst ln'
  unfold maxLen at ml
  have OT := Lib.hid ot; have OL := Lib.hid ol; clear ot ol
  go_wp2_with fail
  refine name_wp (fun W => Ext w2 W ∧ W.heap.size = w2.heap.size + 1 ∧ Blk W w2.heap.size 27 [.slice At_0 nt_0 ct_0, .slice At_1 nt_1 ct_1]) ⟨xe, by simp only [World.size_alloc], xb⟩ ?_
  rintro w3 ⟨e3, z3, b5⟩
  have BT := Lib.hid b5; clear b5
  have ea3 : Ext wa w3 := Ext.trans e2 e3
  have ew3 : Ext w w3 := Ext.trans ea ea3
  have OT3 := Lib.hid (OT.out.ext e3 (Nat.le_refl _)); have OL3 := Lib.hid (TrustRootSO_ext OL.out e3 (Nat.le_refl _))
  have HCB3 := Lib.hid ((D.of_ext e3 (by omega : g < w2.heap.size)).cur (d2.cur HCB.out))
  have hg3 : g < w3.heap.size := by omega
  have nb0 : ¬ w2.heap.size = g := by omega
  have mb0 : wa.heap.size ≤ w2.heap.size := by omega
  obtain ⟨gl, -, -, hA, -, hg7, hg8, hg9, -, -⟩ := root_at OL3.out (k := 0) hl0 z2
  subst hA
  have ngl : ¬ gl = g := by omega
  have mgl : wa.heap.size ≤ gl := by omega
  have b4_ := BT.out.ext (w' := w3) xe
  have lb4_ := b4_.lt
  obtain ⟨qb4__0, qb4__1⟩ := blk2 b4_
  have fb4__0 := b4_.frozen 0
  have fb4__1 := b4_.frozen 1
  clear b4_
  have c0_ := B0.out.ext (w' := w3) xe
  have lc0_ := c0_.lt
  obtain ⟨qc0__0, qc0__1⟩ := blk2 c0_
  have fc0__0 := c0_.frozen 0
  have fc0__1 := c0_.frozen 1
  clear c0_
  have c1_ := B1.out.ext (w' := w3) xe
  have lc1_ := c1_.lt
  obtain ⟨qc1__0, qc1__1, qc1__2, qc1__3, qc1__4, qc1__5, qc1__6⟩ := blk7 c1_
  have fc1__0 := c1_.frozen 0
  have fc1__1 := c1_.frozen 1
  have fc1__2 := c1_.frozen 2
  have fc1__3 := c1_.frozen 3
  have fc1__4 := c1_.frozen 4
  have fc1__5 := c1_.frozen 5
  have fc1__6 := c1_.frozen 6
  clear c1_
  refine wp_region_LV 8 9 [1, 6, 7] _ (E := DW g w.heap.size wa.heap.size) (w0 := w3) (G := fun τ => match τ with | 19 => some (fun v W => ∃ k : Nat, v = I (k : Int) ∧ k < l.length) | _ => none)  (DW.refl _ _ _) (fun h k => DW.trans h k) (by kernel_rfl) (by kernel_rfl) rfl rfl (by kernel_rfl) (by kernel_rfl) (by kernel_rfl) (by kernel_rfl) (by kernel_rfl) (by kernel_rfl) (by kernel_rfl) (by kernel_rfl) (by kernel_rfl) (by intro i hi oi hoi; simp only [List.mem_cons, List.not_mem_nil, or_false] at hi; rcases hi with rfl | rfl | rfl <;> obtain rfl := Option.some.inj hoi <;> exact ⟨rfl, rfl, by kernel_rfl⟩) (by intro t φ hG; split at hG; all_goals first | (cases hG; done) | (cases Option.some.inj hG; intro v W W' hE hv; first | exact hv | exact hv.dw hE (by omega) (by omega))) (DW.drew (by exact DW.refl _ _ _ _)) ?_
  simp only [List.take_succ_cons, List.take_zero, List.drop_succ_cons, List.drop_zero, List.cons_append, List.nil_append]
  repeat' (first
    | ((with_reducible refine wpL_skip ?_ ?_ ?_)
       · rfl
       · rfl
       simp only [Act.put, List.setIfInBounds_toArray, List.set_cons_zero, List.set_cons_succ])
    | ((with_reducible refine wpL_quiet ?_ ?_ ?_ ?_)
       · rfl
       · rfl
       · rfl
       apply Exists.intro
       refine ⟨fun W hW hS => ?_, ?_⟩
       · have hC := (DW.facts hW).1
         go_simp
         first | done | (with_reducible rfl) | (rw [if_neg (by omega)]; exact ⟨rfl, rfl⟩) | rfl
       first | (with_reducible refine wpL_boolT ?_) | (with_reducible refine wpL_boolF ?_) | (with_reducible refine wpL_bool (fun hB => ?_) (fun hB => ?_)) | skip
       all_goals simp only [Act.put, List.setIfInBounds_toArray, List.set_cons_zero, List.set_cons_succ])
    | ((refine wpL_grow ?_ rfl rfl ?_ ?_)
       · rfl
       · intro W hW hS
         have hC := (DW.facts hW).1
         unfold growAt
         go_simp
         simp only [growUpon]
         first | (go_at_call 96; (with_reducible refine Calls.mono (spec_l1Below g _ _ ((hW.cur (Nat.le_refl _) hg HCB3.out).cur) (by omega)) ?_); rintro e w9 ⟨x, rfl, hx, d9⟩; exact ⟨_, rfl, DW.of_d d9, ⟨x.toNat, by rw [Int.toNat_of_nonneg hx.1], by have := hx.2.1 (by omega); omega⟩⟩)
       intro v W' hW' hv
       first | ((with_reducible refine intro_at 19 _ ?_); obtain ⟨k19, rfl, k19a⟩ := hv; have k19b : (0 : Int) ≤ (k19 : Int) := (by omega); have k19c : (k19 : Int) < (l.length : Int) := (by omega); obtain ⟨gl9, A9, c9, hA9, -, -, -, -, ⟨r0, r1, r2, r3, r4, r5, r6⟩, ox⟩ := root_at OL3.out k19a z2; cases hA9; have OX := Lib.hid ox; clear ox) | (obtain ⟨A5, n5, c5, rfl, -⟩ := id hv; clear hv) | (obtain ⟨A5, n5, c5, rfl⟩ := NO.slice hv) | skip
       all_goals simp only [Act.put, List.setIfInBounds_toArray, List.set_cons_zero, List.set_cons_succ]))
  refine wpL_nil (fun w4 e4 hL => ?_)
  clear hL
  obtain ⟨s0, hs0, bs0⟩ := e4.shape hg _ _ _ (Nat.le_refl _) (by omega) (B0.out.ext ea3)
  obtain ⟨y0, y1, rfl⟩ := len2 hs0
  have BS0 := Lib.hid bs0; clear bs0
  obtain ⟨s1, hs1, bs1⟩ := e4.shape hg _ _ _ (by omega) (by omega) (B1.out.ext ea3)
  obtain ⟨k0, k1, k2, k3, k4, k5, k6, rfl⟩ := len7 hs1
  have BS1 := Lib.hid bs1; clear bs1
  have z4 := e4.size
  have ew4 : Ext w w4 := DW.ext e4 ew3 (by omega) (Nat.le_refl _)
  have d0_ := BS0.out.ext (w' := w4) xe
  have ld0_ := d0_.lt
  obtain ⟨qd0__0, qd0__1⟩ := blk2 d0_
  have fd0__0 := d0_.frozen 0
  have fd0__1 := d0_.frozen 1
  clear d0_
  refine ⟨undef, (w4.setCell ⟨w.heap.size, 0, none⟩ (.slice At_0 nt_0 ct_0)).setCell ⟨w.heap.size, 1, none⟩ (.slice At_1 nt_1 ct_1), .skip, .inr ⟨rfl, rfl⟩, ?run, ?_⟩
  case run =>
    go_simp
    first | done | rfl
  refine ⟨DW.set (DW.set (DW.refl _ _ _ _) (Nat.le_refl _) (by omega) _) (Nat.le_refl _) (by omega) _, ?_⟩
  refine name_wpl (fun W => Ext w W ∧ Kp wa.heap.size w4 W ∧ Blk W w.heap.size 27 [.slice At_0 nt_0 ct_0, .slice At_1 nt_1 ct_1] ∧ Blk W (w.heap.size + 1) 33 [k0, k1, k2, k3, k4, k5, k6]) ⟨xset, kp, by simpa using (BS0.out.set_ 0 (.slice At_0 nt_0 ct_0)).set_ 1 (.slice At_1 nt_1 ct_1), (BS1.out.far (by dsimp only; omega) _).far (by dsimp only; omega) _⟩ ?_
  clear ld0_ qd0__0 qd0__1 fd0__0 fd0__1
  rintro w5 ⟨e5, kp5, b7, b8⟩
  have B7 := Lib.hid b7; have B8 := Lib.hid b8; clear b7 b8
  have d0_ := B7.out.ext (w' := w5) xe
  have ld0_ := d0_.lt
  obtain ⟨qd0__0, qd0__1⟩ := blk2 d0_
  have fd0__0 := d0_.frozen 0
  have fd0__1 := d0_.frozen 1
  clear d0_
  have d1_ := B8.out.ext (w' := w5) xe
  have ld1_ := d1_.lt
  obtain ⟨qd1__0, qd1__1, qd1__2, qd1__3, qd1__4, qd1__5, qd1__6⟩ := blk7 d1_
  have fd1__0 := d1_.frozen 0
  have fd1__1 := d1_.frozen 1
  have fd1__2 := d1_.frozen 2
  have fd1__3 := d1_.frozen 3
  have fd1__4 := d1_.frozen 4
  have fd1__5 := d1_.frozen 5
  have fd1__6 := d1_.frozen 6
  clear d1_
  try simp only [List.drop_succ_cons, List.drop_zero]
  go_wp2_with fail
  refine bodyPost_ret (v := .tuple #[.agg #[.slice At_0 nt_0 ct_0, .slice At_1 nt_1 ct_1], .agg #[I l[k19].isd, I l[k19].version, I l[k19].notBefore, I l[k19].notAfter, I l[k19].voters, I l[k19].quorum, .slice A9 l[k19].sigs.length c9]]) (by simp [results, Try.results39, go_sem, *]) rfl ⟨⟨_, _, rfl, t, l[k19], ?_, ?_, HP.out _ (List.getElem_mem _)⟩, ?_⟩
  · exact TopologyO.kp (m := wa.heap.size) (OT3.out.dw e4 (by omega) (by omega)) (kp5.trans kp) (by omega) (by omega)
  · exact TrustRootO.kp (m := wa.heap.size) (OX.out.dw e4 (by omega) (by omega)) (kp5.trans kp) (by omega) (by omega)
  · exact xset
set_option maxRecDepth 100000 in
set_option maxHeartbeats 1000000 in
theorem spec_DrawActiveRoot (vb : Value) (bs : List Nat) (w : World) (hb : ByteS w.heap.size w vb bs) (hn : bs.length ≤ 1048576) : Calls Try.prog 41 #[vb] w fun e w' => (∃ vt vl n, e = .returned (.tuple #[vt, vl, I n]) ∧ ∃ t l, TopologyV w'.heap.size w' vt t ∧ TrustRootS w'.heap.size w' vl l ∧ DrawnRoots l) ∧ Ext w w' := by
  have HB := Lib.hid hb; clear hb
  go_enter Try.func41, Try.ntmps41
  go_wp2_with fail
  refine name_calls (fun W => Ext w W ∧ W.heap.size = w.heap.size + 1 ∧ Blk W (w.heap.size) 27 [.slice none 0 0, .slice none 0 0]) ⟨xe, by simp only [World.size_alloc], xb⟩ ?_
  rintro wa ⟨ea, za_, br0⟩
  obtain ⟨za, za'⟩ := le_both za_
  clear za_
  have B0 := Lib.hid br0; clear br0
  refine (spec_l1NewB vb bs w.heap.size wa (HB.out.keep ByteAt.keeps (Nat.le_refl _) fun k hk => ea.same k hk) (by omega) hn).mono ?_
  rintro e w1 ⟨g, rfl, hg, hcur, e1⟩
  have HCB := Lib.hid hcur
  have HC := Lib.hid hcur.cur
  have hg1 := hcur.lt
  clear hcur
  have z1 := e1.size
  go_wp2_with fail
  refine (spec_l18Any g w1 HC.out).mono ?_
  rintro e w2 ⟨⟨v1, v2, rfl, t, l, ot, hdt, ol, hdr⟩, d2⟩
  have HDR := Lib.hid hdr
  obtain ⟨hl0, hl5, hp⟩ := hdr
  have HP := Lib.hid hp; clear hp
  have z2 := d2.size
  have e2 : Ext wa w2 := d2.ext e1 hg
  obtain ⟨At_0, nt_0, ct_0, At_1, nt_1, ct_1, rfl⟩ := TopologyO.shape ot
  obtain ⟨Al, nl, cl, rfl⟩ := NO.slice ol
  obtain ⟨A', n', c', e', ln', -, ml, -⟩ := id (TrustRootSO_rd ol (Nat.le_refl _))
  cases e'
  subst ln'
  unfold maxLen at ml
  have OT := Lib.hid ot; have OL := Lib.hid ol; clear ot ol
  go_wp2_with fail
  refine name_wp (fun W => Ext w2 W ∧ W.heap.size = w2.heap.size + 1 ∧ Blk W w2.heap.size 27 [.slice At_0 nt_0 ct_0, .slice At_1 nt_1 ct_1]) ⟨xe, by simp only [World.size_alloc], xb⟩ ?_
  rintro w3 ⟨e3, z3, b5⟩
  have BT := Lib.hid b5; clear b5
  have ea3 : Ext wa w3 := Ext.trans e2 e3
  have ew3 : Ext w w3 := Ext.trans ea ea3
  have OT3 := Lib.hid (OT.out.ext e3 (Nat.le_refl _)); have OL3 := Lib.hid (TrustRootSO_ext OL.out e3 (Nat.le_refl _))
  have HCB3 := Lib.hid ((D.of_ext e3 (by omega : g < w2.heap.size)).cur (d2.cur HCB.out))
  have hg3 : g < w3.heap.size := by omega
  have nb0 : ¬ w2.heap.size = g := by omega
  have mb0 : wa.heap.size ≤ w2.heap.size := by omega
  have b4_ := BT.out.ext (w' := w3) xe
  have lb4_ := b4_.lt
  obtain ⟨qb4__0, qb4__1⟩ := blk2 b4_
  have fb4__0 := b4_.frozen 0
  have fb4__1 := b4_.frozen 1
  clear b4_
  refine wp_region_LV 4 5 [1] _ (E := DW g w.heap.size wa.heap.size) (w0 := w3) (G := fun τ => match τ with | 18 => some (fun v W => ∃ x : Int, v = I x) | _ => none)  (DW.refl _ _ _) (fun h k => DW.trans h k) (by kernel_rfl) (by kernel_rfl) rfl rfl (by kernel_rfl) (by kernel_rfl) (by kernel_rfl) (by kernel_rfl) (by kernel_rfl) (by kernel_rfl) (by kernel_rfl) (by kernel_rfl) (by kernel_rfl) (by intro i hi oi hoi; simp only [List.mem_cons, List.not_mem_nil, or_false] at hi; rcases hi with rfl; obtain rfl := Option.some.inj hoi <;> exact ⟨rfl, rfl, by kernel_rfl⟩) (by intro t φ hG; split at hG; all_goals first | (cases hG; done) | (cases Option.some.inj hG; intro v W W' hE hv; first | exact hv | exact hv.dw hE (by omega) (by omega))) (DW.drew (by exact DW.refl _ _ _ _)) ?_
  simp only [List.take_succ_cons, List.take_zero, List.drop_succ_cons, List.drop_zero, List.cons_append, List.nil_append]
  repeat' (first
    | ((with_reducible refine wpL_skip ?_ ?_ ?_)
       · rfl
       · rfl
       simp only [Act.put, List.setIfInBounds_toArray, List.set_cons_zero, List.set_cons_succ])
    | ((with_reducible refine wpL_quiet ?_ ?_ ?_ ?_)
       · rfl
       · rfl
       · rfl
       apply Exists.intro
       refine ⟨fun W hW hS => ?_, ?_⟩
       · have hC := (DW.facts hW).1
         go_simp
         first | done | (with_reducible rfl) | (rw [if_neg (by omega)]; exact ⟨rfl, rfl⟩) | rfl
       first | (with_reducible refine wpL_boolT ?_) | (with_reducible refine wpL_boolF ?_) | (with_reducible refine wpL_bool (fun hB => ?_) (fun hB => ?_)) | skip
       all_goals simp only [Act.put, List.setIfInBounds_toArray, List.set_cons_zero, List.set_cons_succ])
    | ((refine wpL_grow ?_ rfl rfl ?_ ?_)
       · rfl
       · intro W hW hS
         have hC := (DW.facts hW).1
         unfold growAt
         go_simp
         simp only [growUpon]
         first | (go_at_call 96; (with_reducible refine Calls.mono (spec_l1Below g _ _ ((hW.cur (Nat.le_refl _) hg HCB3.out).cur) (by omega)) ?_); rintro e w9 ⟨x, rfl, -, d9⟩; exact ⟨_, rfl, DW.of_d d9, ⟨x, rfl⟩⟩)
       intro v W' hW' hv
       first | ((with_reducible refine intro_at 18 _ ?_); obtain ⟨x18, rfl⟩ := hv) | (obtain ⟨A5, n5, c5, rfl, -⟩ := id hv; clear hv) | (obtain ⟨A5, n5, c5, rfl⟩ := NO.slice hv) | skip
       all_goals simp only [Act.put, List.setIfInBounds_toArray, List.set_cons_zero, List.set_cons_succ]))
  refine wpL_nil (fun w4 e4 hL => ?_)
  clear hL
  obtain ⟨s0, hs0, bs0⟩ := e4.shape hg _ _ _ (Nat.le_refl _) (by omega) (B0.out.ext ea3)
  obtain ⟨y0, y1, rfl⟩ := len2 hs0
  have BS0 := Lib.hid bs0; clear bs0
  have z4 := e4.size
  have ew4 : Ext w w4 := DW.ext e4 ew3 (by omega) (Nat.le_refl _)
  have d0_ := BS0.out.ext (w' := w4) xe
  have ld0_ := d0_.lt
  obtain ⟨qd0__0, qd0__1⟩ := blk2 d0_
  have fd0__0 := d0_.frozen 0
  have fd0__1 := d0_.frozen 1
  clear d0_
  refine ⟨undef, (w4.setCell ⟨w.heap.size, 0, none⟩ (.slice At_0 nt_0 ct_0)).setCell ⟨w.heap.size, 1, none⟩ (.slice At_1 nt_1 ct_1), .skip, .inr ⟨rfl, rfl⟩, ?run, ?_⟩
  case run =>
    go_simp
    first | done | rfl
  refine ⟨DW.set (DW.set (DW.refl _ _ _ _) (Nat.le_refl _) (by omega) _) (Nat.le_refl _) (by omega) _, ?_⟩
  refine name_wpl (fun W => Ext w W ∧ Kp wa.heap.size w4 W ∧ Blk W w.heap.size 27 [.slice At_0 nt_0 ct_0, .slice At_1 nt_1 ct_1]) ⟨xset, kp, by simpa using (BS0.out.set_ 0 (.slice At_0 nt_0 ct_0)).set_ 1 (.slice At_1 nt_1 ct_1)⟩ ?_
  clear ld0_ qd0__0 qd0__1 fd0__0 fd0__1
  rintro w5 ⟨e5, kp5, b7⟩
  have B7 := Lib.hid b7; clear b7
  have d0_ := B7.out.ext (w' := w5) xe
  have ld0_ := d0_.lt
  obtain ⟨qd0__0, qd0__1⟩ := blk2 d0_
  have fd0__0 := d0_.frozen 0
  have fd0__1 := d0_.frozen 1
  clear d0_
  try simp only [List.drop_succ_cons, List.drop_zero]
  go_wp2_with fail
  refine bodyPost_ret (v := .tuple #[.agg #[.slice At_0 nt_0 ct_0, .slice At_1 nt_1 ct_1], .slice Al l.length cl, I x18]) (by simp [results, Try.results41, go_sem, *]) rfl ⟨⟨_, _, _, rfl, t, l, ?_, ?_, HDR.out⟩, ?_⟩
  · exact TopologyO.kp (m := wa.heap.size) (OT3.out.dw e4 (by omega) (by omega)) kp5 (by omega) (by omega)
  · exact TrustRootSO.kp (m := wa.heap.size) (NO.dw TrustRootOC.keeps OL3.out e4 (by omega) (by omega)) kp5 (by omega) (by omega)
  · exact e5
set_option maxRecDepth 100000 in
set_option maxHeartbeats 1000000 in
theorem spec_DrawUpdateRoots (vb : Value) (bs : List Nat) (w : World) (hb : ByteS w.heap.size w vb bs) (hn : bs.length ≤ 1048576) : Calls Try.prog 42 #[vb] w fun e w' => (∃ vt vl vx, e = .returned (.tuple #[vt, vl, vx]) ∧ ∃ t l x, TopologyV w'.heap.size w' vt t ∧ TrustRootS w'.heap.size w' vl l ∧ TrustRootV w'.heap.size w' vx x ∧ DrawnRoots l ∧ x.sigs.length ≤ 16) ∧ Ext w w' := by
  have HB := Lib.hid hb; clear hb
  go_enter Try.func42, Try.ntmps42
  go_wp2_with fail
  refine name_calls (fun W => Ext w W ∧ W.heap.size = w.heap.size + 1 + 1 ∧ Blk W (w.heap.size) 27 [.slice none 0 0, .slice none 0 0] ∧ Blk W (w.heap.size + 1) 33 [I 0, I 0, I 0, I 0, I 0, I 0, .slice none 0 0]) ⟨xe, by simp only [World.size_alloc], xb, xb⟩ ?_
  rintro wa ⟨ea, za_, br0, br1⟩
  obtain ⟨za, za'⟩ := le_both za_
  clear za_
  have B0 := Lib.hid br0; have B1 := Lib.hid br1; clear br0 br1
  refine (spec_l1NewB vb bs w.heap.size wa (HB.out.keep ByteAt.keeps (Nat.le_refl _) fun k hk => ea.same k hk) (by omega) hn).mono ?_
  rintro e w1 ⟨g, rfl, hg, hcur, e1⟩
  have HCB := Lib.hid hcur
  have HC := Lib.hid hcur.cur
  have hg1 := hcur.lt
  clear hcur
  have z1 := e1.size
  go_wp2_with fail
  refine (spec_l18Any g w1 HC.out).mono ?_
  rintro e w2 ⟨⟨v1, v2, rfl, t, l, ot, hdt, ol, hdr⟩, d2⟩
  have HDR := Lib.hid hdr
  obtain ⟨hl0, hl5, hp⟩ := hdr
  have HP := Lib.hid hp; clear hp
  have z2 := d2.size
  have e2 : Ext wa w2 := d2.ext e1 hg
  obtain ⟨At_0, nt_0, ct_0, At_1, nt_1, ct_1, rfl⟩ := TopologyO.shape ot
  obtain ⟨Al, nl, cl, rfl⟩ := NO.slice ol
  obtain ⟨A', n', c', e', ln', -, ml, -⟩ := id (TrustRootSO_rd ol (Nat.le_refl _))
  cases e'
  subst ln'
  unfold maxLen at ml
  have OT := Lib.hid ot; have OL := Lib.hid ol; clear ot ol
  obtain ⟨j, hj⟩ : ∃ j : Nat, l.length = j + 1 := ⟨l.length - 1, by omega⟩
  obtain ⟨gl, A6, c6, hA, -, hg7, hg8, hg9, ⟨q0, q1, q2, q3, q4, q5, q6⟩, ox⟩ := root_at OL.out (k := j) (by omega) z2
  have hx := HP.out l[j] (List.getElem_mem _)
  subst hA
  have OX := Lib.hid ox; clear ox
  generalize l[j] = x at *
  have HJ := Lib.hid hj
  have j0 : (0 : Int) ≤ (l.length : Int) - 1 := by omega
  have j1 : (l.length : Int) - 1 < (l.length : Int) := by omega
  have j2 : ((l.length : Int) - 1).toNat = j := by omega
  have j3 : (l.length : Int) - 1 ≤ (cl : Int) := by have := (TrustRootSO_rd OL.out (Nat.le_refl _)).len; omega
  clear hj
  by_cases h1 : 1 < l.length
  · have i1 : (1 : Int) < (l.length : Int) := by omega
    go_wp2_with fail
    refine name_wp (fun W => Ext w2 W ∧ W.heap.size = w2.heap.size + 1 + 1 ∧ Blk W w2.heap.size 27 [.slice At_0 nt_0 ct_0, .slice At_1 nt_1 ct_1] ∧ Blk W (w2.heap.size + 1) 33 [I x.isd, I x.version, I x.notBefore, I x.notAfter, I x.voters, I x.quorum, .slice A6 x.sigs.length c6]) ⟨xe, by simp only [World.size_alloc], xb, xb⟩ ?_
    rintro w3 ⟨e3, z3, b5, b6⟩
    have BT := Lib.hid b5; have BX := Lib.hid b6; clear b5 b6
    have ea3 : Ext wa w3 := Ext.trans e2 e3
    have ew3 : Ext w w3 := Ext.trans ea ea3
    have OT3 := Lib.hid (OT.out.ext e3 (Nat.le_refl _)); have OL3 := Lib.hid (TrustRootSO_ext OL.out e3 (Nat.le_refl _)); have OX3 := Lib.hid (OX.out.ext e3 (Nat.le_refl _))
    have b4_ := BT.out.ext (w' := w3) xe
    have lb4_ := b4_.lt
    obtain ⟨qb4__0, qb4__1⟩ := blk2 b4_
    have fb4__0 := b4_.frozen 0
    have fb4__1 := b4_.frozen 1
    clear b4_
    have b6_ := BX.out.ext (w' := w3) xe
    have lb6_ := b6_.lt
    obtain ⟨qb6__0, qb6__1, qb6__2, qb6__3, qb6__4, qb6__5, qb6__6⟩ := blk7 b6_
    have fb6__0 := b6_.frozen 0
    have fb6__1 := b6_.frozen 1
    have fb6__2 := b6_.frozen 2
    have fb6__3 := b6_.frozen 3
    have fb6__4 := b6_.frozen 4
    have fb6__5 := b6_.frozen 5
    have fb6__6 := b6_.frozen 6
    clear b6_
    have c0_ := B0.out.ext (w' := w3) xe
    have lc0_ := c0_.lt
    obtain ⟨qc0__0, qc0__1⟩ := blk2 c0_
    have fc0__0 := c0_.frozen 0
    have fc0__1 := c0_.frozen 1
    clear c0_
    have c1_ := B1.out.ext (w' := w3) xe
    have lc1_ := c1_.lt
    obtain ⟨qc1__0, qc1__1, qc1__2, qc1__3, qc1__4, qc1__5, qc1__6⟩ := blk7 c1_
    have fc1__0 := c1_.frozen 0
    have fc1__1 := c1_.frozen 1
    have fc1__2 := c1_.frozen 2
    have fc1__3 := c1_.frozen 3
    have fc1__4 := c1_.frozen 4
    have fc1__5 := c1_.frozen 5
    have fc1__6 := c1_.frozen 6
    clear c1_
    go_region
    go_wp2_with fail
    refine bodyPost_ret (v := .tuple #[.agg #[.slice At_0 nt_0 ct_0, .slice At_1 nt_1 ct_1], .slice (some ⟨gl, 0, none⟩) j cl, .agg #[I x.isd, I x.version, I x.notBefore, I x.notAfter, I x.voters, I x.quorum, .slice A6 x.sigs.length c6]]) (by simp [results, Try.results42, go_sem, *]) rfl ⟨⟨_, _, _, rfl, t, l.take j, x, ?_, ?_, ?_, ⟨by (rw [List.length_take]; have := HJ.out; omega), by (rw [List.length_take]; omega), fun y hy => HP.out y (List.mem_of_mem_take hy)⟩, hx⟩, ?_⟩
    · exact TopologyO.kp (m := wa.heap.size) OT3.out kp (by omega) (by omega)
    · exact Sl.takeR (TrustRootSO.kp (m := wa.heap.size) OL3.out kp (by omega) (by omega)) (by have := HJ.out; omega)
    · exact TrustRootO.kp (m := wa.heap.size) OX3.out kp (by omega) (by omega)
    · exact xset
  · have i1 : ¬ (1 : Int) < (l.length : Int) := by omega
    go_wp2_with fail
    refine name_wp (fun W => Ext w2 W ∧ W.heap.size = w2.heap.size + 1 + 1 ∧ Blk W w2.heap.size 27 [.slice At_0 nt_0 ct_0, .slice At_1 nt_1 ct_1] ∧ Blk W (w2.heap.size + 1) 33 [I x.isd, I x.version, I x.notBefore, I x.notAfter, I x.voters, I x.quorum, .slice A6 x.sigs.length c6]) ⟨xe, by simp only [World.size_alloc], xb, xb⟩ ?_
    rintro w3 ⟨e3, z3, b5, b6⟩
    have BT := Lib.hid b5; have BX := Lib.hid b6; clear b5 b6
    have ea3 : Ext wa w3 := Ext.trans e2 e3
    have ew3 : Ext w w3 := Ext.trans ea ea3
    have OT3 := Lib.hid (OT.out.ext e3 (Nat.le_refl _)); have OL3 := Lib.hid (TrustRootSO_ext OL.out e3 (Nat.le_refl _)); have OX3 := Lib.hid (OX.out.ext e3 (Nat.le_refl _))
    have b4_ := BT.out.ext (w' := w3) xe
    have lb4_ := b4_.lt
    obtain ⟨qb4__0, qb4__1⟩ := blk2 b4_
    have fb4__0 := b4_.frozen 0
    have fb4__1 := b4_.frozen 1
    clear b4_
    have b6_ := BX.out.ext (w' := w3) xe
    have lb6_ := b6_.lt
    obtain ⟨qb6__0, qb6__1, qb6__2, qb6__3, qb6__4, qb6__5, qb6__6⟩ := blk7 b6_
    have fb6__0 := b6_.frozen 0
    have fb6__1 := b6_.frozen 1
    have fb6__2 := b6_.frozen 2
    have fb6__3 := b6_.frozen 3
    have fb6__4 := b6_.frozen 4
    have fb6__5 := b6_.frozen 5
    have fb6__6 := b6_.frozen 6
    clear b6_
    have c0_ := B0.out.ext (w' := w3) xe
    have lc0_ := c0_.lt
    obtain ⟨qc0__0, qc0__1⟩ := blk2 c0_
    have fc0__0 := c0_.frozen 0
    have fc0__1 := c0_.frozen 1
    clear c0_
    have c1_ := B1.out.ext (w' := w3) xe
    have lc1_ := c1_.lt
    obtain ⟨qc1__0, qc1__1, qc1__2, qc1__3, qc1__4, qc1__5, qc1__6⟩ := blk7 c1_
    have fc1__0 := c1_.frozen 0
    have fc1__1 := c1_.frozen 1
    have fc1__2 := c1_.frozen 2
    have fc1__3 := c1_.frozen 3
    have fc1__4 := c1_.frozen 4
    have fc1__5 := c1_.frozen 5
    have fc1__6 := c1_.frozen 6
    clear c1_
    go_region
    go_wp2_with fail
    refine bodyPost_ret (v := .tuple #[.agg #[.slice At_0 nt_0 ct_0, .slice At_1 nt_1 ct_1], .slice (some ⟨gl, 0, none⟩) l.length cl, .agg #[I x.isd, I x.version, I x.notBefore, I x.notAfter, I x.voters, I x.quorum, .slice A6 x.sigs.length c6]]) (by simp [results, Try.results42, go_sem, *]) rfl ⟨⟨_, _, _, rfl, t, l, x, ?_, ?_, ?_, HDR.out, hx⟩, ?_⟩
    · exact TopologyO.kp (m := wa.heap.size) OT3.out kp (by omega) (by omega)
    · exact TrustRootSO.kp (m := wa.heap.size) OL3.out kp (by omega) (by omega)
    · exact TrustRootO.kp (m := wa.heap.size) OX3.out kp (by omega) (by omega)
    · exact xset
set_option maxRecDepth 100000 in
set_option maxHeartbeats 1000000 in
theorem spec_MaxK (k m : Nat) (w : World) (hm : m = k - 1) (hk : k ≤ 100) : Calls Try.prog 109 #[I 0, I (IntKind.i64.wrap ((k : Int) - 1))] w fun e w' => e = .returned (I (m : Int)) ∧ w = w' := by
  rw [IntWalk.i64_in ((k : Int) - 1) (by omega)]
  go_enter Try.func109, Try.ntmps109
  by_cases h : 1 < k
  · have e1 : (k : Int) - 1 = (m : Int) := by omega
    rw [e1]
    have h0 : (0 : Int) < (m : Int) := by omega
    go_wp2_with fail
    go_ret
    exact ⟨rfl, rfl⟩
  · obtain rfl : m = 0 := by omega
    have h0 : ¬ (0 : Int) < (k : Int) - 1 := by omega
    go_wp2_with fail
    go_ret
    exact ⟨by first | rfl | (simp; omega), rfl⟩
set_option maxRecDepth 100000 in
set_option maxHeartbeats 8000000 in
theorem spec_DrawIsSuccessor (vb : Value) (bs : List Nat) (w : World) (hb : ByteS w.heap.size w vb bs) (hn : bs.length ≤ 1048576) : Calls Try.prog 40 #[vb] w fun e w' => (∃ vt vx vy, e = .returned (.tuple #[vt, vx, vy]) ∧ ∃ t x y, TopologyV w'.heap.size w' vt t ∧ TrustRootV w'.heap.size w' vx x ∧ TrustRootV w'.heap.size w' vy y ∧ x.sigs.length ≤ 16 ∧ y.sigs.length ≤ 16) ∧ Ext w w' := by
  have HB := Lib.hid hb; clear hb
  go_enter Try.func40, Try.ntmps40
  go_wp2_with fail
  refine name_calls (fun W => Ext w W ∧ W.heap.size = w.heap.size + 1 + 1 + 1 ∧ Blk W (w.heap.size) 27 [.slice none 0 0, .slice none 0 0] ∧ Blk W (w.heap.size + 1) 33 [I 0, I 0, I 0, I 0, I 0, I 0, .slice none 0 0] ∧ Blk W (w.heap.size + 1 + 1) 33 [I 0, I 0, I 0, I 0, I 0, I 0, .slice none 0 0]) ⟨xe, by simp only [World.size_alloc], xb, xb, xb⟩ ?_
  rintro wa ⟨ea, za_, br0, br1, br2⟩
  obtain ⟨za, za'⟩ := le_both za_
  clear za_
  have B0 := Lib.hid br0; have B1 := Lib.hid br1; have B2 := Lib.hid br2; clear br0 br1 br2
  refine (spec_l1NewB vb bs w.heap.size wa (HB.out.keep ByteAt.keeps (Nat.le_refl _) fun k hk => ea.same k hk) (by omega) hn).mono ?_
  rintro e w1 ⟨g, rfl, hg, hcur, e1⟩
  have HCB := Lib.hid hcur
  have HC := Lib.hid hcur.cur
  have hg1 := hcur.lt
  clear hcur
  have z1 := e1.size
  go_wp2_with fail
  refine (spec_l18Any g w1 HC.out).mono ?_
  rintro e w2 ⟨⟨v1, v2, rfl, t, l, ot, hdt, ol, hdr⟩, d2⟩
  have HDR := Lib.hid hdr
  obtain ⟨hl0, hl5, hp⟩ := hdr
  have HP := Lib.hid hp; clear hp
  have z2 := d2.size
  have e2 : Ext wa w2 := d2.ext e1 hg
  obtain ⟨At_0, nt_0, ct_0, At_1, nt_1, ct_1, rfl⟩ := TopologyO.shape ot
  obtain ⟨Al, nl, cl, rfl⟩ := NO.slice ol
  obtain ⟨A', n', c', e', ln', -, ml, -⟩ := id (TrustRootSO_rd ol (Nat.le_refl _))
  cases e'
  subst ln'
  unfold maxLen at ml
  have OT := Lib.hid ot; have OL := Lib.hid ol; clear ot ol
  go_wp2_with fail
  refine name_calls (fun W => Ext w2 W ∧ W.heap.size = w2.heap.size + 1 ∧ Blk W w2.heap.size 27 [.slice At_0 nt_0 ct_0, .slice At_1 nt_1 ct_1]) ⟨xe, by simp only [World.size_alloc], xb⟩ ?_
  rintro w3 ⟨e3, z3, b5⟩
  have BT := Lib.hid b5; clear b5
  have d23 : D g w2 w3 := D.of_ext e3 (by omega)
  refine (spec_l1Below g (l.length : Int) w3 (d23.cur (d2.cur HC.out)) (by omega)).mono ?_
  rintro e w4 ⟨x4, rfl, ⟨x4a, x4b, -⟩, d4⟩
  have x4b := x4b (by omega)
  obtain ⟨k, rfl⟩ : ∃ k : Nat, x4 = (k : Int) := ⟨x4.toNat, by omega⟩
  have z4 := d4.size
  have da4 : D g w1 w4 := D.trans d2 (D.trans d23 d4)
  have ea4 : Ext wa w4 := da4.ext e1 hg
  have ew4 : Ext w w4 := Ext.trans ea ea4
  have OT4 := Lib.hid (OT.out.d (D.trans d23 d4) (by omega)); have OL4 := Lib.hid (NO.d TrustRootOC.keeps OL.out (D.trans d23 d4) (by omega))
  have BT4 := Lib.hid (BT.out.d d4 (by omega))
  obtain ⟨m, hm, hm2⟩ : ∃ m : Nat, m = k - 1 ∧ m < l.length := ⟨k - 1, rfl, by omega⟩
  have hk100 : k ≤ 100 := by omega
  obtain ⟨gl, A6, c6, hA, -, hg7, hg8, hg9, ⟨q0, q1, q2, q3, q4, q5, q6⟩, ox⟩ := root_at OL4.out (k := k) (by omega) z2
  subst hA
  obtain ⟨gl2, A7, c7, hA, -, -, -, -, ⟨r0, r1, r2, r3, r4, r5, r6⟩, oy⟩ := root_at OL4.out (k := m) hm2 z2
  cases hA
  have hx := HP.out l[k] (List.getElem_mem _)
  have hy := HP.out l[m] (List.getElem_mem _)
  have OX := Lib.hid ox; have OY := Lib.hid oy; clear ox oy
  generalize l[k] = x at *
  generalize l[m] = y at *
  have i0 : (0 : Int) ≤ (k : Int) := by omega
  have i1 : (k : Int) < (l.length : Int) := by omega
  have j0 : (0 : Int) ≤ (m : Int) := by omega
  have j1 : (m : Int) < (l.length : Int) := by omega
  have HM := Lib.hid hm; clear hm
  have b4_ := BT4.out.ext (w' := w4) xe
  have lb4_ := b4_.lt
  obtain ⟨qb4__0, qb4__1⟩ := blk2 b4_
  have fb4__0 := b4_.frozen 0
  have fb4__1 := b4_.frozen 1
  clear b4_
  have c0_ := B0.out.ext (w' := w4) xe
  have lc0_ := c0_.lt
  obtain ⟨qc0__0, qc0__1⟩ := blk2 c0_
  have fc0__0 := c0_.frozen 0
  have fc0__1 := c0_.frozen 1
  clear c0_
  have c1_ := B1.out.ext (w' := w4) xe
  have lc1_ := c1_.lt
  obtain ⟨qc1__0, qc1__1, qc1__2, qc1__3, qc1__4, qc1__5, qc1__6⟩ := blk7 c1_
  have fc1__0 := c1_.frozen 0
  have fc1__1 := c1_.frozen 1
  have fc1__2 := c1_.frozen 2
  have fc1__3 := c1_.frozen 3
  have fc1__4 := c1_.frozen 4
  have fc1__5 := c1_.frozen 5
  have fc1__6 := c1_.frozen 6
  clear c1_
  have c2_ := B2.out.ext (w' := w4) xe
  have lc2_ := c2_.lt
  obtain ⟨qc2__0, qc2__1, qc2__2, qc2__3, qc2__4, qc2__5, qc2__6⟩ := blk7 c2_
  have fc2__0 := c2_.frozen 0
  have fc2__1 := c2_.frozen 1
  have fc2__2 := c2_.frozen 2
  have fc2__3 := c2_.frozen 3
  have fc2__4 := c2_.frozen 4
  have fc2__5 := c2_.frozen 5
  have fc2__6 := c2_.frozen 6
  clear c2_
  go_wp2_with fail
  go_region_with (go_at_call 109; refine (spec_MaxK k m _ HM.out hk100).mono ?_; rintro e w9 ⟨rfl, rfl⟩)
  all_goals
    go_wp2_with fail
    have lt0 : w.heap.size < wa.heap.size := by omega
    have lt1 : w.heap.size + 1 < wa.heap.size := by omega
    have lt2 : w.heap.size + 1 + 1 < wa.heap.size := by omega
    refine bodyPost_ret (v := .tuple #[.agg #[.slice At_0 nt_0 ct_0, .slice At_1 nt_1 ct_1], .agg #[I y.isd, I y.version, I y.notBefore, I y.notAfter, I y.voters, I y.quorum, .slice A7 y.sigs.length c7], .agg #[I x.isd, I x.version, I x.notBefore, I x.notAfter, I x.voters, I x.quorum, .slice A6 x.sigs.length c6]]) (by simp [results, Try.results40, go_sem, *]) rfl ⟨⟨_, _, _, rfl, t, y, x, ?_, ?_, ?_, hy, hx⟩, ?_⟩
    · exact TopologyO.kp (m := wa.heap.size) OT4.out kp (by omega) (by omega)
    · exact TrustRootO.kp (m := wa.heap.size) OY.out kp (by omega) (by omega)
    · exact TrustRootO.kp (m := wa.heap.size) OX.out kp (by omega) (by omega)
    · exact xset
end Go.Proofs.Ytmlfnfflpacchaa
