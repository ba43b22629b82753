/- Contracts of the reference's draws of signed segments: DrawSignedSegmentValid, DrawFilterSigned. The given slice holds bytes. -/
import Derived.Test.YtddaodemdkjijaaGreatD26
namespace Go.Proofs.YtddaodemdkjijaaGreat
open Go.RowKit
set_option linter.unusedVariables false
theorem tot_small (x : List DSignedSegment) (h : ∀ y ∈ x, y.seg.hops.length ≤ 5 ∧ y.sigs.length ≤ 5) : totS (fun y : DSignedSegment => y.seg.hops.length + y.sigs.length) x ≤ 11 * x.length := by
  unfold totS
  induction x with
  | nil => simp
  | cons a x ih =>
    have h1 := h a (List.mem_cons_self ..)
    have h2 := ih (fun y hy => h y (List.mem_cons_of_mem _ hy))
    simp only [List.map_cons, List.sum_cons, List.length_cons] at h2 ⊢
    omega
theorem SignedL.to_oc {lo : Nat} {W : World} {v : Value} {x : DSignedSegment} (h : SignedL lo W v x) : ∃ A2 c2 A3 c3 fp, v = .agg #[I x.seg.ts, I x.seg.beta, .slice A2 x.seg.hops.length c2, .slice A3 x.sigs.length c3] ∧ SignedSegmentOC W fp [I x.seg.ts, I x.seg.beta, .slice A2 x.seg.hops.length c2, .slice A3 x.sigs.length c3] x ∧ fp.Nodup ∧ ∀ b ∈ fp, lo ≤ b ∧ b < W.heap.size := by
  obtain ⟨A2, c2, A3, c3, e, o2, o3⟩ := h
  have b2 : ∀ b ∈ (Value.slice A2 x.seg.hops.length c2).ownBlock.toList, lo ≤ b ∧ b < W.heap.size := fun b hb => ⟨(o2.1.lt b (by simpa using hb)).1, o2.2 b (by simpa using hb)⟩
  have d2 : ((Value.slice A2 x.seg.hops.length c2).ownBlock.toList).Nodup := by cases (Value.slice A2 x.seg.hops.length c2).ownBlock <;> simp
  have b3 : ∀ b ∈ (Value.slice A3 x.sigs.length c3).ownBlock.toList, lo ≤ b ∧ b < W.heap.size := fun b hb => ⟨(o3.1.lt b (by simpa using hb)).1, o3.2 b (by simpa using hb)⟩
  have d3 : ((Value.slice A3 x.sigs.length c3).ownBlock.toList).Nodup := by cases (Value.slice A3 x.sigs.length c3).ownBlock <;> simp
  refine ⟨A2, c2, A3, c3, _, e, ⟨_, _, rfl, (Own.more o2 (Nat.zero_le _) (Nat.le_refl _)).1, (Own.more o3 (Nat.zero_le _) (Nat.le_refl _)).1, rfl⟩, List.nodup_append.2 ⟨d2, d3, fun a ha b hb => ?_⟩, fun b hb => (List.mem_append.1 hb).elim (fun hb => b2 b hb) (fun hb => b3 b hb)⟩
  rintro rfl
  rcases o3.cases with ⟨e3, _, _⟩ | ⟨g3, cap3, rest3, e3, -, -, hb3, -⟩
  · rw [e3] at hb; simp [Value.ownBlock] at hb
  · rw [e3] at hb
    have hg : a = g3 := by simpa [Value.ownBlock] using hb
    subst hg
    rcases o2.cases with ⟨e2, _, _⟩ | ⟨g2, cap2, rest2, e2, -, -, hb2, -⟩
    · rw [e2] at ha; simp [Value.ownBlock] at ha
    · rw [e2] at ha
      have hg2 : a = g2 := by simpa [Value.ownBlock] using ha
      subst hg2
      have h9 := Option.some.inj (hb2.symm.trans hb3)
      exact absurd (Obj.cells.inj h9).2.1 (by decide)
/-- A short list of signed segments of one's own, each short. -/
def SignedLS (lo n : Nat) (v : Value) (W : World) : Prop := ∃ x : List DSignedSegment, SignedSegmentSO lo W.heap.size W v x ∧ x.length ≤ n ∧ ∀ y ∈ x, y.seg.hops.length ≤ 5 ∧ y.sigs.length ≤ 5
theorem SignedL.single {W : World} {lo k : Nat} {x : DSignedSegment} {A2 A3 : Option Addr} {n2 c2 n3 c3 : Nat} {a b : Int} (h : SignedL lo W (.agg #[I a, I b, .slice A2 n2 c2, .slice A3 n3 c3]) x) (hlo : lo ≤ W.heap.size) (hk : k = W.heap.size) :
    SignedSegmentSO lo (W.alloc (.cells #[I a, I b, .slice A2 n2 c2, .slice A3 n3 c3] 40)).heap.size (W.alloc (.cells #[I a, I b, .slice A2 n2 c2, .slice A3 n3 c3] 40)) (.slice (some ⟨k, 0, none⟩) 1 1) [x] := by
  obtain ⟨B2, d2, B3, d3, fp, e9, hoc, hn, hb⟩ := h.to_oc
  have e5 := congrArg Array.toList (Value.agg.inj e9)
  have e6 : [I a, I b, Value.slice A2 n2 c2, Value.slice A3 n3 c3] = [I x.seg.ts, I x.seg.beta, .slice B2 x.seg.hops.length d2, .slice B3 x.sigs.length d3] := e5
  rw [← e6] at hoc
  exact NO.single SignedSegmentOC.keeps hoc hn hb rfl hlo hk
theorem SignedSegmentSO.kp {lo hi m : Nat} {a b : World} {v : Value} {t : List DSignedSegment} (h : SignedSegmentSO lo hi a v t) (hk : Kp m a b) (hm : m ≤ lo) (hh : hi ≤ a.heap.size) : SignedSegmentS b.heap.size b v t :=
  SignedSegmentSO_rd (NO.more (NO.keep SignedSegmentOC.keeps h fun k h1 _ _ => hk.same k (by omega)) (Nat.le_refl _) (by rw [hk.size]; exact hh)) (Nat.le_refl _)
theorem SignedSegmentSO.front {lo hi : Nat} {w : World} {v : Value} {l : List DSignedSegment} (h : SignedSegmentSO lo hi w v l) : ∃ A c, v = .slice A l.length c := by
  obtain ⟨A, n, c, rfl⟩ := NO.slice h
  obtain ⟨cs, fp, ho, -⟩ := h
  obtain ⟨hn, -⟩ := NO.row ho
  subst hn
  exact ⟨A, c, rfl⟩
theorem CertificateSO.kpS {lo hi m : Nat} {a b : World} {v : Value} {t : List DCertificate} (h : CertificateSO lo hi a v t) (hk : Kp m a b) (hm : m ≤ lo) (hh : hi ≤ a.heap.size) : CertificateS b.heap.size b v t :=
  CertificateSO_rd (Own.more (lo' := lo) (hi' := b.heap.size) (h.keep fun k h1 _ _ => hk.same k (by omega)) (Nat.le_refl _) (by rw [hk.size]; exact hh))
section
variable {α : Type} {OC : World → List Nat → List Value → α → Prop} {P : Program} {ops : Array Oper} {rest : List Oper} {o : Oper} {a : Act} {w : World} {Q : Exit → Act → World → Prop}
theorem wpList_pushNX (hgd : o.guard = none) (lo : Nat) (hK : OKeeps OC) (hO : OOne OC) (s x : Operand) (t : TypeId)
    (ho : o.op = .call { callee := .builtin .append, args := #[s, x], argTypes := #[t, t] })
    (E : TypeId) (z : Value) (sz bytes : Nat) (ht : P.underlying t = some (.slice E)) (hinfo : (P.info? E).map (fun i => (i.zero, i.size, i.bytes)) = some (some z, sz, bytes)) (hzs : z.cells.size = sz) (hsz : 0 < sz)
    (v : Value) (ds ds2 : List α) (m l2 h2 : Nat) (hs : a.eval s = v) (A : Option Addr) (k c : Nat) (hx : a.eval x = .slice A k c)
    (hno : NO OC E sz lo m w v ds) (hno2 : NO OC E sz l2 h2 w (.slice A k c) ds2) (hd : m ≤ l2) (hlo : lo ≤ l2) (hm : m ≤ w.heap.size) (hm2 : h2 ≤ w.heap.size) (hlw : lo ≤ w.heap.size)
    (h63 : ds.length + ds2.length ≤ 1000000000) (hby : bytes ≤ 1000)
    (h : ∀ v' w', NO OC E sz lo w'.heap.size w' v' (ds ++ ds2) → w.grownBy w' v.ownBlock → (v'.ownBlock = v.ownBlock ∨ v'.ownBlock = some w.heap.size) → wpList P ops Q rest (a.put o.dst v') w') : wpList P ops Q (o :: rest) a w := by
  obtain ⟨cs, fp, hown, hl, hn, hb⟩ := hno
  obtain ⟨cs2, f2, hown2, hl2, hn2, hb2⟩ := hno2
  obtain ⟨rfl, hr⟩ := NO.row hown2
  have hd' := List.nodup_append.1 hn
  have hdf : ∀ b ∈ f2, v.ownBlock ≠ some b := fun b hbm e => by have h1 := hown.2 b e; have h2 := hb2 b hbm; omega
  refine wpList_pushX hgd lo hK hO s x t ho E z sz bytes ht hinfo hzs hsz v ds ds2 cs cs2 fp f2 hs A _ c hx (hown.more (Nat.le_refl _) hm) hl (fun b hbm e => hd'.2.2 b (by simp [e]) b hbm rfl) hr hl2 hdf hlw h63 hby ?_
  intro v' w' o' l' hg hbl
  have hz : w.heap.size ≤ w'.heap.size := hg.size
  have h12 : (fp ++ f2).Nodup := List.nodup_append.2 ⟨hd'.2.1, (List.nodup_append.1 hn2).2.1, fun p hp q hq e => by subst e; have h1 := hb p hp; have h2 := hb2 p hq; omega⟩
  refine h v' w' ⟨_, _, o', l', List.nodup_append.2 ⟨by cases v'.ownBlock <;> simp, h12, fun p hp q hq e => ?_⟩, fun b hm' => ?_⟩ hg hbl
  · subst e
    have hp : v'.ownBlock = some p := by simpa using hp
    rcases hbl with hbl | hbl
    · rw [hbl] at hp
      rcases List.mem_append.1 hq with h1 | h1
      · exact hd'.2.2 p (by simp [hp]) p h1 rfl
      · exact hdf p h1 hp
    · rw [hbl] at hp
      cases hp
      rcases List.mem_append.1 hq with h1 | h1
      · have := hb _ h1; omega
      · have := hb2 _ h1; omega
  · rcases List.mem_append.1 hm' with h1 | h1
    · have := hb b h1; omega
    · have := hb2 b h1; omega
end
def GrownF (t : DTopology) (lo : Nat) (v : Value) (W : World) : Prop := ∃ s, SegmentO lo W.heap.size W v s ∧ GrownSeg t s
theorem GrownF.d {t : DTopology} {lo g : Nat} {v : Value} {W W' : World} (h : GrownF t lo v W) (hd : D g W W') (hg : g < lo) : GrownF t lo v W' := by
  obtain ⟨x, ho, hx⟩ := h
  exact ⟨x, (SegmentO.d ho hd hg).more (Nat.le_refl _) hd.size, hx⟩
def SignedF (lo : Nat) (v : Value) (W : World) : Prop := ∃ x, SignedL lo W v x ∧ x.seg.hops.length ≤ 5 ∧ x.sigs.length ≤ 5
theorem SignedF.d {lo g : Nat} {v : Value} {W W' : World} (h : SignedF lo v W) (hd : D g W W') (hg : g < lo) : SignedF lo v W' := by
  obtain ⟨x, ho, hx⟩ := h
  exact ⟨x, ho.d hd hg, hx⟩
def SignedS1 (lo : Nat) (v : Value) (W : World) : Prop := ∃ x : DSignedSegment, SignedSegmentSO lo W.heap.size W v [x] ∧ x.seg.hops.length ≤ 5 ∧ x.sigs.length ≤ 5
theorem SignedS1.d {lo g : Nat} {v : Value} {W W' : World} (h : SignedS1 lo v W) (hd : D g W W') (hg : g < lo) : SignedS1 lo v W' := by
  obtain ⟨x, ho, hx⟩ := h
  exact ⟨x, (NO.d SignedSegmentOC.keeps ho hd hg).more (Nat.le_refl _) hd.size, hx⟩
set_option maxRecDepth 100000 in
set_option maxHeartbeats 1000000 in
theorem spec_MaxI (a b : Int) (w : World) : Calls Tryz.prog 53 #[I a, I b] w fun e w' => (∃ m : Int, e = .returned (I m)) ∧ w = w' := by
  go_enter Tryz.func53, Tryz.ntmps53
  by_cases h : a < b
  all_goals
    go_wp2_with fail
    go_ret
    exact ⟨⟨_, rfl⟩, rfl⟩
set_option maxRecDepth 100000 in
set_option maxHeartbeats 1000000 in
theorem spec_l20Now (v : Value) (x : DSignedSegment) (w : World) (h : ∃ u2 u3, v = .agg #[I x.seg.ts, I x.seg.beta, u2, u3]) : Calls Tryz.prog 20 #[v] w fun e w' => (∃ m : Int, e = .returned (I m)) ∧ Ext w w' := by
  obtain ⟨u2, u3, rfl⟩ := h
  go_enter Tryz.func20, Tryz.ntmps20
  go_wp2_with fail
  refine (spec_MaxI _ _ _).mono ?_
  rintro e w7 ⟨⟨m, rfl⟩, rfl⟩
  go_wp2_with fail
  go_ret
  exact ⟨⟨_, rfl⟩, xe⟩
set_option maxRecDepth 100000 in
set_option maxHeartbeats 1000000 in
theorem spec_DrawSignedSegmentValid (vb : Value) (bs : List Nat) (w : World) (hb : ByteS w.heap.size w vb bs) (hn : bs.length ≤ 1048576) : Calls Tryz.prog 7 #[vb] w fun e w' => (∃ vt vl vm vx now, e = .returned (.tuple #[vt, vl, vm, vx, I now]) ∧ ∃ t l m x, TopologyV w'.heap.size w' vt t ∧ TrustRootS w'.heap.size w' vl l ∧ CertificateS w'.heap.size w' vm m ∧ SignedSegmentV w'.heap.size w' vx x ∧ x.seg.hops.length ≤ 5 ∧ x.sigs.length ≤ 5) ∧ Ext w w' := by
  have HB := Lib.hid hb; clear hb
  go_enter Tryz.func7, Tryz.ntmps7
  go_wp2_with fail
  refine name_calls (fun W => Ext w W ∧ W.heap.size = w.heap.size + 1 + 1 ∧ Blk W (w.heap.size) 27 [.slice none 0 0, .slice none 0 0] ∧ Blk W (w.heap.size + 1) 40 [I 0, I 0, .slice none 0 0, .slice none 0 0]) ⟨xe, by simp only [World.size_alloc], xb, xb⟩ ?_
  rintro wa ⟨ea, za_, br0, br1⟩
  obtain ⟨za, za'⟩ := le_both za_
  clear za_
  have B0 := Lib.hid br0; have B1 := Lib.hid br1; clear br0 br1
  refine (spec_l1NewB vb bs w.heap.size wa (HB.out.keep ByteAt.keeps (Nat.le_refl _) fun k hk => ea.same k hk) (by omega) hn).mono ?_
  rintro e w1 ⟨g, rfl, hg, hcur, e1⟩
  have HCB := Lib.hid hcur
  have HC := Lib.hid hcur.cur
  have hg1 := hcur.lt
  clear hcur
  have z1 := e1.size
  go_wp2_with fail
  refine (spec_l20Draw g w1 HC.out).mono ?_
  rintro e w2 ⟨⟨v1, v2, v3, v4, rfl, t, l, m, x, ot, hdt, ol, hdr, om, hm8, hx, hx1, hx2, hlk⟩, d2⟩
  have z2 := d2.size
  have e2 : Ext wa w2 := d2.ext e1 hg
  obtain ⟨At_0, nt_0, ct_0, At_1, nt_1, ct_1, rfl⟩ := TopologyO.shape ot
  obtain ⟨Al, nl, cl, rfl⟩ := NO.slice ol
  obtain ⟨Am, nm, cm, rfl⟩ := om.slice
  obtain ⟨A2, c2, A3, c3, rfl, -⟩ := id hx
  have OT := Lib.hid ot; have OL := Lib.hid ol; have OM := Lib.hid om; have OX := Lib.hid hx; have HDT := Lib.hid hdt; have HDR := Lib.hid hdr; have HLK := Lib.hid hlk; clear ot ol om hx hdt hdr hlk
  go_wp2_with fail
  refine name_wp (fun W => Ext w2 W ∧ W.heap.size = w2.heap.size + 1 + 1 ∧ Blk W w2.heap.size 27 [.slice At_0 nt_0 ct_0, .slice At_1 nt_1 ct_1] ∧ Blk W (w2.heap.size + 1) 40 [I x.seg.ts, I x.seg.beta, .slice A2 x.seg.hops.length c2, .slice A3 x.sigs.length c3]) ⟨xe, by simp only [World.size_alloc], xb, xb⟩ ?_
  rintro w3 ⟨e3, z3_, b5, b6⟩
  obtain ⟨z3, z3'⟩ := le_both z3_
  clear z3_
  have BT := Lib.hid b5; have BX := Lib.hid b6; clear b5 b6
  have ea3 : Ext wa w3 := Ext.trans e2 e3
  have ew3 : Ext w w3 := Ext.trans ea ea3
  have d3 : D g w2 w3 := D.of_ext e3 (by omega)
  have OT3 := Lib.hid (OT.out.ext e3 (Nat.le_refl _)); have OX3 := Lib.hid (OX.out.d d3 (by omega)); have OL3 := Lib.hid (TrustRootSO_ext OL.out e3 (Nat.le_refl _)); have OM3 := Lib.hid (OM.out.ext e3 (Nat.le_refl _))
  have HCB3 := Lib.hid (d3.cur (d2.cur HCB.out))
  have hg3 : g < w3.heap.size := by omega
  have B03 := Lib.hid (B0.out.ext ea3); have B13 := Lib.hid (B1.out.ext ea3)
  have n1 : ¬ w2.heap.size = w.heap.size := by omega
  have n2 : ¬ w.heap.size = w2.heap.size := by omega
  have n3 : ¬ w2.heap.size = w.heap.size + 1 := by omega
  have n4 : ¬ w.heap.size + 1 = w2.heap.size := by omega
  have n5 : ¬ w2.heap.size + 1 = w.heap.size := by omega
  have n6 : ¬ w.heap.size = w2.heap.size + 1 := by omega
  have n7 : ¬ w2.heap.size + 1 = w.heap.size + 1 := by omega
  have n8 : ¬ w.heap.size + 1 = w2.heap.size + 1 := by omega
  have lt0 : w.heap.size < wa.heap.size := by omega
  have lt1 : w.heap.size + 1 < wa.heap.size := by omega
  have b4_ := BT.out.ext (w' := w3) xe
  have lb4_ := b4_.lt
  obtain ⟨qb4__0, qb4__1⟩ := blk2 b4_
  have fb4__0 := b4_.frozen 0
  have fb4__1 := b4_.frozen 1
  clear b4_
  have b6_ := BX.out.ext (w' := w3) xe
  have lb6_ := b6_.lt
  obtain ⟨qb6__0, qb6__1, qb6__2, qb6__3⟩ := blk4 b6_
  have fb6__0 := b6_.frozen 0
  have fb6__1 := b6_.frozen 1
  have fb6__2 := b6_.frozen 2
  have fb6__3 := b6_.frozen 3
  clear b6_
  have c0_ := B03.out.ext (w' := w3) xe
  have lc0_ := c0_.lt
  obtain ⟨qc0__0, qc0__1⟩ := blk2 c0_
  have fc0__0 := c0_.frozen 0
  have fc0__1 := c0_.frozen 1
  clear c0_
  have c1_ := B13.out.ext (w' := w3) xe
  have lc1_ := c1_.lt
  obtain ⟨qc1__0, qc1__1, qc1__2, qc1__3⟩ := blk4 c1_
  have fc1__0 := c1_.frozen 0
  have fc1__1 := c1_.frozen 1
  have fc1__2 := c1_.frozen 2
  have fc1__3 := c1_.frozen 3
  clear c1_
  go_region_with (go_at_call 20; go_loud (refine (spec_l20Now _ x _ (by exact ⟨_, _, rfl⟩)).mono ?_; rintro e w9 ⟨⟨m9, rfl⟩, e9⟩; have e39 : Ext w3 w9 := Ext.trans (Ext.drew (Ext.refl w3)) e9; obtain ⟨hc9, hf9, hz9⟩ := e39.facts))
  all_goals
    have z9 := e39.size
    have ew9 : Ext w w9 := Ext.trans ew3 e39
    go_wp2_with fail
    refine bodyPost_ret (v := .tuple #[.agg #[.slice At_0 nt_0 ct_0, .slice At_1 nt_1 ct_1], .slice Al nl cl, .slice Am nm cm, .agg #[I x.seg.ts, I x.seg.beta, .slice A2 x.seg.hops.length c2, .slice A3 x.sigs.length c3], I m9]) (by simp [results, Tryz.results7, go_sem, *]) rfl ⟨⟨_, _, _, _, _, rfl, t, l, m, x, ?_, ?_, ?_, ?_, hx1, hx2⟩, ?_⟩
    · exact TopologyO.kp (m := wa.heap.size) (OT3.out.ext e39 (by omega)) kp (by omega) (by omega)
    · exact TrustRootSO.kp (m := wa.heap.size) (TrustRootSO_ext OL3.out e39 (by omega)) kp (by omega) (by omega)
    · exact CertificateSO.kpS (m := wa.heap.size) (OM3.out.ext e39 (by omega)) kp (by omega) (by omega)
    · exact (SignedL.kp (m := wa.heap.size) (OX3.out.d (D.of_ext e39 hg3) (by omega)) kp (by omega)).rd
    · exact xset
set_option maxRecDepth 100000 in
set_option maxHeartbeats 1000000 in
theorem spec_DrawFilterSigned (vb : Value) (bs : List Nat) (w : World) (hb : ByteS w.heap.size w vb bs) (hn : bs.length ≤ 1048576) : Calls Tryz.prog 5 #[vb] w fun e w' => (∃ vt vl vm vx now, e = .returned (.tuple #[vt, vl, vm, vx, I now]) ∧ ∃ t l m x, TopologyV w'.heap.size w' vt t ∧ TrustRootS w'.heap.size w' vl l ∧ CertificateS w'.heap.size w' vm m ∧ SignedSegmentS w'.heap.size w' vx x ∧ totS (fun y : DSignedSegment => y.seg.hops.length + y.sigs.length) x ≤ 1000) ∧ Ext w w' := by
  have HB := Lib.hid hb; clear hb
  go_enter Tryz.func5, Tryz.ntmps5
  go_wp2_with fail
  refine name_calls (fun W => Ext w W ∧ W.heap.size = w.heap.size + 1 ∧ Blk W (w.heap.size) 27 [.slice none 0 0, .slice none 0 0]) ⟨xe, by simp only [World.size_alloc], xb⟩ ?_
  rintro wa ⟨ea, za_, br0⟩
  obtain ⟨za, za'⟩ := le_both za_
  clear za_
  have B0 := Lib.hid br0; clear br0
  refine (spec_l1NewB vb bs w.heap.size wa (HB.out.keep ByteAt.keeps (Nat.le_refl _) fun k hk => ea.same k hk) (by omega) hn).mono ?_
  rintro e w1 ⟨g, rfl, hg, hcur, e1⟩
  have HCB := Lib.hid hcur
  have HC := Lib.hid hcur.cur
  have hg1 := hcur.lt
  clear hcur
  have z1 := e1.size
  go_wp2_with fail
  refine (spec_l20Draw g w1 HC.out).mono ?_
  rintro e w2 ⟨⟨v1, v2, v3, v4, rfl, t, l, m, x, ot, hdt, ol, hdr, om, hm8, hx, hx1, hx2, hlk⟩, d2⟩
  have z2 := d2.size
  have e2 : Ext wa w2 := d2.ext e1 hg
  obtain ⟨At_0, nt_0, ct_0, At_1, nt_1, ct_1, rfl⟩ := TopologyO.shape ot
  obtain ⟨Al, nl, cl, rfl⟩ := NO.slice ol
  obtain ⟨Am, nm, cm, rfl⟩ := om.slice
  obtain ⟨A2, c2, A3, c3, rfl, -⟩ := id hx
  have OT := Lib.hid ot; have OL := Lib.hid ol; have OM := Lib.hid om; have OX := Lib.hid hx; have HDT := Lib.hid hdt; have HDR := Lib.hid hdr; have HLK := Lib.hid hlk; clear ot ol om hx hdt hdr hlk
  go_wp2_with fail
  refine name_calls (fun W => ∃ wb, Ext w2 wb ∧ wb.heap.size = w2.heap.size + 1 + 1 ∧ Blk wb w2.heap.size 27 [.slice At_0 nt_0 ct_0, .slice At_1 nt_1 ct_1] ∧ Blk wb (w2.heap.size + 1) 40 [I x.seg.ts, I x.seg.beta, .slice A2 x.seg.hops.length c2, .slice A3 x.sigs.length c3] ∧ Ext wb W ∧ W.heap.size = wb.heap.size + 1 ∧ SignedSegmentSO w1.heap.size W.heap.size W (.slice (some ⟨w2.heap.size + 1 + 1, 0, none⟩) 1 1) [x]) ⟨_, xe, by simp only [World.size_alloc], xb, xb, (Ext.refl _).alloc _, by simp only [World.size_alloc], SignedL.single (SignedL.d (g := g) OX.out (D.of_ext xe (by omega)) (by omega)) (Nat.le_trans d2.size (Ext.size xe)) (by simp only [World.size_alloc])⟩ ?_
  rintro w3 ⟨wb, eb, zb_, b5, b6, ebw, z3_, hls⟩
  have HLS := Lib.hid hls; clear hls
  obtain ⟨zb, zb'⟩ := le_both zb_
  clear zb_
  have e3 : Ext w2 w3 := Ext.trans eb ebw
  obtain ⟨z3, z3'⟩ := le_both z3_
  clear z3_
  have BT := Lib.hid (b5.ext ebw); have BX := Lib.hid (b6.ext ebw)
  have ea3 : Ext wa w3 := Ext.trans e2 e3
  have ew3 : Ext w w3 := Ext.trans ea ea3
  have d3 : D g w2 w3 := D.of_ext e3 (by omega)
  have OT3 := Lib.hid (OT.out.ext e3 (Nat.le_refl _)); have OX3 := Lib.hid (OX.out.d d3 (by omega)); have OL3 := Lib.hid (TrustRootSO_ext OL.out e3 (Nat.le_refl _)); have OM3 := Lib.hid (OM.out.ext e3 (Nat.le_refl _))
  have HCB3 := Lib.hid (d3.cur (d2.cur HCB.out))
  have hg3 : g < w3.heap.size := by omega
  refine (spec_l1Below g 3 w3 (d3.cur (d2.cur HC.out)) (by omega)).mono ?_
  rintro e w4 ⟨x4, rfl, ⟨x4a, x4b, -⟩, d4⟩
  have x4b := x4b (by omega)
  obtain ⟨c4_, rfl⟩ : ∃ c : Nat, x4 = (c : Int) := ⟨x4.toNat, by omega⟩
  have z4 := d4.size
  have hgb : g < wb.heap.size := by omega
  have nb0 : ¬ w2.heap.size = g := by omega
  have nb1 : ¬ w2.heap.size + 1 = g := by omega
  have db3 : D g wb w3 := D.of_ext ebw hgb
  have BTb := Lib.hid b5; have BXb := Lib.hid b6; clear b5 b6
  go_wp2_with fail
  go_loopw [12, 13] (fun v i wr => ∃ (k : Nat) (y : List DSignedSegment), k ≤ 3 ∧ i = I k ∧ SignedSegmentSO w1.heap.size wr.heap.size wr v y ∧ (∀ j, v.ownBlock = some j → wb.heap.size ≤ j) ∧ y.length + k ≤ 4 ∧ (∀ u ∈ y, u.seg.hops.length ≤ 5 ∧ u.sigs.length ≤ 5) ∧ D g wb wr) (fun _ i _ => (intOf i).toNat)
  case atStart => exact ⟨c4_, [x], by omega, rfl, (NO.d SignedSegmentOC.keeps HLS.out d4 (by omega)).more (Nat.le_refl _) z4, fun j hj => by (have h9 : w2.heap.size + 1 + 1 = j := by simpa [Value.ownBlock] using hj); omega, by simp; omega, fun u hu => by (have e : u = x := by simpa using hu); subst e; exact ⟨hx1, hx2⟩, D.trans db3 d4⟩
  case round =>
    obtain ⟨k, y, hk, rfl, hno, hob, hyk, hp, hd⟩ := hrel
    have HNO := Lib.hid hno; have HOB := Lib.hid hob; have HP := Lib.hid hp; clear hno hob hp
    obtain ⟨av, cv, hvv⟩ := SignedSegmentSO.front HNO.out
    subst hvv
    have zr := hd.size
    have hgr : g < wr.heap.size := by omega
    have d2r : D g w2 wr := D.trans (D.of_ext eb (by omega)) hd
    have OTr := Lib.hid (OT.out.d d2r (by omega)); have OLr := Lib.hid (NO.d TrustRootOC.keeps OL.out d2r (by omega)); have OMr := Lib.hid (Own.dUp OM.out d2r (by omega)); have OXr := Lib.hid (OX.out.d d2r (by omega))
    have BTr := Lib.hid (BTb.out.d hd (by omega)); have BXr := Lib.hid (BXb.out.d hd (by omega))
    have HCr := Lib.hid (d2r.cur (d2.cur HC.out))
    have HCBr := Lib.hid (d2r.cur (d2.cur HCB.out))
    by_cases hk0 : 0 < k
    · obtain ⟨km, rfl⟩ : ∃ km : Nat, k = km + 1 := ⟨k - 1, by omega⟩
      have i2 : (0 : Int) < ((km + 1 : Nat) : Int) := by omega
      have b0_ := BTr.out.ext (w' := wr) xe
      have lb0_ := b0_.lt
      obtain ⟨qb0__0, qb0__1⟩ := blk2 b0_
      have fb0__0 := b0_.frozen 0
      have fb0__1 := b0_.frozen 1
      clear b0_
      go_wp2_with fail
      refine wp_region_LT 7 (E := D g) (w0 := wr) (G := fun τ => match τ with | 37 => some (fun v W => SignedS1 wr.heap.size v W) | 35 => some (fun v W => GrownF t wr.heap.size v W) | 36 => some (fun v W => SignedF wr.heap.size v W) | _ => none) (D.refl g) (fun h k => D.trans h k) (by kernel_rfl) (by kernel_rfl) (by kernel_rfl) (by kernel_rfl) (by kernel_rfl) (by kernel_rfl) (by intro t φ hG; split at hG; all_goals first | (cases hG; done) | (cases Option.some.inj hG; intro v W W' hE hv; first | exact hv | exact hv.d hE (by omega) | (obtain ⟨y, hy⟩ := hv; exact ⟨y, Fresh1.d hy hE (by omega)⟩))) (D.drew (by exact D.refl _ _)) ?_
      simp only [List.take_succ_cons, List.take_zero]
      repeat' (first
        | ((with_reducible refine wpL_skip ?_ ?_ ?_)
           · rfl
           · rfl
           simp only [Act.put, List.setIfInBounds_toArray, List.set_cons_zero, List.set_cons_succ])
        | ((with_reducible refine wpL_quiet ?_ ?_ ?_ ?_)
           · rfl
           · rfl
           · rfl
           apply Exists.intro
           refine ⟨fun W hW hS => ?_, ?_⟩
           · have hC := (D.facts hW).1
             go_simp
             first | done | (with_reducible rfl) | (rw [if_neg (by omega)]; exact ⟨rfl, rfl⟩) | rfl
           first | (with_reducible refine wpL_boolT ?_) | (with_reducible refine wpL_boolF ?_) | (with_reducible refine wpL_bool (fun hB => ?_) (fun hB => ?_)) | skip
           all_goals simp only [Act.put, List.setIfInBounds_toArray, List.set_cons_zero, List.set_cons_succ])
        | ((refine wpL_grow ?_ rfl rfl ?_ ?_)
           · rfl
           · intro W hW hS
             have hC := (D.facts hW).1
             unfold growAt
             go_simp
             simp only [growUpon]
             first | (have h36 : SignedF wr.heap.size _ W := hS 36 (by decide); obtain ⟨x9, o9, h9⟩ := h36; exact ⟨D.of_ext ((Ext.refl _).alloc _) (by have h5 := D.size hW; omega), ⟨x9, SignedL.single o9 (D.size hW) rfl, h9⟩⟩) | (go_at_call 19; (with_reducible refine Calls.mono (spec_l9Grow g _ 2 t w1.heap.size w2.heap.size _ (hW.cur HCr.out) (by exact OTr.out.d hW (by omega)) (by omega) (by have h5 := D.size hW; omega) HDT.out HLK.out) ?_); rintro e w9_ ⟨v9, rfl, ⟨s9, o9, g9⟩, d9⟩; exact ⟨_, rfl, d9, ⟨s9, o9.more (D.size hW) (Nat.le_refl _), g9⟩⟩) | (have h35 : GrownF t wr.heap.size _ W := hS 35 (by decide); obtain ⟨s9, os9, gs9, gs8⟩ := h35; go_at_call 18; (with_reducible refine Calls.mono (spec_SignSegment _ _ t s9 _ (by exact TopologyO_rd (OTr.out.d hW (by omega)) (by have h5 := D.size hW; omega)) (by exact SegmentO_rd os9 (Nat.le_refl _)) (by omega)) ?_); rintro e w9_ ⟨v9, rfl, o9, e9⟩; exact ⟨_, rfl, D.of_ext e9 (by have h5 := D.size hW; omega), ⟨_, (SignedSegmentO.more o9 (D.size hW) (Nat.le_refl _)).l, gs9, by simpa [signSeg] using gs9⟩⟩)
           intro v W' hW' hv
           first | (obtain ⟨x67, h67, -⟩ := id hv; obtain ⟨A8, n8, c8, rfl⟩ := NO.slice h67) | (obtain ⟨s35, o35, g35⟩ := id hv; obtain ⟨A35, n35, c35, rfl⟩ := o35.shape) | (obtain ⟨x36, o36, -⟩ := id hv; obtain ⟨A36, c36, B36, d36, rfl, -⟩ := id o36) | (obtain ⟨A5, n5, c5, rfl, -⟩ := id hv; clear hv) | (obtain ⟨A5, n5, c5, rfl⟩ := NO.slice hv) | skip
           all_goals simp only [Act.put, List.setIfInBounds_toArray, List.set_cons_zero, List.set_cons_succ]))
      refine wpL_nil (fun w5 e5 hL => ?_)
      obtain ⟨x5, h5x, hp5⟩ : SignedS1 wr.heap.size (.slice A8 n8 c8) w5 := hL 37
      clear hL lb0_ qb0__0 qb0__1 fb0__0 fb0__1
      have z5 := e5.size
      have HN5 := Lib.hid (NO.d SignedSegmentOC.keeps HNO.out e5 (by omega))
      have H5X := Lib.hid h5x; clear h5x
      have HP5 := Lib.hid hp5; clear hp5
      simp only [List.drop_succ_cons, List.drop_zero]
      go_wp2_with (at_builtin; refine hold ?_)
      refine unhold (wpList_pushNX rfl w1.heap.size SignedSegmentOC.keeps SignedSegmentOC.one (.tmp 31) (.tmp 37) _ rfl 40 _ 4 _ Tryz.underlying30 info_SignedSegment rfl (by omega) _ y [x5] wr.heap.size wr.heap.size w5.heap.size rfl _ _ _ rfl (by exact HN5.out) (by exact H5X.out) (by omega) (by omega) (by omega) (Nat.le_refl _) (by omega) (by simp only [List.length_singleton]; omega) (by omega) ?_)
      intro v8 w8 no8 hg8 hbl8
      have d8 : D g wb w8 := D.grown (D.trans hd e5) hgb hg8 (fun j hj => HOB.out j hj)
      have ob8 : ∀ j, v8.ownBlock = some j → wb.heap.size ≤ j := fun j hj => by
        rcases hbl8 with h9 | h9
        · exact HOB.out j (h9 ▸ hj)
        · rw [h9] at hj
          have h9 := Option.some.inj hj
          omega
      have z8 := hg8.size
      have N8 := Lib.hid no8; have OB8 := Lib.hid ob8; clear no8 hg8 hbl8 ob8
      go_wp2_with (at_builtin; refine hold ?_)
      go_roundw
      case rel =>
        refine ⟨km, y ++ [x5], by omega, by go_num, N8.out, OB8.out, by (rw [List.length_append, List.length_singleton]; omega), fun u hu => ?_, d8⟩
        rcases List.mem_append.1 hu with h6 | h6
        · exact HP.out u h6
        · obtain rfl := List.mem_singleton.1 h6
          exact HP5.out
      case measure => first | (simp [intOf]; done) | (simp [intOf]; omega)
    · obtain rfl : k = 0 := by omega
      have i2 : ¬ (0 : Int) < ((0 : Nat) : Int) := by omega
      have HTO := Lib.hid (tot_small y HP.out)
      have ear : Ext wa wr := D.ext (D.trans d2 d2r) e1 hg
      have B0r := Lib.hid (B0.out.ext ear)
      have n1 : ¬ w2.heap.size = w.heap.size := by omega
      have n2 : ¬ w.heap.size = w2.heap.size := by omega
      have n5 : ¬ w2.heap.size + 1 = w.heap.size := by omega
      have n6 : ¬ w.heap.size = w2.heap.size + 1 := by omega
      have lt0 : w.heap.size < wa.heap.size := by omega
      have b4_ := BTr.out.ext (w' := wr) xe
      have lb4_ := b4_.lt
      obtain ⟨qb4__0, qb4__1⟩ := blk2 b4_
      have fb4__0 := b4_.frozen 0
      have fb4__1 := b4_.frozen 1
      clear b4_
      have b6_ := BXr.out.ext (w' := wr) xe
      have lb6_ := b6_.lt
      obtain ⟨qb6__0, qb6__1, qb6__2, qb6__3⟩ := blk4 b6_
      have fb6__0 := b6_.frozen 0
      have fb6__1 := b6_.frozen 1
      have fb6__2 := b6_.frozen 2
      have fb6__3 := b6_.frozen 3
      clear b6_
      have c0_ := B0r.out.ext (w' := wr) xe
      have lc0_ := c0_.lt
      obtain ⟨qc0__0, qc0__1⟩ := blk2 c0_
      have fc0__0 := c0_.frozen 0
      have fc0__1 := c0_.frozen 1
      clear c0_
      go_wp2_with fail
      go_region_with (go_at_call 20; go_loud (refine (spec_l20Now _ x _ (by exact ⟨_, _, rfl⟩)).mono ?_; rintro e w9 ⟨⟨m9, rfl⟩, e9⟩; have e39 : Ext wr w9 := Ext.trans (Ext.drew (Ext.refl wr)) e9; obtain ⟨hc9, hf9, hz9⟩ := e39.facts))
      all_goals
        have z9 := e39.size
        have ew9 : Ext w w9 := Ext.trans (Ext.trans ea ear) e39
        go_wp2_with fail
        refine bodyPost_ret (v := .tuple #[.agg #[.slice At_0 nt_0 ct_0, .slice At_1 nt_1 ct_1], .slice Al nl cl, .slice Am nm cm, .slice av y.length cv, I m9]) (by simp [results, Tryz.results5, go_sem, *]) rfl ⟨⟨_, _, _, _, _, rfl, t, l, m, y, ?_, ?_, ?_, ?_, by (have h9 := HTO.out; omega)⟩, ?_⟩
        · exact TopologyO.kp (m := wa.heap.size) (OTr.out.ext e39 (by omega)) kp (by omega) (by omega)
        · exact TrustRootSO.kp (m := wa.heap.size) (TrustRootSO_ext OLr.out e39 (by omega)) kp (by omega) (by omega)
        · exact CertificateSO.kpS (m := wa.heap.size) (OMr.out.ext e39 (by omega)) kp (by omega) (by omega)
        · exact SignedSegmentSO.kp (m := wa.heap.size) (SignedSegmentSO_ext HNO.out e39 (Nat.le_refl _)) kp (by omega) (by omega)
        · exact xset
end Go.Proofs.YtddaodemdkjijaaGreat
