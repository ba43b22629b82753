/- Words for a topology that is being made, and the contract of l5Add. No conditions. -/
import Derived.Test.YtkbiciiniagadaaGreatD2
import Derived.Test.YtkbiciiniagadaaGreatGGrow
namespace Go.Proofs.YtkbiciiniagadaaGreat
open Go.RowKit
set_option linter.unusedVariables false
theorem wpList_appL {P : Program} {ops : Array Oper} {rest : List Oper} {o : Oper} {a : Act} {w : World} {Q : Exit → Act → World → Prop} (lo : Nat) (hgd : o.guard = none) (s x : Operand) (t : TypeId)
    (ho : o.op = .call { callee := .builtin .append, args := #[s, x], argTypes := #[t, t] })
    (E : TypeId) (z : Value) (sz bytes : Nat) (ht : P.underlying t = some (.slice E)) (hinfo : (P.info? E).map (fun i => (i.zero, i.size, i.bytes)) = some (some z, sz, bytes)) (hzs : z.cells.size = sz) (hsz : 0 < sz)
    (v : Value) (n : Nat) (xs : List Value) (hs : a.eval s = v) (A : Option Addr) (m c : Nat) (news : List Value) (hx : a.eval x = .slice A m c)
    (hown : Own E sz lo w.heap.size w v n xs) (hr : Row w sz A m news) (h1 : ∀ u ∈ news, u.oneCell' = true) (hlo : lo ≤ w.heap.size)
    (h63 : n + m ≤ maxLen) (hbytes : (n + m) * bytes ≤ 140737488355328)
    (h : ∀ v' w', Own E sz lo w'.heap.size w' v' (n + m) (xs ++ news) → w.grownBy w' v.ownBlock → wpList P ops Q rest (a.put o.dst v') w') : wpList P ops Q (o :: rest) a w := by
  obtain ⟨i0, hi0, hz0, hz1, hz2⟩ := info_parts hinfo
  refine wpList_append_any w hgd s x t ho lo E i0 z sz bytes ht hi0 hz0 hz1 hz2 hzs hsz v n xs hs hown.1 A m c news hx hr h1 h63 hbytes hlo ?_
  intro v' w' h2 h3 _
  exact h v' w' ⟨h2, fun k hk => (h2.lt k hk).2⟩ h3
theorem off_type {T sz lo hi n g T' : Nat} {w : World} {v : Value} {cs cs' : List Value} (hv : Own T sz lo hi w v n cs) (hb : Blk w g T' cs') (hne : T ≠ T') : v.ownBlock ≠ some g := fun e => ownsRow_typed hv.1 hb hne (by simp [e])
theorem other_type {E T sz sz' lo hi lo' hi' n n' : Nat} {w : World} {u v : Value} {cs cs' : List Value} (h : Own E sz lo hi w u n cs) (hv : Own T sz' lo' hi' w v n' cs') (hne : E ≠ T) {w' : World} (hg : w.grownBy w' v.ownBlock) : Own E sz lo hi w' u n cs := by
  refine ⟨ownsRow_keep h.1 (fun b hb hs => hg.block b hs (fun e => ?_)), h.2⟩
  rcases hv.cases with ⟨rfl, _⟩ | ⟨g, cap, rest, rfl, _, _, hbk, _⟩
  · simp [Value.ownBlock] at e
  · have : b = g := by simpa [Value.ownBlock] using e
    subst this
    exact ownsRow_typed h.1 hbk hne hb
/-- A variable that holds a topology whose lists are the walk's own. -/
def Topo (lo : Nat) (W : World) (gt : Nat) (t : DTopology) : Prop := ∃ A0 c0 A1 c1, Blk W gt 27 [.slice A0 t.ases.length c0, .slice A1 t.links.length c1] ∧ ASSO lo W.heap.size W (.slice A0 t.ases.length c0) t.ases ∧ LinkSO lo W.heap.size W (.slice A1 t.links.length c1) t.links ∧ lo ≤ W.heap.size
theorem Topo.ext {lo gt : Nat} {w w' : World} {t : DTopology} (h : Topo lo w gt t) (he : Ext w w') : Topo lo w' gt t := by
  obtain ⟨A0, c0, A1, c1, hb, h0, h1, hl⟩ := h
  exact ⟨A0, c0, A1, c1, hb.ext he, (h0.ext he (Nat.le_refl _)).more (Nat.le_refl _) he.size, (h1.ext he (Nat.le_refl _)).more (Nat.le_refl _) he.size, Nat.le_trans hl he.size⟩
theorem Topo.d {lo gt g : Nat} {w w' : World} {t : DTopology} (h : Topo lo w gt t) (hd : D g w w') (hg : g < lo) (hn : gt ≠ g) : Topo lo w' gt t := by
  obtain ⟨A0, c0, A1, c1, hb, h0, h1, hl⟩ := h
  exact ⟨A0, c0, A1, c1, hb.d hd hn, h0.dUp hd hg, h1.dUp hd hg, Nat.le_trans hl hd.size⟩
theorem topoV {lo : Nat} {w : World} {t : DTopology} {A0 A1 : Option Addr} {c0 c1 : Nat} (h0 : ASSO lo w.heap.size w (.slice A0 t.ases.length c0) t.ases) (h1 : LinkSO lo w.heap.size w (.slice A1 t.links.length c1) t.links) : TopologyV w.heap.size w (.agg #[.slice A0 t.ases.length c0, .slice A1 t.links.length c1]) t := ⟨_, _, _, _, _, _, rfl, ASSO_rd h0, LinkSO_rd h1⟩
set_option maxRecDepth 100000 in
set_option maxHeartbeats 1000000 in
theorem spec_l5Add (gt : Nat) (a b kind : Int) (lo : Nat) (t : DTopology) (w : World) (ht : Topo lo w gt t) (hn : t.links.length ≤ 1000) :
    Calls Tryz.prog 31 #[.pointer (some ⟨gt, 0, none⟩), I a, I b, I kind] w fun e w' => e = .returned (.tuple #[]) ∧ (∃ t', Topo lo w' gt t' ∧ t'.ases = t.ases ∧ t'.links.length ≤ t.links.length + 1) ∧ ∀ g u, D g u w → g < u.heap.size → u.heap.size ≤ gt → u.heap.size ≤ lo → D g u w' := by
  obtain ⟨A0, c0, A1, c1, hb, h0, h1, hl⟩ := ht
  have HB := Lib.hid hb; have H0 := Lib.hid h0; have H1 := Lib.hid h1; clear hb h0 h1
  go_enter Tryz.func31, Tryz.ntmps31
  have b0 := HB.out.ext (w' := w) xe
  have lb0 := b0.lt
  obtain ⟨qb0_0, qb0_1⟩ := blk2 b0
  have fb0_0 := b0.frozen 0
  have fb0_1 := b0.frozen 1
  clear b0
  go_wp2_with fail
  refine (spec_Interfaces _ a t w (topoV H0.out H1.out) (by omega)).mono ?_
  rintro e w1 ⟨v1, rfl, ⟨l1, hl1, hn1⟩, e1⟩
  obtain ⟨a1, m1, q1, rfl, lm1, -, -, -⟩ := id hl1
  subst lm1
  have z1 := e1.size
  clear lb0 qb0_0 qb0_1 fb0_0 fb0_1 hl1
  have b1 := HB.out.ext (w' := w1) xe
  have lb1 := b1.lt
  obtain ⟨qb1_0, qb1_1⟩ := blk2 b1
  have fb1_0 := b1.frozen 0
  have fb1_1 := b1.frozen 1
  clear b1
  go_wp2_with fail
  refine (spec_Interfaces _ b t w1 (topoV (H0.out.ext e1 (Nat.le_refl _) |>.more (Nat.le_refl _) z1) (H1.out.ext e1 (Nat.le_refl _) |>.more (Nat.le_refl _) z1)) (by omega)).mono ?_
  rintro e w2 ⟨v2, rfl, ⟨l2, hl2, hn2⟩, e2⟩
  obtain ⟨a2, m2, q2, rfl, lm2, -, -, -⟩ := id hl2
  subst lm2
  have z2 := e2.size
  clear lb1 qb1_0 qb1_1 fb1_0 fb1_1 hl2
  have hno : (∃ t', Topo lo w2 gt t' ∧ t'.ases = t.ases ∧ t'.links.length ≤ t.links.length + 1) ∧ ∀ g u, D g u w → g < u.heap.size → u.heap.size ≤ gt → u.heap.size ≤ lo → D g u w2 := by
    refine ⟨⟨t, Topo.ext ⟨A0, c0, A1, c1, HB.out, H0.out, H1.out, hl⟩ xe, rfl, by omega⟩, fun g u hd hg _ _ => hd.trans (D.of_ext xe (Nat.lt_of_lt_of_le hg hd.size))⟩
  have HNO := Lib.hid hno; clear hno
  by_cases hx : l1.length ≤ 5
  · have i1 : (l1.length : Int) + 1 ≤ 6 := by omega
    by_cases hy : l2.length ≤ 5
    · have i2 : (l2.length : Int) + 1 ≤ 6 := by omega
      have b2 := HB.out.ext (w' := w2) xe
      have lb2 := b2.lt
      obtain ⟨qb2_0, qb2_1⟩ := blk2 b2
      have fb2_0 := b2.frozen 0
      have fb2_1 := b2.frozen 1
      clear b2
      go_wp2_with (at_builtin; refine hold ?_)
      refine unhold (wpList_appL lo rfl (.tmp 34) (.tmp 41) _ rfl 86 _ 5 40 Tryz.underlying25 info_Link rfl (by omega) (.slice A1 t.links.length c1) t.links.length (t.links.flatMap LinkC) rfl _ 1 1 _ rfl (by exact Own.ext (w' := w2.alloc _) (Own.more H1.out (Nat.le_refl _) (Nat.le_refl _)) xe (Nat.le_refl _) |>.lt_size) (row_one _ _ _ _ _ (by first | rfl | simp) rfl) (one_Link [⟨a, (l1.length : Int) + 1, b, (l2.length : Int) + 1, kind⟩]) (by simp only [World.size_alloc]; omega) (by unfold maxLen; omega) (by omega) ?_)
      intro v8 w8 o8 hg8
      obtain ⟨a8, m8, q8, hv8⟩ := o8.slice
      subst hv8
      obtain ⟨hm8, -⟩ := NO.row o8
      subst hm8
      have hb7 := HB.out.ext (w' := w2.alloc (.cells #[I a, I ((l1.length : Int) + 1), I b, I ((l2.length : Int) + 1), I kind] 86)) xe
      have h17 := (H1.out.ext (w' := w2.alloc (.cells #[I a, I ((l1.length : Int) + 1), I b, I ((l2.length : Int) + 1), I kind] 86)) xe (Nat.le_refl _)).lt_size
      have h07 := (H0.out.ext (w' := w2.alloc (.cells #[I a, I ((l1.length : Int) + 1), I b, I ((l2.length : Int) + 1), I kind] 86)) xe (Nat.le_refl _)).lt_size
      have B8 := Lib.hid (Blk.grown hb7 hg8 (off_type h17 hb7 (by decide)))
      have A8 := Lib.hid ((other_type h07 h17 (by decide) hg8).lt_size)
      have z8 := hg8.size
      simp only [World.size_alloc] at z8
      have HG := Lib.hid hg8
      have hls : (t.links.flatMap LinkC ++ [⟨a, (l1.length : Int) + 1, b, (l2.length : Int) + 1, kind⟩].flatMap LinkC) = (t.links ++ [(⟨a, (l1.length : Int) + 1, b, (l2.length : Int) + 1, kind⟩ : DLink)]).flatMap LinkC := by rw [List.flatMap_append]
      have o9 : Own 86 5 lo w8.heap.size w8 (.slice a8 (t.links.length + 1) q8) (t.links.length + 1) ((t.links ++ [(⟨a, (l1.length : Int) + 1, b, (l2.length : Int) + 1, kind⟩ : DLink)]).flatMap LinkC) := by rw [← hls]; exact o8
      have O8 := Lib.hid o9; clear o8 o9 hls hg8 hb7 h07
      have H17 := Lib.hid h17; clear h17
      have b8 := B8.out.ext (w' := w8) xe
      have lb8 := b8.lt
      obtain ⟨qb8_0, qb8_1⟩ := blk2 b8
      have fb8_0 := b8.frozen 0
      have fb8_1 := b8.frozen 1
      clear b8
      go_wp2_with (at_builtin; refine hold ?_)
      refine ⟨by rfl, .tuple #[], by simp [results, Tryz.results31, go_sem, *], rfl, ⟨⟨t.ases, t.links ++ [⟨a, (l1.length : Int) + 1, b, (l2.length : Int) + 1, kind⟩]⟩, ⟨A0, c0, a8, q8, ?_, ?_, ?_, ?_⟩, rfl, by simp⟩, fun g u hd hg hh1 hh2 => ?_⟩
      · simpa using B8.out.set_ 1 (.slice a8 (t.links.length + 1) q8)
      · simp only [World.size_setCell]
        exact A8.out.setT B8.out (by decide) _ _
      · simp only [World.size_setCell]
        have h9 := O8.out.setT B8.out (by decide) 1 (.slice a8 (t.links.length + 1) q8)
        unfold LinkSO
        rw [List.length_append, List.length_singleton]
        exact h9
      · simp only [World.size_setCell]; omega
      · have hd2 : D g u (w2.alloc (.cells #[I a, I ((l1.length : Int) + 1), I b, I ((l2.length : Int) + 1), I kind] 86)) := hd.trans (D.of_ext xe (Nat.lt_of_lt_of_le hg hd.size))
        refine D.setNew (D.grown hd2 hg HG.out fun k hk => ?_) hg (by dsimp only; exact hh1) _
        have := (H17.out.1.lt k hk).1
        omega
    · have i2 : ¬ (l2.length : Int) + 1 ≤ 6 := by omega
      go_wp2_with fail
      exact ⟨by rfl, .tuple #[], by simp [results, Tryz.results31, go_sem, *], rfl, HNO.out⟩
  · have i1 : ¬ (l1.length : Int) + 1 ≤ 6 := by omega
    go_wp2_with fail
    exact ⟨by rfl, .tuple #[], by simp [results, Tryz.results31, go_sem, *], rfl, HNO.out⟩
end Go.Proofs.YtkbiciiniagadaaGreat
