/- Plain words on drawn topologies: a link that is laid at the next door of each of its ends keeps the doors apart; such a topology is valid. No conditions. -/
import Derived.Test.YtpkcoinoiaaebaaGreatGD18
import Derived.Test.YtpkcoinoiaaebaaGreatGL5d
import Derived.Test.YtpkcoinoiaaebaaGreatGD4
namespace Go.Proofs.YtpkcoinoiaaebaaGreat
open Go.RowKit
set_option linter.unusedVariables false
/-- A link more, where both ends have a door left. -/
def addLink (t : DTopology) (a b k : Int) : DTopology := if (ifaces t.links a).length ≤ 5 ∧ (ifaces t.links b).length ≤ 5 then ⟨t.ases, t.links ++ [⟨a, (ifaces t.links a).length + 1, b, (ifaces t.links b).length + 1, k⟩]⟩ else t
def upTo (n : Nat) : List Int := (List.range n).map fun j : Nat => (j : Int) + 1
theorem upTo_mem {n : Nat} {x : Int} (h : x ∈ upTo n) : 1 ≤ x ∧ x ≤ n := by
  unfold upTo at h
  obtain ⟨j, hj, rfl⟩ := List.mem_map.1 h
  have := List.mem_range.1 hj
  omega
theorem upTo_len (n : Nat) : (upTo n).length = n := by simp [upTo]
theorem putI_upTo (n : Nat) : putI (upTo n) ((n : Int) + 1) = upTo (n + 1) := by
  rw [putI_at (upTo n) (upTo n).length (Nat.le_refl _) (fun x hx => by
    rw [List.take_length] at hx
    have := upTo_mem hx
    omega) (fun h => absurd h (by omega)), List.take_length, List.drop_length, List.append_nil]
  simp [upTo, List.range_succ]
/-- The doors of each realm are 1, 2, .. , and no two links share one. -/
def Doors (ls : List DLink) : Prop := (∀ r, ∃ n : Nat, ifaces ls r = upTo n) ∧ ls.Pairwise fun m l => clash m l = false
theorem doors_nil : Doors [] := ⟨fun _ => ⟨0, rfl⟩, List.Pairwise.nil⟩
theorem door_new {ls : List DLink} (h : Doors ls) (r : Int) : ∀ m ∈ ls, usesIf m r ((ifaces ls r).length + 1) = false := by
  intro m hm
  cases hu : usesIf m r ((ifaces ls r).length + 1)
  · rfl
  · exfalso
    unfold usesIf at hu
    simp only [Bool.or_eq_true, Bool.and_eq_true, beq_iff_eq] at hu
    have hin : ((ifaces ls r).length + 1 : Int) ∈ ifaces ls r := (ifaces_mem ls).2 ⟨m, hm, hu⟩
    obtain ⟨n, hn⟩ := h.1 r
    rw [hn, upTo_len] at hin
    have := upTo_mem hin
    omega
theorem doors_add {ls : List DLink} {a b k : Int} (h : Doors ls) (hab : a ≠ b) : Doors (ls ++ [⟨a, (ifaces ls a).length + 1, b, (ifaces ls b).length + 1, k⟩]) := by
  refine ⟨fun r => ?_, ?_⟩
  · rw [ifaces_snoc]
    obtain ⟨n, hn⟩ := h.1 r
    unfold ifStep
    dsimp only
    by_cases hb : b = r
    · subst hb
      rw [if_pos rfl, if_neg hab, hn, upTo_len, putI_upTo]
      exact ⟨_, rfl⟩
    · rw [if_neg hb]
      by_cases ha : a = r
      · subst ha
        rw [if_pos rfl, hn, upTo_len, putI_upTo]
        exact ⟨_, rfl⟩
      · rw [if_neg ha]
        exact ⟨n, hn⟩
  · rw [List.pairwise_append]
    refine ⟨h.2, by simp, fun m hm l hl => ?_⟩
    obtain rfl := List.mem_singleton.1 hl
    unfold clash
    dsimp only
    rw [door_new h a m hm, door_new h b m hm]
    rfl
theorem addLink_doors {t : DTopology} {a b k : Int} (h : Doors t.links) (hab : a ≠ b) : Doors (addLink t a b k).links := by
  unfold addLink
  split
  · exact doors_add h hab
  · exact h
theorem addLink_ases (t : DTopology) (a b k : Int) : (addLink t a b k).ases = t.ases := by
  unfold addLink
  split <;> rfl
/-- A topology as l5Draw makes it is valid. -/
theorem drawn_valid {t : DTopology} (h1 : 1 ≤ t.ases.length) (h8 : t.ases.length ≤ 8) (hk : KeysOk t.ases) (hi : ∀ (k : Nat) (hk : k < t.ases.length), t.ases[k].isd = 0 ∨ t.ases[k].isd = 1) (hl : LinksOk t) (hd : t.links.Pairwise fun m l => clash m l = false) : validTop t = true := by
  have hget : ∀ (k : Nat) (hk : k < t.ases.length), t.ases.getD k dAS = t.ases[k] := fun k hk => by rw [List.getD_eq_getElem?_getD, List.getElem?_eq_getElem hk]; rfl
  unfold validTop
  simp only [Bool.and_eq_true, List.all_eq_true]
  refine ⟨inR_iff.2 (by omega), fun k hk1 => ?_, fun k hk1 => ?_⟩
  · have hk2 := List.mem_range.1 hk1
    obtain ⟨x, x0, x1, x2⟩ := hk k hk2
    unfold asFine
    rw [hget k hk2]
    simp only [Bool.and_eq_true, Bool.not_eq_true']
    refine ⟨inR_iff.2 (by have := hi k hk2; omega), inR_iff.2 (by omega), ?_⟩
    unfold keyDup
    refine any_none fun j hj => ?_
    obtain ⟨y, y0, y1, y2⟩ := hk j (by omega)
    rw [hget k hk2, hget j (by omega), x2, y2]
    exact beq_eq_false_iff_ne.2 (by omega)
  · have hk2 := List.mem_range.1 hk1
    unfold linkFine
    rw [linkAt hk2, hl _ (List.getElem_mem hk2)]
    have hn : linkDup t.links k = false := by
      unfold linkDup
      refine any_none fun j hj => ?_
      rw [linkAt hk2, linkAt (by omega)]
      exact (List.pairwise_iff_getElem.1 hd) j k (by omega) hk2 hj
    rw [hn]
    rfl
end Go.Proofs.YtpkcoinoiaaebaaGreat
namespace Go.Proofs.YtpkcoinoiaaebaaGreat
open Go.RowKit
set_option linter.unusedVariables false
def IsdOk (l : List DAS) : Prop := ∀ (k : Nat) (hk : k < l.length), l[k].isd = 0 ∨ l[k].isd = 1
/-- What holds of the topology as it is made. -/
def Good (t : DTopology) : Prop := KeysOk t.ases ∧ IsdOk t.ases ∧ Doors t.links
theorem IsdOk.snoc {l : List DAS} {y : DAS} (h : IsdOk l) (hy : y.isd = 0 ∨ y.isd = 1) : IsdOk (l ++ [y]) := by
  intro k hk
  rcases Nat.lt_or_ge k l.length with h1 | h1
  · rw [List.getElem_append_left h1]; exact h k h1
  · have h2 : k = l.length := by simp at hk; omega
    subst h2
    simpa using hy
theorem IsdOk.set {l : List DAS} (h : IsdOk l) (b : Nat) (hb : b < l.length) (z : Int) (hz : z = 0 ∨ z = 1) : IsdOk (l.set b { l[b] with isd := z }) := by
  intro k hk
  have hk' : k < l.length := by simpa using hk
  rw [List.getElem_set]
  split
  · exact hz
  · exact h k hk'
theorem good_add {t t' : DTopology} {a b k : Int} {n : Nat} (he : t' = addLink t a b k) (h : t.ases.length = n ∧ Good t) (hab : a ≠ b) : t'.ases.length = n ∧ Good t' := by
  subst he
  refine ⟨by rw [addLink_ases]; exact h.1, by rw [addLink_ases]; exact h.2.1, by rw [addLink_ases]; exact h.2.2.1, addLink_doors h.2.2.2 hab⟩
/-- An AS of realm k, new. -/
def FreshASI (lo k : Nat) (v : Value) (W : World) : Prop := ∃ y : DAS, (KeyAt k y ∧ (y.isd = 0 ∨ y.isd = 1)) ∧ Fresh1 40 lo (ASC y) v W
theorem FreshASI.d {lo k g : Nat} {v : Value} {W W' : World} (h : FreshASI lo k v W) (hd : D g W W') (hg : g < lo) : FreshASI lo k v W' := by
  obtain ⟨y, hy, hf⟩ := h
  exact ⟨y, hy, hf.d hd hg⟩
set_option maxRecDepth 100000 in
set_option maxHeartbeats 1000000 in
theorem spec_l5AddX (gt : Nat) (a b kind : Int) (lo : Nat) (t : DTopology) (w : World) (ht : Topo lo w gt t) (hn : t.links.length ≤ 1000) :
    Calls Tryz.prog 30 #[.pointer (some ⟨gt, 0, none⟩), I a, I b, I kind] w fun e w' => e = .returned (.tuple #[]) ∧ (∃ t', Topo lo w' gt t' ∧ (t'.ases = t.ases ∧ t' = addLink t a b kind) ∧ t'.links.length ≤ t.links.length + 1) ∧ ∀ g u, D g u w → g < u.heap.size → u.heap.size ≤ gt → u.heap.size ≤ lo → D g u w' := by
  obtain ⟨A0, c0, A1, c1, hb, h0, h1, hl⟩ := ht
  have HB := Lib.hid hb; have H0 := Lib.hid h0; have H1 := Lib.hid h1; clear hb h0 h1
  go_enter Tryz.func30, Tryz.ntmps30
  have b0 := HB.out.ext (w' := w) xe
  have lb0 := b0.lt
  obtain ⟨qb0_0, qb0_1⟩ := blk2 b0
  have fb0_0 := b0.frozen 0
  have fb0_1 := b0.frozen 1
  clear b0
  go_wp2_with fail
  refine (spec_InterfacesX _ a t w (topoV H0.out H1.out) (by omega)).mono ?_
  rintro e w1 ⟨v1, rfl, hl1, e1⟩
  have hn1 := ifaces_len a t.links
  obtain ⟨l1, hle1⟩ : ∃ l, l = ifaces t.links a := ⟨_, rfl⟩
  rw [← hle1] at hl1 hn1
  have HLE1 := Lib.hid hle1; clear hle1
  obtain ⟨a1, m1, q1, rfl, lm1, -, -, -⟩ := id hl1
  subst lm1
  have z1 := e1.size
  clear lb0 qb0_0 qb0_1 fb0_0 fb0_1 hl1
  have b1 := HB.out.ext (w' := w1) xe
  have lb1 := b1.lt
  obtain ⟨qb1_0, qb1_1⟩ := blk2 b1
  have fb1_0 := b1.frozen 0
  have fb1_1 := b1.frozen 1
  clear b1
  go_wp2_with fail
  refine (spec_InterfacesX _ b t w1 (topoV (H0.out.ext e1 (Nat.le_refl _) |>.more (Nat.le_refl _) z1) (H1.out.ext e1 (Nat.le_refl _) |>.more (Nat.le_refl _) z1)) (by omega)).mono ?_
  rintro e w2 ⟨v2, rfl, hl2, e2⟩
  have hn2 := ifaces_len b t.links
  obtain ⟨l2, hle2⟩ : ∃ l, l = ifaces t.links b := ⟨_, rfl⟩
  rw [← hle2] at hl2 hn2
  have HLE2 := Lib.hid hle2; clear hle2
  obtain ⟨a2, m2, q2, rfl, lm2, -, -, -⟩ := id hl2
  subst lm2
  have z2 := e2.size
  clear lb1 qb1_0 qb1_1 fb1_0 fb1_1 hl2
  have hno : addLink t a b kind = t → (∃ t', Topo lo w2 gt t' ∧ (t'.ases = t.ases ∧ t' = addLink t a b kind) ∧ t'.links.length ≤ t.links.length + 1) ∧ ∀ g u, D g u w → g < u.heap.size → u.heap.size ≤ gt → u.heap.size ≤ lo → D g u w2 := by
    intro hat
    refine ⟨⟨t, Topo.ext ⟨A0, c0, A1, c1, HB.out, H0.out, H1.out, hl⟩ xe, ⟨rfl, hat.symm⟩, by omega⟩, fun g u hd hg _ _ => hd.trans (D.of_ext xe (Nat.lt_of_lt_of_le hg hd.size))⟩
  have HNO := Lib.hid hno; clear hno
  by_cases hx : l1.length ≤ 5
  · have i1 : (l1.length : Int) + 1 ≤ 6 := by omega
    by_cases hy : l2.length ≤ 5
    · have i2 : (l2.length : Int) + 1 ≤ 6 := by omega
      have b2 := HB.out.ext (w' := w2) xe
      have lb2 := b2.lt
      obtain ⟨qb2_0, qb2_1⟩ := blk2 b2
      have fb2_0 := b2.frozen 0
      have fb2_1 := b2.frozen 1
      clear b2
      go_wp2_with (at_builtin; refine hold ?_)
      refine unhold (wpList_appL lo rfl (.tmp 34) (.tmp 41) _ rfl 80 _ 5 40 Tryz.underlying25 info_Link rfl (by omega) (.slice A1 t.links.length c1) t.links.length (t.links.flatMap LinkC) rfl _ 1 1 _ rfl (by exact Own.ext (w' := w2.alloc _) (Own.more H1.out (Nat.le_refl _) (Nat.le_refl _)) xe (Nat.le_refl _) |>.lt_size) (row_one _ _ _ _ _ (by first | rfl | simp) rfl) (one_Link [⟨a, (l1.length : Int) + 1, b, (l2.length : Int) + 1, kind⟩]) (by simp only [World.size_alloc]; omega) (by unfold maxLen; omega) (by omega) ?_)
      intro v8 w8 o8 hg8
      obtain ⟨a8, m8, q8, hv8⟩ := o8.slice
      subst hv8
      obtain ⟨hm8, -⟩ := NO.row o8
      subst hm8
      have hb7 := HB.out.ext (w' := w2.alloc (.cells #[I a, I ((l1.length : Int) + 1), I b, I ((l2.length : Int) + 1), I kind] 80)) xe
      have h17 := (H1.out.ext (w' := w2.alloc (.cells #[I a, I ((l1.length : Int) + 1), I b, I ((l2.length : Int) + 1), I kind] 80)) xe (Nat.le_refl _)).lt_size
      have h07 := (H0.out.ext (w' := w2.alloc (.cells #[I a, I ((l1.length : Int) + 1), I b, I ((l2.length : Int) + 1), I kind] 80)) xe (Nat.le_refl _)).lt_size
      have B8 := Lib.hid (Blk.grown hb7 hg8 (off_type h17 hb7 (by decide)))
      have A8 := Lib.hid ((other_type h07 h17 (by decide) hg8).lt_size)
      have z8 := hg8.size
      simp only [World.size_alloc] at z8
      have HG := Lib.hid hg8
      have hls : (t.links.flatMap LinkC ++ [⟨a, (l1.length : Int) + 1, b, (l2.length : Int) + 1, kind⟩].flatMap LinkC) = (t.links ++ [(⟨a, (l1.length : Int) + 1, b, (l2.length : Int) + 1, kind⟩ : DLink)]).flatMap LinkC := by rw [List.flatMap_append]
      have o9 : Own 80 5 lo w8.heap.size w8 (.slice a8 (t.links.length + 1) q8) (t.links.length + 1) ((t.links ++ [(⟨a, (l1.length : Int) + 1, b, (l2.length : Int) + 1, kind⟩ : DLink)]).flatMap LinkC) := by rw [← hls]; exact o8
      have O8 := Lib.hid o9; clear o8 o9 hls hg8 hb7 h07
      have H17 := Lib.hid h17; clear h17
      have b8 := B8.out.ext (w' := w8) xe
      have lb8 := b8.lt
      obtain ⟨qb8_0, qb8_1⟩ := blk2 b8
      have fb8_0 := b8.frozen 0
      have fb8_1 := b8.frozen 1
      clear b8
      go_wp2_with (at_builtin; refine hold ?_)
      refine ⟨by rfl, .tuple #[], by simp [results, Tryz.results30, go_sem, *], rfl, ⟨⟨t.ases, t.links ++ [⟨a, (l1.length : Int) + 1, b, (l2.length : Int) + 1, kind⟩]⟩, ⟨A0, c0, a8, q8, ?_, ?_, ?_, ?_⟩, ⟨rfl, by unfold addLink; rw [← HLE1.out, ← HLE2.out, if_pos ⟨hx, hy⟩]⟩, by simp⟩, fun g u hd hg hh1 hh2 => ?_⟩
      · simpa using B8.out.set_ 1 (.slice a8 (t.links.length + 1) q8)
      · simp only [World.size_setCell]
        exact A8.out.setT B8.out (by decide) _ _
      · simp only [World.size_setCell]
        have h9 := O8.out.setT B8.out (by decide) 1 (.slice a8 (t.links.length + 1) q8)
        unfold LinkSO
        rw [List.length_append, List.length_singleton]
        exact h9
      · simp only [World.size_setCell]; omega
      · have hd2 : D g u (w2.alloc (.cells #[I a, I ((l1.length : Int) + 1), I b, I ((l2.length : Int) + 1), I kind] 80)) := hd.trans (D.of_ext xe (Nat.lt_of_lt_of_le hg hd.size))
        refine D.setNew (D.grown hd2 hg HG.out fun k hk => ?_) hg (by dsimp only; exact hh1) _
        have := (H17.out.1.lt k hk).1
        omega
    · have i2 : ¬ (l2.length : Int) + 1 ≤ 6 := by omega
      go_wp2_with fail
      exact ⟨by rfl, .tuple #[], by simp [results, Tryz.results30, go_sem, *], rfl, HNO.out (by unfold addLink; rw [← HLE1.out, ← HLE2.out, if_neg (by omega)])⟩
  · have i1 : ¬ (l1.length : Int) + 1 ≤ 6 := by omega
    go_wp2_with fail
    exact ⟨by rfl, .tuple #[], by simp [results, Tryz.results30, go_sem, *], rfl, HNO.out (by unfold addLink; rw [← HLE1.out, ← HLE2.out, if_neg (by omega)])⟩
set_option maxRecDepth 100000 in
set_option maxHeartbeats 1000000 in
theorem spec_l5DrawV (g : Nat) (w : World) (hc : Cur w g) : Calls Tryz.prog 13 #[.pointer (some ⟨g, 0, none⟩)] w fun e w' => ∃ v', e = .returned v' ∧ (∃ t, TopologyO w.heap.size w'.heap.size w' v' t ∧ DrawnTopo t ∧ validTop t = true) ∧ D g w w' := by
  have HC := Lib.hid hc
  have hgw := hc.lt
  clear hc
  go_enter Tryz.func13, Tryz.ntmps13
  go_wp2_with fail
  refine name_calls (fun W => ∃ wa, D g w wa ∧ wa.heap.size = w.heap.size + 1 ∧ Blk wa w.heap.size 27 [.slice none 0 0, .slice none 0 0] ∧ D g wa W ∧ W.heap.size = w.heap.size + 1 + 1 ∧ Blk W (w.heap.size + 1) 27 [.slice none 0 0, .slice none 0 0]) ⟨_, D.alloc (D.refl _ _) hgw _, by simp only [World.size_alloc], xb, D.alloc (D.refl _ _) (by simp only [World.size_alloc]; omega) _, by simp only [World.size_alloc], xb⟩ ?_
  rintro w0 ⟨wa, da, za, br, d0, z0, bt⟩
  have BR := Lib.hid br; clear br
  have HCA := Lib.hid (da.cur HC.out)
  have hga : g < wa.heap.size := by omega
  have T0 : Hid (Topo w0.heap.size w0 (w.heap.size + 1) ⟨[], []⟩) := ⟨none, 0, none, 0, bt, Own.nil _ _ _ _ _, Own.nil _ _ _ _ _, Nat.le_refl _⟩
  clear bt
  refine (spec_l1Below g 3 w0 (d0.cur HCA.out) (by omega)).mono ?_
  rintro e w1 ⟨x1, rfl, ⟨x1a, x1b, -⟩, d1⟩
  have x1b := x1b (by omega)
  have z1 := d1.size
  obtain ⟨c1, rfl⟩ : ∃ c1 : Nat, x1 = (c1 : Int) := ⟨x1.toNat, by omega⟩
  go_wp2_with fail
  refine (spec_l1Below g 6 w1 (d1.cur (d0.cur HCA.out)) (by omega)).mono ?_
  rintro e w2 ⟨x2, rfl, ⟨x2a, x2b, -⟩, d2⟩
  have x2b := x2b (by omega)
  have z2 := d2.size
  obtain ⟨c2, rfl⟩ : ∃ c2 : Nat, x2 = (c2 : Int) := ⟨x2.toNat, by omega⟩
  go_wp2_with fail
  have hne : w.heap.size + 1 ≠ g := by omega
  have dw2 : D g wa w2 := D.trans (D.trans d0 d1) d2
  go_loopw [6] (fun i wr => ∃ (k : Nat) (t : DTopology), k ≤ c1 + 1 + c2 ∧ i = I k ∧ Topo w0.heap.size wr (w.heap.size + 1) t ∧ t.ases.length = k ∧ t.links.length = 0 ∧ Good t ∧ D g wa wr) (fun i _ => c1 + 1 + c2 - (intOf i).toNat)
  case atStart => exact ⟨0, ⟨[], []⟩, by omega, rfl, T0.out.d (D.trans d1 d2) (by omega) hne, rfl, rfl, ⟨fun k hk => by simp at hk, fun k hk => by simp at hk, doors_nil⟩, dw2⟩
  case round =>
    obtain ⟨k, t, hk, rfl, ht, hta, htl, hko, hd⟩ := hrel
    have HKO := Lib.hid hko; clear hko
    subst hta
    have zr := hd.size
    by_cases hlt : t.ases.length < c1 + 1 + c2
    · have i1 : (t.ases.length : Int) < 1 + (c1 : Int) + (c2 : Int) := by omega
      obtain ⟨A0, q0, A1, q1, hb, h0, h1, hl⟩ := ht
      have HB := Lib.hid hb; have H0 := Lib.hid h0; have H1 := Lib.hid h1; clear hb h0 h1
      have hgr : g < wr.heap.size := by omega
      have hcur := hd.cur HCA.out
      have HCUR := Lib.hid hcur; clear hcur
      have b0 := HB.out.ext (w' := wr) xe
      have lb0 := b0.lt
      obtain ⟨qb0_0, qb0_1⟩ := blk2 b0
      have fb0_0 := b0.frozen 0
      have fb0_1 := b0.frozen 1
      clear b0
      go_wp2_with fail
      refine wp_region_LT 15 (E := D g) (w0 := wr) (G := fun τ => match τ with | 30 => some (fun v W => ∃ x : Int, v = I x ∧ 0 ≤ x ∧ x < 2) | 35 => some (fun v W => ∃ x : Int, v = I x ∧ 0 ≤ x ∧ x < 1000000) | 41 => some (fun v W => FreshASI wr.heap.size t.ases.length v W) | _ => none) (D.refl g) (fun h k => D.trans h k) (by kernel_rfl) (by kernel_rfl) (by kernel_rfl) (by kernel_rfl) (by kernel_rfl) (by kernel_rfl) (by intro t φ hG; split at hG; all_goals first | (cases hG; done) | (cases Option.some.inj hG; intro v W W' hE hv; first | exact hv | exact hv.d hE (by omega) | (obtain ⟨y, hy⟩ := hv; exact ⟨y, Fresh1.d hy hE (by omega)⟩))) (D.drew (by exact D.refl _ _)) ?_
      simp only [List.take_succ_cons, List.take_zero]
      repeat' (first
        | ((with_reducible refine wpL_skip ?_ ?_ ?_)
           · rfl
           · rfl
           simp only [Act.put, List.setIfInBounds_toArray, List.set_cons_zero, List.set_cons_succ])
        | ((with_reducible refine wpL_quiet ?_ ?_ ?_ ?_)
           · rfl
           · rfl
           · rfl
           apply Exists.intro
           refine ⟨fun W hW hS => ?_, ?_⟩
           · have hC := (D.facts hW).1
             go_simp
             first | done | (with_reducible rfl) | (rw [if_neg (by omega)]; exact ⟨rfl, rfl⟩) | rfl
           first | (with_reducible refine wpL_boolT ?_) | (with_reducible refine wpL_boolF ?_) | (with_reducible refine wpL_bool (fun hB => ?_) (fun hB => ?_)) | skip
           all_goals simp only [Act.put, List.setIfInBounds_toArray, List.set_cons_zero, List.set_cons_succ])
        | ((refine wpL_grow ?_ rfl rfl ?_ ?_)
           · rfl
           · intro W hW hS
             have hC := (D.facts hW).1
             unfold growAt
             go_simp
             simp only [growUpon]
             first | (go_at_call 15; (with_reducible refine Calls.mono (spec_l1Below g _ _ (hW.cur HCUR.out) (by omega)) ?_); rintro e w9 ⟨x, rfl, hx, d9⟩; exact ⟨_, rfl, d9, ⟨x, rfl, hx.1, hx.2.1 (by omega)⟩⟩) | (go_at_call 15; (with_reducible refine Calls.mono (spec_l1Below g _ _ (hW.cur HCUR.out) (by omega)) ?_); rintro e w9 ⟨x, rfl, hx, d9⟩; exact ⟨_, rfl, d9, ⟨x, rfl, hx.1, hx.2.1 (by omega)⟩⟩) | (refine ⟨D.of_ext ((Ext.refl _).alloc _) (by have h5 := D.size hW; omega), ⟨⟨_, _, _⟩, ⟨?ka, ?kb⟩, Fresh1.new _ _ _ _ _ rfl (D.size hW)⟩⟩; (case ka => exact ⟨x30, x30a, x30b, key_val _ _ x30a x30b (by omega)⟩); (case kb => (dsimp only; omega)))
           intro v W' hW' hv
           first | (obtain ⟨x30, rfl, x30a, x30b⟩ := hv) | (obtain ⟨x35, rfl, x35a, x35b⟩ := hv) | (obtain ⟨y41, -, g41, rfl, hg41, hb41⟩ := hv) | (obtain ⟨A5, n5, c5, rfl, -⟩ := id hv; clear hv) | (obtain ⟨A5, n5, c5, rfl⟩ := NO.slice hv) | skip
           all_goals simp only [Act.put, List.setIfInBounds_toArray, List.set_cons_zero, List.set_cons_succ]))
      all_goals
        refine wpL_nil (fun w5 e5 hL => ?_)
        obtain ⟨y5, hy5, g5, hv5, hg5, hb5⟩ : FreshASI wr.heap.size t.ases.length _ w5 := hL 41
        cases hv5
        clear hL lb0 qb0_0 qb0_1 fb0_0 fb0_1
        have z5 := e5.size
        have HB5 := Lib.hid (HB.out.d e5 hne)
        have H05 := Lib.hid (H0.out.dUp e5 (by omega))
        have H15 := Lib.hid (H1.out.dUp e5 (by omega))
        simp only [List.drop_succ_cons, List.drop_zero]
        go_wp2_with (at_builtin; refine hold ?_)
        refine unhold (wpList_appL w0.heap.size rfl (.tmp 28) (.tmp 41) _ rfl 40 _ 3 24 Tryz.underlying24 info_AS rfl (by omega) (.slice A0 t.ases.length q0) t.ases.length (t.ases.flatMap ASC) rfl _ 1 1 (ASC y5) rfl H05.out (row_blk hb5 rfl) (fun u hu => one_AS [y5] u (by simpa using hu)) (by omega) (by unfold maxLen; omega) (by omega) ?_)
        intro v8 w8 o8 hg8
        obtain ⟨a8, m8, q8, hv8⟩ := o8.slice
        subst hv8
        obtain ⟨hm8, -⟩ := NO.row o8
        subst hm8
        have B8 := Lib.hid (Blk.grown HB5.out hg8 (off_type H05.out HB5.out (by decide)))
        have L8 := Lib.hid ((other_type H15.out H05.out (by decide) hg8).lt_size)
        have z8 := hg8.size
        have dd : D g wa w8 := D.grown (D.trans hd e5) hga hg8 (fun j hj => by have := (H05.out.1.lt j hj).1; omega)
        have o9 : Own 40 3 w0.heap.size w8.heap.size w8 (.slice a8 (t.ases.length + 1) q8) (t.ases.length + 1) ((t.ases ++ [y5]).flatMap ASC) := by rw [List.flatMap_append]; simpa using o8
        have O8 := Lib.hid o9; clear o8 o9 hg8
        have b8 := B8.out.ext (w' := w8) xe
        have lb8 := b8.lt
        obtain ⟨qb8_0, qb8_1⟩ := blk2 b8
        have fb8_0 := b8.frozen 0
        have fb8_1 := b8.frozen 1
        clear b8
        go_wp2_with (at_builtin; refine hold ?_)
        go_roundw
        case rel =>
          refine ⟨t.ases.length + 1, ⟨t.ases ++ [y5], t.links⟩, by omega, by go_num, ⟨a8, q8, A1, q1, ?_, ?_, ?_, ?_⟩, by simp, htl, ⟨HKO.out.1.snoc hy5.1, HKO.out.2.1.snoc hy5.2, HKO.out.2.2⟩, D.setNew dd hga (by dsimp only; omega) _⟩
          · simpa using B8.out.set_ 0 (.slice a8 (t.ases.length + 1) q8)
          · simp only [World.size_setCell]
            have h9 := O8.out.setT B8.out (by decide) 0 (.slice a8 (t.ases.length + 1) q8)
            unfold ASSO
            rw [List.length_append, List.length_singleton]
            exact h9
          · simp only [World.size_setCell]
            exact L8.out.setT B8.out (by decide) _ _
          · simp only [World.size_setCell]; omega
        case measure => simp [intOf]; omega
    · have hk2 : t.ases.length = c1 + 1 + c2 := by omega
      have i1 : ¬ (t.ases.length : Int) < 1 + (c1 : Int) + (c2 : Int) := by omega
      go_wp2_with fail
      go_loopw [7] (fun i wr => ∃ (b : Nat) (t : DTopology), 1 ≤ b ∧ b ≤ c1 + 1 ∧ i = I b ∧ Topo w0.heap.size wr (w.heap.size + 1) t ∧ (t.ases.length = c1 + 1 + c2 ∧ Good t) ∧ t.links.length ≤ 2 * b ∧ D g wa wr) (fun i _ => c1 + 1 - (intOf i).toNat)
      case atStart => exact ⟨1, t, by omega, by omega, rfl, ht, ⟨hk2, HKO.out⟩, by omega, hd⟩
      case round =>
        clear i1 hk2 hk hlt ht htl
        obtain ⟨b, t2, hb1, hb2, rfl, ht2, hta2, htl2, hd2⟩ := hrel
        have zr2 := hd2.size
        have dz2 := d2.size
        by_cases hlt2 : b < c1 + 1
        · have i1 : (b : Int) < 1 + (c1 : Int) := by omega
          go_wp2_with fail
          refine (spec_l1Below g (b : Int) _ (hd2.cur HCA.out) (by omega)).mono ?_
          rintro e w3 ⟨x3, rfl, ⟨x3a, x3b, -⟩, d3⟩
          have x3b := x3b (by omega)
          go_wp2_with fail
          refine (spec_l5AddX (w.heap.size + 1) x3 b 1 w0.heap.size t2 _ (ht2.d d3 (by omega) hne) (by omega)).mono ?_
          rintro e w4 ⟨rfl, ⟨t4, ht4, hta4, htl4⟩, hf4⟩
          have d4 : D g wa w4 := hf4 g wa (D.trans hd2 d3) hga (by omega) (by omega)
          go_wp2_with fail
          refine (spec_l1Once g 2 _ (d4.cur HCA.out) (by omega)).mono ?_
          rintro e w5 ⟨y5, rfl, d5⟩
          have ht5 := ht4.d d5 (by omega) hne
          cases y5
          · go_wp2_with fail
            go_roundw
            case rel => exact ⟨b + 1, t4, by omega, by omega, by go_num, ht5, good_add hta4.2 hta2 (by omega), by omega, D.trans d4 d5⟩
            case measure => simp [intOf]; omega
          · go_wp2_with fail
            refine (spec_l1Below g (b : Int) _ ((D.trans d4 d5).cur HCA.out) (by omega)).mono ?_
            rintro e w6 ⟨x6, rfl, ⟨x6a, x6b, -⟩, d6⟩
            have x6b := x6b (by omega)
            go_wp2_with fail
            refine (spec_l5AddX (w.heap.size + 1) x6 b 1 w0.heap.size t4 _ (ht5.d d6 (by omega) hne) (by omega)).mono ?_
            rintro e w7 ⟨rfl, ⟨t7, ht7, hta7, htl7⟩, hf7⟩
            have d7 : D g wa w7 := hf7 g wa (D.trans (D.trans d4 d5) d6) hga (by omega) (by omega)
            go_wp2_with fail
            go_roundw
            case rel => exact ⟨b + 1, t7, by omega, by omega, by go_num, ht7, good_add hta7.2 (good_add hta4.2 hta2 (by omega)) (by omega), by omega, d7⟩
            case measure => simp [intOf]; omega
        · have hb3 : b = c1 + 1 := by omega
          subst hb3
          have i1 : ¬ ((c1 + 1 : Nat) : Int) < 1 + (c1 : Int) := by omega
          go_wp2_with fail
          go_loopw [8] (fun i wr => ∃ (b : Nat) (t : DTopology), c1 + 1 ≤ b ∧ b ≤ c1 + 1 + c2 ∧ i = I b ∧ Topo w0.heap.size wr (w.heap.size + 1) t ∧ (t.ases.length = c1 + 1 + c2 ∧ Good t) ∧ t.links.length ≤ 20 + 3 * b ∧ D g wa wr) (fun i _ => c1 + 1 + c2 - (intOf i).toNat)
          case atStart => exact ⟨c1 + 1, t2, by omega, by omega, by go_num, ht2, hta2, by omega, hd2⟩
          case round =>
            clear i1 hta2 hlt2 ht2 htl2
            obtain ⟨b, t3, hb3, hb4, rfl, ht3, hta3, htl3, hd3⟩ := hrel
            have zr3 := hd3.size
            have HTA3 := Lib.hid hta3
            obtain ⟨A0, q0, A1, q1, hb, h0, h1, hl⟩ := id ht3
            have HB := Lib.hid hb; have H0 := Lib.hid h0; have H1 := Lib.hid h1; clear hb h0 h1
            by_cases hlt3 : b < c1 + 1 + c2
            · have i1 : (b : Int) < (t3.ases.length : Int) := by omega
              clear hta3
              have b0 := HB.out.ext (w' := wr) xe
              have lb0 := b0.lt
              obtain ⟨qb0_0, qb0_1⟩ := blk2 b0
              have fb0_0 := b0.frozen 0
              have fb0_1 := b0.frozen 1
              clear b0
              go_wp2_with fail
              clear lb0 qb0_0 qb0_1 fb0_0 fb0_1 HB H0 H1
              refine (spec_l1Below g 2 _ (hd3.cur HCA.out) (by omega)).mono ?_
              rintro e w4 ⟨x4, rfl, ⟨x4a, x4b, -⟩, d4⟩
              have x4b := x4b (by omega)
              obtain ⟨c4, rfl⟩ : ∃ c4 : Nat, x4 = (c4 : Int) := ⟨x4.toNat, by omega⟩
              have z4 := d4.size
              go_wp2_with fail
              go_loopw [9] (fun i wr => ∃ (kk : Nat) (t : DTopology), kk ≤ 2 ∧ i = I kk ∧ Topo w0.heap.size wr (w.heap.size + 1) t ∧ (t.ases.length = c1 + 1 + c2 ∧ Good t) ∧ t.links.length + kk ≤ 22 + 3 * b ∧ D g wa wr) (fun i _ => (intOf i).toNat)
              case atStart => exact ⟨c4 + 1, t3, by omega, by go_num, ht3.d d4 (by omega) hne, HTA3.out, by omega, D.trans hd3 d4⟩
              case round =>
                clear ht3 HTA3 htl3 i1
                obtain ⟨kk, t5, hk5, rfl, ht5, hta5, htl5, hd5⟩ := hrel
                have zr5 := hd5.size
                have HTA5 := Lib.hid hta5
                by_cases hk0 : 0 < kk
                · obtain ⟨km, rfl⟩ : ∃ km : Nat, kk = km + 1 := ⟨kk - 1, by omega⟩
                  have i2 : (0 : Int) < ((km + 1 : Nat) : Int) := by omega
                  clear hta5
                  go_wp2_with fail
                  clear i2
                  refine (spec_l1Below g (b : Int) _ (hd5.cur HCA.out) (by omega)).mono ?_
                  rintro e w6 ⟨x6, rfl, ⟨x6a, x6b, -⟩, d6⟩
                  have x6b := x6b (by omega)
                  obtain ⟨a, rfl⟩ : ∃ a : Nat, x6 = (a : Int) := ⟨x6.toNat, by omega⟩
                  have z6 := d6.size
                  go_wp2_with fail
                  refine (spec_l1Once g 5 _ ((D.trans hd5 d6).cur HCA.out) (by omega)).mono ?_
                  rintro e w7 ⟨y7, rfl, d7⟩
                  have ht7 := (ht5.d d6 (by omega) hne).d d7 (by omega) hne
                  have hd7 : D g wa w7 := D.trans (D.trans hd5 d6) d7
                  have z7 := d7.size
                  clear ht5
                  cases y7
                  · obtain ⟨A0, q0, A1, q1, hb, h0, h1, hl⟩ := ht7
                    have hal : a < t5.ases.length := by rw [HTA5.out.1]; omega
                    have hbl : b < t5.ases.length := by rw [HTA5.out.1]; omega
                    obtain ⟨bk, off, hA, hbk, hka, hca, -, -⟩ := (ASSO_rd h0).at_ hal
                    have hfl : (t5.ases.flatMap ASC).length = t5.ases.length * 3 := flat_len ASC 3 ASC.len t5.ases
                    obtain ⟨gA, hgA, hg1, hg2, hg3, hfr, hcb, -⟩ := Own.cellAt h0 (b * 3) (by rw [hfl]; omega) (I 0)
                    rw [hgA] at hA
                    cases hA
                    subst hgA
                    have hca : w7.cell? ⟨bk, a * 3, none⟩ = some (I t5.ases[a].isd) := by simpa only [Nat.zero_add] using hca
                    have HB := Lib.hid hb; have H0 := Lib.hid h0; have H1 := Lib.hid h1; clear hb h0 h1
                    have a0 : (0 : Int) ≤ (a : Int) := by omega
                    have a1 : (a : Int) < (t5.ases.length : Int) := by omega
                    have b0 : (0 : Int) ≤ (b : Int) := by omega
                    have b1 : (b : Int) < (t5.ases.length : Int) := by omega
                    have hz01 := HTA5.out.2.2.1 a hal
                    have HZ01 := Lib.hid hz01; clear hz01
                    generalize hz : t5.ases[a].isd = z at *
                    clear hz
                    have b0 := HB.out.ext (w' := w7) xe
                    have lb0 := b0.lt
                    obtain ⟨qb0_0, qb0_1⟩ := blk2 b0
                    have fb0_0 := b0.frozen 0
                    have fb0_1 := b0.frozen 1
                    clear b0
                    go_wp2_with fail
                    refine wp_region_LT 11 (E := Ext) (w0 := w7) (G := fun τ => match τ with | 0 => none | _ => none) Ext.refl (fun h k => Ext.trans h k) (by kernel_rfl) (by kernel_rfl) (by kernel_rfl) (by kernel_rfl) (by kernel_rfl) (by kernel_rfl) xg (Ext.drew (by exact Ext.refl _)) ?_
                    simp only [List.take_succ_cons, List.take_zero]
                    repeat' (first
                      | ((with_reducible refine wpL_skip ?_ ?_ ?_)
                         · rfl
                         · rfl
                         simp only [Act.put, List.setIfInBounds_toArray, List.set_cons_zero, List.set_cons_succ])
                      | ((with_reducible refine wpL_quiet ?_ ?_ ?_ ?_)
                         · rfl
                         · rfl
                         · rfl
                         apply Exists.intro
                         refine ⟨fun W hW hS => ?_, ?_⟩
                         · have hC := (Ext.facts hW).1
                           go_simp
                           first | done | (with_reducible rfl) | (rw [if_neg (by omega)]; exact ⟨rfl, rfl⟩) | rfl
                         first | (with_reducible refine wpL_boolT ?_) | (with_reducible refine wpL_boolF ?_) | (with_reducible refine wpL_bool (fun hB => ?_) (fun hB => ?_)) | skip
                         all_goals simp only [Act.put, List.setIfInBounds_toArray, List.set_cons_zero, List.set_cons_succ]))
                    refine wpL_nil (fun w8 e8 hL => ?_)
                    clear hL lb0 qb0_0 qb0_1 fb0_0 fb0_1
                    have z8 := e8.size
                    obtain ⟨gA', hgA', -, -, hg3', hfr', hcb', hset⟩ := Own.cellAt (H0.out.ext e8 (Nat.le_refl _)) (b * 3) (by rw [hfl]; omega) (I z)
                    cases hgA'
                    have HSET := Lib.hid hset; clear hset hfr hcb hca
                    have hb8 := HB.out.ext e8
                    have hneg : bk ≠ w.heap.size + 1 := fun e => by
                      have := off_type (H0.out.ext e8 (Nat.le_refl _)) hb8 (by decide)
                      exact this (by rw [← e]; rfl)
                    have HB8 := Lib.hid (Blk.far hb8 (p := ⟨bk, b * 3, none⟩) (fun e => hneg e.symm) (I z))
                    have H18 : Hid (LinkSO w0.heap.size (w8.setCell ⟨bk, b * 3, none⟩ (I z)).heap.size (w8.setCell ⟨bk, b * 3, none⟩ (I z)) (.slice A1 t5.links.length q1) t5.links) := by
                      unfold Hid
                      simp only [World.size_setCell]
                      obtain ⟨cs9, hblk9⟩ : ∃ cs9, Blk w8 bk 40 cs9 := by
                        rcases (H0.out.ext e8 (Nat.le_refl _)).cases with ⟨e, -⟩ | ⟨gq, cap, rest, e, -, -, hbb, -⟩
                        · cases e
                        · cases e; exact ⟨_, hbb⟩
                      exact ((H1.out.ext e8 (Nat.le_refl _)).lt_size).setT hblk9 (by decide) _ _
                    clear hb8
                    simp only [List.drop_succ_cons, List.drop_zero]
                    go_wp2_with (at_builtin; refine hold ?_)
                    refine name_wp (fun W => (∃ t', Topo w0.heap.size W (w.heap.size + 1) t' ∧ (t'.ases.length = c1 + 1 + c2 ∧ Good t') ∧ t'.links.length = t5.links.length) ∧ D g wa W) ⟨⟨⟨t5.ases.set b { t5.ases[b] with isd := z }, t5.links⟩, ⟨some ⟨bk, 0, none⟩, q0, A1, q1, by simpa using HB8.out, ?_, H18.out, by simp only [World.size_setCell]; omega⟩, ⟨by simp [HTA5.out.1], HTA5.out.2.1.isd b hbl z, HTA5.out.2.2.1.set b hbl z HZ01.out, HTA5.out.2.2.2⟩, rfl⟩, D.setNew (D.trans hd7 (D.of_ext e8 (by omega))) hga (by dsimp only; omega) _⟩ ?_
                    · have h9 := HSET.out
                      rw [as_set t5.ases b hbl z] at h9
                      unfold ASSO
                      rw [List.length_set]
                      simp only [World.size_setCell]
                      have h10 := h9.lt_size
                      simp only [World.size_setCell] at h10
                      exact h10
                    clear HB8 HSET H18 HB H0 H1 hfr' hcb'
                    rintro w9 ⟨⟨t9, ht9, hta9, htl9⟩, hd9⟩
                    have z9 := hd9.size
                    have HTA9 := Lib.hid hta9
                    obtain ⟨A0, q0, A1, q1, hb, h0, h1, hl⟩ := id ht9
                    have hal : a < t9.ases.length := by omega
                    have hbl : b < t9.ases.length := by omega
                    obtain ⟨bk, off, hA, hbk, hka, hca, -, -⟩ := (ASSO_rd h0).at_ hal
                    subst hA
                    obtain ⟨bk2, off2, hA2, hbk2, hkb, hcb, -, -⟩ := (ASSO_rd h0).at_ hbl
                    cases hA2
                    have a0 : (0 : Int) ≤ (a : Int) := by omega
                    have a1 : (a : Int) < (t9.ases.length : Int) := by omega
                    have b0 : (0 : Int) ≤ (b : Int) := by omega
                    have b1 : (b : Int) < (t9.ases.length : Int) := by omega
                    clear hta9
                    have HB := Lib.hid hb; clear hb h0 h1
                    generalize t9.ases[a].isd = za at *
                    generalize t9.ases[b].isd = zb at *
                    have b0 := HB.out.ext (w' := w9) xe
                    have lb0 := b0.lt
                    obtain ⟨qb0_0, qb0_1⟩ := blk2 b0
                    have fb0_0 := b0.frozen 0
                    have fb0_1 := b0.frozen 1
                    clear b0
                    by_cases he : za = zb
                    · have dq : (za == zb) = true := beq_iff_eq.2 he
                      clear he
                      refine wp_region_L (E := Ext) (w0 := w9) (G := fun τ => match τ with | 0 => none | _ => none) Ext.refl (fun h k => Ext.trans h k) (by kernel_rfl) (by kernel_rfl) xg (Ext.drew (by exact Ext.refl _)) ?_
                      repeat' (first
                        | ((with_reducible refine wpL_skip ?_ ?_ ?_)
                           · rfl
                           · rfl
                           simp only [Act.put, List.setIfInBounds_toArray, List.set_cons_zero, List.set_cons_succ])
                        | ((with_reducible refine wpL_quiet ?_ ?_ ?_ ?_)
                           · rfl
                           · rfl
                           · rfl
                           apply Exists.intro
                           refine ⟨fun W hW hS => ?_, ?_⟩
                           · have hC := (Ext.facts hW).1
                             go_simp
                             first | done | (with_reducible rfl) | (rw [if_neg (by omega)]; exact ⟨rfl, rfl⟩) | rfl
                           first | (with_reducible refine wpL_boolT ?_) | (with_reducible refine wpL_boolF ?_) | (with_reducible refine wpL_bool (fun hB => ?_) (fun hB => ?_)) | skip
                           all_goals simp only [Act.put, List.setIfInBounds_toArray, List.set_cons_zero, List.set_cons_succ]))
                      refine wpL_nil (fun w10 e10 hL => ?_)
                      clear hL lb0 qb0_0 qb0_1 fb0_0 fb0_1 hca hcb dq a0 a1 b0 b1
                      have d10 : D g wa w10 := D.trans hd9 (D.of_ext e10 (by omega))
                      go_wp2_with fail
                      refine (spec_l5AddX (w.heap.size + 1) a b 2 w0.heap.size t9 _ (ht9.ext e10) (by omega)).mono ?_
                      rintro e w11 ⟨rfl, ⟨t11, ht11, hta11, htl11⟩, hf11⟩
                      have d11 : D g wa w11 := hf11 g wa d10 hga (by omega) (by omega)
                      go_wp2_with fail
                      go_roundw
                      case rel => exact ⟨km, t11, by omega, by go_num, ht11, good_add hta11.2 HTA9.out (by omega), by omega, d11⟩
                      case measure => first | (simp [intOf]; done) | (simp [intOf]; omega)
                    · have dq : (za == zb) = false := beq_eq_false_iff_ne.2 he
                      clear he
                      refine wp_region_L (E := Ext) (w0 := w9) (G := fun τ => match τ with | 0 => none | _ => none) Ext.refl (fun h k => Ext.trans h k) (by kernel_rfl) (by kernel_rfl) xg (Ext.drew (by exact Ext.refl _)) ?_
                      repeat' (first
                        | ((with_reducible refine wpL_skip ?_ ?_ ?_)
                           · rfl
                           · rfl
                           simp only [Act.put, List.setIfInBounds_toArray, List.set_cons_zero, List.set_cons_succ])
                        | ((with_reducible refine wpL_quiet ?_ ?_ ?_ ?_)
                           · rfl
                           · rfl
                           · rfl
                           apply Exists.intro
                           refine ⟨fun W hW hS => ?_, ?_⟩
                           · have hC := (Ext.facts hW).1
                             go_simp
                             first | done | (with_reducible rfl) | (rw [if_neg (by omega)]; exact ⟨rfl, rfl⟩) | rfl
                           first | (with_reducible refine wpL_boolT ?_) | (with_reducible refine wpL_boolF ?_) | (with_reducible refine wpL_bool (fun hB => ?_) (fun hB => ?_)) | skip
                           all_goals simp only [Act.put, List.setIfInBounds_toArray, List.set_cons_zero, List.set_cons_succ]))
                      refine wpL_nil (fun w10 e10 hL => ?_)
                      clear hL lb0 qb0_0 qb0_1 fb0_0 fb0_1 hca hcb dq a0 a1 b0 b1
                      have d10 : D g wa w10 := D.trans hd9 (D.of_ext e10 (by omega))
                      go_wp2_with fail
                      go_roundw
                      case rel => exact ⟨km, t9, by omega, by go_num, ht9.ext e10, HTA9.out, by omega, d10⟩
                      case measure => first | (simp [intOf]; done) | (simp [intOf]; omega)
                  · go_wp2_with fail
                    refine name_wp (fun W => (∃ t', Topo w0.heap.size W (w.heap.size + 1) t' ∧ (t'.ases.length = c1 + 1 + c2 ∧ Good t') ∧ t'.links.length = t5.links.length) ∧ D g wa W) ⟨⟨t5, ht7, HTA5.out, rfl⟩, hd7⟩ ?_
                    rintro w9 ⟨⟨t9, ht9, hta9, htl9⟩, hd9⟩
                    have z9 := hd9.size
                    have HTA9 := Lib.hid hta9
                    obtain ⟨A0, q0, A1, q1, hb, h0, h1, hl⟩ := id ht9
                    have hal : a < t9.ases.length := by omega
                    have hbl : b < t9.ases.length := by omega
                    obtain ⟨bk, off, hA, hbk, hka, hca, -, -⟩ := (ASSO_rd h0).at_ hal
                    subst hA
                    obtain ⟨bk2, off2, hA2, hbk2, hkb, hcb, -, -⟩ := (ASSO_rd h0).at_ hbl
                    cases hA2
                    have a0 : (0 : Int) ≤ (a : Int) := by omega
                    have a1 : (a : Int) < (t9.ases.length : Int) := by omega
                    have b0 : (0 : Int) ≤ (b : Int) := by omega
                    have b1 : (b : Int) < (t9.ases.length : Int) := by omega
                    clear hta9
                    have HB := Lib.hid hb; clear hb h0 h1
                    generalize t9.ases[a].isd = za at *
                    generalize t9.ases[b].isd = zb at *
                    have b0 := HB.out.ext (w' := w9) xe
                    have lb0 := b0.lt
                    obtain ⟨qb0_0, qb0_1⟩ := blk2 b0
                    have fb0_0 := b0.frozen 0
                    have fb0_1 := b0.frozen 1
                    clear b0
                    by_cases he : za = zb
                    · have dq : (za == zb) = true := beq_iff_eq.2 he
                      clear he
                      refine wp_region_L (E := Ext) (w0 := w9) (G := fun τ => match τ with | 0 => none | _ => none) Ext.refl (fun h k => Ext.trans h k) (by kernel_rfl) (by kernel_rfl) xg (Ext.drew (by exact Ext.refl _)) ?_
                      repeat' (first
                        | ((with_reducible refine wpL_skip ?_ ?_ ?_)
                           · rfl
                           · rfl
                           simp only [Act.put, List.setIfInBounds_toArray, List.set_cons_zero, List.set_cons_succ])
                        | ((with_reducible refine wpL_quiet ?_ ?_ ?_ ?_)
                           · rfl
                           · rfl
                           · rfl
                           apply Exists.intro
                           refine ⟨fun W hW hS => ?_, ?_⟩
                           · have hC := (Ext.facts hW).1
                             go_simp
                             first | done | (with_reducible rfl) | (rw [if_neg (by omega)]; exact ⟨rfl, rfl⟩) | rfl
                           first | (with_reducible refine wpL_boolT ?_) | (with_reducible refine wpL_boolF ?_) | (with_reducible refine wpL_bool (fun hB => ?_) (fun hB => ?_)) | skip
                           all_goals simp only [Act.put, List.setIfInBounds_toArray, List.set_cons_zero, List.set_cons_succ]))
                      refine wpL_nil (fun w10 e10 hL => ?_)
                      clear hL lb0 qb0_0 qb0_1 fb0_0 fb0_1 hca hcb dq a0 a1 b0 b1
                      have d10 : D g wa w10 := D.trans hd9 (D.of_ext e10 (by omega))
                      go_wp2_with fail
                      refine (spec_l5AddX (w.heap.size + 1) a b 2 w0.heap.size t9 _ (ht9.ext e10) (by omega)).mono ?_
                      rintro e w11 ⟨rfl, ⟨t11, ht11, hta11, htl11⟩, hf11⟩
                      have d11 : D g wa w11 := hf11 g wa d10 hga (by omega) (by omega)
                      go_wp2_with fail
                      go_roundw
                      case rel => exact ⟨km, t11, by omega, by go_num, ht11, good_add hta11.2 HTA9.out (by omega), by omega, d11⟩
                      case measure => first | (simp [intOf]; done) | (simp [intOf]; omega)
                    · have dq : (za == zb) = false := beq_eq_false_iff_ne.2 he
                      clear he
                      refine wp_region_L (E := Ext) (w0 := w9) (G := fun τ => match τ with | 0 => none | _ => none) Ext.refl (fun h k => Ext.trans h k) (by kernel_rfl) (by kernel_rfl) xg (Ext.drew (by exact Ext.refl _)) ?_
                      repeat' (first
                        | ((with_reducible refine wpL_skip ?_ ?_ ?_)
                           · rfl
                           · rfl
                           simp only [Act.put, List.setIfInBounds_toArray, List.set_cons_zero, List.set_cons_succ])
                        | ((with_reducible refine wpL_quiet ?_ ?_ ?_ ?_)
                           · rfl
                           · rfl
                           · rfl
                           apply Exists.intro
                           refine ⟨fun W hW hS => ?_, ?_⟩
                           · have hC := (Ext.facts hW).1
                             go_simp
                             first | done | (with_reducible rfl) | (rw [if_neg (by omega)]; exact ⟨rfl, rfl⟩) | rfl
                           first | (with_reducible refine wpL_boolT ?_) | (with_reducible refine wpL_boolF ?_) | (with_reducible refine wpL_bool (fun hB => ?_) (fun hB => ?_)) | skip
                           all_goals simp only [Act.put, List.setIfInBounds_toArray, List.set_cons_zero, List.set_cons_succ]))
                      refine wpL_nil (fun w10 e10 hL => ?_)
                      clear hL lb0 qb0_0 qb0_1 fb0_0 fb0_1 hca hcb dq a0 a1 b0 b1
                      have d10 : D g wa w10 := D.trans hd9 (D.of_ext e10 (by omega))
                      go_wp2_with fail
                      go_roundw
                      case rel => exact ⟨km, t9, by omega, by go_num, ht9.ext e10, HTA9.out, by omega, d10⟩
                      case measure => first | (simp [intOf]; done) | (simp [intOf]; omega)
                · obtain rfl : kk = 0 := by omega
                  have i2 : ¬ (0 : Int) < ((0 : Nat) : Int) := by omega
                  clear hta5
                  go_wp2_with fail
                  clear i2
                  refine (spec_l1Below g ((b : Int) - (1 + (c1 : Int)) + 1) _ (hd5.cur HCA.out) (by omega)).mono ?_
                  rintro e w6 ⟨x6, rfl, ⟨x6a, x6b, -⟩, d6⟩
                  have x6b := x6b (by omega)
                  have ht6 := ht5.d d6 (by omega) hne
                  have hd6 : D g wa w6 := D.trans hd5 d6
                  have z6 := d6.size
                  by_cases ha : 1 + (c1 : Int) + x6 < (b : Int)
                  · go_wp2_with fail
                    refine (spec_l1Once g 3 _ (hd6.cur HCA.out) (by omega)).mono ?_
                    rintro e w7 ⟨y7, rfl, d7⟩
                    have ht7 := ht6.d d7 (by omega) hne
                    have hd7 : D g wa w7 := D.trans hd6 d7
                    cases y7
                    · go_wp2_with fail
                      go_roundw
                      case rel => exact ⟨b + 1, t5, by omega, by omega, by go_num, ht7, HTA5.out, by omega, hd7⟩
                      case measure => first | (simp [intOf]; done) | (simp [intOf]; omega)
                    · go_wp2_with fail
                      refine (spec_l5AddX (w.heap.size + 1) (1 + (c1 : Int) + x6) b 3 w0.heap.size t5 _ ht7 (by omega)).mono ?_
                      rintro e w11 ⟨rfl, ⟨t11, ht11, hta11, htl11⟩, hf11⟩
                      have d11 : D g wa w11 := hf11 g wa hd7 hga (by omega) (by omega)
                      go_wp2_with fail
                      go_roundw
                      case rel => exact ⟨b + 1, t11, by omega, by omega, by go_num, ht11, good_add hta11.2 HTA5.out (by omega), by omega, d11⟩
                      case measure => first | (simp [intOf]; done) | (simp [intOf]; omega)
                  · go_wp2_with fail
                    go_roundw
                    case rel => exact ⟨b + 1, t5, by omega, by omega, by go_num, ht6, HTA5.out, by omega, hd6⟩
                    case measure => first | (simp [intOf]; done) | (simp [intOf]; omega)
            · have hb5 : b = c1 + 1 + c2 := by omega
              subst hb5
              have i1 : ¬ ((c1 + 1 + c2 : Nat) : Int) < (t3.ases.length : Int) := by omega
              clear hta3
              obtain ⟨w3, hw3⟩ : ∃ w3, w3 = wr := ⟨_, rfl⟩
              subst hw3
              have hg3 : g < w3.heap.size := by omega
              have b0 := HB.out.ext (w' := w3) xe
              have lb0 := b0.lt
              obtain ⟨qb0_0, qb0_1⟩ := blk2 b0
              have fb0_0 := b0.frozen 0
              have fb0_1 := b0.frozen 1
              clear b0
              go_wp2_with fail
              clear lb0 qb0_0 qb0_1 fb0_0 fb0_1 i1
              refine name_wp (fun W => Ext w3 W ∧ LinkSO w3.heap.size W.heap.size W (.slice (some ⟨w3.heap.size, 0, none⟩) 0 0) []) ⟨xe, own_zero' _ _ _ _ _ rfl (Nat.le_refl _)⟩ ?_
              rintro w5 ⟨e5, hz⟩
              have HZ := Lib.hid hz; clear hz
              go_loopw [12, 13] (fun v i wr => ∃ (k : Nat) (l : List DLink), k ≤ t3.links.length ∧ i = I k ∧ LinkSO w3.heap.size wr.heap.size wr v l ∧ (l.length ≤ k ∧ (∀ u ∈ l, linkOk t3 u = true) ∧ l.Sublist (t3.links.take k)) ∧ Ext w3 wr) (fun _ i _ => t3.links.length - (intOf i).toNat)
              case atStart => exact ⟨0, [], by omega, rfl, HZ.out, ⟨by simp, by simp, by simp⟩, e5⟩
              case round =>
                obtain ⟨k, l, hk, rfl, hl5, ⟨hll, hlo, hsu⟩, he⟩ := hrel
                have HLO := Lib.hid hlo; have HSU := Lib.hid hsu; clear hlo hsu
                obtain ⟨av, nv, cv, hvv⟩ := hl5.slice
                subst hvv
                obtain ⟨hnv, -⟩ := NO.row hl5
                subst hnv
                have HL5 := Lib.hid hl5; clear hl5
                have zr5 := he.size
                by_cases hlk : k < t3.links.length
                · obtain ⟨bk, off, hA, hbk, hkl, hc⟩ := (LinkSO_rd H1.out).at_ hlk
                  have hts : t3.links.take (k + 1) = t3.links.take k ++ [t3.links[k]] := List.take_succ_eq_append_getElem hlk
                  have HTS := Lib.hid hts; clear hts
                  generalize t3.links[k] = u at *
                  subst hA
                  obtain ⟨hu_0, hu_1, hu_2, hu_3, hu_4⟩ := hc
                  have k0 : (0 : Int) ≤ (k : Int) := by omega
                  have k1 : (k : Int) < (t3.links.length : Int) := by omega
                  have hbr : bk < wr.heap.size := by omega
                  obtain ⟨ku_0, ku_1, ku_2, ku_3, ku_4⟩ := And.intro ((Ext.cell (a := w3) (b := wr) xe hbk).trans hu_0) (And.intro ((Ext.cell (a := w3) (b := wr) xe hbk).trans hu_1) (And.intro ((Ext.cell (a := w3) (b := wr) xe hbk).trans hu_2) (And.intro ((Ext.cell (a := w3) (b := wr) xe hbk).trans hu_3) ((Ext.cell (a := w3) (b := wr) xe hbk).trans hu_4))))
                  have HTV := Lib.hid (topoV H0.out H1.out)
                  have b0 := HB.out.ext (w' := wr) xe
                  have lb0 := b0.lt
                  obtain ⟨qb0_0, qb0_1⟩ := blk2 b0
                  have fb0_0 := b0.frozen 0
                  have fb0_1 := b0.frozen 1
                  clear b0
                  cases hok : linkOk t3 u
                  · have HOK := Lib.hid hok; clear hok
                    go_wp2_with fail
                    refine wp_region_L (E := Ext) (w0 := wr) (G := fun τ => match τ with | 141 => some (fun v W => v = .bool false) | _ => none) Ext.refl (fun h k => Ext.trans h k) (by kernel_rfl) (by kernel_rfl) xg (Ext.drew (by exact Ext.refl _)) ?_
                    repeat' (first
                      | ((with_reducible refine wpL_skip ?_ ?_ ?_)
                         · rfl
                         · rfl
                         simp only [Act.put, List.setIfInBounds_toArray, List.set_cons_zero, List.set_cons_succ])
                      | ((with_reducible refine wpL_quiet ?_ ?_ ?_ ?_)
                         · rfl
                         · rfl
                         · rfl
                         apply Exists.intro
                         refine ⟨fun W hW hS => ?_, ?_⟩
                         · have hC := (Ext.facts hW).1
                           go_simp
                           first | done | (with_reducible rfl) | (rw [if_neg (by omega)]; exact ⟨rfl, rfl⟩) | rfl
                         first | (with_reducible refine wpL_boolT ?_) | (with_reducible refine wpL_boolF ?_) | (with_reducible refine wpL_bool (fun hB => ?_) (fun hB => ?_)) | skip
                         all_goals simp only [Act.put, List.setIfInBounds_toArray, List.set_cons_zero, List.set_cons_succ])
                      | ((refine wpL_call ?_ rfl rfl ?_ ?_ ?_)
                         · rfl
                         · rfl
                         · intro W hW hS
                           have hC := (Ext.facts hW).1
                           unfold growAt
                           go_simp
                           simp only [growUpon]
                           first | (go_at_call 32; (with_reducible refine Calls.mono (spec_l5LinkOk _ u t3 _ (by exact HTV.out.ext xe)) ?_); rintro e w9 ⟨rfl, e9⟩; exact ⟨_, rfl, e9, by rw [HOK.out]⟩)
                         first | (with_reducible refine wpL_boolT ?_) | (with_reducible refine wpL_boolF ?_) | (with_reducible refine wpL_bool (fun hB => ?_) (fun hB => ?_)) | skip
                         all_goals simp only [Act.put, List.setIfInBounds_toArray, List.set_cons_zero, List.set_cons_succ])
                      | ((refine wpL_grow ?_ rfl rfl ?_ ?_)
                         · rfl
                         · intro W hW hS
                           have hC := (Ext.facts hW).1
                           unfold growAt
                           go_simp
                           simp only [growUpon]
                           first | (go_at_call 32; (with_reducible refine Calls.mono (spec_l5LinkOk _ u t3 _ (by exact HTV.out.ext xe)) ?_); rintro e w9 ⟨rfl, e9⟩; exact ⟨_, rfl, e9, by rw [HOK.out]⟩)
                         intro v W' hW' hv
                         first | (subst hv) | (obtain ⟨A5, n5, c5, rfl, -⟩ := id hv; clear hv) | (obtain ⟨A5, n5, c5, rfl⟩ := NO.slice hv) | skip
                         all_goals simp only [Act.put, List.setIfInBounds_toArray, List.set_cons_zero, List.set_cons_succ]))
                    refine wpL_nil (fun w6 e6 hL => ?_)
                    clear hL
                    go_wp2_with fail
                    go_roundw
                    case rel => exact ⟨k + 1, l, by omega, by go_num, Own.more (Own.ext HL5.out e6 (Nat.le_refl _)) (Nat.le_refl _) e6.size, ⟨by omega, HLO.out, by rw [HTS.out]; exact HSU.out.trans (List.sublist_append_left _ _)⟩, xe⟩
                    case measure => first | (simp [intOf]; done) | (simp [intOf]; omega)
                  · have HOK := Lib.hid hok; clear hok
                    go_wp2_with fail
                    refine wp_region_L (E := Ext) (w0 := wr) (G := fun τ => match τ with | 141 => some (fun v W => v = .bool true) | _ => none) Ext.refl (fun h k => Ext.trans h k) (by kernel_rfl) (by kernel_rfl) xg (Ext.drew (by exact Ext.refl _)) ?_
                    repeat' (first
                      | ((with_reducible refine wpL_skip ?_ ?_ ?_)
                         · rfl
                         · rfl
                         simp only [Act.put, List.setIfInBounds_toArray, List.set_cons_zero, List.set_cons_succ])
                      | ((with_reducible refine wpL_quiet ?_ ?_ ?_ ?_)
                         · rfl
                         · rfl
                         · rfl
                         apply Exists.intro
                         refine ⟨fun W hW hS => ?_, ?_⟩
                         · have hC := (Ext.facts hW).1
                           go_simp
                           first | done | (with_reducible rfl) | (rw [if_neg (by omega)]; exact ⟨rfl, rfl⟩) | rfl
                         first | (with_reducible refine wpL_boolT ?_) | (with_reducible refine wpL_boolF ?_) | (with_reducible refine wpL_bool (fun hB => ?_) (fun hB => ?_)) | skip
                         all_goals simp only [Act.put, List.setIfInBounds_toArray, List.set_cons_zero, List.set_cons_succ])
                      | ((refine wpL_call ?_ rfl rfl ?_ ?_ ?_)
                         · rfl
                         · rfl
                         · intro W hW hS
                           have hC := (Ext.facts hW).1
                           unfold growAt
                           go_simp
                           simp only [growUpon]
                           first | (go_at_call 32; (with_reducible refine Calls.mono (spec_l5LinkOk _ u t3 _ (by exact HTV.out.ext xe)) ?_); rintro e w9 ⟨rfl, e9⟩; exact ⟨_, rfl, e9, by rw [HOK.out]⟩)
                         first | (with_reducible refine wpL_boolT ?_) | (with_reducible refine wpL_boolF ?_) | (with_reducible refine wpL_bool (fun hB => ?_) (fun hB => ?_)) | skip
                         all_goals simp only [Act.put, List.setIfInBounds_toArray, List.set_cons_zero, List.set_cons_succ])
                      | ((refine wpL_grow ?_ rfl rfl ?_ ?_)
                         · rfl
                         · intro W hW hS
                           have hC := (Ext.facts hW).1
                           unfold growAt
                           go_simp
                           simp only [growUpon]
                           first | (go_at_call 32; (with_reducible refine Calls.mono (spec_l5LinkOk _ u t3 _ (by exact HTV.out.ext xe)) ?_); rintro e w9 ⟨rfl, e9⟩; exact ⟨_, rfl, e9, by rw [HOK.out]⟩)
                         intro v W' hW' hv
                         first | (subst hv) | (obtain ⟨A5, n5, c5, rfl, -⟩ := id hv; clear hv) | (obtain ⟨A5, n5, c5, rfl⟩ := NO.slice hv) | skip
                         all_goals simp only [Act.put, List.setIfInBounds_toArray, List.set_cons_zero, List.set_cons_succ]))
                    refine wpL_nil (fun w6 e6 hL => ?_)
                    clear hL ku_0 ku_1 ku_2 ku_3 ku_4 lb0 qb0_0 qb0_1 fb0_0 fb0_1
                    have z6 := e6.size
                    obtain ⟨ku_0, ku_1, ku_2, ku_3, ku_4⟩ := And.intro ((Ext.cell (a := w3) (b := w6) xe hbk).trans hu_0) (And.intro ((Ext.cell (a := w3) (b := w6) xe hbk).trans hu_1) (And.intro ((Ext.cell (a := w3) (b := w6) xe hbk).trans hu_2) (And.intro ((Ext.cell (a := w3) (b := w6) xe hbk).trans hu_3) ((Ext.cell (a := w3) (b := w6) xe hbk).trans hu_4))))
                    have b0 := HB.out.ext (w' := w6) xe
                    have lb0 := b0.lt
                    obtain ⟨qb0_0, qb0_1⟩ := blk2 b0
                    have fb0_0 := b0.frozen 0
                    have fb0_1 := b0.frozen 1
                    clear b0
                    go_wp2_with (at_builtin; refine hold ?_)
                    refine unhold (wpList_appL w3.heap.size rfl (.tmp 142) (.tmp 148) _ rfl 80 _ 5 40 Tryz.underlying25 info_Link rfl (by omega) (.slice av l.length cv) l.length (l.flatMap LinkC) rfl _ 1 1 _ rfl (by exact (Own.ext HL5.out (w' := w6.alloc _) xe (Nat.le_refl _)).lt_size) (row_one _ _ _ _ _ (by first | rfl | simp) rfl) (one_Link [u]) (by simp only [World.size_alloc]; omega) (by unfold maxLen; omega) (by omega) ?_)
                    intro v8 w8 o8 hg8
                    have h57 := (Own.ext HL5.out (w' := w6.alloc (.cells #[I u.a, I u.ai, I u.b, I u.bi, I u.kind] 80)) xe (Nat.le_refl _))
                    have E8 := Lib.hid (Ext.grownB (a := w3) (w := w6.alloc (.cells #[I u.a, I u.ai, I u.b, I u.bi, I u.kind] 80)) xe h57 hg8 (Nat.le_refl _))
                    have o9 : LinkSO w3.heap.size w8.heap.size w8 v8 (l ++ [u]) := by
                      unfold LinkSO
                      rw [List.length_append, List.length_singleton, List.flatMap_append]
                      exact o8
                    have O9 := Lib.hid o9; clear o8 o9 hg8 h57
                    go_wp2_with (at_builtin; refine hold ?_)
                    go_roundw
                    case rel => exact ⟨k + 1, l ++ [u], by omega, by go_num, O9.out, ⟨by simp; omega, fun y hy => by rcases List.mem_append.1 hy with hy | hy; exact HLO.out y hy; (have e : y = u := by simpa using hy); subst e; exact HOK.out, by rw [HTS.out]; exact HSU.out.append (List.Sublist.refl _)⟩, E8.out⟩
                    case measure => first | (simp [intOf]; done) | (simp [intOf]; omega)
                · obtain rfl : k = t3.links.length := by omega
                  have k1 : ¬ (t3.links.length : Int) < (t3.links.length : Int) := by omega
                  have BRr := Lib.hid ((BR.out.d hd3 (by omega)).ext he)
                  have b0 := HB.out.ext (w' := wr) xe
                  have lb0 := b0.lt
                  obtain ⟨qb0_0, qb0_1⟩ := blk2 b0
                  have fb0_0 := b0.frozen 0
                  have fb0_1 := b0.frozen 1
                  clear b0
                  have b9 := BRr.out.ext (w' := wr) xe
                  have lb9 := b9.lt
                  obtain ⟨qb9_0, qb9_1⟩ := blk2 b9
                  have fb9_0 := b9.frozen 0
                  have fb9_1 := b9.frozen 1
                  clear b9
                  go_wp2_with fail
                  refine bodyPost_ret (v := .agg #[.slice A0 t3.ases.length q0, .slice av l.length cv]) (by simp [results, Tryz.results13, go_sem, *]) rfl ⟨_, rfl, ⟨⟨t3.ases, l⟩, ⟨_, _, w3.heap.size, rfl, ?_, ?_, by omega, by simp only [World.size_setCell]; omega⟩, ?_⟩, ?_⟩
                  · exact Own.more (Own.setCell (Own.setCell (Own.setCell (Own.ext H0.out he (Nat.le_refl _)) (.inl (by dsimp only; omega)) _) (.inl (by dsimp only; omega)) _) (.inl (by dsimp only; omega)) _) (by omega) (Nat.le_refl _)
                  · simp only [World.size_setCell]
                    exact Own.setCell (Own.setCell (Own.setCell HL5.out (.inl (by dsimp only; omega)) _) (.inl (by dsimp only; omega)) _) (.inl (by dsimp only; omega)) _
                  · have h9 := HTA3.out
                    have hsl := HSU.out
                    rw [List.take_length] at hsl
                    exact ⟨⟨by dsimp only; omega, by dsimp only; omega, by dsimp only; omega, h9.2.1⟩, drawn_valid (by dsimp only; omega) (by dsimp only; omega) h9.2.1 h9.2.2.1 (fun u hu => HLO.out u hu) (h9.2.2.2.2.sublist hsl)⟩
                  · exact D.setNew (D.setNew (D.setNew (D.trans da (D.trans hd3 (D.of_ext he hg3))) hgw (by dsimp only; omega) _) hgw (by dsimp only; omega) _) hgw (by dsimp only; omega) _
end Go.Proofs.YtpkcoinoiaaebaaGreat

