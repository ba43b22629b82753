/- The contract of the reference's l5Draw: some topology of one to eight realms. No conditions. -/
import Derived.Test.YtkbiciiniagadaaGreatD3
import Derived.Test.YtkbiciiniagadaaGreatGL5
import Derived.Test.YtkbiciiniagadaaGreatGGrow
namespace Go.Proofs.YtkbiciiniagadaaGreat
open Go.RowKit
set_option linter.unusedVariables false
theorem Fresh1.d {E lo g : Nat} {cs : List Value} {v : Value} {W W' : World} (h : Fresh1 E lo cs v W) (hd : D g W W') (hg : g < lo) : Fresh1 E lo cs v W' := by
  obtain ⟨k, e, hk, hb⟩ := h
  exact ⟨k, e, hk, hb.d hd (by omega)⟩
theorem zero_row (E sz lo : Nat) (w : World) : Own E sz lo w.heap.size w (.slice none 0 0) 0 [] := Own.nil _ _ _ _ _
/-- One cell of a row of flat elements is written anew. -/
theorem Own.cellAt {E sz lo hi n c : Nat} {w : World} {A : Option Addr} {cs : List Value} (h : Own E sz lo hi w (.slice A n c) n cs) (k : Nat) (hk : k < cs.length) (u : Value) :
    ∃ g, A = some ⟨g, 0, none⟩ ∧ lo ≤ g ∧ g < hi ∧ g < w.heap.size ∧ w.frozen? ⟨g, k, none⟩ = false ∧ w.cell? ⟨g, k, none⟩ = some cs[k] ∧ Own E sz lo hi (w.setCell ⟨g, k, none⟩ u) (.slice A n c) n (cs.set k u) := by
  rcases h.cases with ⟨e, h0, hcs⟩ | ⟨g, cap, rest, e, h1, h2, hb, hl, hn, hm, hs⟩
  · subst hcs; simp at hk
  · simp only [Value.slice.injEq] at e
    obtain ⟨rfl, -, rfl⟩ := e
    refine ⟨g, rfl, h1, h2, hb.lt, hb.frozen k, ?_, ?_⟩
    · rw [hb.cell, List.getElem?_append_left hk, List.getElem?_eq_getElem hk]
    · have hb2 := hb.set_ k u
      rw [List.set_append_left _ _ hk] at hb2
      exact Own.mk' h1 h2 hb2 (by rw [List.length_set]; exact hl) hn hm (by rw [List.length_append, List.length_set, ← List.length_append]; exact hs)
theorem as_set (l : List DAS) (k : Nat) (hk : k < l.length) (z : Int) : (l.flatMap ASC).set (k * 3) (I z) = (l.set k { l[k] with isd := z }).flatMap ASC := by
  induction l generalizing k with
  | nil => simp at hk
  | cons x l ih =>
    rcases k with _ | k
    · rfl
    · have hk' : k < l.length := by simpa using hk
      have h := ih k hk'
      have e : (k + 1) * 3 = 3 + k * 3 := by omega
      rw [List.flatMap_cons, e]
      have e2 : (ASC x ++ l.flatMap ASC).set (3 + k * 3) (I z) = ASC x ++ (l.flatMap ASC).set (k * 3) (I z) := by
        rw [List.set_append_right _ _ (by rw [ASC.len]; omega), ASC.len, Nat.add_sub_cancel_left]
      rw [e2, h]
      simp only [List.getElem_cons_succ, List.set_cons_succ, List.flatMap_cons]
/-- The key that realm k is drawn with. -/
def KeyAt (k : Nat) (y : DAS) : Prop := ∃ x : Int, 0 ≤ x ∧ x < 1000000 ∧ y.key = 1 + x * 8 + k
theorem key_val (x : Int) (k : Nat) (h0 : 0 ≤ x) (h1 : x < 1000000) (hk : k ≤ 100) : IntKind.i64.wrap (IntKind.i64.wrap (1 + IntKind.i64.wrap (x * 8)) + (k : Int)) = 1 + x * 8 + k := by
  rw [IntWalk.i64_in (x * 8) (by omega), IntWalk.i64_in (1 + x * 8) (by omega), IntWalk.i64_in _ (by omega)]
def KeysOk (l : List DAS) : Prop := ∀ k (hk : k < l.length), KeyAt k l[k]
theorem KeysOk.snoc {l : List DAS} {y : DAS} (h : KeysOk l) (hy : KeyAt l.length y) : KeysOk (l ++ [y]) := by
  intro k hk
  rcases Nat.lt_or_ge k l.length with h1 | h1
  · rw [List.getElem_append_left h1]; exact h k h1
  · have h2 : k = l.length := by simp at hk; omega
    subst h2
    simpa using hy
theorem KeysOk.isd {l : List DAS} (h : KeysOk l) (b : Nat) (hb : b < l.length) (z : Int) : KeysOk (l.set b { l[b] with isd := z }) := by
  intro k hk
  have hk' : k < l.length := by simpa using hk
  rw [List.getElem_set]
  split
  · rename_i e; subst e; exact h b hb
  · exact h k hk'
/-- An AS of realm k, new. -/
def FreshAS (lo k : Nat) (v : Value) (W : World) : Prop := ∃ y : DAS, KeyAt k y ∧ Fresh1 80 lo (ASC y) v W
theorem FreshAS.d {lo k g : Nat} {v : Value} {W W' : World} (h : FreshAS lo k v W) (hd : D g W W') (hg : g < lo) : FreshAS lo k v W' := by
  obtain ⟨y, hy, hf⟩ := h
  exact ⟨y, hy, hf.d hd hg⟩
/-- What l5Draw hands back. -/
def DrawnTopo (t : DTopology) : Prop := 1 ≤ t.ases.length ∧ t.ases.length ≤ 8 ∧ t.links.length ≤ 100 ∧ KeysOk t.ases
set_option maxRecDepth 100000 in
set_option maxHeartbeats 1000000 in
theorem spec_l5Draw (g : Nat) (w : World) (hc : Cur w g) : Calls Tryz.prog 15 #[.pointer (some ⟨g, 0, none⟩)] w fun e w' => ∃ v', e = .returned v' ∧ (∃ t, TopologyO w.heap.size w'.heap.size w' v' t ∧ DrawnTopo t) ∧ D g w w' := by
  have HC := Lib.hid hc
  have hgw := hc.lt
  clear hc
  go_enter Tryz.func15, Tryz.ntmps15
  go_wp2_with fail
  refine name_calls (fun W => ∃ wa, D g w wa ∧ wa.heap.size = w.heap.size + 1 ∧ Blk wa w.heap.size 27 [.slice none 0 0, .slice none 0 0] ∧ D g wa W ∧ W.heap.size = w.heap.size + 1 + 1 ∧ Blk W (w.heap.size + 1) 27 [.slice none 0 0, .slice none 0 0]) ⟨_, D.alloc (D.refl _ _) hgw _, by simp only [World.size_alloc], xb, D.alloc (D.refl _ _) (by simp only [World.size_alloc]; omega) _, by simp only [World.size_alloc], xb⟩ ?_
  rintro w0 ⟨wa, da, za, br, d0, z0, bt⟩
  have BR := Lib.hid br; clear br
  have HCA := Lib.hid (da.cur HC.out)
  have hga : g < wa.heap.size := by omega
  have T0 : Hid (Topo w0.heap.size w0 (w.heap.size + 1) ⟨[], []⟩) := ⟨none, 0, none, 0, bt, Own.nil _ _ _ _ _, Own.nil _ _ _ _ _, Nat.le_refl _⟩
  clear bt
  refine (spec_l1Below g 3 w0 (d0.cur HCA.out) (by omega)).mono ?_
  rintro e w1 ⟨x1, rfl, ⟨x1a, x1b, -⟩, d1⟩
  have x1b := x1b (by omega)
  have z1 := d1.size
  obtain ⟨c1, rfl⟩ : ∃ c1 : Nat, x1 = (c1 : Int) := ⟨x1.toNat, by omega⟩
  go_wp2_with fail
  refine (spec_l1Below g 6 w1 (d1.cur (d0.cur HCA.out)) (by omega)).mono ?_
  rintro e w2 ⟨x2, rfl, ⟨x2a, x2b, -⟩, d2⟩
  have x2b := x2b (by omega)
  have z2 := d2.size
  obtain ⟨c2, rfl⟩ : ∃ c2 : Nat, x2 = (c2 : Int) := ⟨x2.toNat, by omega⟩
  go_wp2_with fail
  have hne : w.heap.size + 1 ≠ g := by omega
  have dw2 : D g wa w2 := D.trans (D.trans d0 d1) d2
  go_loopw [6] (fun i wr => ∃ (k : Nat) (t : DTopology), k ≤ c1 + 1 + c2 ∧ i = I k ∧ Topo w0.heap.size wr (w.heap.size + 1) t ∧ t.ases.length = k ∧ t.links.length = 0 ∧ KeysOk t.ases ∧ D g wa wr) (fun i _ => c1 + 1 + c2 - (intOf i).toNat)
  case atStart => exact ⟨0, ⟨[], []⟩, by omega, rfl, T0.out.d (D.trans d1 d2) (by omega) hne, rfl, rfl, fun k hk => by simp at hk, dw2⟩
  case round =>
    obtain ⟨k, t, hk, rfl, ht, hta, htl, hko, hd⟩ := hrel
    have HKO := Lib.hid hko; clear hko
    subst hta
    have zr := hd.size
    by_cases hlt : t.ases.length < c1 + 1 + c2
    · have i1 : (t.ases.length : Int) < 1 + (c1 : Int) + (c2 : Int) := by omega
      obtain ⟨A0, q0, A1, q1, hb, h0, h1, hl⟩ := ht
      have HB := Lib.hid hb; have H0 := Lib.hid h0; have H1 := Lib.hid h1; clear hb h0 h1
      have hgr : g < wr.heap.size := by omega
      have hcur := hd.cur HCA.out
      have HCUR := Lib.hid hcur; clear hcur
      have b0 := HB.out.ext (w' := wr) xe
      have lb0 := b0.lt
      obtain ⟨qb0_0, qb0_1⟩ := blk2 b0
      have fb0_0 := b0.frozen 0
      have fb0_1 := b0.frozen 1
      clear b0
      go_wp2_with fail
      refine wp_region_LT 15 (E := D g) (w0 := wr) (G := fun τ => match τ with | 30 => some (fun v W => ∃ x : Int, v = I x ∧ 0 ≤ x ∧ x < 2) | 35 => some (fun v W => ∃ x : Int, v = I x ∧ 0 ≤ x ∧ x < 1000000) | 41 => some (fun v W => FreshAS wr.heap.size t.ases.length v W) | _ => none) (D.refl g) (fun h k => D.trans h k) (by kernel_rfl) (by kernel_rfl) (by kernel_rfl) (by kernel_rfl) (by kernel_rfl) (by kernel_rfl) (by intro t φ hG; split at hG; all_goals first | (cases hG; done) | (cases Option.some.inj hG; intro v W W' hE hv; first | exact hv | exact hv.d hE (by omega) | (obtain ⟨y, hy⟩ := hv; exact ⟨y, Fresh1.d hy hE (by omega)⟩))) (D.drew (by exact D.refl _ _)) ?_
      simp only [List.take_succ_cons, List.take_zero]
      repeat' (first
        | ((with_reducible refine wpL_skip ?_ ?_ ?_)
           · rfl
           · rfl
           simp only [Act.put, List.setIfInBounds_toArray, List.set_cons_zero, List.set_cons_succ])
        | ((with_reducible refine wpL_quiet ?_ ?_ ?_ ?_)
           · rfl
           · rfl
           · rfl
           apply Exists.intro
           refine ⟨fun W hW hS => ?_, ?_⟩
           · have hC := (D.facts hW).1
             go_simp
             first | done | (with_reducible rfl) | (rw [if_neg (by omega)]; exact ⟨rfl, rfl⟩) | rfl
           first | (with_reducible refine wpL_boolT ?_) | (with_reducible refine wpL_boolF ?_) | (with_reducible refine wpL_bool (fun hB => ?_) (fun hB => ?_)) | skip
           all_goals simp only [Act.put, List.setIfInBounds_toArray, List.set_cons_zero, List.set_cons_succ])
        | ((refine wpL_grow ?_ rfl rfl ?_ ?_)
           · rfl
           · intro W hW hS
             have hC := (D.facts hW).1
             unfold growAt
             go_simp
             simp only [growUpon]
             first | (go_at_call 18; (with_reducible refine Calls.mono (spec_l1Below g _ _ (hW.cur HCUR.out) (by omega)) ?_); rintro e w9 ⟨x, rfl, hx, d9⟩; exact ⟨_, rfl, d9, ⟨x, rfl, hx.1, hx.2.1 (by omega)⟩⟩) | (go_at_call 18; (with_reducible refine Calls.mono (spec_l1Below g _ _ (hW.cur HCUR.out) (by omega)) ?_); rintro e w9 ⟨x, rfl, hx, d9⟩; exact ⟨_, rfl, d9, ⟨x, rfl, hx.1, hx.2.1 (by omega)⟩⟩) | (refine ⟨D.of_ext ((Ext.refl _).alloc _) (by have h5 := D.size hW; omega), ⟨⟨_, _, _⟩, ?_, Fresh1.new _ _ _ _ _ rfl (D.size hW)⟩⟩; exact ⟨x30, x30a, x30b, key_val _ _ x30a x30b (by omega)⟩)
           intro v W' hW' hv
           first | (obtain ⟨x30, rfl, x30a, x30b⟩ := hv) | (obtain ⟨x35, rfl, x35a, x35b⟩ := hv) | (obtain ⟨y41, -, g41, rfl, hg41, hb41⟩ := hv) | (obtain ⟨A5, n5, c5, rfl, -⟩ := id hv; clear hv) | (obtain ⟨A5, n5, c5, rfl⟩ := NO.slice hv) | skip
           all_goals simp only [Act.put, List.setIfInBounds_toArray, List.set_cons_zero, List.set_cons_succ]))
      all_goals
        refine wpL_nil (fun w5 e5 hL => ?_)
        obtain ⟨y5, hy5, g5, hv5, hg5, hb5⟩ : FreshAS wr.heap.size t.ases.length _ w5 := hL 41
        cases hv5
        clear hL lb0 qb0_0 qb0_1 fb0_0 fb0_1
        have z5 := e5.size
        have HB5 := Lib.hid (HB.out.d e5 hne)
        have H05 := Lib.hid (H0.out.dUp e5 (by omega))
        have H15 := Lib.hid (H1.out.dUp e5 (by omega))
        simp only [List.drop_succ_cons, List.drop_zero]
        go_wp2_with (at_builtin; refine hold ?_)
        refine unhold (wpList_appL w0.heap.size rfl (.tmp 28) (.tmp 41) _ rfl 80 _ 3 24 Tryz.underlying24 info_AS rfl (by omega) (.slice A0 t.ases.length q0) t.ases.length (t.ases.flatMap ASC) rfl _ 1 1 (ASC y5) rfl H05.out (row_blk hb5 rfl) (fun u hu => one_AS [y5] u (by simpa using hu)) (by omega) (by unfold maxLen; omega) (by omega) ?_)
        intro v8 w8 o8 hg8
        obtain ⟨a8, m8, q8, hv8⟩ := o8.slice
        subst hv8
        obtain ⟨hm8, -⟩ := NO.row o8
        subst hm8
        have B8 := Lib.hid (Blk.grown HB5.out hg8 (off_type H05.out HB5.out (by decide)))
        have L8 := Lib.hid ((other_type H15.out H05.out (by decide) hg8).lt_size)
        have z8 := hg8.size
        have dd : D g wa w8 := D.grown (D.trans hd e5) hga hg8 (fun j hj => by have := (H05.out.1.lt j hj).1; omega)
        have o9 : Own 80 3 w0.heap.size w8.heap.size w8 (.slice a8 (t.ases.length + 1) q8) (t.ases.length + 1) ((t.ases ++ [y5]).flatMap ASC) := by rw [List.flatMap_append]; simpa using o8
        have O8 := Lib.hid o9; clear o8 o9 hg8
        have b8 := B8.out.ext (w' := w8) xe
        have lb8 := b8.lt
        obtain ⟨qb8_0, qb8_1⟩ := blk2 b8
        have fb8_0 := b8.frozen 0
        have fb8_1 := b8.frozen 1
        clear b8
        go_wp2_with (at_builtin; refine hold ?_)
        go_roundw
        case rel =>
          refine ⟨t.ases.length + 1, ⟨t.ases ++ [y5], t.links⟩, by omega, by go_num, ⟨a8, q8, A1, q1, ?_, ?_, ?_, ?_⟩, by simp, htl, HKO.out.snoc hy5, D.setNew dd hga (by dsimp only; omega) _⟩
          · simpa using B8.out.set_ 0 (.slice a8 (t.ases.length + 1) q8)
          · simp only [World.size_setCell]
            have h9 := O8.out.setT B8.out (by decide) 0 (.slice a8 (t.ases.length + 1) q8)
            unfold ASSO
            rw [List.length_append, List.length_singleton]
            exact h9
          · simp only [World.size_setCell]
            exact L8.out.setT B8.out (by decide) _ _
          · simp only [World.size_setCell]; omega
        case measure => simp [intOf]; omega
    · have hk2 : t.ases.length = c1 + 1 + c2 := by omega
      have i1 : ¬ (t.ases.length : Int) < 1 + (c1 : Int) + (c2 : Int) := by omega
      go_wp2_with fail
      go_loopw [7] (fun i wr => ∃ (b : Nat) (t : DTopology), 1 ≤ b ∧ b ≤ c1 + 1 ∧ i = I b ∧ Topo w0.heap.size wr (w.heap.size + 1) t ∧ (t.ases.length = c1 + 1 + c2 ∧ KeysOk t.ases) ∧ t.links.length ≤ 2 * b ∧ D g wa wr) (fun i _ => c1 + 1 - (intOf i).toNat)
      case atStart => exact ⟨1, t, by omega, by omega, rfl, ht, ⟨hk2, HKO.out⟩, by omega, hd⟩
      case round =>
        clear i1 hk2 hk hlt ht htl
        obtain ⟨b, t2, hb1, hb2, rfl, ht2, hta2, htl2, hd2⟩ := hrel
        have zr2 := hd2.size
        have dz2 := d2.size
        by_cases hlt2 : b < c1 + 1
        · have i1 : (b : Int) < 1 + (c1 : Int) := by omega
          go_wp2_with fail
          refine (spec_l1Below g (b : Int) _ (hd2.cur HCA.out) (by omega)).mono ?_
          rintro e w3 ⟨x3, rfl, -, d3⟩
          go_wp2_with fail
          refine (spec_l5Add (w.heap.size + 1) x3 b 1 w0.heap.size t2 _ (ht2.d d3 (by omega) hne) (by omega)).mono ?_
          rintro e w4 ⟨rfl, ⟨t4, ht4, hta4, htl4⟩, hf4⟩
          have d4 : D g wa w4 := hf4 g wa (D.trans hd2 d3) hga (by omega) (by omega)
          go_wp2_with fail
          refine (spec_l1Once g 2 _ (d4.cur HCA.out) (by omega)).mono ?_
          rintro e w5 ⟨y5, rfl, d5⟩
          have ht5 := ht4.d d5 (by omega) hne
          cases y5
          · go_wp2_with fail
            go_roundw
            case rel => exact ⟨b + 1, t4, by omega, by omega, by go_num, ht5, by rw [hta4]; exact hta2, by omega, D.trans d4 d5⟩
            case measure => simp [intOf]; omega
          · go_wp2_with fail
            refine (spec_l1Below g (b : Int) _ ((D.trans d4 d5).cur HCA.out) (by omega)).mono ?_
            rintro e w6 ⟨x6, rfl, -, d6⟩
            go_wp2_with fail
            refine (spec_l5Add (w.heap.size + 1) x6 b 1 w0.heap.size t4 _ (ht5.d d6 (by omega) hne) (by omega)).mono ?_
            rintro e w7 ⟨rfl, ⟨t7, ht7, hta7, htl7⟩, hf7⟩
            have d7 : D g wa w7 := hf7 g wa (D.trans (D.trans d4 d5) d6) hga (by omega) (by omega)
            go_wp2_with fail
            go_roundw
            case rel => exact ⟨b + 1, t7, by omega, by omega, by go_num, ht7, by rw [hta7, hta4]; exact hta2, by omega, d7⟩
            case measure => simp [intOf]; omega
        · have hb3 : b = c1 + 1 := by omega
          subst hb3
          have i1 : ¬ ((c1 + 1 : Nat) : Int) < 1 + (c1 : Int) := by omega
          go_wp2_with fail
          go_loopw [8] (fun i wr => ∃ (b : Nat) (t : DTopology), c1 + 1 ≤ b ∧ b ≤ c1 + 1 + c2 ∧ i = I b ∧ Topo w0.heap.size wr (w.heap.size + 1) t ∧ (t.ases.length = c1 + 1 + c2 ∧ KeysOk t.ases) ∧ t.links.length ≤ 20 + 3 * b ∧ D g wa wr) (fun i _ => c1 + 1 + c2 - (intOf i).toNat)
          case atStart => exact ⟨c1 + 1, t2, by omega, by omega, by go_num, ht2, hta2, by omega, hd2⟩
          case round =>
            clear i1 hta2 hlt2 ht2 htl2
            obtain ⟨b, t3, hb3, hb4, rfl, ht3, hta3, htl3, hd3⟩ := hrel
            have zr3 := hd3.size
            have HTA3 := Lib.hid hta3
            obtain ⟨A0, q0, A1, q1, hb, h0, h1, hl⟩ := id ht3
            have HB := Lib.hid hb; have H0 := Lib.hid h0; have H1 := Lib.hid h1; clear hb h0 h1
            by_cases hlt3 : b < c1 + 1 + c2
            · have i1 : (b : Int) < (t3.ases.length : Int) := by omega
              clear hta3
              have b0 := HB.out.ext (w' := wr) xe
              have lb0 := b0.lt
              obtain ⟨qb0_0, qb0_1⟩ := blk2 b0
              have fb0_0 := b0.frozen 0
              have fb0_1 := b0.frozen 1
              clear b0
              go_wp2_with fail
              clear lb0 qb0_0 qb0_1 fb0_0 fb0_1 HB H0 H1
              refine (spec_l1Below g 2 _ (hd3.cur HCA.out) (by omega)).mono ?_
              rintro e w4 ⟨x4, rfl, ⟨x4a, x4b, -⟩, d4⟩
              have x4b := x4b (by omega)
              obtain ⟨c4, rfl⟩ : ∃ c4 : Nat, x4 = (c4 : Int) := ⟨x4.toNat, by omega⟩
              have z4 := d4.size
              go_wp2_with fail
              go_loopw [9] (fun i wr => ∃ (kk : Nat) (t : DTopology), kk ≤ 2 ∧ i = I kk ∧ Topo w0.heap.size wr (w.heap.size + 1) t ∧ (t.ases.length = c1 + 1 + c2 ∧ KeysOk t.ases) ∧ t.links.length + kk ≤ 22 + 3 * b ∧ D g wa wr) (fun i _ => (intOf i).toNat)
              case atStart => exact ⟨c4 + 1, t3, by omega, by go_num, ht3.d d4 (by omega) hne, HTA3.out, by omega, D.trans hd3 d4⟩
              case round =>
                clear ht3 HTA3 htl3 i1
                obtain ⟨kk, t5, hk5, rfl, ht5, hta5, htl5, hd5⟩ := hrel
                have zr5 := hd5.size
                have HTA5 := Lib.hid hta5
                by_cases hk0 : 0 < kk
                · obtain ⟨km, rfl⟩ : ∃ km : Nat, kk = km + 1 := ⟨kk - 1, by omega⟩
                  have i2 : (0 : Int) < ((km + 1 : Nat) : Int) := by omega
                  clear hta5
                  go_wp2_with fail
                  clear i2
                  refine (spec_l1Below g (b : Int) _ (hd5.cur HCA.out) (by omega)).mono ?_
                  rintro e w6 ⟨x6, rfl, ⟨x6a, x6b, -⟩, d6⟩
                  have x6b := x6b (by omega)
                  obtain ⟨a, rfl⟩ : ∃ a : Nat, x6 = (a : Int) := ⟨x6.toNat, by omega⟩
                  have z6 := d6.size
                  go_wp2_with fail
                  refine (spec_l1Once g 5 _ ((D.trans hd5 d6).cur HCA.out) (by omega)).mono ?_
                  rintro e w7 ⟨y7, rfl, d7⟩
                  have ht7 := (ht5.d d6 (by omega) hne).d d7 (by omega) hne
                  have hd7 : D g wa w7 := D.trans (D.trans hd5 d6) d7
                  have z7 := d7.size
                  clear ht5
                  cases y7
                  · obtain ⟨A0, q0, A1, q1, hb, h0, h1, hl⟩ := ht7
                    have hal : a < t5.ases.length := by rw [HTA5.out.1]; omega
                    have hbl : b < t5.ases.length := by rw [HTA5.out.1]; omega
                    obtain ⟨bk, off, hA, hbk, hka, hca, -, -⟩ := (ASSO_rd h0).at_ hal
                    have hfl : (t5.ases.flatMap ASC).length = t5.ases.length * 3 := flat_len ASC 3 ASC.len t5.ases
                    obtain ⟨gA, hgA, hg1, hg2, hg3, hfr, hcb, -⟩ := Own.cellAt h0 (b * 3) (by rw [hfl]; omega) (I 0)
                    rw [hgA] at hA
                    cases hA
                    subst hgA
                    have hca : w7.cell? ⟨bk, a * 3, none⟩ = some (I t5.ases[a].isd) := by simpa only [Nat.zero_add] using hca
                    have HB := Lib.hid hb; have H0 := Lib.hid h0; have H1 := Lib.hid h1; clear hb h0 h1
                    have a0 : (0 : Int) ≤ (a : Int) := by omega
                    have a1 : (a : Int) < (t5.ases.length : Int) := by omega
                    have b0 : (0 : Int) ≤ (b : Int) := by omega
                    have b1 : (b : Int) < (t5.ases.length : Int) := by omega
                    generalize hz : t5.ases[a].isd = z at *
                    clear hz
                    have b0 := HB.out.ext (w' := w7) xe
                    have lb0 := b0.lt
                    obtain ⟨qb0_0, qb0_1⟩ := blk2 b0
                    have fb0_0 := b0.frozen 0
                    have fb0_1 := b0.frozen 1
                    clear b0
                    go_wp2_with fail
                    refine wp_region_LT 11 (E := Ext) (w0 := w7) (G := fun τ => match τ with | 0 => none | _ => none) Ext.refl (fun h k => Ext.trans h k) (by kernel_rfl) (by kernel_rfl) (by kernel_rfl) (by kernel_rfl) (by kernel_rfl) (by kernel_rfl) xg (Ext.drew (by exact Ext.refl _)) ?_
                    simp only [List.take_succ_cons, List.take_zero]
                    repeat' (first
                      | ((with_reducible refine wpL_skip ?_ ?_ ?_)
                         · rfl
                         · rfl
                         simp only [Act.put, List.setIfInBounds_toArray, List.set_cons_zero, List.set_cons_succ])
                      | ((with_reducible refine wpL_quiet ?_ ?_ ?_ ?_)
                         · rfl
                         · rfl
                         · rfl
                         apply Exists.intro
                         refine ⟨fun W hW hS => ?_, ?_⟩
                         · have hC := (Ext.facts hW).1
                           go_simp
                           first | done | (with_reducible rfl) | (rw [if_neg (by omega)]; exact ⟨rfl, rfl⟩) | rfl
                         first | (with_reducible refine wpL_boolT ?_) | (with_reducible refine wpL_boolF ?_) | (with_reducible refine wpL_bool (fun hB => ?_) (fun hB => ?_)) | skip
                         all_goals simp only [Act.put, List.setIfInBounds_toArray, List.set_cons_zero, List.set_cons_succ]))
                    refine wpL_nil (fun w8 e8 hL => ?_)
                    clear hL lb0 qb0_0 qb0_1 fb0_0 fb0_1
                    have z8 := e8.size
                    obtain ⟨gA', hgA', -, -, hg3', hfr', hcb', hset⟩ := Own.cellAt (H0.out.ext e8 (Nat.le_refl _)) (b * 3) (by rw [hfl]; omega) (I z)
                    cases hgA'
                    have HSET := Lib.hid hset; clear hset hfr hcb hca
                    have hb8 := HB.out.ext e8
                    have hneg : bk ≠ w.heap.size + 1 := fun e => by
                      have := off_type (H0.out.ext e8 (Nat.le_refl _)) hb8 (by decide)
                      exact this (by rw [← e]; rfl)
                    have HB8 := Lib.hid (Blk.far hb8 (p := ⟨bk, b * 3, none⟩) (fun e => hneg e.symm) (I z))
                    have H18 : Hid (LinkSO w0.heap.size (w8.setCell ⟨bk, b * 3, none⟩ (I z)).heap.size (w8.setCell ⟨bk, b * 3, none⟩ (I z)) (.slice A1 t5.links.length q1) t5.links) := by
                      unfold Hid
                      simp only [World.size_setCell]
                      obtain ⟨cs9, hblk9⟩ : ∃ cs9, Blk w8 bk 80 cs9 := by
                        rcases (H0.out.ext e8 (Nat.le_refl _)).cases with ⟨e, -⟩ | ⟨gq, cap, rest, e, -, -, hbb, -⟩
                        · cases e
                        · cases e; exact ⟨_, hbb⟩
                      exact ((H1.out.ext e8 (Nat.le_refl _)).lt_size).setT hblk9 (by decide) _ _
                    clear hb8
                    simp only [List.drop_succ_cons, List.drop_zero]
                    go_wp2_with (at_builtin; refine hold ?_)
                    refine name_wp (fun W => (∃ t', Topo w0.heap.size W (w.heap.size + 1) t' ∧ (t'.ases.length = c1 + 1 + c2 ∧ KeysOk t'.ases) ∧ t'.links.length = t5.links.length) ∧ D g wa W) ⟨⟨⟨t5.ases.set b { t5.ases[b] with isd := z }, t5.links⟩, ⟨some ⟨bk, 0, none⟩, q0, A1, q1, by simpa using HB8.out, ?_, H18.out, by simp only [World.size_setCell]; omega⟩, ⟨by simp [HTA5.out.1], HTA5.out.2.isd b hbl z⟩, rfl⟩, D.setNew (D.trans hd7 (D.of_ext e8 (by omega))) hga (by dsimp only; omega) _⟩ ?_
                    · have h9 := HSET.out
                      rw [as_set t5.ases b hbl z] at h9
                      unfold ASSO
                      rw [List.length_set]
                      simp only [World.size_setCell]
                      have h10 := h9.lt_size
                      simp only [World.size_setCell] at h10
                      exact h10
                    clear HB8 HSET H18 HB H0 H1 hfr' hcb'
                    rintro w9 ⟨⟨t9, ht9, hta9, htl9⟩, hd9⟩
                    have z9 := hd9.size
                    have HTA9 := Lib.hid hta9
                    obtain ⟨A0, q0, A1, q1, hb, h0, h1, hl⟩ := id ht9
                    have hal : a < t9.ases.length := by omega
                    have hbl : b < t9.ases.length := by omega
                    obtain ⟨bk, off, hA, hbk, hka, hca, -, -⟩ := (ASSO_rd h0).at_ hal
                    subst hA
                    obtain ⟨bk2, off2, hA2, hbk2, hkb, hcb, -, -⟩ := (ASSO_rd h0).at_ hbl
                    cases hA2
                    have a0 : (0 : Int) ≤ (a : Int) := by omega
                    have a1 : (a : Int) < (t9.ases.length : Int) := by omega
                    have b0 : (0 : Int) ≤ (b : Int) := by omega
                    have b1 : (b : Int) < (t9.ases.length : Int) := by omega
                    clear hta9
                    have HB := Lib.hid hb; clear hb h0 h1
                    generalize t9.ases[a].isd = za at *
                    generalize t9.ases[b].isd = zb at *
                    have b0 := HB.out.ext (w' := w9) xe
                    have lb0 := b0.lt
                    obtain ⟨qb0_0, qb0_1⟩ := blk2 b0
                    have fb0_0 := b0.frozen 0
                    have fb0_1 := b0.frozen 1
                    clear b0
                    by_cases he : za = zb
                    · have dq : (za == zb) = true := beq_iff_eq.2 he
                      clear he
                      refine wp_region_L (E := Ext) (w0 := w9) (G := fun τ => match τ with | 0 => none | _ => none) Ext.refl (fun h k => Ext.trans h k) (by kernel_rfl) (by kernel_rfl) xg (Ext.drew (by exact Ext.refl _)) ?_
                      repeat' (first
                        | ((with_reducible refine wpL_skip ?_ ?_ ?_)
                           · rfl
                           · rfl
                           simp only [Act.put, List.setIfInBounds_toArray, List.set_cons_zero, List.set_cons_succ])
                        | ((with_reducible refine wpL_quiet ?_ ?_ ?_ ?_)
                           · rfl
                           · rfl
                           · rfl
                           apply Exists.intro
                           refine ⟨fun W hW hS => ?_, ?_⟩
                           · have hC := (Ext.facts hW).1
                             go_simp
                             first | done | (with_reducible rfl) | (rw [if_neg (by omega)]; exact ⟨rfl, rfl⟩) | rfl
                           first | (with_reducible refine wpL_boolT ?_) | (with_reducible refine wpL_boolF ?_) | (with_reducible refine wpL_bool (fun hB => ?_) (fun hB => ?_)) | skip
                           all_goals simp only [Act.put, List.setIfInBounds_toArray, List.set_cons_zero, List.set_cons_succ]))
                      refine wpL_nil (fun w10 e10 hL => ?_)
                      clear hL lb0 qb0_0 qb0_1 fb0_0 fb0_1 hca hcb dq a0 a1 b0 b1
                      have d10 : D g wa w10 := D.trans hd9 (D.of_ext e10 (by omega))
                      go_wp2_with fail
                      refine (spec_l5Add (w.heap.size + 1) a b 2 w0.heap.size t9 _ (ht9.ext e10) (by omega)).mono ?_
                      rintro e w11 ⟨rfl, ⟨t11, ht11, hta11, htl11⟩, hf11⟩
                      have d11 : D g wa w11 := hf11 g wa d10 hga (by omega) (by omega)
                      go_wp2_with fail
                      go_roundw
                      case rel => exact ⟨km, t11, by omega, by go_num, ht11, by rw [hta11]; exact HTA9.out, by omega, d11⟩
                      case measure => first | (simp [intOf]; done) | (simp [intOf]; omega)
                    · have dq : (za == zb) = false := beq_eq_false_iff_ne.2 he
                      clear he
                      refine wp_region_L (E := Ext) (w0 := w9) (G := fun τ => match τ with | 0 => none | _ => none) Ext.refl (fun h k => Ext.trans h k) (by kernel_rfl) (by kernel_rfl) xg (Ext.drew (by exact Ext.refl _)) ?_
                      repeat' (first
                        | ((with_reducible refine wpL_skip ?_ ?_ ?_)
                           · rfl
                           · rfl
                           simp only [Act.put, List.setIfInBounds_toArray, List.set_cons_zero, List.set_cons_succ])
                        | ((with_reducible refine wpL_quiet ?_ ?_ ?_ ?_)
                           · rfl
                           · rfl
                           · rfl
                           apply Exists.intro
                           refine ⟨fun W hW hS => ?_, ?_⟩
                           · have hC := (Ext.facts hW).1
                             go_simp
                             first | done | (with_reducible rfl) | (rw [if_neg (by omega)]; exact ⟨rfl, rfl⟩) | rfl
                           first | (with_reducible refine wpL_boolT ?_) | (with_reducible refine wpL_boolF ?_) | (with_reducible refine wpL_bool (fun hB => ?_) (fun hB => ?_)) | skip
                           all_goals simp only [Act.put, List.setIfInBounds_toArray, List.set_cons_zero, List.set_cons_succ]))
                      refine wpL_nil (fun w10 e10 hL => ?_)
                      clear hL lb0 qb0_0 qb0_1 fb0_0 fb0_1 hca hcb dq a0 a1 b0 b1
                      have d10 : D g wa w10 := D.trans hd9 (D.of_ext e10 (by omega))
                      go_wp2_with fail
                      go_roundw
                      case rel => exact ⟨km, t9, by omega, by go_num, ht9.ext e10, HTA9.out, by omega, d10⟩
                      case measure => first | (simp [intOf]; done) | (simp [intOf]; omega)
                  · go_wp2_with fail
                    refine name_wp (fun W => (∃ t', Topo w0.heap.size W (w.heap.size + 1) t' ∧ (t'.ases.length = c1 + 1 + c2 ∧ KeysOk t'.ases) ∧ t'.links.length = t5.links.length) ∧ D g wa W) ⟨⟨t5, ht7, HTA5.out, rfl⟩, hd7⟩ ?_
                    rintro w9 ⟨⟨t9, ht9, hta9, htl9⟩, hd9⟩
                    have z9 := hd9.size
                    have HTA9 := Lib.hid hta9
                    obtain ⟨A0, q0, A1, q1, hb, h0, h1, hl⟩ := id ht9
                    have hal : a < t9.ases.length := by omega
                    have hbl : b < t9.ases.length := by omega
                    obtain ⟨bk, off, hA, hbk, hka, hca, -, -⟩ := (ASSO_rd h0).at_ hal
                    subst hA
                    obtain ⟨bk2, off2, hA2, hbk2, hkb, hcb, -, -⟩ := (ASSO_rd h0).at_ hbl
                    cases hA2
                    have a0 : (0 : Int) ≤ (a : Int) := by omega
                    have a1 : (a : Int) < (t9.ases.length : Int) := by omega
                    have b0 : (0 : Int) ≤ (b : Int) := by omega
                    have b1 : (b : Int) < (t9.ases.length : Int) := by omega
                    clear hta9
                    have HB := Lib.hid hb; clear hb h0 h1
                    generalize t9.ases[a].isd = za at *
                    generalize t9.ases[b].isd = zb at *
                    have b0 := HB.out.ext (w' := w9) xe
                    have lb0 := b0.lt
                    obtain ⟨qb0_0, qb0_1⟩ := blk2 b0
                    have fb0_0 := b0.frozen 0
                    have fb0_1 := b0.frozen 1
                    clear b0
                    by_cases he : za = zb
                    · have dq : (za == zb) = true := beq_iff_eq.2 he
                      clear he
                      refine wp_region_L (E := Ext) (w0 := w9) (G := fun τ => match τ with | 0 => none | _ => none) Ext.refl (fun h k => Ext.trans h k) (by kernel_rfl) (by kernel_rfl) xg (Ext.drew (by exact Ext.refl _)) ?_
                      repeat' (first
                        | ((with_reducible refine wpL_skip ?_ ?_ ?_)
                           · rfl
                           · rfl
                           simp only [Act.put, List.setIfInBounds_toArray, List.set_cons_zero, List.set_cons_succ])
                        | ((with_reducible refine wpL_quiet ?_ ?_ ?_ ?_)
                           · rfl
                           · rfl
                           · rfl
                           apply Exists.intro
                           refine ⟨fun W hW hS => ?_, ?_⟩
                           · have hC := (Ext.facts hW).1
                             go_simp
                             first | done | (with_reducible rfl) | (rw [if_neg (by omega)]; exact ⟨rfl, rfl⟩) | rfl
                           first | (with_reducible refine wpL_boolT ?_) | (with_reducible refine wpL_boolF ?_) | (with_reducible refine wpL_bool (fun hB => ?_) (fun hB => ?_)) | skip
                           all_goals simp only [Act.put, List.setIfInBounds_toArray, List.set_cons_zero, List.set_cons_succ]))
                      refine wpL_nil (fun w10 e10 hL => ?_)
                      clear hL lb0 qb0_0 qb0_1 fb0_0 fb0_1 hca hcb dq a0 a1 b0 b1
                      have d10 : D g wa w10 := D.trans hd9 (D.of_ext e10 (by omega))
                      go_wp2_with fail
                      refine (spec_l5Add (w.heap.size + 1) a b 2 w0.heap.size t9 _ (ht9.ext e10) (by omega)).mono ?_
                      rintro e w11 ⟨rfl, ⟨t11, ht11, hta11, htl11⟩, hf11⟩
                      have d11 : D g wa w11 := hf11 g wa d10 hga (by omega) (by omega)
                      go_wp2_with fail
                      go_roundw
                      case rel => exact ⟨km, t11, by omega, by go_num, ht11, by rw [hta11]; exact HTA9.out, by omega, d11⟩
                      case measure => first | (simp [intOf]; done) | (simp [intOf]; omega)
                    · have dq : (za == zb) = false := beq_eq_false_iff_ne.2 he
                      clear he
                      refine wp_region_L (E := Ext) (w0 := w9) (G := fun τ => match τ with | 0 => none | _ => none) Ext.refl (fun h k => Ext.trans h k) (by kernel_rfl) (by kernel_rfl) xg (Ext.drew (by exact Ext.refl _)) ?_
                      repeat' (first
                        | ((with_reducible refine wpL_skip ?_ ?_ ?_)
                           · rfl
                           · rfl
                           simp only [Act.put, List.setIfInBounds_toArray, List.set_cons_zero, List.set_cons_succ])
                        | ((with_reducible refine wpL_quiet ?_ ?_ ?_ ?_)
                           · rfl
                           · rfl
                           · rfl
                           apply Exists.intro
                           refine ⟨fun W hW hS => ?_, ?_⟩
                           · have hC := (Ext.facts hW).1
                             go_simp
                             first | done | (with_reducible rfl) | (rw [if_neg (by omega)]; exact ⟨rfl, rfl⟩) | rfl
                           first | (with_reducible refine wpL_boolT ?_) | (with_reducible refine wpL_boolF ?_) | (with_reducible refine wpL_bool (fun hB => ?_) (fun hB => ?_)) | skip
                           all_goals simp only [Act.put, List.setIfInBounds_toArray, List.set_cons_zero, List.set_cons_succ]))
                      refine wpL_nil (fun w10 e10 hL => ?_)
                      clear hL lb0 qb0_0 qb0_1 fb0_0 fb0_1 hca hcb dq a0 a1 b0 b1
                      have d10 : D g wa w10 := D.trans hd9 (D.of_ext e10 (by omega))
                      go_wp2_with fail
                      go_roundw
                      case rel => exact ⟨km, t9, by omega, by go_num, ht9.ext e10, HTA9.out, by omega, d10⟩
                      case measure => first | (simp [intOf]; done) | (simp [intOf]; omega)
                · obtain rfl : kk = 0 := by omega
                  have i2 : ¬ (0 : Int) < ((0 : Nat) : Int) := by omega
                  clear hta5
                  go_wp2_with fail
                  clear i2
                  refine (spec_l1Below g ((b : Int) - (1 + (c1 : Int)) + 1) _ (hd5.cur HCA.out) (by omega)).mono ?_
                  rintro e w6 ⟨x6, rfl, ⟨x6a, x6b, -⟩, d6⟩
                  have x6b := x6b (by omega)
                  have ht6 := ht5.d d6 (by omega) hne
                  have hd6 : D g wa w6 := D.trans hd5 d6
                  have z6 := d6.size
                  by_cases ha : 1 + (c1 : Int) + x6 < (b : Int)
                  · go_wp2_with fail
                    refine (spec_l1Once g 3 _ (hd6.cur HCA.out) (by omega)).mono ?_
                    rintro e w7 ⟨y7, rfl, d7⟩
                    have ht7 := ht6.d d7 (by omega) hne
                    have hd7 : D g wa w7 := D.trans hd6 d7
                    cases y7
                    · go_wp2_with fail
                      go_roundw
                      case rel => exact ⟨b + 1, t5, by omega, by omega, by go_num, ht7, HTA5.out, by omega, hd7⟩
                      case measure => first | (simp [intOf]; done) | (simp [intOf]; omega)
                    · go_wp2_with fail
                      refine (spec_l5Add (w.heap.size + 1) (1 + (c1 : Int) + x6) b 3 w0.heap.size t5 _ ht7 (by omega)).mono ?_
                      rintro e w11 ⟨rfl, ⟨t11, ht11, hta11, htl11⟩, hf11⟩
                      have d11 : D g wa w11 := hf11 g wa hd7 hga (by omega) (by omega)
                      go_wp2_with fail
                      go_roundw
                      case rel => exact ⟨b + 1, t11, by omega, by omega, by go_num, ht11, by rw [hta11]; exact HTA5.out, by omega, d11⟩
                      case measure => first | (simp [intOf]; done) | (simp [intOf]; omega)
                  · go_wp2_with fail
                    go_roundw
                    case rel => exact ⟨b + 1, t5, by omega, by omega, by go_num, ht6, HTA5.out, by omega, hd6⟩
                    case measure => first | (simp [intOf]; done) | (simp [intOf]; omega)
            · have hb5 : b = c1 + 1 + c2 := by omega
              subst hb5
              have i1 : ¬ ((c1 + 1 + c2 : Nat) : Int) < (t3.ases.length : Int) := by omega
              clear hta3
              obtain ⟨w3, hw3⟩ : ∃ w3, w3 = wr := ⟨_, rfl⟩
              subst hw3
              have hg3 : g < w3.heap.size := by omega
              have b0 := HB.out.ext (w' := w3) xe
              have lb0 := b0.lt
              obtain ⟨qb0_0, qb0_1⟩ := blk2 b0
              have fb0_0 := b0.frozen 0
              have fb0_1 := b0.frozen 1
              clear b0
              go_wp2_with fail
              clear lb0 qb0_0 qb0_1 fb0_0 fb0_1 i1
              refine name_wp (fun W => Ext w3 W ∧ LinkSO w3.heap.size W.heap.size W (.slice (some ⟨w3.heap.size, 0, none⟩) 0 0) []) ⟨xe, own_zero' _ _ _ _ _ rfl (Nat.le_refl _)⟩ ?_
              rintro w5 ⟨e5, hz⟩
              have HZ := Lib.hid hz; clear hz
              go_loopw [12, 13] (fun v i wr => ∃ (k : Nat) (l : List DLink), k ≤ t3.links.length ∧ i = I k ∧ LinkSO w3.heap.size wr.heap.size wr v l ∧ l.length ≤ k ∧ Ext w3 wr) (fun _ i _ => t3.links.length - (intOf i).toNat)
              case atStart => exact ⟨0, [], by omega, rfl, HZ.out, by simp, e5⟩
              case round =>
                obtain ⟨k, l, hk, rfl, hl5, hll, he⟩ := hrel
                obtain ⟨av, nv, cv, hvv⟩ := hl5.slice
                subst hvv
                obtain ⟨hnv, -⟩ := NO.row hl5
                subst hnv
                have HL5 := Lib.hid hl5; clear hl5
                have zr5 := he.size
                by_cases hlk : k < t3.links.length
                · obtain ⟨bk, off, hA, hbk, hkl, hc⟩ := (LinkSO_rd H1.out).at_ hlk
                  generalize t3.links[k] = u at *
                  subst hA
                  obtain ⟨hu_0, hu_1, hu_2, hu_3, hu_4⟩ := hc
                  have k0 : (0 : Int) ≤ (k : Int) := by omega
                  have k1 : (k : Int) < (t3.links.length : Int) := by omega
                  have hbr : bk < wr.heap.size := by omega
                  obtain ⟨ku_0, ku_1, ku_2, ku_3, ku_4⟩ := And.intro ((Ext.cell (a := w3) (b := wr) xe hbk).trans hu_0) (And.intro ((Ext.cell (a := w3) (b := wr) xe hbk).trans hu_1) (And.intro ((Ext.cell (a := w3) (b := wr) xe hbk).trans hu_2) (And.intro ((Ext.cell (a := w3) (b := wr) xe hbk).trans hu_3) ((Ext.cell (a := w3) (b := wr) xe hbk).trans hu_4))))
                  have HTV := Lib.hid (topoV H0.out H1.out)
                  have b0 := HB.out.ext (w' := wr) xe
                  have lb0 := b0.lt
                  obtain ⟨qb0_0, qb0_1⟩ := blk2 b0
                  have fb0_0 := b0.frozen 0
                  have fb0_1 := b0.frozen 1
                  clear b0
                  cases hok : linkOk t3 u
                  · have HOK := Lib.hid hok; clear hok
                    go_wp2_with fail
                    refine wp_region_L (E := Ext) (w0 := wr) (G := fun τ => match τ with | 141 => some (fun v W => v = .bool false) | _ => none) Ext.refl (fun h k => Ext.trans h k) (by kernel_rfl) (by kernel_rfl) xg (Ext.drew (by exact Ext.refl _)) ?_
                    repeat' (first
                      | ((with_reducible refine wpL_skip ?_ ?_ ?_)
                         · rfl
                         · rfl
                         simp only [Act.put, List.setIfInBounds_toArray, List.set_cons_zero, List.set_cons_succ])
                      | ((with_reducible refine wpL_quiet ?_ ?_ ?_ ?_)
                         · rfl
                         · rfl
                         · rfl
                         apply Exists.intro
                         refine ⟨fun W hW hS => ?_, ?_⟩
                         · have hC := (Ext.facts hW).1
                           go_simp
                           first | done | (with_reducible rfl) | (rw [if_neg (by omega)]; exact ⟨rfl, rfl⟩) | rfl
                         first | (with_reducible refine wpL_boolT ?_) | (with_reducible refine wpL_boolF ?_) | (with_reducible refine wpL_bool (fun hB => ?_) (fun hB => ?_)) | skip
                         all_goals simp only [Act.put, List.setIfInBounds_toArray, List.set_cons_zero, List.set_cons_succ])
                      | ((refine wpL_call ?_ rfl rfl ?_ ?_ ?_)
                         · rfl
                         · rfl
                         · intro W hW hS
                           have hC := (Ext.facts hW).1
                           unfold growAt
                           go_simp
                           simp only [growUpon]
                           first | (go_at_call 33; (with_reducible refine Calls.mono (spec_l5LinkOk _ u t3 _ (by exact HTV.out.ext xe)) ?_); rintro e w9 ⟨rfl, e9⟩; exact ⟨_, rfl, e9, by rw [HOK.out]⟩)
                         first | (with_reducible refine wpL_boolT ?_) | (with_reducible refine wpL_boolF ?_) | (with_reducible refine wpL_bool (fun hB => ?_) (fun hB => ?_)) | skip
                         all_goals simp only [Act.put, List.setIfInBounds_toArray, List.set_cons_zero, List.set_cons_succ])
                      | ((refine wpL_grow ?_ rfl rfl ?_ ?_)
                         · rfl
                         · intro W hW hS
                           have hC := (Ext.facts hW).1
                           unfold growAt
                           go_simp
                           simp only [growUpon]
                           first | (go_at_call 33; (with_reducible refine Calls.mono (spec_l5LinkOk _ u t3 _ (by exact HTV.out.ext xe)) ?_); rintro e w9 ⟨rfl, e9⟩; exact ⟨_, rfl, e9, by rw [HOK.out]⟩)
                         intro v W' hW' hv
                         first | (subst hv) | (obtain ⟨A5, n5, c5, rfl, -⟩ := id hv; clear hv) | (obtain ⟨A5, n5, c5, rfl⟩ := NO.slice hv) | skip
                         all_goals simp only [Act.put, List.setIfInBounds_toArray, List.set_cons_zero, List.set_cons_succ]))
                    refine wpL_nil (fun w6 e6 hL => ?_)
                    clear hL
                    go_wp2_with fail
                    go_roundw
                    case rel => exact ⟨k + 1, l, by omega, by go_num, Own.more (Own.ext HL5.out e6 (Nat.le_refl _)) (Nat.le_refl _) e6.size, by omega, xe⟩
                    case measure => first | (simp [intOf]; done) | (simp [intOf]; omega)
                  · have HOK := Lib.hid hok; clear hok
                    go_wp2_with fail
                    refine wp_region_L (E := Ext) (w0 := wr) (G := fun τ => match τ with | 141 => some (fun v W => v = .bool true) | _ => none) Ext.refl (fun h k => Ext.trans h k) (by kernel_rfl) (by kernel_rfl) xg (Ext.drew (by exact Ext.refl _)) ?_
                    repeat' (first
                      | ((with_reducible refine wpL_skip ?_ ?_ ?_)
                         · rfl
                         · rfl
                         simp only [Act.put, List.setIfInBounds_toArray, List.set_cons_zero, List.set_cons_succ])
                      | ((with_reducible refine wpL_quiet ?_ ?_ ?_ ?_)
                         · rfl
                         · rfl
                         · rfl
                         apply Exists.intro
                         refine ⟨fun W hW hS => ?_, ?_⟩
                         · have hC := (Ext.facts hW).1
                           go_simp
                           first | done | (with_reducible rfl) | (rw [if_neg (by omega)]; exact ⟨rfl, rfl⟩) | rfl
                         first | (with_reducible refine wpL_boolT ?_) | (with_reducible refine wpL_boolF ?_) | (with_reducible refine wpL_bool (fun hB => ?_) (fun hB => ?_)) | skip
                         all_goals simp only [Act.put, List.setIfInBounds_toArray, List.set_cons_zero, List.set_cons_succ])
                      | ((refine wpL_call ?_ rfl rfl ?_ ?_ ?_)
                         · rfl
                         · rfl
                         · intro W hW hS
                           have hC := (Ext.facts hW).1
                           unfold growAt
                           go_simp
                           simp only [growUpon]
                           first | (go_at_call 33; (with_reducible refine Calls.mono (spec_l5LinkOk _ u t3 _ (by exact HTV.out.ext xe)) ?_); rintro e w9 ⟨rfl, e9⟩; exact ⟨_, rfl, e9, by rw [HOK.out]⟩)
                         first | (with_reducible refine wpL_boolT ?_) | (with_reducible refine wpL_boolF ?_) | (with_reducible refine wpL_bool (fun hB => ?_) (fun hB => ?_)) | skip
                         all_goals simp only [Act.put, List.setIfInBounds_toArray, List.set_cons_zero, List.set_cons_succ])
                      | ((refine wpL_grow ?_ rfl rfl ?_ ?_)
                         · rfl
                         · intro W hW hS
                           have hC := (Ext.facts hW).1
                           unfold growAt
                           go_simp
                           simp only [growUpon]
                           first | (go_at_call 33; (with_reducible refine Calls.mono (spec_l5LinkOk _ u t3 _ (by exact HTV.out.ext xe)) ?_); rintro e w9 ⟨rfl, e9⟩; exact ⟨_, rfl, e9, by rw [HOK.out]⟩)
                         intro v W' hW' hv
                         first | (subst hv) | (obtain ⟨A5, n5, c5, rfl, -⟩ := id hv; clear hv) | (obtain ⟨A5, n5, c5, rfl⟩ := NO.slice hv) | skip
                         all_goals simp only [Act.put, List.setIfInBounds_toArray, List.set_cons_zero, List.set_cons_succ]))
                    refine wpL_nil (fun w6 e6 hL => ?_)
                    clear hL ku_0 ku_1 ku_2 ku_3 ku_4 lb0 qb0_0 qb0_1 fb0_0 fb0_1
                    have z6 := e6.size
                    obtain ⟨ku_0, ku_1, ku_2, ku_3, ku_4⟩ := And.intro ((Ext.cell (a := w3) (b := w6) xe hbk).trans hu_0) (And.intro ((Ext.cell (a := w3) (b := w6) xe hbk).trans hu_1) (And.intro ((Ext.cell (a := w3) (b := w6) xe hbk).trans hu_2) (And.intro ((Ext.cell (a := w3) (b := w6) xe hbk).trans hu_3) ((Ext.cell (a := w3) (b := w6) xe hbk).trans hu_4))))
                    have b0 := HB.out.ext (w' := w6) xe
                    have lb0 := b0.lt
                    obtain ⟨qb0_0, qb0_1⟩ := blk2 b0
                    have fb0_0 := b0.frozen 0
                    have fb0_1 := b0.frozen 1
                    clear b0
                    go_wp2_with (at_builtin; refine hold ?_)
                    refine unhold (wpList_appL w3.heap.size rfl (.tmp 142) (.tmp 148) _ rfl 86 _ 5 40 Tryz.underlying25 info_Link rfl (by omega) (.slice av l.length cv) l.length (l.flatMap LinkC) rfl _ 1 1 _ rfl (by exact (Own.ext HL5.out (w' := w6.alloc _) xe (Nat.le_refl _)).lt_size) (row_one _ _ _ _ _ (by first | rfl | simp) rfl) (one_Link [u]) (by simp only [World.size_alloc]; omega) (by unfold maxLen; omega) (by omega) ?_)
                    intro v8 w8 o8 hg8
                    have h57 := (Own.ext HL5.out (w' := w6.alloc (.cells #[I u.a, I u.ai, I u.b, I u.bi, I u.kind] 86)) xe (Nat.le_refl _))
                    have E8 := Lib.hid (Ext.grownB (a := w3) (w := w6.alloc (.cells #[I u.a, I u.ai, I u.b, I u.bi, I u.kind] 86)) xe h57 hg8 (Nat.le_refl _))
                    have o9 : LinkSO w3.heap.size w8.heap.size w8 v8 (l ++ [u]) := by
                      unfold LinkSO
                      rw [List.length_append, List.length_singleton, List.flatMap_append]
                      exact o8
                    have O9 := Lib.hid o9; clear o8 o9 hg8 h57
                    go_wp2_with (at_builtin; refine hold ?_)
                    go_roundw
                    case rel => exact ⟨k + 1, l ++ [u], by omega, by go_num, O9.out, by simp; omega, E8.out⟩
                    case measure => first | (simp [intOf]; done) | (simp [intOf]; omega)
                · obtain rfl : k = t3.links.length := by omega
                  have k1 : ¬ (t3.links.length : Int) < (t3.links.length : Int) := by omega
                  have BRr := Lib.hid ((BR.out.d hd3 (by omega)).ext he)
                  have b0 := HB.out.ext (w' := wr) xe
                  have lb0 := b0.lt
                  obtain ⟨qb0_0, qb0_1⟩ := blk2 b0
                  have fb0_0 := b0.frozen 0
                  have fb0_1 := b0.frozen 1
                  clear b0
                  have b9 := BRr.out.ext (w' := wr) xe
                  have lb9 := b9.lt
                  obtain ⟨qb9_0, qb9_1⟩ := blk2 b9
                  have fb9_0 := b9.frozen 0
                  have fb9_1 := b9.frozen 1
                  clear b9
                  go_wp2_with fail
                  refine bodyPost_ret (v := .agg #[.slice A0 t3.ases.length q0, .slice av l.length cv]) (by simp [results, Tryz.results15, go_sem, *]) rfl ⟨_, rfl, ⟨⟨t3.ases, l⟩, ⟨_, _, w3.heap.size, rfl, ?_, ?_, by omega, by simp only [World.size_setCell]; omega⟩, ?_⟩, ?_⟩
                  · exact Own.more (Own.setCell (Own.setCell (Own.setCell (Own.ext H0.out he (Nat.le_refl _)) (.inl (by dsimp only; omega)) _) (.inl (by dsimp only; omega)) _) (.inl (by dsimp only; omega)) _) (by omega) (Nat.le_refl _)
                  · simp only [World.size_setCell]
                    exact Own.setCell (Own.setCell (Own.setCell HL5.out (.inl (by dsimp only; omega)) _) (.inl (by dsimp only; omega)) _) (.inl (by dsimp only; omega)) _
                  · have h9 := HTA3.out
                    exact ⟨by dsimp only; omega, by dsimp only; omega, by dsimp only; omega, h9.2⟩
                  · exact D.setNew (D.setNew (D.setNew (D.trans da (D.trans hd3 (D.of_ext he hg3))) hgw (by dsimp only; omega) _) hgw (by dsimp only; omega) _) hgw (by dsimp only; omega) _
end Go.Proofs.YtkbiciiniagadaaGreat
