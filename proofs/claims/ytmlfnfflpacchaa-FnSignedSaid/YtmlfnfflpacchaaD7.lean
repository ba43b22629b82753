/- The contract of the reference's DrawRoots: a short chain over a small topology. The given slice holds bytes. -/
import Derived.Test.YtmlfnfflpacchaaD6
import Derived.Test.YtmlfnfflpacchaaL18g
namespace Go.Proofs.Ytmlfnfflpacchaa
open Go.RowKit
set_option linter.unusedVariables false
theorem Sl.takeR {α : Type} {At : Nat → World → Nat → Nat → α → Prop} {pos : Nat → Nat} {B : Nat} {w : World} {A : Option Addr} {n c k : Nat} {ds : List α} (h : Sl At pos B w (.slice A n c) ds) (hk : k ≤ n) : Sl At pos B w (.slice A k c) (ds.take k) := by
  obtain ⟨A', n', c', e, hl, hn, hc, hr⟩ := h
  cases e
  refine ⟨_, _, _, rfl, by rw [List.length_take, hl]; omega, by omega, hc, fun h0 => ?_⟩
  obtain ⟨b, off, e, hb, hat⟩ := hr (by omega)
  refine ⟨b, off, e, hb, fun j hj => ?_⟩
  rw [List.getElem_take]
  exact hat j (by rw [List.length_take] at hj; omega)
set_option maxRecDepth 100000 in
set_option maxHeartbeats 1000000 in
theorem spec_DrawRoots (vb : Value) (bs : List Nat) (w : World) (hb : ByteS w.heap.size w vb bs) (hn : bs.length ≤ 1048576) : Calls Try.prog 9 #[vb] w fun e w' => (∃ vt vl, e = .returned (.tuple #[vt, vl]) ∧ ∃ t l, TopologyV w'.heap.size w' vt t ∧ DrawnTopo t ∧ TrustRootS w'.heap.size w' vl l ∧ 0 < l.length ∧ l.length ≤ 5 ∧ (l.length = 1 ∨ validChain t l = true) ∧ ∀ x ∈ l, x.sigs.length ≤ 16 ∧ 0 ≤ x.version ∧ x.version ≤ 5) ∧ Ext w w' := by
  have HB := Lib.hid hb; clear hb
  go_enter Try.func9, Try.ntmps9
  go_wp2_with fail
  refine name_calls (fun W => Ext w W ∧ W.heap.size = w.heap.size + 1 ∧ Blk W w.heap.size 27 [.slice none 0 0, .slice none 0 0]) ⟨xe, by simp only [World.size_alloc], xb⟩ ?_
  rintro wa ⟨ea, za, br⟩
  have BR := Lib.hid br; clear br
  refine (spec_l1New vb bs wa (Sl.ext ByteAt.keeps HB.out ea) hn).mono ?_
  rintro e w1 ⟨g, rfl, hg, hcur, e1⟩
  have HC := Lib.hid hcur
  have hg1 := hcur.lt
  clear hcur
  have z1 := e1.size
  go_wp2_with fail
  refine (spec_l18Draw g w1 HC.out).mono ?_
  rintro e w2 ⟨⟨v1, v2, rfl, t, l, ot, ⟨hn1, hn2, hn3⟩, ol, hl0, hl5, hp⟩, d2⟩
  have HP : Hid (∀ x ∈ l, x.sigs.length ≤ 16 ∧ 0 ≤ x.version ∧ x.version ≤ 5) := fun x hx => by have := hp x hx; omega
  clear hp
  have z2 := d2.size
  have E2 := Lib.hid (d2.ext e1 hg)
  have e2 := E2.out
  clear E2
  obtain ⟨At_0, nt_0, ct_0, At_1, nt_1, ct_1, rfl⟩ := TopologyO.shape ot
  have HT := Lib.hid (TopologyO_rd ot (Nat.le_refl _))
  have hl := TrustRootSO_rd ol (Nat.le_refl _)
  obtain ⟨Al, nl, cl, rfl, ll, kl, ml, -⟩ := id hl
  subst ll
  unfold maxLen at ml
  obtain ⟨bl, ofl, hAl, hbl, -, -⟩ := hl.at_ (k := 0) hl0
  subst hAl
  have HL := Lib.hid hl; clear hl
  have OT := Lib.hid ot; have OL := Lib.hid ol; clear ot ol
  go_wp2_with fail
  refine name_wp (fun W => Ext w2 W ∧ W.heap.size = w2.heap.size + 1 ∧ Blk W w2.heap.size 27 [.slice At_0 nt_0 ct_0, .slice At_1 nt_1 ct_1]) ⟨xe, by simp only [World.size_alloc], xb⟩ ?_
  rintro w3 ⟨e3, z3, b5⟩
  have BT := Lib.hid b5; clear b5
  have ew3 := Ext.trans e2 e3
  go_loopw [7] (fun i wr => ∃ k : Nat, 1 ≤ k ∧ k ≤ l.length ∧ i = I k ∧ (k = 1 ∨ validChain t (l.take k) = true) ∧ Ext w3 wr) (fun i _ => l.length - (intOf i).toNat)
  case atStart => exact ⟨1, by omega, by omega, rfl, .inl rfl, Ext.refl _⟩
  case round =>
    obtain ⟨k, hk1, hk2, rfl, hch, hd⟩ := hrel
    have HCH := Lib.hid hch; clear hch
    have zr := hd.size
    have HTr := Lib.hid ((HT.out.ext e3).ext hd)
    have HLr := Lib.hid ((TrustRootS.ext HL.out e3).ext hd)
    have b0_ := BT.out.ext (w' := wr) xe
    have lb0_ := b0_.lt
    obtain ⟨qb0__0, qb0__1⟩ := blk2 b0_
    have fb0__0 := b0_.frozen 0
    have fb0__1 := b0_.frozen 1
    clear b0_
    by_cases hlt : k < l.length
    · have i1 : (k : Int) < (l.length : Int) := by omega
      have wk : IntKind.i64.wrap ((k : Int) + 1) = ((k + 1 : Nat) : Int) := by rw [IntWalk.i64_in _ (by omega)]; omega
      have i7 : (0 : Int) ≤ (k : Int) + 1 := by omega
      have i8 : (k : Int) + 1 ≤ (cl : Int) := by omega
      go_wp2_with fail
      refine wp_region_L (E := Ext) (w0 := wr) (G := fun τ => match τ with | 25 => some (fun v W => v = .bool (validChain t (l.take (k + 1)))) | _ => none) Ext.refl (fun h k => Ext.trans h k) (by kernel_rfl) (by kernel_rfl) xg (Ext.drew (by exact Ext.refl _)) ?_
      repeat' (first
        | ((with_reducible refine wpL_skip ?_ ?_ ?_)
           · rfl
           · rfl
           simp only [Act.put, List.setIfInBounds_toArray, List.set_cons_zero, List.set_cons_succ])
        | ((with_reducible refine wpL_quiet ?_ ?_ ?_ ?_)
           · rfl
           · rfl
           · rfl
           apply Exists.intro
           refine ⟨fun W hW hS => ?_, ?_⟩
           · have hC := (Ext.facts hW).1
             go_simp
             first | done | (with_reducible rfl) | (rw [if_neg (by omega)]; exact ⟨rfl, rfl⟩) | rfl
           first | (with_reducible refine wpL_boolT ?_) | (with_reducible refine wpL_boolF ?_) | (with_reducible refine wpL_bool (fun hB => ?_) (fun hB => ?_)) | skip
           all_goals simp only [Act.put, List.setIfInBounds_toArray, List.set_cons_zero, List.set_cons_succ])
        | ((refine wpL_call ?_ rfl rfl ?_ ?_ ?_)
           · rfl
           · rfl
           · intro W hW hS
             have hC := (Ext.facts hW).1
             unfold growAt
             go_simp
             simp only [growUpon]
             first | (go_at_call 13; (with_reducible refine Calls.mono (spec_ValidRootChain _ _ t (l.take (k + 1)) _ (by exact HTr.out.ext xe) (by exact Sl.takeR (k := k + 1) (TrustRootS.ext HLr.out xe) (by omega))) ?_); rintro e w9_ ⟨rfl, e9⟩; exact ⟨_, rfl, e9, rfl⟩)
           first | (with_reducible refine wpL_boolT ?_) | (with_reducible refine wpL_boolF ?_) | (with_reducible refine wpL_bool (fun hB => ?_) (fun hB => ?_)) | skip
           all_goals simp only [Act.put, List.setIfInBounds_toArray, List.set_cons_zero, List.set_cons_succ])
        | ((refine wpL_grow ?_ rfl rfl ?_ ?_)
           · rfl
           · intro W hW hS
             have hC := (Ext.facts hW).1
             unfold growAt
             go_simp
             simp only [growUpon]
             first | (go_at_call 13; (with_reducible refine Calls.mono (spec_ValidRootChain _ _ t (l.take (k + 1)) _ (by exact HTr.out.ext xe) (by exact Sl.takeR (k := k + 1) (TrustRootS.ext HLr.out xe) (by omega))) ?_); rintro e w9_ ⟨rfl, e9⟩; exact ⟨_, rfl, e9, rfl⟩)
           intro v W' hW' hv
           first | (subst hv) | (obtain ⟨A5, n5, c5, rfl, -⟩ := id hv; clear hv) | (obtain ⟨A5, n5, c5, rfl⟩ := NO.slice hv) | skip
           all_goals simp only [Act.put, List.setIfInBounds_toArray, List.set_cons_zero, List.set_cons_succ]))
      all_goals (refine wpL_nil (fun w4 e4 hL => ?_); clear hL)
      all_goals go_wp2_with fail
      all_goals first
        | (go_roundw
           case rel => exact ⟨k + 1, by omega, by omega, by go_num, .inr (by first | exact hB | simpa using hB), xe⟩
           case measure => first | (simp [intOf]; done) | (simp [intOf]; omega))
        | skip
      all_goals
        clear lb0_ qb0__0 qb0__1 fb0__0 fb0__1
        have z4 := e4.size
        have k1 : (0 : Int) ≤ (k : Int) := by omega
        have k2 : (k : Int) ≤ (cl : Int) := by omega
        have b4_ := BT.out.ext (w' := w4) xe
        have lb4_ := b4_.lt
        obtain ⟨qb4__0, qb4__1⟩ := blk2 b4_
        have fb4__0 := b4_.frozen 0
        have fb4__1 := b4_.frozen 1
        clear b4_
        have b9_ := BR.out.ext (w' := w4) xe
        have lb9_ := b9_.lt
        obtain ⟨qb9__0, qb9__1⟩ := blk2 b9_
        have fb9__0 := b9_.frozen 0
        have fb9__1 := b9_.frozen 1
        clear b9_
        go_region
        go_wp2_with fail
        refine bodyPost_ret (v := .tuple #[.agg #[.slice At_0 nt_0 ct_0, .slice At_1 nt_1 ct_1], .slice (some ⟨bl, ofl, none⟩) k cl]) (by simp [results, Try.results9, go_sem, *]) rfl ⟨⟨_, _, rfl, t, l.take k, ?_, ⟨hn1, hn2, hn3⟩, ?_, by (rw [List.length_take]; omega), by (rw [List.length_take]; omega), by (have h9 := HCH.out; rw [List.length_take, Nat.min_eq_left (by omega)]; exact h9), fun y hy => HP.out y (List.mem_of_mem_take hy)⟩, ?_⟩
        · exact TopologyO_rd (lo := w1.heap.size) (hi := w2.heap.size) ((OT.out.ext (w' := w4) xe (Nat.le_refl _)).keep (fun k h1 h2 _ => (Below.heap_setCell _ _ _ _ (by dsimp only; omega)).trans (Below.heap_setCell _ _ _ _ (by dsimp only; omega)))) (by first | omega | (simp only [World.size_setCell, World.size_drew]; omega))
        · exact Sl.takeR (TrustRootSO_rd (lo := w1.heap.size) (hi := w2.heap.size) (TrustRootSO_keep (TrustRootSO_ext OL.out (w' := w4) xe (Nat.le_refl _)) (fun k h1 h2 _ => (Below.heap_setCell _ _ _ _ (by dsimp only; omega)).trans (Below.heap_setCell _ _ _ _ (by dsimp only; omega)))) (by first | omega | (simp only [World.size_setCell, World.size_drew]; omega))) (by omega)
        · exact Ext.drew (Ext.setCell (Ext.setCell (Ext.trans ea (Ext.trans ew3 (Ext.trans hd e4))) (by first | omega | (dsimp only; omega)) _) (by first | omega | (dsimp only; omega)) _)
    · have hk3 : k = l.length := by omega
      have i1 : ¬ (k : Int) < (l.length : Int) := by omega
      go_wp2_with fail
      refine wp_region_L (E := Ext) (w0 := wr) (G := fun τ => match τ with | 0 => none | _ => none) Ext.refl (fun h k => Ext.trans h k) (by kernel_rfl) (by kernel_rfl) xg (Ext.drew (by exact Ext.refl _)) ?_
      repeat' (first
        | ((with_reducible refine wpL_skip ?_ ?_ ?_)
           · rfl
           · rfl
           simp only [Act.put, List.setIfInBounds_toArray, List.set_cons_zero, List.set_cons_succ])
        | ((with_reducible refine wpL_quiet ?_ ?_ ?_ ?_)
           · rfl
           · rfl
           · rfl
           apply Exists.intro
           refine ⟨fun W hW hS => ?_, ?_⟩
           · have hC := (Ext.facts hW).1
             go_simp
             first | done | (with_reducible rfl) | (rw [if_neg (by omega)]; exact ⟨rfl, rfl⟩) | rfl
           first | (with_reducible refine wpL_boolT ?_) | (with_reducible refine wpL_boolF ?_) | (with_reducible refine wpL_bool (fun hB => ?_) (fun hB => ?_)) | skip
           all_goals simp only [Act.put, List.setIfInBounds_toArray, List.set_cons_zero, List.set_cons_succ]))
      refine wpL_nil (fun w4 e4 hL => ?_)
      clear hL
      go_wp2_with fail
      all_goals
        clear lb0_ qb0__0 qb0__1 fb0__0 fb0__1
        have z4 := e4.size
        have k1 : (0 : Int) ≤ (k : Int) := by omega
        have k2 : (k : Int) ≤ (cl : Int) := by omega
        have b4_ := BT.out.ext (w' := w4) xe
        have lb4_ := b4_.lt
        obtain ⟨qb4__0, qb4__1⟩ := blk2 b4_
        have fb4__0 := b4_.frozen 0
        have fb4__1 := b4_.frozen 1
        clear b4_
        have b9_ := BR.out.ext (w' := w4) xe
        have lb9_ := b9_.lt
        obtain ⟨qb9__0, qb9__1⟩ := blk2 b9_
        have fb9__0 := b9_.frozen 0
        have fb9__1 := b9_.frozen 1
        clear b9_
        go_region
        go_wp2_with fail
        refine bodyPost_ret (v := .tuple #[.agg #[.slice At_0 nt_0 ct_0, .slice At_1 nt_1 ct_1], .slice (some ⟨bl, ofl, none⟩) k cl]) (by simp [results, Try.results9, go_sem, *]) rfl ⟨⟨_, _, rfl, t, l.take k, ?_, ⟨hn1, hn2, hn3⟩, ?_, by (rw [List.length_take]; omega), by (rw [List.length_take]; omega), by (have h9 := HCH.out; rw [List.length_take, Nat.min_eq_left (by omega)]; exact h9), fun y hy => HP.out y (List.mem_of_mem_take hy)⟩, ?_⟩
        · exact TopologyO_rd (lo := w1.heap.size) (hi := w2.heap.size) ((OT.out.ext (w' := w4) xe (Nat.le_refl _)).keep (fun k h1 h2 _ => (Below.heap_setCell _ _ _ _ (by dsimp only; omega)).trans (Below.heap_setCell _ _ _ _ (by dsimp only; omega)))) (by first | omega | (simp only [World.size_setCell, World.size_drew]; omega))
        · exact Sl.takeR (TrustRootSO_rd (lo := w1.heap.size) (hi := w2.heap.size) (TrustRootSO_keep (TrustRootSO_ext OL.out (w' := w4) xe (Nat.le_refl _)) (fun k h1 h2 _ => (Below.heap_setCell _ _ _ _ (by dsimp only; omega)).trans (Below.heap_setCell _ _ _ _ (by dsimp only; omega)))) (by first | omega | (simp only [World.size_setCell, World.size_drew]; omega))) (by omega)
        · exact Ext.drew (Ext.setCell (Ext.setCell (Ext.trans ea (Ext.trans ew3 (Ext.trans hd e4))) (by first | omega | (dsimp only; omega)) _) (by first | omega | (dsimp only; omega)) _)
end Go.Proofs.Ytmlfnfflpacchaa
