/- The laws' helpers on Topology: to.. (copy), eq.. (compare), sz.. (count), mark.. and held... Printed by gen.py. -/
import Derived.Test.YtnglhofegajbiaaHAS
import Derived.Test.YtnglhofegajbiaaHLink
import Derived.Test.YtnglhofegajbiaaNest
import Derived.Test.YtnglhofegajbiaaMarkRows
import Derived.Test.YtnglhofegajbiaaPush
import Derived.Test.YtnglhofegajbiaaTyped
namespace Go.Proofs.Ytnglhofegajbiaa
open Go.RowKit
set_option linter.unusedVariables false
theorem info_Topology : (Try.prog.info? 46).map (fun i => (i.zero, i.size, i.bytes)) = some (some (.agg #[.slice none 0 0, .slice none 0 0]), 2, 48) := by kernel_rfl

def TopologyO (lo hi : Nat) (w : World) (v : Value) (x : DTopology) : Prop := ∃ u0 u1 m1, v = .agg #[u0, u1] ∧ Own 73 3 lo m1 w u0 x.ases.length (x.ases.flatMap ASC) ∧ Own 77 5 m1 hi w u1 x.links.length (x.links.flatMap LinkC) ∧ lo ≤ m1 ∧ m1 ≤ hi
theorem TopologyO.keep {lo hi : Nat} {w w' : World} {v : Value} {x : DTopology} (h : TopologyO lo hi w v x) (hk : ∀ k, lo ≤ k → k < hi → k < w.heap.size → w'.heap[k]? = w.heap[k]?) : TopologyO lo hi w' v x := by
  obtain ⟨u0, u1, m1, e, o0, o1, l0, l1⟩ := h
  exact ⟨u0, u1, m1, e, o0.keep fun k h1 h2 h3 => hk k (by omega) (by omega) h3, o1.keep fun k h1 h2 h3 => hk k (by omega) (by omega) h3, l0, l1⟩
theorem TopologyO.v {lo hi : Nat} {w : World} {v : Value} {x : DTopology} (h : TopologyO lo hi w v x) : TopologyV hi w v x := by
  obtain ⟨u0, u1, m1, e, o0, o1, l0, l1⟩ := h
  have s0 := (o0.sl (At := ASAt) ASC.len (by omega) ASC.at_)
  obtain ⟨A0, n0, c0, rfl, _⟩ := id s0
  have s1 := (o1.sl (At := LinkAt) LinkC.len (by omega) LinkC.at_)
  obtain ⟨A1, n1, c1, rfl, _⟩ := id s1
  exact ⟨_, _, _, _, _, _, e, s0.keep ASAt.keeps (by omega) (fun _ _ => rfl), s1.keep LinkAt.keeps (by omega) (fun _ _ => rfl)⟩
theorem TopologyO.shape {lo hi : Nat} {w : World} {v : Value} {x : DTopology} (h : TopologyO lo hi w v x) : ∃ A0 n0 c0, ∃ A1 n1 c1, v = .agg #[.slice A0 n0 c0, .slice A1 n1 c1] := by
  obtain ⟨A0, n0, c0, A1, n1, c1, e, _, _⟩ := h.v
  exact ⟨A0, n0, c0, A1, n1, c1, e⟩
theorem TopologyO.ext {lo hi : Nat} {w w' : World} {v : Value} {x : DTopology} (h : TopologyO lo hi w v x) (he : Ext w w') (hhi : hi ≤ w.heap.size) : TopologyO lo hi w' v x := h.keep fun k _ _ h3 => he.same k h3
theorem TopologyO.drew {lo hi : Nat} {w : World} {v : Value} {x : DTopology} (h : TopologyO lo hi w v x) : TopologyO lo hi w.drew v x := h.keep fun _ _ _ _ => rfl
theorem TopologyO.out {lo hi lo' hi' : Nat} {w w' : World} {v : Value} {x : DTopology} (h : TopologyO lo hi w v x) (ho : Out lo' hi' w w') (hd : hi' ≤ lo ∨ hi ≤ lo') : TopologyO lo hi w' v x := h.keep fun k h1 h2 h3 => ho.block k h3 (by omega)
theorem TopologyO.more {lo hi lo' hi' : Nat} {w : World} {v : Value} {x : DTopology} (h : TopologyO lo hi w v x) (h1 : lo' ≤ lo) (h2 : hi ≤ hi') : TopologyO lo' hi' w v x := by
  obtain ⟨u0, u1, m1, e, o0, o1, l0, l1⟩ := h
  exact ⟨u0, u1, m1, e, Own.more o0 h1 (Nat.le_refl _), Own.more o1 (Nat.le_refl _) h2, by omega, by omega⟩
theorem TopologyO.up {lo : Nat} {w w' : World} {v : Value} {x : DTopology} (h : TopologyO lo w.heap.size w v x) (he : Ext w w') : TopologyO lo w'.heap.size w' v x := (h.ext he (Nat.le_refl _)).more (Nat.le_refl _) he.size
theorem TopologyO.setT {lo hi g : Nat} {w : World} {v : Value} {x : DTopology} {cs' : List Value} (h : TopologyO lo hi w v x) (hb : Blk w g 46 cs') (i : Nat) (u : Value) : TopologyO lo hi (w.setCell ⟨g, i, none⟩ u) v x := by
  obtain ⟨u0, u1, m1, e, o0, o1, l0, l1⟩ := h
  exact ⟨u0, u1, m1, e, Own.setT o0 hb (by decide) i u, Own.setT o1 hb (by decide) i u, l0, l1⟩
theorem TopologyO_rd {lo hi : Nat} {w : World} {v : Value} {x : DTopology} (h : TopologyO lo hi w v x) (hhi : hi ≤ w.heap.size) : TopologyV w.heap.size w v x := h.v.keep hhi (fun _ _ => rfl)
set_option maxRecDepth 100000 in
set_option maxHeartbeats 1000000 in
theorem toTopology (v : Value) (x : DTopology) (w : World) (h : TopologyV w.heap.size w v x) (hn : x.ases.length + x.links.length ≤ 16777216) :
    Calls Try.prog 12 #[v] w fun e w' => ∃ v', e = .returned v' ∧ TopologyO w.heap.size w'.heap.size w' v' x ∧ Ext w w' := by
  obtain ⟨A0, n0, c0, A1, n1, c1, rfl, s0, s1⟩ := h
  have S0 := Lib.hid s0; clear s0
  have S1 := Lib.hid s1; clear s1
  go_enter Try.func12, Try.ntmps12
  go_wp2_with fail
  refine (toASS _ x.ases _ (by exact S0.out.ext (by repeat (first | (with_reducible exact Ext.refl _) | (with_reducible assumption) | (with_reducible refine Ext.alloc ?_ _) | (with_reducible refine Ext.drew ?_) | (with_reducible refine Ext.drewN ?_ _) | (with_reducible refine Ext.setCell (p := _) ?_ ?ge _; case ge => (dsimp only; omega)) | (with_reducible refine Ext.trans ?_ (by with_reducible assumption))))) (by omega)).mono ?_
  rintro e w0 ⟨v0, rfl, ho0, he0⟩
  obtain ⟨hc0, hf0, hz0⟩ := he0.facts
  simp only [World.size_alloc] at hz0 hc0 hf0
  have la0 : w.heap.size < w0.heap.size := by omega
  have lb0 : w.heap.size + 1 < w0.heap.size := by omega
  have lc0 : w.heap.size + 1 + 1 < w0.heap.size := by omega
  simp only [World.size_alloc] at ho0
  have O0 := Lib.hid ho0; clear ho0
  obtain ⟨a0, m0, q0, hv0⟩ : ∃ a n c, v0 = .slice a n c := O0.out.slice
  subst hv0
  go_wp2_with fail
  refine (toLinkS _ x.links _ (by exact S1.out.ext (by repeat (first | (with_reducible exact Ext.refl _) | (with_reducible assumption) | (with_reducible refine Ext.alloc ?_ _) | (with_reducible refine Ext.drew ?_) | (with_reducible refine Ext.drewN ?_ _) | (with_reducible refine Ext.setCell (p := _) ?_ ?ge _; case ge => (dsimp only; omega)) | (with_reducible refine Ext.trans ?_ (by with_reducible assumption))))) (by omega)).mono ?_
  rintro e w1 ⟨v1, rfl, ho1, he1⟩
  obtain ⟨hc1, hf1, hz1⟩ := he1.facts
  simp only [World.size_setCell] at hz1 hc1 hf1
  have la1 : w.heap.size < w1.heap.size := by omega
  have lb1 : w.heap.size + 1 < w1.heap.size := by omega
  have lc1 : w.heap.size + 1 + 1 < w1.heap.size := by omega
  simp only [World.size_setCell] at ho1
  have O1 := Lib.hid ho1; clear ho1
  obtain ⟨a1, m1, q1, hv1⟩ : ∃ a n c, v1 = .slice a n c := O1.out.slice
  subst hv1
  go_wp2_with fail
  refine bodyPost_ret (v := .agg #[.slice a0 m0 q0, .slice a1 m1 q1]) (by simp [results, Try.results12, go_sem, *]) rfl ⟨_, rfl, ?_, ?_⟩
  · simp only [World.size_setCell]
    refine ⟨_, _, w0.heap.size, rfl, Own.more (lo := w.heap.size + 1 + 1 + 1) (hi := w0.heap.size) (by repeat (first | (with_reducible exact O0.out) | (with_reducible refine Own.alloc ?_ _) | (with_reducible refine Own.setCell (p := _) ?_ (.inl ?ge) _; case ge => (first | omega | (dsimp only; omega) | (simp only [World.size_setCell]; omega) | (simp only [World.size_alloc]; omega))) | (with_reducible refine Own.ext ?_ (by with_reducible assumption) ?ge; case ge => (first | omega | (dsimp only; omega) | (simp only [World.size_setCell]; omega) | (simp only [World.size_alloc]; omega))))) (by omega) (by omega), Own.more (lo := w0.heap.size) (hi := w1.heap.size) (by repeat (first | (with_reducible exact O1.out) | (with_reducible refine Own.alloc ?_ _) | (with_reducible refine Own.setCell (p := _) ?_ (.inl ?ge) _; case ge => (first | omega | (dsimp only; omega) | (simp only [World.size_setCell]; omega) | (simp only [World.size_alloc]; omega))) | (with_reducible refine Own.ext ?_ (by with_reducible assumption) ?ge; case ge => (first | omega | (dsimp only; omega) | (simp only [World.size_setCell]; omega) | (simp only [World.size_alloc]; omega))))) (by omega) (by omega), by omega, by omega⟩
  · exact (by repeat (first | (with_reducible exact Ext.refl _) | (with_reducible assumption) | (with_reducible refine Ext.alloc ?_ _) | (with_reducible refine Ext.drew ?_) | (with_reducible refine Ext.drewN ?_ _) | (with_reducible refine Ext.setCell (p := _) ?_ ?ge _; case ge => (dsimp only; omega)) | (with_reducible refine Ext.trans ?_ (by with_reducible assumption))))
set_option maxRecDepth 100000 in
set_option maxHeartbeats 1000000 in
theorem eqTopology (v1 v2 : Value) (x y : DTopology) (w : World) (h1 : TopologyV w.heap.size w v1 x) (h2 : TopologyV w.heap.size w v2 y) :
    Calls Try.prog 15 #[v1, v2] w fun e w' => e = .returned (.bool (decide (x = y))) ∧ Ext w w' := by
  obtain ⟨A10, n10, c10, A11, n11, c11, rfl, s10, s11⟩ := h1
  obtain ⟨A20, n20, c20, A21, n21, c21, rfl, s20, s21⟩ := h2
  have S10 := Lib.hid s10; clear s10
  have S11 := Lib.hid s11; clear s11
  have S20 := Lib.hid s20; clear s20
  have S21 := Lib.hid s21; clear s21
  go_enter Try.func15, Try.ntmps15
  go_wp2_with fail
  all_goals (try (go_ret; exact ⟨ret_bool (by simp_all [DTopology.eq_iff]), (by repeat (first | (with_reducible exact Ext.refl _) | (with_reducible assumption) | (with_reducible refine Ext.alloc ?_ _) | (with_reducible refine Ext.drew ?_) | (with_reducible refine Ext.drewN ?_ _) | (with_reducible refine Ext.setCell (p := _) ?_ ?ge _; case ge => (dsimp only; omega)) | (with_reducible refine Ext.trans ?_ (by with_reducible assumption))))⟩))
  refine (eqASS _ _ x.ases y.ases _ (by exact S10.out.ext (by repeat (first | (with_reducible exact Ext.refl _) | (with_reducible assumption) | (with_reducible refine Ext.alloc ?_ _) | (with_reducible refine Ext.drew ?_) | (with_reducible refine Ext.drewN ?_ _) | (with_reducible refine Ext.setCell (p := _) ?_ ?ge _; case ge => (dsimp only; omega)) | (with_reducible refine Ext.trans ?_ (by with_reducible assumption))))) (by exact S20.out.ext (by repeat (first | (with_reducible exact Ext.refl _) | (with_reducible assumption) | (with_reducible refine Ext.alloc ?_ _) | (with_reducible refine Ext.drew ?_) | (with_reducible refine Ext.drewN ?_ _) | (with_reducible refine Ext.setCell (p := _) ?_ ?ge _; case ge => (dsimp only; omega)) | (with_reducible refine Ext.trans ?_ (by with_reducible assumption)))))).mono ?_
  rintro e w1 ⟨rfl, he1⟩
  obtain ⟨hc1, hf1, hz1⟩ := he1.facts
  go_wp2_with fail
  all_goals (try (go_ret; exact ⟨ret_bool (by simp_all [DTopology.eq_iff]), (by repeat (first | (with_reducible exact Ext.refl _) | (with_reducible assumption) | (with_reducible refine Ext.alloc ?_ _) | (with_reducible refine Ext.drew ?_) | (with_reducible refine Ext.drewN ?_ _) | (with_reducible refine Ext.setCell (p := _) ?_ ?ge _; case ge => (dsimp only; omega)) | (with_reducible refine Ext.trans ?_ (by with_reducible assumption))))⟩))
  refine (eqLinkS _ _ x.links y.links _ (by exact S11.out.ext (by repeat (first | (with_reducible exact Ext.refl _) | (with_reducible assumption) | (with_reducible refine Ext.alloc ?_ _) | (with_reducible refine Ext.drew ?_) | (with_reducible refine Ext.drewN ?_ _) | (with_reducible refine Ext.setCell (p := _) ?_ ?ge _; case ge => (dsimp only; omega)) | (with_reducible refine Ext.trans ?_ (by with_reducible assumption))))) (by exact S21.out.ext (by repeat (first | (with_reducible exact Ext.refl _) | (with_reducible assumption) | (with_reducible refine Ext.alloc ?_ _) | (with_reducible refine Ext.drew ?_) | (with_reducible refine Ext.drewN ?_ _) | (with_reducible refine Ext.setCell (p := _) ?_ ?ge _; case ge => (dsimp only; omega)) | (with_reducible refine Ext.trans ?_ (by with_reducible assumption)))))).mono ?_
  rintro e w2 ⟨rfl, he2⟩
  obtain ⟨hc2, hf2, hz2⟩ := he2.facts
  go_wp2_with fail
  all_goals
    go_ret
    exact ⟨ret_bool (by simp_all [DTopology.eq_iff]), (by repeat (first | (with_reducible exact Ext.refl _) | (with_reducible assumption) | (with_reducible refine Ext.alloc ?_ _) | (with_reducible refine Ext.drew ?_) | (with_reducible refine Ext.drewN ?_ _) | (with_reducible refine Ext.setCell (p := _) ?_ ?ge _; case ge => (dsimp only; omega)) | (with_reducible refine Ext.trans ?_ (by with_reducible assumption))))⟩
set_option maxRecDepth 100000 in
set_option maxHeartbeats 1000000 in
theorem szTopology (v : Value) (x : DTopology) (left : Int) (w : World) (h : TopologyV w.heap.size w v x) (h0 : 0 ≤ left) (hl : left ≤ 1048576) :
    Calls Try.prog 10 #[v, I left] w fun e w' => e = .returned (I (szR (x.ases.length + x.links.length) left)) ∧ Ext w w' := by
  obtain ⟨A0, n0, c0, A1, n1, c1, rfl, s0, s1⟩ := h
  have S0 := Lib.hid s0; clear s0
  have S1 := Lib.hid s1; clear s1
  go_enter Try.func10, Try.ntmps10
  go_wp2_with fail
  refine (szASS _ x.ases (left) _ (by exact S0.out.ext (by repeat (first | (with_reducible exact Ext.refl _) | (with_reducible assumption) | (with_reducible refine Ext.alloc ?_ _) | (with_reducible refine Ext.drew ?_) | (with_reducible refine Ext.drewN ?_ _) | (with_reducible refine Ext.setCell (p := _) ?_ ?ge _; case ge => (dsimp only; omega)) | (with_reducible refine Ext.trans ?_ (by with_reducible assumption))))) (by omega) (by omega)).mono ?_
  rintro e w1 ⟨rfl, he1⟩
  obtain ⟨hc1, hf1, hz1⟩ := he1.facts
  by_cases hlt0 : left < (((x.ases.length) : Nat) : Int)
  · rw [szR_neg hlt0]
    go_wp2_with fail
    go_ret
    exact ⟨ret_int (szR_neg (by omega)).symm, (by repeat (first | (with_reducible exact Ext.refl _) | (with_reducible assumption) | (with_reducible refine Ext.alloc ?_ _) | (with_reducible refine Ext.drew ?_) | (with_reducible refine Ext.drewN ?_ _) | (with_reducible refine Ext.setCell (p := _) ?_ ?ge _; case ge => (dsimp only; omega)) | (with_reducible refine Ext.trans ?_ (by with_reducible assumption))))⟩
  · rw [szR_pos (by omega)]
    go_wp2_with fail
    refine (szLinkS _ x.links (left - (((x.ases.length) : Nat) : Int)) _ (by exact S1.out.ext (by repeat (first | (with_reducible exact Ext.refl _) | (with_reducible assumption) | (with_reducible refine Ext.alloc ?_ _) | (with_reducible refine Ext.drew ?_) | (with_reducible refine Ext.drewN ?_ _) | (with_reducible refine Ext.setCell (p := _) ?_ ?ge _; case ge => (dsimp only; omega)) | (with_reducible refine Ext.trans ?_ (by with_reducible assumption))))) (by omega) (by omega)).mono ?_
    rintro e w2 ⟨rfl, he2⟩
    obtain ⟨hc2, hf2, hz2⟩ := he2.facts
    by_cases hlt1 : left - (((x.ases.length) : Nat) : Int) < (((x.links.length) : Nat) : Int)
    · rw [szR_neg hlt1]
      go_wp2_with fail
      go_ret
      exact ⟨ret_int (szR_neg (by omega)).symm, (by repeat (first | (with_reducible exact Ext.refl _) | (with_reducible assumption) | (with_reducible refine Ext.alloc ?_ _) | (with_reducible refine Ext.drew ?_) | (with_reducible refine Ext.drewN ?_ _) | (with_reducible refine Ext.setCell (p := _) ?_ ?ge _; case ge => (dsimp only; omega)) | (with_reducible refine Ext.trans ?_ (by with_reducible assumption))))⟩
    · rw [szR_pos (by omega)]
      go_wp2_with fail
      go_ret
      exact ⟨ret_int (by rw [szR_pos (by omega)] <;> omega), (by repeat (first | (with_reducible exact Ext.refl _) | (with_reducible assumption) | (with_reducible refine Ext.alloc ?_ _) | (with_reducible refine Ext.drew ?_) | (with_reducible refine Ext.drewN ?_ _) | (with_reducible refine Ext.setCell (p := _) ?_ ?ge _; case ge => (dsimp only; omega)) | (with_reducible refine Ext.trans ?_ (by with_reducible assumption))))⟩
end Go.Proofs.Ytnglhofegajbiaa
