/- The laws' helpers on AS: to.. (copy), eq.. (compare), sz.. (count), mark.. and held... Printed by gen.py. -/
import Derived.Test.YtmopmgaeiokfjaaGreatGCore
import Derived.Test.YtmopmgaeiokfjaaGreatGGrow
namespace Go.Proofs.YtmopmgaeiokfjaaGreat
open Go.RowKit
set_option linter.unusedVariables false
theorem info_AS : (Tryz.prog.info? 98).map (fun i => (i.zero, i.size, i.bytes)) = some (some (.agg #[.int .i64 0, .bool false, .int .i64 0]), 3, 24) := by kernel_rfl
theorem row_AS {B : Nat} {w : World} {A : Option Addr} {n c : Nat} {xs : List DAS} (h : ASS B w (.slice A n c) xs) : Row w 3 A n (xs.flatMap ASC) := row_flat (C := ASC) (sz := 3) (fun _ => rfl) (by omega) ASAt.cells_ h
abbrev ASSO (lo hi : Nat) (w : World) (v : Value) (xs : List DAS) : Prop := Own 98 3 lo hi w v xs.length (xs.flatMap ASC)
theorem ASSO_rd {lo hi : Nat} {w : World} {v : Value} {xs : List DAS} (h : ASSO lo hi w v xs) : ASS w.heap.size w v xs := (Own.lt_size h).sl (At := ASAt) ASC.len (by omega) ASC.at_
theorem info_Link : (Tryz.prog.info? 125).map (fun i => (i.zero, i.size, i.bytes)) = some (some (.agg #[.int .i64 0, .int .i64 0, .int .i64 0, .int .i64 0, .int .i64 0]), 5, 40) := by kernel_rfl
theorem row_Link {B : Nat} {w : World} {A : Option Addr} {n c : Nat} {xs : List DLink} (h : LinkS B w (.slice A n c) xs) : Row w 5 A n (xs.flatMap LinkC) := row_flat (C := LinkC) (sz := 5) (fun _ => rfl) (by omega) LinkAt.cells_ h
abbrev LinkSO (lo hi : Nat) (w : World) (v : Value) (xs : List DLink) : Prop := Own 125 5 lo hi w v xs.length (xs.flatMap LinkC)
theorem LinkSO_rd {lo hi : Nat} {w : World} {v : Value} {xs : List DLink} (h : LinkSO lo hi w v xs) : LinkS w.heap.size w v xs := (Own.lt_size h).sl (At := LinkAt) LinkC.len (by omega) LinkC.at_
def TopologyO (lo hi : Nat) (w : World) (v : Value) (x : DTopology) : Prop := ∃ u0 u1 m1, v = .agg #[u0, u1] ∧ Own 98 3 lo m1 w u0 x.ases.length (x.ases.flatMap ASC) ∧ Own 125 5 m1 hi w u1 x.links.length (x.links.flatMap LinkC) ∧ lo ≤ m1 ∧ m1 ≤ hi
theorem TopologyO.keep {lo hi : Nat} {w w' : World} {v : Value} {x : DTopology} (h : TopologyO lo hi w v x) (hk : ∀ k, lo ≤ k → k < hi → k < w.heap.size → w'.heap[k]? = w.heap[k]?) : TopologyO lo hi w' v x := by
 obtain ⟨u0, u1, m1, e, o0, o1, l0, l1⟩ := h;exact ⟨u0, u1, m1, e, o0.keep fun k h1 h2 h3 => hk k (by omega) (by omega) h3, o1.keep fun k h1 h2 h3 => hk k (by omega) (by omega) h3, l0, l1⟩
theorem TopologyO.v {lo hi : Nat} {w : World} {v : Value} {x : DTopology} (h : TopologyO lo hi w v x) : TopologyV hi w v x := by
 obtain ⟨u0, u1, m1, e, o0, o1, l0, l1⟩ := h
 have s0 := (o0.sl (At := ASAt) ASC.len (by omega) ASC.at_)
 obtain ⟨A0, n0, c0, rfl, _⟩ := id s0
 have s1 := (o1.sl (At := LinkAt) LinkC.len (by omega) LinkC.at_)
 obtain ⟨A1, n1, c1, rfl, _⟩ := id s1;exact ⟨_, _, _, _, _, _, e, s0.keep ASAt.keeps (by omega) (fun _ _ => rfl), s1.keep LinkAt.keeps (by omega) (fun _ _ => rfl)⟩
theorem TopologyO.shape {lo hi : Nat} {w : World} {v : Value} {x : DTopology} (h : TopologyO lo hi w v x) : ∃ A0 n0 c0, ∃ A1 n1 c1, v = .agg #[.slice A0 n0 c0, .slice A1 n1 c1] := by
 obtain ⟨A0, n0, c0, A1, n1, c1, e, _, _⟩ := h.v;exact ⟨A0, n0, c0, A1, n1, c1, e⟩
theorem TopologyO.ext {lo hi : Nat} {w w' : World} {v : Value} {x : DTopology} (h : TopologyO lo hi w v x) (he : Ext w w') (hhi : hi ≤ w.heap.size) : TopologyO lo hi w' v x := h.keep fun k _ _ h3 => he.same k h3
theorem TopologyO.drew {lo hi : Nat} {w : World} {v : Value} {x : DTopology} (h : TopologyO lo hi w v x) : TopologyO lo hi w.drew v x := h.keep fun _ _ _ _ => rfl
theorem TopologyO.more {lo hi lo' hi' : Nat} {w : World} {v : Value} {x : DTopology} (h : TopologyO lo hi w v x) (h1 : lo' ≤ lo) (h2 : hi ≤ hi') : TopologyO lo' hi' w v x := by
 obtain ⟨u0, u1, m1, e, o0, o1, l0, l1⟩ := h;exact ⟨u0, u1, m1, e, Own.more o0 h1 (Nat.le_refl _), Own.more o1 (Nat.le_refl _) h2, by omega, by omega⟩
theorem TopologyO_rd {lo hi : Nat} {w : World} {v : Value} {x : DTopology} (h : TopologyO lo hi w v x) (hhi : hi ≤ w.heap.size) : TopologyV w.heap.size w v x := h.v.keep hhi (fun _ _ => rfl)
end Go.Proofs.YtmopmgaeiokfjaaGreat
