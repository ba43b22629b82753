/- The laws' helpers on AS: to.. (copy), eq.. (compare), sz.. (count), mark.. and held... Printed by gen.py. -/
import Derived.Test.YtijdlogcbnebcaaGreatGCore
import Derived.Test.YtijdlogcbnebcaaGreatGGrow
namespace Go.Proofs.YtijdlogcbnebcaaGreat
open Go.RowKit
set_option linter.unusedVariables false
theorem info_AS : (Tryz.prog.info? 55).map (fun i => (i.zero, i.size, i.bytes)) = some (some (.agg #[.int .i64 0, .bool false, .int .i64 0]), 3, 24) := by kernel_rfl

theorem row_AS {B : Nat} {w : World} {A : Option Addr} {n c : Nat} {xs : List DAS} (h : ASS B w (.slice A n c) xs) : Row w 3 A n (xs.flatMap ASC) := row_flat (C := ASC) (sz := 3) (fun _ => rfl) (by omega) ASAt.cells_ h

/-- A []AS of the call's own. -/
abbrev ASSO (lo hi : Nat) (w : World) (v : Value) (xs : List DAS) : Prop := Own 55 3 lo hi w v xs.length (xs.flatMap ASC)
theorem ASSO_rd {lo hi : Nat} {w : World} {v : Value} {xs : List DAS} (h : ASSO lo hi w v xs) : ASS w.heap.size w v xs := (Own.lt_size h).sl (At := ASAt) ASC.len (by omega) ASC.at_
end Go.Proofs.YtijdlogcbnebcaaGreat
namespace Go.Proofs.YtijdlogcbnebcaaGreat
open Go.RowKit
set_option linter.unusedVariables false
theorem info_Link : (Tryz.prog.info? 58).map (fun i => (i.zero, i.size, i.bytes)) = some (some (.agg #[.int .i64 0, .int .i64 0, .int .i64 0, .int .i64 0, .int .i64 0]), 5, 40) := by kernel_rfl

theorem row_Link {B : Nat} {w : World} {A : Option Addr} {n c : Nat} {xs : List DLink} (h : LinkS B w (.slice A n c) xs) : Row w 5 A n (xs.flatMap LinkC) := row_flat (C := LinkC) (sz := 5) (fun _ => rfl) (by omega) LinkAt.cells_ h

/-- A []Link of the call's own. -/
abbrev LinkSO (lo hi : Nat) (w : World) (v : Value) (xs : List DLink) : Prop := Own 58 5 lo hi w v xs.length (xs.flatMap LinkC)
theorem LinkSO_rd {lo hi : Nat} {w : World} {v : Value} {xs : List DLink} (h : LinkSO lo hi w v xs) : LinkS w.heap.size w v xs := (Own.lt_size h).sl (At := LinkAt) LinkC.len (by omega) LinkC.at_
/-- What marking from q on writes. -/
def LinkNum (q n : Nat) : List DLink := (List.range n).map fun j => ⟨((q + 5 * j : Nat) : Int), ((q + 5 * j : Nat) : Int) + 1, ((q + 5 * j : Nat) : Int) + 1 + 1, ((q + 5 * j : Nat) : Int) + 1 + 1 + 1, ((q + 5 * j : Nat) : Int) + 1 + 1 + 1 + 1⟩
theorem LinkNum_len {q n : Nat} : (LinkNum q n).length = n := by simp [LinkNum]
end Go.Proofs.YtijdlogcbnebcaaGreat
namespace Go.Proofs.YtijdlogcbnebcaaGreat
open Go.RowKit
set_option linter.unusedVariables false
theorem info_Topology : (Tryz.prog.info? 27).map (fun i => (i.zero, i.size, i.bytes)) = some (some (.agg #[.slice none 0 0, .slice none 0 0]), 2, 48) := by kernel_rfl

def TopologyO (lo hi : Nat) (w : World) (v : Value) (x : DTopology) : Prop := ∃ u0 u1 m1, v = .agg #[u0, u1] ∧ Own 55 3 lo m1 w u0 x.ases.length (x.ases.flatMap ASC) ∧ Own 58 5 m1 hi w u1 x.links.length (x.links.flatMap LinkC) ∧ lo ≤ m1 ∧ m1 ≤ hi
theorem TopologyO.keep {lo hi : Nat} {w w' : World} {v : Value} {x : DTopology} (h : TopologyO lo hi w v x) (hk : ∀ k, lo ≤ k → k < hi → k < w.heap.size → w'.heap[k]? = w.heap[k]?) : TopologyO lo hi w' v x := by
  obtain ⟨u0, u1, m1, e, o0, o1, l0, l1⟩ := h
  exact ⟨u0, u1, m1, e, o0.keep fun k h1 h2 h3 => hk k (by omega) (by omega) h3, o1.keep fun k h1 h2 h3 => hk k (by omega) (by omega) h3, l0, l1⟩
theorem TopologyO.v {lo hi : Nat} {w : World} {v : Value} {x : DTopology} (h : TopologyO lo hi w v x) : TopologyV hi w v x := by
  obtain ⟨u0, u1, m1, e, o0, o1, l0, l1⟩ := h
  have s0 := (o0.sl (At := ASAt) ASC.len (by omega) ASC.at_)
  obtain ⟨A0, n0, c0, rfl, _⟩ := id s0
  have s1 := (o1.sl (At := LinkAt) LinkC.len (by omega) LinkC.at_)
  obtain ⟨A1, n1, c1, rfl, _⟩ := id s1
  exact ⟨_, _, _, _, _, _, e, s0.keep ASAt.keeps (by omega) (fun _ _ => rfl), s1.keep LinkAt.keeps (by omega) (fun _ _ => rfl)⟩
theorem TopologyO.shape {lo hi : Nat} {w : World} {v : Value} {x : DTopology} (h : TopologyO lo hi w v x) : ∃ A0 n0 c0, ∃ A1 n1 c1, v = .agg #[.slice A0 n0 c0, .slice A1 n1 c1] := by
  obtain ⟨A0, n0, c0, A1, n1, c1, e, _, _⟩ := h.v
  exact ⟨A0, n0, c0, A1, n1, c1, e⟩
theorem TopologyO.ext {lo hi : Nat} {w w' : World} {v : Value} {x : DTopology} (h : TopologyO lo hi w v x) (he : Ext w w') (hhi : hi ≤ w.heap.size) : TopologyO lo hi w' v x := h.keep fun k _ _ h3 => he.same k h3
theorem TopologyO.drew {lo hi : Nat} {w : World} {v : Value} {x : DTopology} (h : TopologyO lo hi w v x) : TopologyO lo hi w.drew v x := h.keep fun _ _ _ _ => rfl
theorem TopologyO.out {lo hi lo' hi' : Nat} {w w' : World} {v : Value} {x : DTopology} (h : TopologyO lo hi w v x) (ho : Out lo' hi' w w') (hd : hi' ≤ lo ∨ hi ≤ lo') : TopologyO lo hi w' v x := h.keep fun k h1 h2 h3 => ho.block k h3 (by omega)
theorem TopologyO.more {lo hi lo' hi' : Nat} {w : World} {v : Value} {x : DTopology} (h : TopologyO lo hi w v x) (h1 : lo' ≤ lo) (h2 : hi ≤ hi') : TopologyO lo' hi' w v x := by
  obtain ⟨u0, u1, m1, e, o0, o1, l0, l1⟩ := h
  exact ⟨u0, u1, m1, e, Own.more o0 h1 (Nat.le_refl _), Own.more o1 (Nat.le_refl _) h2, by omega, by omega⟩
theorem TopologyO.up {lo : Nat} {w w' : World} {v : Value} {x : DTopology} (h : TopologyO lo w.heap.size w v x) (he : Ext w w') : TopologyO lo w'.heap.size w' v x := (h.ext he (Nat.le_refl _)).more (Nat.le_refl _) he.size
theorem TopologyO.setT {lo hi g : Nat} {w : World} {v : Value} {x : DTopology} {cs' : List Value} (h : TopologyO lo hi w v x) (hb : Blk w g 27 cs') (i : Nat) (u : Value) : TopologyO lo hi (w.setCell ⟨g, i, none⟩ u) v x := by
  obtain ⟨u0, u1, m1, e, o0, o1, l0, l1⟩ := h
  exact ⟨u0, u1, m1, e, Own.setT o0 hb (by decide) i u, Own.setT o1 hb (by decide) i u, l0, l1⟩
theorem TopologyO_rd {lo hi : Nat} {w : World} {v : Value} {x : DTopology} (h : TopologyO lo hi w v x) (hhi : hi ≤ w.heap.size) : TopologyV w.heap.size w v x := h.v.keep hhi (fun _ _ => rfl)
/-- The cells cs of a Topology and the blocks that it owns. -/
def TopologyOC (w : World) (fp : List Nat) (cs : List Value) (x : DTopology) : Prop := ∃ u0 u1, cs = [u0, u1] ∧ w.ownsRow 0 55 3 u0 x.ases.length (x.ases.flatMap ASC) ∧ w.ownsRow 0 58 5 u1 x.links.length (x.links.flatMap LinkC) ∧ fp = u0.ownBlock.toList ++ u1.ownBlock.toList
theorem TopologyOC.keeps : OKeeps TopologyOC := by
  intro w w' fp cs x hk h
  obtain ⟨u0, u1, e, r0, r1, ef⟩ := h
  exact ⟨u0, u1, e, ownsRow_keep r0 (fun b hb => hk b (by rw [ef]; simp [hb])), ownsRow_keep r1 (fun b hb => hk b (by rw [ef]; simp [hb])), ef⟩
theorem TopologyOC.at_ (B : Nat) (w : World) (b o : Nat) (fp : List Nat) (cs : List Value) (x : DTopology) (h : TopologyOC w fp cs x) (hb : ∀ b ∈ fp, b < B) (hc : ∀ j u, cs[j]? = some u → w.cell? ⟨b, o + j, none⟩ = some u) : TopologyAt B w b o x := by
  obtain ⟨u0, u1, rfl, r0, r1, ef⟩ := h
  have s0 : ASS B w u0 x.ases := Own.sl (lo := 0) (n := x.ases.length) (At := ASAt) ⟨r0, fun k hk => hb k (by rw [ef]; simp [hk])⟩ ASC.len (by omega) ASC.at_
  obtain ⟨A0, n0, c0, e0, _⟩ := id s0
  subst e0
  have s1 : LinkS B w u1 x.links := Own.sl (lo := 0) (n := x.links.length) (At := LinkAt) ⟨r1, fun k hk => hb k (by rw [ef]; simp [hk])⟩ LinkC.len (by omega) LinkC.at_
  obtain ⟨A1, n1, c1, e1, _⟩ := id s1
  subst e1
  exact ⟨A0, n0, c0, A1, n1, c1, hc 0 _ rfl, hc 1 _ rfl, s0, s1⟩
theorem TopologyOC.one : OOne TopologyOC := by
  intro w fp cs x h
  obtain ⟨u0, u1, rfl, r0, r1, ef⟩ := h
  obtain ⟨a0, m0, c0, e0⟩ := ownsRow_slice r0
  subst e0
  obtain ⟨a1, m1, c1, e1⟩ := ownsRow_slice r1
  subst e1
  intro u hu
  simp only [List.mem_cons, List.not_mem_nil, or_false] at hu
  rcases hu with rfl | rfl <;> rfl
theorem TopologyOC.typed (T : Nat) (n0 : 55 ≠ T) (n1 : 58 ≠ T) : OTyped TopologyOC T := by
  intro w fp cs x g cs' h hb
  obtain ⟨u0, u1, e, r0, r1, ef⟩ := h
  subst ef
  intro hm
  simp only [List.mem_append] at hm
  rcases hm with hm | hm
  · exact ownsRow_typed r0 hb n0 hm
  · exact ownsRow_typed r1 hb n1 hm
theorem TopologyOC.len {w : World} {fp : List Nat} {cs : List Value} {x : DTopology} (h : TopologyOC w fp cs x) : cs.length = 2 := by
  obtain ⟨u0, u1, rfl, _⟩ := h
  rfl
theorem TopologyO.to_oc {lo hi : Nat} {w : World} {v : Value} {x : DTopology} (h : TopologyO lo hi w v x) : ∃ a0 k0 q0 a1 k1 q1 fp, v = .agg #[.slice a0 k0 q0, .slice a1 k1 q1] ∧ TopologyOC w fp [.slice a0 k0 q0, .slice a1 k1 q1] x ∧ fp.Nodup ∧ ∀ b ∈ fp, lo ≤ b ∧ b < hi := by
  obtain ⟨u0, u1, m1, e, o0, o1, l0, l1⟩ := h
  obtain ⟨a0, k0, q0, hu0⟩ : ∃ a n c, u0 = .slice a n c := o0.slice
  have b0 : ∀ b ∈ u0.ownBlock.toList, lo ≤ b ∧ b < m1 := fun b hb => ⟨(o0.1.lt b (by simpa using hb)).1, o0.2 b (by simpa using hb)⟩
  have d0 : (u0.ownBlock.toList).Nodup := by cases u0.ownBlock <;> simp
  obtain ⟨a1, k1, q1, hu1⟩ : ∃ a n c, u1 = .slice a n c := o1.slice
  have b1 : ∀ b ∈ u1.ownBlock.toList, m1 ≤ b ∧ b < hi := fun b hb => ⟨(o1.1.lt b (by simpa using hb)).1, o1.2 b (by simpa using hb)⟩
  have d1 : (u1.ownBlock.toList).Nodup := by cases u1.ownBlock <;> simp
  subst hu0
  subst hu1
  exact ⟨a0, k0, q0, a1, k1, q1, (Value.slice a0 k0 q0).ownBlock.toList ++ (Value.slice a1 k1 q1).ownBlock.toList, e, ⟨_, _, rfl, (o0.more (Nat.zero_le _) (Nat.le_refl _)).1, (o1.more (Nat.zero_le _) (Nat.le_refl _)).1, rfl⟩, List.nodup_append.2 ⟨d0, d1, fun a ha b hb => by have h1 := b0 a ha; have h2 := b1 b hb; omega⟩, (fun b hb => (List.mem_append.1 hb).elim (fun hb => by have := b0 b hb; omega) (fun hb => by have := b1 b hb; omega))⟩
end Go.Proofs.YtijdlogcbnebcaaGreat
