/- Words of draws that no root wants: what a last region keeps; the laws' look at the bytes' number. No conditions. -/
import Derived.Test.YtmopmgaeiokfjaaGreatGD4
import Derived.Test.YtmopmgaeiokfjaaGreatGHT
import Derived.Test.YtmopmgaeiokfjaaGreatGGrowU
import Derived.Test.YtmopmgaeiokfjaaGreatGGrow
set_option maxRecDepth 100000
set_option maxHeartbeats 1000000
namespace Go.Proofs.YtmopmgaeiokfjaaGreat
open Go.RowKit
set_option linter.unusedVariables false
theorem TopologyO.d {lo hi g : Nat} {w w' : World} {v : Value} {t : DTopology} (h : TopologyO lo hi w v t) (hd : D g w w') (hg : g < lo) : TopologyO lo hi w' v t := h.keep fun k h1 _ h3 => hd.block h3 (by omega)
theorem le_both {a b : Nat} (h : a = b) : b ≤ a ∧ a ≤ b := by omega
structure Kp (lo : Nat) (a b : World) : Prop where
 size : b.heap.size = a.heap.size
 same : ∀ k, lo ≤ k → b.heap[k]? = a.heap[k]?
theorem Kp.refl (lo : Nat) (a : World) : Kp lo a a := ⟨rfl, fun _ _ => rfl⟩
theorem Kp.set {lo : Nat} {a b : World} (h : Kp lo a b) {p : Addr} (hp : p.block < lo) (u : Value) : Kp lo a (b.setCell p u) := ⟨by rw [World.size_setCell]; exact h.size, fun k hk => (Below.heap_setCell _ _ _ _ (by omega)).trans (h.same k hk)⟩
theorem Kp.drew {lo : Nat} {a b : World} (h : Kp lo a b) : Kp lo a b.drew := ⟨h.size, h.same⟩
theorem kp {lo : Nat} {a b : World} (h : Kp lo a b := by repeat (first | (with_reducible exact Kp.refl _ _) | (with_reducible refine Kp.drew ?_) | (with_reducible refine Kp.set (p := _) ?_ ?ge _; case ge => (first | (dsimp only; first | assumption | exact Nat.le_refl _ | exact Nat.le_add_right _ _ | exact Nat.le_succ_of_le (Nat.le_add_right _ _)) | omega | (dsimp only; omega))))) : Kp lo a b := h
theorem xset {a b : World} (h : Ext a b := by repeat (first | (with_reducible assumption) | (with_reducible refine Ext.drew ?_) | (with_reducible refine Ext.setCell (p := _) ?_ ?ge _; case ge => (first | (dsimp only; first | assumption | exact Nat.le_refl _ | exact Nat.le_add_right _ _ | exact Nat.le_succ_of_le (Nat.le_add_right _ _)) | omega | (dsimp only; omega))))) : Ext a b := h
theorem TopologyO.kp {lo hi m : Nat} {a b : World} {v : Value} {t : DTopology} (h : TopologyO lo hi a v t) (hk : Kp m a b) (hm : m ≤ lo) (hh : hi ≤ a.heap.size) : TopologyV b.heap.size b v t :=
 TopologyO_rd (h.keep fun k h1 _ _ => hk.same k (by omega)) (by rw [hk.size]; exact hh)
theorem intro_at {P : Program} {ops : Array Oper} {E : World → World → Prop} {w0 : World} {G : Tmp → Option (Value → World → Prop)} {Q : Act → World → Prop} {rest : List Oper} {a : Act} {L : List (Tmp × (World → Prop))} (t : Tmp) (p : World → Prop) (h : wpL P ops E w0 G Q rest a ((t, p) :: L)) : wpL P ops E w0 G Q rest a ((t, p) :: L) := h
theorem Zero1.d {E lo g : Nat} {zs : List Value} {v : Value} {W W' : World} (h : Zero1 E lo zs v W) (hd : D g W W') (hg : g < lo) : Zero1 E lo zs v W' := by
 obtain ⟨k, e, hk, hb⟩ := h;exact ⟨k, e, hk, hb.d hd (by omega)⟩
theorem laws_big (vb : Value) (bs : List Nat) (w : World) (hb : ByteS w.heap.size w vb bs) : Calls Tryz.prog 4 #[vb] w fun e w' => e = .returned (.bool (decide (1048576 < bs.length))) ∧ Ext w w' := by
 obtain ⟨A, n, c, rfl, ln, -, mc, -⟩ := id hb;subst ln;unfold maxLen at mc
 go_enter Tryz.func4, Tryz.ntmps4
 by_cases h : 1048576 < bs.length
 · have i1 : (1048576 : Int) < (bs.length : Int) := by omega
   go_wp2_with fail
   go_ret
   exact ⟨by simp [h], xe⟩
 · have i1 : ¬ (1048576 : Int) < (bs.length : Int) := by omega
   go_wp2_with fail
   go_ret
   exact ⟨by simp, xe⟩
end Go.Proofs.YtmopmgaeiokfjaaGreat
