/- Contracts of the reference's draws that the law FnRoots uses: a topology and roots, some of them. The given slice holds bytes. -/
import Derived.Test.YtddaodemdkjijaaGreatD9
import Derived.Test.YtddaodemdkjijaaGreatDW
namespace Go.Proofs.YtddaodemdkjijaaGreat
open Go.RowKit
set_option linter.unusedVariables false
theorem le_both {a b : Nat} (h : a = b) : b ≤ a ∧ a ≤ b := by omega
/-- Above lo nothing has turned. -/
structure Kp (lo : Nat) (a b : World) : Prop where
  size : b.heap.size = a.heap.size
  same : ∀ k, lo ≤ k → b.heap[k]? = a.heap[k]?
theorem Kp.refl (lo : Nat) (a : World) : Kp lo a a := ⟨rfl, fun _ _ => rfl⟩
theorem Kp.set {lo : Nat} {a b : World} (h : Kp lo a b) {p : Addr} (hp : p.block < lo) (u : Value) : Kp lo a (b.setCell p u) := ⟨by rw [World.size_setCell]; exact h.size, fun k hk => (Below.heap_setCell _ _ _ _ (by omega)).trans (h.same k hk)⟩
theorem Kp.trans {lo : Nat} {a b c : World} (h : Kp lo a b) (k : Kp lo b c) : Kp lo a c := ⟨k.size.trans h.size, fun j hj => (k.same j hj).trans (h.same j hj)⟩
theorem Kp.drew {lo : Nat} {a b : World} (h : Kp lo a b) : Kp lo a b.drew := ⟨h.size, h.same⟩
theorem kp {lo : Nat} {a b : World} (h : Kp lo a b := by repeat (first | (with_reducible exact Kp.refl _ _) | (with_reducible refine Kp.drew ?_) | (with_reducible refine Kp.set (p := _) ?_ ?ge _; case ge => (first | (dsimp only; first | assumption | exact Nat.le_refl _ | exact Nat.le_add_right _ _ | exact Nat.le_succ_of_le (Nat.le_add_right _ _)) | omega | (dsimp only; omega))))) : Kp lo a b := h
theorem xset {a b : World} (h : Ext a b := by repeat (first | (with_reducible assumption) | (with_reducible refine Ext.drew ?_) | (with_reducible refine Ext.setCell (p := _) ?_ ?ge _; case ge => (first | (dsimp only; first | assumption | exact Nat.le_refl _ | exact Nat.le_add_right _ _ | exact Nat.le_succ_of_le (Nat.le_add_right _ _)) | omega | (dsimp only; omega))))) : Ext a b := h
theorem TopologyO.kp {lo hi m : Nat} {a b : World} {v : Value} {t : DTopology} (h : TopologyO lo hi a v t) (hk : Kp m a b) (hm : m ≤ lo) (hh : hi ≤ a.heap.size) : TopologyV b.heap.size b v t :=
  TopologyO_rd (h.keep fun k h1 _ _ => hk.same k (by omega)) (by rw [hk.size]; exact hh)
theorem TrustRootO.kp {lo hi m : Nat} {a b : World} {v : Value} {t : DTrustRoot} (h : TrustRootO lo hi a v t) (hk : Kp m a b) (hm : m ≤ lo) (hh : hi ≤ a.heap.size) : TrustRootV b.heap.size b v t :=
  TrustRootO_rd (h.keep fun k h1 _ _ => hk.same k (by omega)) (by rw [hk.size]; exact hh)
theorem TrustRootSO.kp {lo hi m : Nat} {a b : World} {v : Value} {t : List DTrustRoot} (h : TrustRootSO lo hi a v t) (hk : Kp m a b) (hm : m ≤ lo) (hh : hi ≤ a.heap.size) : TrustRootS b.heap.size b v t :=
  TrustRootSO_rd (TrustRootSO_keep h fun k h1 _ _ => hk.same k (by omega)) (by rw [hk.size]; exact hh)
theorem root_at {lo hi k n c : Nat} {W : World} {A : Option Addr} {l : List DTrustRoot} (h : TrustRootSO lo hi W (.slice A n c) l) (hk : k < l.length) (hlh : lo ≤ hi) : ∃ gl A6 c6, A = some ⟨gl, 0, none⟩ ∧ n = l.length ∧ lo ≤ gl ∧ gl < hi ∧ gl < W.heap.size ∧
    (W.cell? ⟨gl, k * 7, none⟩ = some (I l[k].isd) ∧ W.cell? ⟨gl, k * 7 + 1, none⟩ = some (I l[k].version) ∧ W.cell? ⟨gl, k * 7 + 2, none⟩ = some (I l[k].notBefore) ∧ W.cell? ⟨gl, k * 7 + 3, none⟩ = some (I l[k].notAfter) ∧ W.cell? ⟨gl, k * 7 + 4, none⟩ = some (I l[k].voters) ∧ W.cell? ⟨gl, k * 7 + 5, none⟩ = some (I l[k].quorum) ∧ W.cell? ⟨gl, k * 7 + 6, none⟩ = some (.slice A6 l[k].sigs.length c6)) ∧
    TrustRootO lo hi W (.agg #[I l[k].isd, I l[k].version, I l[k].notBefore, I l[k].notAfter, I l[k].voters, I l[k].quorum, .slice A6 l[k].sigs.length c6]) l[k] := by
  obtain ⟨gl, f0, c0, hA, hn, hg1, hg2, hg3, hoc, -, -, hbd, -, hcell, -, -⟩ := NO.elem TrustRootOC.keeps h hk
  obtain ⟨A6, c6, rfl⟩ := hoc.shape
  obtain ⟨u6, e, r6, ef⟩ := hoc
  obtain rfl : Value.slice A6 l[k].sigs.length c6 = u6 := by simpa using e
  refine ⟨gl, A6, c6, hA, hn, hg1, hg2, hg3, ⟨hcell 0 _ rfl, hcell 1 _ rfl, hcell 2 _ rfl, hcell 3 _ rfl, hcell 4 _ rfl, hcell 5 _ rfl, hcell 6 _ rfl⟩, _, rfl, ⟨ownsRow_base r6 fun b hb => (hbd b (by rw [ef]; simp [hb])).1, fun b hb => (hbd b (by rw [ef]; simp [hb])).2.1⟩, hlh⟩
/-- A root of the draw's own. -/
def RootD (lo hi n : Nat) (v : Value) (W : World) : Prop := ∃ x, TrustRootO lo hi W v x ∧ x.sigs.length ≤ n
theorem RootD.d {lo hi n g : Nat} {v : Value} {W W' : World} (h : RootD lo hi n v W) (hd : D g W W') (hg : g < lo) : RootD lo hi n v W' := by
  obtain ⟨x, h1, h2⟩ := h
  exact ⟨x, h1.keep fun k hk _ h3 => hd.block h3 (by omega), h2⟩
set_option maxRecDepth 100000 in
set_option maxHeartbeats 1000000 in
theorem spec_MaxK (k m : Nat) (w : World) (hm : m = k - 1) (hk : k ≤ 100) : Calls Tryz.prog 53 #[I 0, I (IntKind.i64.wrap ((k : Int) - 1))] w fun e w' => e = .returned (I (m : Int)) ∧ w = w' := by
  rw [IntWalk.i64_in ((k : Int) - 1) (by omega)]
  go_enter Tryz.func53, Tryz.ntmps53
  by_cases h : 1 < k
  · have e1 : (k : Int) - 1 = (m : Int) := by omega
    rw [e1]
    have h0 : (0 : Int) < (m : Int) := by omega
    go_wp2_with fail
    go_ret
    exact ⟨rfl, rfl⟩
  · obtain rfl : m = 0 := by omega
    have h0 : ¬ (0 : Int) < (k : Int) - 1 := by omega
    go_wp2_with fail
    go_ret
    exact ⟨by first | rfl | (simp; omega), rfl⟩
end Go.Proofs.YtddaodemdkjijaaGreat
