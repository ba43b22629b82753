/- The laws' helpers on Beaconing: to.. (copy), eq.. (compare), sz.. (count), mark.. and held... Printed by gen.py. -/
import Derived.Test.YtmnipolfdaajmaaHBeaconStore
import Derived.Test.YtmnipolfdaajmaaNest
namespace Go.Proofs.Ytmnipolfdaajmaa
open Go.RowKit
set_option linter.unusedVariables false
theorem info_Beaconing : (Try.prog.info? 103).map (fun i => (i.zero, i.size, i.bytes)) = some (some (.agg #[.int .i64 0, .slice none 0 0]), 2, 32) := by kernel_rfl

def BeaconingO (lo hi : Nat) (w : World) (v : Value) (x : DBeaconing) : Prop := ∃ u1, v = .agg #[I x.ts, u1] ∧ BeaconStoreSO lo hi w u1 x.stores ∧ lo ≤ hi
theorem BeaconingO.keep {lo hi : Nat} {w w' : World} {v : Value} {x : DBeaconing} (h : BeaconingO lo hi w v x) (hk : ∀ k, lo ≤ k → k < hi → k < w.heap.size → w'.heap[k]? = w.heap[k]?) : BeaconingO lo hi w' v x := by
  obtain ⟨u1, e, o1, l0⟩ := h
  exact ⟨u1, e, BeaconStoreSO_keep o1 (fun k h1 h2 h3 => hk k (by omega) (by omega) h3), l0⟩
theorem BeaconingO.v {lo hi : Nat} {w : World} {v : Value} {x : DBeaconing} (h : BeaconingO lo hi w v x) : BeaconingV hi w v x := by
  obtain ⟨u1, e, o1, l0⟩ := h
  have s1 := (NO.sl (At := BeaconStoreAt) (pos := fun k => k) o1 (fun _ => (Nat.mul_one _).symm) BeaconStoreOC.at_)
  obtain ⟨A1, n1, c1, rfl, _⟩ := id s1
  exact ⟨_, _, _, e, s1.keep BeaconStoreAt.keeps (by omega) (fun _ _ => rfl)⟩
theorem BeaconingO.shape {lo hi : Nat} {w : World} {v : Value} {x : DBeaconing} (h : BeaconingO lo hi w v x) : ∃ A1 n1 c1, v = .agg #[I x.ts, .slice A1 n1 c1] := by
  obtain ⟨A1, n1, c1, e, _⟩ := h.v
  exact ⟨A1, n1, c1, e⟩
theorem BeaconingO.ext {lo hi : Nat} {w w' : World} {v : Value} {x : DBeaconing} (h : BeaconingO lo hi w v x) (he : Ext w w') (hhi : hi ≤ w.heap.size) : BeaconingO lo hi w' v x := h.keep fun k _ _ h3 => he.same k h3
theorem BeaconingO.drew {lo hi : Nat} {w : World} {v : Value} {x : DBeaconing} (h : BeaconingO lo hi w v x) : BeaconingO lo hi w.drew v x := h.keep fun _ _ _ _ => rfl
theorem BeaconingO.out {lo hi lo' hi' : Nat} {w w' : World} {v : Value} {x : DBeaconing} (h : BeaconingO lo hi w v x) (ho : Out lo' hi' w w') (hd : hi' ≤ lo ∨ hi ≤ lo') : BeaconingO lo hi w' v x := h.keep fun k h1 h2 h3 => ho.block k h3 (by omega)
theorem BeaconingO_rd {lo hi : Nat} {w : World} {v : Value} {x : DBeaconing} (h : BeaconingO lo hi w v x) (hhi : hi ≤ w.heap.size) : BeaconingV w.heap.size w v x := h.v.keep hhi (fun _ _ => rfl)
set_option maxRecDepth 100000 in
set_option maxHeartbeats 1000000 in
theorem toBeaconing (v : Value) (x : DBeaconing) (w : World) (h : BeaconingV w.heap.size w v x) (hn : totS (fun y => totS (fun y => y.seg.hops.length) y.beacons) x.stores ≤ 16777216) :
    Calls Try.prog 54 #[v] w fun e w' => ∃ v', e = .returned v' ∧ BeaconingO w.heap.size w'.heap.size w' v' x ∧ Ext w w' := by
  obtain ⟨A1, n1, c1, rfl, s1⟩ := h
  have S1 := Lib.hid s1; clear s1
  go_enter Try.func54, Try.ntmps54
  go_wp2_with fail
  refine (toBeaconStoreS _ x.stores _ (by exact S1.out.ext (by repeat (first | (with_reducible exact Ext.refl _) | (with_reducible assumption) | (with_reducible refine Ext.alloc ?_ _) | (with_reducible refine Ext.drew ?_) | (with_reducible refine Ext.drewN ?_ _) | (with_reducible refine Ext.setCell (p := _) ?_ ?ge _; case ge => (dsimp only; omega)) | (with_reducible refine Ext.trans ?_ (by with_reducible assumption))))) (by omega)).mono ?_
  rintro e w1 ⟨v1, rfl, ho1, he1⟩
  obtain ⟨hc1, hf1, hz1⟩ := he1.facts
  simp only [World.size_alloc] at hz1 hc1 hf1
  have la1 : w.heap.size < w1.heap.size := by omega
  have lb1 : w.heap.size + 1 < w1.heap.size := by omega
  have lc1 : w.heap.size + 1 + 1 < w1.heap.size := by omega
  simp only [World.size_alloc] at ho1
  have O1 := Lib.hid ho1; clear ho1
  obtain ⟨a1, m1, q1, hv1⟩ : ∃ a n c, v1 = .slice a n c := NO.slice O1.out
  subst hv1
  go_wp2_with fail
  refine bodyPost_ret (v := .agg #[I x.ts, .slice a1 m1 q1]) (by simp [results, Try.results54, go_sem, *]) rfl ⟨_, rfl, ?_, ?_⟩
  · simp only [World.size_setCell]
    refine ⟨_, rfl, NO.more (lo := w.heap.size + 1 + 1 + 1) (hi := w1.heap.size) (by repeat (first | (with_reducible exact O1.out) | (with_reducible refine BeaconStoreSO_alloc ?_ _) | (with_reducible refine BeaconStoreSO_setCell (p := _) ?_ (.inl ?ge) _; case ge => (first | omega | (dsimp only; omega) | (simp only [World.size_setCell]; omega) | (simp only [World.size_alloc]; omega))) | (with_reducible refine BeaconStoreSO_ext ?_ (by with_reducible assumption) ?ge; case ge => (first | omega | (dsimp only; omega) | (simp only [World.size_setCell]; omega) | (simp only [World.size_alloc]; omega))))) (by omega) (by omega), by omega⟩
  · exact (by repeat (first | (with_reducible exact Ext.refl _) | (with_reducible assumption) | (with_reducible refine Ext.alloc ?_ _) | (with_reducible refine Ext.drew ?_) | (with_reducible refine Ext.drewN ?_ _) | (with_reducible refine Ext.setCell (p := _) ?_ ?ge _; case ge => (dsimp only; omega)) | (with_reducible refine Ext.trans ?_ (by with_reducible assumption))))
set_option maxRecDepth 100000 in
set_option maxHeartbeats 1000000 in
theorem eqBeaconing (v1 v2 : Value) (x y : DBeaconing) (w : World) (h1 : BeaconingV w.heap.size w v1 x) (h2 : BeaconingV w.heap.size w v2 y) :
    Calls Try.prog 56 #[v1, v2] w fun e w' => e = .returned (.bool (decide (x = y))) ∧ Ext w w' := by
  obtain ⟨A11, n11, c11, rfl, s11⟩ := h1
  obtain ⟨A21, n21, c21, rfl, s21⟩ := h2
  have S11 := Lib.hid s11; clear s11
  have S21 := Lib.hid s21; clear s21
  go_enter Try.func56, Try.ntmps56
  go_wp2_with fail
  all_goals (try (go_ret; exact ⟨ret_bool (by simp_all [DBeaconing.eq_iff]), (by repeat (first | (with_reducible exact Ext.refl _) | (with_reducible assumption) | (with_reducible refine Ext.alloc ?_ _) | (with_reducible refine Ext.drew ?_) | (with_reducible refine Ext.drewN ?_ _) | (with_reducible refine Ext.setCell (p := _) ?_ ?ge _; case ge => (dsimp only; omega)) | (with_reducible refine Ext.trans ?_ (by with_reducible assumption))))⟩))
  refine (eqBeaconStoreS _ _ x.stores y.stores _ (by exact S11.out.ext (by repeat (first | (with_reducible exact Ext.refl _) | (with_reducible assumption) | (with_reducible refine Ext.alloc ?_ _) | (with_reducible refine Ext.drew ?_) | (with_reducible refine Ext.drewN ?_ _) | (with_reducible refine Ext.setCell (p := _) ?_ ?ge _; case ge => (dsimp only; omega)) | (with_reducible refine Ext.trans ?_ (by with_reducible assumption))))) (by exact S21.out.ext (by repeat (first | (with_reducible exact Ext.refl _) | (with_reducible assumption) | (with_reducible refine Ext.alloc ?_ _) | (with_reducible refine Ext.drew ?_) | (with_reducible refine Ext.drewN ?_ _) | (with_reducible refine Ext.setCell (p := _) ?_ ?ge _; case ge => (dsimp only; omega)) | (with_reducible refine Ext.trans ?_ (by with_reducible assumption)))))).mono ?_
  rintro e w2 ⟨rfl, he2⟩
  obtain ⟨hc2, hf2, hz2⟩ := he2.facts
  go_wp2_with fail
  all_goals
    go_ret
    exact ⟨ret_bool (by simp_all [DBeaconing.eq_iff]), (by repeat (first | (with_reducible exact Ext.refl _) | (with_reducible assumption) | (with_reducible refine Ext.alloc ?_ _) | (with_reducible refine Ext.drew ?_) | (with_reducible refine Ext.drewN ?_ _) | (with_reducible refine Ext.setCell (p := _) ?_ ?ge _; case ge => (dsimp only; omega)) | (with_reducible refine Ext.trans ?_ (by with_reducible assumption))))⟩
set_option maxRecDepth 100000 in
set_option maxHeartbeats 1000000 in
theorem szBeaconing (v : Value) (x : DBeaconing) (left : Int) (w : World) (h : BeaconingV w.heap.size w v x) (h0 : 0 ≤ left) (hl : left ≤ 1048576) :
    Calls Try.prog 52 #[v, I left] w fun e w' => e = .returned (I (szR (totS (fun y => totS (fun y => y.seg.hops.length) y.beacons) x.stores) left)) ∧ Ext w w' := by
  obtain ⟨A1, n1, c1, rfl, s1⟩ := h
  have S1 := Lib.hid s1; clear s1
  go_enter Try.func52, Try.ntmps52
  go_wp2_with fail
  refine (szBeaconStoreS _ x.stores (left) _ (by exact S1.out.ext (by repeat (first | (with_reducible exact Ext.refl _) | (with_reducible assumption) | (with_reducible refine Ext.alloc ?_ _) | (with_reducible refine Ext.drew ?_) | (with_reducible refine Ext.drewN ?_ _) | (with_reducible refine Ext.setCell (p := _) ?_ ?ge _; case ge => (dsimp only; omega)) | (with_reducible refine Ext.trans ?_ (by with_reducible assumption))))) (by omega) (by omega)).mono ?_
  rintro e w1 ⟨rfl, he1⟩
  obtain ⟨hc1, hf1, hz1⟩ := he1.facts
  by_cases hlt0 : left < (((totS (fun y => totS (fun y => y.seg.hops.length) y.beacons) x.stores) : Nat) : Int)
  · rw [szR_neg hlt0]
    go_wp2_with fail
    go_ret
    exact ⟨ret_int (szR_neg (by omega)).symm, (by repeat (first | (with_reducible exact Ext.refl _) | (with_reducible assumption) | (with_reducible refine Ext.alloc ?_ _) | (with_reducible refine Ext.drew ?_) | (with_reducible refine Ext.drewN ?_ _) | (with_reducible refine Ext.setCell (p := _) ?_ ?ge _; case ge => (dsimp only; omega)) | (with_reducible refine Ext.trans ?_ (by with_reducible assumption))))⟩
  · rw [szR_pos (by omega)]
    go_wp2_with fail
    go_ret
    exact ⟨ret_int (by rw [szR_pos (by omega)] <;> omega), (by repeat (first | (with_reducible exact Ext.refl _) | (with_reducible assumption) | (with_reducible refine Ext.alloc ?_ _) | (with_reducible refine Ext.drew ?_) | (with_reducible refine Ext.drewN ?_ _) | (with_reducible refine Ext.setCell (p := _) ?_ ?ge _; case ge => (dsimp only; omega)) | (with_reducible refine Ext.trans ?_ (by with_reducible assumption))))⟩
end Go.Proofs.Ytmnipolfdaajmaa
