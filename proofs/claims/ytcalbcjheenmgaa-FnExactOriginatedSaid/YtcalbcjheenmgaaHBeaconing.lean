/- The laws' helpers on Beaconing: to.. (copy), eq.. (compare), sz.. (count), mark.. and held... Printed by gen.py. -/
import Derived.Test.YtcalbcjheenmgaaHBeaconStore
import Derived.Test.YtcalbcjheenmgaaNest
import Derived.Test.YtcalbcjheenmgaaMarkRows
import Derived.Test.YtcalbcjheenmgaaPush
import Derived.Test.YtcalbcjheenmgaaTyped
namespace Go.Proofs.Ytcalbcjheenmgaa
open Go.RowKit
set_option linter.unusedVariables false
theorem info_Beaconing : (Try.prog.info? 97).map (fun i => (i.zero, i.size, i.bytes)) = some (some (.agg #[.int .i64 0, .slice none 0 0]), 2, 32) := by kernel_rfl

def BeaconingO (lo hi : Nat) (w : World) (v : Value) (x : DBeaconing) : Prop := ∃ u1, v = .agg #[I x.ts, u1] ∧ BeaconStoreSO lo hi w u1 x.stores ∧ lo ≤ hi
theorem BeaconingO.keep {lo hi : Nat} {w w' : World} {v : Value} {x : DBeaconing} (h : BeaconingO lo hi w v x) (hk : ∀ k, lo ≤ k → k < hi → k < w.heap.size → w'.heap[k]? = w.heap[k]?) : BeaconingO lo hi w' v x := by
  obtain ⟨u1, e, o1, l0⟩ := h
  exact ⟨u1, e, BeaconStoreSO_keep o1 (fun k h1 h2 h3 => hk k (by omega) (by omega) h3), l0⟩
theorem BeaconingO.v {lo hi : Nat} {w : World} {v : Value} {x : DBeaconing} (h : BeaconingO lo hi w v x) : BeaconingV hi w v x := by
  obtain ⟨u1, e, o1, l0⟩ := h
  have s1 := (NO.sl (At := BeaconStoreAt) (pos := fun k => k) o1 (fun _ => (Nat.mul_one _).symm) BeaconStoreOC.at_)
  obtain ⟨A1, n1, c1, rfl, _⟩ := id s1
  exact ⟨_, _, _, e, s1.keep BeaconStoreAt.keeps (by omega) (fun _ _ => rfl)⟩
theorem BeaconingO.shape {lo hi : Nat} {w : World} {v : Value} {x : DBeaconing} (h : BeaconingO lo hi w v x) : ∃ A1 n1 c1, v = .agg #[I x.ts, .slice A1 n1 c1] := by
  obtain ⟨A1, n1, c1, e, _⟩ := h.v
  exact ⟨A1, n1, c1, e⟩
theorem BeaconingO.ext {lo hi : Nat} {w w' : World} {v : Value} {x : DBeaconing} (h : BeaconingO lo hi w v x) (he : Ext w w') (hhi : hi ≤ w.heap.size) : BeaconingO lo hi w' v x := h.keep fun k _ _ h3 => he.same k h3
theorem BeaconingO.drew {lo hi : Nat} {w : World} {v : Value} {x : DBeaconing} (h : BeaconingO lo hi w v x) : BeaconingO lo hi w.drew v x := h.keep fun _ _ _ _ => rfl
theorem BeaconingO.out {lo hi lo' hi' : Nat} {w w' : World} {v : Value} {x : DBeaconing} (h : BeaconingO lo hi w v x) (ho : Out lo' hi' w w') (hd : hi' ≤ lo ∨ hi ≤ lo') : BeaconingO lo hi w' v x := h.keep fun k h1 h2 h3 => ho.block k h3 (by omega)
theorem BeaconingO.more {lo hi lo' hi' : Nat} {w : World} {v : Value} {x : DBeaconing} (h : BeaconingO lo hi w v x) (h1 : lo' ≤ lo) (h2 : hi ≤ hi') : BeaconingO lo' hi' w v x := by
  obtain ⟨u1, e, o1, l0⟩ := h
  exact ⟨u1, e, NO.more o1 h1 h2, by omega⟩
theorem BeaconingO.up {lo : Nat} {w w' : World} {v : Value} {x : DBeaconing} (h : BeaconingO lo w.heap.size w v x) (he : Ext w w') : BeaconingO lo w'.heap.size w' v x := (h.ext he (Nat.le_refl _)).more (Nat.le_refl _) he.size
theorem BeaconingO.setT {lo hi g : Nat} {w : World} {v : Value} {x : DBeaconing} {cs' : List Value} (h : BeaconingO lo hi w v x) (hb : Blk w g 97 cs') (i : Nat) (u : Value) : BeaconingO lo hi (w.setCell ⟨g, i, none⟩ u) v x := by
  obtain ⟨u1, e, o1, l0⟩ := h
  exact ⟨u1, e, NO.setT BeaconStoreOC.keeps (BeaconStoreOC.typed _ (by decide) (by decide)) o1 hb (by decide) i u, l0⟩
theorem BeaconingO_rd {lo hi : Nat} {w : World} {v : Value} {x : DBeaconing} (h : BeaconingO lo hi w v x) (hhi : hi ≤ w.heap.size) : BeaconingV w.heap.size w v x := h.v.keep hhi (fun _ _ => rfl)
set_option maxRecDepth 100000 in
set_option maxHeartbeats 1000000 in
theorem eqBeaconing (v1 v2 : Value) (x y : DBeaconing) (w : World) (h1 : BeaconingV w.heap.size w v1 x) (h2 : BeaconingV w.heap.size w v2 y) :
    Calls Try.prog 50 #[v1, v2] w fun e w' => e = .returned (.bool (decide (x = y))) ∧ Ext w w' := by
  obtain ⟨A11, n11, c11, rfl, s11⟩ := h1
  obtain ⟨A21, n21, c21, rfl, s21⟩ := h2
  have S11 := Lib.hid s11; clear s11
  have S21 := Lib.hid s21; clear s21
  go_enter Try.func50, Try.ntmps50
  go_wp2_with fail
  all_goals (try (go_ret; exact ⟨ret_bool (by simp_all [DBeaconing.eq_iff]), (by repeat (first | (with_reducible exact Ext.refl _) | (with_reducible assumption) | (with_reducible refine Ext.alloc ?_ _) | (with_reducible refine Ext.drew ?_) | (with_reducible refine Ext.drewN ?_ _) | (with_reducible refine Ext.setCell (p := _) ?_ ?ge _; case ge => (dsimp only; omega)) | (with_reducible refine Ext.trans ?_ (by with_reducible assumption))))⟩))
  refine (eqBeaconStoreS _ _ x.stores y.stores _ (by exact S11.out.ext (by repeat (first | (with_reducible exact Ext.refl _) | (with_reducible assumption) | (with_reducible refine Ext.alloc ?_ _) | (with_reducible refine Ext.drew ?_) | (with_reducible refine Ext.drewN ?_ _) | (with_reducible refine Ext.setCell (p := _) ?_ ?ge _; case ge => (dsimp only; omega)) | (with_reducible refine Ext.trans ?_ (by with_reducible assumption))))) (by exact S21.out.ext (by repeat (first | (with_reducible exact Ext.refl _) | (with_reducible assumption) | (with_reducible refine Ext.alloc ?_ _) | (with_reducible refine Ext.drew ?_) | (with_reducible refine Ext.drewN ?_ _) | (with_reducible refine Ext.setCell (p := _) ?_ ?ge _; case ge => (dsimp only; omega)) | (with_reducible refine Ext.trans ?_ (by with_reducible assumption)))))).mono ?_
  rintro e w2 ⟨rfl, he2⟩
  obtain ⟨hc2, hf2, hz2⟩ := he2.facts
  go_wp2_with fail
  all_goals
    go_ret
    exact ⟨ret_bool (by simp_all [DBeaconing.eq_iff]), (by repeat (first | (with_reducible exact Ext.refl _) | (with_reducible assumption) | (with_reducible refine Ext.alloc ?_ _) | (with_reducible refine Ext.drew ?_) | (with_reducible refine Ext.drewN ?_ _) | (with_reducible refine Ext.setCell (p := _) ?_ ?ge _; case ge => (dsimp only; omega)) | (with_reducible refine Ext.trans ?_ (by with_reducible assumption))))⟩
/-- What marking from q on leaves. -/
def BeaconingNum1 (q : Nat) (x : DBeaconing) : DBeaconing := { ts := x.ts, stores := (numS BeaconStoreNumE BeaconStoreCnt (q) x.stores) }
set_option maxRecDepth 100000 in
set_option maxHeartbeats 1000000 in
theorem markBeaconing (v : Value) (x : DBeaconing) (q lo hi : Nat) (w : World) (h : BeaconingO lo hi w v x) (hhi : hi ≤ w.heap.size) (hq : (q + (x.stores.map BeaconStoreCnt).sum) ≤ 1000000000000000) :
    Calls Try.prog 51 #[v, I q] w fun e w' => e = .returned (I (((q + (x.stores.map BeaconStoreCnt).sum) : Nat) : Int)) ∧ BeaconingO lo hi w' v (BeaconingNum1 q x) ∧ Out lo hi w w' := by
  obtain ⟨u1, rfl, o1, l0⟩ := h
  have O1 := Lib.hid o1; clear o1
  obtain ⟨a1, k1, c1, hv1⟩ := NO.slice O1.out
  subst hv1
  go_enter Try.func51, Try.ntmps51
  go_wp2_with fail
  refine (markBeaconStoreS _ x.stores q lo hi _ (by exact (by repeat (first | (with_reducible exact O1.out) | (with_reducible refine BeaconStoreSO_ext ?_ (by with_reducible assumption) ?ge; case ge => (first | omega | (simp only [World.size_alloc]; omega))) | (with_reducible refine BeaconStoreSO_out ?_ (by with_reducible assumption) ?ge; case ge => omega) | (with_reducible refine BeaconStoreSO_alloc ?_ _)))) (by omega)).mono ?_
  rintro e w1 ⟨rfl, p1, t1⟩
  have P1 := Lib.hid p1; clear p1
  have z1 := t1.size
  have hc1 : ∀ k o, k < lo ∨ hi ≤ k → k < _ → w1.cell? ⟨k, o, none⟩ = _ := fun k o h1 h2 => World.cell?_of_block (a := ⟨k, o, none⟩) (t1.block k h2 (by omega))
  simp only [World.size_alloc] at z1
  have lw1 : w.heap.size < w1.heap.size := by omega
  go_wp2_with fail
  go_ret
  have hOut : Out lo hi w w1 := (Out.trans (Out.of_ext (by repeat (first | (with_reducible exact Ext.refl _) | (with_reducible assumption) | (with_reducible refine Ext.alloc ?_ _) | (with_reducible refine Ext.drew ?_) | (with_reducible refine Ext.drewN ?_ _) | (with_reducible refine Ext.setCell (p := _) ?_ ?ge _; case ge => (dsimp only; omega)) | (with_reducible refine Ext.trans ?_ (by with_reducible assumption))))) (t1.mono (by omega) (by omega)))
  have HOUT := Lib.hid hOut; clear hOut
  exact ⟨rfl, ⟨_, rfl, (by unfold BeaconingNum1; dsimp only; exact (by repeat (first | (with_reducible exact P1.out) | (with_reducible refine BeaconStoreSO_ext ?_ (by with_reducible assumption) ?ge; case ge => (first | omega | (simp only [World.size_alloc]; omega))) | (with_reducible refine BeaconStoreSO_out ?_ (by with_reducible assumption) ?ge; case ge => omega) | (with_reducible refine BeaconStoreSO_alloc ?_ _)))), l0⟩, HOUT.out⟩
set_option maxRecDepth 100000 in
set_option maxHeartbeats 1000000 in
theorem heldBeaconing (v : Value) (x : DBeaconing) (q : Nat) (w : World) (h : BeaconingV w.heap.size w v (BeaconingNum1 q x)) (hq : (q + (x.stores.map BeaconStoreCnt).sum) ≤ 1000000000000000) :
    Calls Try.prog 52 #[v, I q] w fun e w' => e = .returned (I (((q + (x.stores.map BeaconStoreCnt).sum) : Nat) : Int)) ∧ Ext w w' := by
  obtain ⟨A1, n1, c1, rfl, s1⟩ := h
  have S1 := Lib.hid s1; clear s1
  go_enter Try.func52, Try.ntmps52
  go_wp2_with fail
  refine (heldBeaconStoreS _ x.stores q _ (by exact S1.out.ext (by repeat (first | (with_reducible exact Ext.refl _) | (with_reducible assumption) | (with_reducible refine Ext.alloc ?_ _) | (with_reducible refine Ext.drew ?_) | (with_reducible refine Ext.drewN ?_ _) | (with_reducible refine Ext.setCell (p := _) ?_ ?ge _; case ge => (dsimp only; omega)) | (with_reducible refine Ext.trans ?_ (by with_reducible assumption))))) (by omega)).mono ?_
  rintro e w1 ⟨rfl, e1⟩
  obtain ⟨hc1, -, hz1⟩ := e1.facts
  simp only [World.size_alloc] at hz1 hc1
  have lw1 : w.heap.size < w1.heap.size := by omega
  have j1 : ¬ (((q + (x.stores.map BeaconStoreCnt).sum) : Nat) : Int) < 0 := by omega
  go_wp2_with fail
  go_ret
  exact ⟨rfl, (by repeat (first | (with_reducible exact Ext.refl _) | (with_reducible assumption) | (with_reducible refine Ext.alloc ?_ _) | (with_reducible refine Ext.drew ?_) | (with_reducible refine Ext.drewN ?_ _) | (with_reducible refine Ext.setCell (p := _) ?_ ?ge _; case ge => (dsimp only; omega)) | (with_reducible refine Ext.trans ?_ (by with_reducible assumption))))⟩
/-- How many numbers an element takes, and the element with its numbers from q on. -/
def BeaconingCnt (x : DBeaconing) : Nat := 1 + (x.stores.map BeaconStoreCnt).sum
def BeaconingNumE (q : Nat) (x : DBeaconing) : DBeaconing := ⟨(q : Int), (numS BeaconStoreNumE BeaconStoreCnt ((q + 1)) x.stores)⟩
theorem BeaconingCnt_le (x : DBeaconing) : BeaconingCnt x ≤ 10 + 10 * (totS (fun y => totS (fun y => y.seg.hops.length) y.beacons) x.stores) := by
  unfold BeaconingCnt
  have := BeaconStoreCnt_sum x.stores
  omega
theorem BeaconingCnt_sum (l : List DBeaconing) : (l.map BeaconingCnt).sum ≤ 10 * (totS (fun y => totS (fun y => totS (fun y => y.seg.hops.length) y.beacons) y.stores) l) := cnt_le (fun x => BeaconingCnt_le x) l
end Go.Proofs.Ytcalbcjheenmgaa
