/- The laws' helpers on SegmentDatabase: to.. (copy), eq.. (compare), sz.. (count), mark.. and held... Printed by gen.py. -/
import Derived.Test.YtcalbcjheenmgaaHSegment
import Derived.Test.YtcalbcjheenmgaaNest
import Derived.Test.YtcalbcjheenmgaaMarkRows
import Derived.Test.YtcalbcjheenmgaaPush
import Derived.Test.YtcalbcjheenmgaaTyped
namespace Go.Proofs.Ytcalbcjheenmgaa
open Go.RowKit
set_option linter.unusedVariables false
theorem info_SegmentDatabase : (Try.prog.info? 87).map (fun i => (i.zero, i.size, i.bytes)) = some (some (.agg #[.slice none 0 0, .slice none 0 0]), 2, 48) := by kernel_rfl

def SegmentDatabaseO (lo hi : Nat) (w : World) (v : Value) (x : DSegmentDatabase) : Prop := ∃ u0 u1 m1, v = .agg #[u0, u1] ∧ SegmentSO lo m1 w u0 x.down ∧ SegmentSO m1 hi w u1 x.core ∧ lo ≤ m1 ∧ m1 ≤ hi
theorem SegmentDatabaseO.keep {lo hi : Nat} {w w' : World} {v : Value} {x : DSegmentDatabase} (h : SegmentDatabaseO lo hi w v x) (hk : ∀ k, lo ≤ k → k < hi → k < w.heap.size → w'.heap[k]? = w.heap[k]?) : SegmentDatabaseO lo hi w' v x := by
  obtain ⟨u0, u1, m1, e, o0, o1, l0, l1⟩ := h
  exact ⟨u0, u1, m1, e, SegmentSO_keep o0 (fun k h1 h2 h3 => hk k (by omega) (by omega) h3), SegmentSO_keep o1 (fun k h1 h2 h3 => hk k (by omega) (by omega) h3), l0, l1⟩
theorem SegmentDatabaseO.v {lo hi : Nat} {w : World} {v : Value} {x : DSegmentDatabase} (h : SegmentDatabaseO lo hi w v x) : SegmentDatabaseV hi w v x := by
  obtain ⟨u0, u1, m1, e, o0, o1, l0, l1⟩ := h
  have s0 := (NO.sl (At := SegmentAt) (pos := fun k => k * 3) o0 (fun _ => rfl) SegmentOC.at_)
  obtain ⟨A0, n0, c0, rfl, _⟩ := id s0
  have s1 := (NO.sl (At := SegmentAt) (pos := fun k => k * 3) o1 (fun _ => rfl) SegmentOC.at_)
  obtain ⟨A1, n1, c1, rfl, _⟩ := id s1
  exact ⟨_, _, _, _, _, _, e, s0.keep SegmentAt.keeps (by omega) (fun _ _ => rfl), s1.keep SegmentAt.keeps (by omega) (fun _ _ => rfl)⟩
theorem SegmentDatabaseO.shape {lo hi : Nat} {w : World} {v : Value} {x : DSegmentDatabase} (h : SegmentDatabaseO lo hi w v x) : ∃ A0 n0 c0, ∃ A1 n1 c1, v = .agg #[.slice A0 n0 c0, .slice A1 n1 c1] := by
  obtain ⟨A0, n0, c0, A1, n1, c1, e, _, _⟩ := h.v
  exact ⟨A0, n0, c0, A1, n1, c1, e⟩
theorem SegmentDatabaseO.ext {lo hi : Nat} {w w' : World} {v : Value} {x : DSegmentDatabase} (h : SegmentDatabaseO lo hi w v x) (he : Ext w w') (hhi : hi ≤ w.heap.size) : SegmentDatabaseO lo hi w' v x := h.keep fun k _ _ h3 => he.same k h3
theorem SegmentDatabaseO.drew {lo hi : Nat} {w : World} {v : Value} {x : DSegmentDatabase} (h : SegmentDatabaseO lo hi w v x) : SegmentDatabaseO lo hi w.drew v x := h.keep fun _ _ _ _ => rfl
theorem SegmentDatabaseO.out {lo hi lo' hi' : Nat} {w w' : World} {v : Value} {x : DSegmentDatabase} (h : SegmentDatabaseO lo hi w v x) (ho : Out lo' hi' w w') (hd : hi' ≤ lo ∨ hi ≤ lo') : SegmentDatabaseO lo hi w' v x := h.keep fun k h1 h2 h3 => ho.block k h3 (by omega)
theorem SegmentDatabaseO.more {lo hi lo' hi' : Nat} {w : World} {v : Value} {x : DSegmentDatabase} (h : SegmentDatabaseO lo hi w v x) (h1 : lo' ≤ lo) (h2 : hi ≤ hi') : SegmentDatabaseO lo' hi' w v x := by
  obtain ⟨u0, u1, m1, e, o0, o1, l0, l1⟩ := h
  exact ⟨u0, u1, m1, e, NO.more o0 h1 (Nat.le_refl _), NO.more o1 (Nat.le_refl _) h2, by omega, by omega⟩
theorem SegmentDatabaseO.up {lo : Nat} {w w' : World} {v : Value} {x : DSegmentDatabase} (h : SegmentDatabaseO lo w.heap.size w v x) (he : Ext w w') : SegmentDatabaseO lo w'.heap.size w' v x := (h.ext he (Nat.le_refl _)).more (Nat.le_refl _) he.size
theorem SegmentDatabaseO.setT {lo hi g : Nat} {w : World} {v : Value} {x : DSegmentDatabase} {cs' : List Value} (h : SegmentDatabaseO lo hi w v x) (hb : Blk w g 87 cs') (i : Nat) (u : Value) : SegmentDatabaseO lo hi (w.setCell ⟨g, i, none⟩ u) v x := by
  obtain ⟨u0, u1, m1, e, o0, o1, l0, l1⟩ := h
  exact ⟨u0, u1, m1, e, NO.setT SegmentOC.keeps (SegmentOC.typed _ (by decide)) o0 hb (by decide) i u, NO.setT SegmentOC.keeps (SegmentOC.typed _ (by decide)) o1 hb (by decide) i u, l0, l1⟩
theorem SegmentDatabaseO_rd {lo hi : Nat} {w : World} {v : Value} {x : DSegmentDatabase} (h : SegmentDatabaseO lo hi w v x) (hhi : hi ≤ w.heap.size) : SegmentDatabaseV w.heap.size w v x := h.v.keep hhi (fun _ _ => rfl)
set_option maxRecDepth 100000 in
set_option maxHeartbeats 1000000 in
theorem toSegmentDatabase (v : Value) (x : DSegmentDatabase) (w : World) (h : SegmentDatabaseV w.heap.size w v x) (hn : totS (fun y => y.hops.length) x.down + totS (fun y => y.hops.length) x.core ≤ 16777216) :
    Calls Try.prog 40 #[v] w fun e w' => ∃ v', e = .returned v' ∧ SegmentDatabaseO w.heap.size w'.heap.size w' v' x ∧ Ext w w' := by
  obtain ⟨A0, n0, c0, A1, n1, c1, rfl, s0, s1⟩ := h
  have S0 := Lib.hid s0; clear s0
  have S1 := Lib.hid s1; clear s1
  go_enter Try.func40, Try.ntmps40
  go_wp2_with fail
  refine (toSegmentS _ x.down _ (by exact S0.out.ext (by repeat (first | (with_reducible exact Ext.refl _) | (with_reducible assumption) | (with_reducible refine Ext.alloc ?_ _) | (with_reducible refine Ext.drew ?_) | (with_reducible refine Ext.drewN ?_ _) | (with_reducible refine Ext.setCell (p := _) ?_ ?ge _; case ge => (dsimp only; omega)) | (with_reducible refine Ext.trans ?_ (by with_reducible assumption))))) (by omega)).mono ?_
  rintro e w0 ⟨v0, rfl, ho0, he0⟩
  obtain ⟨hc0, hf0, hz0⟩ := he0.facts
  simp only [World.size_alloc] at hz0 hc0 hf0
  have la0 : w.heap.size < w0.heap.size := by omega
  have lb0 : w.heap.size + 1 < w0.heap.size := by omega
  have lc0 : w.heap.size + 1 + 1 < w0.heap.size := by omega
  simp only [World.size_alloc] at ho0
  have O0 := Lib.hid ho0; clear ho0
  obtain ⟨a0, m0, q0, hv0⟩ : ∃ a n c, v0 = .slice a n c := NO.slice O0.out
  subst hv0
  go_wp2_with fail
  refine (toSegmentS _ x.core _ (by exact S1.out.ext (by repeat (first | (with_reducible exact Ext.refl _) | (with_reducible assumption) | (with_reducible refine Ext.alloc ?_ _) | (with_reducible refine Ext.drew ?_) | (with_reducible refine Ext.drewN ?_ _) | (with_reducible refine Ext.setCell (p := _) ?_ ?ge _; case ge => (dsimp only; omega)) | (with_reducible refine Ext.trans ?_ (by with_reducible assumption))))) (by omega)).mono ?_
  rintro e w1 ⟨v1, rfl, ho1, he1⟩
  obtain ⟨hc1, hf1, hz1⟩ := he1.facts
  simp only [World.size_setCell] at hz1 hc1 hf1
  have la1 : w.heap.size < w1.heap.size := by omega
  have lb1 : w.heap.size + 1 < w1.heap.size := by omega
  have lc1 : w.heap.size + 1 + 1 < w1.heap.size := by omega
  simp only [World.size_setCell] at ho1
  have O1 := Lib.hid ho1; clear ho1
  obtain ⟨a1, m1, q1, hv1⟩ : ∃ a n c, v1 = .slice a n c := NO.slice O1.out
  subst hv1
  go_wp2_with fail
  refine bodyPost_ret (v := .agg #[.slice a0 m0 q0, .slice a1 m1 q1]) (by simp [results, Try.results40, go_sem, *]) rfl ⟨_, rfl, ?_, ?_⟩
  · simp only [World.size_setCell]
    refine ⟨_, _, w0.heap.size, rfl, NO.more (lo := w.heap.size + 1 + 1 + 1) (hi := w0.heap.size) (by repeat (first | (with_reducible exact O0.out) | (with_reducible refine SegmentSO_alloc ?_ _) | (with_reducible refine SegmentSO_setCell (p := _) ?_ (.inl ?ge) _; case ge => (first | omega | (dsimp only; omega) | (simp only [World.size_setCell]; omega) | (simp only [World.size_alloc]; omega))) | (with_reducible refine SegmentSO_ext ?_ (by with_reducible assumption) ?ge; case ge => (first | omega | (dsimp only; omega) | (simp only [World.size_setCell]; omega) | (simp only [World.size_alloc]; omega))))) (by omega) (by omega), NO.more (lo := w0.heap.size) (hi := w1.heap.size) (by repeat (first | (with_reducible exact O1.out) | (with_reducible refine SegmentSO_alloc ?_ _) | (with_reducible refine SegmentSO_setCell (p := _) ?_ (.inl ?ge) _; case ge => (first | omega | (dsimp only; omega) | (simp only [World.size_setCell]; omega) | (simp only [World.size_alloc]; omega))) | (with_reducible refine SegmentSO_ext ?_ (by with_reducible assumption) ?ge; case ge => (first | omega | (dsimp only; omega) | (simp only [World.size_setCell]; omega) | (simp only [World.size_alloc]; omega))))) (by omega) (by omega), by omega, by omega⟩
  · exact (by repeat (first | (with_reducible exact Ext.refl _) | (with_reducible assumption) | (with_reducible refine Ext.alloc ?_ _) | (with_reducible refine Ext.drew ?_) | (with_reducible refine Ext.drewN ?_ _) | (with_reducible refine Ext.setCell (p := _) ?_ ?ge _; case ge => (dsimp only; omega)) | (with_reducible refine Ext.trans ?_ (by with_reducible assumption))))
set_option maxRecDepth 100000 in
set_option maxHeartbeats 1000000 in
theorem eqSegmentDatabase (v1 v2 : Value) (x y : DSegmentDatabase) (w : World) (h1 : SegmentDatabaseV w.heap.size w v1 x) (h2 : SegmentDatabaseV w.heap.size w v2 y) :
    Calls Try.prog 42 #[v1, v2] w fun e w' => e = .returned (.bool (decide (x = y))) ∧ Ext w w' := by
  obtain ⟨A10, n10, c10, A11, n11, c11, rfl, s10, s11⟩ := h1
  obtain ⟨A20, n20, c20, A21, n21, c21, rfl, s20, s21⟩ := h2
  have S10 := Lib.hid s10; clear s10
  have S11 := Lib.hid s11; clear s11
  have S20 := Lib.hid s20; clear s20
  have S21 := Lib.hid s21; clear s21
  go_enter Try.func42, Try.ntmps42
  go_wp2_with fail
  all_goals (try (go_ret; exact ⟨ret_bool (by simp_all [DSegmentDatabase.eq_iff]), (by repeat (first | (with_reducible exact Ext.refl _) | (with_reducible assumption) | (with_reducible refine Ext.alloc ?_ _) | (with_reducible refine Ext.drew ?_) | (with_reducible refine Ext.drewN ?_ _) | (with_reducible refine Ext.setCell (p := _) ?_ ?ge _; case ge => (dsimp only; omega)) | (with_reducible refine Ext.trans ?_ (by with_reducible assumption))))⟩))
  refine (eqSegmentS _ _ x.down y.down _ (by exact S10.out.ext (by repeat (first | (with_reducible exact Ext.refl _) | (with_reducible assumption) | (with_reducible refine Ext.alloc ?_ _) | (with_reducible refine Ext.drew ?_) | (with_reducible refine Ext.drewN ?_ _) | (with_reducible refine Ext.setCell (p := _) ?_ ?ge _; case ge => (dsimp only; omega)) | (with_reducible refine Ext.trans ?_ (by with_reducible assumption))))) (by exact S20.out.ext (by repeat (first | (with_reducible exact Ext.refl _) | (with_reducible assumption) | (with_reducible refine Ext.alloc ?_ _) | (with_reducible refine Ext.drew ?_) | (with_reducible refine Ext.drewN ?_ _) | (with_reducible refine Ext.setCell (p := _) ?_ ?ge _; case ge => (dsimp only; omega)) | (with_reducible refine Ext.trans ?_ (by with_reducible assumption)))))).mono ?_
  rintro e w1 ⟨rfl, he1⟩
  obtain ⟨hc1, hf1, hz1⟩ := he1.facts
  go_wp2_with fail
  all_goals (try (go_ret; exact ⟨ret_bool (by simp_all [DSegmentDatabase.eq_iff]), (by repeat (first | (with_reducible exact Ext.refl _) | (with_reducible assumption) | (with_reducible refine Ext.alloc ?_ _) | (with_reducible refine Ext.drew ?_) | (with_reducible refine Ext.drewN ?_ _) | (with_reducible refine Ext.setCell (p := _) ?_ ?ge _; case ge => (dsimp only; omega)) | (with_reducible refine Ext.trans ?_ (by with_reducible assumption))))⟩))
  refine (eqSegmentS _ _ x.core y.core _ (by exact S11.out.ext (by repeat (first | (with_reducible exact Ext.refl _) | (with_reducible assumption) | (with_reducible refine Ext.alloc ?_ _) | (with_reducible refine Ext.drew ?_) | (with_reducible refine Ext.drewN ?_ _) | (with_reducible refine Ext.setCell (p := _) ?_ ?ge _; case ge => (dsimp only; omega)) | (with_reducible refine Ext.trans ?_ (by with_reducible assumption))))) (by exact S21.out.ext (by repeat (first | (with_reducible exact Ext.refl _) | (with_reducible assumption) | (with_reducible refine Ext.alloc ?_ _) | (with_reducible refine Ext.drew ?_) | (with_reducible refine Ext.drewN ?_ _) | (with_reducible refine Ext.setCell (p := _) ?_ ?ge _; case ge => (dsimp only; omega)) | (with_reducible refine Ext.trans ?_ (by with_reducible assumption)))))).mono ?_
  rintro e w2 ⟨rfl, he2⟩
  obtain ⟨hc2, hf2, hz2⟩ := he2.facts
  go_wp2_with fail
  all_goals
    go_ret
    exact ⟨ret_bool (by simp_all [DSegmentDatabase.eq_iff]), (by repeat (first | (with_reducible exact Ext.refl _) | (with_reducible assumption) | (with_reducible refine Ext.alloc ?_ _) | (with_reducible refine Ext.drew ?_) | (with_reducible refine Ext.drewN ?_ _) | (with_reducible refine Ext.setCell (p := _) ?_ ?ge _; case ge => (dsimp only; omega)) | (with_reducible refine Ext.trans ?_ (by with_reducible assumption))))⟩
set_option maxRecDepth 100000 in
set_option maxHeartbeats 1000000 in
theorem szSegmentDatabase (v : Value) (x : DSegmentDatabase) (left : Int) (w : World) (h : SegmentDatabaseV w.heap.size w v x) (h0 : 0 ≤ left) (hl : left ≤ 1048576) :
    Calls Try.prog 38 #[v, I left] w fun e w' => e = .returned (I (szR (totS (fun y => y.hops.length) x.down + totS (fun y => y.hops.length) x.core) left)) ∧ Ext w w' := by
  obtain ⟨A0, n0, c0, A1, n1, c1, rfl, s0, s1⟩ := h
  have S0 := Lib.hid s0; clear s0
  have S1 := Lib.hid s1; clear s1
  go_enter Try.func38, Try.ntmps38
  go_wp2_with fail
  refine (szSegmentS _ x.down (left) _ (by exact S0.out.ext (by repeat (first | (with_reducible exact Ext.refl _) | (with_reducible assumption) | (with_reducible refine Ext.alloc ?_ _) | (with_reducible refine Ext.drew ?_) | (with_reducible refine Ext.drewN ?_ _) | (with_reducible refine Ext.setCell (p := _) ?_ ?ge _; case ge => (dsimp only; omega)) | (with_reducible refine Ext.trans ?_ (by with_reducible assumption))))) (by omega) (by omega)).mono ?_
  rintro e w1 ⟨rfl, he1⟩
  obtain ⟨hc1, hf1, hz1⟩ := he1.facts
  by_cases hlt0 : left < (((totS (fun y => y.hops.length) x.down) : Nat) : Int)
  · rw [szR_neg hlt0]
    go_wp2_with fail
    go_ret
    exact ⟨ret_int (szR_neg (by omega)).symm, (by repeat (first | (with_reducible exact Ext.refl _) | (with_reducible assumption) | (with_reducible refine Ext.alloc ?_ _) | (with_reducible refine Ext.drew ?_) | (with_reducible refine Ext.drewN ?_ _) | (with_reducible refine Ext.setCell (p := _) ?_ ?ge _; case ge => (dsimp only; omega)) | (with_reducible refine Ext.trans ?_ (by with_reducible assumption))))⟩
  · rw [szR_pos (by omega)]
    go_wp2_with fail
    refine (szSegmentS _ x.core (left - (((totS (fun y => y.hops.length) x.down) : Nat) : Int)) _ (by exact S1.out.ext (by repeat (first | (with_reducible exact Ext.refl _) | (with_reducible assumption) | (with_reducible refine Ext.alloc ?_ _) | (with_reducible refine Ext.drew ?_) | (with_reducible refine Ext.drewN ?_ _) | (with_reducible refine Ext.setCell (p := _) ?_ ?ge _; case ge => (dsimp only; omega)) | (with_reducible refine Ext.trans ?_ (by with_reducible assumption))))) (by omega) (by omega)).mono ?_
    rintro e w2 ⟨rfl, he2⟩
    obtain ⟨hc2, hf2, hz2⟩ := he2.facts
    by_cases hlt1 : left - (((totS (fun y => y.hops.length) x.down) : Nat) : Int) < (((totS (fun y => y.hops.length) x.core) : Nat) : Int)
    · rw [szR_neg hlt1]
      go_wp2_with fail
      go_ret
      exact ⟨ret_int (szR_neg (by omega)).symm, (by repeat (first | (with_reducible exact Ext.refl _) | (with_reducible assumption) | (with_reducible refine Ext.alloc ?_ _) | (with_reducible refine Ext.drew ?_) | (with_reducible refine Ext.drewN ?_ _) | (with_reducible refine Ext.setCell (p := _) ?_ ?ge _; case ge => (dsimp only; omega)) | (with_reducible refine Ext.trans ?_ (by with_reducible assumption))))⟩
    · rw [szR_pos (by omega)]
      go_wp2_with fail
      go_ret
      exact ⟨ret_int (by rw [szR_pos (by omega)] <;> omega), (by repeat (first | (with_reducible exact Ext.refl _) | (with_reducible assumption) | (with_reducible refine Ext.alloc ?_ _) | (with_reducible refine Ext.drew ?_) | (with_reducible refine Ext.drewN ?_ _) | (with_reducible refine Ext.setCell (p := _) ?_ ?ge _; case ge => (dsimp only; omega)) | (with_reducible refine Ext.trans ?_ (by with_reducible assumption))))⟩
/-- What marking from q on leaves. -/
def SegmentDatabaseNum1 (q : Nat) (x : DSegmentDatabase) : DSegmentDatabase := { down := (numS SegmentNumE SegmentCnt (q) x.down), core := (numS SegmentNumE SegmentCnt ((q + (x.down.map SegmentCnt).sum)) x.core) }
set_option maxRecDepth 100000 in
set_option maxHeartbeats 1000000 in
theorem markSegmentDatabase (v : Value) (x : DSegmentDatabase) (q lo hi : Nat) (w : World) (h : SegmentDatabaseO lo hi w v x) (hhi : hi ≤ w.heap.size) (hq : ((q + (x.down.map SegmentCnt).sum) + (x.core.map SegmentCnt).sum) ≤ 1000000000000000) :
    Calls Try.prog 44 #[v, I q] w fun e w' => e = .returned (I ((((q + (x.down.map SegmentCnt).sum) + (x.core.map SegmentCnt).sum) : Nat) : Int)) ∧ SegmentDatabaseO lo hi w' v (SegmentDatabaseNum1 q x) ∧ Out lo hi w w' := by
  obtain ⟨u0, u1, m1, rfl, o0, o1, l0, l1⟩ := h
  have O0 := Lib.hid o0; clear o0
  obtain ⟨a0, k0, c0, hv0⟩ := NO.slice O0.out
  subst hv0
  have O1 := Lib.hid o1; clear o1
  obtain ⟨a1, k1, c1, hv1⟩ := NO.slice O1.out
  subst hv1
  go_enter Try.func44, Try.ntmps44
  go_wp2_with fail
  refine (markSegmentS _ x.down q lo m1 _ (by exact (by repeat (first | (with_reducible exact O0.out) | (with_reducible refine SegmentSO_ext ?_ (by with_reducible assumption) ?ge; case ge => (first | omega | (simp only [World.size_alloc]; omega))) | (with_reducible refine SegmentSO_out ?_ (by with_reducible assumption) ?ge; case ge => omega) | (with_reducible refine SegmentSO_alloc ?_ _)))) (by omega)).mono ?_
  rintro e w0 ⟨rfl, p0, t0⟩
  have P0 := Lib.hid p0; clear p0
  have z0 := t0.size
  have hc0 : ∀ k o, k < lo ∨ hi ≤ k → k < _ → w0.cell? ⟨k, o, none⟩ = _ := fun k o h1 h2 => World.cell?_of_block (a := ⟨k, o, none⟩) (t0.block k h2 (by omega))
  simp only [World.size_alloc] at z0
  have lw0 : w.heap.size < w0.heap.size := by omega
  go_wp2_with fail
  refine (markSegmentS _ x.core (q + (x.down.map SegmentCnt).sum) m1 hi _ (by exact (by repeat (first | (with_reducible exact O1.out) | (with_reducible refine SegmentSO_ext ?_ (by with_reducible assumption) ?ge; case ge => (first | omega | (simp only [World.size_alloc]; omega))) | (with_reducible refine SegmentSO_out ?_ (by with_reducible assumption) ?ge; case ge => omega) | (with_reducible refine SegmentSO_alloc ?_ _)))) (by omega)).mono ?_
  rintro e w1 ⟨rfl, p1, t1⟩
  have P1 := Lib.hid p1; clear p1
  have z1 := t1.size
  have hc1 : ∀ k o, k < lo ∨ hi ≤ k → k < _ → w1.cell? ⟨k, o, none⟩ = _ := fun k o h1 h2 => World.cell?_of_block (a := ⟨k, o, none⟩) (t1.block k h2 (by omega))
  have lw1 : w.heap.size < w1.heap.size := by omega
  go_wp2_with fail
  go_ret
  have hOut : Out lo hi w w1 := (Out.trans (Out.trans (Out.of_ext (by repeat (first | (with_reducible exact Ext.refl _) | (with_reducible assumption) | (with_reducible refine Ext.alloc ?_ _) | (with_reducible refine Ext.drew ?_) | (with_reducible refine Ext.drewN ?_ _) | (with_reducible refine Ext.setCell (p := _) ?_ ?ge _; case ge => (dsimp only; omega)) | (with_reducible refine Ext.trans ?_ (by with_reducible assumption))))) (t0.mono (by omega) (by omega))) (t1.mono (by omega) (by omega)))
  have HOUT := Lib.hid hOut; clear hOut
  exact ⟨rfl, ⟨_, _, _, rfl, (by unfold SegmentDatabaseNum1; dsimp only; exact (by repeat (first | (with_reducible exact P0.out) | (with_reducible refine SegmentSO_ext ?_ (by with_reducible assumption) ?ge; case ge => (first | omega | (simp only [World.size_alloc]; omega))) | (with_reducible refine SegmentSO_out ?_ (by with_reducible assumption) ?ge; case ge => omega) | (with_reducible refine SegmentSO_alloc ?_ _)))), (by unfold SegmentDatabaseNum1; dsimp only; exact (by repeat (first | (with_reducible exact P1.out) | (with_reducible refine SegmentSO_ext ?_ (by with_reducible assumption) ?ge; case ge => (first | omega | (simp only [World.size_alloc]; omega))) | (with_reducible refine SegmentSO_out ?_ (by with_reducible assumption) ?ge; case ge => omega) | (with_reducible refine SegmentSO_alloc ?_ _)))), l0, l1⟩, HOUT.out⟩
set_option maxRecDepth 100000 in
set_option maxHeartbeats 1000000 in
theorem heldSegmentDatabase (v : Value) (x : DSegmentDatabase) (q : Nat) (w : World) (h : SegmentDatabaseV w.heap.size w v (SegmentDatabaseNum1 q x)) (hq : ((q + (x.down.map SegmentCnt).sum) + (x.core.map SegmentCnt).sum) ≤ 1000000000000000) :
    Calls Try.prog 45 #[v, I q] w fun e w' => e = .returned (I ((((q + (x.down.map SegmentCnt).sum) + (x.core.map SegmentCnt).sum) : Nat) : Int)) ∧ Ext w w' := by
  obtain ⟨A0, n0, c0, A1, n1, c1, rfl, s0, s1⟩ := h
  have S0 := Lib.hid s0; clear s0
  have S1 := Lib.hid s1; clear s1
  go_enter Try.func45, Try.ntmps45
  go_wp2_with fail
  refine (heldSegmentS _ x.down q _ (by exact S0.out.ext (by repeat (first | (with_reducible exact Ext.refl _) | (with_reducible assumption) | (with_reducible refine Ext.alloc ?_ _) | (with_reducible refine Ext.drew ?_) | (with_reducible refine Ext.drewN ?_ _) | (with_reducible refine Ext.setCell (p := _) ?_ ?ge _; case ge => (dsimp only; omega)) | (with_reducible refine Ext.trans ?_ (by with_reducible assumption))))) (by omega)).mono ?_
  rintro e w0 ⟨rfl, e0⟩
  obtain ⟨hc0, -, hz0⟩ := e0.facts
  simp only [World.size_alloc] at hz0 hc0
  have lw0 : w.heap.size < w0.heap.size := by omega
  have j0 : ¬ (((q + (x.down.map SegmentCnt).sum) : Nat) : Int) < 0 := by omega
  go_wp2_with fail
  refine (heldSegmentS _ x.core (q + (x.down.map SegmentCnt).sum) _ (by exact S1.out.ext (by repeat (first | (with_reducible exact Ext.refl _) | (with_reducible assumption) | (with_reducible refine Ext.alloc ?_ _) | (with_reducible refine Ext.drew ?_) | (with_reducible refine Ext.drewN ?_ _) | (with_reducible refine Ext.setCell (p := _) ?_ ?ge _; case ge => (dsimp only; omega)) | (with_reducible refine Ext.trans ?_ (by with_reducible assumption))))) (by omega)).mono ?_
  rintro e w1 ⟨rfl, e1⟩
  obtain ⟨hc1, -, hz1⟩ := e1.facts
  have lw1 : w.heap.size < w1.heap.size := by omega
  have j1 : ¬ ((((q + (x.down.map SegmentCnt).sum) + (x.core.map SegmentCnt).sum) : Nat) : Int) < 0 := by omega
  go_wp2_with fail
  go_ret
  exact ⟨rfl, (by repeat (first | (with_reducible exact Ext.refl _) | (with_reducible assumption) | (with_reducible refine Ext.alloc ?_ _) | (with_reducible refine Ext.drew ?_) | (with_reducible refine Ext.drewN ?_ _) | (with_reducible refine Ext.setCell (p := _) ?_ ?ge _; case ge => (dsimp only; omega)) | (with_reducible refine Ext.trans ?_ (by with_reducible assumption))))⟩
/-- How many numbers an element takes, and the element with its numbers from q on. -/
def SegmentDatabaseCnt (x : DSegmentDatabase) : Nat := 0 + (x.down.map SegmentCnt).sum + (x.core.map SegmentCnt).sum
def SegmentDatabaseNumE (q : Nat) (x : DSegmentDatabase) : DSegmentDatabase := ⟨(numS SegmentNumE SegmentCnt ((q)) x.down), (numS SegmentNumE SegmentCnt ((q + (x.down.map SegmentCnt).sum)) x.core)⟩
theorem SegmentDatabaseCnt_le (x : DSegmentDatabase) : SegmentDatabaseCnt x ≤ 10 + 10 * (totS (fun y => y.hops.length) x.down + totS (fun y => y.hops.length) x.core) := by
  unfold SegmentDatabaseCnt
  have := SegmentCnt_sum x.down
  have := SegmentCnt_sum x.core
  omega
theorem SegmentDatabaseCnt_sum (l : List DSegmentDatabase) : (l.map SegmentDatabaseCnt).sum ≤ 10 * (totS (fun y => totS (fun y => y.hops.length) y.down + totS (fun y => y.hops.length) y.core) l) := cnt_le (fun x => SegmentDatabaseCnt_le x) l
end Go.Proofs.Ytcalbcjheenmgaa
