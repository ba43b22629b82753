/- The laws' helpers on SegmentDatabase: to.. (copy), eq.. (compare), sz.. (count), mark.. and held... Printed by gen.py. -/
import Derived.Test.YtdcfidlngbhpcaaGreatGHS
import Derived.Test.YtdcfidlngbhpcaaGreatGCore
import Derived.Test.YtdcfidlngbhpcaaGreatGGrow
namespace Go.Proofs.YtdcfidlngbhpcaaGreat
open Go.RowKit
set_option linter.unusedVariables false
theorem info_SegmentDatabase : (Tryz.prog.info? 37).map (fun i => (i.zero, i.size, i.bytes)) = some (some (.agg #[.slice none 0 0, .slice none 0 0]), 2, 48) := by kernel_rfl

def SegmentDatabaseO (lo hi : Nat) (w : World) (v : Value) (x : DSegmentDatabase) : Prop := ∃ u0 u1 m1, v = .agg #[u0, u1] ∧ SegmentSO lo m1 w u0 x.down ∧ SegmentSO m1 hi w u1 x.core ∧ lo ≤ m1 ∧ m1 ≤ hi
theorem SegmentDatabaseO.keep {lo hi : Nat} {w w' : World} {v : Value} {x : DSegmentDatabase} (h : SegmentDatabaseO lo hi w v x) (hk : ∀ k, lo ≤ k → k < hi → k < w.heap.size → w'.heap[k]? = w.heap[k]?) : SegmentDatabaseO lo hi w' v x := by
  obtain ⟨u0, u1, m1, e, o0, o1, l0, l1⟩ := h
  exact ⟨u0, u1, m1, e, SegmentSO_keep o0 (fun k h1 h2 h3 => hk k (by omega) (by omega) h3), SegmentSO_keep o1 (fun k h1 h2 h3 => hk k (by omega) (by omega) h3), l0, l1⟩
theorem SegmentDatabaseO.v {lo hi : Nat} {w : World} {v : Value} {x : DSegmentDatabase} (h : SegmentDatabaseO lo hi w v x) : SegmentDatabaseV hi w v x := by
  obtain ⟨u0, u1, m1, e, o0, o1, l0, l1⟩ := h
  have s0 := (NO.sl (At := SegmentAt) (pos := fun k => k * 3) o0 (fun _ => rfl) SegmentOC.at_)
  obtain ⟨A0, n0, c0, rfl, _⟩ := id s0
  have s1 := (NO.sl (At := SegmentAt) (pos := fun k => k * 3) o1 (fun _ => rfl) SegmentOC.at_)
  obtain ⟨A1, n1, c1, rfl, _⟩ := id s1
  exact ⟨_, _, _, _, _, _, e, s0.keep SegmentAt.keeps (by omega) (fun _ _ => rfl), s1.keep SegmentAt.keeps (by omega) (fun _ _ => rfl)⟩
theorem SegmentDatabaseO.shape {lo hi : Nat} {w : World} {v : Value} {x : DSegmentDatabase} (h : SegmentDatabaseO lo hi w v x) : ∃ A0 n0 c0, ∃ A1 n1 c1, v = .agg #[.slice A0 n0 c0, .slice A1 n1 c1] := by
  obtain ⟨A0, n0, c0, A1, n1, c1, e, _, _⟩ := h.v
  exact ⟨A0, n0, c0, A1, n1, c1, e⟩
theorem SegmentDatabaseO.ext {lo hi : Nat} {w w' : World} {v : Value} {x : DSegmentDatabase} (h : SegmentDatabaseO lo hi w v x) (he : Ext w w') (hhi : hi ≤ w.heap.size) : SegmentDatabaseO lo hi w' v x := h.keep fun k _ _ h3 => he.same k h3
theorem SegmentDatabaseO.drew {lo hi : Nat} {w : World} {v : Value} {x : DSegmentDatabase} (h : SegmentDatabaseO lo hi w v x) : SegmentDatabaseO lo hi w.drew v x := h.keep fun _ _ _ _ => rfl
theorem SegmentDatabaseO.out {lo hi lo' hi' : Nat} {w w' : World} {v : Value} {x : DSegmentDatabase} (h : SegmentDatabaseO lo hi w v x) (ho : Out lo' hi' w w') (hd : hi' ≤ lo ∨ hi ≤ lo') : SegmentDatabaseO lo hi w' v x := h.keep fun k h1 h2 h3 => ho.block k h3 (by omega)
theorem SegmentDatabaseO.more {lo hi lo' hi' : Nat} {w : World} {v : Value} {x : DSegmentDatabase} (h : SegmentDatabaseO lo hi w v x) (h1 : lo' ≤ lo) (h2 : hi ≤ hi') : SegmentDatabaseO lo' hi' w v x := by
  obtain ⟨u0, u1, m1, e, o0, o1, l0, l1⟩ := h
  exact ⟨u0, u1, m1, e, NO.more o0 h1 (Nat.le_refl _), NO.more o1 (Nat.le_refl _) h2, by omega, by omega⟩
theorem SegmentDatabaseO.up {lo : Nat} {w w' : World} {v : Value} {x : DSegmentDatabase} (h : SegmentDatabaseO lo w.heap.size w v x) (he : Ext w w') : SegmentDatabaseO lo w'.heap.size w' v x := (h.ext he (Nat.le_refl _)).more (Nat.le_refl _) he.size
theorem SegmentDatabaseO.setT {lo hi g : Nat} {w : World} {v : Value} {x : DSegmentDatabase} {cs' : List Value} (h : SegmentDatabaseO lo hi w v x) (hb : Blk w g 37 cs') (i : Nat) (u : Value) : SegmentDatabaseO lo hi (w.setCell ⟨g, i, none⟩ u) v x := by
  obtain ⟨u0, u1, m1, e, o0, o1, l0, l1⟩ := h
  exact ⟨u0, u1, m1, e, NO.setT SegmentOC.keeps (SegmentOC.typed _ (by decide)) o0 hb (by decide) i u, NO.setT SegmentOC.keeps (SegmentOC.typed _ (by decide)) o1 hb (by decide) i u, l0, l1⟩
theorem SegmentDatabaseO_rd {lo hi : Nat} {w : World} {v : Value} {x : DSegmentDatabase} (h : SegmentDatabaseO lo hi w v x) (hhi : hi ≤ w.heap.size) : SegmentDatabaseV w.heap.size w v x := h.v.keep hhi (fun _ _ => rfl)
set_option maxRecDepth 100000 in
set_option maxHeartbeats 1000000 in
theorem toSegmentDatabase (v : Value) (x : DSegmentDatabase) (w : World) (h : SegmentDatabaseV w.heap.size w v x) (hn : totS (fun y => y.hops.length) x.down + totS (fun y => y.hops.length) x.core ≤ 16777216) :
    Calls Tryz.prog 15 #[v] w fun e w' => ∃ v', e = .returned v' ∧ SegmentDatabaseO w.heap.size w'.heap.size w' v' x ∧ Ext w w' := by
  obtain ⟨A0, n0, c0, A1, n1, c1, rfl, s0, s1⟩ := h
  have S0 := Lib.hid s0; clear s0
  have S1 := Lib.hid s1; clear s1
  go_enter Tryz.func15, Tryz.ntmps15
  go_wp2_with fail
  refine (toSegmentS _ x.down _ (by exact S0.out.ext xe) (by omega)).mono ?_
  rintro e w0 ⟨v0, rfl, ho0, he0⟩
  obtain ⟨hc0, hf0, hz0⟩ := he0.facts
  simp only [World.size_alloc] at hz0 hc0 hf0
  have la0 : w.heap.size < w0.heap.size := by omega
  have lb0 : w.heap.size + 1 < w0.heap.size := by omega
  have lc0 : w.heap.size + 1 + 1 < w0.heap.size := by omega
  simp only [World.size_alloc] at ho0
  have O0 := Lib.hid ho0; clear ho0
  obtain ⟨a0, m0, q0, hv0⟩ : ∃ a n c, v0 = .slice a n c := NO.slice O0.out
  subst hv0
  go_wp2_with fail
  refine (toSegmentS _ x.core _ (by exact S1.out.ext xe) (by omega)).mono ?_
  rintro e w1 ⟨v1, rfl, ho1, he1⟩
  obtain ⟨hc1, hf1, hz1⟩ := he1.facts
  simp only [World.size_setCell] at hz1 hc1 hf1
  have la1 : w.heap.size < w1.heap.size := by omega
  have lb1 : w.heap.size + 1 < w1.heap.size := by omega
  have lc1 : w.heap.size + 1 + 1 < w1.heap.size := by omega
  simp only [World.size_setCell] at ho1
  have O1 := Lib.hid ho1; clear ho1
  obtain ⟨a1, m1, q1, hv1⟩ : ∃ a n c, v1 = .slice a n c := NO.slice O1.out
  subst hv1
  go_wp2_with fail
  refine bodyPost_ret (v := .agg #[.slice a0 m0 q0, .slice a1 m1 q1]) (by simp [results, Tryz.results15, go_sem, *]) rfl ⟨_, rfl, ?_, ?_⟩
  · simp only [World.size_setCell]
    refine ⟨_, _, w0.heap.size, rfl, NO.more (lo := w.heap.size + 1 + 1 + 1) (hi := w0.heap.size) (by repeat (first | (with_reducible exact O0.out) | (with_reducible refine SegmentSO_alloc ?_ _) | (with_reducible refine SegmentSO_setCell (p := _) ?_ (.inl ?ge) _; case ge => (first | omega | (dsimp only; omega) | (simp only [World.size_setCell]; omega) | (simp only [World.size_alloc]; omega))) | (with_reducible refine SegmentSO_ext ?_ (by with_reducible assumption) ?ge; case ge => (first | omega | (dsimp only; omega) | (simp only [World.size_setCell]; omega) | (simp only [World.size_alloc]; omega))))) (by omega) (by omega), NO.more (lo := w0.heap.size) (hi := w1.heap.size) (by repeat (first | (with_reducible exact O1.out) | (with_reducible refine SegmentSO_alloc ?_ _) | (with_reducible refine SegmentSO_setCell (p := _) ?_ (.inl ?ge) _; case ge => (first | omega | (dsimp only; omega) | (simp only [World.size_setCell]; omega) | (simp only [World.size_alloc]; omega))) | (with_reducible refine SegmentSO_ext ?_ (by with_reducible assumption) ?ge; case ge => (first | omega | (dsimp only; omega) | (simp only [World.size_setCell]; omega) | (simp only [World.size_alloc]; omega))))) (by omega) (by omega), by omega, by omega⟩
  · exact xe
set_option maxRecDepth 100000 in
set_option maxHeartbeats 1000000 in
theorem eqSegmentDatabase (v1 v2 : Value) (x y : DSegmentDatabase) (w : World) (h1 : SegmentDatabaseV w.heap.size w v1 x) (h2 : SegmentDatabaseV w.heap.size w v2 y) :
    Calls Tryz.prog 18 #[v1, v2] w fun e w' => e = .returned (.bool (decide (x = y))) ∧ Ext w w' := by
  obtain ⟨A10, n10, c10, A11, n11, c11, rfl, s10, s11⟩ := h1
  obtain ⟨A20, n20, c20, A21, n21, c21, rfl, s20, s21⟩ := h2
  have S10 := Lib.hid s10; clear s10
  have S11 := Lib.hid s11; clear s11
  have S20 := Lib.hid s20; clear s20
  have S21 := Lib.hid s21; clear s21
  go_enter Tryz.func18, Tryz.ntmps18
  go_wp2_with fail
  all_goals (try (go_ret; exact ⟨ret_bool (by simp_all [DSegmentDatabase.eq_iff]), xe⟩))
  refine (eqSegmentS _ _ x.down y.down _ (by exact S10.out.ext xe) (by exact S20.out.ext xe)).mono ?_
  rintro e w1 ⟨rfl, he1⟩
  obtain ⟨hc1, hf1, hz1⟩ := he1.facts
  go_wp2_with fail
  all_goals (try (go_ret; exact ⟨ret_bool (by simp_all [DSegmentDatabase.eq_iff]), xe⟩))
  refine (eqSegmentS _ _ x.core y.core _ (by exact S11.out.ext xe) (by exact S21.out.ext xe)).mono ?_
  rintro e w2 ⟨rfl, he2⟩
  obtain ⟨hc2, hf2, hz2⟩ := he2.facts
  go_wp2_with fail
  all_goals
    go_ret
    exact ⟨ret_bool (by simp_all [DSegmentDatabase.eq_iff]), xe⟩
set_option maxRecDepth 100000 in
set_option maxHeartbeats 1000000 in
theorem szSegmentDatabase (v : Value) (x : DSegmentDatabase) (left : Int) (w : World) (h : SegmentDatabaseV w.heap.size w v x) (h0 : 0 ≤ left) (hl : left ≤ 1048576) :
    Calls Tryz.prog 11 #[v, I left] w fun e w' => e = .returned (I (szR (totS (fun y => y.hops.length) x.down + totS (fun y => y.hops.length) x.core) left)) ∧ Ext w w' := by
  obtain ⟨A0, n0, c0, A1, n1, c1, rfl, s0, s1⟩ := h
  have S0 := Lib.hid s0; clear s0
  have S1 := Lib.hid s1; clear s1
  go_enter Tryz.func11, Tryz.ntmps11
  go_wp2_with fail
  refine (szSegmentS _ x.down (left) _ (by exact S0.out.ext xe) (by omega) (by omega)).mono ?_
  rintro e w1 ⟨rfl, he1⟩
  obtain ⟨hc1, hf1, hz1⟩ := he1.facts
  by_cases hlt0 : left < (((totS (fun y => y.hops.length) x.down) : Nat) : Int)
  · rw [szR_neg hlt0]
    go_wp2_with fail
    go_ret
    exact ⟨ret_int (szR_neg (by omega)).symm, xe⟩
  · rw [szR_pos (by omega)]
    go_wp2_with fail
    refine (szSegmentS _ x.core (left - (((totS (fun y => y.hops.length) x.down) : Nat) : Int)) _ (by exact S1.out.ext xe) (by omega) (by omega)).mono ?_
    rintro e w2 ⟨rfl, he2⟩
    obtain ⟨hc2, hf2, hz2⟩ := he2.facts
    by_cases hlt1 : left - (((totS (fun y => y.hops.length) x.down) : Nat) : Int) < (((totS (fun y => y.hops.length) x.core) : Nat) : Int)
    · rw [szR_neg hlt1]
      go_wp2_with fail
      go_ret
      exact ⟨ret_int (szR_neg (by omega)).symm, xe⟩
    · rw [szR_pos (by omega)]
      go_wp2_with fail
      go_ret
      exact ⟨ret_int (by rw [szR_pos (by omega)] <;> omega), xe⟩
/-- What marking from q on leaves. -/
def SegmentDatabaseNum1 (q : Nat) (x : DSegmentDatabase) : DSegmentDatabase := { down := (numS SegmentNumE SegmentCnt (q) x.down), core := (numS SegmentNumE SegmentCnt ((q + (x.down.map SegmentCnt).sum)) x.core) }
set_option maxRecDepth 100000 in
set_option maxHeartbeats 1000000 in
theorem markSegmentDatabase (v : Value) (x : DSegmentDatabase) (q lo hi : Nat) (w : World) (h : SegmentDatabaseO lo hi w v x) (hhi : hi ≤ w.heap.size) (hq : ((q + (x.down.map SegmentCnt).sum) + (x.core.map SegmentCnt).sum) ≤ 1000000000000000) :
    Calls Tryz.prog 22 #[v, I q] w fun e w' => e = .returned (I ((((q + (x.down.map SegmentCnt).sum) + (x.core.map SegmentCnt).sum) : Nat) : Int)) ∧ SegmentDatabaseO lo hi w' v (SegmentDatabaseNum1 q x) ∧ Out lo hi w w' := by
  obtain ⟨u0, u1, m1, rfl, o0, o1, l0, l1⟩ := h
  have O0 := Lib.hid o0; clear o0
  obtain ⟨a0, k0, c0, hv0⟩ := NO.slice O0.out
  subst hv0
  have O1 := Lib.hid o1; clear o1
  obtain ⟨a1, k1, c1, hv1⟩ := NO.slice O1.out
  subst hv1
  go_enter Tryz.func22, Tryz.ntmps22
  go_wp2_with fail
  refine (markSegmentS _ x.down q lo m1 _ (by exact (by repeat (first | (with_reducible exact O0.out) | (with_reducible refine SegmentSO_ext ?_ (by with_reducible assumption) ?ge; case ge => (first | omega | (simp only [World.size_alloc]; omega))) | (with_reducible refine SegmentSO_out ?_ (by with_reducible assumption) ?ge; case ge => omega) | (with_reducible refine SegmentSO_alloc ?_ _)))) (by omega)).mono ?_
  rintro e w0 ⟨rfl, p0, t0⟩
  have P0 := Lib.hid p0; clear p0
  have z0 := t0.size
  have hc0 : ∀ k o, k < lo ∨ hi ≤ k → k < _ → w0.cell? ⟨k, o, none⟩ = _ := fun k o h1 h2 => World.cell?_of_block (a := ⟨k, o, none⟩) (t0.block k h2 (by omega))
  simp only [World.size_alloc] at z0
  have lw0 : w.heap.size < w0.heap.size := by omega
  go_wp2_with fail
  refine (markSegmentS _ x.core (q + (x.down.map SegmentCnt).sum) m1 hi _ (by exact (by repeat (first | (with_reducible exact O1.out) | (with_reducible refine SegmentSO_ext ?_ (by with_reducible assumption) ?ge; case ge => (first | omega | (simp only [World.size_alloc]; omega))) | (with_reducible refine SegmentSO_out ?_ (by with_reducible assumption) ?ge; case ge => omega) | (with_reducible refine SegmentSO_alloc ?_ _)))) (by omega)).mono ?_
  rintro e w1 ⟨rfl, p1, t1⟩
  have P1 := Lib.hid p1; clear p1
  have z1 := t1.size
  have hc1 : ∀ k o, k < lo ∨ hi ≤ k → k < _ → w1.cell? ⟨k, o, none⟩ = _ := fun k o h1 h2 => World.cell?_of_block (a := ⟨k, o, none⟩) (t1.block k h2 (by omega))
  have lw1 : w.heap.size < w1.heap.size := by omega
  go_wp2_with fail
  go_ret
  have hOut : Out lo hi w w1 := (Out.trans (Out.trans (Out.of_ext xe) (t0.mono (by omega) (by omega))) (t1.mono (by omega) (by omega)))
  have HOUT := Lib.hid hOut; clear hOut
  exact ⟨rfl, ⟨_, _, _, rfl, (by unfold SegmentDatabaseNum1; dsimp only; exact (by repeat (first | (with_reducible exact P0.out) | (with_reducible refine SegmentSO_ext ?_ (by with_reducible assumption) ?ge; case ge => (first | omega | (simp only [World.size_alloc]; omega))) | (with_reducible refine SegmentSO_out ?_ (by with_reducible assumption) ?ge; case ge => omega) | (with_reducible refine SegmentSO_alloc ?_ _)))), (by unfold SegmentDatabaseNum1; dsimp only; exact (by repeat (first | (with_reducible exact P1.out) | (with_reducible refine SegmentSO_ext ?_ (by with_reducible assumption) ?ge; case ge => (first | omega | (simp only [World.size_alloc]; omega))) | (with_reducible refine SegmentSO_out ?_ (by with_reducible assumption) ?ge; case ge => omega) | (with_reducible refine SegmentSO_alloc ?_ _)))), l0, l1⟩, HOUT.out⟩
set_option maxRecDepth 100000 in
set_option maxHeartbeats 1000000 in
theorem heldSegmentDatabase (v : Value) (x : DSegmentDatabase) (q : Nat) (w : World) (h : SegmentDatabaseV w.heap.size w v (SegmentDatabaseNum1 q x)) (hq : ((q + (x.down.map SegmentCnt).sum) + (x.core.map SegmentCnt).sum) ≤ 1000000000000000) :
    Calls Tryz.prog 24 #[v, I q] w fun e w' => e = .returned (I ((((q + (x.down.map SegmentCnt).sum) + (x.core.map SegmentCnt).sum) : Nat) : Int)) ∧ Ext w w' := by
  obtain ⟨A0, n0, c0, A1, n1, c1, rfl, s0, s1⟩ := h
  have S0 := Lib.hid s0; clear s0
  have S1 := Lib.hid s1; clear s1
  go_enter Tryz.func24, Tryz.ntmps24
  go_wp2_with fail
  refine (heldSegmentS _ x.down q _ (by exact S0.out.ext xe) (by omega)).mono ?_
  rintro e w0 ⟨rfl, e0⟩
  obtain ⟨hc0, -, hz0⟩ := e0.facts
  simp only [World.size_alloc] at hz0 hc0
  have lw0 : w.heap.size < w0.heap.size := by omega
  have j0 : ¬ (((q + (x.down.map SegmentCnt).sum) : Nat) : Int) < 0 := by omega
  go_wp2_with fail
  refine (heldSegmentS _ x.core (q + (x.down.map SegmentCnt).sum) _ (by exact S1.out.ext xe) (by omega)).mono ?_
  rintro e w1 ⟨rfl, e1⟩
  obtain ⟨hc1, -, hz1⟩ := e1.facts
  have lw1 : w.heap.size < w1.heap.size := by omega
  have j1 : ¬ ((((q + (x.down.map SegmentCnt).sum) + (x.core.map SegmentCnt).sum) : Nat) : Int) < 0 := by omega
  go_wp2_with fail
  go_ret
  exact ⟨rfl, xe⟩
/-- How many numbers an element takes, and the element with its numbers from q on. -/
def SegmentDatabaseCnt (x : DSegmentDatabase) : Nat := 0 + (x.down.map SegmentCnt).sum + (x.core.map SegmentCnt).sum
def SegmentDatabaseNumE (q : Nat) (x : DSegmentDatabase) : DSegmentDatabase := ⟨(numS SegmentNumE SegmentCnt ((q)) x.down), (numS SegmentNumE SegmentCnt ((q + (x.down.map SegmentCnt).sum)) x.core)⟩
theorem SegmentDatabaseCnt_le (x : DSegmentDatabase) : SegmentDatabaseCnt x ≤ 10 + 10 * (totS (fun y => y.hops.length) x.down + totS (fun y => y.hops.length) x.core) := by
  unfold SegmentDatabaseCnt
  have := SegmentCnt_sum x.down
  have := SegmentCnt_sum x.core
  omega
theorem SegmentDatabaseCnt_sum (l : List DSegmentDatabase) : (l.map SegmentDatabaseCnt).sum ≤ 10 * (totS (fun y => totS (fun y => y.hops.length) y.down + totS (fun y => y.hops.length) y.core) l) := cnt_le (fun x => SegmentDatabaseCnt_le x) l
end Go.Proofs.YtdcfidlngbhpcaaGreat
namespace Go.Proofs.YtdcfidlngbhpcaaGreat
open Go.RowKit
set_option linter.unusedVariables false
def dbFp (u0 u1 : Value) (f0 f1 : List Nat) : List Nat := (u0.ownBlock.toList ++ f0) ++ (u1.ownBlock.toList ++ f1)
def SegmentDatabaseQ (lo hi : Nat) (w : World) (v : Value) (x : DSegmentDatabase) : Prop := ∃ u0 cs0 f0 u1 cs1 f1, v = .agg #[u0, u1] ∧ w.ownsRow 0 47 3 u0 x.down.length cs0 ∧ OL SegmentOC 3 w x.down f0 cs0 ∧ w.ownsRow 0 47 3 u1 x.core.length cs1 ∧ OL SegmentOC 3 w x.core f1 cs1 ∧ (dbFp u0 u1 f0 f1).Nodup ∧ (∀ b ∈ dbFp u0 u1 f0 f1, lo ≤ b ∧ b < hi) ∧ lo ≤ hi
section
variable {lo hi : Nat} {w w' : World} {v : Value} {x : DSegmentDatabase}
theorem SegmentDatabaseO.q (h : SegmentDatabaseO lo hi w v x) : SegmentDatabaseQ lo hi w v x := by
  obtain ⟨u0, u1, m1, e, o0, o1, l0, l1⟩ := h
  obtain ⟨cs0, f0, r0, l0_, d0, b0'⟩ := o0
  have b0 : ∀ b ∈ u0.ownBlock.toList ++ f0, lo ≤ b ∧ b < m1 := fun b hb => by
    rcases List.mem_append.1 hb with hb | hb
    · exact ⟨(r0.1.lt b (by simpa using hb)).1, r0.2 b (by simpa using hb)⟩
    · exact b0' b hb
  obtain ⟨cs1, f1, r1, l1_, d1, b1'⟩ := o1
  have b1 : ∀ b ∈ u1.ownBlock.toList ++ f1, m1 ≤ b ∧ b < hi := fun b hb => by
    rcases List.mem_append.1 hb with hb | hb
    · exact ⟨(r1.1.lt b (by simpa using hb)).1, r1.2 b (by simpa using hb)⟩
    · exact b1' b hb
  exact ⟨u0, cs0, f0, u1, cs1, f1, e, (r0.more (Nat.zero_le _) (Nat.le_refl _)).1, l0_, (r1.more (Nat.zero_le _) (Nat.le_refl _)).1, l1_, List.nodup_append.2 ⟨d0, d1, fun a ha b hb => by have h1 := b0 a ha; have h2 := b1 b hb; omega⟩, (fun b hb => (List.mem_append.1 hb).elim (fun hb => by have := b0 b hb; omega) (fun hb => by have := b1 b hb; omega)), by omega⟩
theorem SegmentDatabaseQ.keep (h : SegmentDatabaseQ lo hi w v x) (hk : ∀ k, lo ≤ k → k < hi → k < w.heap.size → w'.heap[k]? = w.heap[k]?) : SegmentDatabaseQ lo hi w' v x := by
  obtain ⟨u0, cs0, f0, u1, cs1, f1, e, r0, l0, r1, l1, hn, hb, hl⟩ := h
  have hk2 : ∀ b ∈ dbFp u0 u1 f0 f1, b < w.heap.size → w'.heap[b]? = w.heap[b]? := fun b hm hs => hk b (hb b hm).1 (hb b hm).2 hs
  exact ⟨u0, cs0, f0, u1, cs1, f1, e, ownsRow_keep r0 (fun b hm => hk2 b (by simp only [dbFp, List.mem_append]; exact .inl (.inl hm))), OL.keep SegmentOC.keeps l0 (fun b hm => hk2 b (by simp only [dbFp, List.mem_append]; exact .inl (.inr hm))), ownsRow_keep r1 (fun b hm => hk2 b (by simp only [dbFp, List.mem_append]; exact .inr (.inl hm))), OL.keep SegmentOC.keeps l1 (fun b hm => hk2 b (by simp only [dbFp, List.mem_append]; exact .inr (.inr hm))), hn, hb, hl⟩
theorem SegmentDatabaseQ.toV (h : SegmentDatabaseQ lo hi w v x) : SegmentDatabaseV hi w v x := by
  obtain ⟨u0, cs0, f0, u1, cs1, f1, e, r0, l0, r1, l1, hn, hb, hl⟩ := h
  have s0 : SegmentS hi w u0 x.down := sl_of_OL (At := SegmentAt) r0 l0 (fun b hm => (hb b (by simp only [dbFp, List.mem_append, Option.mem_toList]; exact .inl hm)).2) (fun _ => rfl) SegmentOC.at_
  obtain ⟨A0, n0, c0, e0, _⟩ := id s0
  subst e0
  have s1 : SegmentS hi w u1 x.core := sl_of_OL (At := SegmentAt) r1 l1 (fun b hm => (hb b (by simp only [dbFp, List.mem_append, Option.mem_toList]; exact .inr hm)).2) (fun _ => rfl) SegmentOC.at_
  obtain ⟨A1, n1, c1, e1, _⟩ := id s1
  subst e1
  exact ⟨_, _, _, _, _, _, e, s0, s1⟩
theorem SegmentDatabaseQ.shape (h : SegmentDatabaseQ lo hi w v x) : ∃ A0 n0 c0, ∃ A1 n1 c1, v = .agg #[.slice A0 n0 c0, .slice A1 n1 c1] := by
  obtain ⟨A0, n0, c0, A1, n1, c1, e, _, _⟩ := h.toV
  exact ⟨A0, n0, c0, A1, n1, c1, e⟩
theorem SegmentDatabaseQ.ext (h : SegmentDatabaseQ lo hi w v x) (he : Ext w w') (_hhi : hi ≤ w.heap.size) : SegmentDatabaseQ lo hi w' v x := h.keep fun k _ _ h3 => he.same k h3
theorem SegmentDatabaseQ.drew (h : SegmentDatabaseQ lo hi w v x) : SegmentDatabaseQ lo hi w.drew v x := h.keep fun _ _ _ _ => rfl
theorem SegmentDatabaseQ.out {lo' hi' : Nat} (h : SegmentDatabaseQ lo hi w v x) (ho : Out lo' hi' w w') (hd : hi' ≤ lo ∨ hi ≤ lo') : SegmentDatabaseQ lo hi w' v x := h.keep fun k h1 h2 h3 => ho.block k h3 (by omega)
theorem SegmentDatabaseQ.more {lo' hi' : Nat} (h : SegmentDatabaseQ lo hi w v x) (h1 : lo' ≤ lo) (h2 : hi ≤ hi') : SegmentDatabaseQ lo' hi' w v x := by
  obtain ⟨u0, cs0, f0, u1, cs1, f1, e, r0, l0, r1, l1, hn, hb, hl⟩ := h
  exact ⟨u0, cs0, f0, u1, cs1, f1, e, r0, l0, r1, l1, hn, fun b hm => ⟨by have := (hb b hm).1; omega, by have := (hb b hm).2; omega⟩, by omega⟩
theorem SegmentDatabaseQ.up (h : SegmentDatabaseQ lo w.heap.size w v x) (he : Ext w w') : SegmentDatabaseQ lo w'.heap.size w' v x := (h.ext he (Nat.le_refl _)).more (Nat.le_refl _) he.size
theorem SegmentDatabaseQ.setT {g : Nat} {cs' : List Value} (h : SegmentDatabaseQ lo hi w v x) (hb' : Blk w g 37 cs') (i : Nat) (u : Value) : SegmentDatabaseQ lo hi (w.setCell ⟨g, i, none⟩ u) v x := by
  obtain ⟨u0, cs0, f0, u1, cs1, f1, e, r0, l0, r1, l1, hn, hb, hl⟩ := h
  have n0 : g ∉ u0.ownBlock.toList := ownsRow_typed r0 hb' (by decide)
  have n1 : g ∉ u1.ownBlock.toList := ownsRow_typed r1 hb' (by decide)
  have m0 : g ∉ f0 := OL.typed (SegmentOC.typed _ (by decide)) hb' l0
  have m1 : g ∉ f1 := OL.typed (SegmentOC.typed _ (by decide)) hb' l1
  have hk : ∀ b, b ≠ g → (w.setCell ⟨g, i, none⟩ u).heap[b]? = w.heap[b]? := fun b hne => Below.heap_setCell _ _ _ _ hne
  exact ⟨u0, cs0, f0, u1, cs1, f1, e, ownsRow_keep r0 (fun b hm _ => hk b (fun e => n0 (e ▸ hm))), OL.keep SegmentOC.keeps l0 (fun b hm _ => hk b (fun e => m0 (e ▸ hm))), ownsRow_keep r1 (fun b hm _ => hk b (fun e => n1 (e ▸ hm))), OL.keep SegmentOC.keeps l1 (fun b hm _ => hk b (fun e => m1 (e ▸ hm))), hn, hb, hl⟩
theorem SegmentDatabaseQ_rd (h : SegmentDatabaseQ lo hi w v x) (hhi : hi ≤ w.heap.size) : SegmentDatabaseV w.heap.size w v x := h.toV.keep hhi (fun _ _ => rfl)
theorem SegmentDatabaseQ.nil (lo hi : Nat) (w : World) (h : lo ≤ hi) : SegmentDatabaseQ lo hi w (.agg #[.slice none 0 0, .slice none 0 0]) ⟨[], []⟩ :=
  ⟨_, [], [], _, [], [], rfl, World.ownsRow_nil w 0 _ 3, ⟨rfl, rfl⟩, World.ownsRow_nil w 0 _ 3, ⟨rfl, rfl⟩, by simp [dbFp, Value.ownBlock], fun b hm => by simp [dbFp, Value.ownBlock] at hm, h⟩
end
theorem toSegmentDatabaseQ (v : Value) (x : DSegmentDatabase) (w : World) (h : SegmentDatabaseV w.heap.size w v x) (hn : totS (fun y => y.hops.length) x.down + totS (fun y => y.hops.length) x.core ≤ 16777216) :
    Calls Tryz.prog 15 #[v] w fun e w' => ∃ v', e = .returned v' ∧ SegmentDatabaseQ w.heap.size w'.heap.size w' v' x ∧ Ext w w' := by
  refine (toSegmentDatabase v x w h hn).mono ?_
  rintro e w' ⟨v', rfl, o, he⟩
  exact ⟨v', rfl, o.q, he⟩
set_option maxRecDepth 100000 in
set_option maxHeartbeats 1000000 in
theorem markSegmentDatabaseQ (v : Value) (x : DSegmentDatabase) (q lo hi : Nat) (w : World) (h : SegmentDatabaseQ lo hi w v x) (hhi : hi ≤ w.heap.size) (hq : ((q + (x.down.map SegmentCnt).sum) + (x.core.map SegmentCnt).sum) ≤ 1000000000000000) :
    Calls Tryz.prog 22 #[v, I q] w fun e w' => e = .returned (I ((((q + (x.down.map SegmentCnt).sum) + (x.core.map SegmentCnt).sum) : Nat) : Int)) ∧ SegmentDatabaseQ lo hi w' v (SegmentDatabaseNum1 q x) ∧ Out lo hi w w' := by
  obtain ⟨u0, cs0, f0, u1, cs1, f1, rfl, r0, l0, r1, l1, hn, hb, hl⟩ := h
  obtain ⟨a0, k0, c0, hv0⟩ := ownsRow_slice r0
  obtain ⟨a1, k1, c1, hv1⟩ := ownsRow_slice r1
  subst hv0
  subst hv1
  unfold dbFp at hn hb
  have hn2 := List.nodup_append.1 hn
  have hd : ∀ b ∈ (Value.slice a0 k0 c0).ownBlock.toList ++ f0, b ∉ (Value.slice a1 k1 c1).ownBlock.toList ++ f1 := fun b h1 h2 => hn2.2.2 b h1 b h2 rfl
  have hb0 : ∀ b ∈ (Value.slice a0 k0 c0).ownBlock.toList ++ f0, lo ≤ b ∧ b < hi := fun b hm => hb b (List.mem_append_left _ hm)
  have hb1 : ∀ b ∈ (Value.slice a1 k1 c1).ownBlock.toList ++ f1, lo ≤ b ∧ b < hi := fun b hm => hb b (List.mem_append_right _ hm)
  have R0 := Lib.hid r0; have L0 := Lib.hid l0; have R1 := Lib.hid r1; have L1 := Lib.hid l1; have HD := Lib.hid hd; have HB0 := Lib.hid hb0; have HB1 := Lib.hid hb1; have HN := Lib.hid hn; have HN2 := Lib.hid hn2; have HB := Lib.hid hb; clear r0 l0 r1 l1 hd hb0 hb1 hn hn2 hb
  generalize hF0 : (Value.slice a0 k0 c0).ownBlock.toList ++ f0 = F0 at *
  generalize hF1 : (Value.slice a1 k1 c1).ownBlock.toList ++ f1 = F1 at *
  have HF0 := Lib.hid hF0; have HF1 := Lib.hid hF1; clear hF0 hF1
  go_enter Tryz.func22, Tryz.ntmps22
  go_wp2_with fail
  refine (markSegmentS_row _ x.down q q _ cs0 f0 (by exact ownsRow_keep R0.out (fun b hm hs => Below.heap_alloc _ _ _ hs)) (by exact OL.keep SegmentOC.keeps L0.out (fun b hm hs => Below.heap_alloc _ _ _ hs)) (by rw [HF0.out]; exact HN2.out.1) rfl (by omega)).mono ?_
  rintro e w0 ⟨rfl, ⟨ct0, p0, t0⟩, g0⟩
  rw [HF0.out] at g0
  have P0 := Lib.hid p0; have T0 := Lib.hid t0; have G0 := Lib.hid g0; clear p0 t0 g0
  have z0 := G0.out.size
  have hc0 : w0.cell? ⟨w.heap.size, 0, none⟩ = _ := G0.out.cell (k := w.heap.size) (o := 0) (by simp only [World.size_alloc]; omega) (fun hm => by have := (HB0.out _ hm).2; omega)
  have hc1 : w0.cell? ⟨w.heap.size, 1, none⟩ = _ := G0.out.cell (k := w.heap.size) (o := 1) (by simp only [World.size_alloc]; omega) (fun hm => by have := (HB0.out _ hm).2; omega)
  simp only [World.size_alloc] at z0
  have lw0 : w.heap.size < w0.heap.size := by omega
  go_wp2_with fail
  refine (markSegmentS_row _ x.core (q + (x.down.map SegmentCnt).sum) _ _ cs1 f1 (by exact ownsRow_outF (ownsRow_keep R1.out (fun b hm hs => Below.heap_alloc _ _ _ hs)) G0.out (fun b hm hm2 => HD.out b hm2 (by rw [← HF1.out]; exact List.mem_append_left _ hm))) (by exact OL.outF SegmentOC.keeps (OL.keep SegmentOC.keeps L1.out (fun b hm hs => Below.heap_alloc _ _ _ hs)) G0.out (fun b hm hm2 => HD.out b hm2 (by rw [← HF1.out]; exact List.mem_append_right _ hm))) (by rw [HF1.out]; exact HN2.out.2.1) rfl (by omega)).mono ?_
  rintro e w1 ⟨rfl, ⟨ct1, p1, t1⟩, g1⟩
  rw [HF1.out] at g1
  have P1 := Lib.hid p1; have T1 := Lib.hid t1; have G1 := Lib.hid g1; clear p1 t1 g1
  have z1 := G1.out.size
  go_wp2_with fail
  go_ret
  refine ⟨rfl, ⟨_, ct0, f0, _, ct1, f1, rfl, ?_, ?_, ?_, ?_, ?_, ?_, hl⟩, ?_⟩
  · unfold SegmentDatabaseNum1; dsimp only
    rw [numS_len]
    exact ownsRow_outF P0.out G1.out (fun b hm hm2 => HD.out b (by rw [← HF0.out]; exact List.mem_append_left _ hm) hm2)
  · unfold SegmentDatabaseNum1; dsimp only
    exact OL.outF SegmentOC.keeps T0.out G1.out (fun b hm hm2 => HD.out b (by rw [← HF0.out]; exact List.mem_append_right _ hm) hm2)
  · unfold SegmentDatabaseNum1; dsimp only
    rw [numS_len]
    exact P1.out
  · unfold SegmentDatabaseNum1; dsimp only
    exact T1.out
  · unfold dbFp; rw [HF0.out, HF1.out]; exact HN.out
  · unfold dbFp; rw [HF0.out, HF1.out]; exact HB.out
  · exact (Out.trans (Out.trans (Out.of_ext xe) (G0.out.out HB0.out)) (G1.out.out HB1.out))
end Go.Proofs.YtdcfidlngbhpcaaGreat
