/- The laws' helpers on PathPart: to.. (copy), eq.. (compare), sz.. (count), mark.. and held... Printed by gen.py. -/
import Derived.Test.YtcalbcjheenmgaaHHop
import Derived.Test.YtcalbcjheenmgaaNest
import Derived.Test.YtcalbcjheenmgaaMarkRows
import Derived.Test.YtcalbcjheenmgaaPush
import Derived.Test.YtcalbcjheenmgaaTyped
namespace Go.Proofs.Ytcalbcjheenmgaa
open Go.RowKit
set_option linter.unusedVariables false
theorem info_PathPart : (Try.prog.info? 28).map (fun i => (i.zero, i.size, i.bytes)) = some (some (.agg #[.int .i64 0, .int .i64 0, .int .i64 0, .slice none 0 0]), 4, 48) := by kernel_rfl

def PathPartO (lo hi : Nat) (w : World) (v : Value) (x : DPathPart) : Prop := ∃ u3, v = .agg #[I x.kind, I x.ts, I x.beta, u3] ∧ Own 117 5 lo hi w u3 x.hops.length (x.hops.flatMap HopC) ∧ lo ≤ hi
theorem PathPartO.keep {lo hi : Nat} {w w' : World} {v : Value} {x : DPathPart} (h : PathPartO lo hi w v x) (hk : ∀ k, lo ≤ k → k < hi → k < w.heap.size → w'.heap[k]? = w.heap[k]?) : PathPartO lo hi w' v x := by
  obtain ⟨u3, e, o3, l0⟩ := h
  exact ⟨u3, e, o3.keep fun k h1 h2 h3 => hk k (by omega) (by omega) h3, l0⟩
theorem PathPartO.v {lo hi : Nat} {w : World} {v : Value} {x : DPathPart} (h : PathPartO lo hi w v x) : PathPartV hi w v x := by
  obtain ⟨u3, e, o3, l0⟩ := h
  have s3 := (o3.sl (At := HopAt) HopC.len (by omega) HopC.at_)
  obtain ⟨A3, n3, c3, rfl, _⟩ := id s3
  exact ⟨_, _, _, e, s3.keep HopAt.keeps (by omega) (fun _ _ => rfl)⟩
theorem PathPartO.shape {lo hi : Nat} {w : World} {v : Value} {x : DPathPart} (h : PathPartO lo hi w v x) : ∃ A3 n3 c3, v = .agg #[I x.kind, I x.ts, I x.beta, .slice A3 n3 c3] := by
  obtain ⟨A3, n3, c3, e, _⟩ := h.v
  exact ⟨A3, n3, c3, e⟩
theorem PathPartO.ext {lo hi : Nat} {w w' : World} {v : Value} {x : DPathPart} (h : PathPartO lo hi w v x) (he : Ext w w') (hhi : hi ≤ w.heap.size) : PathPartO lo hi w' v x := h.keep fun k _ _ h3 => he.same k h3
theorem PathPartO.drew {lo hi : Nat} {w : World} {v : Value} {x : DPathPart} (h : PathPartO lo hi w v x) : PathPartO lo hi w.drew v x := h.keep fun _ _ _ _ => rfl
theorem PathPartO.out {lo hi lo' hi' : Nat} {w w' : World} {v : Value} {x : DPathPart} (h : PathPartO lo hi w v x) (ho : Out lo' hi' w w') (hd : hi' ≤ lo ∨ hi ≤ lo') : PathPartO lo hi w' v x := h.keep fun k h1 h2 h3 => ho.block k h3 (by omega)
theorem PathPartO.more {lo hi lo' hi' : Nat} {w : World} {v : Value} {x : DPathPart} (h : PathPartO lo hi w v x) (h1 : lo' ≤ lo) (h2 : hi ≤ hi') : PathPartO lo' hi' w v x := by
  obtain ⟨u3, e, o3, l0⟩ := h
  exact ⟨u3, e, Own.more o3 h1 h2, by omega⟩
theorem PathPartO.up {lo : Nat} {w w' : World} {v : Value} {x : DPathPart} (h : PathPartO lo w.heap.size w v x) (he : Ext w w') : PathPartO lo w'.heap.size w' v x := (h.ext he (Nat.le_refl _)).more (Nat.le_refl _) he.size
theorem PathPartO.setT {lo hi g : Nat} {w : World} {v : Value} {x : DPathPart} {cs' : List Value} (h : PathPartO lo hi w v x) (hb : Blk w g 28 cs') (i : Nat) (u : Value) : PathPartO lo hi (w.setCell ⟨g, i, none⟩ u) v x := by
  obtain ⟨u3, e, o3, l0⟩ := h
  exact ⟨u3, e, Own.setT o3 hb (by decide) i u, l0⟩
theorem PathPartO_rd {lo hi : Nat} {w : World} {v : Value} {x : DPathPart} (h : PathPartO lo hi w v x) (hhi : hi ≤ w.heap.size) : PathPartV w.heap.size w v x := h.v.keep hhi (fun _ _ => rfl)
set_option maxRecDepth 100000 in
set_option maxHeartbeats 1000000 in
theorem eqPathPart (v1 v2 : Value) (x y : DPathPart) (w : World) (h1 : PathPartV w.heap.size w v1 x) (h2 : PathPartV w.heap.size w v2 y) :
    Calls Try.prog 15 #[v1, v2] w fun e w' => e = .returned (.bool (decide (x = y))) ∧ Ext w w' := by
  obtain ⟨A13, n13, c13, rfl, s13⟩ := h1
  obtain ⟨A23, n23, c23, rfl, s23⟩ := h2
  have S13 := Lib.hid s13; clear s13
  have S23 := Lib.hid s23; clear s23
  go_enter Try.func15, Try.ntmps15
  go_wp2_with fail
  all_goals (try (go_ret; exact ⟨ret_bool (by simp_all [DPathPart.eq_iff]), (by repeat (first | (with_reducible exact Ext.refl _) | (with_reducible assumption) | (with_reducible refine Ext.alloc ?_ _) | (with_reducible refine Ext.drew ?_) | (with_reducible refine Ext.drewN ?_ _) | (with_reducible refine Ext.setCell (p := _) ?_ ?ge _; case ge => (dsimp only; omega)) | (with_reducible refine Ext.trans ?_ (by with_reducible assumption))))⟩))
  refine (eqHopS _ _ x.hops y.hops _ (by exact S13.out.ext (by repeat (first | (with_reducible exact Ext.refl _) | (with_reducible assumption) | (with_reducible refine Ext.alloc ?_ _) | (with_reducible refine Ext.drew ?_) | (with_reducible refine Ext.drewN ?_ _) | (with_reducible refine Ext.setCell (p := _) ?_ ?ge _; case ge => (dsimp only; omega)) | (with_reducible refine Ext.trans ?_ (by with_reducible assumption))))) (by exact S23.out.ext (by repeat (first | (with_reducible exact Ext.refl _) | (with_reducible assumption) | (with_reducible refine Ext.alloc ?_ _) | (with_reducible refine Ext.drew ?_) | (with_reducible refine Ext.drewN ?_ _) | (with_reducible refine Ext.setCell (p := _) ?_ ?ge _; case ge => (dsimp only; omega)) | (with_reducible refine Ext.trans ?_ (by with_reducible assumption)))))).mono ?_
  rintro e w4 ⟨rfl, he4⟩
  obtain ⟨hc4, hf4, hz4⟩ := he4.facts
  go_wp2_with fail
  all_goals
    go_ret
    exact ⟨ret_bool (by simp_all [DPathPart.eq_iff]), (by repeat (first | (with_reducible exact Ext.refl _) | (with_reducible assumption) | (with_reducible refine Ext.alloc ?_ _) | (with_reducible refine Ext.drew ?_) | (with_reducible refine Ext.drewN ?_ _) | (with_reducible refine Ext.setCell (p := _) ?_ ?ge _; case ge => (dsimp only; omega)) | (with_reducible refine Ext.trans ?_ (by with_reducible assumption))))⟩
/-- What marking from q on leaves. -/
def PathPartNum1 (q : Nat) (x : DPathPart) : DPathPart := { kind := x.kind, ts := x.ts, beta := x.beta, hops := (HopNum q x.hops.length) }
set_option maxRecDepth 100000 in
set_option maxHeartbeats 1000000 in
theorem markPathPart (v : Value) (x : DPathPart) (q lo hi : Nat) (w : World) (h : PathPartO lo hi w v x) (hhi : hi ≤ w.heap.size) (hq : (q + 5 * x.hops.length) ≤ 1000000000000000) :
    Calls Try.prog 18 #[v, I q] w fun e w' => e = .returned (I (((q + 5 * x.hops.length) : Nat) : Int)) ∧ PathPartO lo hi w' v (PathPartNum1 q x) ∧ Out lo hi w w' := by
  obtain ⟨u3, rfl, o3, l0⟩ := h
  have O3 := Lib.hid o3; clear o3
  obtain ⟨a3, k3, c3, hv3⟩ := O3.out.slice
  subst hv3
  go_enter Try.func18, Try.ntmps18
  go_wp2_with fail
  refine (markHopS _ x.hops q lo hi _ (by exact (by repeat (first | (with_reducible exact O3.out) | (with_reducible refine Own.ext ?_ (by with_reducible assumption) ?ge; case ge => (first | omega | (simp only [World.size_alloc]; omega))) | (with_reducible refine Own.out ?_ (by with_reducible assumption) ?ge; case ge => omega) | (with_reducible refine Own.alloc ?_ _)))) (by omega)).mono ?_
  rintro e w3 ⟨rfl, p3, t3⟩
  have P3 := Lib.hid p3; clear p3
  have z3 := t3.size
  have hc3 : ∀ k o, k < lo ∨ hi ≤ k → k < _ → w3.cell? ⟨k, o, none⟩ = _ := fun k o h1 h2 => World.cell?_of_block (a := ⟨k, o, none⟩) (t3.block k h2 (by omega))
  simp only [World.size_alloc] at z3
  have lw3 : w.heap.size < w3.heap.size := by omega
  go_wp2_with fail
  go_ret
  have hOut : Out lo hi w w3 := (Out.trans (Out.of_ext (by repeat (first | (with_reducible exact Ext.refl _) | (with_reducible assumption) | (with_reducible refine Ext.alloc ?_ _) | (with_reducible refine Ext.drew ?_) | (with_reducible refine Ext.drewN ?_ _) | (with_reducible refine Ext.setCell (p := _) ?_ ?ge _; case ge => (dsimp only; omega)) | (with_reducible refine Ext.trans ?_ (by with_reducible assumption))))) (t3.mono (by omega) (by omega)))
  have HOUT := Lib.hid hOut; clear hOut
  exact ⟨rfl, ⟨_, rfl, (by unfold PathPartNum1; dsimp only; rw [HopNum_len]; exact (by repeat (first | (with_reducible exact P3.out) | (with_reducible refine Own.ext ?_ (by with_reducible assumption) ?ge; case ge => (first | omega | (simp only [World.size_alloc]; omega))) | (with_reducible refine Own.out ?_ (by with_reducible assumption) ?ge; case ge => omega) | (with_reducible refine Own.alloc ?_ _)))), l0⟩, HOUT.out⟩
set_option maxRecDepth 100000 in
set_option maxHeartbeats 1000000 in
theorem heldPathPart (v : Value) (x : DPathPart) (q : Nat) (w : World) (h : PathPartV w.heap.size w v (PathPartNum1 q x)) (hq : (q + 5 * x.hops.length) ≤ 1000000000000000) :
    Calls Try.prog 19 #[v, I q] w fun e w' => e = .returned (I (((q + 5 * x.hops.length) : Nat) : Int)) ∧ Ext w w' := by
  obtain ⟨A3, n3, c3, rfl, s3⟩ := h
  have S3 := Lib.hid s3; clear s3
  go_enter Try.func19, Try.ntmps19
  go_wp2_with fail
  refine (heldHopS _ x.hops.length q _ (by exact S3.out.ext (by repeat (first | (with_reducible exact Ext.refl _) | (with_reducible assumption) | (with_reducible refine Ext.alloc ?_ _) | (with_reducible refine Ext.drew ?_) | (with_reducible refine Ext.drewN ?_ _) | (with_reducible refine Ext.setCell (p := _) ?_ ?ge _; case ge => (dsimp only; omega)) | (with_reducible refine Ext.trans ?_ (by with_reducible assumption))))) (by omega)).mono ?_
  rintro e w3 ⟨rfl, e3⟩
  obtain ⟨hc3, -, hz3⟩ := e3.facts
  simp only [World.size_alloc] at hz3 hc3
  have lw3 : w.heap.size < w3.heap.size := by omega
  have j3 : ¬ (((q + 5 * x.hops.length) : Nat) : Int) < 0 := by omega
  go_wp2_with fail
  go_ret
  exact ⟨rfl, (by repeat (first | (with_reducible exact Ext.refl _) | (with_reducible assumption) | (with_reducible refine Ext.alloc ?_ _) | (with_reducible refine Ext.drew ?_) | (with_reducible refine Ext.drewN ?_ _) | (with_reducible refine Ext.setCell (p := _) ?_ ?ge _; case ge => (dsimp only; omega)) | (with_reducible refine Ext.trans ?_ (by with_reducible assumption))))⟩
/-- How many numbers an element takes, and the element with its numbers from q on. -/
def PathPartCnt (x : DPathPart) : Nat := 3 + 5 * x.hops.length
def PathPartNumE (q : Nat) (x : DPathPart) : DPathPart := ⟨(q : Int), (q : Int) + 1, (q : Int) + 1 + 1, (HopNum (q + 3) x.hops.length)⟩
theorem PathPartCnt_le (x : DPathPart) : PathPartCnt x ≤ 10 + 10 * (x.hops.length) := by
  unfold PathPartCnt
  omega
theorem PathPartCnt_sum (l : List DPathPart) : (l.map PathPartCnt).sum ≤ 10 * (totS (fun y => y.hops.length) l) := cnt_le (fun x => PathPartCnt_le x) l
end Go.Proofs.Ytcalbcjheenmgaa
