/- The laws' helpers on PathPart: to.. (copy), eq.. (compare), sz.. (count), mark.. and held... Printed by gen.py. -/
import Derived.Test.YtikjpenhpmamiaaHHop
namespace Go.Proofs.Ytikjpenhpmamiaa
open Go.RowKit
set_option linter.unusedVariables false
theorem info_PathPart : (Try.prog.info? 56).map (fun i => (i.zero, i.size, i.bytes)) = some (some (.agg #[.int .i64 0, .int .i64 0, .int .i64 0, .slice none 0 0]), 4, 48) := by kernel_rfl

def PathPartO (lo hi : Nat) (w : World) (v : Value) (x : DPathPart) : Prop := ∃ u3, v = .agg #[I x.kind, I x.ts, I x.beta, u3] ∧ Own 87 5 lo hi w u3 x.hops.length (x.hops.flatMap HopC) ∧ lo ≤ hi
theorem PathPartO.keep {lo hi : Nat} {w w' : World} {v : Value} {x : DPathPart} (h : PathPartO lo hi w v x) (hk : ∀ k, lo ≤ k → k < hi → k < w.heap.size → w'.heap[k]? = w.heap[k]?) : PathPartO lo hi w' v x := by
  obtain ⟨u3, e, o3, l0⟩ := h
  exact ⟨u3, e, o3.keep fun k h1 h2 h3 => hk k (by omega) (by omega) h3, l0⟩
theorem PathPartO.v {lo hi : Nat} {w : World} {v : Value} {x : DPathPart} (h : PathPartO lo hi w v x) : PathPartV hi w v x := by
  obtain ⟨u3, e, o3, l0⟩ := h
  have s3 := (o3.sl (At := HopAt) HopC.len (by omega) HopC.at_)
  obtain ⟨A3, n3, c3, rfl, _⟩ := id s3
  exact ⟨_, _, _, e, s3.keep HopAt.keeps (by omega) (fun _ _ => rfl)⟩
theorem PathPartO.shape {lo hi : Nat} {w : World} {v : Value} {x : DPathPart} (h : PathPartO lo hi w v x) : ∃ A3 n3 c3, v = .agg #[I x.kind, I x.ts, I x.beta, .slice A3 n3 c3] := by
  obtain ⟨A3, n3, c3, e, _⟩ := h.v
  exact ⟨A3, n3, c3, e⟩
theorem PathPartO.ext {lo hi : Nat} {w w' : World} {v : Value} {x : DPathPart} (h : PathPartO lo hi w v x) (he : Ext w w') (hhi : hi ≤ w.heap.size) : PathPartO lo hi w' v x := h.keep fun k _ _ h3 => he.same k h3
theorem PathPartO.drew {lo hi : Nat} {w : World} {v : Value} {x : DPathPart} (h : PathPartO lo hi w v x) : PathPartO lo hi w.drew v x := h.keep fun _ _ _ _ => rfl
theorem PathPartO.out {lo hi lo' hi' : Nat} {w w' : World} {v : Value} {x : DPathPart} (h : PathPartO lo hi w v x) (ho : Out lo' hi' w w') (hd : hi' ≤ lo ∨ hi ≤ lo') : PathPartO lo hi w' v x := h.keep fun k h1 h2 h3 => ho.block k h3 (by omega)
theorem PathPartO_rd {lo hi : Nat} {w : World} {v : Value} {x : DPathPart} (h : PathPartO lo hi w v x) (hhi : hi ≤ w.heap.size) : PathPartV w.heap.size w v x := h.v.keep hhi (fun _ _ => rfl)
set_option maxRecDepth 100000 in
set_option maxHeartbeats 1000000 in
theorem toPathPart (v : Value) (x : DPathPart) (w : World) (h : PathPartV w.heap.size w v x) (hn : x.hops.length ≤ 16777216) :
    Calls Try.prog 37 #[v] w fun e w' => ∃ v', e = .returned v' ∧ PathPartO w.heap.size w'.heap.size w' v' x ∧ Ext w w' := by
  obtain ⟨A3, n3, c3, rfl, s3⟩ := h
  have S3 := Lib.hid s3; clear s3
  go_enter Try.func37, Try.ntmps37
  go_wp2_with fail
  refine (toHopS _ x.hops _ (by exact S3.out.ext (by repeat (first | (with_reducible exact Ext.refl _) | (with_reducible assumption) | (with_reducible refine Ext.alloc ?_ _) | (with_reducible refine Ext.drew ?_) | (with_reducible refine Ext.drewN ?_ _) | (with_reducible refine Ext.setCell (p := _) ?_ ?ge _; case ge => (dsimp only; omega)) | (with_reducible refine Ext.trans ?_ (by with_reducible assumption))))) (by omega)).mono ?_
  rintro e w3 ⟨v3, rfl, ho3, he3⟩
  obtain ⟨hc3, hf3, hz3⟩ := he3.facts
  simp only [World.size_alloc] at ho3
  have O3 := Lib.hid ho3; clear ho3
  obtain ⟨a3, m3, q3, hv3⟩ : ∃ a n c, v3 = .slice a n c := O3.out.slice
  subst hv3
  simp only [World.size_alloc] at hz3
  go_wp2_with fail
  refine bodyPost_ret (v := .agg #[I x.kind, I x.ts, I x.beta, .slice a3 m3 q3]) (by simp [results, Try.results37, go_sem, hc3]) rfl ⟨_, rfl, ?_, ?_⟩
  · simp only [World.size_setCell]
    refine ⟨_, rfl, Own.more (lo := w.heap.size + 1 + 1 + 1) (hi := w3.heap.size) (by repeat (first | (with_reducible exact O3.out) | (with_reducible refine Own.alloc ?_ _) | (with_reducible refine Own.setCell (p := _) ?_ (.inl ?ge) _; case ge => (first | omega | (dsimp only; omega) | (simp only [World.size_setCell]; omega) | (simp only [World.size_alloc]; omega))) | (with_reducible refine Own.ext ?_ (by with_reducible assumption) ?ge; case ge => (first | omega | (dsimp only; omega) | (simp only [World.size_setCell]; omega) | (simp only [World.size_alloc]; omega))))) (by omega) (by omega), by omega⟩
  · exact (by repeat (first | (with_reducible exact Ext.refl _) | (with_reducible assumption) | (with_reducible refine Ext.alloc ?_ _) | (with_reducible refine Ext.drew ?_) | (with_reducible refine Ext.drewN ?_ _) | (with_reducible refine Ext.setCell (p := _) ?_ ?ge _; case ge => (dsimp only; omega)) | (with_reducible refine Ext.trans ?_ (by with_reducible assumption))))
set_option maxRecDepth 100000 in
set_option maxHeartbeats 1000000 in
theorem eqPathPart (v1 v2 : Value) (x y : DPathPart) (w : World) (h1 : PathPartV w.heap.size w v1 x) (h2 : PathPartV w.heap.size w v2 y) :
    Calls Try.prog 39 #[v1, v2] w fun e w' => e = .returned (.bool (decide (x = y))) ∧ Ext w w' := by
  obtain ⟨A13, n13, c13, rfl, s13⟩ := h1
  obtain ⟨A23, n23, c23, rfl, s23⟩ := h2
  have S13 := Lib.hid s13; clear s13
  have S23 := Lib.hid s23; clear s23
  go_enter Try.func39, Try.ntmps39
  go_wp2_with fail
  all_goals (try (go_ret; exact ⟨ret_bool (by simp_all [DPathPart.eq_iff]), (by repeat (first | (with_reducible exact Ext.refl _) | (with_reducible assumption) | (with_reducible refine Ext.alloc ?_ _) | (with_reducible refine Ext.drew ?_) | (with_reducible refine Ext.drewN ?_ _) | (with_reducible refine Ext.setCell (p := _) ?_ ?ge _; case ge => (dsimp only; omega)) | (with_reducible refine Ext.trans ?_ (by with_reducible assumption))))⟩))
  refine (eqHopS _ _ x.hops y.hops _ (by exact S13.out.ext (by repeat (first | (with_reducible exact Ext.refl _) | (with_reducible assumption) | (with_reducible refine Ext.alloc ?_ _) | (with_reducible refine Ext.drew ?_) | (with_reducible refine Ext.drewN ?_ _) | (with_reducible refine Ext.setCell (p := _) ?_ ?ge _; case ge => (dsimp only; omega)) | (with_reducible refine Ext.trans ?_ (by with_reducible assumption))))) (by exact S23.out.ext (by repeat (first | (with_reducible exact Ext.refl _) | (with_reducible assumption) | (with_reducible refine Ext.alloc ?_ _) | (with_reducible refine Ext.drew ?_) | (with_reducible refine Ext.drewN ?_ _) | (with_reducible refine Ext.setCell (p := _) ?_ ?ge _; case ge => (dsimp only; omega)) | (with_reducible refine Ext.trans ?_ (by with_reducible assumption)))))).mono ?_
  rintro e w4 ⟨rfl, he4⟩
  obtain ⟨hc4, hf4, hz4⟩ := he4.facts
  go_wp2_with fail
  all_goals
    go_ret
    exact ⟨ret_bool (by simp_all [DPathPart.eq_iff]), (by repeat (first | (with_reducible exact Ext.refl _) | (with_reducible assumption) | (with_reducible refine Ext.alloc ?_ _) | (with_reducible refine Ext.drew ?_) | (with_reducible refine Ext.drewN ?_ _) | (with_reducible refine Ext.setCell (p := _) ?_ ?ge _; case ge => (dsimp only; omega)) | (with_reducible refine Ext.trans ?_ (by with_reducible assumption))))⟩
set_option maxRecDepth 100000 in
set_option maxHeartbeats 1000000 in
theorem szPathPart (v : Value) (x : DPathPart) (left : Int) (w : World) (h : PathPartV w.heap.size w v x) (h0 : 0 ≤ left) (hl : left ≤ 1048576) :
    Calls Try.prog 35 #[v, I left] w fun e w' => e = .returned (I (szR (x.hops.length) left)) ∧ Ext w w' := by
  obtain ⟨A3, n3, c3, rfl, s3⟩ := h
  have S3 := Lib.hid s3; clear s3
  go_enter Try.func35, Try.ntmps35
  go_wp2_with fail
  refine (szHopS _ x.hops (left) _ (by exact S3.out.ext (by repeat (first | (with_reducible exact Ext.refl _) | (with_reducible assumption) | (with_reducible refine Ext.alloc ?_ _) | (with_reducible refine Ext.drew ?_) | (with_reducible refine Ext.drewN ?_ _) | (with_reducible refine Ext.setCell (p := _) ?_ ?ge _; case ge => (dsimp only; omega)) | (with_reducible refine Ext.trans ?_ (by with_reducible assumption))))) (by omega) (by omega)).mono ?_
  rintro e w1 ⟨rfl, he1⟩
  obtain ⟨hc1, hf1, hz1⟩ := he1.facts
  by_cases hlt0 : left < ((x.hops.length : Nat) : Int)
  · rw [szR_neg hlt0]
    go_wp2_with fail
    go_ret
    exact ⟨ret_int (szR_neg (by omega)).symm, (by repeat (first | (with_reducible exact Ext.refl _) | (with_reducible assumption) | (with_reducible refine Ext.alloc ?_ _) | (with_reducible refine Ext.drew ?_) | (with_reducible refine Ext.drewN ?_ _) | (with_reducible refine Ext.setCell (p := _) ?_ ?ge _; case ge => (dsimp only; omega)) | (with_reducible refine Ext.trans ?_ (by with_reducible assumption))))⟩
  · rw [szR_pos (by omega)]
    go_wp2_with fail
    go_ret
    exact ⟨ret_int (by rw [szR_pos (by omega)] <;> omega), (by repeat (first | (with_reducible exact Ext.refl _) | (with_reducible assumption) | (with_reducible refine Ext.alloc ?_ _) | (with_reducible refine Ext.drew ?_) | (with_reducible refine Ext.drewN ?_ _) | (with_reducible refine Ext.setCell (p := _) ?_ ?ge _; case ge => (dsimp only; omega)) | (with_reducible refine Ext.trans ?_ (by with_reducible assumption))))⟩
/-- What marking from q on leaves. -/
def PathPartNum1 (q : Nat) (x : DPathPart) : DPathPart := { x with hops := (HopNum q x.hops.length) }
end Go.Proofs.Ytikjpenhpmamiaa
