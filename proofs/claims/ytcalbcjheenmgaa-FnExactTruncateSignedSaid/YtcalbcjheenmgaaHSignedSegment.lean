/- The laws' helpers on SignedSegment: to.. (copy), eq.. (compare), sz.. (count), mark.. and held... Printed by gen.py. -/
import Derived.Test.YtcalbcjheenmgaaHSegment
import Derived.Test.YtcalbcjheenmgaaNest
import Derived.Test.YtcalbcjheenmgaaMarkRows
import Derived.Test.YtcalbcjheenmgaaPush
import Derived.Test.YtcalbcjheenmgaaTyped
namespace Go.Proofs.Ytcalbcjheenmgaa
open Go.RowKit
set_option linter.unusedVariables false
theorem info_SignedSegment : (Try.prog.info? 43).map (fun i => (i.zero, i.size, i.bytes)) = some (some (.agg #[.int .i64 0, .int .i64 0, .slice none 0 0, .slice none 0 0]), 4, 64) := by kernel_rfl

def SignedSegmentO (lo hi : Nat) (w : World) (v : Value) (x : DSignedSegment) : Prop := ∃ u2 u3 m1, v = .agg #[I x.seg.ts, I x.seg.beta, u2, u3] ∧ Own 117 5 lo m1 w u2 x.seg.hops.length (x.seg.hops.flatMap HopC) ∧ Own 3 1 m1 hi w u3 x.sigs.length (x.sigs.map I) ∧ lo ≤ m1 ∧ m1 ≤ hi
theorem SignedSegmentO.keep {lo hi : Nat} {w w' : World} {v : Value} {x : DSignedSegment} (h : SignedSegmentO lo hi w v x) (hk : ∀ k, lo ≤ k → k < hi → k < w.heap.size → w'.heap[k]? = w.heap[k]?) : SignedSegmentO lo hi w' v x := by
  obtain ⟨u2, u3, m1, e, o2, o3, l0, l1⟩ := h
  exact ⟨u2, u3, m1, e, o2.keep fun k h1 h2 h3 => hk k (by omega) (by omega) h3, o3.keep fun k h1 h2 h3 => hk k (by omega) (by omega) h3, l0, l1⟩
theorem SignedSegmentO.v {lo hi : Nat} {w : World} {v : Value} {x : DSignedSegment} (h : SignedSegmentO lo hi w v x) : SignedSegmentV hi w v x := by
  obtain ⟨u2, u3, m1, e, o2, o3, l0, l1⟩ := h
  have s2 := (o2.sl (At := HopAt) HopC.len (by omega) HopC.at_)
  obtain ⟨A2, n2, c2, rfl, _⟩ := id s2
  have s3 := o3.ints
  obtain ⟨A3, n3, c3, rfl, _⟩ := id s3
  exact ⟨_, _, _, _, _, _, e, s2.keep HopAt.keeps (by omega) (fun _ _ => rfl), s3.keep IntAt.keeps (by omega) (fun _ _ => rfl)⟩
theorem SignedSegmentO.shape {lo hi : Nat} {w : World} {v : Value} {x : DSignedSegment} (h : SignedSegmentO lo hi w v x) : ∃ A2 n2 c2, ∃ A3 n3 c3, v = .agg #[I x.seg.ts, I x.seg.beta, .slice A2 n2 c2, .slice A3 n3 c3] := by
  obtain ⟨A2, n2, c2, A3, n3, c3, e, _, _⟩ := h.v
  exact ⟨A2, n2, c2, A3, n3, c3, e⟩
theorem SignedSegmentO.ext {lo hi : Nat} {w w' : World} {v : Value} {x : DSignedSegment} (h : SignedSegmentO lo hi w v x) (he : Ext w w') (hhi : hi ≤ w.heap.size) : SignedSegmentO lo hi w' v x := h.keep fun k _ _ h3 => he.same k h3
theorem SignedSegmentO.drew {lo hi : Nat} {w : World} {v : Value} {x : DSignedSegment} (h : SignedSegmentO lo hi w v x) : SignedSegmentO lo hi w.drew v x := h.keep fun _ _ _ _ => rfl
theorem SignedSegmentO.out {lo hi lo' hi' : Nat} {w w' : World} {v : Value} {x : DSignedSegment} (h : SignedSegmentO lo hi w v x) (ho : Out lo' hi' w w') (hd : hi' ≤ lo ∨ hi ≤ lo') : SignedSegmentO lo hi w' v x := h.keep fun k h1 h2 h3 => ho.block k h3 (by omega)
theorem SignedSegmentO.more {lo hi lo' hi' : Nat} {w : World} {v : Value} {x : DSignedSegment} (h : SignedSegmentO lo hi w v x) (h1 : lo' ≤ lo) (h2 : hi ≤ hi') : SignedSegmentO lo' hi' w v x := by
  obtain ⟨u2, u3, m1, e, o2, o3, l0, l1⟩ := h
  exact ⟨u2, u3, m1, e, Own.more o2 h1 (Nat.le_refl _), Own.more o3 (Nat.le_refl _) h2, by omega, by omega⟩
theorem SignedSegmentO.up {lo : Nat} {w w' : World} {v : Value} {x : DSignedSegment} (h : SignedSegmentO lo w.heap.size w v x) (he : Ext w w') : SignedSegmentO lo w'.heap.size w' v x := (h.ext he (Nat.le_refl _)).more (Nat.le_refl _) he.size
theorem SignedSegmentO.setT {lo hi g : Nat} {w : World} {v : Value} {x : DSignedSegment} {cs' : List Value} (h : SignedSegmentO lo hi w v x) (hb : Blk w g 43 cs') (i : Nat) (u : Value) : SignedSegmentO lo hi (w.setCell ⟨g, i, none⟩ u) v x := by
  obtain ⟨u2, u3, m1, e, o2, o3, l0, l1⟩ := h
  exact ⟨u2, u3, m1, e, Own.setT o2 hb (by decide) i u, Own.setT o3 hb (by decide) i u, l0, l1⟩
theorem SignedSegmentO_rd {lo hi : Nat} {w : World} {v : Value} {x : DSignedSegment} (h : SignedSegmentO lo hi w v x) (hhi : hi ≤ w.heap.size) : SignedSegmentV w.heap.size w v x := h.v.keep hhi (fun _ _ => rfl)
set_option maxRecDepth 100000 in
set_option maxHeartbeats 1000000 in
theorem toSignedSegment (v : Value) (x : DSignedSegment) (w : World) (h : SignedSegmentV w.heap.size w v x) (hn : x.seg.hops.length + x.sigs.length ≤ 16777216) :
    Calls Try.prog 22 #[v] w fun e w' => ∃ v', e = .returned v' ∧ SignedSegmentO w.heap.size w'.heap.size w' v' x ∧ Ext w w' := by
  obtain ⟨A2, n2, c2, A3, n3, c3, rfl, s2, s3⟩ := h
  have S2 := Lib.hid s2; clear s2
  have S3 := Lib.hid s3; clear s3
  go_enter Try.func22, Try.ntmps22
  go_wp2_with fail
  refine (toSegment _ x.seg _ (by exact ⟨_, _, _, rfl, S2.out.ext (by repeat (first | (with_reducible exact Ext.refl _) | (with_reducible assumption) | (with_reducible refine Ext.alloc ?_ _) | (with_reducible refine Ext.drew ?_) | (with_reducible refine Ext.drewN ?_ _) | (with_reducible refine Ext.setCell (p := _) ?_ ?ge _; case ge => (dsimp only; omega)) | (with_reducible refine Ext.trans ?_ (by with_reducible assumption))))⟩) (by omega)).mono ?_
  rintro e w0 ⟨v0, rfl, ho0, he0⟩
  obtain ⟨hc0, hf0, hz0⟩ := he0.facts
  simp only [World.size_alloc] at hz0 hc0 hf0
  have la0 : w.heap.size < w0.heap.size := by omega
  have lb0 : w.heap.size + 1 < w0.heap.size := by omega
  have lc0 : w.heap.size + 1 + 1 < w0.heap.size := by omega
  obtain ⟨t2, hv0, o2, l0_0⟩ := ho0
  simp only [World.size_alloc] at o2
  subst hv0
  simp only [World.size_alloc] at l0_0
  have O2 := Lib.hid o2; clear o2
  obtain ⟨a2, m2, q2, hu2⟩ : ∃ a n c, t2 = .slice a n c := O2.out.slice
  subst hu2
  go_wp2_with fail
  refine (toIntS _ x.sigs _ (by exact S3.out.ext (by repeat (first | (with_reducible exact Ext.refl _) | (with_reducible assumption) | (with_reducible refine Ext.alloc ?_ _) | (with_reducible refine Ext.drew ?_) | (with_reducible refine Ext.drewN ?_ _) | (with_reducible refine Ext.setCell (p := _) ?_ ?ge _; case ge => (dsimp only; omega)) | (with_reducible refine Ext.trans ?_ (by with_reducible assumption))))) (by omega)).mono ?_
  rintro e w3 ⟨v3, rfl, ho3, he3⟩
  obtain ⟨hc3, hf3, hz3⟩ := he3.facts
  simp only [World.size_setCell] at hz3 hc3 hf3
  have la3 : w.heap.size < w3.heap.size := by omega
  have lb3 : w.heap.size + 1 < w3.heap.size := by omega
  have lc3 : w.heap.size + 1 + 1 < w3.heap.size := by omega
  simp only [World.size_setCell] at ho3
  have O3 := Lib.hid ho3; clear ho3
  obtain ⟨a3, m3, q3, hv3⟩ : ∃ a n c, v3 = .slice a n c := O3.out.slice
  subst hv3
  go_wp2_with fail
  refine bodyPost_ret (v := .agg #[I x.seg.ts, I x.seg.beta, .slice a2 m2 q2, .slice a3 m3 q3]) (by simp [results, Try.results22, go_sem, *]) rfl ⟨_, rfl, ?_, ?_⟩
  · simp only [World.size_setCell]
    refine ⟨_, _, w0.heap.size, rfl, Own.more (lo := w.heap.size + 1 + 1 + 1) (hi := w0.heap.size) (by repeat (first | (with_reducible exact O2.out) | (with_reducible refine Own.alloc ?_ _) | (with_reducible refine Own.setCell (p := _) ?_ (.inl ?ge) _; case ge => (first | omega | (dsimp only; omega) | (simp only [World.size_setCell]; omega) | (simp only [World.size_alloc]; omega))) | (with_reducible refine Own.ext ?_ (by with_reducible assumption) ?ge; case ge => (first | omega | (dsimp only; omega) | (simp only [World.size_setCell]; omega) | (simp only [World.size_alloc]; omega))))) (by omega) (by omega), Own.more (lo := w0.heap.size) (hi := w3.heap.size) (by repeat (first | (with_reducible exact O3.out) | (with_reducible refine Own.alloc ?_ _) | (with_reducible refine Own.setCell (p := _) ?_ (.inl ?ge) _; case ge => (first | omega | (dsimp only; omega) | (simp only [World.size_setCell]; omega) | (simp only [World.size_alloc]; omega))) | (with_reducible refine Own.ext ?_ (by with_reducible assumption) ?ge; case ge => (first | omega | (dsimp only; omega) | (simp only [World.size_setCell]; omega) | (simp only [World.size_alloc]; omega))))) (by omega) (by omega), by omega, by omega⟩
  · exact (by repeat (first | (with_reducible exact Ext.refl _) | (with_reducible assumption) | (with_reducible refine Ext.alloc ?_ _) | (with_reducible refine Ext.drew ?_) | (with_reducible refine Ext.drewN ?_ _) | (with_reducible refine Ext.setCell (p := _) ?_ ?ge _; case ge => (dsimp only; omega)) | (with_reducible refine Ext.trans ?_ (by with_reducible assumption))))
set_option maxRecDepth 100000 in
set_option maxHeartbeats 1000000 in
theorem eqSignedSegment (v1 v2 : Value) (x y : DSignedSegment) (w : World) (h1 : SignedSegmentV w.heap.size w v1 x) (h2 : SignedSegmentV w.heap.size w v2 y) :
    Calls Try.prog 24 #[v1, v2] w fun e w' => e = .returned (.bool (decide (x = y))) ∧ Ext w w' := by
  obtain ⟨A12, n12, c12, A13, n13, c13, rfl, s12, s13⟩ := h1
  obtain ⟨A22, n22, c22, A23, n23, c23, rfl, s22, s23⟩ := h2
  have S12 := Lib.hid s12; clear s12
  have S13 := Lib.hid s13; clear s13
  have S22 := Lib.hid s22; clear s22
  have S23 := Lib.hid s23; clear s23
  go_enter Try.func24, Try.ntmps24
  go_wp2_with fail
  all_goals (try (go_ret; exact ⟨ret_bool (by simp_all [DSignedSegment.eq_iff]), (by repeat (first | (with_reducible exact Ext.refl _) | (with_reducible assumption) | (with_reducible refine Ext.alloc ?_ _) | (with_reducible refine Ext.drew ?_) | (with_reducible refine Ext.drewN ?_ _) | (with_reducible refine Ext.setCell (p := _) ?_ ?ge _; case ge => (dsimp only; omega)) | (with_reducible refine Ext.trans ?_ (by with_reducible assumption))))⟩))
  refine (eqSegment _ _ x.seg y.seg _ (by exact ⟨_, _, _, rfl, S12.out.ext (by repeat (first | (with_reducible exact Ext.refl _) | (with_reducible assumption) | (with_reducible refine Ext.alloc ?_ _) | (with_reducible refine Ext.drew ?_) | (with_reducible refine Ext.drewN ?_ _) | (with_reducible refine Ext.setCell (p := _) ?_ ?ge _; case ge => (dsimp only; omega)) | (with_reducible refine Ext.trans ?_ (by with_reducible assumption))))⟩) (by exact ⟨_, _, _, rfl, S22.out.ext (by repeat (first | (with_reducible exact Ext.refl _) | (with_reducible assumption) | (with_reducible refine Ext.alloc ?_ _) | (with_reducible refine Ext.drew ?_) | (with_reducible refine Ext.drewN ?_ _) | (with_reducible refine Ext.setCell (p := _) ?_ ?ge _; case ge => (dsimp only; omega)) | (with_reducible refine Ext.trans ?_ (by with_reducible assumption))))⟩)).mono ?_
  rintro e w3 ⟨rfl, he3⟩
  obtain ⟨hc3, hf3, hz3⟩ := he3.facts
  go_wp2_with fail
  all_goals (try (go_ret; exact ⟨ret_bool (by simp_all [DSignedSegment.eq_iff]), (by repeat (first | (with_reducible exact Ext.refl _) | (with_reducible assumption) | (with_reducible refine Ext.alloc ?_ _) | (with_reducible refine Ext.drew ?_) | (with_reducible refine Ext.drewN ?_ _) | (with_reducible refine Ext.setCell (p := _) ?_ ?ge _; case ge => (dsimp only; omega)) | (with_reducible refine Ext.trans ?_ (by with_reducible assumption))))⟩))
  refine (eqIntS _ _ x.sigs y.sigs _ (by exact S13.out.ext (by repeat (first | (with_reducible exact Ext.refl _) | (with_reducible assumption) | (with_reducible refine Ext.alloc ?_ _) | (with_reducible refine Ext.drew ?_) | (with_reducible refine Ext.drewN ?_ _) | (with_reducible refine Ext.setCell (p := _) ?_ ?ge _; case ge => (dsimp only; omega)) | (with_reducible refine Ext.trans ?_ (by with_reducible assumption))))) (by exact S23.out.ext (by repeat (first | (with_reducible exact Ext.refl _) | (with_reducible assumption) | (with_reducible refine Ext.alloc ?_ _) | (with_reducible refine Ext.drew ?_) | (with_reducible refine Ext.drewN ?_ _) | (with_reducible refine Ext.setCell (p := _) ?_ ?ge _; case ge => (dsimp only; omega)) | (with_reducible refine Ext.trans ?_ (by with_reducible assumption)))))).mono ?_
  rintro e w4 ⟨rfl, he4⟩
  obtain ⟨hc4, hf4, hz4⟩ := he4.facts
  go_wp2_with fail
  all_goals
    go_ret
    exact ⟨ret_bool (by simp_all [DSignedSegment.eq_iff]), (by repeat (first | (with_reducible exact Ext.refl _) | (with_reducible assumption) | (with_reducible refine Ext.alloc ?_ _) | (with_reducible refine Ext.drew ?_) | (with_reducible refine Ext.drewN ?_ _) | (with_reducible refine Ext.setCell (p := _) ?_ ?ge _; case ge => (dsimp only; omega)) | (with_reducible refine Ext.trans ?_ (by with_reducible assumption))))⟩
set_option maxRecDepth 100000 in
set_option maxHeartbeats 1000000 in
theorem szSignedSegment (v : Value) (x : DSignedSegment) (left : Int) (w : World) (h : SignedSegmentV w.heap.size w v x) (h0 : 0 ≤ left) (hl : left ≤ 1048576) :
    Calls Try.prog 20 #[v, I left] w fun e w' => e = .returned (I (szR (x.seg.hops.length + x.sigs.length) left)) ∧ Ext w w' := by
  obtain ⟨A2, n2, c2, A3, n3, c3, rfl, s2, s3⟩ := h
  have S2 := Lib.hid s2; clear s2
  have S3 := Lib.hid s3; clear s3
  go_enter Try.func20, Try.ntmps20
  go_wp2_with fail
  refine (szSegment _ x.seg (left) _ (by exact ⟨_, _, _, rfl, S2.out.ext (by repeat (first | (with_reducible exact Ext.refl _) | (with_reducible assumption) | (with_reducible refine Ext.alloc ?_ _) | (with_reducible refine Ext.drew ?_) | (with_reducible refine Ext.drewN ?_ _) | (with_reducible refine Ext.setCell (p := _) ?_ ?ge _; case ge => (dsimp only; omega)) | (with_reducible refine Ext.trans ?_ (by with_reducible assumption))))⟩) (by omega) (by omega)).mono ?_
  rintro e w1 ⟨rfl, he1⟩
  obtain ⟨hc1, hf1, hz1⟩ := he1.facts
  by_cases hlt0 : left < (((x.seg.hops.length) : Nat) : Int)
  · rw [szR_neg hlt0]
    go_wp2_with fail
    go_ret
    exact ⟨ret_int (szR_neg (by omega)).symm, (by repeat (first | (with_reducible exact Ext.refl _) | (with_reducible assumption) | (with_reducible refine Ext.alloc ?_ _) | (with_reducible refine Ext.drew ?_) | (with_reducible refine Ext.drewN ?_ _) | (with_reducible refine Ext.setCell (p := _) ?_ ?ge _; case ge => (dsimp only; omega)) | (with_reducible refine Ext.trans ?_ (by with_reducible assumption))))⟩
  · rw [szR_pos (by omega)]
    go_wp2_with fail
    refine (szIntS _ x.sigs (left - (((x.seg.hops.length) : Nat) : Int)) _ (by exact S3.out.ext (by repeat (first | (with_reducible exact Ext.refl _) | (with_reducible assumption) | (with_reducible refine Ext.alloc ?_ _) | (with_reducible refine Ext.drew ?_) | (with_reducible refine Ext.drewN ?_ _) | (with_reducible refine Ext.setCell (p := _) ?_ ?ge _; case ge => (dsimp only; omega)) | (with_reducible refine Ext.trans ?_ (by with_reducible assumption))))) (by omega) (by omega)).mono ?_
    rintro e w2 ⟨rfl, he2⟩
    obtain ⟨hc2, hf2, hz2⟩ := he2.facts
    by_cases hlt1 : left - (((x.seg.hops.length) : Nat) : Int) < (((x.sigs.length) : Nat) : Int)
    · rw [szR_neg hlt1]
      go_wp2_with fail
      go_ret
      exact ⟨ret_int (szR_neg (by omega)).symm, (by repeat (first | (with_reducible exact Ext.refl _) | (with_reducible assumption) | (with_reducible refine Ext.alloc ?_ _) | (with_reducible refine Ext.drew ?_) | (with_reducible refine Ext.drewN ?_ _) | (with_reducible refine Ext.setCell (p := _) ?_ ?ge _; case ge => (dsimp only; omega)) | (with_reducible refine Ext.trans ?_ (by with_reducible assumption))))⟩
    · rw [szR_pos (by omega)]
      go_wp2_with fail
      go_ret
      exact ⟨ret_int (by rw [szR_pos (by omega)] <;> omega), (by repeat (first | (with_reducible exact Ext.refl _) | (with_reducible assumption) | (with_reducible refine Ext.alloc ?_ _) | (with_reducible refine Ext.drew ?_) | (with_reducible refine Ext.drewN ?_ _) | (with_reducible refine Ext.setCell (p := _) ?_ ?ge _; case ge => (dsimp only; omega)) | (with_reducible refine Ext.trans ?_ (by with_reducible assumption))))⟩
/-- What marking from q on leaves. -/
def SignedSegmentNum1 (q : Nat) (x : DSignedSegment) : DSignedSegment := { seg := { ts := x.seg.ts, beta := x.seg.beta, hops := (HopNum q x.seg.hops.length) }, sigs := (intsNum (q + 5 * x.seg.hops.length) x.sigs.length) }
set_option maxRecDepth 100000 in
set_option maxHeartbeats 1000000 in
theorem markSignedSegment (v : Value) (x : DSignedSegment) (q lo hi : Nat) (w : World) (h : SignedSegmentO lo hi w v x) (hhi : hi ≤ w.heap.size) (hq : ((q + 5 * x.seg.hops.length) + x.sigs.length) ≤ 1000000000000000) :
    Calls Try.prog 25 #[v, I q] w fun e w' => e = .returned (I ((((q + 5 * x.seg.hops.length) + x.sigs.length) : Nat) : Int)) ∧ SignedSegmentO lo hi w' v (SignedSegmentNum1 q x) ∧ Out lo hi w w' := by
  obtain ⟨u2, u3, m1, rfl, o2, o3, l0, l1⟩ := h
  have O2 := Lib.hid o2; clear o2
  obtain ⟨a2, k2, c2, hv2⟩ := O2.out.slice
  subst hv2
  have O3 := Lib.hid o3; clear o3
  obtain ⟨a3, k3, c3, hv3⟩ := O3.out.slice
  subst hv3
  go_enter Try.func25, Try.ntmps25
  go_wp2_with fail
  refine (markSegment _ x.seg q lo m1 _ (by exact ⟨_, rfl, (by repeat (first | (with_reducible exact O2.out) | (with_reducible refine Own.ext ?_ (by with_reducible assumption) ?ge; case ge => (first | omega | (simp only [World.size_alloc]; omega))) | (with_reducible refine Own.out ?_ (by with_reducible assumption) ?ge; case ge => omega) | (with_reducible refine Own.alloc ?_ _))), l0⟩) (by first | omega | (simp only [World.size_alloc]; omega)) (by omega)).mono ?_
  rintro e w0 ⟨rfl, p0, t0⟩
  obtain ⟨y0, hy0, p0, -⟩ := p0
  simp only [SegmentNum1] at p0
  have P2 := Lib.hid p0; clear p0
  obtain rfl : y0 = .slice a2 k2 c2 := by simp [SegmentNum1] at hy0; exact hy0.symm
  clear hy0
  have z0 := t0.size
  have hc0 : ∀ k o, k < lo ∨ hi ≤ k → k < _ → w0.cell? ⟨k, o, none⟩ = _ := fun k o h1 h2 => World.cell?_of_block (a := ⟨k, o, none⟩) (t0.block k h2 (by omega))
  simp only [World.size_alloc] at z0
  have lw0 : w.heap.size < w0.heap.size := by omega
  go_wp2_with fail
  refine (markIntS _ x.sigs (q + 5 * x.seg.hops.length) m1 hi _ (by exact (by repeat (first | (with_reducible exact O3.out) | (with_reducible refine Own.ext ?_ (by with_reducible assumption) ?ge; case ge => (first | omega | (simp only [World.size_alloc]; omega))) | (with_reducible refine Own.out ?_ (by with_reducible assumption) ?ge; case ge => omega) | (with_reducible refine Own.alloc ?_ _)))) (by omega)).mono ?_
  rintro e w3 ⟨rfl, p3, t3⟩
  have P3 := Lib.hid p3; clear p3
  have z3 := t3.size
  have hc3 : ∀ k o, k < lo ∨ hi ≤ k → k < _ → w3.cell? ⟨k, o, none⟩ = _ := fun k o h1 h2 => World.cell?_of_block (a := ⟨k, o, none⟩) (t3.block k h2 (by omega))
  have lw3 : w.heap.size < w3.heap.size := by omega
  go_wp2_with fail
  go_ret
  have hOut : Out lo hi w w3 := (Out.trans (Out.trans (Out.of_ext (by repeat (first | (with_reducible exact Ext.refl _) | (with_reducible assumption) | (with_reducible refine Ext.alloc ?_ _) | (with_reducible refine Ext.drew ?_) | (with_reducible refine Ext.drewN ?_ _) | (with_reducible refine Ext.setCell (p := _) ?_ ?ge _; case ge => (dsimp only; omega)) | (with_reducible refine Ext.trans ?_ (by with_reducible assumption))))) (t0.mono (by omega) (by omega))) (t3.mono (by omega) (by omega)))
  have HOUT := Lib.hid hOut; clear hOut
  exact ⟨rfl, ⟨_, _, _, rfl, (by unfold SignedSegmentNum1; dsimp only; exact (by repeat (first | (with_reducible exact P2.out) | (with_reducible refine Own.ext ?_ (by with_reducible assumption) ?ge; case ge => (first | omega | (simp only [World.size_alloc]; omega))) | (with_reducible refine Own.out ?_ (by with_reducible assumption) ?ge; case ge => omega) | (with_reducible refine Own.alloc ?_ _)))), (by unfold SignedSegmentNum1; dsimp only; rw [intsNum_len]; exact (by repeat (first | (with_reducible exact P3.out) | (with_reducible refine Own.ext ?_ (by with_reducible assumption) ?ge; case ge => (first | omega | (simp only [World.size_alloc]; omega))) | (with_reducible refine Own.out ?_ (by with_reducible assumption) ?ge; case ge => omega) | (with_reducible refine Own.alloc ?_ _)))), l0, l1⟩, HOUT.out⟩
set_option maxRecDepth 100000 in
set_option maxHeartbeats 1000000 in
theorem heldSignedSegment (v : Value) (x : DSignedSegment) (q : Nat) (w : World) (h : SignedSegmentV w.heap.size w v (SignedSegmentNum1 q x)) (hq : ((q + 5 * x.seg.hops.length) + x.sigs.length) ≤ 1000000000000000) :
    Calls Try.prog 26 #[v, I q] w fun e w' => e = .returned (I ((((q + 5 * x.seg.hops.length) + x.sigs.length) : Nat) : Int)) ∧ Ext w w' := by
  obtain ⟨A2, n2, c2, A3, n3, c3, rfl, s2, s3⟩ := h
  have S2 := Lib.hid s2; clear s2
  have S3 := Lib.hid s3; clear s3
  go_enter Try.func26, Try.ntmps26
  go_wp2_with fail
  refine (heldSegment _ x.seg q _ (by exact ⟨_, _, _, rfl, S2.out.ext (by repeat (first | (with_reducible exact Ext.refl _) | (with_reducible assumption) | (with_reducible refine Ext.alloc ?_ _) | (with_reducible refine Ext.drew ?_) | (with_reducible refine Ext.drewN ?_ _) | (with_reducible refine Ext.setCell (p := _) ?_ ?ge _; case ge => (dsimp only; omega)) | (with_reducible refine Ext.trans ?_ (by with_reducible assumption))))⟩) (by omega)).mono ?_
  rintro e w0 ⟨rfl, e0⟩
  obtain ⟨hc0, -, hz0⟩ := e0.facts
  simp only [World.size_alloc] at hz0 hc0
  have lw0 : w.heap.size < w0.heap.size := by omega
  have j0 : ¬ (((q + 5 * x.seg.hops.length) : Nat) : Int) < 0 := by omega
  go_wp2_with fail
  refine (heldIntS _ x.sigs.length (q + 5 * x.seg.hops.length) _ (by exact S3.out.ext (by repeat (first | (with_reducible exact Ext.refl _) | (with_reducible assumption) | (with_reducible refine Ext.alloc ?_ _) | (with_reducible refine Ext.drew ?_) | (with_reducible refine Ext.drewN ?_ _) | (with_reducible refine Ext.setCell (p := _) ?_ ?ge _; case ge => (dsimp only; omega)) | (with_reducible refine Ext.trans ?_ (by with_reducible assumption))))) (by omega)).mono ?_
  rintro e w3 ⟨rfl, e3⟩
  obtain ⟨hc3, -, hz3⟩ := e3.facts
  have lw3 : w.heap.size < w3.heap.size := by omega
  have j3 : ¬ ((((q + 5 * x.seg.hops.length) + x.sigs.length) : Nat) : Int) < 0 := by omega
  go_wp2_with fail
  go_ret
  exact ⟨rfl, (by repeat (first | (with_reducible exact Ext.refl _) | (with_reducible assumption) | (with_reducible refine Ext.alloc ?_ _) | (with_reducible refine Ext.drew ?_) | (with_reducible refine Ext.drewN ?_ _) | (with_reducible refine Ext.setCell (p := _) ?_ ?ge _; case ge => (dsimp only; omega)) | (with_reducible refine Ext.trans ?_ (by with_reducible assumption))))⟩
/-- How many numbers an element takes, and the element with its numbers from q on. -/
def SignedSegmentCnt (x : DSignedSegment) : Nat := 2 + 5 * x.seg.hops.length + x.sigs.length
def SignedSegmentNumE (q : Nat) (x : DSignedSegment) : DSignedSegment := ⟨⟨(q : Int), (q : Int) + 1, (HopNum (q + 2) x.seg.hops.length)⟩, (intsNum (q + 2 + 5 * x.seg.hops.length) x.sigs.length)⟩
theorem SignedSegmentCnt_le (x : DSignedSegment) : SignedSegmentCnt x ≤ 10 + 10 * (x.seg.hops.length + x.sigs.length) := by
  unfold SignedSegmentCnt
  omega
theorem SignedSegmentCnt_sum (l : List DSignedSegment) : (l.map SignedSegmentCnt).sum ≤ 10 * (totS (fun y => y.seg.hops.length + y.sigs.length) l) := cnt_le (fun x => SignedSegmentCnt_le x) l
end Go.Proofs.Ytcalbcjheenmgaa
