/- The laws' helpers on SignedSegment: to.. (copy), eq.. (compare), sz.. (count), mark.. and held... Printed by gen.py. -/
import Derived.Test.YtmlfnfflpacchaaGHS
import Derived.Test.YtmlfnfflpacchaaGCore
import Derived.Test.YtmlfnfflpacchaaGGrow
namespace Go.Proofs.Ytmlfnfflpacchaa
open Go.RowKit
set_option linter.unusedVariables false
theorem info_SignedSegment : (Try.prog.info? 106).map (fun i => (i.zero, i.size, i.bytes)) = some (some (.agg #[.int .i64 0, .int .i64 0, .slice none 0 0, .slice none 0 0]), 4, 64) := by kernel_rfl

def SignedSegmentO (lo hi : Nat) (w : World) (v : Value) (x : DSignedSegment) : Prop := ∃ u2 u3 m1, v = .agg #[I x.seg.ts, I x.seg.beta, u2, u3] ∧ Own 117 5 lo m1 w u2 x.seg.hops.length (x.seg.hops.flatMap HopC) ∧ Own 3 1 m1 hi w u3 x.sigs.length (x.sigs.map I) ∧ lo ≤ m1 ∧ m1 ≤ hi
theorem SignedSegmentO.keep {lo hi : Nat} {w w' : World} {v : Value} {x : DSignedSegment} (h : SignedSegmentO lo hi w v x) (hk : ∀ k, lo ≤ k → k < hi → k < w.heap.size → w'.heap[k]? = w.heap[k]?) : SignedSegmentO lo hi w' v x := by
  obtain ⟨u2, u3, m1, e, o2, o3, l0, l1⟩ := h
  exact ⟨u2, u3, m1, e, o2.keep fun k h1 h2 h3 => hk k (by omega) (by omega) h3, o3.keep fun k h1 h2 h3 => hk k (by omega) (by omega) h3, l0, l1⟩
theorem SignedSegmentO.v {lo hi : Nat} {w : World} {v : Value} {x : DSignedSegment} (h : SignedSegmentO lo hi w v x) : SignedSegmentV hi w v x := by
  obtain ⟨u2, u3, m1, e, o2, o3, l0, l1⟩ := h
  have s2 := (o2.sl (At := HopAt) HopC.len (by omega) HopC.at_)
  obtain ⟨A2, n2, c2, rfl, _⟩ := id s2
  have s3 := o3.ints
  obtain ⟨A3, n3, c3, rfl, _⟩ := id s3
  exact ⟨_, _, _, _, _, _, e, s2.keep HopAt.keeps (by omega) (fun _ _ => rfl), s3.keep IntAt.keeps (by omega) (fun _ _ => rfl)⟩
theorem SignedSegmentO.shape {lo hi : Nat} {w : World} {v : Value} {x : DSignedSegment} (h : SignedSegmentO lo hi w v x) : ∃ A2 n2 c2, ∃ A3 n3 c3, v = .agg #[I x.seg.ts, I x.seg.beta, .slice A2 n2 c2, .slice A3 n3 c3] := by
  obtain ⟨A2, n2, c2, A3, n3, c3, e, _, _⟩ := h.v
  exact ⟨A2, n2, c2, A3, n3, c3, e⟩
theorem SignedSegmentO.ext {lo hi : Nat} {w w' : World} {v : Value} {x : DSignedSegment} (h : SignedSegmentO lo hi w v x) (he : Ext w w') (hhi : hi ≤ w.heap.size) : SignedSegmentO lo hi w' v x := h.keep fun k _ _ h3 => he.same k h3
theorem SignedSegmentO.drew {lo hi : Nat} {w : World} {v : Value} {x : DSignedSegment} (h : SignedSegmentO lo hi w v x) : SignedSegmentO lo hi w.drew v x := h.keep fun _ _ _ _ => rfl
theorem SignedSegmentO.out {lo hi lo' hi' : Nat} {w w' : World} {v : Value} {x : DSignedSegment} (h : SignedSegmentO lo hi w v x) (ho : Out lo' hi' w w') (hd : hi' ≤ lo ∨ hi ≤ lo') : SignedSegmentO lo hi w' v x := h.keep fun k h1 h2 h3 => ho.block k h3 (by omega)
theorem SignedSegmentO.more {lo hi lo' hi' : Nat} {w : World} {v : Value} {x : DSignedSegment} (h : SignedSegmentO lo hi w v x) (h1 : lo' ≤ lo) (h2 : hi ≤ hi') : SignedSegmentO lo' hi' w v x := by
  obtain ⟨u2, u3, m1, e, o2, o3, l0, l1⟩ := h
  exact ⟨u2, u3, m1, e, Own.more o2 h1 (Nat.le_refl _), Own.more o3 (Nat.le_refl _) h2, by omega, by omega⟩
theorem SignedSegmentO.up {lo : Nat} {w w' : World} {v : Value} {x : DSignedSegment} (h : SignedSegmentO lo w.heap.size w v x) (he : Ext w w') : SignedSegmentO lo w'.heap.size w' v x := (h.ext he (Nat.le_refl _)).more (Nat.le_refl _) he.size
theorem SignedSegmentO.setT {lo hi g : Nat} {w : World} {v : Value} {x : DSignedSegment} {cs' : List Value} (h : SignedSegmentO lo hi w v x) (hb : Blk w g 106 cs') (i : Nat) (u : Value) : SignedSegmentO lo hi (w.setCell ⟨g, i, none⟩ u) v x := by
  obtain ⟨u2, u3, m1, e, o2, o3, l0, l1⟩ := h
  exact ⟨u2, u3, m1, e, Own.setT o2 hb (by decide) i u, Own.setT o3 hb (by decide) i u, l0, l1⟩
theorem SignedSegmentO_rd {lo hi : Nat} {w : World} {v : Value} {x : DSignedSegment} (h : SignedSegmentO lo hi w v x) (hhi : hi ≤ w.heap.size) : SignedSegmentV w.heap.size w v x := h.v.keep hhi (fun _ _ => rfl)
/-- What marking from q on leaves. -/
def SignedSegmentNum1 (q : Nat) (x : DSignedSegment) : DSignedSegment := { seg := { ts := x.seg.ts, beta := x.seg.beta, hops := (HopNum q x.seg.hops.length) }, sigs := (intsNum (q + 5 * x.seg.hops.length) x.sigs.length) }
/-- How many numbers an element takes, and the element with its numbers from q on. -/
def SignedSegmentCnt (x : DSignedSegment) : Nat := 2 + 5 * x.seg.hops.length + x.sigs.length
def SignedSegmentNumE (q : Nat) (x : DSignedSegment) : DSignedSegment := ⟨⟨(q : Int), (q : Int) + 1, (HopNum (q + 2) x.seg.hops.length)⟩, (intsNum (q + 2 + 5 * x.seg.hops.length) x.sigs.length)⟩
theorem SignedSegmentCnt_le (x : DSignedSegment) : SignedSegmentCnt x ≤ 10 + 10 * (x.seg.hops.length + x.sigs.length) := by
  unfold SignedSegmentCnt
  omega
theorem SignedSegmentCnt_sum (l : List DSignedSegment) : (l.map SignedSegmentCnt).sum ≤ 10 * (totS (fun y => y.seg.hops.length + y.sigs.length) l) := cnt_le (fun x => SignedSegmentCnt_le x) l
end Go.Proofs.Ytmlfnfflpacchaa
