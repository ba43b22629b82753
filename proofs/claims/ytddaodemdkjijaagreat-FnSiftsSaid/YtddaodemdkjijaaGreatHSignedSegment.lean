/- The laws' helpers on SignedSegment: to.. (copy), eq.. (compare), sz.. (count), mark.. and held... Printed by gen.py. -/
import Derived.Test.YtddaodemdkjijaaGreatGHS
import Derived.Test.YtddaodemdkjijaaGreatGCore
import Derived.Test.YtddaodemdkjijaaGreatGGrow
namespace Go.Proofs.YtddaodemdkjijaaGreat
open Go.RowKit
set_option linter.unusedVariables false
theorem info_SignedSegment : (Tryz.prog.info? 40).map (fun i => (i.zero, i.size, i.bytes)) = some (some (.agg #[.int .i64 0, .int .i64 0, .slice none 0 0, .slice none 0 0]), 4, 64) := by kernel_rfl

def SignedSegmentO (lo hi : Nat) (w : World) (v : Value) (x : DSignedSegment) : Prop := ∃ u2 u3 m1, v = .agg #[I x.seg.ts, I x.seg.beta, u2, u3] ∧ Own 67 5 lo m1 w u2 x.seg.hops.length (x.seg.hops.flatMap HopC) ∧ Own 3 1 m1 hi w u3 x.sigs.length (x.sigs.map I) ∧ lo ≤ m1 ∧ m1 ≤ hi
theorem SignedSegmentO.keep {lo hi : Nat} {w w' : World} {v : Value} {x : DSignedSegment} (h : SignedSegmentO lo hi w v x) (hk : ∀ k, lo ≤ k → k < hi → k < w.heap.size → w'.heap[k]? = w.heap[k]?) : SignedSegmentO lo hi w' v x := by
  obtain ⟨u2, u3, m1, e, o2, o3, l0, l1⟩ := h
  exact ⟨u2, u3, m1, e, o2.keep fun k h1 h2 h3 => hk k (by omega) (by omega) h3, o3.keep fun k h1 h2 h3 => hk k (by omega) (by omega) h3, l0, l1⟩
theorem SignedSegmentO.v {lo hi : Nat} {w : World} {v : Value} {x : DSignedSegment} (h : SignedSegmentO lo hi w v x) : SignedSegmentV hi w v x := by
  obtain ⟨u2, u3, m1, e, o2, o3, l0, l1⟩ := h
  have s2 := (o2.sl (At := HopAt) HopC.len (by omega) HopC.at_)
  obtain ⟨A2, n2, c2, rfl, _⟩ := id s2
  have s3 := o3.ints
  obtain ⟨A3, n3, c3, rfl, _⟩ := id s3
  exact ⟨_, _, _, _, _, _, e, s2.keep HopAt.keeps (by omega) (fun _ _ => rfl), s3.keep IntAt.keeps (by omega) (fun _ _ => rfl)⟩
theorem SignedSegmentO.shape {lo hi : Nat} {w : World} {v : Value} {x : DSignedSegment} (h : SignedSegmentO lo hi w v x) : ∃ A2 n2 c2, ∃ A3 n3 c3, v = .agg #[I x.seg.ts, I x.seg.beta, .slice A2 n2 c2, .slice A3 n3 c3] := by
  obtain ⟨A2, n2, c2, A3, n3, c3, e, _, _⟩ := h.v
  exact ⟨A2, n2, c2, A3, n3, c3, e⟩
theorem SignedSegmentO.ext {lo hi : Nat} {w w' : World} {v : Value} {x : DSignedSegment} (h : SignedSegmentO lo hi w v x) (he : Ext w w') (hhi : hi ≤ w.heap.size) : SignedSegmentO lo hi w' v x := h.keep fun k _ _ h3 => he.same k h3
theorem SignedSegmentO.drew {lo hi : Nat} {w : World} {v : Value} {x : DSignedSegment} (h : SignedSegmentO lo hi w v x) : SignedSegmentO lo hi w.drew v x := h.keep fun _ _ _ _ => rfl
theorem SignedSegmentO.out {lo hi lo' hi' : Nat} {w w' : World} {v : Value} {x : DSignedSegment} (h : SignedSegmentO lo hi w v x) (ho : Out lo' hi' w w') (hd : hi' ≤ lo ∨ hi ≤ lo') : SignedSegmentO lo hi w' v x := h.keep fun k h1 h2 h3 => ho.block k h3 (by omega)
theorem SignedSegmentO.more {lo hi lo' hi' : Nat} {w : World} {v : Value} {x : DSignedSegment} (h : SignedSegmentO lo hi w v x) (h1 : lo' ≤ lo) (h2 : hi ≤ hi') : SignedSegmentO lo' hi' w v x := by
  obtain ⟨u2, u3, m1, e, o2, o3, l0, l1⟩ := h
  exact ⟨u2, u3, m1, e, Own.more o2 h1 (Nat.le_refl _), Own.more o3 (Nat.le_refl _) h2, by omega, by omega⟩
theorem SignedSegmentO.up {lo : Nat} {w w' : World} {v : Value} {x : DSignedSegment} (h : SignedSegmentO lo w.heap.size w v x) (he : Ext w w') : SignedSegmentO lo w'.heap.size w' v x := (h.ext he (Nat.le_refl _)).more (Nat.le_refl _) he.size
theorem SignedSegmentO.setT {lo hi g : Nat} {w : World} {v : Value} {x : DSignedSegment} {cs' : List Value} (h : SignedSegmentO lo hi w v x) (hb : Blk w g 40 cs') (i : Nat) (u : Value) : SignedSegmentO lo hi (w.setCell ⟨g, i, none⟩ u) v x := by
  obtain ⟨u2, u3, m1, e, o2, o3, l0, l1⟩ := h
  exact ⟨u2, u3, m1, e, Own.setT o2 hb (by decide) i u, Own.setT o3 hb (by decide) i u, l0, l1⟩
theorem SignedSegmentO_rd {lo hi : Nat} {w : World} {v : Value} {x : DSignedSegment} (h : SignedSegmentO lo hi w v x) (hhi : hi ≤ w.heap.size) : SignedSegmentV w.heap.size w v x := h.v.keep hhi (fun _ _ => rfl)
/-- What marking from q on leaves. -/
def SignedSegmentNum1 (q : Nat) (x : DSignedSegment) : DSignedSegment := { seg := { ts := x.seg.ts, beta := x.seg.beta, hops := (HopNum q x.seg.hops.length) }, sigs := (intsNum (q + 5 * x.seg.hops.length) x.sigs.length) }
/-- The cells cs of a SignedSegment and the blocks that it owns. -/
def SignedSegmentOC (w : World) (fp : List Nat) (cs : List Value) (x : DSignedSegment) : Prop := ∃ u2 u3, cs = [I x.seg.ts, I x.seg.beta, u2, u3] ∧ w.ownsRow 0 67 5 u2 x.seg.hops.length (x.seg.hops.flatMap HopC) ∧ w.ownsRow 0 3 1 u3 x.sigs.length (x.sigs.map I) ∧ fp = u2.ownBlock.toList ++ u3.ownBlock.toList
theorem SignedSegmentOC.keeps : OKeeps SignedSegmentOC := by
  intro w w' fp cs x hk h
  obtain ⟨u2, u3, e, r2, r3, ef⟩ := h
  exact ⟨u2, u3, e, ownsRow_keep r2 (fun b hb => hk b (by rw [ef]; simp [hb])), ownsRow_keep r3 (fun b hb => hk b (by rw [ef]; simp [hb])), ef⟩
theorem SignedSegmentOC.at_ (B : Nat) (w : World) (b o : Nat) (fp : List Nat) (cs : List Value) (x : DSignedSegment) (h : SignedSegmentOC w fp cs x) (hb : ∀ b ∈ fp, b < B) (hc : ∀ j u, cs[j]? = some u → w.cell? ⟨b, o + j, none⟩ = some u) : SignedSegmentAt B w b o x := by
  obtain ⟨u2, u3, rfl, r2, r3, ef⟩ := h
  have s2 : HopS B w u2 x.seg.hops := Own.sl (lo := 0) (n := x.seg.hops.length) (At := HopAt) ⟨r2, fun k hk => hb k (by rw [ef]; simp [hk])⟩ HopC.len (by omega) HopC.at_
  obtain ⟨A2, n2, c2, e2, _⟩ := id s2
  subst e2
  have s3 : IntS B w u3 x.sigs := Own.ints (lo := 0) (n := x.sigs.length) ⟨r3, fun k hk => hb k (by rw [ef]; simp [hk])⟩
  obtain ⟨A3, n3, c3, e3, _⟩ := id s3
  subst e3
  exact ⟨A2, n2, c2, A3, n3, c3, hc 0 _ rfl, hc 1 _ rfl, hc 2 _ rfl, hc 3 _ rfl, s2, s3⟩
theorem SignedSegmentOC.one : OOne SignedSegmentOC := by
  intro w fp cs x h
  obtain ⟨u2, u3, rfl, r2, r3, ef⟩ := h
  obtain ⟨a2, m2, c2, e2⟩ := ownsRow_slice r2
  subst e2
  obtain ⟨a3, m3, c3, e3⟩ := ownsRow_slice r3
  subst e3
  intro u hu
  simp only [List.mem_cons, List.not_mem_nil, or_false] at hu
  rcases hu with rfl | rfl | rfl | rfl <;> rfl
theorem SignedSegmentOC.typed (T : Nat) (n0 : 67 ≠ T) (n1 : 3 ≠ T) : OTyped SignedSegmentOC T := by
  intro w fp cs x g cs' h hb
  obtain ⟨u2, u3, e, r2, r3, ef⟩ := h
  subst ef
  intro hm
  simp only [List.mem_append] at hm
  rcases hm with hm | hm
  · exact ownsRow_typed r2 hb n0 hm
  · exact ownsRow_typed r3 hb n1 hm
theorem SignedSegmentOC.len {w : World} {fp : List Nat} {cs : List Value} {x : DSignedSegment} (h : SignedSegmentOC w fp cs x) : cs.length = 4 := by
  obtain ⟨u2, u3, rfl, _⟩ := h
  rfl
theorem SignedSegmentO.to_oc {lo hi : Nat} {w : World} {v : Value} {x : DSignedSegment} (h : SignedSegmentO lo hi w v x) : ∃ a2 k2 q2 a3 k3 q3 fp, v = .agg #[I x.seg.ts, I x.seg.beta, .slice a2 k2 q2, .slice a3 k3 q3] ∧ SignedSegmentOC w fp [I x.seg.ts, I x.seg.beta, .slice a2 k2 q2, .slice a3 k3 q3] x ∧ fp.Nodup ∧ ∀ b ∈ fp, lo ≤ b ∧ b < hi := by
  obtain ⟨u2, u3, m1, e, o2, o3, l0, l1⟩ := h
  obtain ⟨a2, k2, q2, hu2⟩ : ∃ a n c, u2 = .slice a n c := o2.slice
  have b2 : ∀ b ∈ u2.ownBlock.toList, lo ≤ b ∧ b < m1 := fun b hb => ⟨(o2.1.lt b (by simpa using hb)).1, o2.2 b (by simpa using hb)⟩
  have d2 : (u2.ownBlock.toList).Nodup := by cases u2.ownBlock <;> simp
  obtain ⟨a3, k3, q3, hu3⟩ : ∃ a n c, u3 = .slice a n c := o3.slice
  have b3 : ∀ b ∈ u3.ownBlock.toList, m1 ≤ b ∧ b < hi := fun b hb => ⟨(o3.1.lt b (by simpa using hb)).1, o3.2 b (by simpa using hb)⟩
  have d3 : (u3.ownBlock.toList).Nodup := by cases u3.ownBlock <;> simp
  subst hu2
  subst hu3
  exact ⟨a2, k2, q2, a3, k3, q3, (Value.slice a2 k2 q2).ownBlock.toList ++ (Value.slice a3 k3 q3).ownBlock.toList, e, ⟨_, _, rfl, (o2.more (Nat.zero_le _) (Nat.le_refl _)).1, (o3.more (Nat.zero_le _) (Nat.le_refl _)).1, rfl⟩, List.nodup_append.2 ⟨d2, d3, fun a ha b hb => by have h1 := b2 a ha; have h2 := b3 b hb; omega⟩, (fun b hb => (List.mem_append.1 hb).elim (fun hb => by have := b2 b hb; omega) (fun hb => by have := b3 b hb; omega))⟩
/-- A []SignedSegment of the call's own. -/
abbrev SignedSegmentSO (lo hi : Nat) (w : World) (v : Value) (xs : List DSignedSegment) : Prop := NO SignedSegmentOC 40 4 lo hi w v xs
theorem SignedSegmentSO_rd {lo hi : Nat} {w : World} {v : Value} {xs : List DSignedSegment} (h : SignedSegmentSO lo hi w v xs) (hhi : hi ≤ w.heap.size) : SignedSegmentS w.heap.size w v xs := (NO.sl (At := SignedSegmentAt) h (fun _ => rfl) SignedSegmentOC.at_).keep SignedSegmentAt.keeps hhi (fun _ _ => rfl)
theorem SignedSegmentSO_ext {lo hi : Nat} {w w' : World} {v : Value} {xs : List DSignedSegment} (h : SignedSegmentSO lo hi w v xs) (he : Ext w w') (_hhi : hi ≤ w.heap.size) : SignedSegmentSO lo hi w' v xs := NO.keep SignedSegmentOC.keeps h fun k _ _ h3 => he.same k h3
theorem SignedSegmentSO_out {lo hi : Nat} {lo' hi' : Nat} {w w' : World} {v : Value} {xs : List DSignedSegment} (h : SignedSegmentSO lo hi w v xs) (ho : Out lo' hi' w w') (hd : hi' ≤ lo ∨ hi ≤ lo') : SignedSegmentSO lo hi w' v xs := NO.keep SignedSegmentOC.keeps h fun k h1 h2 h3 => ho.block k h3 (by omega)
theorem SignedSegmentSO_drew {lo hi : Nat} {w : World} {v : Value} {xs : List DSignedSegment} (h : SignedSegmentSO lo hi w v xs) : SignedSegmentSO lo hi w.drew v xs := NO.keep SignedSegmentOC.keeps h fun _ _ _ _ => rfl
theorem SignedSegmentSO_alloc {lo hi : Nat} {w : World} {v : Value} {xs : List DSignedSegment} (h : SignedSegmentSO lo hi w v xs) (o : Obj) : SignedSegmentSO lo hi (w.alloc o) v xs := NO.keep SignedSegmentOC.keeps h fun k _ _ h3 => Below.heap_alloc w o k h3
theorem SignedSegmentSO_setCell {lo hi : Nat} {w : World} {v : Value} {xs : List DSignedSegment} (h : SignedSegmentSO lo hi w v xs) {p : Addr} (hp : p.block < lo ∨ hi ≤ p.block) (u : Value) : SignedSegmentSO lo hi (w.setCell p u) v xs := NO.keep SignedSegmentOC.keeps h fun k h1 h2 _ => Below.heap_setCell _ _ _ _ (by omega)
theorem SignedSegmentSO_keep {lo hi : Nat} {w w' : World} {v : Value} {xs : List DSignedSegment} (h : SignedSegmentSO lo hi w v xs) (hk : ∀ k, lo ≤ k → k < hi → k < w.heap.size → w'.heap[k]? = w.heap[k]?) : SignedSegmentSO lo hi w' v xs := NO.keep SignedSegmentOC.keeps h hk
/-- How many numbers an element takes, and the element with its numbers from q on. -/
def SignedSegmentCnt (x : DSignedSegment) : Nat := 2 + 5 * x.seg.hops.length + x.sigs.length
def SignedSegmentNumE (q : Nat) (x : DSignedSegment) : DSignedSegment := ⟨⟨(q : Int), (q : Int) + 1, (HopNum (q + 2) x.seg.hops.length)⟩, (intsNum (q + 2 + 5 * x.seg.hops.length) x.sigs.length)⟩
theorem SignedSegmentCnt_le (x : DSignedSegment) : SignedSegmentCnt x ≤ 10 + 10 * (x.seg.hops.length + x.sigs.length) := by
  unfold SignedSegmentCnt
  omega
theorem SignedSegmentCnt_sum (l : List DSignedSegment) : (l.map SignedSegmentCnt).sum ≤ 10 * (totS (fun y => y.seg.hops.length + y.sigs.length) l) := cnt_le (fun x => SignedSegmentCnt_le x) l
end Go.Proofs.YtddaodemdkjijaaGreat
