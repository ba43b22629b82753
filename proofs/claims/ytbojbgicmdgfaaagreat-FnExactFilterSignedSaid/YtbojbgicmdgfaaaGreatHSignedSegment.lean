/- The laws' helpers on SignedSegment: to.. (copy), eq.. (compare), sz.. (count), mark.. and held... Printed by gen.py. -/
import Derived.Test.YtbojbgicmdgfaaaGreatGHS
import Derived.Test.YtbojbgicmdgfaaaGreatGCore
import Derived.Test.YtbojbgicmdgfaaaGreatGGrow
namespace Go.Proofs.YtbojbgicmdgfaaaGreat
open Go.RowKit
set_option linter.unusedVariables false
theorem info_SignedSegment : (Tryz.prog.info? 104).map (fun i => (i.zero, i.size, i.bytes)) = some (some (.agg #[.int .i64 0, .int .i64 0, .slice none 0 0, .slice none 0 0]), 4, 64) := by kernel_rfl

def SignedSegmentO (lo hi : Nat) (w : World) (v : Value) (x : DSignedSegment) : Prop := ∃ u2 u3 m1, v = .agg #[I x.seg.ts, I x.seg.beta, u2, u3] ∧ Own 183 5 lo m1 w u2 x.seg.hops.length (x.seg.hops.flatMap HopC) ∧ Own 3 1 m1 hi w u3 x.sigs.length (x.sigs.map I) ∧ lo ≤ m1 ∧ m1 ≤ hi
theorem SignedSegmentO.keep {lo hi : Nat} {w w' : World} {v : Value} {x : DSignedSegment} (h : SignedSegmentO lo hi w v x) (hk : ∀ k, lo ≤ k → k < hi → k < w.heap.size → w'.heap[k]? = w.heap[k]?) : SignedSegmentO lo hi w' v x := by
  obtain ⟨u2, u3, m1, e, o2, o3, l0, l1⟩ := h
  exact ⟨u2, u3, m1, e, o2.keep fun k h1 h2 h3 => hk k (by omega) (by omega) h3, o3.keep fun k h1 h2 h3 => hk k (by omega) (by omega) h3, l0, l1⟩
theorem SignedSegmentO.v {lo hi : Nat} {w : World} {v : Value} {x : DSignedSegment} (h : SignedSegmentO lo hi w v x) : SignedSegmentV hi w v x := by
  obtain ⟨u2, u3, m1, e, o2, o3, l0, l1⟩ := h
  have s2 := (o2.sl (At := HopAt) HopC.len (by omega) HopC.at_)
  obtain ⟨A2, n2, c2, rfl, _⟩ := id s2
  have s3 := o3.ints
  obtain ⟨A3, n3, c3, rfl, _⟩ := id s3
  exact ⟨_, _, _, _, _, _, e, s2.keep HopAt.keeps (by omega) (fun _ _ => rfl), s3.keep IntAt.keeps (by omega) (fun _ _ => rfl)⟩
theorem SignedSegmentO.shape {lo hi : Nat} {w : World} {v : Value} {x : DSignedSegment} (h : SignedSegmentO lo hi w v x) : ∃ A2 n2 c2, ∃ A3 n3 c3, v = .agg #[I x.seg.ts, I x.seg.beta, .slice A2 n2 c2, .slice A3 n3 c3] := by
  obtain ⟨A2, n2, c2, A3, n3, c3, e, _, _⟩ := h.v
  exact ⟨A2, n2, c2, A3, n3, c3, e⟩
theorem SignedSegmentO.ext {lo hi : Nat} {w w' : World} {v : Value} {x : DSignedSegment} (h : SignedSegmentO lo hi w v x) (he : Ext w w') (hhi : hi ≤ w.heap.size) : SignedSegmentO lo hi w' v x := h.keep fun k _ _ h3 => he.same k h3
theorem SignedSegmentO.drew {lo hi : Nat} {w : World} {v : Value} {x : DSignedSegment} (h : SignedSegmentO lo hi w v x) : SignedSegmentO lo hi w.drew v x := h.keep fun _ _ _ _ => rfl
theorem SignedSegmentO.out {lo hi lo' hi' : Nat} {w w' : World} {v : Value} {x : DSignedSegment} (h : SignedSegmentO lo hi w v x) (ho : Out lo' hi' w w') (hd : hi' ≤ lo ∨ hi ≤ lo') : SignedSegmentO lo hi w' v x := h.keep fun k h1 h2 h3 => ho.block k h3 (by omega)
theorem SignedSegmentO.more {lo hi lo' hi' : Nat} {w : World} {v : Value} {x : DSignedSegment} (h : SignedSegmentO lo hi w v x) (h1 : lo' ≤ lo) (h2 : hi ≤ hi') : SignedSegmentO lo' hi' w v x := by
  obtain ⟨u2, u3, m1, e, o2, o3, l0, l1⟩ := h
  exact ⟨u2, u3, m1, e, Own.more o2 h1 (Nat.le_refl _), Own.more o3 (Nat.le_refl _) h2, by omega, by omega⟩
theorem SignedSegmentO.up {lo : Nat} {w w' : World} {v : Value} {x : DSignedSegment} (h : SignedSegmentO lo w.heap.size w v x) (he : Ext w w') : SignedSegmentO lo w'.heap.size w' v x := (h.ext he (Nat.le_refl _)).more (Nat.le_refl _) he.size
theorem SignedSegmentO.setT {lo hi g : Nat} {w : World} {v : Value} {x : DSignedSegment} {cs' : List Value} (h : SignedSegmentO lo hi w v x) (hb : Blk w g 104 cs') (i : Nat) (u : Value) : SignedSegmentO lo hi (w.setCell ⟨g, i, none⟩ u) v x := by
  obtain ⟨u2, u3, m1, e, o2, o3, l0, l1⟩ := h
  exact ⟨u2, u3, m1, e, Own.setT o2 hb (by decide) i u, Own.setT o3 hb (by decide) i u, l0, l1⟩
theorem SignedSegmentO_rd {lo hi : Nat} {w : World} {v : Value} {x : DSignedSegment} (h : SignedSegmentO lo hi w v x) (hhi : hi ≤ w.heap.size) : SignedSegmentV w.heap.size w v x := h.v.keep hhi (fun _ _ => rfl)
set_option maxRecDepth 100000 in
set_option maxHeartbeats 1000000 in
theorem toSignedSegment (v : Value) (x : DSignedSegment) (w : World) (h : SignedSegmentV w.heap.size w v x) (hn : x.seg.hops.length + x.sigs.length ≤ 16777216) :
    Calls Tryz.prog 54 #[v] w fun e w' => ∃ v', e = .returned v' ∧ SignedSegmentO w.heap.size w'.heap.size w' v' x ∧ Ext w w' := by
  obtain ⟨A2, n2, c2, A3, n3, c3, rfl, s2, s3⟩ := h
  have S2 := Lib.hid s2; clear s2
  have S3 := Lib.hid s3; clear s3
  go_enter Tryz.func54, Tryz.ntmps54
  go_wp2_with fail
  refine (toSegment _ x.seg _ (by exact ⟨_, _, _, rfl, S2.out.ext xe⟩) (by omega)).mono ?_
  rintro e w0 ⟨v0, rfl, ho0, he0⟩
  obtain ⟨hc0, hf0, hz0⟩ := he0.facts
  simp only [World.size_alloc] at hz0 hc0 hf0
  have la0 : w.heap.size < w0.heap.size := by omega
  have lb0 : w.heap.size + 1 < w0.heap.size := by omega
  have lc0 : w.heap.size + 1 + 1 < w0.heap.size := by omega
  obtain ⟨t2, hv0, o2, l0_0⟩ := ho0
  simp only [World.size_alloc] at o2
  subst hv0
  simp only [World.size_alloc] at l0_0
  have O2 := Lib.hid o2; clear o2
  obtain ⟨a2, m2, q2, hu2⟩ : ∃ a n c, t2 = .slice a n c := O2.out.slice
  subst hu2
  go_wp2_with fail
  refine (toIntS _ x.sigs _ (by exact S3.out.ext xe) (by omega)).mono ?_
  rintro e w3 ⟨v3, rfl, ho3, he3⟩
  obtain ⟨hc3, hf3, hz3⟩ := he3.facts
  simp only [World.size_setCell] at hz3 hc3 hf3
  have la3 : w.heap.size < w3.heap.size := by omega
  have lb3 : w.heap.size + 1 < w3.heap.size := by omega
  have lc3 : w.heap.size + 1 + 1 < w3.heap.size := by omega
  simp only [World.size_setCell] at ho3
  have O3 := Lib.hid ho3; clear ho3
  obtain ⟨a3, m3, q3, hv3⟩ : ∃ a n c, v3 = .slice a n c := O3.out.slice
  subst hv3
  go_wp2_with fail
  refine bodyPost_ret (v := .agg #[I x.seg.ts, I x.seg.beta, .slice a2 m2 q2, .slice a3 m3 q3]) (by simp [results, Tryz.results54, go_sem, *]) rfl ⟨_, rfl, ?_, ?_⟩
  · simp only [World.size_setCell]
    refine ⟨_, _, w0.heap.size, rfl, Own.more (lo := w.heap.size + 1 + 1 + 1) (hi := w0.heap.size) (by repeat (first | (with_reducible exact O2.out) | (with_reducible refine Own.alloc ?_ _) | (with_reducible refine Own.setCell (p := _) ?_ (.inl ?ge) _; case ge => (first | omega | (dsimp only; omega) | (simp only [World.size_setCell]; omega) | (simp only [World.size_alloc]; omega))) | (with_reducible refine Own.ext ?_ (by with_reducible assumption) ?ge; case ge => (first | omega | (dsimp only; omega) | (simp only [World.size_setCell]; omega) | (simp only [World.size_alloc]; omega))))) (by omega) (by omega), Own.more (lo := w0.heap.size) (hi := w3.heap.size) (by repeat (first | (with_reducible exact O3.out) | (with_reducible refine Own.alloc ?_ _) | (with_reducible refine Own.setCell (p := _) ?_ (.inl ?ge) _; case ge => (first | omega | (dsimp only; omega) | (simp only [World.size_setCell]; omega) | (simp only [World.size_alloc]; omega))) | (with_reducible refine Own.ext ?_ (by with_reducible assumption) ?ge; case ge => (first | omega | (dsimp only; omega) | (simp only [World.size_setCell]; omega) | (simp only [World.size_alloc]; omega))))) (by omega) (by omega), by omega, by omega⟩
  · exact xe
set_option maxRecDepth 100000 in
set_option maxHeartbeats 1000000 in
theorem eqSignedSegment (v1 v2 : Value) (x y : DSignedSegment) (w : World) (h1 : SignedSegmentV w.heap.size w v1 x) (h2 : SignedSegmentV w.heap.size w v2 y) :
    Calls Tryz.prog 58 #[v1, v2] w fun e w' => e = .returned (.bool (decide (x = y))) ∧ Ext w w' := by
  obtain ⟨A12, n12, c12, A13, n13, c13, rfl, s12, s13⟩ := h1
  obtain ⟨A22, n22, c22, A23, n23, c23, rfl, s22, s23⟩ := h2
  have S12 := Lib.hid s12; clear s12
  have S13 := Lib.hid s13; clear s13
  have S22 := Lib.hid s22; clear s22
  have S23 := Lib.hid s23; clear s23
  go_enter Tryz.func58, Tryz.ntmps58
  go_wp2_with fail
  all_goals (try (go_ret; exact ⟨ret_bool (by simp_all [DSignedSegment.eq_iff]), xe⟩))
  refine (eqSegment _ _ x.seg y.seg _ (by exact ⟨_, _, _, rfl, S12.out.ext xe⟩) (by exact ⟨_, _, _, rfl, S22.out.ext xe⟩)).mono ?_
  rintro e w3 ⟨rfl, he3⟩
  obtain ⟨hc3, hf3, hz3⟩ := he3.facts
  go_wp2_with fail
  all_goals (try (go_ret; exact ⟨ret_bool (by simp_all [DSignedSegment.eq_iff]), xe⟩))
  refine (eqIntS _ _ x.sigs y.sigs _ (by exact S13.out.ext xe) (by exact S23.out.ext xe)).mono ?_
  rintro e w4 ⟨rfl, he4⟩
  obtain ⟨hc4, hf4, hz4⟩ := he4.facts
  go_wp2_with fail
  all_goals
    go_ret
    exact ⟨ret_bool (by simp_all [DSignedSegment.eq_iff]), xe⟩
set_option maxRecDepth 100000 in
set_option maxHeartbeats 1000000 in
theorem szSignedSegment (v : Value) (x : DSignedSegment) (left : Int) (w : World) (h : SignedSegmentV w.heap.size w v x) (h0 : 0 ≤ left) (hl : left ≤ 1048576) :
    Calls Tryz.prog 50 #[v, I left] w fun e w' => e = .returned (I (szR (x.seg.hops.length + x.sigs.length) left)) ∧ Ext w w' := by
  obtain ⟨A2, n2, c2, A3, n3, c3, rfl, s2, s3⟩ := h
  have S2 := Lib.hid s2; clear s2
  have S3 := Lib.hid s3; clear s3
  go_enter Tryz.func50, Tryz.ntmps50
  go_wp2_with fail
  refine (szSegment _ x.seg (left) _ (by exact ⟨_, _, _, rfl, S2.out.ext xe⟩) (by omega) (by omega)).mono ?_
  rintro e w1 ⟨rfl, he1⟩
  obtain ⟨hc1, hf1, hz1⟩ := he1.facts
  by_cases hlt0 : left < (((x.seg.hops.length) : Nat) : Int)
  · rw [szR_neg hlt0]
    go_wp2_with fail
    go_ret
    exact ⟨ret_int (szR_neg (by omega)).symm, xe⟩
  · rw [szR_pos (by omega)]
    go_wp2_with fail
    refine (szIntS _ x.sigs (left - (((x.seg.hops.length) : Nat) : Int)) _ (by exact S3.out.ext xe) (by omega) (by omega)).mono ?_
    rintro e w2 ⟨rfl, he2⟩
    obtain ⟨hc2, hf2, hz2⟩ := he2.facts
    by_cases hlt1 : left - (((x.seg.hops.length) : Nat) : Int) < (((x.sigs.length) : Nat) : Int)
    · rw [szR_neg hlt1]
      go_wp2_with fail
      go_ret
      exact ⟨ret_int (szR_neg (by omega)).symm, xe⟩
    · rw [szR_pos (by omega)]
      go_wp2_with fail
      go_ret
      exact ⟨ret_int (by rw [szR_pos (by omega)] <;> omega), xe⟩
/-- What marking from q on leaves. -/
def SignedSegmentNum1 (q : Nat) (x : DSignedSegment) : DSignedSegment := { seg := { ts := x.seg.ts, beta := x.seg.beta, hops := (HopNum q x.seg.hops.length) }, sigs := (intsNum (q + 5 * x.seg.hops.length) x.sigs.length) }
/-- The cells cs of a SignedSegment and the blocks that it owns. -/
def SignedSegmentOC (w : World) (fp : List Nat) (cs : List Value) (x : DSignedSegment) : Prop := ∃ u2 u3, cs = [I x.seg.ts, I x.seg.beta, u2, u3] ∧ w.ownsRow 0 183 5 u2 x.seg.hops.length (x.seg.hops.flatMap HopC) ∧ w.ownsRow 0 3 1 u3 x.sigs.length (x.sigs.map I) ∧ fp = u2.ownBlock.toList ++ u3.ownBlock.toList
theorem SignedSegmentOC.keeps : OKeeps SignedSegmentOC := by
  intro w w' fp cs x hk h
  obtain ⟨u2, u3, e, r2, r3, ef⟩ := h
  exact ⟨u2, u3, e, ownsRow_keep r2 (fun b hb => hk b (by rw [ef]; simp [hb])), ownsRow_keep r3 (fun b hb => hk b (by rw [ef]; simp [hb])), ef⟩
theorem SignedSegmentOC.at_ (B : Nat) (w : World) (b o : Nat) (fp : List Nat) (cs : List Value) (x : DSignedSegment) (h : SignedSegmentOC w fp cs x) (hb : ∀ b ∈ fp, b < B) (hc : ∀ j u, cs[j]? = some u → w.cell? ⟨b, o + j, none⟩ = some u) : SignedSegmentAt B w b o x := by
  obtain ⟨u2, u3, rfl, r2, r3, ef⟩ := h
  have s2 : HopS B w u2 x.seg.hops := Own.sl (lo := 0) (n := x.seg.hops.length) (At := HopAt) ⟨r2, fun k hk => hb k (by rw [ef]; simp [hk])⟩ HopC.len (by omega) HopC.at_
  obtain ⟨A2, n2, c2, e2, _⟩ := id s2
  subst e2
  have s3 : IntS B w u3 x.sigs := Own.ints (lo := 0) (n := x.sigs.length) ⟨r3, fun k hk => hb k (by rw [ef]; simp [hk])⟩
  obtain ⟨A3, n3, c3, e3, _⟩ := id s3
  subst e3
  exact ⟨A2, n2, c2, A3, n3, c3, hc 0 _ rfl, hc 1 _ rfl, hc 2 _ rfl, hc 3 _ rfl, s2, s3⟩
theorem SignedSegmentOC.one : OOne SignedSegmentOC := by
  intro w fp cs x h
  obtain ⟨u2, u3, rfl, r2, r3, ef⟩ := h
  obtain ⟨a2, m2, c2, e2⟩ := ownsRow_slice r2
  subst e2
  obtain ⟨a3, m3, c3, e3⟩ := ownsRow_slice r3
  subst e3
  intro u hu
  simp only [List.mem_cons, List.not_mem_nil, or_false] at hu
  rcases hu with rfl | rfl | rfl | rfl <;> rfl
theorem SignedSegmentOC.typed (T : Nat) (n0 : 183 ≠ T) (n1 : 3 ≠ T) : OTyped SignedSegmentOC T := by
  intro w fp cs x g cs' h hb
  obtain ⟨u2, u3, e, r2, r3, ef⟩ := h
  subst ef
  intro hm
  simp only [List.mem_append] at hm
  rcases hm with hm | hm
  · exact ownsRow_typed r2 hb n0 hm
  · exact ownsRow_typed r3 hb n1 hm
theorem SignedSegmentOC.len {w : World} {fp : List Nat} {cs : List Value} {x : DSignedSegment} (h : SignedSegmentOC w fp cs x) : cs.length = 4 := by
  obtain ⟨u2, u3, rfl, _⟩ := h
  rfl
theorem SignedSegmentO.to_oc {lo hi : Nat} {w : World} {v : Value} {x : DSignedSegment} (h : SignedSegmentO lo hi w v x) : ∃ a2 k2 q2 a3 k3 q3 fp, v = .agg #[I x.seg.ts, I x.seg.beta, .slice a2 k2 q2, .slice a3 k3 q3] ∧ SignedSegmentOC w fp [I x.seg.ts, I x.seg.beta, .slice a2 k2 q2, .slice a3 k3 q3] x ∧ fp.Nodup ∧ ∀ b ∈ fp, lo ≤ b ∧ b < hi := by
  obtain ⟨u2, u3, m1, e, o2, o3, l0, l1⟩ := h
  obtain ⟨a2, k2, q2, hu2⟩ : ∃ a n c, u2 = .slice a n c := o2.slice
  have b2 : ∀ b ∈ u2.ownBlock.toList, lo ≤ b ∧ b < m1 := fun b hb => ⟨(o2.1.lt b (by simpa using hb)).1, o2.2 b (by simpa using hb)⟩
  have d2 : (u2.ownBlock.toList).Nodup := by cases u2.ownBlock <;> simp
  obtain ⟨a3, k3, q3, hu3⟩ : ∃ a n c, u3 = .slice a n c := o3.slice
  have b3 : ∀ b ∈ u3.ownBlock.toList, m1 ≤ b ∧ b < hi := fun b hb => ⟨(o3.1.lt b (by simpa using hb)).1, o3.2 b (by simpa using hb)⟩
  have d3 : (u3.ownBlock.toList).Nodup := by cases u3.ownBlock <;> simp
  subst hu2
  subst hu3
  exact ⟨a2, k2, q2, a3, k3, q3, (Value.slice a2 k2 q2).ownBlock.toList ++ (Value.slice a3 k3 q3).ownBlock.toList, e, ⟨_, _, rfl, (o2.more (Nat.zero_le _) (Nat.le_refl _)).1, (o3.more (Nat.zero_le _) (Nat.le_refl _)).1, rfl⟩, List.nodup_append.2 ⟨d2, d3, fun a ha b hb => by have h1 := b2 a ha; have h2 := b3 b hb; omega⟩, (fun b hb => (List.mem_append.1 hb).elim (fun hb => by have := b2 b hb; omega) (fun hb => by have := b3 b hb; omega))⟩
/-- A []SignedSegment of the call's own. -/
abbrev SignedSegmentSO (lo hi : Nat) (w : World) (v : Value) (xs : List DSignedSegment) : Prop := NO SignedSegmentOC 104 4 lo hi w v xs
theorem SignedSegmentSO_rd {lo hi : Nat} {w : World} {v : Value} {xs : List DSignedSegment} (h : SignedSegmentSO lo hi w v xs) (hhi : hi ≤ w.heap.size) : SignedSegmentS w.heap.size w v xs := (NO.sl (At := SignedSegmentAt) h (fun _ => rfl) SignedSegmentOC.at_).keep SignedSegmentAt.keeps hhi (fun _ _ => rfl)
theorem SignedSegmentSO_ext {lo hi : Nat} {w w' : World} {v : Value} {xs : List DSignedSegment} (h : SignedSegmentSO lo hi w v xs) (he : Ext w w') (_hhi : hi ≤ w.heap.size) : SignedSegmentSO lo hi w' v xs := NO.keep SignedSegmentOC.keeps h fun k _ _ h3 => he.same k h3
theorem SignedSegmentSO_out {lo hi : Nat} {lo' hi' : Nat} {w w' : World} {v : Value} {xs : List DSignedSegment} (h : SignedSegmentSO lo hi w v xs) (ho : Out lo' hi' w w') (hd : hi' ≤ lo ∨ hi ≤ lo') : SignedSegmentSO lo hi w' v xs := NO.keep SignedSegmentOC.keeps h fun k h1 h2 h3 => ho.block k h3 (by omega)
theorem SignedSegmentSO_drew {lo hi : Nat} {w : World} {v : Value} {xs : List DSignedSegment} (h : SignedSegmentSO lo hi w v xs) : SignedSegmentSO lo hi w.drew v xs := NO.keep SignedSegmentOC.keeps h fun _ _ _ _ => rfl
theorem SignedSegmentSO_alloc {lo hi : Nat} {w : World} {v : Value} {xs : List DSignedSegment} (h : SignedSegmentSO lo hi w v xs) (o : Obj) : SignedSegmentSO lo hi (w.alloc o) v xs := NO.keep SignedSegmentOC.keeps h fun k _ _ h3 => Below.heap_alloc w o k h3
theorem SignedSegmentSO_setCell {lo hi : Nat} {w : World} {v : Value} {xs : List DSignedSegment} (h : SignedSegmentSO lo hi w v xs) {p : Addr} (hp : p.block < lo ∨ hi ≤ p.block) (u : Value) : SignedSegmentSO lo hi (w.setCell p u) v xs := NO.keep SignedSegmentOC.keeps h fun k h1 h2 _ => Below.heap_setCell _ _ _ _ (by omega)
theorem SignedSegmentSO_keep {lo hi : Nat} {w w' : World} {v : Value} {xs : List DSignedSegment} (h : SignedSegmentSO lo hi w v xs) (hk : ∀ k, lo ≤ k → k < hi → k < w.heap.size → w'.heap[k]? = w.heap[k]?) : SignedSegmentSO lo hi w' v xs := NO.keep SignedSegmentOC.keeps h hk
set_option maxRecDepth 100000 in
set_option maxHeartbeats 1000000 in
theorem toSignedSegmentS (v : Value) (ds : List DSignedSegment) (w : World) (h : SignedSegmentS w.heap.size w v ds) (hn : totS (fun y => y.seg.hops.length + y.sigs.length) ds ≤ 16777216) :
    Calls Tryz.prog 61 #[v] w fun e w' => ∃ v', e = .returned v' ∧ SignedSegmentSO w.heap.size w'.heap.size w' v' ds ∧ Ext w w' := by
  obtain ⟨A, n, c, rfl, hl, -⟩ := id h
  subst hl
  have hn : ds.length + (ds.map fun y => y.seg.hops.length + y.sigs.length).sum ≤ 16777216 := hn
  have hmk := run_mk (P := Tryz.prog) 113 104 (.agg #[.int .i64 0, .int .i64 0, .slice none 0 0, .slice none 0 0]) 4 64 Tryz.underlying113 info_SignedSegment ds.length (by omega) (by omega)
  have hml := mkRow_len (.agg #[.int .i64 0, .int .i64 0, .slice none 0 0, .slice none 0 0]) (ds.length * 4)
  generalize mkRow (.agg #[.int .i64 0, .int .i64 0, .slice none 0 0, .slice none 0 0]) (ds.length * 4) = mr at *
  have H := Lib.hid h; clear h
  have HM := Lib.hid hml; clear hml
  go_enter Tryz.func61, Tryz.ntmps61
  go_wp2
  go_loopw [4] (fun i wr => ∃ (k : Nat) (cs rest : List Value) (fp : List Nat), k ≤ ds.length ∧ i = I k ∧ Blk wr w.heap.size 104 (cs ++ rest) ∧ OL SignedSegmentOC 4 wr (ds.take k) fp cs ∧ (w.heap.size :: fp).Nodup ∧ (∀ b ∈ fp, w.heap.size < b ∧ b < wr.heap.size) ∧ rest.length = (ds.length - k) * 4 ∧ Ext w wr) (fun i _ => ds.length - (intOf i).toNat)
  case atStart => exact ⟨0, [], mr.toList, [], by omega, rfl, by simpa using Blk.new w 104 mr.toList, ⟨rfl, rfl⟩, by simp, by simp, by simpa using HM.out, (Ext.refl _).alloc _⟩
  case round =>
    obtain ⟨k, cs, rest, fp, hk, rfl, hb, hol, hnd, hbd, hr, he⟩ := hrel
    have HE := Lib.hid he
    have HB := Lib.hid hb; clear hb
    have HOL := Lib.hid hol; clear hol
    have HND := Lib.hid hnd; clear hnd
    have HBD := Lib.hid hbd; clear hbd
    by_cases hlt : k < ds.length
    · obtain ⟨b, off, rfl, hbb, _, hc⟩ := (H.out.ext he).at_ hlt
      have hsm := sum_mem (fun y => y.seg.hops.length + y.sigs.length) ds k hlt
      obtain ⟨r0, r1, r2, r3, rest, rfl⟩ : ∃ r0 r1 r2 r3 rest', rest = r0 :: r1 :: r2 :: r3 :: rest' := by
        match rest, hr with
        | r0 :: r1 :: r2 :: r3 :: rest, _ => exact ⟨r0, r1, r2, r3, rest, rfl⟩
        | [], h => simp at h; omega
        | [_], h => simp at h; omega
        | [_, _], h => simp at h; omega
        | [_, _, _], h => simp at h; omega
      have hlr : rest.length = (ds.length - (k + 1)) * 4 := by simp only [List.length_cons] at hr; omega
      have HR := Lib.hid hlr; clear hr he hlr
      have HX := Lib.hid (take_snoc ds k hlt)
      generalize ds[k] = x at *
      obtain ⟨A2, n2, c2, A3, n3, c3, hc0, hc1, hc2, hc3, s2, s3⟩ := hc
      have S2 := Lib.hid s2; clear s2
      have S3 := Lib.hid s3; clear s3
      have hp : cs.length = k * 4 := by rw [HOL.out.len, List.length_take, Nat.min_eq_left hk]
      have HP := Lib.hid hp; clear hp
      have hwg : w.heap.size < wr.heap.size := HB.out.lt
      go_wp2_with fail
      refine (toSignedSegment _ x _ (by exact ⟨_, _, _, _, _, _, rfl, S2.out, S3.out⟩) (by omega)).mono ?_
      rintro e w1 ⟨v1, rfl, ho1, he1⟩
      obtain ⟨a2, k2, q2, a3, k3, q3, f1, rfl, hoc, hn1, hb1⟩ := ho1.to_oc
      have HOC := Lib.hid hoc; have HN1 := Lib.hid hn1; have HB1F := Lib.hid hb1; clear hoc hn1 hb1 ho1
      have HB1 := Lib.hid (HB.out.below he1.below hwg)
      have hz1 := he1.size
      have HE1 := Lib.hid he1
      clear he1
      obtain ⟨hu0, hu1, hu2, hu3⟩ := cells_at4 HB1.out HP.out
      have hf0 := HB1.out.frozen (k * 4)
      have hf1 := HB1.out.frozen (k * 4 + 1)
      have hf2 := HB1.out.frozen (k * 4 + 2)
      have hf3 := HB1.out.frozen (k * 4 + 3)
      go_wp2
      go_roundw
      case rel =>
        obtain ⟨g1, g2, g3⟩ := nest_step (w2 := ((((w1.setCell ⟨w.heap.size, k * 4, none⟩ (I x.seg.ts)).setCell ⟨w.heap.size, k * 4 + 1, none⟩ (I x.seg.beta)).setCell ⟨w.heap.size, k * 4 + 2, none⟩ (.slice a2 k2 q2)).setCell ⟨w.heap.size, k * 4 + 3, none⟩ (.slice a3 k3 q3))) SignedSegmentOC.keeps HOL.out HE1.out HOC.out rfl HBD.out HND.out HN1.out HB1F.out hwg (fun b hb => (Eq.trans (Below.heap_setCell _ ⟨w.heap.size, k * 4 + 3, none⟩ _ b hb) (Eq.trans (Below.heap_setCell _ ⟨w.heap.size, k * 4 + 2, none⟩ _ b hb) (Eq.trans (Below.heap_setCell _ ⟨w.heap.size, k * 4 + 1, none⟩ _ b hb) (Below.heap_setCell _ ⟨w.heap.size, k * 4, none⟩ _ b hb))))) (by simp only [World.size_setCell])
        refine ⟨k + 1, cs ++ [I x.seg.ts, I x.seg.beta, .slice a2 k2 q2, .slice a3 k3 q3], rest, fp ++ f1, by omega, by go_num, ?_, ?_, g2, g3, HR.out, ?_⟩
        · have := (((HB1.out.set_ (k * 4) (I x.seg.ts)).set_ (k * 4 + 1) (I x.seg.beta)).set_ (k * 4 + 2) (.slice a2 k2 q2)).set_ (k * 4 + 3) (.slice a3 k3 q3)
          rw [set_at4 _ _ _ _ _ _ _ _ _ _ _ HP.out] at this
          simpa using this
        · rw [HX.out]
          exact g1
        · exact ((((HE.out.trans HE1.out).setCell (by simp) _).setCell (by simp) _).setCell (by simp) _).setCell (by simp) _
      case measure => simp [intOf]; omega
    · have HR := Lib.hid hr; clear hr he
      go_wp2
      go_ret
      have e : k = ds.length := by omega
      have hr := HR.out
      subst e
      obtain rfl : rest = [] := List.eq_nil_of_length_eq_zero (by simpa using hr)
      have hb := HB.out
      have hol := HOL.out
      rw [List.append_nil] at hb
      rw [List.take_length] at hol
      exact ⟨_, rfl, ⟨cs, fp, Own.of_blk hb hol.len (by unfold maxLen; omega) (Nat.le_refl _) hb.lt, hol, by simpa [Value.ownBlock] using HND.out, fun b hb => ⟨by have := (HBD.out b hb).1; omega, (HBD.out b hb).2⟩⟩, HE.out⟩
set_option maxRecDepth 100000 in
set_option maxHeartbeats 1000000 in
theorem eqSignedSegmentS (v1 v2 : Value) (xs ys : List DSignedSegment) (w : World) (h1 : SignedSegmentS w.heap.size w v1 xs) (h2 : SignedSegmentS w.heap.size w v2 ys) :
    Calls Tryz.prog 64 #[v1, v2] w fun e w' => e = .returned (.bool (decide (xs = ys))) ∧ Ext w w' := by
  obtain ⟨A1, n1, c1, rfl, hl1, hn1, hm1, -⟩ := id h1
  obtain ⟨A2, n2, c2, rfl, hl2, hn2, hm2, -⟩ := id h2
  unfold maxLen at hm1 hm2
  have H1 := Lib.hid h1; have H2 := Lib.hid h2; have E1 := Lib.hid hl1; have E2 := Lib.hid hl2; clear h1 h2 hl1 hl2
  by_cases hn : n1 = n2
  · subst hn
    go_enter Tryz.func64, Tryz.ntmps64
    go_wp2
    go_loopw [5] (fun i wr => ∃ k : Nat, k ≤ n1 ∧ i = I k ∧ xs.take k = ys.take k ∧ Ext w wr) (fun i _ => n1 - (intOf i).toNat)
    case atStart => exact ⟨0, by omega, rfl, by simp, Ext.refl _⟩
    case round =>
      obtain ⟨k, hk, rfl, hq, he⟩ := hrel
      have HQ := Lib.hid hq; clear hq
      have HE := Lib.hid he; clear he
      by_cases hlt : k < n1
      · obtain ⟨b1, o1, rfl, hb1, hk1, hc1⟩ := (H1.out.ext HE.out).at_ hlt
        obtain ⟨b2, o2, rfl, hb2, hk2, hc2⟩ := (H2.out.ext HE.out).at_ hlt
        have i0 : (0 : Int) ≤ (k : Int) := by omega
        have i1 : (k : Int) < (n1 : Int) := by omega
        have X1 := Lib.hid (take_snoc xs k hk1)
        have X2 := Lib.hid (take_snoc ys k hk2)
        have hne : ¬ xs[k] = ys[k] → xs ≠ ys := fun hne h => hne (by subst h; rfl)
        have HN := Lib.hid hne; clear hne
        generalize xs[k] = x at *
        generalize ys[k] = y at *
        obtain ⟨A12, n12, c12, A13, n13, c13, h10, h11, h12, h13, s12, s13⟩ := hc1
        obtain ⟨A22, n22, c22, A23, n23, c23, h20, h21, h22, h23, s22, s23⟩ := hc2
        have S12 := Lib.hid s12; clear s12
        have S13 := Lib.hid s13; clear s13
        have S22 := Lib.hid s22; clear s22
        have S23 := Lib.hid s23; clear s23
        go_wp2_with fail
        go_region_held3 (fun W => wr.heap.size ≤ W.heap.size ∧ ∀ b o, b < wr.heap.size → W.cell? ⟨b, o, none⟩ = wr.cell? ⟨b, o, none⟩)
          (first | exact ⟨Nat.le_refl _, fun _ _ _ => rfl⟩ | exact keepC (by assumption) he1)
          (first | (go_at_call 58; refine (eqSignedSegment _ _ x y _ (by exact ⟨_, _, _, _, _, _, rfl, S12.out.ext xe, S13.out.ext xe⟩) (by exact ⟨_, _, _, _, _, _, rfl, S22.out.ext xe, S23.out.ext xe⟩)).mono ?_; rintro e w1 ⟨rfl, he1⟩))
        have HE1 := Lib.hid (HE.out.drew.trans he1)
        have hdd : decide (x = y) = true ↔ x = y := decide_eq_true_iff
        have HD := Lib.hid hdd; clear hdd
        generalize decide (x = y) = bb at *
        cases bb
        · have hxy : ¬ x = y := fun h => by have := HD.out.2 h; cases this
          have HXY := Lib.hid hxy; clear hxy
          go_wp2
          go_ret
          exact ⟨ret_bool (by simp [HN.out HXY.out]), HE1.out⟩
        · have HXY := Lib.hid (HD.out.1 rfl)
          go_wp2
          go_roundw
          case rel => exact ⟨k + 1, by omega, by go_num, by rw [X1.out, X2.out, HQ.out, HXY.out], HE1.out⟩
          case measure => simp [intOf]; omega
      · go_wp2
        go_ret
        have h := HQ.out
        rw [List.take_of_length_le (by rw [E1.out]; omega), List.take_of_length_le (by rw [E2.out]; omega)] at h
        exact ⟨ret_bool (by simp [h]), HE.out⟩
  · have hb : ((n1 : Int) == (n2 : Int)) = false := by simp; omega
    have hb' : ((n1 : Int) != (n2 : Int)) = true := by simp; omega
    have HN := Lib.hid hn; clear hn
    go_enter Tryz.func64, Tryz.ntmps64
    go_wp2
    go_ret
    have : xs ≠ ys := fun h => HN.out (by rw [← E1.out, ← E2.out, h])
    exact ⟨ret_bool (by simp [this]), Ext.refl _⟩
set_option maxRecDepth 100000 in
set_option maxHeartbeats 1000000 in
theorem szSignedSegmentS (v : Value) (ds : List DSignedSegment) (left : Int) (w : World) (h : SignedSegmentS w.heap.size w v ds) (h0 : 0 ≤ left) (hl : left ≤ 1048576) :
    Calls Tryz.prog 59 #[v, I left] w fun e w' => e = .returned (I (szR (totS (fun y => y.seg.hops.length + y.sigs.length) ds) left)) ∧ Ext w w' := by
  obtain ⟨A, n, c, rfl, hl1, hn1, hm1, -⟩ := id h
  unfold maxLen at hm1
  subst hl1
  have H := Lib.hid h; clear h
  have HT : Hid (totS (fun y => y.seg.hops.length + y.sigs.length) ds = ds.length + (ds.map fun y => y.seg.hops.length + y.sigs.length).sum) := rfl
  by_cases hlt : left < (ds.length : Int)
  · have HF := Lib.hid (szR_neg (t := totS (fun y => y.seg.hops.length + y.sigs.length) ds) (left := left) (by rw [HT.out]; omega))
    go_enter Tryz.func59, Tryz.ntmps59
    go_wp2
    go_ret
    exact ⟨ret_int HF.out.symm, Ext.refl _⟩
  · go_enter Tryz.func59, Tryz.ntmps59
    go_wp2
    go_loopw [1, 5] (fun l i wr => ∃ (k : Nat) (z : Int), k ≤ ds.length ∧ i = I k ∧ l = I z ∧ z = left - ds.length - (((ds.take k).map fun y => y.seg.hops.length + y.sigs.length).sum : Nat) ∧ 0 ≤ z ∧ Ext w wr) (fun _ i _ => ds.length - (intOf i).toNat)
    case atStart => exact ⟨0, left - ds.length, by omega, rfl, rfl, by simp, by omega, Ext.refl _⟩
    case round =>
      obtain ⟨k, z, hk, rfl, rfl, hz, hz0, he⟩ := hrel
      have hzl : z ≤ 1048576 := by omega
      have HZ := Lib.hid hz; clear hz
      have HE := Lib.hid he; clear he
      by_cases hkn : k < ds.length
      · obtain ⟨b, off, rfl, hbb, _, hc⟩ := (H.out.ext HE.out).at_ hkn
        have HS := Lib.hid (sum_take (fun y => y.seg.hops.length + y.sigs.length) ds k hkn)
        have HS2 := Lib.hid (sum_take_le (fun y => y.seg.hops.length + y.sigs.length) ds (k + 1))
        generalize ds[k] = x at *
        obtain ⟨A2, n2, c2, A3, n3, c3, hc0, hc1, hc2, hc3, s2, s3⟩ := hc
        have S2 := Lib.hid s2; clear s2
        have S3 := Lib.hid s3; clear s3
        go_wp2_with fail
        refine (szSignedSegment _ x z _ (by exact ⟨_, _, _, _, _, _, rfl, S2.out, S3.out⟩) (by omega) (by omega)).mono ?_
        rintro e w1 ⟨rfl, he1⟩
        by_cases hx : z < ((x.seg.hops.length + x.sigs.length : Nat) : Int)
        · rw [szR_neg hx]
          go_wp2_with fail
          go_ret
          refine ⟨ret_int (szR_neg ?_).symm, HE.out.trans he1⟩
          rw [HT.out]
          have h1 := HZ.out; have h2 := HS.out; have h3 := HS2.out
          omega
        · rw [szR_pos (by omega)]
          go_wp2_with fail
          go_roundw
          case rel =>
            refine ⟨k + 1, z - ((x.seg.hops.length + x.sigs.length : Nat) : Int), by omega, by go_num, rfl, ?_, by omega, HE.out.trans he1⟩
            rw [HS.out, HZ.out]
            omega
          case measure => simp [intOf]; omega
      · go_wp2_with fail
        go_ret
        obtain rfl : k = ds.length := by omega
        have h1 := HZ.out
        rw [List.take_length] at h1
        refine ⟨ret_int ?_, HE.out⟩
        rw [szR_pos (by rw [HT.out]; omega), HT.out, h1]
        omega
/-- How many numbers an element takes, and the element with its numbers from q on. -/
def SignedSegmentCnt (x : DSignedSegment) : Nat := 2 + 5 * x.seg.hops.length + x.sigs.length
def SignedSegmentNumE (q : Nat) (x : DSignedSegment) : DSignedSegment := ⟨⟨(q : Int), (q : Int) + 1, (HopNum (q + 2) x.seg.hops.length)⟩, (intsNum (q + 2 + 5 * x.seg.hops.length) x.sigs.length)⟩
theorem SignedSegmentCnt_le (x : DSignedSegment) : SignedSegmentCnt x ≤ 10 + 10 * (x.seg.hops.length + x.sigs.length) := by
  unfold SignedSegmentCnt
  omega
theorem SignedSegmentCnt_sum (l : List DSignedSegment) : (l.map SignedSegmentCnt).sum ≤ 10 * (totS (fun y => y.seg.hops.length + y.sigs.length) l) := cnt_le (fun x => SignedSegmentCnt_le x) l
set_option maxRecDepth 100000 in
set_option maxHeartbeats 1000000 in
theorem markSignedSegmentS_row (v : Value) (xs : List DSignedSegment) (q : Nat) (qi : Int) (w : World) (cs : List Value) (fp : List Nat) (ho : w.ownsRow 0 104 4 v xs.length cs) (hl : OL SignedSegmentOC 4 w xs fp cs) (hn : (v.ownBlock.toList ++ fp).Nodup) (hqi : qi = (q : Int)) (hq : q + (xs.map SignedSegmentCnt).sum ≤ 1000000000000000) :
    Calls Tryz.prog 67 #[v, I qi] w fun e w' => e = .returned (I ((q + (xs.map SignedSegmentCnt).sum : Nat) : Int)) ∧ (∃ cs', w'.ownsRow 0 104 4 v xs.length cs' ∧ OL SignedSegmentOC 4 w' (numS SignedSegmentNumE SignedSegmentCnt q xs) fp cs') ∧ OutF (v.ownBlock.toList ++ fp) w w' := by
  subst hqi
  rcases Own.cases (hi := w.heap.size) ⟨ho, fun k hk => (ho.lt k hk).2⟩ with ⟨rfl, h0, hx⟩ | ⟨g, cap, rest, rfl, h1, h2, hb, hlc, hnn, hm, hs⟩
  · obtain rfl : xs = [] := List.eq_nil_of_length_eq_zero h0
    subst hx
    have HL := Lib.hid hl; clear hl ho hn h0
    go_enter Tryz.func67, Tryz.ntmps67
    go_wp2
    go_loop [1, 5] (fun k i => k = I q ∧ i = I 0) (fun _ _ => 0)
    case atStart => exact ⟨rfl, rfl⟩
    case round =>
      obtain ⟨rfl, rfl⟩ := hrel
      go_wp2
      go_ret
      exact ⟨rfl, ⟨[], World.ownsRow_nil _ _ _ _, HL.out⟩, OutF.refl _ _⟩
  · have hnd : (g :: fp).Nodup := by simpa [Value.ownBlock] using hn
    have M0 := Lib.hid (MInv.start (f := SignedSegmentNumE) (c := SignedSegmentCnt) (q := q) hb hl)
    have HND := Lib.hid hnd
    have HS := Lib.hid hs
    have HLC := Lib.hid hl.len
    clear ho hl hn hb hlc hs hnd
    unfold maxLen at hm
    go_enter Tryz.func67, Tryz.ntmps67
    go_wp2
    go_loopw [1, 5] (fun k i wr => ∃ j p : Nat, j ≤ xs.length ∧ k = I p ∧ i = I j ∧ MInv SignedSegmentOC 4 SignedSegmentNumE SignedSegmentCnt 104 g rest fp xs q w wr j p) (fun _ i _ => xs.length - (intOf i).toNat)
    case atStart => exact ⟨0, q, by omega, rfl, rfl, M0.out⟩
    case round =>
      obtain ⟨j, p, hj, rfl, rfl, hM⟩ := hrel
      have HM := Lib.hid hM; clear hM M0
      by_cases hlt : j < xs.length
      · have hpb : p + SignedSegmentCnt xs[j] ≤ 1000000000000000 := by
          have h1 := HM.out.1
          have h2 := sum_take SignedSegmentCnt xs j hlt
          have h3 := sum_take_le SignedSegmentCnt xs (j + 1)
          omega
        obtain ⟨f1, pre, post, c1, hoc, hpl, hbl, hg, hf, hgo⟩ := HM.out.step SignedSegmentOC.keeps HND.out hlt
        have HGO := Lib.hid hgo; clear hgo
        have HF := Lib.hid hf; clear hf
        generalize xs[j] = x at *
        unfold SignedSegmentCnt at hpb
        obtain ⟨u2, u3, rfl, r2, r3, rfl⟩ := hoc
        have R2 := Lib.hid r2; clear r2
        obtain ⟨A2, n2, c2, hu2⟩ := ownsRow_slice R2.out
        subst hu2
        have R3 := Lib.hid r3; clear r3
        obtain ⟨A3, n3, c3, hu3⟩ := ownsRow_slice R3.out
        subst hu3
        have G2 : Hid (g ∉ (Value.slice A2 n2 c2).ownBlock.toList) := fun hm => hg (by first | exact hm | (simp only [List.mem_append] at hm ⊢; simp [hm]))
        have G3 : Hid (g ∉ (Value.slice A3 n3 c3).ownBlock.toList) := fun hm => hg (by first | exact hm | (simp only [List.mem_append] at hm ⊢; simp [hm]))
        have DD : Hid (∀ b ∈ (Value.slice A2 n2 c2).ownBlock.toList, b ∉ (Value.slice A3 n3 c3).ownBlock.toList) := fun b h1 h2 => (List.nodup_append.1 HF.out).2.2 b h1 b h2 rfl
        clear hg
        have HPL := Lib.hid hpl; clear hpl
        have B0 := Lib.hid hbl; clear hbl
        simp only [List.cons_append, List.nil_append] at B0
        have lg : g < wr.heap.size := B0.out.lt
        obtain ⟨hu0, hu1, hu2, hu3⟩ := cells_at4 B0.out HPL.out
        have hf0 := B0.out.frozen (j * 4)
        have hf1 := B0.out.frozen (j * 4 + 1)
        have hf2 := B0.out.frozen (j * 4 + 2)
        have hf3 := B0.out.frozen (j * 4 + 3)
        go_wp2_with fail
        refine (markHopS_row _ x.seg.hops (p + 2) ((p : Int) + 1 + 1) _ (by exact ownsRow_set (ownsRow_set (R2.out) G2.out) G2.out) (by omega) (by omega)).mono ?_
        rintro e w2 ⟨rfl, r2, t2⟩
        have R2' := Lib.hid r2; clear r2
        have T2 := Lib.hid t2; clear t2
        have B2' := Blk.outF (Blk.set_ (Blk.set_ (B0.out) (j * 4) (I ((p : Int)))) (j * 4 + 1) (I ((p : Int) + 1))) T2.out G2.out
        have B2 : Hid (Blk w2 g 104 (pre ++ (I ((p : Int)) :: I ((p : Int) + 1) :: .slice A2 n2 c2 :: .slice A3 n3 c3 :: post))) := by
          unfold Hid
          have h := B2'
          rw [← HPL.out] at h
          simpa using h
        clear B2'
        have z2 := T2.out.size
        simp only [World.size_setCell] at z2
        have lg2 : g < w2.heap.size := by omega
        obtain ⟨hv2_0, hv2_1, hv2_2, hv2_3⟩ := cells_at4 B2.out HPL.out
        have hg2_0 := B2.out.frozen (j * 4)
        have hg2_1 := B2.out.frozen (j * 4 + 1)
        have hg2_2 := B2.out.frozen (j * 4 + 2)
        have hg2_3 := B2.out.frozen (j * 4 + 3)
        go_wp2_with fail
        refine (markIntS_row _ x.sigs (p + 2 + 5 * x.seg.hops.length) (((p + 2 + 5 * x.seg.hops.length : Nat) : Int)) _ (by exact ownsRow_outF (ownsRow_set (ownsRow_set (R3.out) G3.out) G3.out) T2.out (fun b hb hm => DD.out b hm hb)) (by omega) (by omega)).mono ?_
        rintro e w3 ⟨rfl, r3, t3⟩
        have R3' := Lib.hid r3; clear r3
        have T3 := Lib.hid t3; clear t3
        have B3' := Blk.outF (B2.out) T3.out G3.out
        have B3 := Lib.hid B3'; clear B3'
        have z3 := T3.out.size
        have lg3 : g < w3.heap.size := by omega
        obtain ⟨hv3_0, hv3_1, hv3_2, hv3_3⟩ := cells_at4 B3.out HPL.out
        have hg3_0 := B3.out.frozen (j * 4)
        have hg3_1 := B3.out.frozen (j * 4 + 1)
        have hg3_2 := B3.out.frozen (j * 4 + 2)
        have hg3_3 := B3.out.frozen (j * 4 + 3)
        have hOC : SignedSegmentOC w3 ((Value.slice A2 n2 c2).ownBlock.toList ++ (Value.slice A3 n3 c3).ownBlock.toList) [I ((p : Int)), I ((p : Int) + 1), .slice A2 n2 c2, .slice A3 n3 c3] (SignedSegmentNumE p x) := ⟨_, _, rfl, (by unfold SignedSegmentNumE; dsimp only; rw [HopNum_len]; exact ownsRow_outF (R2'.out) T3.out (fun b hb hm => DD.out b hb hm)), (by unfold SignedSegmentNumE; dsimp only; rw [intsNum_len]; exact R3'.out), rfl⟩
        have HOC := Lib.hid hOC; clear hOC
        have hOU : OutF (g :: ((Value.slice A2 n2 c2).ownBlock.toList ++ (Value.slice A3 n3 c3).ownBlock.toList)) wr w3 := (by repeat (first | (with_reducible exact OutF.refl _ _) | (with_reducible refine OutF.setCell ?_ ?ge _; case ge => simp) | (with_reducible refine OutF.trans ?_ (T2.out.mono (fun x hx => List.mem_cons_of_mem _ (by first | exact hx | (simp only [List.mem_append] at hx ⊢; simp [hx]))))) | (with_reducible refine OutF.trans ?_ (T3.out.mono (fun x hx => List.mem_cons_of_mem _ (by first | exact hx | (simp only [List.mem_append] at hx ⊢; simp [hx])))))))
        have HOU := Lib.hid hOU; clear hOU
        go_wp2_with fail
        go_roundw
        case rel =>
          exact ⟨j + 1, p + SignedSegmentCnt x, by omega, by simp only [SignedSegmentCnt, Value.int.injEq, true_and]; omega, by go_num, HGO.out _ _ HOC.out rfl B3.out HOU.out⟩
        case measure => simp [intOf]; omega
      · go_wp2_with fail
        go_ret
        obtain rfl : j = xs.length := by omega
        obtain ⟨hp, cs', hb', hl', ho'⟩ := HM.out.stop
        subst hp
        have hs := HS.out
        have e1 : cs'.length = cs.length := by rw [hl'.len, numS_len, HLC.out]
        refine ⟨rfl, ⟨cs', row_of_blk hb' (by rw [hl'.len, numS_len]) hnn (by unfold maxLen; omega) (by rw [← hs, List.length_append, List.length_append, e1]), hl'⟩, by simpa [Value.ownBlock] using ho'⟩
theorem markSignedSegmentS (v : Value) (xs : List DSignedSegment) (q lo hi : Nat) (w : World) (h : SignedSegmentSO lo hi w v xs) (hq : q + (xs.map SignedSegmentCnt).sum ≤ 1000000000000000) :
    Calls Tryz.prog 67 #[v, I q] w fun e w' => e = .returned (I ((q + (xs.map SignedSegmentCnt).sum : Nat) : Int)) ∧ SignedSegmentSO lo hi w' v (numS SignedSegmentNumE SignedSegmentCnt q xs) ∧ Out lo hi w w' :=
  calls_NO numS_len h fun cs fp h1 h2 h3 => markSignedSegmentS_row v xs q q w cs fp h1 h2 h3 rfl hq
end Go.Proofs.YtbojbgicmdgfaaaGreat
