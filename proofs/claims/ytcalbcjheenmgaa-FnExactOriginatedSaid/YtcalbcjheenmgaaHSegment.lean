/- The laws' helpers on Segment: to.. (copy), eq.. (compare), sz.. (count), mark.. and held... Printed by gen.py. -/
import Derived.Test.YtcalbcjheenmgaaHHop
import Derived.Test.YtcalbcjheenmgaaNest
import Derived.Test.YtcalbcjheenmgaaMarkRows
import Derived.Test.YtcalbcjheenmgaaPush
import Derived.Test.YtcalbcjheenmgaaTyped
namespace Go.Proofs.Ytcalbcjheenmgaa
open Go.RowKit
set_option linter.unusedVariables false
theorem info_Segment : (Try.prog.info? 31).map (fun i => (i.zero, i.size, i.bytes)) = some (some (.agg #[.int .i64 0, .int .i64 0, .slice none 0 0]), 3, 40) := by kernel_rfl

def SegmentO (lo hi : Nat) (w : World) (v : Value) (x : DSegment) : Prop := ∃ u2, v = .agg #[I x.ts, I x.beta, u2] ∧ Own 117 5 lo hi w u2 x.hops.length (x.hops.flatMap HopC) ∧ lo ≤ hi
theorem SegmentO.keep {lo hi : Nat} {w w' : World} {v : Value} {x : DSegment} (h : SegmentO lo hi w v x) (hk : ∀ k, lo ≤ k → k < hi → k < w.heap.size → w'.heap[k]? = w.heap[k]?) : SegmentO lo hi w' v x := by
  obtain ⟨u2, e, o2, l0⟩ := h
  exact ⟨u2, e, o2.keep fun k h1 h2 h3 => hk k (by omega) (by omega) h3, l0⟩
theorem SegmentO.v {lo hi : Nat} {w : World} {v : Value} {x : DSegment} (h : SegmentO lo hi w v x) : SegmentV hi w v x := by
  obtain ⟨u2, e, o2, l0⟩ := h
  have s2 := (o2.sl (At := HopAt) HopC.len (by omega) HopC.at_)
  obtain ⟨A2, n2, c2, rfl, _⟩ := id s2
  exact ⟨_, _, _, e, s2.keep HopAt.keeps (by omega) (fun _ _ => rfl)⟩
theorem SegmentO.shape {lo hi : Nat} {w : World} {v : Value} {x : DSegment} (h : SegmentO lo hi w v x) : ∃ A2 n2 c2, v = .agg #[I x.ts, I x.beta, .slice A2 n2 c2] := by
  obtain ⟨A2, n2, c2, e, _⟩ := h.v
  exact ⟨A2, n2, c2, e⟩
theorem SegmentO.ext {lo hi : Nat} {w w' : World} {v : Value} {x : DSegment} (h : SegmentO lo hi w v x) (he : Ext w w') (hhi : hi ≤ w.heap.size) : SegmentO lo hi w' v x := h.keep fun k _ _ h3 => he.same k h3
theorem SegmentO.drew {lo hi : Nat} {w : World} {v : Value} {x : DSegment} (h : SegmentO lo hi w v x) : SegmentO lo hi w.drew v x := h.keep fun _ _ _ _ => rfl
theorem SegmentO.out {lo hi lo' hi' : Nat} {w w' : World} {v : Value} {x : DSegment} (h : SegmentO lo hi w v x) (ho : Out lo' hi' w w') (hd : hi' ≤ lo ∨ hi ≤ lo') : SegmentO lo hi w' v x := h.keep fun k h1 h2 h3 => ho.block k h3 (by omega)
theorem SegmentO.more {lo hi lo' hi' : Nat} {w : World} {v : Value} {x : DSegment} (h : SegmentO lo hi w v x) (h1 : lo' ≤ lo) (h2 : hi ≤ hi') : SegmentO lo' hi' w v x := by
  obtain ⟨u2, e, o2, l0⟩ := h
  exact ⟨u2, e, Own.more o2 h1 h2, by omega⟩
theorem SegmentO.up {lo : Nat} {w w' : World} {v : Value} {x : DSegment} (h : SegmentO lo w.heap.size w v x) (he : Ext w w') : SegmentO lo w'.heap.size w' v x := (h.ext he (Nat.le_refl _)).more (Nat.le_refl _) he.size
theorem SegmentO.setT {lo hi g : Nat} {w : World} {v : Value} {x : DSegment} {cs' : List Value} (h : SegmentO lo hi w v x) (hb : Blk w g 31 cs') (i : Nat) (u : Value) : SegmentO lo hi (w.setCell ⟨g, i, none⟩ u) v x := by
  obtain ⟨u2, e, o2, l0⟩ := h
  exact ⟨u2, e, Own.setT o2 hb (by decide) i u, l0⟩
theorem SegmentO_rd {lo hi : Nat} {w : World} {v : Value} {x : DSegment} (h : SegmentO lo hi w v x) (hhi : hi ≤ w.heap.size) : SegmentV w.heap.size w v x := h.v.keep hhi (fun _ _ => rfl)
set_option maxRecDepth 100000 in
set_option maxHeartbeats 1000000 in
theorem toSegment (v : Value) (x : DSegment) (w : World) (h : SegmentV w.heap.size w v x) (hn : x.hops.length ≤ 16777216) :
    Calls Try.prog 13 #[v] w fun e w' => ∃ v', e = .returned v' ∧ SegmentO w.heap.size w'.heap.size w' v' x ∧ Ext w w' := by
  obtain ⟨A2, n2, c2, rfl, s2⟩ := h
  have S2 := Lib.hid s2; clear s2
  go_enter Try.func13, Try.ntmps13
  go_wp2_with fail
  refine (toHopS _ x.hops _ (by exact S2.out.ext (by repeat (first | (with_reducible exact Ext.refl _) | (with_reducible assumption) | (with_reducible refine Ext.alloc ?_ _) | (with_reducible refine Ext.drew ?_) | (with_reducible refine Ext.drewN ?_ _) | (with_reducible refine Ext.setCell (p := _) ?_ ?ge _; case ge => (dsimp only; omega)) | (with_reducible refine Ext.trans ?_ (by with_reducible assumption))))) (by omega)).mono ?_
  rintro e w2 ⟨v2, rfl, ho2, he2⟩
  obtain ⟨hc2, hf2, hz2⟩ := he2.facts
  simp only [World.size_alloc] at hz2 hc2 hf2
  have la2 : w.heap.size < w2.heap.size := by omega
  have lb2 : w.heap.size + 1 < w2.heap.size := by omega
  have lc2 : w.heap.size + 1 + 1 < w2.heap.size := by omega
  simp only [World.size_alloc] at ho2
  have O2 := Lib.hid ho2; clear ho2
  obtain ⟨a2, m2, q2, hv2⟩ : ∃ a n c, v2 = .slice a n c := O2.out.slice
  subst hv2
  go_wp2_with fail
  refine bodyPost_ret (v := .agg #[I x.ts, I x.beta, .slice a2 m2 q2]) (by simp [results, Try.results13, go_sem, *]) rfl ⟨_, rfl, ?_, ?_⟩
  · simp only [World.size_setCell]
    refine ⟨_, rfl, Own.more (lo := w.heap.size + 1 + 1 + 1) (hi := w2.heap.size) (by repeat (first | (with_reducible exact O2.out) | (with_reducible refine Own.alloc ?_ _) | (with_reducible refine Own.setCell (p := _) ?_ (.inl ?ge) _; case ge => (first | omega | (dsimp only; omega) | (simp only [World.size_setCell]; omega) | (simp only [World.size_alloc]; omega))) | (with_reducible refine Own.ext ?_ (by with_reducible assumption) ?ge; case ge => (first | omega | (dsimp only; omega) | (simp only [World.size_setCell]; omega) | (simp only [World.size_alloc]; omega))))) (by omega) (by omega), by omega⟩
  · exact (by repeat (first | (with_reducible exact Ext.refl _) | (with_reducible assumption) | (with_reducible refine Ext.alloc ?_ _) | (with_reducible refine Ext.drew ?_) | (with_reducible refine Ext.drewN ?_ _) | (with_reducible refine Ext.setCell (p := _) ?_ ?ge _; case ge => (dsimp only; omega)) | (with_reducible refine Ext.trans ?_ (by with_reducible assumption))))
set_option maxRecDepth 100000 in
set_option maxHeartbeats 1000000 in
theorem eqSegment (v1 v2 : Value) (x y : DSegment) (w : World) (h1 : SegmentV w.heap.size w v1 x) (h2 : SegmentV w.heap.size w v2 y) :
    Calls Try.prog 16 #[v1, v2] w fun e w' => e = .returned (.bool (decide (x = y))) ∧ Ext w w' := by
  obtain ⟨A12, n12, c12, rfl, s12⟩ := h1
  obtain ⟨A22, n22, c22, rfl, s22⟩ := h2
  have S12 := Lib.hid s12; clear s12
  have S22 := Lib.hid s22; clear s22
  go_enter Try.func16, Try.ntmps16
  go_wp2_with fail
  all_goals (try (go_ret; exact ⟨ret_bool (by simp_all [DSegment.eq_iff]), (by repeat (first | (with_reducible exact Ext.refl _) | (with_reducible assumption) | (with_reducible refine Ext.alloc ?_ _) | (with_reducible refine Ext.drew ?_) | (with_reducible refine Ext.drewN ?_ _) | (with_reducible refine Ext.setCell (p := _) ?_ ?ge _; case ge => (dsimp only; omega)) | (with_reducible refine Ext.trans ?_ (by with_reducible assumption))))⟩))
  refine (eqHopS _ _ x.hops y.hops _ (by exact S12.out.ext (by repeat (first | (with_reducible exact Ext.refl _) | (with_reducible assumption) | (with_reducible refine Ext.alloc ?_ _) | (with_reducible refine Ext.drew ?_) | (with_reducible refine Ext.drewN ?_ _) | (with_reducible refine Ext.setCell (p := _) ?_ ?ge _; case ge => (dsimp only; omega)) | (with_reducible refine Ext.trans ?_ (by with_reducible assumption))))) (by exact S22.out.ext (by repeat (first | (with_reducible exact Ext.refl _) | (with_reducible assumption) | (with_reducible refine Ext.alloc ?_ _) | (with_reducible refine Ext.drew ?_) | (with_reducible refine Ext.drewN ?_ _) | (with_reducible refine Ext.setCell (p := _) ?_ ?ge _; case ge => (dsimp only; omega)) | (with_reducible refine Ext.trans ?_ (by with_reducible assumption)))))).mono ?_
  rintro e w3 ⟨rfl, he3⟩
  obtain ⟨hc3, hf3, hz3⟩ := he3.facts
  go_wp2_with fail
  all_goals
    go_ret
    exact ⟨ret_bool (by simp_all [DSegment.eq_iff]), (by repeat (first | (with_reducible exact Ext.refl _) | (with_reducible assumption) | (with_reducible refine Ext.alloc ?_ _) | (with_reducible refine Ext.drew ?_) | (with_reducible refine Ext.drewN ?_ _) | (with_reducible refine Ext.setCell (p := _) ?_ ?ge _; case ge => (dsimp only; omega)) | (with_reducible refine Ext.trans ?_ (by with_reducible assumption))))⟩
set_option maxRecDepth 100000 in
set_option maxHeartbeats 1000000 in
theorem szSegment (v : Value) (x : DSegment) (left : Int) (w : World) (h : SegmentV w.heap.size w v x) (h0 : 0 ≤ left) (hl : left ≤ 1048576) :
    Calls Try.prog 11 #[v, I left] w fun e w' => e = .returned (I (szR (x.hops.length) left)) ∧ Ext w w' := by
  obtain ⟨A2, n2, c2, rfl, s2⟩ := h
  have S2 := Lib.hid s2; clear s2
  go_enter Try.func11, Try.ntmps11
  go_wp2_with fail
  refine (szHopS _ x.hops (left) _ (by exact S2.out.ext (by repeat (first | (with_reducible exact Ext.refl _) | (with_reducible assumption) | (with_reducible refine Ext.alloc ?_ _) | (with_reducible refine Ext.drew ?_) | (with_reducible refine Ext.drewN ?_ _) | (with_reducible refine Ext.setCell (p := _) ?_ ?ge _; case ge => (dsimp only; omega)) | (with_reducible refine Ext.trans ?_ (by with_reducible assumption))))) (by omega) (by omega)).mono ?_
  rintro e w1 ⟨rfl, he1⟩
  obtain ⟨hc1, hf1, hz1⟩ := he1.facts
  by_cases hlt0 : left < (((x.hops.length) : Nat) : Int)
  · rw [szR_neg hlt0]
    go_wp2_with fail
    go_ret
    exact ⟨ret_int (szR_neg (by omega)).symm, (by repeat (first | (with_reducible exact Ext.refl _) | (with_reducible assumption) | (with_reducible refine Ext.alloc ?_ _) | (with_reducible refine Ext.drew ?_) | (with_reducible refine Ext.drewN ?_ _) | (with_reducible refine Ext.setCell (p := _) ?_ ?ge _; case ge => (dsimp only; omega)) | (with_reducible refine Ext.trans ?_ (by with_reducible assumption))))⟩
  · rw [szR_pos (by omega)]
    go_wp2_with fail
    go_ret
    exact ⟨ret_int (by rw [szR_pos (by omega)] <;> omega), (by repeat (first | (with_reducible exact Ext.refl _) | (with_reducible assumption) | (with_reducible refine Ext.alloc ?_ _) | (with_reducible refine Ext.drew ?_) | (with_reducible refine Ext.drewN ?_ _) | (with_reducible refine Ext.setCell (p := _) ?_ ?ge _; case ge => (dsimp only; omega)) | (with_reducible refine Ext.trans ?_ (by with_reducible assumption))))⟩
/-- What marking from q on leaves. -/
def SegmentNum1 (q : Nat) (x : DSegment) : DSegment := { ts := x.ts, beta := x.beta, hops := (HopNum q x.hops.length) }
set_option maxRecDepth 100000 in
set_option maxHeartbeats 1000000 in
theorem markSegment (v : Value) (x : DSegment) (q lo hi : Nat) (w : World) (h : SegmentO lo hi w v x) (hhi : hi ≤ w.heap.size) (hq : (q + 5 * x.hops.length) ≤ 1000000000000000) :
    Calls Try.prog 17 #[v, I q] w fun e w' => e = .returned (I (((q + 5 * x.hops.length) : Nat) : Int)) ∧ SegmentO lo hi w' v (SegmentNum1 q x) ∧ Out lo hi w w' := by
  obtain ⟨u2, rfl, o2, l0⟩ := h
  have O2 := Lib.hid o2; clear o2
  obtain ⟨a2, k2, c2, hv2⟩ := O2.out.slice
  subst hv2
  go_enter Try.func17, Try.ntmps17
  go_wp2_with fail
  refine (markHopS _ x.hops q lo hi _ (by exact (by repeat (first | (with_reducible exact O2.out) | (with_reducible refine Own.ext ?_ (by with_reducible assumption) ?ge; case ge => (first | omega | (simp only [World.size_alloc]; omega))) | (with_reducible refine Own.out ?_ (by with_reducible assumption) ?ge; case ge => omega) | (with_reducible refine Own.alloc ?_ _)))) (by omega)).mono ?_
  rintro e w2 ⟨rfl, p2, t2⟩
  have P2 := Lib.hid p2; clear p2
  have z2 := t2.size
  have hc2 : ∀ k o, k < lo ∨ hi ≤ k → k < _ → w2.cell? ⟨k, o, none⟩ = _ := fun k o h1 h2 => World.cell?_of_block (a := ⟨k, o, none⟩) (t2.block k h2 (by omega))
  simp only [World.size_alloc] at z2
  have lw2 : w.heap.size < w2.heap.size := by omega
  go_wp2_with fail
  go_ret
  have hOut : Out lo hi w w2 := (Out.trans (Out.of_ext (by repeat (first | (with_reducible exact Ext.refl _) | (with_reducible assumption) | (with_reducible refine Ext.alloc ?_ _) | (with_reducible refine Ext.drew ?_) | (with_reducible refine Ext.drewN ?_ _) | (with_reducible refine Ext.setCell (p := _) ?_ ?ge _; case ge => (dsimp only; omega)) | (with_reducible refine Ext.trans ?_ (by with_reducible assumption))))) (t2.mono (by omega) (by omega)))
  have HOUT := Lib.hid hOut; clear hOut
  exact ⟨rfl, ⟨_, rfl, (by unfold SegmentNum1; dsimp only; rw [HopNum_len]; exact (by repeat (first | (with_reducible exact P2.out) | (with_reducible refine Own.ext ?_ (by with_reducible assumption) ?ge; case ge => (first | omega | (simp only [World.size_alloc]; omega))) | (with_reducible refine Own.out ?_ (by with_reducible assumption) ?ge; case ge => omega) | (with_reducible refine Own.alloc ?_ _)))), l0⟩, HOUT.out⟩
set_option maxRecDepth 100000 in
set_option maxHeartbeats 1000000 in
theorem heldSegment (v : Value) (x : DSegment) (q : Nat) (w : World) (h : SegmentV w.heap.size w v (SegmentNum1 q x)) (hq : (q + 5 * x.hops.length) ≤ 1000000000000000) :
    Calls Try.prog 83 #[v, I q] w fun e w' => e = .returned (I (((q + 5 * x.hops.length) : Nat) : Int)) ∧ Ext w w' := by
  obtain ⟨A2, n2, c2, rfl, s2⟩ := h
  have S2 := Lib.hid s2; clear s2
  go_enter Try.func83, Try.ntmps83
  go_wp2_with fail
  refine (heldHopS _ x.hops.length q _ (by exact S2.out.ext (by repeat (first | (with_reducible exact Ext.refl _) | (with_reducible assumption) | (with_reducible refine Ext.alloc ?_ _) | (with_reducible refine Ext.drew ?_) | (with_reducible refine Ext.drewN ?_ _) | (with_reducible refine Ext.setCell (p := _) ?_ ?ge _; case ge => (dsimp only; omega)) | (with_reducible refine Ext.trans ?_ (by with_reducible assumption))))) (by omega)).mono ?_
  rintro e w2 ⟨rfl, e2⟩
  obtain ⟨hc2, -, hz2⟩ := e2.facts
  simp only [World.size_alloc] at hz2 hc2
  have lw2 : w.heap.size < w2.heap.size := by omega
  have j2 : ¬ (((q + 5 * x.hops.length) : Nat) : Int) < 0 := by omega
  go_wp2_with fail
  go_ret
  exact ⟨rfl, (by repeat (first | (with_reducible exact Ext.refl _) | (with_reducible assumption) | (with_reducible refine Ext.alloc ?_ _) | (with_reducible refine Ext.drew ?_) | (with_reducible refine Ext.drewN ?_ _) | (with_reducible refine Ext.setCell (p := _) ?_ ?ge _; case ge => (dsimp only; omega)) | (with_reducible refine Ext.trans ?_ (by with_reducible assumption))))⟩
/-- The cells cs of a Segment and the blocks that it owns. -/
def SegmentOC (w : World) (fp : List Nat) (cs : List Value) (x : DSegment) : Prop := ∃ u2, cs = [I x.ts, I x.beta, u2] ∧ w.ownsRow 0 117 5 u2 x.hops.length (x.hops.flatMap HopC) ∧ fp = u2.ownBlock.toList
theorem SegmentOC.keeps : OKeeps SegmentOC := by
  intro w w' fp cs x hk h
  obtain ⟨u2, e, r2, ef⟩ := h
  exact ⟨u2, e, ownsRow_keep r2 (fun b hb => hk b (by rw [ef]; simp [hb])), ef⟩
theorem SegmentOC.at_ (B : Nat) (w : World) (b o : Nat) (fp : List Nat) (cs : List Value) (x : DSegment) (h : SegmentOC w fp cs x) (hb : ∀ b ∈ fp, b < B) (hc : ∀ j u, cs[j]? = some u → w.cell? ⟨b, o + j, none⟩ = some u) : SegmentAt B w b o x := by
  obtain ⟨u2, rfl, r2, ef⟩ := h
  have s2 : HopS B w u2 x.hops := Own.sl (lo := 0) (n := x.hops.length) (At := HopAt) ⟨r2, fun k hk => hb k (by rw [ef]; simp [hk])⟩ HopC.len (by omega) HopC.at_
  obtain ⟨A2, n2, c2, e2, _⟩ := id s2
  subst e2
  exact ⟨A2, n2, c2, hc 0 _ rfl, hc 1 _ rfl, hc 2 _ rfl, s2⟩
theorem SegmentOC.one : OOne SegmentOC := by
  intro w fp cs x h
  obtain ⟨u2, rfl, r2, ef⟩ := h
  obtain ⟨a2, m2, c2, e2⟩ := ownsRow_slice r2
  subst e2
  intro u hu
  simp only [List.mem_cons, List.not_mem_nil, or_false] at hu
  rcases hu with rfl | rfl | rfl <;> rfl
theorem SegmentOC.typed (T : Nat) (n0 : 117 ≠ T) : OTyped SegmentOC T := by
  intro w fp cs x g cs' h hb
  obtain ⟨u2, e, r2, ef⟩ := h
  subst ef
  intro hm
  exact ownsRow_typed r2 hb n0 hm
theorem SegmentOC.len {w : World} {fp : List Nat} {cs : List Value} {x : DSegment} (h : SegmentOC w fp cs x) : cs.length = 3 := by
  obtain ⟨u2, rfl, _⟩ := h
  rfl
theorem SegmentO.to_oc {lo hi : Nat} {w : World} {v : Value} {x : DSegment} (h : SegmentO lo hi w v x) : ∃ a2 k2 q2 fp, v = .agg #[I x.ts, I x.beta, .slice a2 k2 q2] ∧ SegmentOC w fp [I x.ts, I x.beta, .slice a2 k2 q2] x ∧ fp.Nodup ∧ ∀ b ∈ fp, lo ≤ b ∧ b < hi := by
  obtain ⟨u2, e, o2, l0⟩ := h
  obtain ⟨a2, k2, q2, hu2⟩ : ∃ a n c, u2 = .slice a n c := o2.slice
  have b2 : ∀ b ∈ u2.ownBlock.toList, lo ≤ b ∧ b < hi := fun b hb => ⟨(o2.1.lt b (by simpa using hb)).1, o2.2 b (by simpa using hb)⟩
  have d2 : (u2.ownBlock.toList).Nodup := by cases u2.ownBlock <;> simp
  subst hu2
  exact ⟨a2, k2, q2, (Value.slice a2 k2 q2).ownBlock.toList, e, ⟨_, rfl, (o2.more (Nat.zero_le _) (Nat.le_refl _)).1, rfl⟩, d2, b2⟩
/-- A []Segment of the call's own. -/
abbrev SegmentSO (lo hi : Nat) (w : World) (v : Value) (xs : List DSegment) : Prop := NO SegmentOC 31 3 lo hi w v xs
theorem SegmentSO_rd {lo hi : Nat} {w : World} {v : Value} {xs : List DSegment} (h : SegmentSO lo hi w v xs) (hhi : hi ≤ w.heap.size) : SegmentS w.heap.size w v xs := (NO.sl (At := SegmentAt) h (fun _ => rfl) SegmentOC.at_).keep SegmentAt.keeps hhi (fun _ _ => rfl)
theorem SegmentSO_ext {lo hi : Nat} {w w' : World} {v : Value} {xs : List DSegment} (h : SegmentSO lo hi w v xs) (he : Ext w w') (_hhi : hi ≤ w.heap.size) : SegmentSO lo hi w' v xs := NO.keep SegmentOC.keeps h fun k _ _ h3 => he.same k h3
theorem SegmentSO_out {lo hi : Nat} {lo' hi' : Nat} {w w' : World} {v : Value} {xs : List DSegment} (h : SegmentSO lo hi w v xs) (ho : Out lo' hi' w w') (hd : hi' ≤ lo ∨ hi ≤ lo') : SegmentSO lo hi w' v xs := NO.keep SegmentOC.keeps h fun k h1 h2 h3 => ho.block k h3 (by omega)
theorem SegmentSO_drew {lo hi : Nat} {w : World} {v : Value} {xs : List DSegment} (h : SegmentSO lo hi w v xs) : SegmentSO lo hi w.drew v xs := NO.keep SegmentOC.keeps h fun _ _ _ _ => rfl
theorem SegmentSO_alloc {lo hi : Nat} {w : World} {v : Value} {xs : List DSegment} (h : SegmentSO lo hi w v xs) (o : Obj) : SegmentSO lo hi (w.alloc o) v xs := NO.keep SegmentOC.keeps h fun k _ _ h3 => Below.heap_alloc w o k h3
theorem SegmentSO_setCell {lo hi : Nat} {w : World} {v : Value} {xs : List DSegment} (h : SegmentSO lo hi w v xs) {p : Addr} (hp : p.block < lo ∨ hi ≤ p.block) (u : Value) : SegmentSO lo hi (w.setCell p u) v xs := NO.keep SegmentOC.keeps h fun k h1 h2 _ => Below.heap_setCell _ _ _ _ (by omega)
theorem SegmentSO_keep {lo hi : Nat} {w w' : World} {v : Value} {xs : List DSegment} (h : SegmentSO lo hi w v xs) (hk : ∀ k, lo ≤ k → k < hi → k < w.heap.size → w'.heap[k]? = w.heap[k]?) : SegmentSO lo hi w' v xs := NO.keep SegmentOC.keeps h hk
set_option maxRecDepth 100000 in
set_option maxHeartbeats 1000000 in
theorem toSegmentS (v : Value) (ds : List DSegment) (w : World) (h : SegmentS w.heap.size w v ds) (hn : totS (fun y => y.hops.length) ds ≤ 16777216) :
    Calls Try.prog 104 #[v] w fun e w' => ∃ v', e = .returned v' ∧ SegmentSO w.heap.size w'.heap.size w' v' ds ∧ Ext w w' := by
  obtain ⟨A, n, c, rfl, hl, -⟩ := id h
  subst hl
  have hn : ds.length + (ds.map fun y => y.hops.length).sum ≤ 16777216 := hn
  have hmk := run_mk (P := Try.prog) 85 31 (.agg #[.int .i64 0, .int .i64 0, .slice none 0 0]) 3 40 Try.underlying85 info_Segment ds.length (by omega) (by omega)
  have hml := mkRow_len (.agg #[.int .i64 0, .int .i64 0, .slice none 0 0]) (ds.length * 3)
  generalize mkRow (.agg #[.int .i64 0, .int .i64 0, .slice none 0 0]) (ds.length * 3) = mr at *
  have H := Lib.hid h; clear h
  have HM := Lib.hid hml; clear hml
  go_enter Try.func104, Try.ntmps104
  go_wp2
  go_loopw [4] (fun i wr => ∃ (k : Nat) (cs rest : List Value) (fp : List Nat), k ≤ ds.length ∧ i = I k ∧ Blk wr w.heap.size 31 (cs ++ rest) ∧ OL SegmentOC 3 wr (ds.take k) fp cs ∧ (w.heap.size :: fp).Nodup ∧ (∀ b ∈ fp, w.heap.size < b ∧ b < wr.heap.size) ∧ rest.length = (ds.length - k) * 3 ∧ Ext w wr) (fun i _ => ds.length - (intOf i).toNat)
  case atStart => exact ⟨0, [], mr.toList, [], by omega, rfl, by simpa using Blk.new w 31 mr.toList, ⟨rfl, rfl⟩, by simp, by simp, by simpa using HM.out, (Ext.refl _).alloc _⟩
  case round =>
    obtain ⟨k, cs, rest, fp, hk, rfl, hb, hol, hnd, hbd, hr, he⟩ := hrel
    have HE := Lib.hid he
    have HB := Lib.hid hb; clear hb
    have HOL := Lib.hid hol; clear hol
    have HND := Lib.hid hnd; clear hnd
    have HBD := Lib.hid hbd; clear hbd
    by_cases hlt : k < ds.length
    · obtain ⟨b, off, rfl, hbb, _, hc⟩ := (H.out.ext he).at_ hlt
      have hsm := sum_mem (fun y => y.hops.length) ds k hlt
      obtain ⟨r0, r1, r2, rest, rfl⟩ : ∃ r0 r1 r2 rest', rest = r0 :: r1 :: r2 :: rest' := by
        match rest, hr with
        | r0 :: r1 :: r2 :: rest, _ => exact ⟨r0, r1, r2, rest, rfl⟩
        | [], h => simp at h; omega
        | [_], h => simp at h; omega
        | [_, _], h => simp at h; omega
      have hlr : rest.length = (ds.length - (k + 1)) * 3 := by simp only [List.length_cons] at hr; omega
      have HR := Lib.hid hlr; clear hr he hlr
      have HX := Lib.hid (take_snoc ds k hlt)
      generalize ds[k] = x at *
      obtain ⟨A2, n2, c2, hc0, hc1, hc2, s2⟩ := hc
      have S2 := Lib.hid s2; clear s2
      have hp : cs.length = k * 3 := by rw [HOL.out.len, List.length_take, Nat.min_eq_left hk]
      have HP := Lib.hid hp; clear hp
      have hwg : w.heap.size < wr.heap.size := HB.out.lt
      go_wp2_with fail
      refine (toSegment _ x _ (by exact ⟨_, _, _, rfl, S2.out⟩) (by omega)).mono ?_
      rintro e w1 ⟨v1, rfl, ho1, he1⟩
      obtain ⟨a2, k2, q2, f1, rfl, hoc, hn1, hb1⟩ := ho1.to_oc
      have HOC := Lib.hid hoc; have HN1 := Lib.hid hn1; have HB1F := Lib.hid hb1; clear hoc hn1 hb1 ho1
      have HB1 := Lib.hid (HB.out.below he1.below hwg)
      have hz1 := he1.size
      have HE1 := Lib.hid he1
      clear he1
      obtain ⟨hu0, hu1, hu2⟩ := cells_at3 HB1.out HP.out
      have hf0 := HB1.out.frozen (k * 3)
      have hf1 := HB1.out.frozen (k * 3 + 1)
      have hf2 := HB1.out.frozen (k * 3 + 2)
      go_wp2
      go_roundw
      case rel =>
        obtain ⟨g1, g2, g3⟩ := nest_step (w2 := (((w1.setCell ⟨w.heap.size, k * 3, none⟩ (I x.ts)).setCell ⟨w.heap.size, k * 3 + 1, none⟩ (I x.beta)).setCell ⟨w.heap.size, k * 3 + 2, none⟩ (.slice a2 k2 q2))) SegmentOC.keeps HOL.out HE1.out HOC.out rfl HBD.out HND.out HN1.out HB1F.out hwg (fun b hb => (Eq.trans (Below.heap_setCell _ ⟨w.heap.size, k * 3 + 2, none⟩ _ b hb) (Eq.trans (Below.heap_setCell _ ⟨w.heap.size, k * 3 + 1, none⟩ _ b hb) (Below.heap_setCell _ ⟨w.heap.size, k * 3, none⟩ _ b hb)))) (by simp only [World.size_setCell])
        refine ⟨k + 1, cs ++ [I x.ts, I x.beta, .slice a2 k2 q2], rest, fp ++ f1, by omega, by go_num, ?_, ?_, g2, g3, HR.out, ?_⟩
        · have := ((HB1.out.set_ (k * 3) (I x.ts)).set_ (k * 3 + 1) (I x.beta)).set_ (k * 3 + 2) (.slice a2 k2 q2)
          rw [set_at3 _ _ _ _ _ _ _ _ _ HP.out] at this
          simpa using this
        · rw [HX.out]
          exact g1
        · exact (((HE.out.trans HE1.out).setCell (by simp) _).setCell (by simp) _).setCell (by simp) _
      case measure => simp [intOf]; omega
    · have HR := Lib.hid hr; clear hr he
      go_wp2
      go_ret
      have e : k = ds.length := by omega
      have hr := HR.out
      subst e
      obtain rfl : rest = [] := List.eq_nil_of_length_eq_zero (by simpa using hr)
      have hb := HB.out
      have hol := HOL.out
      rw [List.append_nil] at hb
      rw [List.take_length] at hol
      exact ⟨_, rfl, ⟨cs, fp, Own.of_blk hb hol.len (by unfold maxLen; omega) (Nat.le_refl _) hb.lt, hol, by simpa [Value.ownBlock] using HND.out, fun b hb => ⟨by have := (HBD.out b hb).1; omega, (HBD.out b hb).2⟩⟩, HE.out⟩
set_option maxRecDepth 100000 in
set_option maxHeartbeats 1000000 in
theorem eqSegmentS (v1 v2 : Value) (xs ys : List DSegment) (w : World) (h1 : SegmentS w.heap.size w v1 xs) (h2 : SegmentS w.heap.size w v2 ys) :
    Calls Try.prog 106 #[v1, v2] w fun e w' => e = .returned (.bool (decide (xs = ys))) ∧ Ext w w' := by
  obtain ⟨A1, n1, c1, rfl, hl1, hn1, hm1, -⟩ := id h1
  obtain ⟨A2, n2, c2, rfl, hl2, hn2, hm2, -⟩ := id h2
  unfold maxLen at hm1 hm2
  have H1 := Lib.hid h1; have H2 := Lib.hid h2; have E1 := Lib.hid hl1; have E2 := Lib.hid hl2; clear h1 h2 hl1 hl2
  by_cases hn : n1 = n2
  · subst hn
    go_enter Try.func106, Try.ntmps106
    go_wp2
    go_loopw [5] (fun i wr => ∃ k : Nat, k ≤ n1 ∧ i = I k ∧ xs.take k = ys.take k ∧ Ext w wr) (fun i _ => n1 - (intOf i).toNat)
    case atStart => exact ⟨0, by omega, rfl, by simp, Ext.refl _⟩
    case round =>
      obtain ⟨k, hk, rfl, hq, he⟩ := hrel
      have HQ := Lib.hid hq; clear hq
      have HE := Lib.hid he; clear he
      by_cases hlt : k < n1
      · obtain ⟨b1, o1, rfl, hb1, hk1, hc1⟩ := (H1.out.ext HE.out).at_ hlt
        obtain ⟨b2, o2, rfl, hb2, hk2, hc2⟩ := (H2.out.ext HE.out).at_ hlt
        have i0 : (0 : Int) ≤ (k : Int) := by omega
        have i1 : (k : Int) < (n1 : Int) := by omega
        have X1 := Lib.hid (take_snoc xs k hk1)
        have X2 := Lib.hid (take_snoc ys k hk2)
        have hne : ¬ xs[k] = ys[k] → xs ≠ ys := fun hne h => hne (by subst h; rfl)
        have HN := Lib.hid hne; clear hne
        generalize xs[k] = x at *
        generalize ys[k] = y at *
        obtain ⟨A12, n12, c12, h10, h11, h12, s12⟩ := hc1
        obtain ⟨A22, n22, c22, h20, h21, h22, s22⟩ := hc2
        have S12 := Lib.hid s12; clear s12
        have S22 := Lib.hid s22; clear s22
        go_wp2_with fail
        go_region_held3 (fun W => wr.heap.size ≤ W.heap.size ∧ ∀ b o, b < wr.heap.size → W.cell? ⟨b, o, none⟩ = wr.cell? ⟨b, o, none⟩)
          (first | exact ⟨Nat.le_refl _, fun _ _ _ => rfl⟩ | exact keepC (by assumption) he1)
          (first | (go_at_call 16; refine (eqSegment _ _ x y _ (by exact ⟨_, _, _, rfl, S12.out.ext (by repeat (first | (with_reducible exact Ext.refl _) | (with_reducible assumption) | (with_reducible refine Ext.alloc ?_ _) | (with_reducible refine Ext.drew ?_) | (with_reducible refine Ext.drewN ?_ _) | (with_reducible refine Ext.setCell (p := _) ?_ ?ge _; case ge => (dsimp only; omega)) | (with_reducible refine Ext.trans ?_ (by with_reducible assumption))))⟩) (by exact ⟨_, _, _, rfl, S22.out.ext (by repeat (first | (with_reducible exact Ext.refl _) | (with_reducible assumption) | (with_reducible refine Ext.alloc ?_ _) | (with_reducible refine Ext.drew ?_) | (with_reducible refine Ext.drewN ?_ _) | (with_reducible refine Ext.setCell (p := _) ?_ ?ge _; case ge => (dsimp only; omega)) | (with_reducible refine Ext.trans ?_ (by with_reducible assumption))))⟩)).mono ?_; rintro e w1 ⟨rfl, he1⟩))
        have HE1 := Lib.hid (HE.out.drew.trans he1)
        have hdd : decide (x = y) = true ↔ x = y := decide_eq_true_iff
        have HD := Lib.hid hdd; clear hdd
        generalize decide (x = y) = bb at *
        cases bb
        · have hxy : ¬ x = y := fun h => by have := HD.out.2 h; cases this
          have HXY := Lib.hid hxy; clear hxy
          go_wp2
          go_ret
          exact ⟨ret_bool (by simp [HN.out HXY.out]), HE1.out⟩
        · have HXY := Lib.hid (HD.out.1 rfl)
          go_wp2
          go_roundw
          case rel => exact ⟨k + 1, by omega, by go_num, by rw [X1.out, X2.out, HQ.out, HXY.out], HE1.out⟩
          case measure => simp [intOf]; omega
      · go_wp2
        go_ret
        have h := HQ.out
        rw [List.take_of_length_le (by rw [E1.out]; omega), List.take_of_length_le (by rw [E2.out]; omega)] at h
        exact ⟨ret_bool (by simp [h]), HE.out⟩
  · have hb : ((n1 : Int) == (n2 : Int)) = false := by simp; omega
    have hb' : ((n1 : Int) != (n2 : Int)) = true := by simp; omega
    have HN := Lib.hid hn; clear hn
    go_enter Try.func106, Try.ntmps106
    go_wp2
    go_ret
    have : xs ≠ ys := fun h => HN.out (by rw [← E1.out, ← E2.out, h])
    exact ⟨ret_bool (by simp [this]), Ext.refl _⟩
set_option maxRecDepth 100000 in
set_option maxHeartbeats 1000000 in
theorem szSegmentS (v : Value) (ds : List DSegment) (left : Int) (w : World) (h : SegmentS w.heap.size w v ds) (h0 : 0 ≤ left) (hl : left ≤ 1048576) :
    Calls Try.prog 101 #[v, I left] w fun e w' => e = .returned (I (szR (totS (fun y => y.hops.length) ds) left)) ∧ Ext w w' := by
  obtain ⟨A, n, c, rfl, hl1, hn1, hm1, -⟩ := id h
  unfold maxLen at hm1
  subst hl1
  have H := Lib.hid h; clear h
  have HT : Hid (totS (fun y => y.hops.length) ds = ds.length + (ds.map fun y => y.hops.length).sum) := rfl
  by_cases hlt : left < (ds.length : Int)
  · have HF := Lib.hid (szR_neg (t := totS (fun y => y.hops.length) ds) (left := left) (by rw [HT.out]; omega))
    go_enter Try.func101, Try.ntmps101
    go_wp2
    go_ret
    exact ⟨ret_int HF.out.symm, Ext.refl _⟩
  · go_enter Try.func101, Try.ntmps101
    go_wp2
    go_loopw [1, 5] (fun l i wr => ∃ (k : Nat) (z : Int), k ≤ ds.length ∧ i = I k ∧ l = I z ∧ z = left - ds.length - (((ds.take k).map fun y => y.hops.length).sum : Nat) ∧ 0 ≤ z ∧ Ext w wr) (fun _ i _ => ds.length - (intOf i).toNat)
    case atStart => exact ⟨0, left - ds.length, by omega, rfl, rfl, by simp, by omega, Ext.refl _⟩
    case round =>
      obtain ⟨k, z, hk, rfl, rfl, hz, hz0, he⟩ := hrel
      have hzl : z ≤ 1048576 := by omega
      have HZ := Lib.hid hz; clear hz
      have HE := Lib.hid he; clear he
      by_cases hkn : k < ds.length
      · obtain ⟨b, off, rfl, hbb, _, hc⟩ := (H.out.ext HE.out).at_ hkn
        have HS := Lib.hid (sum_take (fun y => y.hops.length) ds k hkn)
        have HS2 := Lib.hid (sum_take_le (fun y => y.hops.length) ds (k + 1))
        generalize ds[k] = x at *
        obtain ⟨A2, n2, c2, hc0, hc1, hc2, s2⟩ := hc
        have S2 := Lib.hid s2; clear s2
        go_wp2_with fail
        refine (szSegment _ x z _ (by exact ⟨_, _, _, rfl, S2.out⟩) (by omega) (by omega)).mono ?_
        rintro e w1 ⟨rfl, he1⟩
        by_cases hx : z < ((x.hops.length : Nat) : Int)
        · rw [szR_neg hx]
          go_wp2_with fail
          go_ret
          refine ⟨ret_int (szR_neg ?_).symm, HE.out.trans he1⟩
          rw [HT.out]
          have h1 := HZ.out; have h2 := HS.out; have h3 := HS2.out
          omega
        · rw [szR_pos (by omega)]
          go_wp2_with fail
          go_roundw
          case rel =>
            refine ⟨k + 1, z - ((x.hops.length : Nat) : Int), by omega, by go_num, rfl, ?_, by omega, HE.out.trans he1⟩
            rw [HS.out, HZ.out]
            omega
          case measure => simp [intOf]; omega
      · go_wp2_with fail
        go_ret
        obtain rfl : k = ds.length := by omega
        have h1 := HZ.out
        rw [List.take_length] at h1
        refine ⟨ret_int ?_, HE.out⟩
        rw [szR_pos (by rw [HT.out]; omega), HT.out, h1]
        omega
/-- How many numbers an element takes, and the element with its numbers from q on. -/
def SegmentCnt (x : DSegment) : Nat := 2 + 5 * x.hops.length
def SegmentNumE (q : Nat) (x : DSegment) : DSegment := ⟨(q : Int), (q : Int) + 1, (HopNum (q + 2) x.hops.length)⟩
theorem SegmentCnt_le (x : DSegment) : SegmentCnt x ≤ 10 + 10 * (x.hops.length) := by
  unfold SegmentCnt
  omega
theorem SegmentCnt_sum (l : List DSegment) : (l.map SegmentCnt).sum ≤ 10 * (totS (fun y => y.hops.length) l) := cnt_le (fun x => SegmentCnt_le x) l
set_option maxRecDepth 100000 in
set_option maxHeartbeats 1000000 in
theorem markSegmentS_row (v : Value) (xs : List DSegment) (q : Nat) (qi : Int) (w : World) (cs : List Value) (fp : List Nat) (ho : w.ownsRow 0 31 3 v xs.length cs) (hl : OL SegmentOC 3 w xs fp cs) (hn : (v.ownBlock.toList ++ fp).Nodup) (hqi : qi = (q : Int)) (hq : q + (xs.map SegmentCnt).sum ≤ 1000000000000000) :
    Calls Try.prog 109 #[v, I qi] w fun e w' => e = .returned (I ((q + (xs.map SegmentCnt).sum : Nat) : Int)) ∧ (∃ cs', w'.ownsRow 0 31 3 v xs.length cs' ∧ OL SegmentOC 3 w' (numS SegmentNumE SegmentCnt q xs) fp cs') ∧ OutF (v.ownBlock.toList ++ fp) w w' := by
  subst hqi
  rcases Own.cases (hi := w.heap.size) ⟨ho, fun k hk => (ho.lt k hk).2⟩ with ⟨rfl, h0, hx⟩ | ⟨g, cap, rest, rfl, h1, h2, hb, hlc, hnn, hm, hs⟩
  · obtain rfl : xs = [] := List.eq_nil_of_length_eq_zero h0
    subst hx
    have HL := Lib.hid hl; clear hl ho hn h0
    go_enter Try.func109, Try.ntmps109
    go_wp2
    go_loop [1, 5] (fun k i => k = I q ∧ i = I 0) (fun _ _ => 0)
    case atStart => exact ⟨rfl, rfl⟩
    case round =>
      obtain ⟨rfl, rfl⟩ := hrel
      go_wp2
      go_ret
      exact ⟨rfl, ⟨[], World.ownsRow_nil _ _ _ _, HL.out⟩, OutF.refl _ _⟩
  · have hnd : (g :: fp).Nodup := by simpa [Value.ownBlock] using hn
    have M0 := Lib.hid (MInv.start (f := SegmentNumE) (c := SegmentCnt) (q := q) hb hl)
    have HND := Lib.hid hnd
    have HS := Lib.hid hs
    have HLC := Lib.hid hl.len
    clear ho hl hn hb hlc hs hnd
    unfold maxLen at hm
    go_enter Try.func109, Try.ntmps109
    go_wp2
    go_loopw [1, 5] (fun k i wr => ∃ j p : Nat, j ≤ xs.length ∧ k = I p ∧ i = I j ∧ MInv SegmentOC 3 SegmentNumE SegmentCnt 31 g rest fp xs q w wr j p) (fun _ i _ => xs.length - (intOf i).toNat)
    case atStart => exact ⟨0, q, by omega, rfl, rfl, M0.out⟩
    case round =>
      obtain ⟨j, p, hj, rfl, rfl, hM⟩ := hrel
      have HM := Lib.hid hM; clear hM M0
      by_cases hlt : j < xs.length
      · have hpb : p + SegmentCnt xs[j] ≤ 1000000000000000 := by
          have h1 := HM.out.1
          have h2 := sum_take SegmentCnt xs j hlt
          have h3 := sum_take_le SegmentCnt xs (j + 1)
          omega
        obtain ⟨f1, pre, post, c1, hoc, hpl, hbl, hg, hf, hgo⟩ := HM.out.step SegmentOC.keeps HND.out hlt
        have HGO := Lib.hid hgo; clear hgo
        have HF := Lib.hid hf; clear hf
        generalize xs[j] = x at *
        unfold SegmentCnt at hpb
        obtain ⟨u2, rfl, r2, rfl⟩ := hoc
        have R2 := Lib.hid r2; clear r2
        obtain ⟨A2, n2, c2, hu2⟩ := ownsRow_slice R2.out
        subst hu2
        have G2 : Hid (g ∉ (Value.slice A2 n2 c2).ownBlock.toList) := fun hm => hg (by first | exact hm | (simp only [List.mem_append] at hm ⊢; simp [hm]))
        clear hg
        have HPL := Lib.hid hpl; clear hpl
        have B0 := Lib.hid hbl; clear hbl
        simp only [List.cons_append, List.nil_append] at B0
        have lg : g < wr.heap.size := B0.out.lt
        obtain ⟨hu0, hu1, hu2⟩ := cells_at3 B0.out HPL.out
        have hf0 := B0.out.frozen (j * 3)
        have hf1 := B0.out.frozen (j * 3 + 1)
        have hf2 := B0.out.frozen (j * 3 + 2)
        go_wp2_with fail
        refine (markHopS_row _ x.hops (p + 2) ((p : Int) + 1 + 1) _ (by exact ownsRow_set (ownsRow_set (R2.out) G2.out) G2.out) (by omega) (by omega)).mono ?_
        rintro e w2 ⟨rfl, r2, t2⟩
        have R2' := Lib.hid r2; clear r2
        have T2 := Lib.hid t2; clear t2
        have B2' := Blk.outF (Blk.set_ (Blk.set_ (B0.out) (j * 3) (I ((p : Int)))) (j * 3 + 1) (I ((p : Int) + 1))) T2.out G2.out
        have B2 : Hid (Blk w2 g 31 (pre ++ (I ((p : Int)) :: I ((p : Int) + 1) :: .slice A2 n2 c2 :: post))) := by
          unfold Hid
          have h := B2'
          rw [← HPL.out] at h
          simpa using h
        clear B2'
        have z2 := T2.out.size
        simp only [World.size_setCell] at z2
        have lg2 : g < w2.heap.size := by omega
        obtain ⟨hv2_0, hv2_1, hv2_2⟩ := cells_at3 B2.out HPL.out
        have hg2_0 := B2.out.frozen (j * 3)
        have hg2_1 := B2.out.frozen (j * 3 + 1)
        have hg2_2 := B2.out.frozen (j * 3 + 2)
        have hOC : SegmentOC w2 ((Value.slice A2 n2 c2).ownBlock.toList) [I ((p : Int)), I ((p : Int) + 1), .slice A2 n2 c2] (SegmentNumE p x) := ⟨_, rfl, (by unfold SegmentNumE; dsimp only; rw [HopNum_len]; exact R2'.out), rfl⟩
        have HOC := Lib.hid hOC; clear hOC
        have hOU : OutF (g :: ((Value.slice A2 n2 c2).ownBlock.toList)) wr w2 := (by repeat (first | (with_reducible exact OutF.refl _ _) | (with_reducible refine OutF.setCell ?_ ?ge _; case ge => simp) | (with_reducible refine OutF.trans ?_ (T2.out.mono (fun x hx => List.mem_cons_of_mem _ (by first | exact hx | (simp only [List.mem_append] at hx ⊢; simp [hx])))))))
        have HOU := Lib.hid hOU; clear hOU
        go_wp2_with fail
        go_roundw
        case rel =>
          exact ⟨j + 1, p + SegmentCnt x, by omega, by simp only [SegmentCnt, Value.int.injEq, true_and]; omega, by go_num, HGO.out _ _ HOC.out rfl B2.out HOU.out⟩
        case measure => simp [intOf]; omega
      · go_wp2_with fail
        go_ret
        obtain rfl : j = xs.length := by omega
        obtain ⟨hp, cs', hb', hl', ho'⟩ := HM.out.stop
        subst hp
        have hs := HS.out
        have e1 : cs'.length = cs.length := by rw [hl'.len, numS_len, HLC.out]
        refine ⟨rfl, ⟨cs', row_of_blk hb' (by rw [hl'.len, numS_len]) hnn (by unfold maxLen; omega) (by rw [← hs, List.length_append, List.length_append, e1]), hl'⟩, by simpa [Value.ownBlock] using ho'⟩
theorem markSegmentS (v : Value) (xs : List DSegment) (q lo hi : Nat) (w : World) (h : SegmentSO lo hi w v xs) (hq : q + (xs.map SegmentCnt).sum ≤ 1000000000000000) :
    Calls Try.prog 109 #[v, I q] w fun e w' => e = .returned (I ((q + (xs.map SegmentCnt).sum : Nat) : Int)) ∧ SegmentSO lo hi w' v (numS SegmentNumE SegmentCnt q xs) ∧ Out lo hi w w' :=
  calls_NO numS_len h fun cs fp h1 h2 h3 => markSegmentS_row v xs q q w cs fp h1 h2 h3 rfl hq
set_option maxRecDepth 100000 in
set_option maxHeartbeats 1000000 in
theorem heldSegmentS (v : Value) (xs : List DSegment) (q : Nat) (w : World) (h : SegmentS w.heap.size w v (numS SegmentNumE SegmentCnt q xs)) (hq : q + (xs.map SegmentCnt).sum ≤ 1000000000000000) :
    Calls Try.prog 110 #[v, I q] w fun e w' => e = .returned (I ((q + (xs.map SegmentCnt).sum : Nat) : Int)) ∧ Ext w w' := by
  obtain ⟨A, n', c, rfl, hl, hn, hm, -⟩ := id h
  rw [numS_len] at hl
  subst hl
  have H := Lib.hid h; clear h
  unfold maxLen at hm
  go_enter Try.func110, Try.ntmps110
  go_wp2
  go_loopw [1, 5] (fun k i wr => ∃ j p : Nat, j ≤ xs.length ∧ p = q + ((xs.take j).map SegmentCnt).sum ∧ k = I p ∧ i = I j ∧ Ext w wr) (fun _ i _ => xs.length - (intOf i).toNat)
  case atStart => exact ⟨0, q, by omega, by simp, rfl, rfl, Ext.refl _⟩
  case round =>
    obtain ⟨j, p, hj, hp, rfl, rfl, he⟩ := hrel
    have HPQ := Lib.hid hp; clear hp
    by_cases hlt : j < xs.length
    · have hpb : p + SegmentCnt xs[j] ≤ 1000000000000000 := by
        have h1 := HPQ.out
        have h2 := sum_take SegmentCnt xs j hlt
        have h3 := sum_take_le SegmentCnt xs (j + 1)
        omega
      have HPN : Hid (p + SegmentCnt xs[j] = q + ((xs.take (j + 1)).map SegmentCnt).sum) := by
        unfold Hid
        rw [sum_take SegmentCnt xs j hlt, HPQ.out]
        omega
      obtain ⟨b, off, rfl, hb, hk, hc⟩ := (H.out.ext he).at_ hlt
      rw [numS_get _ _ _ hlt, ← HPQ.out] at hc
      generalize xs[j] = x at *
      unfold SegmentCnt at hpb HPN
      obtain ⟨A2, n2, c2, hc0, hc1, hc2, s2⟩ := hc
      simp only [SegmentNumE] at hc0 hc1 hc2 s2
      have S2 := Lib.hid s2; clear s2
      have i0 : (0 : Int) ≤ (p : Int) := by omega
      go_wp2_with fail
      refine (heldHopS_at _ x.hops.length (p + 2) _ _ (by exact S2.out.ext (by repeat (first | (with_reducible exact Ext.refl _) | (with_reducible assumption) | (with_reducible refine Ext.alloc ?_ _) | (with_reducible refine Ext.drew ?_) | (with_reducible refine Ext.drewN ?_ _) | (with_reducible refine Ext.setCell (p := _) ?_ ?ge _; case ge => (dsimp only; omega)) | (with_reducible refine Ext.trans ?_ (by with_reducible assumption))))) (by omega) (by omega)).mono ?_
      rintro e w2 ⟨rfl, e2⟩
      obtain ⟨hc2_, -, hz2⟩ := e2.facts
      have i3 : (0 : Int) ≤ ((p + 2 + 5 * x.hops.length : Nat) : Int) := by omega
      have j3 : ¬ ((p + 2 + 5 * x.hops.length : Nat) : Int) < 0 := by omega
      go_wp2_with fail
      go_roundw
      case rel => exact ⟨j + 1, _, by omega, HPN.out, by simp only [Value.int.injEq, true_and]; omega, by go_num, (by repeat (first | (with_reducible exact Ext.refl _) | (with_reducible assumption) | (with_reducible refine Ext.alloc ?_ _) | (with_reducible refine Ext.drew ?_) | (with_reducible refine Ext.drewN ?_ _) | (with_reducible refine Ext.setCell (p := _) ?_ ?ge _; case ge => (dsimp only; omega)) | (with_reducible refine Ext.trans ?_ (by with_reducible assumption))))⟩
      case measure => simp [intOf]; omega
    · go_wp2_with fail
      go_ret
      obtain rfl : j = xs.length := by omega
      exact ⟨ret_int (by have := HPQ.out; rw [List.take_length] at this; omega), (by repeat (first | (with_reducible exact Ext.refl _) | (with_reducible assumption) | (with_reducible refine Ext.alloc ?_ _) | (with_reducible refine Ext.drew ?_) | (with_reducible refine Ext.drewN ?_ _) | (with_reducible refine Ext.setCell (p := _) ?_ ?ge _; case ge => (dsimp only; omega)) | (with_reducible refine Ext.trans ?_ (by with_reducible assumption))))⟩
theorem heldSegmentS_at (v : Value) (xs : List DSegment) (q : Nat) (qi : Int) (w : World) (h : SegmentS w.heap.size w v (numS SegmentNumE SegmentCnt q xs)) (hqi : qi = (q : Int)) (hq : q + (xs.map SegmentCnt).sum ≤ 1000000000000000) :
    Calls Try.prog 110 #[v, I qi] w fun e w' => e = .returned (I ((q + (xs.map SegmentCnt).sum : Nat) : Int)) ∧ Ext w w' := by
  subst hqi
  exact heldSegmentS v xs q w h hq
end Go.Proofs.Ytcalbcjheenmgaa
