/- The laws' helpers on Segment: to.. (copy), eq.. (compare), sz.. (count), mark.. and held... Printed by gen.py. -/
import Derived.Test.YtmnipolfdaajmaaHHop
import Derived.Test.YtmnipolfdaajmaaNest
namespace Go.Proofs.Ytmnipolfdaajmaa
open Go.RowKit
set_option linter.unusedVariables false
theorem info_Segment : (Try.prog.info? 30).map (fun i => (i.zero, i.size, i.bytes)) = some (some (.agg #[.int .i64 0, .int .i64 0, .slice none 0 0]), 3, 40) := by kernel_rfl

def SegmentO (lo hi : Nat) (w : World) (v : Value) (x : DSegment) : Prop := ∃ u2, v = .agg #[I x.ts, I x.beta, u2] ∧ Own 124 5 lo hi w u2 x.hops.length (x.hops.flatMap HopC) ∧ lo ≤ hi
theorem SegmentO.keep {lo hi : Nat} {w w' : World} {v : Value} {x : DSegment} (h : SegmentO lo hi w v x) (hk : ∀ k, lo ≤ k → k < hi → k < w.heap.size → w'.heap[k]? = w.heap[k]?) : SegmentO lo hi w' v x := by
  obtain ⟨u2, e, o2, l0⟩ := h
  exact ⟨u2, e, o2.keep fun k h1 h2 h3 => hk k (by omega) (by omega) h3, l0⟩
theorem SegmentO.v {lo hi : Nat} {w : World} {v : Value} {x : DSegment} (h : SegmentO lo hi w v x) : SegmentV hi w v x := by
  obtain ⟨u2, e, o2, l0⟩ := h
  have s2 := (o2.sl (At := HopAt) HopC.len (by omega) HopC.at_)
  obtain ⟨A2, n2, c2, rfl, _⟩ := id s2
  exact ⟨_, _, _, e, s2.keep HopAt.keeps (by omega) (fun _ _ => rfl)⟩
theorem SegmentO.shape {lo hi : Nat} {w : World} {v : Value} {x : DSegment} (h : SegmentO lo hi w v x) : ∃ A2 n2 c2, v = .agg #[I x.ts, I x.beta, .slice A2 n2 c2] := by
  obtain ⟨A2, n2, c2, e, _⟩ := h.v
  exact ⟨A2, n2, c2, e⟩
theorem SegmentO.ext {lo hi : Nat} {w w' : World} {v : Value} {x : DSegment} (h : SegmentO lo hi w v x) (he : Ext w w') (hhi : hi ≤ w.heap.size) : SegmentO lo hi w' v x := h.keep fun k _ _ h3 => he.same k h3
theorem SegmentO.drew {lo hi : Nat} {w : World} {v : Value} {x : DSegment} (h : SegmentO lo hi w v x) : SegmentO lo hi w.drew v x := h.keep fun _ _ _ _ => rfl
theorem SegmentO.out {lo hi lo' hi' : Nat} {w w' : World} {v : Value} {x : DSegment} (h : SegmentO lo hi w v x) (ho : Out lo' hi' w w') (hd : hi' ≤ lo ∨ hi ≤ lo') : SegmentO lo hi w' v x := h.keep fun k h1 h2 h3 => ho.block k h3 (by omega)
theorem SegmentO_rd {lo hi : Nat} {w : World} {v : Value} {x : DSegment} (h : SegmentO lo hi w v x) (hhi : hi ≤ w.heap.size) : SegmentV w.heap.size w v x := h.v.keep hhi (fun _ _ => rfl)
set_option maxRecDepth 100000 in
set_option maxHeartbeats 1000000 in
theorem toSegment (v : Value) (x : DSegment) (w : World) (h : SegmentV w.heap.size w v x) (hn : x.hops.length ≤ 16777216) :
    Calls Try.prog 17 #[v] w fun e w' => ∃ v', e = .returned v' ∧ SegmentO w.heap.size w'.heap.size w' v' x ∧ Ext w w' := by
  obtain ⟨A2, n2, c2, rfl, s2⟩ := h
  have S2 := Lib.hid s2; clear s2
  go_enter Try.func17, Try.ntmps17
  go_wp2_with fail
  refine (toHopS _ x.hops _ (by exact S2.out.ext (by repeat (first | (with_reducible exact Ext.refl _) | (with_reducible assumption) | (with_reducible refine Ext.alloc ?_ _) | (with_reducible refine Ext.drew ?_) | (with_reducible refine Ext.drewN ?_ _) | (with_reducible refine Ext.setCell (p := _) ?_ ?ge _; case ge => (dsimp only; omega)) | (with_reducible refine Ext.trans ?_ (by with_reducible assumption))))) (by omega)).mono ?_
  rintro e w2 ⟨v2, rfl, ho2, he2⟩
  obtain ⟨hc2, hf2, hz2⟩ := he2.facts
  simp only [World.size_alloc] at hz2 hc2 hf2
  have la2 : w.heap.size < w2.heap.size := by omega
  have lb2 : w.heap.size + 1 < w2.heap.size := by omega
  have lc2 : w.heap.size + 1 + 1 < w2.heap.size := by omega
  simp only [World.size_alloc] at ho2
  have O2 := Lib.hid ho2; clear ho2
  obtain ⟨a2, m2, q2, hv2⟩ : ∃ a n c, v2 = .slice a n c := O2.out.slice
  subst hv2
  go_wp2_with fail
  refine bodyPost_ret (v := .agg #[I x.ts, I x.beta, .slice a2 m2 q2]) (by simp [results, Try.results17, go_sem, *]) rfl ⟨_, rfl, ?_, ?_⟩
  · simp only [World.size_setCell]
    refine ⟨_, rfl, Own.more (lo := w.heap.size + 1 + 1 + 1) (hi := w2.heap.size) (by repeat (first | (with_reducible exact O2.out) | (with_reducible refine Own.alloc ?_ _) | (with_reducible refine Own.setCell (p := _) ?_ (.inl ?ge) _; case ge => (first | omega | (dsimp only; omega) | (simp only [World.size_setCell]; omega) | (simp only [World.size_alloc]; omega))) | (with_reducible refine Own.ext ?_ (by with_reducible assumption) ?ge; case ge => (first | omega | (dsimp only; omega) | (simp only [World.size_setCell]; omega) | (simp only [World.size_alloc]; omega))))) (by omega) (by omega), by omega⟩
  · exact (by repeat (first | (with_reducible exact Ext.refl _) | (with_reducible assumption) | (with_reducible refine Ext.alloc ?_ _) | (with_reducible refine Ext.drew ?_) | (with_reducible refine Ext.drewN ?_ _) | (with_reducible refine Ext.setCell (p := _) ?_ ?ge _; case ge => (dsimp only; omega)) | (with_reducible refine Ext.trans ?_ (by with_reducible assumption))))
set_option maxRecDepth 100000 in
set_option maxHeartbeats 1000000 in
theorem eqSegment (v1 v2 : Value) (x y : DSegment) (w : World) (h1 : SegmentV w.heap.size w v1 x) (h2 : SegmentV w.heap.size w v2 y) :
    Calls Try.prog 20 #[v1, v2] w fun e w' => e = .returned (.bool (decide (x = y))) ∧ Ext w w' := by
  obtain ⟨A12, n12, c12, rfl, s12⟩ := h1
  obtain ⟨A22, n22, c22, rfl, s22⟩ := h2
  have S12 := Lib.hid s12; clear s12
  have S22 := Lib.hid s22; clear s22
  go_enter Try.func20, Try.ntmps20
  go_wp2_with fail
  all_goals (try (go_ret; exact ⟨ret_bool (by simp_all [DSegment.eq_iff]), (by repeat (first | (with_reducible exact Ext.refl _) | (with_reducible assumption) | (with_reducible refine Ext.alloc ?_ _) | (with_reducible refine Ext.drew ?_) | (with_reducible refine Ext.drewN ?_ _) | (with_reducible refine Ext.setCell (p := _) ?_ ?ge _; case ge => (dsimp only; omega)) | (with_reducible refine Ext.trans ?_ (by with_reducible assumption))))⟩))
  refine (eqHopS _ _ x.hops y.hops _ (by exact S12.out.ext (by repeat (first | (with_reducible exact Ext.refl _) | (with_reducible assumption) | (with_reducible refine Ext.alloc ?_ _) | (with_reducible refine Ext.drew ?_) | (with_reducible refine Ext.drewN ?_ _) | (with_reducible refine Ext.setCell (p := _) ?_ ?ge _; case ge => (dsimp only; omega)) | (with_reducible refine Ext.trans ?_ (by with_reducible assumption))))) (by exact S22.out.ext (by repeat (first | (with_reducible exact Ext.refl _) | (with_reducible assumption) | (with_reducible refine Ext.alloc ?_ _) | (with_reducible refine Ext.drew ?_) | (with_reducible refine Ext.drewN ?_ _) | (with_reducible refine Ext.setCell (p := _) ?_ ?ge _; case ge => (dsimp only; omega)) | (with_reducible refine Ext.trans ?_ (by with_reducible assumption)))))).mono ?_
  rintro e w3 ⟨rfl, he3⟩
  obtain ⟨hc3, hf3, hz3⟩ := he3.facts
  go_wp2_with fail
  all_goals
    go_ret
    exact ⟨ret_bool (by simp_all [DSegment.eq_iff]), (by repeat (first | (with_reducible exact Ext.refl _) | (with_reducible assumption) | (with_reducible refine Ext.alloc ?_ _) | (with_reducible refine Ext.drew ?_) | (with_reducible refine Ext.drewN ?_ _) | (with_reducible refine Ext.setCell (p := _) ?_ ?ge _; case ge => (dsimp only; omega)) | (with_reducible refine Ext.trans ?_ (by with_reducible assumption))))⟩
set_option maxRecDepth 100000 in
set_option maxHeartbeats 1000000 in
theorem szSegment (v : Value) (x : DSegment) (left : Int) (w : World) (h : SegmentV w.heap.size w v x) (h0 : 0 ≤ left) (hl : left ≤ 1048576) :
    Calls Try.prog 15 #[v, I left] w fun e w' => e = .returned (I (szR (x.hops.length) left)) ∧ Ext w w' := by
  obtain ⟨A2, n2, c2, rfl, s2⟩ := h
  have S2 := Lib.hid s2; clear s2
  go_enter Try.func15, Try.ntmps15
  go_wp2_with fail
  refine (szHopS _ x.hops (left) _ (by exact S2.out.ext (by repeat (first | (with_reducible exact Ext.refl _) | (with_reducible assumption) | (with_reducible refine Ext.alloc ?_ _) | (with_reducible refine Ext.drew ?_) | (with_reducible refine Ext.drewN ?_ _) | (with_reducible refine Ext.setCell (p := _) ?_ ?ge _; case ge => (dsimp only; omega)) | (with_reducible refine Ext.trans ?_ (by with_reducible assumption))))) (by omega) (by omega)).mono ?_
  rintro e w1 ⟨rfl, he1⟩
  obtain ⟨hc1, hf1, hz1⟩ := he1.facts
  by_cases hlt0 : left < (((x.hops.length) : Nat) : Int)
  · rw [szR_neg hlt0]
    go_wp2_with fail
    go_ret
    exact ⟨ret_int (szR_neg (by omega)).symm, (by repeat (first | (with_reducible exact Ext.refl _) | (with_reducible assumption) | (with_reducible refine Ext.alloc ?_ _) | (with_reducible refine Ext.drew ?_) | (with_reducible refine Ext.drewN ?_ _) | (with_reducible refine Ext.setCell (p := _) ?_ ?ge _; case ge => (dsimp only; omega)) | (with_reducible refine Ext.trans ?_ (by with_reducible assumption))))⟩
  · rw [szR_pos (by omega)]
    go_wp2_with fail
    go_ret
    exact ⟨ret_int (by rw [szR_pos (by omega)] <;> omega), (by repeat (first | (with_reducible exact Ext.refl _) | (with_reducible assumption) | (with_reducible refine Ext.alloc ?_ _) | (with_reducible refine Ext.drew ?_) | (with_reducible refine Ext.drewN ?_ _) | (with_reducible refine Ext.setCell (p := _) ?_ ?ge _; case ge => (dsimp only; omega)) | (with_reducible refine Ext.trans ?_ (by with_reducible assumption))))⟩
/-- What marking from q on leaves. -/
def SegmentNum1 (q : Nat) (x : DSegment) : DSegment := { x with hops := (HopNum q x.hops.length) }
set_option maxRecDepth 100000 in
set_option maxHeartbeats 1000000 in
theorem markSegment (v : Value) (x : DSegment) (q lo hi : Nat) (w : World) (h : SegmentO lo hi w v x) (hhi : hi ≤ w.heap.size) (hq : (q + 5 * x.hops.length) ≤ 1000000000000000) :
    Calls Try.prog 21 #[v, I q] w fun e w' => e = .returned (I (((q + 5 * x.hops.length) : Nat) : Int)) ∧ SegmentO lo hi w' v (SegmentNum1 q x) ∧ Out lo hi w w' := by
  obtain ⟨u2, rfl, o2, l0⟩ := h
  have O2 := Lib.hid o2; clear o2
  obtain ⟨a2, k2, c2, hv2⟩ := O2.out.slice
  subst hv2
  go_enter Try.func21, Try.ntmps21
  go_wp2_with fail
  refine (markHopS _ x.hops q lo hi _ (by exact (by repeat (first | (with_reducible exact O2.out) | (with_reducible refine Own.ext ?_ (by with_reducible assumption) ?ge; case ge => omega) | (with_reducible refine Own.out ?_ (by with_reducible assumption) ?ge; case ge => omega) | (with_reducible refine Own.alloc ?_ _)))) (by omega)).mono ?_
  rintro e w2 ⟨rfl, p2, t2⟩
  have P2 := Lib.hid p2; clear p2
  have hc2 : ∀ k o, k < lo ∨ hi ≤ k → k < _ → w2.cell? ⟨k, o, none⟩ = _ := fun k o h1 h2 => World.cell?_of_block (a := ⟨k, o, none⟩) (t2.block k h2 (by omega))
  go_wp2_with fail
  go_ret
  have hOut : Out lo hi w w2 := (Out.trans (Out.of_ext (by repeat (first | (with_reducible exact Ext.refl _) | (with_reducible assumption) | (with_reducible refine Ext.alloc ?_ _) | (with_reducible refine Ext.drew ?_) | (with_reducible refine Ext.drewN ?_ _) | (with_reducible refine Ext.setCell (p := _) ?_ ?ge _; case ge => (dsimp only; omega)) | (with_reducible refine Ext.trans ?_ (by with_reducible assumption))))) (t2.mono (by omega) (by omega)))
  have Q2 : Own 124 5 lo hi w2 (.slice a2 k2 c2) x.hops.length ((HopNum q x.hops.length).flatMap HopC) := P2.out
  exact ⟨rfl, ⟨_, rfl, (by unfold SegmentNum1; dsimp only; rw [HopNum_len]; exact Q2), l0⟩, hOut⟩
/-- The cells cs of a Segment and the blocks that it owns. -/
def SegmentOC (w : World) (fp : List Nat) (cs : List Value) (x : DSegment) : Prop := ∃ u2, cs = [I x.ts, I x.beta, u2] ∧ w.ownsRow 0 124 5 u2 x.hops.length (x.hops.flatMap HopC) ∧ fp = u2.ownBlock.toList
theorem SegmentOC.keeps : OKeeps SegmentOC := by
  intro w w' fp cs x hk h
  obtain ⟨u2, e, r2, ef⟩ := h
  exact ⟨u2, e, ownsRow_keep r2 (fun b hb => hk b (by rw [ef]; simp [hb])), ef⟩
theorem SegmentOC.at_ (B : Nat) (w : World) (b o : Nat) (fp : List Nat) (cs : List Value) (x : DSegment) (h : SegmentOC w fp cs x) (hb : ∀ b ∈ fp, b < B) (hc : ∀ j u, cs[j]? = some u → w.cell? ⟨b, o + j, none⟩ = some u) : SegmentAt B w b o x := by
  obtain ⟨u2, rfl, r2, ef⟩ := h
  have s2 : HopS B w u2 x.hops := Own.sl (lo := 0) (n := x.hops.length) (At := HopAt) ⟨r2, fun k hk => hb k (by rw [ef]; simp [hk])⟩ HopC.len (by omega) HopC.at_
  obtain ⟨A2, n2, c2, e2, _⟩ := id s2
  subst e2
  exact ⟨A2, n2, c2, hc 0 _ rfl, hc 1 _ rfl, hc 2 _ rfl, s2⟩
theorem SegmentOC.len {w : World} {fp : List Nat} {cs : List Value} {x : DSegment} (h : SegmentOC w fp cs x) : cs.length = 3 := by
  obtain ⟨u2, rfl, _⟩ := h
  rfl
theorem SegmentO.to_oc {lo hi : Nat} {w : World} {v : Value} {x : DSegment} (h : SegmentO lo hi w v x) : ∃ a2 k2 q2 fp, v = .agg #[I x.ts, I x.beta, .slice a2 k2 q2] ∧ SegmentOC w fp [I x.ts, I x.beta, .slice a2 k2 q2] x ∧ fp.Nodup ∧ ∀ b ∈ fp, lo ≤ b ∧ b < hi := by
  obtain ⟨u2, e, o2, l0⟩ := h
  obtain ⟨a2, k2, q2, hu2⟩ : ∃ a n c, u2 = .slice a n c := o2.slice
  have b2 : ∀ b ∈ u2.ownBlock.toList, lo ≤ b ∧ b < hi := fun b hb => ⟨(o2.1.lt b (by simpa using hb)).1, o2.2 b (by simpa using hb)⟩
  have d2 : (u2.ownBlock.toList).Nodup := by cases u2.ownBlock <;> simp
  subst hu2
  exact ⟨a2, k2, q2, (Value.slice a2 k2 q2).ownBlock.toList, e, ⟨_, rfl, (o2.more (Nat.zero_le _) (Nat.le_refl _)).1, rfl⟩, d2, b2⟩
/-- A []Segment of the call's own. -/
abbrev SegmentSO (lo hi : Nat) (w : World) (v : Value) (xs : List DSegment) : Prop := NO SegmentOC 30 3 lo hi w v xs
theorem SegmentSO_rd {lo hi : Nat} {w : World} {v : Value} {xs : List DSegment} (h : SegmentSO lo hi w v xs) (hhi : hi ≤ w.heap.size) : SegmentS w.heap.size w v xs := (NO.sl (At := SegmentAt) h (fun _ => rfl) SegmentOC.at_).keep SegmentAt.keeps hhi (fun _ _ => rfl)
theorem SegmentSO_ext {lo hi : Nat} {w w' : World} {v : Value} {xs : List DSegment} (h : SegmentSO lo hi w v xs) (he : Ext w w') (_hhi : hi ≤ w.heap.size) : SegmentSO lo hi w' v xs := NO.keep SegmentOC.keeps h fun k _ _ h3 => he.same k h3
theorem SegmentSO_out {lo hi : Nat} {lo' hi' : Nat} {w w' : World} {v : Value} {xs : List DSegment} (h : SegmentSO lo hi w v xs) (ho : Out lo' hi' w w') (hd : hi' ≤ lo ∨ hi ≤ lo') : SegmentSO lo hi w' v xs := NO.keep SegmentOC.keeps h fun k h1 h2 h3 => ho.block k h3 (by omega)
theorem SegmentSO_drew {lo hi : Nat} {w : World} {v : Value} {xs : List DSegment} (h : SegmentSO lo hi w v xs) : SegmentSO lo hi w.drew v xs := NO.keep SegmentOC.keeps h fun _ _ _ _ => rfl
theorem SegmentSO_alloc {lo hi : Nat} {w : World} {v : Value} {xs : List DSegment} (h : SegmentSO lo hi w v xs) (o : Obj) : SegmentSO lo hi (w.alloc o) v xs := NO.keep SegmentOC.keeps h fun k _ _ h3 => Below.heap_alloc w o k h3
theorem SegmentSO_setCell {lo hi : Nat} {w : World} {v : Value} {xs : List DSegment} (h : SegmentSO lo hi w v xs) {p : Addr} (hp : p.block < lo ∨ hi ≤ p.block) (u : Value) : SegmentSO lo hi (w.setCell p u) v xs := NO.keep SegmentOC.keeps h fun k h1 h2 _ => Below.heap_setCell _ _ _ _ (by omega)
theorem SegmentSO_keep {lo hi : Nat} {w w' : World} {v : Value} {xs : List DSegment} (h : SegmentSO lo hi w v xs) (hk : ∀ k, lo ≤ k → k < hi → k < w.heap.size → w'.heap[k]? = w.heap[k]?) : SegmentSO lo hi w' v xs := NO.keep SegmentOC.keeps h hk
set_option maxRecDepth 100000 in
set_option maxHeartbeats 1000000 in
theorem toSegmentS (v : Value) (ds : List DSegment) (w : World) (h : SegmentS w.heap.size w v ds) (hn : totS (fun y => y.hops.length) ds ≤ 16777216) :
    Calls Try.prog 88 #[v] w fun e w' => ∃ v', e = .returned v' ∧ SegmentSO w.heap.size w'.heap.size w' v' ds ∧ Ext w w' := by
  obtain ⟨A, n, c, rfl, hl, -⟩ := id h
  subst hl
  have hn : ds.length + (ds.map fun y => y.hops.length).sum ≤ 16777216 := hn
  have hmk := run_mk (P := Try.prog) 62 30 (.agg #[.int .i64 0, .int .i64 0, .slice none 0 0]) 3 40 Try.underlying62 info_Segment ds.length (by omega) (by omega)
  have hml := mkRow_len (.agg #[.int .i64 0, .int .i64 0, .slice none 0 0]) (ds.length * 3)
  generalize mkRow (.agg #[.int .i64 0, .int .i64 0, .slice none 0 0]) (ds.length * 3) = mr at *
  have H := Lib.hid h; clear h
  have HM := Lib.hid hml; clear hml
  go_enter Try.func88, Try.ntmps88
  go_wp2
  go_loopw [4] (fun i wr => ∃ (k : Nat) (cs rest : List Value) (fp : List Nat), k ≤ ds.length ∧ i = I k ∧ Blk wr w.heap.size 30 (cs ++ rest) ∧ OL SegmentOC 3 wr (ds.take k) fp cs ∧ (w.heap.size :: fp).Nodup ∧ (∀ b ∈ fp, w.heap.size < b ∧ b < wr.heap.size) ∧ rest.length = (ds.length - k) * 3 ∧ Ext w wr) (fun i _ => ds.length - (intOf i).toNat)
  case atStart => exact ⟨0, [], mr.toList, [], by omega, rfl, by simpa using Blk.new w 30 mr.toList, ⟨rfl, rfl⟩, by simp, by simp, by simpa using HM.out, (Ext.refl _).alloc _⟩
  case round =>
    obtain ⟨k, cs, rest, fp, hk, rfl, hb, hol, hnd, hbd, hr, he⟩ := hrel
    have HE := Lib.hid he
    have HB := Lib.hid hb; clear hb
    have HOL := Lib.hid hol; clear hol
    have HND := Lib.hid hnd; clear hnd
    have HBD := Lib.hid hbd; clear hbd
    by_cases hlt : k < ds.length
    · obtain ⟨b, off, rfl, hbb, _, hc⟩ := (H.out.ext he).at_ hlt
      have hsm := sum_mem (fun y => y.hops.length) ds k hlt
      obtain ⟨r0, r1, r2, rest, rfl⟩ : ∃ r0 r1 r2 rest', rest = r0 :: r1 :: r2 :: rest' := by
        match rest, hr with
        | r0 :: r1 :: r2 :: rest, _ => exact ⟨r0, r1, r2, rest, rfl⟩
        | [], h => simp at h; omega
        | [_], h => simp at h; omega
        | [_, _], h => simp at h; omega
      have hlr : rest.length = (ds.length - (k + 1)) * 3 := by simp only [List.length_cons] at hr; omega
      have HR := Lib.hid hlr; clear hr he hlr
      have HX := Lib.hid (take_snoc ds k hlt)
      generalize ds[k] = x at *
      obtain ⟨A2, n2, c2, hc0, hc1, hc2, s2⟩ := hc
      have S2 := Lib.hid s2; clear s2
      have hp : cs.length = k * 3 := by rw [HOL.out.len, List.length_take, Nat.min_eq_left hk]
      have HP := Lib.hid hp; clear hp
      have hwg : w.heap.size < wr.heap.size := HB.out.lt
      go_wp2_with fail
      refine (toSegment _ x _ (by exact ⟨_, _, _, rfl, S2.out⟩) (by omega)).mono ?_
      rintro e w1 ⟨v1, rfl, ho1, he1⟩
      obtain ⟨a2, k2, q2, f1, rfl, hoc, hn1, hb1⟩ := ho1.to_oc
      have HOC := Lib.hid hoc; have HN1 := Lib.hid hn1; have HB1F := Lib.hid hb1; clear hoc hn1 hb1 ho1
      have HB1 := Lib.hid (HB.out.below he1.below hwg)
      have hz1 := he1.size
      have HE1 := Lib.hid he1
      clear he1
      obtain ⟨hu0, hu1, hu2⟩ := cells_at3 HB1.out HP.out
      have hf0 := HB1.out.frozen (k * 3)
      have hf1 := HB1.out.frozen (k * 3 + 1)
      have hf2 := HB1.out.frozen (k * 3 + 2)
      go_wp2
      go_roundw
      case rel =>
        obtain ⟨g1, g2, g3⟩ := nest_step (w2 := (((w1.setCell ⟨w.heap.size, k * 3, none⟩ (I x.ts)).setCell ⟨w.heap.size, k * 3 + 1, none⟩ (I x.beta)).setCell ⟨w.heap.size, k * 3 + 2, none⟩ (.slice a2 k2 q2))) SegmentOC.keeps HOL.out HE1.out HOC.out rfl HBD.out HND.out HN1.out HB1F.out hwg (fun b hb => (Eq.trans (Below.heap_setCell _ ⟨w.heap.size, k * 3 + 2, none⟩ _ b hb) (Eq.trans (Below.heap_setCell _ ⟨w.heap.size, k * 3 + 1, none⟩ _ b hb) (Below.heap_setCell _ ⟨w.heap.size, k * 3, none⟩ _ b hb)))) (by simp only [World.size_setCell])
        refine ⟨k + 1, cs ++ [I x.ts, I x.beta, .slice a2 k2 q2], rest, fp ++ f1, by omega, by go_num, ?_, ?_, g2, g3, HR.out, ?_⟩
        · have := ((HB1.out.set_ (k * 3) (I x.ts)).set_ (k * 3 + 1) (I x.beta)).set_ (k * 3 + 2) (.slice a2 k2 q2)
          rw [set_at3 _ _ _ _ _ _ _ _ _ HP.out] at this
          simpa using this
        · rw [HX.out]
          exact g1
        · exact (((HE.out.trans HE1.out).setCell (by simp) _).setCell (by simp) _).setCell (by simp) _
      case measure => simp [intOf]; omega
    · have HR := Lib.hid hr; clear hr he
      go_wp2
      go_ret
      have e : k = ds.length := by omega
      have hr := HR.out
      subst e
      obtain rfl : rest = [] := List.eq_nil_of_length_eq_zero (by simpa using hr)
      have hb := HB.out
      have hol := HOL.out
      rw [List.append_nil] at hb
      rw [List.take_length] at hol
      exact ⟨_, rfl, ⟨cs, fp, Own.of_blk hb hol.len (by unfold maxLen; omega) (Nat.le_refl _) hb.lt, hol, by simpa [Value.ownBlock] using HND.out, fun b hb => ⟨by have := (HBD.out b hb).1; omega, (HBD.out b hb).2⟩⟩, HE.out⟩
set_option maxRecDepth 100000 in
set_option maxHeartbeats 1000000 in
theorem eqSegmentS (v1 v2 : Value) (xs ys : List DSegment) (w : World) (h1 : SegmentS w.heap.size w v1 xs) (h2 : SegmentS w.heap.size w v2 ys) :
    Calls Try.prog 90 #[v1, v2] w fun e w' => e = .returned (.bool (decide (xs = ys))) ∧ Ext w w' := by
  obtain ⟨A1, n1, c1, rfl, hl1, hn1, hm1, -⟩ := id h1
  obtain ⟨A2, n2, c2, rfl, hl2, hn2, hm2, -⟩ := id h2
  unfold maxLen at hm1 hm2
  have H1 := Lib.hid h1; have H2 := Lib.hid h2; have E1 := Lib.hid hl1; have E2 := Lib.hid hl2; clear h1 h2 hl1 hl2
  by_cases hn : n1 = n2
  · subst hn
    go_enter Try.func90, Try.ntmps90
    go_wp2
    go_loopw [5] (fun i wr => ∃ k : Nat, k ≤ n1 ∧ i = I k ∧ xs.take k = ys.take k ∧ Ext w wr) (fun i _ => n1 - (intOf i).toNat)
    case atStart => exact ⟨0, by omega, rfl, by simp, Ext.refl _⟩
    case round =>
      obtain ⟨k, hk, rfl, hq, he⟩ := hrel
      have HQ := Lib.hid hq; clear hq
      have HE := Lib.hid he; clear he
      by_cases hlt : k < n1
      · obtain ⟨b1, o1, rfl, hb1, hk1, hc1⟩ := (H1.out.ext HE.out).at_ hlt
        obtain ⟨b2, o2, rfl, hb2, hk2, hc2⟩ := (H2.out.ext HE.out).at_ hlt
        have i0 : (0 : Int) ≤ (k : Int) := by omega
        have i1 : (k : Int) < (n1 : Int) := by omega
        have X1 := Lib.hid (take_snoc xs k hk1)
        have X2 := Lib.hid (take_snoc ys k hk2)
        have hne : ¬ xs[k] = ys[k] → xs ≠ ys := fun hne h => hne (by subst h; rfl)
        have HN := Lib.hid hne; clear hne
        generalize xs[k] = x at *
        generalize ys[k] = y at *
        obtain ⟨A12, n12, c12, h10, h11, h12, s12⟩ := hc1
        obtain ⟨A22, n22, c22, h20, h21, h22, s22⟩ := hc2
        have S12 := Lib.hid s12; clear s12
        have S22 := Lib.hid s22; clear s22
        go_wp2_with fail
        go_region_held3 (fun W => wr.heap.size ≤ W.heap.size ∧ ∀ b o, b < wr.heap.size → W.cell? ⟨b, o, none⟩ = wr.cell? ⟨b, o, none⟩)
          (first | exact ⟨Nat.le_refl _, fun _ _ _ => rfl⟩ | exact keepC (by assumption) he1)
          (first | (go_at_call 20; refine (eqSegment _ _ x y _ (by exact ⟨_, _, _, rfl, S12.out.ext (by repeat (first | (with_reducible exact Ext.refl _) | (with_reducible assumption) | (with_reducible refine Ext.alloc ?_ _) | (with_reducible refine Ext.drew ?_) | (with_reducible refine Ext.drewN ?_ _) | (with_reducible refine Ext.setCell (p := _) ?_ ?ge _; case ge => (dsimp only; omega)) | (with_reducible refine Ext.trans ?_ (by with_reducible assumption))))⟩) (by exact ⟨_, _, _, rfl, S22.out.ext (by repeat (first | (with_reducible exact Ext.refl _) | (with_reducible assumption) | (with_reducible refine Ext.alloc ?_ _) | (with_reducible refine Ext.drew ?_) | (with_reducible refine Ext.drewN ?_ _) | (with_reducible refine Ext.setCell (p := _) ?_ ?ge _; case ge => (dsimp only; omega)) | (with_reducible refine Ext.trans ?_ (by with_reducible assumption))))⟩)).mono ?_; rintro e w1 ⟨rfl, he1⟩))
        have HE1 := Lib.hid (HE.out.drew.trans he1)
        have hdd : decide (x = y) = true ↔ x = y := decide_eq_true_iff
        have HD := Lib.hid hdd; clear hdd
        generalize decide (x = y) = bb at *
        cases bb
        · have hxy : ¬ x = y := fun h => by have := HD.out.2 h; cases this
          have HXY := Lib.hid hxy; clear hxy
          go_wp2
          go_ret
          exact ⟨ret_bool (by simp [HN.out HXY.out]), HE1.out⟩
        · have HXY := Lib.hid (HD.out.1 rfl)
          go_wp2
          go_roundw
          case rel => exact ⟨k + 1, by omega, by go_num, by rw [X1.out, X2.out, HQ.out, HXY.out], HE1.out⟩
          case measure => simp [intOf]; omega
      · go_wp2
        go_ret
        have h := HQ.out
        rw [List.take_of_length_le (by rw [E1.out]; omega), List.take_of_length_le (by rw [E2.out]; omega)] at h
        exact ⟨ret_bool (by simp [h]), HE.out⟩
  · have hb : ((n1 : Int) == (n2 : Int)) = false := by simp; omega
    have hb' : ((n1 : Int) != (n2 : Int)) = true := by simp; omega
    have HN := Lib.hid hn; clear hn
    go_enter Try.func90, Try.ntmps90
    go_wp2
    go_ret
    have : xs ≠ ys := fun h => HN.out (by rw [← E1.out, ← E2.out, h])
    exact ⟨ret_bool (by simp [this]), Ext.refl _⟩
set_option maxRecDepth 100000 in
set_option maxHeartbeats 1000000 in
theorem szSegmentS (v : Value) (ds : List DSegment) (left : Int) (w : World) (h : SegmentS w.heap.size w v ds) (h0 : 0 ≤ left) (hl : left ≤ 1048576) :
    Calls Try.prog 86 #[v, I left] w fun e w' => e = .returned (I (szR (totS (fun y => y.hops.length) ds) left)) ∧ Ext w w' := by
  obtain ⟨A, n, c, rfl, hl1, hn1, hm1, -⟩ := id h
  unfold maxLen at hm1
  subst hl1
  have H := Lib.hid h; clear h
  have HT : Hid (totS (fun y => y.hops.length) ds = ds.length + (ds.map fun y => y.hops.length).sum) := rfl
  by_cases hlt : left < (ds.length : Int)
  · have HF := Lib.hid (szR_neg (t := totS (fun y => y.hops.length) ds) (left := left) (by rw [HT.out]; omega))
    go_enter Try.func86, Try.ntmps86
    go_wp2
    go_ret
    exact ⟨ret_int HF.out.symm, Ext.refl _⟩
  · go_enter Try.func86, Try.ntmps86
    go_wp2
    go_loopw [1, 5] (fun l i wr => ∃ (k : Nat) (z : Int), k ≤ ds.length ∧ i = I k ∧ l = I z ∧ z = left - ds.length - (((ds.take k).map fun y => y.hops.length).sum : Nat) ∧ 0 ≤ z ∧ Ext w wr) (fun _ i _ => ds.length - (intOf i).toNat)
    case atStart => exact ⟨0, left - ds.length, by omega, rfl, rfl, by simp, by omega, Ext.refl _⟩
    case round =>
      obtain ⟨k, z, hk, rfl, rfl, hz, hz0, he⟩ := hrel
      have hzl : z ≤ 1048576 := by omega
      have HZ := Lib.hid hz; clear hz
      have HE := Lib.hid he; clear he
      by_cases hkn : k < ds.length
      · obtain ⟨b, off, rfl, hbb, _, hc⟩ := (H.out.ext HE.out).at_ hkn
        have HS := Lib.hid (sum_take (fun y => y.hops.length) ds k hkn)
        have HS2 := Lib.hid (sum_take_le (fun y => y.hops.length) ds (k + 1))
        generalize ds[k] = x at *
        obtain ⟨A2, n2, c2, hc0, hc1, hc2, s2⟩ := hc
        have S2 := Lib.hid s2; clear s2
        go_wp2_with fail
        refine (szSegment _ x z _ (by exact ⟨_, _, _, rfl, S2.out⟩) (by omega) (by omega)).mono ?_
        rintro e w1 ⟨rfl, he1⟩
        by_cases hx : z < ((x.hops.length : Nat) : Int)
        · rw [szR_neg hx]
          go_wp2_with fail
          go_ret
          refine ⟨ret_int (szR_neg ?_).symm, HE.out.trans he1⟩
          rw [HT.out]
          have h1 := HZ.out; have h2 := HS.out; have h3 := HS2.out
          omega
        · rw [szR_pos (by omega)]
          go_wp2_with fail
          go_roundw
          case rel =>
            refine ⟨k + 1, z - ((x.hops.length : Nat) : Int), by omega, by go_num, rfl, ?_, by omega, HE.out.trans he1⟩
            rw [HS.out, HZ.out]
            omega
          case measure => simp [intOf]; omega
      · go_wp2_with fail
        go_ret
        obtain rfl : k = ds.length := by omega
        have h1 := HZ.out
        rw [List.take_length] at h1
        refine ⟨ret_int ?_, HE.out⟩
        rw [szR_pos (by rw [HT.out]; omega), HT.out, h1]
        omega
end Go.Proofs.Ytmnipolfdaajmaa
