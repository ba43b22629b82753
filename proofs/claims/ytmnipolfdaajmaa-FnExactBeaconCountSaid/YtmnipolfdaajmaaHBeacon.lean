/- The laws' helpers on Beacon: to.. (copy), eq.. (compare), sz.. (count), mark.. and held... Printed by gen.py. -/
import Derived.Test.YtmnipolfdaajmaaHSegment
import Derived.Test.YtmnipolfdaajmaaNest
namespace Go.Proofs.Ytmnipolfdaajmaa
open Go.RowKit
set_option linter.unusedVariables false
theorem info_Beacon : (Try.prog.info? 190).map (fun i => (i.zero, i.size, i.bytes)) = some (some (.agg #[.int .i64 0, .int .i64 0, .int .i64 0, .slice none 0 0]), 4, 48) := by kernel_rfl

def BeaconO (lo hi : Nat) (w : World) (v : Value) (x : DBeacon) : Prop := ∃ u3, v = .agg #[I x.ing, I x.seg.ts, I x.seg.beta, u3] ∧ Own 124 5 lo hi w u3 x.seg.hops.length (x.seg.hops.flatMap HopC) ∧ lo ≤ hi
theorem BeaconO.keep {lo hi : Nat} {w w' : World} {v : Value} {x : DBeacon} (h : BeaconO lo hi w v x) (hk : ∀ k, lo ≤ k → k < hi → k < w.heap.size → w'.heap[k]? = w.heap[k]?) : BeaconO lo hi w' v x := by
  obtain ⟨u3, e, o3, l0⟩ := h
  exact ⟨u3, e, o3.keep fun k h1 h2 h3 => hk k (by omega) (by omega) h3, l0⟩
theorem BeaconO.v {lo hi : Nat} {w : World} {v : Value} {x : DBeacon} (h : BeaconO lo hi w v x) : BeaconV hi w v x := by
  obtain ⟨u3, e, o3, l0⟩ := h
  have s3 := (o3.sl (At := HopAt) HopC.len (by omega) HopC.at_)
  obtain ⟨A3, n3, c3, rfl, _⟩ := id s3
  exact ⟨_, _, _, e, s3.keep HopAt.keeps (by omega) (fun _ _ => rfl)⟩
theorem BeaconO.shape {lo hi : Nat} {w : World} {v : Value} {x : DBeacon} (h : BeaconO lo hi w v x) : ∃ A3 n3 c3, v = .agg #[I x.ing, I x.seg.ts, I x.seg.beta, .slice A3 n3 c3] := by
  obtain ⟨A3, n3, c3, e, _⟩ := h.v
  exact ⟨A3, n3, c3, e⟩
theorem BeaconO.ext {lo hi : Nat} {w w' : World} {v : Value} {x : DBeacon} (h : BeaconO lo hi w v x) (he : Ext w w') (hhi : hi ≤ w.heap.size) : BeaconO lo hi w' v x := h.keep fun k _ _ h3 => he.same k h3
theorem BeaconO.drew {lo hi : Nat} {w : World} {v : Value} {x : DBeacon} (h : BeaconO lo hi w v x) : BeaconO lo hi w.drew v x := h.keep fun _ _ _ _ => rfl
theorem BeaconO.out {lo hi lo' hi' : Nat} {w w' : World} {v : Value} {x : DBeacon} (h : BeaconO lo hi w v x) (ho : Out lo' hi' w w') (hd : hi' ≤ lo ∨ hi ≤ lo') : BeaconO lo hi w' v x := h.keep fun k h1 h2 h3 => ho.block k h3 (by omega)
theorem BeaconO_rd {lo hi : Nat} {w : World} {v : Value} {x : DBeacon} (h : BeaconO lo hi w v x) (hhi : hi ≤ w.heap.size) : BeaconV w.heap.size w v x := h.v.keep hhi (fun _ _ => rfl)
set_option maxRecDepth 100000 in
set_option maxHeartbeats 1000000 in
theorem toBeacon (v : Value) (x : DBeacon) (w : World) (h : BeaconV w.heap.size w v x) (hn : x.seg.hops.length ≤ 16777216) :
    Calls Try.prog 156 #[v] w fun e w' => ∃ v', e = .returned v' ∧ BeaconO w.heap.size w'.heap.size w' v' x ∧ Ext w w' := by
  obtain ⟨A3, n3, c3, rfl, s3⟩ := h
  have S3 := Lib.hid s3; clear s3
  go_enter Try.func156, Try.ntmps156
  go_wp2_with fail
  refine (toSegment _ x.seg _ (by exact ⟨_, _, _, rfl, S3.out.ext (by repeat (first | (with_reducible exact Ext.refl _) | (with_reducible assumption) | (with_reducible refine Ext.alloc ?_ _) | (with_reducible refine Ext.drew ?_) | (with_reducible refine Ext.drewN ?_ _) | (with_reducible refine Ext.setCell (p := _) ?_ ?ge _; case ge => (dsimp only; omega)) | (with_reducible refine Ext.trans ?_ (by with_reducible assumption))))⟩) (by omega)).mono ?_
  rintro e w1 ⟨v1, rfl, ho1, he1⟩
  obtain ⟨hc1, hf1, hz1⟩ := he1.facts
  simp only [World.size_alloc] at hz1 hc1 hf1
  have la1 : w.heap.size < w1.heap.size := by omega
  have lb1 : w.heap.size + 1 < w1.heap.size := by omega
  have lc1 : w.heap.size + 1 + 1 < w1.heap.size := by omega
  obtain ⟨t3, hv1, o3, l1_0⟩ := ho1
  simp only [World.size_alloc] at o3
  subst hv1
  simp only [World.size_alloc] at l1_0
  have O3 := Lib.hid o3; clear o3
  obtain ⟨a3, m3, q3, hu3⟩ : ∃ a n c, t3 = .slice a n c := O3.out.slice
  subst hu3
  go_wp2_with fail
  refine bodyPost_ret (v := .agg #[I x.ing, I x.seg.ts, I x.seg.beta, .slice a3 m3 q3]) (by simp [results, Try.results156, go_sem, *]) rfl ⟨_, rfl, ?_, ?_⟩
  · simp only [World.size_setCell]
    refine ⟨_, rfl, Own.more (lo := w.heap.size + 1 + 1 + 1) (hi := w1.heap.size) (by repeat (first | (with_reducible exact O3.out) | (with_reducible refine Own.alloc ?_ _) | (with_reducible refine Own.setCell (p := _) ?_ (.inl ?ge) _; case ge => (first | omega | (dsimp only; omega) | (simp only [World.size_setCell]; omega) | (simp only [World.size_alloc]; omega))) | (with_reducible refine Own.ext ?_ (by with_reducible assumption) ?ge; case ge => (first | omega | (dsimp only; omega) | (simp only [World.size_setCell]; omega) | (simp only [World.size_alloc]; omega))))) (by omega) (by omega), by omega⟩
  · exact (by repeat (first | (with_reducible exact Ext.refl _) | (with_reducible assumption) | (with_reducible refine Ext.alloc ?_ _) | (with_reducible refine Ext.drew ?_) | (with_reducible refine Ext.drewN ?_ _) | (with_reducible refine Ext.setCell (p := _) ?_ ?ge _; case ge => (dsimp only; omega)) | (with_reducible refine Ext.trans ?_ (by with_reducible assumption))))
set_option maxRecDepth 100000 in
set_option maxHeartbeats 1000000 in
theorem eqBeacon (v1 v2 : Value) (x y : DBeacon) (w : World) (h1 : BeaconV w.heap.size w v1 x) (h2 : BeaconV w.heap.size w v2 y) :
    Calls Try.prog 157 #[v1, v2] w fun e w' => e = .returned (.bool (decide (x = y))) ∧ Ext w w' := by
  obtain ⟨A13, n13, c13, rfl, s13⟩ := h1
  obtain ⟨A23, n23, c23, rfl, s23⟩ := h2
  have S13 := Lib.hid s13; clear s13
  have S23 := Lib.hid s23; clear s23
  go_enter Try.func157, Try.ntmps157
  go_wp2_with fail
  all_goals (try (go_ret; exact ⟨ret_bool (by simp_all [DBeacon.eq_iff]), (by repeat (first | (with_reducible exact Ext.refl _) | (with_reducible assumption) | (with_reducible refine Ext.alloc ?_ _) | (with_reducible refine Ext.drew ?_) | (with_reducible refine Ext.drewN ?_ _) | (with_reducible refine Ext.setCell (p := _) ?_ ?ge _; case ge => (dsimp only; omega)) | (with_reducible refine Ext.trans ?_ (by with_reducible assumption))))⟩))
  refine (eqSegment _ _ x.seg y.seg _ (by exact ⟨_, _, _, rfl, S13.out.ext (by repeat (first | (with_reducible exact Ext.refl _) | (with_reducible assumption) | (with_reducible refine Ext.alloc ?_ _) | (with_reducible refine Ext.drew ?_) | (with_reducible refine Ext.drewN ?_ _) | (with_reducible refine Ext.setCell (p := _) ?_ ?ge _; case ge => (dsimp only; omega)) | (with_reducible refine Ext.trans ?_ (by with_reducible assumption))))⟩) (by exact ⟨_, _, _, rfl, S23.out.ext (by repeat (first | (with_reducible exact Ext.refl _) | (with_reducible assumption) | (with_reducible refine Ext.alloc ?_ _) | (with_reducible refine Ext.drew ?_) | (with_reducible refine Ext.drewN ?_ _) | (with_reducible refine Ext.setCell (p := _) ?_ ?ge _; case ge => (dsimp only; omega)) | (with_reducible refine Ext.trans ?_ (by with_reducible assumption))))⟩)).mono ?_
  rintro e w4 ⟨rfl, he4⟩
  obtain ⟨hc4, hf4, hz4⟩ := he4.facts
  go_wp2_with fail
  all_goals
    go_ret
    exact ⟨ret_bool (by simp_all [DBeacon.eq_iff]), (by repeat (first | (with_reducible exact Ext.refl _) | (with_reducible assumption) | (with_reducible refine Ext.alloc ?_ _) | (with_reducible refine Ext.drew ?_) | (with_reducible refine Ext.drewN ?_ _) | (with_reducible refine Ext.setCell (p := _) ?_ ?ge _; case ge => (dsimp only; omega)) | (with_reducible refine Ext.trans ?_ (by with_reducible assumption))))⟩
set_option maxRecDepth 100000 in
set_option maxHeartbeats 1000000 in
theorem szBeacon (v : Value) (x : DBeacon) (left : Int) (w : World) (h : BeaconV w.heap.size w v x) (h0 : 0 ≤ left) (hl : left ≤ 1048576) :
    Calls Try.prog 155 #[v, I left] w fun e w' => e = .returned (I (szR (x.seg.hops.length) left)) ∧ Ext w w' := by
  obtain ⟨A3, n3, c3, rfl, s3⟩ := h
  have S3 := Lib.hid s3; clear s3
  go_enter Try.func155, Try.ntmps155
  go_wp2_with fail
  refine (szSegment _ x.seg (left) _ (by exact ⟨_, _, _, rfl, S3.out.ext (by repeat (first | (with_reducible exact Ext.refl _) | (with_reducible assumption) | (with_reducible refine Ext.alloc ?_ _) | (with_reducible refine Ext.drew ?_) | (with_reducible refine Ext.drewN ?_ _) | (with_reducible refine Ext.setCell (p := _) ?_ ?ge _; case ge => (dsimp only; omega)) | (with_reducible refine Ext.trans ?_ (by with_reducible assumption))))⟩) (by omega) (by omega)).mono ?_
  rintro e w1 ⟨rfl, he1⟩
  obtain ⟨hc1, hf1, hz1⟩ := he1.facts
  by_cases hlt0 : left < (((x.seg.hops.length) : Nat) : Int)
  · rw [szR_neg hlt0]
    go_wp2_with fail
    go_ret
    exact ⟨ret_int (szR_neg (by omega)).symm, (by repeat (first | (with_reducible exact Ext.refl _) | (with_reducible assumption) | (with_reducible refine Ext.alloc ?_ _) | (with_reducible refine Ext.drew ?_) | (with_reducible refine Ext.drewN ?_ _) | (with_reducible refine Ext.setCell (p := _) ?_ ?ge _; case ge => (dsimp only; omega)) | (with_reducible refine Ext.trans ?_ (by with_reducible assumption))))⟩
  · rw [szR_pos (by omega)]
    go_wp2_with fail
    go_ret
    exact ⟨ret_int (by rw [szR_pos (by omega)] <;> omega), (by repeat (first | (with_reducible exact Ext.refl _) | (with_reducible assumption) | (with_reducible refine Ext.alloc ?_ _) | (with_reducible refine Ext.drew ?_) | (with_reducible refine Ext.drewN ?_ _) | (with_reducible refine Ext.setCell (p := _) ?_ ?ge _; case ge => (dsimp only; omega)) | (with_reducible refine Ext.trans ?_ (by with_reducible assumption))))⟩

/-- The cells cs of a Beacon and the blocks that it owns. -/
def BeaconOC (w : World) (fp : List Nat) (cs : List Value) (x : DBeacon) : Prop := ∃ u3, cs = [I x.ing, I x.seg.ts, I x.seg.beta, u3] ∧ w.ownsRow 0 124 5 u3 x.seg.hops.length (x.seg.hops.flatMap HopC) ∧ fp = u3.ownBlock.toList
theorem BeaconOC.keeps : OKeeps BeaconOC := by
  intro w w' fp cs x hk h
  obtain ⟨u3, e, r3, ef⟩ := h
  exact ⟨u3, e, ownsRow_keep r3 (fun b hb => hk b (by rw [ef]; simp [hb])), ef⟩
theorem BeaconOC.at_ (B : Nat) (w : World) (b o : Nat) (fp : List Nat) (cs : List Value) (x : DBeacon) (h : BeaconOC w fp cs x) (hb : ∀ b ∈ fp, b < B) (hc : ∀ j u, cs[j]? = some u → w.cell? ⟨b, o + j, none⟩ = some u) : BeaconAt B w b o x := by
  obtain ⟨u3, rfl, r3, ef⟩ := h
  have s3 : HopS B w u3 x.seg.hops := Own.sl (lo := 0) (n := x.seg.hops.length) (At := HopAt) ⟨r3, fun k hk => hb k (by rw [ef]; simp [hk])⟩ HopC.len (by omega) HopC.at_
  obtain ⟨A3, n3, c3, e3, _⟩ := id s3
  subst e3
  exact ⟨A3, n3, c3, hc 0 _ rfl, hc 1 _ rfl, hc 2 _ rfl, hc 3 _ rfl, s3⟩
theorem BeaconOC.len {w : World} {fp : List Nat} {cs : List Value} {x : DBeacon} (h : BeaconOC w fp cs x) : cs.length = 4 := by
  obtain ⟨u3, rfl, _⟩ := h
  rfl
theorem BeaconO.to_oc {lo hi : Nat} {w : World} {v : Value} {x : DBeacon} (h : BeaconO lo hi w v x) : ∃ a3 k3 q3 fp, v = .agg #[I x.ing, I x.seg.ts, I x.seg.beta, .slice a3 k3 q3] ∧ BeaconOC w fp [I x.ing, I x.seg.ts, I x.seg.beta, .slice a3 k3 q3] x ∧ fp.Nodup ∧ ∀ b ∈ fp, lo ≤ b ∧ b < hi := by
  obtain ⟨u3, e, o3, l0⟩ := h
  obtain ⟨a3, k3, q3, hu3⟩ : ∃ a n c, u3 = .slice a n c := o3.slice
  have b3 : ∀ b ∈ u3.ownBlock.toList, lo ≤ b ∧ b < hi := fun b hb => ⟨(o3.1.lt b (by simpa using hb)).1, o3.2 b (by simpa using hb)⟩
  have d3 : (u3.ownBlock.toList).Nodup := by cases u3.ownBlock <;> simp
  subst hu3
  exact ⟨a3, k3, q3, (Value.slice a3 k3 q3).ownBlock.toList, e, ⟨_, rfl, (o3.more (Nat.zero_le _) (Nat.le_refl _)).1, rfl⟩, d3, b3⟩
/-- A []Beacon of the call's own. -/
abbrev BeaconSO (lo hi : Nat) (w : World) (v : Value) (xs : List DBeacon) : Prop := NO BeaconOC 190 4 lo hi w v xs
theorem BeaconSO_rd {lo hi : Nat} {w : World} {v : Value} {xs : List DBeacon} (h : BeaconSO lo hi w v xs) (hhi : hi ≤ w.heap.size) : BeaconS w.heap.size w v xs := (NO.sl (At := BeaconAt) h (fun _ => rfl) BeaconOC.at_).keep BeaconAt.keeps hhi (fun _ _ => rfl)
theorem BeaconSO_ext {lo hi : Nat} {w w' : World} {v : Value} {xs : List DBeacon} (h : BeaconSO lo hi w v xs) (he : Ext w w') (_hhi : hi ≤ w.heap.size) : BeaconSO lo hi w' v xs := NO.keep BeaconOC.keeps h fun k _ _ h3 => he.same k h3
theorem BeaconSO_out {lo hi : Nat} {lo' hi' : Nat} {w w' : World} {v : Value} {xs : List DBeacon} (h : BeaconSO lo hi w v xs) (ho : Out lo' hi' w w') (hd : hi' ≤ lo ∨ hi ≤ lo') : BeaconSO lo hi w' v xs := NO.keep BeaconOC.keeps h fun k h1 h2 h3 => ho.block k h3 (by omega)
theorem BeaconSO_drew {lo hi : Nat} {w : World} {v : Value} {xs : List DBeacon} (h : BeaconSO lo hi w v xs) : BeaconSO lo hi w.drew v xs := NO.keep BeaconOC.keeps h fun _ _ _ _ => rfl
theorem BeaconSO_alloc {lo hi : Nat} {w : World} {v : Value} {xs : List DBeacon} (h : BeaconSO lo hi w v xs) (o : Obj) : BeaconSO lo hi (w.alloc o) v xs := NO.keep BeaconOC.keeps h fun k _ _ h3 => Below.heap_alloc w o k h3
theorem BeaconSO_setCell {lo hi : Nat} {w : World} {v : Value} {xs : List DBeacon} (h : BeaconSO lo hi w v xs) {p : Addr} (hp : p.block < lo ∨ hi ≤ p.block) (u : Value) : BeaconSO lo hi (w.setCell p u) v xs := NO.keep BeaconOC.keeps h fun k h1 h2 _ => Below.heap_setCell _ _ _ _ (by omega)
theorem BeaconSO_keep {lo hi : Nat} {w w' : World} {v : Value} {xs : List DBeacon} (h : BeaconSO lo hi w v xs) (hk : ∀ k, lo ≤ k → k < hi → k < w.heap.size → w'.heap[k]? = w.heap[k]?) : BeaconSO lo hi w' v xs := NO.keep BeaconOC.keeps h hk
set_option maxRecDepth 100000 in
set_option maxHeartbeats 1000000 in
theorem toBeaconS (v : Value) (ds : List DBeacon) (w : World) (h : BeaconS w.heap.size w v ds) (hn : totS (fun y => y.seg.hops.length) ds ≤ 16777216) :
    Calls Try.prog 148 #[v] w fun e w' => ∃ v', e = .returned v' ∧ BeaconSO w.heap.size w'.heap.size w' v' ds ∧ Ext w w' := by
  obtain ⟨A, n, c, rfl, hl, -⟩ := id h
  subst hl
  have hn : ds.length + (ds.map fun y => y.seg.hops.length).sum ≤ 16777216 := hn
  have hmk := run_mk (P := Try.prog) 150 190 (.agg #[.int .i64 0, .int .i64 0, .int .i64 0, .slice none 0 0]) 4 48 Try.underlying150 info_Beacon ds.length (by omega) (by omega)
  have hml := mkRow_len (.agg #[.int .i64 0, .int .i64 0, .int .i64 0, .slice none 0 0]) (ds.length * 4)
  generalize mkRow (.agg #[.int .i64 0, .int .i64 0, .int .i64 0, .slice none 0 0]) (ds.length * 4) = mr at *
  have H := Lib.hid h; clear h
  have HM := Lib.hid hml; clear hml
  go_enter Try.func148, Try.ntmps148
  go_wp2
  go_loopw [4] (fun i wr => ∃ (k : Nat) (cs rest : List Value) (fp : List Nat), k ≤ ds.length ∧ i = I k ∧ Blk wr w.heap.size 190 (cs ++ rest) ∧ OL BeaconOC 4 wr (ds.take k) fp cs ∧ (w.heap.size :: fp).Nodup ∧ (∀ b ∈ fp, w.heap.size < b ∧ b < wr.heap.size) ∧ rest.length = (ds.length - k) * 4 ∧ Ext w wr) (fun i _ => ds.length - (intOf i).toNat)
  case atStart => exact ⟨0, [], mr.toList, [], by omega, rfl, by simpa using Blk.new w 190 mr.toList, ⟨rfl, rfl⟩, by simp, by simp, by simpa using HM.out, (Ext.refl _).alloc _⟩
  case round =>
    obtain ⟨k, cs, rest, fp, hk, rfl, hb, hol, hnd, hbd, hr, he⟩ := hrel
    have HE := Lib.hid he
    have HB := Lib.hid hb; clear hb
    have HOL := Lib.hid hol; clear hol
    have HND := Lib.hid hnd; clear hnd
    have HBD := Lib.hid hbd; clear hbd
    by_cases hlt : k < ds.length
    · obtain ⟨b, off, rfl, hbb, _, hc⟩ := (H.out.ext he).at_ hlt
      have hsm := sum_mem (fun y => y.seg.hops.length) ds k hlt
      obtain ⟨r0, r1, r2, r3, rest, rfl⟩ : ∃ r0 r1 r2 r3 rest', rest = r0 :: r1 :: r2 :: r3 :: rest' := by
        match rest, hr with
        | r0 :: r1 :: r2 :: r3 :: rest, _ => exact ⟨r0, r1, r2, r3, rest, rfl⟩
        | [], h => simp at h; omega
        | [_], h => simp at h; omega
        | [_, _], h => simp at h; omega
        | [_, _, _], h => simp at h; omega
      have hlr : rest.length = (ds.length - (k + 1)) * 4 := by simp only [List.length_cons] at hr; omega
      have HR := Lib.hid hlr; clear hr he hlr
      have HX := Lib.hid (take_snoc ds k hlt)
      generalize ds[k] = x at *
      obtain ⟨A3, n3, c3, hc0, hc1, hc2, hc3, s3⟩ := hc
      have S3 := Lib.hid s3; clear s3
      have hp : cs.length = k * 4 := by rw [HOL.out.len, List.length_take, Nat.min_eq_left hk]
      have HP := Lib.hid hp; clear hp
      have hwg : w.heap.size < wr.heap.size := HB.out.lt
      go_wp2_with fail
      refine (toBeacon _ x _ (by exact ⟨_, _, _, rfl, S3.out⟩) (by omega)).mono ?_
      rintro e w1 ⟨v1, rfl, ho1, he1⟩
      obtain ⟨a3, k3, q3, f1, rfl, hoc, hn1, hb1⟩ := ho1.to_oc
      have HOC := Lib.hid hoc; have HN1 := Lib.hid hn1; have HB1F := Lib.hid hb1; clear hoc hn1 hb1 ho1
      have HB1 := Lib.hid (HB.out.below he1.below hwg)
      have hz1 := he1.size
      have HE1 := Lib.hid he1
      clear he1
      obtain ⟨hu0, hu1, hu2, hu3⟩ := cells_at4 HB1.out HP.out
      have hf0 := HB1.out.frozen (k * 4)
      have hf1 := HB1.out.frozen (k * 4 + 1)
      have hf2 := HB1.out.frozen (k * 4 + 2)
      have hf3 := HB1.out.frozen (k * 4 + 3)
      go_wp2
      go_roundw
      case rel =>
        obtain ⟨g1, g2, g3⟩ := nest_step (w2 := ((((w1.setCell ⟨w.heap.size, k * 4, none⟩ (I x.ing)).setCell ⟨w.heap.size, k * 4 + 1, none⟩ (I x.seg.ts)).setCell ⟨w.heap.size, k * 4 + 2, none⟩ (I x.seg.beta)).setCell ⟨w.heap.size, k * 4 + 3, none⟩ (.slice a3 k3 q3))) BeaconOC.keeps HOL.out HE1.out HOC.out rfl HBD.out HND.out HN1.out HB1F.out hwg (fun b hb => (Eq.trans (Below.heap_setCell _ ⟨w.heap.size, k * 4 + 3, none⟩ _ b hb) (Eq.trans (Below.heap_setCell _ ⟨w.heap.size, k * 4 + 2, none⟩ _ b hb) (Eq.trans (Below.heap_setCell _ ⟨w.heap.size, k * 4 + 1, none⟩ _ b hb) (Below.heap_setCell _ ⟨w.heap.size, k * 4, none⟩ _ b hb))))) (by simp only [World.size_setCell])
        refine ⟨k + 1, cs ++ [I x.ing, I x.seg.ts, I x.seg.beta, .slice a3 k3 q3], rest, fp ++ f1, by omega, by go_num, ?_, ?_, g2, g3, HR.out, ?_⟩
        · have := (((HB1.out.set_ (k * 4) (I x.ing)).set_ (k * 4 + 1) (I x.seg.ts)).set_ (k * 4 + 2) (I x.seg.beta)).set_ (k * 4 + 3) (.slice a3 k3 q3)
          rw [set_at4 _ _ _ _ _ _ _ _ _ _ _ HP.out] at this
          simpa using this
        · rw [HX.out]
          exact g1
        · exact ((((HE.out.trans HE1.out).setCell (by simp) _).setCell (by simp) _).setCell (by simp) _).setCell (by simp) _
      case measure => simp [intOf]; omega
    · have HR := Lib.hid hr; clear hr he
      go_wp2
      go_ret
      have e : k = ds.length := by omega
      have hr := HR.out
      subst e
      obtain rfl : rest = [] := List.eq_nil_of_length_eq_zero (by simpa using hr)
      have hb := HB.out
      have hol := HOL.out
      rw [List.append_nil] at hb
      rw [List.take_length] at hol
      exact ⟨_, rfl, ⟨cs, fp, Own.of_blk hb hol.len (by unfold maxLen; omega) (Nat.le_refl _) hb.lt, hol, by simpa [Value.ownBlock] using HND.out, fun b hb => ⟨by have := (HBD.out b hb).1; omega, (HBD.out b hb).2⟩⟩, HE.out⟩
set_option maxRecDepth 100000 in
set_option maxHeartbeats 1000000 in
theorem eqBeaconS (v1 v2 : Value) (xs ys : List DBeacon) (w : World) (h1 : BeaconS w.heap.size w v1 xs) (h2 : BeaconS w.heap.size w v2 ys) :
    Calls Try.prog 149 #[v1, v2] w fun e w' => e = .returned (.bool (decide (xs = ys))) ∧ Ext w w' := by
  obtain ⟨A1, n1, c1, rfl, hl1, hn1, hm1, -⟩ := id h1
  obtain ⟨A2, n2, c2, rfl, hl2, hn2, hm2, -⟩ := id h2
  unfold maxLen at hm1 hm2
  have H1 := Lib.hid h1; have H2 := Lib.hid h2; have E1 := Lib.hid hl1; have E2 := Lib.hid hl2; clear h1 h2 hl1 hl2
  by_cases hn : n1 = n2
  · subst hn
    go_enter Try.func149, Try.ntmps149
    go_wp2
    go_loopw [5] (fun i wr => ∃ k : Nat, k ≤ n1 ∧ i = I k ∧ xs.take k = ys.take k ∧ Ext w wr) (fun i _ => n1 - (intOf i).toNat)
    case atStart => exact ⟨0, by omega, rfl, by simp, Ext.refl _⟩
    case round =>
      obtain ⟨k, hk, rfl, hq, he⟩ := hrel
      have HQ := Lib.hid hq; clear hq
      have HE := Lib.hid he; clear he
      by_cases hlt : k < n1
      · obtain ⟨b1, o1, rfl, hb1, hk1, hc1⟩ := (H1.out.ext HE.out).at_ hlt
        obtain ⟨b2, o2, rfl, hb2, hk2, hc2⟩ := (H2.out.ext HE.out).at_ hlt
        have i0 : (0 : Int) ≤ (k : Int) := by omega
        have i1 : (k : Int) < (n1 : Int) := by omega
        have X1 := Lib.hid (take_snoc xs k hk1)
        have X2 := Lib.hid (take_snoc ys k hk2)
        have hne : ¬ xs[k] = ys[k] → xs ≠ ys := fun hne h => hne (by subst h; rfl)
        have HN := Lib.hid hne; clear hne
        generalize xs[k] = x at *
        generalize ys[k] = y at *
        obtain ⟨A13, n13, c13, h10, h11, h12, h13, s13⟩ := hc1
        obtain ⟨A23, n23, c23, h20, h21, h22, h23, s23⟩ := hc2
        have S13 := Lib.hid s13; clear s13
        have S23 := Lib.hid s23; clear s23
        go_wp2_with fail
        go_region_held3 (fun W => wr.heap.size ≤ W.heap.size ∧ ∀ b o, b < wr.heap.size → W.cell? ⟨b, o, none⟩ = wr.cell? ⟨b, o, none⟩)
          (first | exact ⟨Nat.le_refl _, fun _ _ _ => rfl⟩ | exact keepC (by assumption) he1)
          (first | (go_at_call 157; refine (eqBeacon _ _ x y _ (by exact ⟨_, _, _, rfl, S13.out.ext (by repeat (first | (with_reducible exact Ext.refl _) | (with_reducible assumption) | (with_reducible refine Ext.alloc ?_ _) | (with_reducible refine Ext.drew ?_) | (with_reducible refine Ext.drewN ?_ _) | (with_reducible refine Ext.setCell (p := _) ?_ ?ge _; case ge => (dsimp only; omega)) | (with_reducible refine Ext.trans ?_ (by with_reducible assumption))))⟩) (by exact ⟨_, _, _, rfl, S23.out.ext (by repeat (first | (with_reducible exact Ext.refl _) | (with_reducible assumption) | (with_reducible refine Ext.alloc ?_ _) | (with_reducible refine Ext.drew ?_) | (with_reducible refine Ext.drewN ?_ _) | (with_reducible refine Ext.setCell (p := _) ?_ ?ge _; case ge => (dsimp only; omega)) | (with_reducible refine Ext.trans ?_ (by with_reducible assumption))))⟩)).mono ?_; rintro e w1 ⟨rfl, he1⟩))
        have HE1 := Lib.hid (HE.out.drew.trans he1)
        have hdd : decide (x = y) = true ↔ x = y := decide_eq_true_iff
        have HD := Lib.hid hdd; clear hdd
        generalize decide (x = y) = bb at *
        cases bb
        · have hxy : ¬ x = y := fun h => by have := HD.out.2 h; cases this
          have HXY := Lib.hid hxy; clear hxy
          go_wp2
          go_ret
          exact ⟨ret_bool (by simp [HN.out HXY.out]), HE1.out⟩
        · have HXY := Lib.hid (HD.out.1 rfl)
          go_wp2
          go_roundw
          case rel => exact ⟨k + 1, by omega, by go_num, by rw [X1.out, X2.out, HQ.out, HXY.out], HE1.out⟩
          case measure => simp [intOf]; omega
      · go_wp2
        go_ret
        have h := HQ.out
        rw [List.take_of_length_le (by rw [E1.out]; omega), List.take_of_length_le (by rw [E2.out]; omega)] at h
        exact ⟨ret_bool (by simp [h]), HE.out⟩
  · have hb : ((n1 : Int) == (n2 : Int)) = false := by simp; omega
    have hb' : ((n1 : Int) != (n2 : Int)) = true := by simp; omega
    have HN := Lib.hid hn; clear hn
    go_enter Try.func149, Try.ntmps149
    go_wp2
    go_ret
    have : xs ≠ ys := fun h => HN.out (by rw [← E1.out, ← E2.out, h])
    exact ⟨ret_bool (by simp [this]), Ext.refl _⟩
set_option maxRecDepth 100000 in
set_option maxHeartbeats 1000000 in
theorem szBeaconS (v : Value) (ds : List DBeacon) (left : Int) (w : World) (h : BeaconS w.heap.size w v ds) (h0 : 0 ≤ left) (hl : left ≤ 1048576) :
    Calls Try.prog 147 #[v, I left] w fun e w' => e = .returned (I (szR (totS (fun y => y.seg.hops.length) ds) left)) ∧ Ext w w' := by
  obtain ⟨A, n, c, rfl, hl1, hn1, hm1, -⟩ := id h
  unfold maxLen at hm1
  subst hl1
  have H := Lib.hid h; clear h
  have HT : Hid (totS (fun y => y.seg.hops.length) ds = ds.length + (ds.map fun y => y.seg.hops.length).sum) := rfl
  by_cases hlt : left < (ds.length : Int)
  · have HF := Lib.hid (szR_neg (t := totS (fun y => y.seg.hops.length) ds) (left := left) (by rw [HT.out]; omega))
    go_enter Try.func147, Try.ntmps147
    go_wp2
    go_ret
    exact ⟨ret_int HF.out.symm, Ext.refl _⟩
  · go_enter Try.func147, Try.ntmps147
    go_wp2
    go_loopw [1, 5] (fun l i wr => ∃ (k : Nat) (z : Int), k ≤ ds.length ∧ i = I k ∧ l = I z ∧ z = left - ds.length - (((ds.take k).map fun y => y.seg.hops.length).sum : Nat) ∧ 0 ≤ z ∧ Ext w wr) (fun _ i _ => ds.length - (intOf i).toNat)
    case atStart => exact ⟨0, left - ds.length, by omega, rfl, rfl, by simp, by omega, Ext.refl _⟩
    case round =>
      obtain ⟨k, z, hk, rfl, rfl, hz, hz0, he⟩ := hrel
      have hzl : z ≤ 1048576 := by omega
      have HZ := Lib.hid hz; clear hz
      have HE := Lib.hid he; clear he
      by_cases hkn : k < ds.length
      · obtain ⟨b, off, rfl, hbb, _, hc⟩ := (H.out.ext HE.out).at_ hkn
        have HS := Lib.hid (sum_take (fun y => y.seg.hops.length) ds k hkn)
        have HS2 := Lib.hid (sum_take_le (fun y => y.seg.hops.length) ds (k + 1))
        generalize ds[k] = x at *
        obtain ⟨A3, n3, c3, hc0, hc1, hc2, hc3, s3⟩ := hc
        have S3 := Lib.hid s3; clear s3
        go_wp2_with fail
        refine (szBeacon _ x z _ (by exact ⟨_, _, _, rfl, S3.out⟩) (by omega) (by omega)).mono ?_
        rintro e w1 ⟨rfl, he1⟩
        by_cases hx : z < ((x.seg.hops.length : Nat) : Int)
        · rw [szR_neg hx]
          go_wp2_with fail
          go_ret
          refine ⟨ret_int (szR_neg ?_).symm, HE.out.trans he1⟩
          rw [HT.out]
          have h1 := HZ.out; have h2 := HS.out; have h3 := HS2.out
          omega
        · rw [szR_pos (by omega)]
          go_wp2_with fail
          go_roundw
          case rel =>
            refine ⟨k + 1, z - ((x.seg.hops.length : Nat) : Int), by omega, by go_num, rfl, ?_, by omega, HE.out.trans he1⟩
            rw [HS.out, HZ.out]
            omega
          case measure => simp [intOf]; omega
      · go_wp2_with fail
        go_ret
        obtain rfl : k = ds.length := by omega
        have h1 := HZ.out
        rw [List.take_length] at h1
        refine ⟨ret_int ?_, HE.out⟩
        rw [szR_pos (by rw [HT.out]; omega), HT.out, h1]
        omega
end Go.Proofs.Ytmnipolfdaajmaa
