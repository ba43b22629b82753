/- The laws' helpers on Beacon: to.. (copy), eq.. (compare), sz.. (count), mark.. and held... Printed by gen.py. -/
import Derived.Test.YtdcfidlngbhpcaaGreatGHS
import Derived.Test.YtdcfidlngbhpcaaGreatGCore
import Derived.Test.YtdcfidlngbhpcaaGreatGGrow
namespace Go.Proofs.YtdcfidlngbhpcaaGreat
open Go.RowKit
set_option linter.unusedVariables false
theorem info_Beacon : (Tryz.prog.info? 65).map (fun i => (i.zero, i.size, i.bytes)) = some (some (.agg #[.int .i64 0, .int .i64 0, .int .i64 0, .slice none 0 0]), 4, 48) := by kernel_rfl

def BeaconO (lo hi : Nat) (w : World) (v : Value) (x : DBeacon) : Prop := ∃ u3, v = .agg #[I x.ing, I x.seg.ts, I x.seg.beta, u3] ∧ Own 165 5 lo hi w u3 x.seg.hops.length (x.seg.hops.flatMap HopC) ∧ lo ≤ hi
theorem BeaconO.keep {lo hi : Nat} {w w' : World} {v : Value} {x : DBeacon} (h : BeaconO lo hi w v x) (hk : ∀ k, lo ≤ k → k < hi → k < w.heap.size → w'.heap[k]? = w.heap[k]?) : BeaconO lo hi w' v x := by
  obtain ⟨u3, e, o3, l0⟩ := h
  exact ⟨u3, e, o3.keep fun k h1 h2 h3 => hk k (by omega) (by omega) h3, l0⟩
theorem BeaconO.v {lo hi : Nat} {w : World} {v : Value} {x : DBeacon} (h : BeaconO lo hi w v x) : BeaconV hi w v x := by
  obtain ⟨u3, e, o3, l0⟩ := h
  have s3 := (o3.sl (At := HopAt) HopC.len (by omega) HopC.at_)
  obtain ⟨A3, n3, c3, rfl, _⟩ := id s3
  exact ⟨_, _, _, e, s3.keep HopAt.keeps (by omega) (fun _ _ => rfl)⟩
theorem BeaconO.shape {lo hi : Nat} {w : World} {v : Value} {x : DBeacon} (h : BeaconO lo hi w v x) : ∃ A3 n3 c3, v = .agg #[I x.ing, I x.seg.ts, I x.seg.beta, .slice A3 n3 c3] := by
  obtain ⟨A3, n3, c3, e, _⟩ := h.v
  exact ⟨A3, n3, c3, e⟩
theorem BeaconO.ext {lo hi : Nat} {w w' : World} {v : Value} {x : DBeacon} (h : BeaconO lo hi w v x) (he : Ext w w') (hhi : hi ≤ w.heap.size) : BeaconO lo hi w' v x := h.keep fun k _ _ h3 => he.same k h3
theorem BeaconO.drew {lo hi : Nat} {w : World} {v : Value} {x : DBeacon} (h : BeaconO lo hi w v x) : BeaconO lo hi w.drew v x := h.keep fun _ _ _ _ => rfl
theorem BeaconO.out {lo hi lo' hi' : Nat} {w w' : World} {v : Value} {x : DBeacon} (h : BeaconO lo hi w v x) (ho : Out lo' hi' w w') (hd : hi' ≤ lo ∨ hi ≤ lo') : BeaconO lo hi w' v x := h.keep fun k h1 h2 h3 => ho.block k h3 (by omega)
theorem BeaconO.more {lo hi lo' hi' : Nat} {w : World} {v : Value} {x : DBeacon} (h : BeaconO lo hi w v x) (h1 : lo' ≤ lo) (h2 : hi ≤ hi') : BeaconO lo' hi' w v x := by
  obtain ⟨u3, e, o3, l0⟩ := h
  exact ⟨u3, e, Own.more o3 h1 h2, by omega⟩
theorem BeaconO.up {lo : Nat} {w w' : World} {v : Value} {x : DBeacon} (h : BeaconO lo w.heap.size w v x) (he : Ext w w') : BeaconO lo w'.heap.size w' v x := (h.ext he (Nat.le_refl _)).more (Nat.le_refl _) he.size
theorem BeaconO.setT {lo hi g : Nat} {w : World} {v : Value} {x : DBeacon} {cs' : List Value} (h : BeaconO lo hi w v x) (hb : Blk w g 65 cs') (i : Nat) (u : Value) : BeaconO lo hi (w.setCell ⟨g, i, none⟩ u) v x := by
  obtain ⟨u3, e, o3, l0⟩ := h
  exact ⟨u3, e, Own.setT o3 hb (by decide) i u, l0⟩
theorem BeaconO_rd {lo hi : Nat} {w : World} {v : Value} {x : DBeacon} (h : BeaconO lo hi w v x) (hhi : hi ≤ w.heap.size) : BeaconV w.heap.size w v x := h.v.keep hhi (fun _ _ => rfl)
set_option maxRecDepth 100000 in
set_option maxHeartbeats 1000000 in
theorem toBeacon (v : Value) (x : DBeacon) (w : World) (h : BeaconV w.heap.size w v x) (hn : x.seg.hops.length ≤ 16777216) :
    Calls Tryz.prog 29 #[v] w fun e w' => ∃ v', e = .returned v' ∧ BeaconO w.heap.size w'.heap.size w' v' x ∧ Ext w w' := by
  obtain ⟨A3, n3, c3, rfl, s3⟩ := h
  have S3 := Lib.hid s3; clear s3
  go_enter Tryz.func29, Tryz.ntmps29
  go_wp2_with fail
  refine (toSegment _ x.seg _ (by exact ⟨_, _, _, rfl, S3.out.ext xe⟩) (by omega)).mono ?_
  rintro e w1 ⟨v1, rfl, ho1, he1⟩
  obtain ⟨hc1, hf1, hz1⟩ := he1.facts
  simp only [World.size_alloc] at hz1 hc1 hf1
  have la1 : w.heap.size < w1.heap.size := by omega
  have lb1 : w.heap.size + 1 < w1.heap.size := by omega
  have lc1 : w.heap.size + 1 + 1 < w1.heap.size := by omega
  obtain ⟨t3, hv1, o3, l1_0⟩ := ho1
  simp only [World.size_alloc] at o3
  subst hv1
  simp only [World.size_alloc] at l1_0
  have O3 := Lib.hid o3; clear o3
  obtain ⟨a3, m3, q3, hu3⟩ : ∃ a n c, t3 = .slice a n c := O3.out.slice
  subst hu3
  go_wp2_with fail
  refine bodyPost_ret (v := .agg #[I x.ing, I x.seg.ts, I x.seg.beta, .slice a3 m3 q3]) (by simp [results, Tryz.results29, go_sem, *]) rfl ⟨_, rfl, ?_, ?_⟩
  · simp only [World.size_setCell]
    refine ⟨_, rfl, Own.more (lo := w.heap.size + 1 + 1 + 1) (hi := w1.heap.size) (by repeat (first | (with_reducible exact O3.out) | (with_reducible refine Own.alloc ?_ _) | (with_reducible refine Own.setCell (p := _) ?_ (.inl ?ge) _; case ge => (first | omega | (dsimp only; omega) | (simp only [World.size_setCell]; omega) | (simp only [World.size_alloc]; omega))) | (with_reducible refine Own.ext ?_ (by with_reducible assumption) ?ge; case ge => (first | omega | (dsimp only; omega) | (simp only [World.size_setCell]; omega) | (simp only [World.size_alloc]; omega))))) (by omega) (by omega), by omega⟩
  · exact xe
set_option maxRecDepth 100000 in
set_option maxHeartbeats 1000000 in
theorem eqBeacon (v1 v2 : Value) (x y : DBeacon) (w : World) (h1 : BeaconV w.heap.size w v1 x) (h2 : BeaconV w.heap.size w v2 y) :
    Calls Tryz.prog 32 #[v1, v2] w fun e w' => e = .returned (.bool (decide (x = y))) ∧ Ext w w' := by
  obtain ⟨A13, n13, c13, rfl, s13⟩ := h1
  obtain ⟨A23, n23, c23, rfl, s23⟩ := h2
  have S13 := Lib.hid s13; clear s13
  have S23 := Lib.hid s23; clear s23
  go_enter Tryz.func32, Tryz.ntmps32
  go_wp2_with fail
  all_goals (try (go_ret; exact ⟨ret_bool (by simp_all [DBeacon.eq_iff]), xe⟩))
  refine (eqSegment _ _ x.seg y.seg _ (by exact ⟨_, _, _, rfl, S13.out.ext xe⟩) (by exact ⟨_, _, _, rfl, S23.out.ext xe⟩)).mono ?_
  rintro e w4 ⟨rfl, he4⟩
  obtain ⟨hc4, hf4, hz4⟩ := he4.facts
  go_wp2_with fail
  all_goals
    go_ret
    exact ⟨ret_bool (by simp_all [DBeacon.eq_iff]), xe⟩
set_option maxRecDepth 100000 in
set_option maxHeartbeats 1000000 in
theorem szBeacon (v : Value) (x : DBeacon) (left : Int) (w : World) (h : BeaconV w.heap.size w v x) (h0 : 0 ≤ left) (hl : left ≤ 1048576) :
    Calls Tryz.prog 26 #[v, I left] w fun e w' => e = .returned (I (szR (x.seg.hops.length) left)) ∧ Ext w w' := by
  obtain ⟨A3, n3, c3, rfl, s3⟩ := h
  have S3 := Lib.hid s3; clear s3
  go_enter Tryz.func26, Tryz.ntmps26
  go_wp2_with fail
  refine (szSegment _ x.seg (left) _ (by exact ⟨_, _, _, rfl, S3.out.ext xe⟩) (by omega) (by omega)).mono ?_
  rintro e w1 ⟨rfl, he1⟩
  obtain ⟨hc1, hf1, hz1⟩ := he1.facts
  by_cases hlt0 : left < (((x.seg.hops.length) : Nat) : Int)
  · rw [szR_neg hlt0]
    go_wp2_with fail
    go_ret
    exact ⟨ret_int (szR_neg (by omega)).symm, xe⟩
  · rw [szR_pos (by omega)]
    go_wp2_with fail
    go_ret
    exact ⟨ret_int (by rw [szR_pos (by omega)] <;> omega), xe⟩
/-- What marking from q on leaves. -/
def BeaconNum1 (q : Nat) (x : DBeacon) : DBeacon := { ing := x.ing, seg := { ts := x.seg.ts, beta := x.seg.beta, hops := (HopNum q x.seg.hops.length) } }
set_option maxRecDepth 100000 in
set_option maxHeartbeats 1000000 in
theorem markBeacon (v : Value) (x : DBeacon) (q lo hi : Nat) (w : World) (h : BeaconO lo hi w v x) (hhi : hi ≤ w.heap.size) (hq : (q + 5 * x.seg.hops.length) ≤ 1000000000000000) :
    Calls Tryz.prog 34 #[v, I q] w fun e w' => e = .returned (I (((q + 5 * x.seg.hops.length) : Nat) : Int)) ∧ BeaconO lo hi w' v (BeaconNum1 q x) ∧ Out lo hi w w' := by
  obtain ⟨u3, rfl, o3, l0⟩ := h
  have O3 := Lib.hid o3; clear o3
  obtain ⟨a3, k3, c3, hv3⟩ := O3.out.slice
  subst hv3
  go_enter Tryz.func34, Tryz.ntmps34
  go_wp2_with fail
  refine (markSegment _ x.seg q lo hi _ (by exact ⟨_, rfl, (by repeat (first | (with_reducible exact O3.out) | (with_reducible refine Own.ext ?_ (by with_reducible assumption) ?ge; case ge => (first | omega | (simp only [World.size_alloc]; omega))) | (with_reducible refine Own.out ?_ (by with_reducible assumption) ?ge; case ge => omega) | (with_reducible refine Own.alloc ?_ _))), l0⟩) (by first | omega | (simp only [World.size_alloc]; omega)) (by omega)).mono ?_
  rintro e w1 ⟨rfl, p1, t1⟩
  obtain ⟨y1, hy1, p1, -⟩ := p1
  simp only [SegmentNum1] at p1
  have P3 := Lib.hid p1; clear p1
  obtain rfl : y1 = .slice a3 k3 c3 := by simp [SegmentNum1] at hy1; exact hy1.symm
  clear hy1
  have z1 := t1.size
  have hc1 : ∀ k o, k < lo ∨ hi ≤ k → k < _ → w1.cell? ⟨k, o, none⟩ = _ := fun k o h1 h2 => World.cell?_of_block (a := ⟨k, o, none⟩) (t1.block k h2 (by omega))
  simp only [World.size_alloc] at z1
  have lw1 : w.heap.size < w1.heap.size := by omega
  go_wp2_with fail
  go_ret
  have hOut : Out lo hi w w1 := (Out.trans (Out.of_ext xe) (t1.mono (by omega) (by omega)))
  have HOUT := Lib.hid hOut; clear hOut
  exact ⟨rfl, ⟨_, rfl, (by unfold BeaconNum1; dsimp only; exact (by repeat (first | (with_reducible exact P3.out) | (with_reducible refine Own.ext ?_ (by with_reducible assumption) ?ge; case ge => (first | omega | (simp only [World.size_alloc]; omega))) | (with_reducible refine Own.out ?_ (by with_reducible assumption) ?ge; case ge => omega) | (with_reducible refine Own.alloc ?_ _)))), l0⟩, HOUT.out⟩
/-- The cells cs of a Beacon and the blocks that it owns. -/
def BeaconOC (w : World) (fp : List Nat) (cs : List Value) (x : DBeacon) : Prop := ∃ u3, cs = [I x.ing, I x.seg.ts, I x.seg.beta, u3] ∧ w.ownsRow 0 165 5 u3 x.seg.hops.length (x.seg.hops.flatMap HopC) ∧ fp = u3.ownBlock.toList
theorem BeaconOC.keeps : OKeeps BeaconOC := by
  intro w w' fp cs x hk h
  obtain ⟨u3, e, r3, ef⟩ := h
  exact ⟨u3, e, ownsRow_keep r3 (fun b hb => hk b (by rw [ef]; simp [hb])), ef⟩
theorem BeaconOC.at_ (B : Nat) (w : World) (b o : Nat) (fp : List Nat) (cs : List Value) (x : DBeacon) (h : BeaconOC w fp cs x) (hb : ∀ b ∈ fp, b < B) (hc : ∀ j u, cs[j]? = some u → w.cell? ⟨b, o + j, none⟩ = some u) : BeaconAt B w b o x := by
  obtain ⟨u3, rfl, r3, ef⟩ := h
  have s3 : HopS B w u3 x.seg.hops := Own.sl (lo := 0) (n := x.seg.hops.length) (At := HopAt) ⟨r3, fun k hk => hb k (by rw [ef]; simp [hk])⟩ HopC.len (by omega) HopC.at_
  obtain ⟨A3, n3, c3, e3, _⟩ := id s3
  subst e3
  exact ⟨A3, n3, c3, hc 0 _ rfl, hc 1 _ rfl, hc 2 _ rfl, hc 3 _ rfl, s3⟩
theorem BeaconOC.one : OOne BeaconOC := by
  intro w fp cs x h
  obtain ⟨u3, rfl, r3, ef⟩ := h
  obtain ⟨a3, m3, c3, e3⟩ := ownsRow_slice r3
  subst e3
  intro u hu
  simp only [List.mem_cons, List.not_mem_nil, or_false] at hu
  rcases hu with rfl | rfl | rfl | rfl <;> rfl
theorem BeaconOC.typed (T : Nat) (n0 : 165 ≠ T) : OTyped BeaconOC T := by
  intro w fp cs x g cs' h hb
  obtain ⟨u3, e, r3, ef⟩ := h
  subst ef
  intro hm
  exact ownsRow_typed r3 hb n0 hm
theorem BeaconOC.len {w : World} {fp : List Nat} {cs : List Value} {x : DBeacon} (h : BeaconOC w fp cs x) : cs.length = 4 := by
  obtain ⟨u3, rfl, _⟩ := h
  rfl
theorem BeaconO.to_oc {lo hi : Nat} {w : World} {v : Value} {x : DBeacon} (h : BeaconO lo hi w v x) : ∃ a3 k3 q3 fp, v = .agg #[I x.ing, I x.seg.ts, I x.seg.beta, .slice a3 k3 q3] ∧ BeaconOC w fp [I x.ing, I x.seg.ts, I x.seg.beta, .slice a3 k3 q3] x ∧ fp.Nodup ∧ ∀ b ∈ fp, lo ≤ b ∧ b < hi := by
  obtain ⟨u3, e, o3, l0⟩ := h
  obtain ⟨a3, k3, q3, hu3⟩ : ∃ a n c, u3 = .slice a n c := o3.slice
  have b3 : ∀ b ∈ u3.ownBlock.toList, lo ≤ b ∧ b < hi := fun b hb => ⟨(o3.1.lt b (by simpa using hb)).1, o3.2 b (by simpa using hb)⟩
  have d3 : (u3.ownBlock.toList).Nodup := by cases u3.ownBlock <;> simp
  subst hu3
  exact ⟨a3, k3, q3, (Value.slice a3 k3 q3).ownBlock.toList, e, ⟨_, rfl, (o3.more (Nat.zero_le _) (Nat.le_refl _)).1, rfl⟩, d3, b3⟩
/-- A []Beacon of the call's own. -/
abbrev BeaconSO (lo hi : Nat) (w : World) (v : Value) (xs : List DBeacon) : Prop := NO BeaconOC 65 4 lo hi w v xs
theorem BeaconSO_rd {lo hi : Nat} {w : World} {v : Value} {xs : List DBeacon} (h : BeaconSO lo hi w v xs) (hhi : hi ≤ w.heap.size) : BeaconS w.heap.size w v xs := (NO.sl (At := BeaconAt) h (fun _ => rfl) BeaconOC.at_).keep BeaconAt.keeps hhi (fun _ _ => rfl)
theorem BeaconSO_ext {lo hi : Nat} {w w' : World} {v : Value} {xs : List DBeacon} (h : BeaconSO lo hi w v xs) (he : Ext w w') (_hhi : hi ≤ w.heap.size) : BeaconSO lo hi w' v xs := NO.keep BeaconOC.keeps h fun k _ _ h3 => he.same k h3
theorem BeaconSO_out {lo hi : Nat} {lo' hi' : Nat} {w w' : World} {v : Value} {xs : List DBeacon} (h : BeaconSO lo hi w v xs) (ho : Out lo' hi' w w') (hd : hi' ≤ lo ∨ hi ≤ lo') : BeaconSO lo hi w' v xs := NO.keep BeaconOC.keeps h fun k h1 h2 h3 => ho.block k h3 (by omega)
theorem BeaconSO_drew {lo hi : Nat} {w : World} {v : Value} {xs : List DBeacon} (h : BeaconSO lo hi w v xs) : BeaconSO lo hi w.drew v xs := NO.keep BeaconOC.keeps h fun _ _ _ _ => rfl
theorem BeaconSO_alloc {lo hi : Nat} {w : World} {v : Value} {xs : List DBeacon} (h : BeaconSO lo hi w v xs) (o : Obj) : BeaconSO lo hi (w.alloc o) v xs := NO.keep BeaconOC.keeps h fun k _ _ h3 => Below.heap_alloc w o k h3
theorem BeaconSO_setCell {lo hi : Nat} {w : World} {v : Value} {xs : List DBeacon} (h : BeaconSO lo hi w v xs) {p : Addr} (hp : p.block < lo ∨ hi ≤ p.block) (u : Value) : BeaconSO lo hi (w.setCell p u) v xs := NO.keep BeaconOC.keeps h fun k h1 h2 _ => Below.heap_setCell _ _ _ _ (by omega)
theorem BeaconSO_keep {lo hi : Nat} {w w' : World} {v : Value} {xs : List DBeacon} (h : BeaconSO lo hi w v xs) (hk : ∀ k, lo ≤ k → k < hi → k < w.heap.size → w'.heap[k]? = w.heap[k]?) : BeaconSO lo hi w' v xs := NO.keep BeaconOC.keeps h hk
set_option maxRecDepth 100000 in
set_option maxHeartbeats 1000000 in
theorem toBeaconS (v : Value) (ds : List DBeacon) (w : World) (h : BeaconS w.heap.size w v ds) (hn : totS (fun y => y.seg.hops.length) ds ≤ 16777216) :
    Calls Tryz.prog 28 #[v] w fun e w' => ∃ v', e = .returned v' ∧ BeaconSO w.heap.size w'.heap.size w' v' ds ∧ Ext w w' := by
  obtain ⟨A, n, c, rfl, hl, -⟩ := id h
  subst hl
  have hn : ds.length + (ds.map fun y => y.seg.hops.length).sum ≤ 16777216 := hn
  have hmk := run_mk (P := Tryz.prog) 61 65 (.agg #[.int .i64 0, .int .i64 0, .int .i64 0, .slice none 0 0]) 4 48 Tryz.underlying61 info_Beacon ds.length (by omega) (by omega)
  have hml := mkRow_len (.agg #[.int .i64 0, .int .i64 0, .int .i64 0, .slice none 0 0]) (ds.length * 4)
  generalize mkRow (.agg #[.int .i64 0, .int .i64 0, .int .i64 0, .slice none 0 0]) (ds.length * 4) = mr at *
  have H := Lib.hid h; clear h
  have HM := Lib.hid hml; clear hml
  go_enter Tryz.func28, Tryz.ntmps28
  go_wp2
  go_loopw [4] (fun i wr => ∃ (k : Nat) (cs rest : List Value) (fp : List Nat), k ≤ ds.length ∧ i = I k ∧ Blk wr w.heap.size 65 (cs ++ rest) ∧ OL BeaconOC 4 wr (ds.take k) fp cs ∧ (w.heap.size :: fp).Nodup ∧ (∀ b ∈ fp, w.heap.size < b ∧ b < wr.heap.size) ∧ rest.length = (ds.length - k) * 4 ∧ Ext w wr) (fun i _ => ds.length - (intOf i).toNat)
  case atStart => exact ⟨0, [], mr.toList, [], by omega, rfl, by simpa using Blk.new w 65 mr.toList, ⟨rfl, rfl⟩, by simp, by simp, by simpa using HM.out, (Ext.refl _).alloc _⟩
  case round =>
    obtain ⟨k, cs, rest, fp, hk, rfl, hb, hol, hnd, hbd, hr, he⟩ := hrel
    have HE := Lib.hid he
    have HB := Lib.hid hb; clear hb
    have HOL := Lib.hid hol; clear hol
    have HND := Lib.hid hnd; clear hnd
    have HBD := Lib.hid hbd; clear hbd
    by_cases hlt : k < ds.length
    · obtain ⟨b, off, rfl, hbb, _, hc⟩ := (H.out.ext he).at_ hlt
      have hsm := sum_mem (fun y => y.seg.hops.length) ds k hlt
      obtain ⟨r0, r1, r2, r3, rest, rfl⟩ : ∃ r0 r1 r2 r3 rest', rest = r0 :: r1 :: r2 :: r3 :: rest' := by
        match rest, hr with
        | r0 :: r1 :: r2 :: r3 :: rest, _ => exact ⟨r0, r1, r2, r3, rest, rfl⟩
        | [], h => simp at h; omega
        | [_], h => simp at h; omega
        | [_, _], h => simp at h; omega
        | [_, _, _], h => simp at h; omega
      have hlr : rest.length = (ds.length - (k + 1)) * 4 := by simp only [List.length_cons] at hr; omega
      have HR := Lib.hid hlr; clear hr he hlr
      have HX := Lib.hid (take_snoc ds k hlt)
      generalize ds[k] = x at *
      obtain ⟨A3, n3, c3, hc0, hc1, hc2, hc3, s3⟩ := hc
      have S3 := Lib.hid s3; clear s3
      have hp : cs.length = k * 4 := by rw [HOL.out.len, List.length_take, Nat.min_eq_left hk]
      have HP := Lib.hid hp; clear hp
      have hwg : w.heap.size < wr.heap.size := HB.out.lt
      go_wp2_with fail
      refine (toBeacon _ x _ (by exact ⟨_, _, _, rfl, S3.out⟩) (by omega)).mono ?_
      rintro e w1 ⟨v1, rfl, ho1, he1⟩
      obtain ⟨a3, k3, q3, f1, rfl, hoc, hn1, hb1⟩ := ho1.to_oc
      have HOC := Lib.hid hoc; have HN1 := Lib.hid hn1; have HB1F := Lib.hid hb1; clear hoc hn1 hb1 ho1
      have HB1 := Lib.hid (HB.out.below he1.below hwg)
      have hz1 := he1.size
      have HE1 := Lib.hid he1
      clear he1
      obtain ⟨hu0, hu1, hu2, hu3⟩ := cells_at4 HB1.out HP.out
      have hf0 := HB1.out.frozen (k * 4)
      have hf1 := HB1.out.frozen (k * 4 + 1)
      have hf2 := HB1.out.frozen (k * 4 + 2)
      have hf3 := HB1.out.frozen (k * 4 + 3)
      go_wp2
      go_roundw
      case rel =>
        obtain ⟨g1, g2, g3⟩ := nest_step (w2 := ((((w1.setCell ⟨w.heap.size, k * 4, none⟩ (I x.ing)).setCell ⟨w.heap.size, k * 4 + 1, none⟩ (I x.seg.ts)).setCell ⟨w.heap.size, k * 4 + 2, none⟩ (I x.seg.beta)).setCell ⟨w.heap.size, k * 4 + 3, none⟩ (.slice a3 k3 q3))) BeaconOC.keeps HOL.out HE1.out HOC.out rfl HBD.out HND.out HN1.out HB1F.out hwg (fun b hb => (Eq.trans (Below.heap_setCell _ ⟨w.heap.size, k * 4 + 3, none⟩ _ b hb) (Eq.trans (Below.heap_setCell _ ⟨w.heap.size, k * 4 + 2, none⟩ _ b hb) (Eq.trans (Below.heap_setCell _ ⟨w.heap.size, k * 4 + 1, none⟩ _ b hb) (Below.heap_setCell _ ⟨w.heap.size, k * 4, none⟩ _ b hb))))) (by simp only [World.size_setCell])
        refine ⟨k + 1, cs ++ [I x.ing, I x.seg.ts, I x.seg.beta, .slice a3 k3 q3], rest, fp ++ f1, by omega, by go_num, ?_, ?_, g2, g3, HR.out, ?_⟩
        · have := (((HB1.out.set_ (k * 4) (I x.ing)).set_ (k * 4 + 1) (I x.seg.ts)).set_ (k * 4 + 2) (I x.seg.beta)).set_ (k * 4 + 3) (.slice a3 k3 q3)
          rw [set_at4 _ _ _ _ _ _ _ _ _ _ _ HP.out] at this
          simpa using this
        · rw [HX.out]
          exact g1
        · exact ((((HE.out.trans HE1.out).setCell (by simp) _).setCell (by simp) _).setCell (by simp) _).setCell (by simp) _
      case measure => simp [intOf]; omega
    · have HR := Lib.hid hr; clear hr he
      go_wp2
      go_ret
      have e : k = ds.length := by omega
      have hr := HR.out
      subst e
      obtain rfl : rest = [] := List.eq_nil_of_length_eq_zero (by simpa using hr)
      have hb := HB.out
      have hol := HOL.out
      rw [List.append_nil] at hb
      rw [List.take_length] at hol
      exact ⟨_, rfl, ⟨cs, fp, Own.of_blk hb hol.len (by unfold maxLen; omega) (Nat.le_refl _) hb.lt, hol, by simpa [Value.ownBlock] using HND.out, fun b hb => ⟨by have := (HBD.out b hb).1; omega, (HBD.out b hb).2⟩⟩, HE.out⟩
set_option maxRecDepth 100000 in
set_option maxHeartbeats 1000000 in
theorem eqBeaconS (v1 v2 : Value) (xs ys : List DBeacon) (w : World) (h1 : BeaconS w.heap.size w v1 xs) (h2 : BeaconS w.heap.size w v2 ys) :
    Calls Tryz.prog 31 #[v1, v2] w fun e w' => e = .returned (.bool (decide (xs = ys))) ∧ Ext w w' := by
  obtain ⟨A1, n1, c1, rfl, hl1, hn1, hm1, -⟩ := id h1
  obtain ⟨A2, n2, c2, rfl, hl2, hn2, hm2, -⟩ := id h2
  unfold maxLen at hm1 hm2
  have H1 := Lib.hid h1; have H2 := Lib.hid h2; have E1 := Lib.hid hl1; have E2 := Lib.hid hl2; clear h1 h2 hl1 hl2
  by_cases hn : n1 = n2
  · subst hn
    go_enter Tryz.func31, Tryz.ntmps31
    go_wp2
    go_loopw [5] (fun i wr => ∃ k : Nat, k ≤ n1 ∧ i = I k ∧ xs.take k = ys.take k ∧ Ext w wr) (fun i _ => n1 - (intOf i).toNat)
    case atStart => exact ⟨0, by omega, rfl, by simp, Ext.refl _⟩
    case round =>
      obtain ⟨k, hk, rfl, hq, he⟩ := hrel
      have HQ := Lib.hid hq; clear hq
      have HE := Lib.hid he; clear he
      by_cases hlt : k < n1
      · obtain ⟨b1, o1, rfl, hb1, hk1, hc1⟩ := (H1.out.ext HE.out).at_ hlt
        obtain ⟨b2, o2, rfl, hb2, hk2, hc2⟩ := (H2.out.ext HE.out).at_ hlt
        have i0 : (0 : Int) ≤ (k : Int) := by omega
        have i1 : (k : Int) < (n1 : Int) := by omega
        have X1 := Lib.hid (take_snoc xs k hk1)
        have X2 := Lib.hid (take_snoc ys k hk2)
        have hne : ¬ xs[k] = ys[k] → xs ≠ ys := fun hne h => hne (by subst h; rfl)
        have HN := Lib.hid hne; clear hne
        generalize xs[k] = x at *
        generalize ys[k] = y at *
        obtain ⟨A13, n13, c13, h10, h11, h12, h13, s13⟩ := hc1
        obtain ⟨A23, n23, c23, h20, h21, h22, h23, s23⟩ := hc2
        have S13 := Lib.hid s13; clear s13
        have S23 := Lib.hid s23; clear s23
        go_wp2_with fail
        go_region_held3 (fun W => wr.heap.size ≤ W.heap.size ∧ ∀ b o, b < wr.heap.size → W.cell? ⟨b, o, none⟩ = wr.cell? ⟨b, o, none⟩)
          (first | exact ⟨Nat.le_refl _, fun _ _ _ => rfl⟩ | exact keepC (by assumption) he1)
          (first | (go_at_call 32; refine (eqBeacon _ _ x y _ (by exact ⟨_, _, _, rfl, S13.out.ext xe⟩) (by exact ⟨_, _, _, rfl, S23.out.ext xe⟩)).mono ?_; rintro e w1 ⟨rfl, he1⟩))
        have HE1 := Lib.hid (HE.out.drew.trans he1)
        have hdd : decide (x = y) = true ↔ x = y := decide_eq_true_iff
        have HD := Lib.hid hdd; clear hdd
        generalize decide (x = y) = bb at *
        cases bb
        · have hxy : ¬ x = y := fun h => by have := HD.out.2 h; cases this
          have HXY := Lib.hid hxy; clear hxy
          go_wp2
          go_ret
          exact ⟨ret_bool (by simp [HN.out HXY.out]), HE1.out⟩
        · have HXY := Lib.hid (HD.out.1 rfl)
          go_wp2
          go_roundw
          case rel => exact ⟨k + 1, by omega, by go_num, by rw [X1.out, X2.out, HQ.out, HXY.out], HE1.out⟩
          case measure => simp [intOf]; omega
      · go_wp2
        go_ret
        have h := HQ.out
        rw [List.take_of_length_le (by rw [E1.out]; omega), List.take_of_length_le (by rw [E2.out]; omega)] at h
        exact ⟨ret_bool (by simp [h]), HE.out⟩
  · have hb : ((n1 : Int) == (n2 : Int)) = false := by simp; omega
    have hb' : ((n1 : Int) != (n2 : Int)) = true := by simp; omega
    have HN := Lib.hid hn; clear hn
    go_enter Tryz.func31, Tryz.ntmps31
    go_wp2
    go_ret
    have : xs ≠ ys := fun h => HN.out (by rw [← E1.out, ← E2.out, h])
    exact ⟨ret_bool (by simp [this]), Ext.refl _⟩
set_option maxRecDepth 100000 in
set_option maxHeartbeats 1000000 in
theorem szBeaconS (v : Value) (ds : List DBeacon) (left : Int) (w : World) (h : BeaconS w.heap.size w v ds) (h0 : 0 ≤ left) (hl : left ≤ 1048576) :
    Calls Tryz.prog 25 #[v, I left] w fun e w' => e = .returned (I (szR (totS (fun y => y.seg.hops.length) ds) left)) ∧ Ext w w' := by
  obtain ⟨A, n, c, rfl, hl1, hn1, hm1, -⟩ := id h
  unfold maxLen at hm1
  subst hl1
  have H := Lib.hid h; clear h
  have HT : Hid (totS (fun y => y.seg.hops.length) ds = ds.length + (ds.map fun y => y.seg.hops.length).sum) := rfl
  by_cases hlt : left < (ds.length : Int)
  · have HF := Lib.hid (szR_neg (t := totS (fun y => y.seg.hops.length) ds) (left := left) (by rw [HT.out]; omega))
    go_enter Tryz.func25, Tryz.ntmps25
    go_wp2
    go_ret
    exact ⟨ret_int HF.out.symm, Ext.refl _⟩
  · go_enter Tryz.func25, Tryz.ntmps25
    go_wp2
    go_loopw [1, 5] (fun l i wr => ∃ (k : Nat) (z : Int), k ≤ ds.length ∧ i = I k ∧ l = I z ∧ z = left - ds.length - (((ds.take k).map fun y => y.seg.hops.length).sum : Nat) ∧ 0 ≤ z ∧ Ext w wr) (fun _ i _ => ds.length - (intOf i).toNat)
    case atStart => exact ⟨0, left - ds.length, by omega, rfl, rfl, by simp, by omega, Ext.refl _⟩
    case round =>
      obtain ⟨k, z, hk, rfl, rfl, hz, hz0, he⟩ := hrel
      have hzl : z ≤ 1048576 := by omega
      have HZ := Lib.hid hz; clear hz
      have HE := Lib.hid he; clear he
      by_cases hkn : k < ds.length
      · obtain ⟨b, off, rfl, hbb, _, hc⟩ := (H.out.ext HE.out).at_ hkn
        have HS := Lib.hid (sum_take (fun y => y.seg.hops.length) ds k hkn)
        have HS2 := Lib.hid (sum_take_le (fun y => y.seg.hops.length) ds (k + 1))
        generalize ds[k] = x at *
        obtain ⟨A3, n3, c3, hc0, hc1, hc2, hc3, s3⟩ := hc
        have S3 := Lib.hid s3; clear s3
        go_wp2_with fail
        refine (szBeacon _ x z _ (by exact ⟨_, _, _, rfl, S3.out⟩) (by omega) (by omega)).mono ?_
        rintro e w1 ⟨rfl, he1⟩
        by_cases hx : z < ((x.seg.hops.length : Nat) : Int)
        · rw [szR_neg hx]
          go_wp2_with fail
          go_ret
          refine ⟨ret_int (szR_neg ?_).symm, HE.out.trans he1⟩
          rw [HT.out]
          have h1 := HZ.out; have h2 := HS.out; have h3 := HS2.out
          omega
        · rw [szR_pos (by omega)]
          go_wp2_with fail
          go_roundw
          case rel =>
            refine ⟨k + 1, z - ((x.seg.hops.length : Nat) : Int), by omega, by go_num, rfl, ?_, by omega, HE.out.trans he1⟩
            rw [HS.out, HZ.out]
            omega
          case measure => simp [intOf]; omega
      · go_wp2_with fail
        go_ret
        obtain rfl : k = ds.length := by omega
        have h1 := HZ.out
        rw [List.take_length] at h1
        refine ⟨ret_int ?_, HE.out⟩
        rw [szR_pos (by rw [HT.out]; omega), HT.out, h1]
        omega
/-- How many numbers an element takes, and the element with its numbers from q on. -/
def BeaconCnt (x : DBeacon) : Nat := 3 + 5 * x.seg.hops.length
def BeaconNumE (q : Nat) (x : DBeacon) : DBeacon := ⟨(q : Int), ⟨(q : Int) + 1, (q : Int) + 1 + 1, (HopNum (q + 3) x.seg.hops.length)⟩⟩
theorem BeaconCnt_le (x : DBeacon) : BeaconCnt x ≤ 10 + 10 * (x.seg.hops.length) := by
  unfold BeaconCnt
  omega
theorem BeaconCnt_sum (l : List DBeacon) : (l.map BeaconCnt).sum ≤ 10 * (totS (fun y => y.seg.hops.length) l) := cnt_le (fun x => BeaconCnt_le x) l
set_option maxRecDepth 100000 in
set_option maxHeartbeats 1000000 in
theorem markBeaconS_row (v : Value) (xs : List DBeacon) (q : Nat) (qi : Int) (w : World) (cs : List Value) (fp : List Nat) (ho : w.ownsRow 0 65 4 v xs.length cs) (hl : OL BeaconOC 4 w xs fp cs) (hn : (v.ownBlock.toList ++ fp).Nodup) (hqi : qi = (q : Int)) (hq : q + (xs.map BeaconCnt).sum ≤ 1000000000000000) :
    Calls Tryz.prog 33 #[v, I qi] w fun e w' => e = .returned (I ((q + (xs.map BeaconCnt).sum : Nat) : Int)) ∧ (∃ cs', w'.ownsRow 0 65 4 v xs.length cs' ∧ OL BeaconOC 4 w' (numS BeaconNumE BeaconCnt q xs) fp cs') ∧ OutF (v.ownBlock.toList ++ fp) w w' := by
  subst hqi
  rcases Own.cases (hi := w.heap.size) ⟨ho, fun k hk => (ho.lt k hk).2⟩ with ⟨rfl, h0, hx⟩ | ⟨g, cap, rest, rfl, h1, h2, hb, hlc, hnn, hm, hs⟩
  · obtain rfl : xs = [] := List.eq_nil_of_length_eq_zero h0
    subst hx
    have HL := Lib.hid hl; clear hl ho hn h0
    go_enter Tryz.func33, Tryz.ntmps33
    go_wp2
    go_loop [1, 5] (fun k i => k = I q ∧ i = I 0) (fun _ _ => 0)
    case atStart => exact ⟨rfl, rfl⟩
    case round =>
      obtain ⟨rfl, rfl⟩ := hrel
      go_wp2
      go_ret
      exact ⟨rfl, ⟨[], World.ownsRow_nil _ _ _ _, HL.out⟩, OutF.refl _ _⟩
  · have hnd : (g :: fp).Nodup := by simpa [Value.ownBlock] using hn
    have M0 := Lib.hid (MInv.start (f := BeaconNumE) (c := BeaconCnt) (q := q) hb hl)
    have HND := Lib.hid hnd
    have HS := Lib.hid hs
    have HLC := Lib.hid hl.len
    clear ho hl hn hb hlc hs hnd
    unfold maxLen at hm
    go_enter Tryz.func33, Tryz.ntmps33
    go_wp2
    go_loopw [1, 5] (fun k i wr => ∃ j p : Nat, j ≤ xs.length ∧ k = I p ∧ i = I j ∧ MInv BeaconOC 4 BeaconNumE BeaconCnt 65 g rest fp xs q w wr j p) (fun _ i _ => xs.length - (intOf i).toNat)
    case atStart => exact ⟨0, q, by omega, rfl, rfl, M0.out⟩
    case round =>
      obtain ⟨j, p, hj, rfl, rfl, hM⟩ := hrel
      have HM := Lib.hid hM; clear hM M0
      by_cases hlt : j < xs.length
      · have hpb : p + BeaconCnt xs[j] ≤ 1000000000000000 := by
          have h1 := HM.out.1
          have h2 := sum_take BeaconCnt xs j hlt
          have h3 := sum_take_le BeaconCnt xs (j + 1)
          omega
        obtain ⟨f1, pre, post, c1, hoc, hpl, hbl, hg, hf, hgo⟩ := HM.out.step BeaconOC.keeps HND.out hlt
        have HGO := Lib.hid hgo; clear hgo
        have HF := Lib.hid hf; clear hf
        generalize xs[j] = x at *
        unfold BeaconCnt at hpb
        obtain ⟨u3, rfl, r3, rfl⟩ := hoc
        have R3 := Lib.hid r3; clear r3
        obtain ⟨A3, n3, c3, hu3⟩ := ownsRow_slice R3.out
        subst hu3
        have G3 : Hid (g ∉ (Value.slice A3 n3 c3).ownBlock.toList) := fun hm => hg (by first | exact hm | (simp only [List.mem_append] at hm ⊢; simp [hm]))
        clear hg
        have HPL := Lib.hid hpl; clear hpl
        have B0 := Lib.hid hbl; clear hbl
        simp only [List.cons_append, List.nil_append] at B0
        have lg : g < wr.heap.size := B0.out.lt
        obtain ⟨hu0, hu1, hu2, hu3⟩ := cells_at4 B0.out HPL.out
        have hf0 := B0.out.frozen (j * 4)
        have hf1 := B0.out.frozen (j * 4 + 1)
        have hf2 := B0.out.frozen (j * 4 + 2)
        have hf3 := B0.out.frozen (j * 4 + 3)
        go_wp2_with fail
        refine (markHopS_row _ x.seg.hops (p + 3) ((p : Int) + 1 + 1 + 1) _ (by exact ownsRow_set (ownsRow_set (ownsRow_set (R3.out) G3.out) G3.out) G3.out) (by omega) (by omega)).mono ?_
        rintro e w3 ⟨rfl, r3, t3⟩
        have R3' := Lib.hid r3; clear r3
        have T3 := Lib.hid t3; clear t3
        have B3' := Blk.outF (Blk.set_ (Blk.set_ (Blk.set_ (B0.out) (j * 4) (I ((p : Int)))) (j * 4 + 1) (I ((p : Int) + 1))) (j * 4 + 2) (I ((p : Int) + 1 + 1))) T3.out G3.out
        have B3 : Hid (Blk w3 g 65 (pre ++ (I ((p : Int)) :: I ((p : Int) + 1) :: I ((p : Int) + 1 + 1) :: .slice A3 n3 c3 :: post))) := by
          unfold Hid
          have h := B3'
          rw [← HPL.out] at h
          simpa using h
        clear B3'
        have z3 := T3.out.size
        simp only [World.size_setCell] at z3
        have lg3 : g < w3.heap.size := by omega
        obtain ⟨hv3_0, hv3_1, hv3_2, hv3_3⟩ := cells_at4 B3.out HPL.out
        have hg3_0 := B3.out.frozen (j * 4)
        have hg3_1 := B3.out.frozen (j * 4 + 1)
        have hg3_2 := B3.out.frozen (j * 4 + 2)
        have hg3_3 := B3.out.frozen (j * 4 + 3)
        have hOC : BeaconOC w3 ((Value.slice A3 n3 c3).ownBlock.toList) [I ((p : Int)), I ((p : Int) + 1), I ((p : Int) + 1 + 1), .slice A3 n3 c3] (BeaconNumE p x) := ⟨_, rfl, (by unfold BeaconNumE; dsimp only; rw [HopNum_len]; exact R3'.out), rfl⟩
        have HOC := Lib.hid hOC; clear hOC
        have hOU : OutF (g :: ((Value.slice A3 n3 c3).ownBlock.toList)) wr w3 := (by repeat (first | (with_reducible exact OutF.refl _ _) | (with_reducible refine OutF.setCell ?_ ?ge _; case ge => simp) | (with_reducible refine OutF.trans ?_ (T3.out.mono (fun x hx => List.mem_cons_of_mem _ (by first | exact hx | (simp only [List.mem_append] at hx ⊢; simp [hx])))))))
        have HOU := Lib.hid hOU; clear hOU
        go_wp2_with fail
        go_roundw
        case rel =>
          exact ⟨j + 1, p + BeaconCnt x, by omega, by simp only [BeaconCnt, Value.int.injEq, true_and]; omega, by go_num, HGO.out _ _ HOC.out rfl B3.out HOU.out⟩
        case measure => simp [intOf]; omega
      · go_wp2_with fail
        go_ret
        obtain rfl : j = xs.length := by omega
        obtain ⟨hp, cs', hb', hl', ho'⟩ := HM.out.stop
        subst hp
        have hs := HS.out
        have e1 : cs'.length = cs.length := by rw [hl'.len, numS_len, HLC.out]
        refine ⟨rfl, ⟨cs', row_of_blk hb' (by rw [hl'.len, numS_len]) hnn (by unfold maxLen; omega) (by rw [← hs, List.length_append, List.length_append, e1]), hl'⟩, by simpa [Value.ownBlock] using ho'⟩
theorem markBeaconS (v : Value) (xs : List DBeacon) (q lo hi : Nat) (w : World) (h : BeaconSO lo hi w v xs) (hq : q + (xs.map BeaconCnt).sum ≤ 1000000000000000) :
    Calls Tryz.prog 33 #[v, I q] w fun e w' => e = .returned (I ((q + (xs.map BeaconCnt).sum : Nat) : Int)) ∧ BeaconSO lo hi w' v (numS BeaconNumE BeaconCnt q xs) ∧ Out lo hi w w' :=
  calls_NO numS_len h fun cs fp h1 h2 h3 => markBeaconS_row v xs q q w cs fp h1 h2 h3 rfl hq
set_option maxRecDepth 100000 in
set_option maxHeartbeats 1000000 in
theorem heldBeaconS (v : Value) (xs : List DBeacon) (q : Nat) (w : World) (h : BeaconS w.heap.size w v (numS BeaconNumE BeaconCnt q xs)) (hq : q + (xs.map BeaconCnt).sum ≤ 1000000000000000) :
    Calls Tryz.prog 35 #[v, I q] w fun e w' => e = .returned (I ((q + (xs.map BeaconCnt).sum : Nat) : Int)) ∧ Ext w w' := by
  obtain ⟨A, n', c, rfl, hl, hn, hm, -⟩ := id h
  rw [numS_len] at hl
  subst hl
  have H := Lib.hid h; clear h
  unfold maxLen at hm
  go_enter Tryz.func35, Tryz.ntmps35
  go_wp2
  go_loopw [1, 5] (fun k i wr => ∃ j p : Nat, j ≤ xs.length ∧ p = q + ((xs.take j).map BeaconCnt).sum ∧ k = I p ∧ i = I j ∧ Ext w wr) (fun _ i _ => xs.length - (intOf i).toNat)
  case atStart => exact ⟨0, q, by omega, by simp, rfl, rfl, Ext.refl _⟩
  case round =>
    obtain ⟨j, p, hj, hp, rfl, rfl, he⟩ := hrel
    have HPQ := Lib.hid hp; clear hp
    by_cases hlt : j < xs.length
    · have hpb : p + BeaconCnt xs[j] ≤ 1000000000000000 := by
        have h1 := HPQ.out
        have h2 := sum_take BeaconCnt xs j hlt
        have h3 := sum_take_le BeaconCnt xs (j + 1)
        omega
      have HPN : Hid (p + BeaconCnt xs[j] = q + ((xs.take (j + 1)).map BeaconCnt).sum) := by
        unfold Hid
        rw [sum_take BeaconCnt xs j hlt, HPQ.out]
        omega
      obtain ⟨b, off, rfl, hb, hk, hc⟩ := (H.out.ext he).at_ hlt
      rw [numS_get _ _ _ hlt, ← HPQ.out] at hc
      generalize xs[j] = x at *
      unfold BeaconCnt at hpb HPN
      obtain ⟨A3, n3, c3, hc0, hc1, hc2, hc3, s3⟩ := hc
      simp only [BeaconNumE] at hc0 hc1 hc2 hc3 s3
      have S3 := Lib.hid s3; clear s3
      have i0 : (0 : Int) ≤ (p : Int) := by omega
      go_wp2_with fail
      refine (heldHopS_at _ x.seg.hops.length (p + 3) _ _ (by exact S3.out.ext xe) (by omega) (by omega)).mono ?_
      rintro e w3 ⟨rfl, e3⟩
      obtain ⟨hc3_, -, hz3⟩ := e3.facts
      have i4 : (0 : Int) ≤ ((p + 3 + 5 * x.seg.hops.length : Nat) : Int) := by omega
      have j4 : ¬ ((p + 3 + 5 * x.seg.hops.length : Nat) : Int) < 0 := by omega
      go_wp2_with fail
      go_roundw
      case rel => exact ⟨j + 1, _, by omega, HPN.out, by simp only [Value.int.injEq, true_and]; omega, by go_num, xe⟩
      case measure => simp [intOf]; omega
    · go_wp2_with fail
      go_ret
      obtain rfl : j = xs.length := by omega
      exact ⟨ret_int (by have := HPQ.out; rw [List.take_length] at this; omega), xe⟩
theorem heldBeaconS_at (v : Value) (xs : List DBeacon) (q : Nat) (qi : Int) (w : World) (h : BeaconS w.heap.size w v (numS BeaconNumE BeaconCnt q xs)) (hqi : qi = (q : Int)) (hq : q + (xs.map BeaconCnt).sum ≤ 1000000000000000) :
    Calls Tryz.prog 35 #[v, I qi] w fun e w' => e = .returned (I ((q + (xs.map BeaconCnt).sum : Nat) : Int)) ∧ Ext w w' := by
  subst hqi
  exact heldBeaconS v xs q w h hq
end Go.Proofs.YtdcfidlngbhpcaaGreat
namespace Go.Proofs.YtdcfidlngbhpcaaGreat
open Go.RowKit
set_option linter.unusedVariables false
theorem info_BeaconStore : (Tryz.prog.info? 132).map (fun i => (i.zero, i.size, i.bytes)) = some (some (.agg #[.slice none 0 0]), 1, 24) := by kernel_rfl

def BeaconStoreO (lo hi : Nat) (w : World) (v : Value) (x : DBeaconStore) : Prop := ∃ u0, v = .agg #[u0] ∧ BeaconSO lo hi w u0 x.beacons ∧ lo ≤ hi
theorem BeaconStoreO.keep {lo hi : Nat} {w w' : World} {v : Value} {x : DBeaconStore} (h : BeaconStoreO lo hi w v x) (hk : ∀ k, lo ≤ k → k < hi → k < w.heap.size → w'.heap[k]? = w.heap[k]?) : BeaconStoreO lo hi w' v x := by
  obtain ⟨u0, e, o0, l0⟩ := h
  exact ⟨u0, e, BeaconSO_keep o0 (fun k h1 h2 h3 => hk k (by omega) (by omega) h3), l0⟩
theorem BeaconStoreO.v {lo hi : Nat} {w : World} {v : Value} {x : DBeaconStore} (h : BeaconStoreO lo hi w v x) : BeaconStoreV hi w v x := by
  obtain ⟨u0, e, o0, l0⟩ := h
  have s0 := (NO.sl (At := BeaconAt) (pos := fun k => k * 4) o0 (fun _ => rfl) BeaconOC.at_)
  obtain ⟨A0, n0, c0, rfl, _⟩ := id s0
  exact ⟨_, _, _, e, s0.keep BeaconAt.keeps (by omega) (fun _ _ => rfl)⟩
theorem BeaconStoreO.shape {lo hi : Nat} {w : World} {v : Value} {x : DBeaconStore} (h : BeaconStoreO lo hi w v x) : ∃ A0 n0 c0, v = .agg #[.slice A0 n0 c0] := by
  obtain ⟨A0, n0, c0, e, _⟩ := h.v
  exact ⟨A0, n0, c0, e⟩
theorem BeaconStoreO.ext {lo hi : Nat} {w w' : World} {v : Value} {x : DBeaconStore} (h : BeaconStoreO lo hi w v x) (he : Ext w w') (hhi : hi ≤ w.heap.size) : BeaconStoreO lo hi w' v x := h.keep fun k _ _ h3 => he.same k h3
theorem BeaconStoreO.drew {lo hi : Nat} {w : World} {v : Value} {x : DBeaconStore} (h : BeaconStoreO lo hi w v x) : BeaconStoreO lo hi w.drew v x := h.keep fun _ _ _ _ => rfl
theorem BeaconStoreO.out {lo hi lo' hi' : Nat} {w w' : World} {v : Value} {x : DBeaconStore} (h : BeaconStoreO lo hi w v x) (ho : Out lo' hi' w w') (hd : hi' ≤ lo ∨ hi ≤ lo') : BeaconStoreO lo hi w' v x := h.keep fun k h1 h2 h3 => ho.block k h3 (by omega)
theorem BeaconStoreO.more {lo hi lo' hi' : Nat} {w : World} {v : Value} {x : DBeaconStore} (h : BeaconStoreO lo hi w v x) (h1 : lo' ≤ lo) (h2 : hi ≤ hi') : BeaconStoreO lo' hi' w v x := by
  obtain ⟨u0, e, o0, l0⟩ := h
  exact ⟨u0, e, NO.more o0 h1 h2, by omega⟩
theorem BeaconStoreO.up {lo : Nat} {w w' : World} {v : Value} {x : DBeaconStore} (h : BeaconStoreO lo w.heap.size w v x) (he : Ext w w') : BeaconStoreO lo w'.heap.size w' v x := (h.ext he (Nat.le_refl _)).more (Nat.le_refl _) he.size
theorem BeaconStoreO.setT {lo hi g : Nat} {w : World} {v : Value} {x : DBeaconStore} {cs' : List Value} (h : BeaconStoreO lo hi w v x) (hb : Blk w g 132 cs') (i : Nat) (u : Value) : BeaconStoreO lo hi (w.setCell ⟨g, i, none⟩ u) v x := by
  obtain ⟨u0, e, o0, l0⟩ := h
  exact ⟨u0, e, NO.setT BeaconOC.keeps (BeaconOC.typed _ (by decide)) o0 hb (by decide) i u, l0⟩
theorem BeaconStoreO_rd {lo hi : Nat} {w : World} {v : Value} {x : DBeaconStore} (h : BeaconStoreO lo hi w v x) (hhi : hi ≤ w.heap.size) : BeaconStoreV w.heap.size w v x := h.v.keep hhi (fun _ _ => rfl)
set_option maxRecDepth 100000 in
set_option maxHeartbeats 1000000 in
theorem toBeaconStore (v : Value) (x : DBeaconStore) (w : World) (h : BeaconStoreV w.heap.size w v x) (hn : totS (fun y => y.seg.hops.length) x.beacons ≤ 16777216) :
    Calls Tryz.prog 163 #[v] w fun e w' => ∃ v', e = .returned v' ∧ BeaconStoreO w.heap.size w'.heap.size w' v' x ∧ Ext w w' := by
  obtain ⟨A0, n0, c0, rfl, s0⟩ := h
  have S0 := Lib.hid s0; clear s0
  go_enter Tryz.func163, Tryz.ntmps163
  go_wp2_with fail
  refine (toBeaconS _ x.beacons _ (by exact S0.out.ext xe) (by omega)).mono ?_
  rintro e w0 ⟨v0, rfl, ho0, he0⟩
  obtain ⟨hc0, hf0, hz0⟩ := he0.facts
  simp only [World.size_alloc] at hz0 hc0 hf0
  have la0 : w.heap.size < w0.heap.size := by omega
  have lb0 : w.heap.size + 1 < w0.heap.size := by omega
  have lc0 : w.heap.size + 1 + 1 < w0.heap.size := by omega
  simp only [World.size_alloc] at ho0
  have O0 := Lib.hid ho0; clear ho0
  obtain ⟨a0, m0, q0, hv0⟩ : ∃ a n c, v0 = .slice a n c := NO.slice O0.out
  subst hv0
  go_wp2_with fail
  refine bodyPost_ret (v := .agg #[.slice a0 m0 q0]) (by simp [results, Tryz.results163, go_sem, *]) rfl ⟨_, rfl, ?_, ?_⟩
  · simp only [World.size_setCell]
    refine ⟨_, rfl, NO.more (lo := w.heap.size + 1 + 1 + 1) (hi := w0.heap.size) (by repeat (first | (with_reducible exact O0.out) | (with_reducible refine BeaconSO_alloc ?_ _) | (with_reducible refine BeaconSO_setCell (p := _) ?_ (.inl ?ge) _; case ge => (first | omega | (dsimp only; omega) | (simp only [World.size_setCell]; omega) | (simp only [World.size_alloc]; omega))) | (with_reducible refine BeaconSO_ext ?_ (by with_reducible assumption) ?ge; case ge => (first | omega | (dsimp only; omega) | (simp only [World.size_setCell]; omega) | (simp only [World.size_alloc]; omega))))) (by omega) (by omega), by omega⟩
  · exact xe
set_option maxRecDepth 100000 in
set_option maxHeartbeats 1000000 in
theorem eqBeaconStore (v1 v2 : Value) (x y : DBeaconStore) (w : World) (h1 : BeaconStoreV w.heap.size w v1 x) (h2 : BeaconStoreV w.heap.size w v2 y) :
    Calls Tryz.prog 168 #[v1, v2] w fun e w' => e = .returned (.bool (decide (x = y))) ∧ Ext w w' := by
  obtain ⟨A10, n10, c10, rfl, s10⟩ := h1
  obtain ⟨A20, n20, c20, rfl, s20⟩ := h2
  have S10 := Lib.hid s10; clear s10
  have S20 := Lib.hid s20; clear s20
  go_enter Tryz.func168, Tryz.ntmps168
  go_wp2_with fail
  all_goals (try (go_ret; exact ⟨ret_bool (by simp_all [DBeaconStore.eq_iff]), xe⟩))
  refine (eqBeaconS _ _ x.beacons y.beacons _ (by exact S10.out.ext xe) (by exact S20.out.ext xe)).mono ?_
  rintro e w1 ⟨rfl, he1⟩
  obtain ⟨hc1, hf1, hz1⟩ := he1.facts
  go_wp2_with fail
  all_goals
    go_ret
    exact ⟨ret_bool (by simp_all [DBeaconStore.eq_iff]), xe⟩
set_option maxRecDepth 100000 in
set_option maxHeartbeats 1000000 in
theorem szBeaconStore (v : Value) (x : DBeaconStore) (left : Int) (w : World) (h : BeaconStoreV w.heap.size w v x) (h0 : 0 ≤ left) (hl : left ≤ 1048576) :
    Calls Tryz.prog 158 #[v, I left] w fun e w' => e = .returned (I (szR (totS (fun y => y.seg.hops.length) x.beacons) left)) ∧ Ext w w' := by
  obtain ⟨A0, n0, c0, rfl, s0⟩ := h
  have S0 := Lib.hid s0; clear s0
  go_enter Tryz.func158, Tryz.ntmps158
  go_wp2_with fail
  refine (szBeaconS _ x.beacons (left) _ (by exact S0.out.ext xe) (by omega) (by omega)).mono ?_
  rintro e w1 ⟨rfl, he1⟩
  obtain ⟨hc1, hf1, hz1⟩ := he1.facts
  by_cases hlt0 : left < (((totS (fun y => y.seg.hops.length) x.beacons) : Nat) : Int)
  · rw [szR_neg hlt0]
    go_wp2_with fail
    go_ret
    exact ⟨ret_int (szR_neg (by omega)).symm, xe⟩
  · rw [szR_pos (by omega)]
    go_wp2_with fail
    go_ret
    exact ⟨ret_int (by rw [szR_pos (by omega)] <;> omega), xe⟩
/-- What marking from q on leaves. -/
def BeaconStoreNum1 (q : Nat) (x : DBeaconStore) : DBeaconStore := { beacons := (numS BeaconNumE BeaconCnt (q) x.beacons) }
/-- The cells cs of a BeaconStore and the blocks that it owns. -/
def BeaconStoreOC (w : World) (fp : List Nat) (cs : List Value) (x : DBeaconStore) : Prop := ∃ u0 cs0 f0, cs = [u0] ∧ w.ownsRow 0 65 4 u0 x.beacons.length cs0 ∧ OL BeaconOC 4 w x.beacons f0 cs0 ∧ fp = (u0.ownBlock.toList ++ f0)
theorem BeaconStoreOC.keeps : OKeeps BeaconStoreOC := by
  intro w w' fp cs x hk h
  obtain ⟨u0, cs0, f0, e, r0, l0, ef⟩ := h
  exact ⟨u0, cs0, f0, e, ownsRow_keep r0 (fun b hb => hk b (by rw [ef]; simp [hb])), OL.keep BeaconOC.keeps l0 (fun b hb => hk b (by rw [ef]; simp [hb])), ef⟩
theorem BeaconStoreOC.at_ (B : Nat) (w : World) (b o : Nat) (fp : List Nat) (cs : List Value) (x : DBeaconStore) (h : BeaconStoreOC w fp cs x) (hb : ∀ b ∈ fp, b < B) (hc : ∀ j u, cs[j]? = some u → w.cell? ⟨b, o + j, none⟩ = some u) : BeaconStoreAt B w b o x := by
  obtain ⟨u0, cs0, f0, rfl, r0, l0, ef⟩ := h
  have s0 : BeaconS B w u0 x.beacons := sl_of_OL (At := BeaconAt) r0 l0 (fun b hm => hb b (by rw [ef]; simp [hm])) (fun _ => rfl) BeaconOC.at_
  obtain ⟨A0, n0, c0, e0, _⟩ := id s0
  subst e0
  exact ⟨A0, n0, c0, hc 0 _ rfl, s0⟩
theorem BeaconStoreOC.one : OOne BeaconStoreOC := by
  intro w fp cs x h
  obtain ⟨u0, cs0, f0, rfl, r0, l0, ef⟩ := h
  obtain ⟨a0, m0, c0, e0⟩ := ownsRow_slice r0
  subst e0
  intro u hu
  simp only [List.mem_cons, List.not_mem_nil, or_false] at hu
  subst hu
  rfl
theorem BeaconStoreOC.typed (T : Nat) (n0 : 65 ≠ T) (n1 : 165 ≠ T) : OTyped BeaconStoreOC T := by
  intro w fp cs x g cs' h hb
  obtain ⟨u0, cs0, f0, e, r0, l0, ef⟩ := h
  subst ef
  intro hm
  simp only [List.mem_append] at hm
  rcases hm with hm | hm
  · exact ownsRow_typed r0 hb n0 hm
  · exact OL.typed (BeaconOC.typed T n1) hb l0 hm
theorem BeaconStoreOC.len {w : World} {fp : List Nat} {cs : List Value} {x : DBeaconStore} (h : BeaconStoreOC w fp cs x) : cs.length = 1 := by
  obtain ⟨u0, cs0, f0, rfl, _⟩ := h
  rfl
theorem BeaconStoreO.to_oc {lo hi : Nat} {w : World} {v : Value} {x : DBeaconStore} (h : BeaconStoreO lo hi w v x) : ∃ a0 k0 q0 fp, v = .agg #[.slice a0 k0 q0] ∧ BeaconStoreOC w fp [.slice a0 k0 q0] x ∧ fp.Nodup ∧ ∀ b ∈ fp, lo ≤ b ∧ b < hi := by
  obtain ⟨u0, e, o0, l0⟩ := h
  obtain ⟨a0, k0, q0, hu0⟩ : ∃ a n c, u0 = .slice a n c := NO.slice o0
  obtain ⟨cs0, f0, r0, l0_, d0, b0'⟩ := o0
  have b0 : ∀ b ∈ u0.ownBlock.toList ++ f0, lo ≤ b ∧ b < hi := fun b hb => by
    rcases List.mem_append.1 hb with hb | hb
    · exact ⟨(r0.1.lt b (by simpa using hb)).1, r0.2 b (by simpa using hb)⟩
    · exact b0' b hb
  subst hu0
  exact ⟨a0, k0, q0, ((Value.slice a0 k0 q0).ownBlock.toList ++ f0), e, ⟨_, cs0, f0, rfl, (r0.more (Nat.zero_le _) (Nat.le_refl _)).1, l0_, rfl⟩, d0, b0⟩
/-- A []BeaconStore of the call's own. -/
abbrev BeaconStoreSO (lo hi : Nat) (w : World) (v : Value) (xs : List DBeaconStore) : Prop := NO BeaconStoreOC 132 1 lo hi w v xs
theorem BeaconStoreSO_rd {lo hi : Nat} {w : World} {v : Value} {xs : List DBeaconStore} (h : BeaconStoreSO lo hi w v xs) (hhi : hi ≤ w.heap.size) : BeaconStoreS w.heap.size w v xs := (NO.sl (At := BeaconStoreAt) h (fun _ => (Nat.mul_one _).symm) BeaconStoreOC.at_).keep BeaconStoreAt.keeps hhi (fun _ _ => rfl)
theorem BeaconStoreSO_ext {lo hi : Nat} {w w' : World} {v : Value} {xs : List DBeaconStore} (h : BeaconStoreSO lo hi w v xs) (he : Ext w w') (_hhi : hi ≤ w.heap.size) : BeaconStoreSO lo hi w' v xs := NO.keep BeaconStoreOC.keeps h fun k _ _ h3 => he.same k h3
theorem BeaconStoreSO_out {lo hi : Nat} {lo' hi' : Nat} {w w' : World} {v : Value} {xs : List DBeaconStore} (h : BeaconStoreSO lo hi w v xs) (ho : Out lo' hi' w w') (hd : hi' ≤ lo ∨ hi ≤ lo') : BeaconStoreSO lo hi w' v xs := NO.keep BeaconStoreOC.keeps h fun k h1 h2 h3 => ho.block k h3 (by omega)
theorem BeaconStoreSO_drew {lo hi : Nat} {w : World} {v : Value} {xs : List DBeaconStore} (h : BeaconStoreSO lo hi w v xs) : BeaconStoreSO lo hi w.drew v xs := NO.keep BeaconStoreOC.keeps h fun _ _ _ _ => rfl
theorem BeaconStoreSO_alloc {lo hi : Nat} {w : World} {v : Value} {xs : List DBeaconStore} (h : BeaconStoreSO lo hi w v xs) (o : Obj) : BeaconStoreSO lo hi (w.alloc o) v xs := NO.keep BeaconStoreOC.keeps h fun k _ _ h3 => Below.heap_alloc w o k h3
theorem BeaconStoreSO_setCell {lo hi : Nat} {w : World} {v : Value} {xs : List DBeaconStore} (h : BeaconStoreSO lo hi w v xs) {p : Addr} (hp : p.block < lo ∨ hi ≤ p.block) (u : Value) : BeaconStoreSO lo hi (w.setCell p u) v xs := NO.keep BeaconStoreOC.keeps h fun k h1 h2 _ => Below.heap_setCell _ _ _ _ (by omega)
theorem BeaconStoreSO_keep {lo hi : Nat} {w w' : World} {v : Value} {xs : List DBeaconStore} (h : BeaconStoreSO lo hi w v xs) (hk : ∀ k, lo ≤ k → k < hi → k < w.heap.size → w'.heap[k]? = w.heap[k]?) : BeaconStoreSO lo hi w' v xs := NO.keep BeaconStoreOC.keeps h hk
set_option maxRecDepth 100000 in
set_option maxHeartbeats 1000000 in
theorem toBeaconStoreS (v : Value) (ds : List DBeaconStore) (w : World) (h : BeaconStoreS w.heap.size w v ds) (hn : totS (fun y => totS (fun y => y.seg.hops.length) y.beacons) ds ≤ 16777216) :
    Calls Tryz.prog 103 #[v] w fun e w' => ∃ v', e = .returned v' ∧ BeaconStoreSO w.heap.size w'.heap.size w' v' ds ∧ Ext w w' := by
  obtain ⟨A, n, c, rfl, hl, -⟩ := id h
  subst hl
  have hn : ds.length + (ds.map fun y => totS (fun y => y.seg.hops.length) y.beacons).sum ≤ 16777216 := hn
  have hmk := run_mk (P := Tryz.prog) 81 132 (.agg #[.slice none 0 0]) 1 24 Tryz.underlying81 info_BeaconStore ds.length (by omega) (by omega)
  have hml := mkRow_len (.agg #[.slice none 0 0]) (ds.length * 1)
  generalize mkRow (.agg #[.slice none 0 0]) (ds.length * 1) = mr at *
  have H := Lib.hid h; clear h
  have HM := Lib.hid hml; clear hml
  go_enter Tryz.func103, Tryz.ntmps103
  go_wp2
  go_loopw [4] (fun i wr => ∃ (k : Nat) (cs rest : List Value) (fp : List Nat), k ≤ ds.length ∧ i = I k ∧ Blk wr w.heap.size 132 (cs ++ rest) ∧ OL BeaconStoreOC 1 wr (ds.take k) fp cs ∧ (w.heap.size :: fp).Nodup ∧ (∀ b ∈ fp, w.heap.size < b ∧ b < wr.heap.size) ∧ rest.length = (ds.length - k) * 1 ∧ Ext w wr) (fun i _ => ds.length - (intOf i).toNat)
  case atStart => exact ⟨0, [], mr.toList, [], by omega, rfl, by simpa using Blk.new w 132 mr.toList, ⟨rfl, rfl⟩, by simp, by simp, by simpa using HM.out, (Ext.refl _).alloc _⟩
  case round =>
    obtain ⟨k, cs, rest, fp, hk, rfl, hb, hol, hnd, hbd, hr, he⟩ := hrel
    have HE := Lib.hid he
    have HB := Lib.hid hb; clear hb
    have HOL := Lib.hid hol; clear hol
    have HND := Lib.hid hnd; clear hnd
    have HBD := Lib.hid hbd; clear hbd
    by_cases hlt : k < ds.length
    · obtain ⟨b, off, rfl, hbb, _, hc⟩ := (H.out.ext he).at_ hlt
      have hsm := sum_mem (fun y => totS (fun y => y.seg.hops.length) y.beacons) ds k hlt
      obtain ⟨r0, rest, rfl⟩ : ∃ r0 rest', rest = r0 :: rest' := by
        match rest, hr with
        | r0 :: rest, _ => exact ⟨r0, rest, rfl⟩
        | [], h => simp at h; omega
      have hlr : rest.length = (ds.length - (k + 1)) * 1 := by simp only [List.length_cons] at hr; omega
      have HR := Lib.hid hlr; clear hr he hlr
      have HX := Lib.hid (take_snoc ds k hlt)
      generalize ds[k] = x at *
      obtain ⟨A0, n0, c0, hc0, s0⟩ := hc
      have S0 := Lib.hid s0; clear s0
      have hp : cs.length = k := by rw [HOL.out.len, List.length_take, Nat.min_eq_left hk, Nat.mul_one]
      have HP := Lib.hid hp; clear hp
      have hwg : w.heap.size < wr.heap.size := HB.out.lt
      go_wp2_with fail
      refine (toBeaconStore _ x _ (by exact ⟨_, _, _, rfl, S0.out⟩) (by omega)).mono ?_
      rintro e w1 ⟨v1, rfl, ho1, he1⟩
      obtain ⟨a0, k0, q0, f1, rfl, hoc, hn1, hb1⟩ := ho1.to_oc
      have HOC := Lib.hid hoc; have HN1 := Lib.hid hn1; have HB1F := Lib.hid hb1; clear hoc hn1 hb1 ho1
      have HB1 := Lib.hid (HB.out.below he1.below hwg)
      have hz1 := he1.size
      have HE1 := Lib.hid he1
      clear he1
      have hu0 := cells_at1 HB1.out HP.out
      have hf0 := HB1.out.frozen (k)
      go_wp2
      go_roundw
      case rel =>
        obtain ⟨g1, g2, g3⟩ := nest_step (w2 := (w1.setCell ⟨w.heap.size, k, none⟩ (.slice a0 k0 q0))) BeaconStoreOC.keeps HOL.out HE1.out HOC.out rfl HBD.out HND.out HN1.out HB1F.out hwg (fun b hb => (Below.heap_setCell _ ⟨w.heap.size, k, none⟩ _ b hb)) (by simp only [World.size_setCell])
        refine ⟨k + 1, cs ++ [.slice a0 k0 q0], rest, fp ++ f1, by omega, by go_num, ?_, ?_, g2, g3, HR.out, ?_⟩
        · have := HB1.out.set_ (k) (.slice a0 k0 q0)
          rw [set_at1 _ _ _ _ _ HP.out] at this
          simpa using this
        · rw [HX.out]
          exact g1
        · exact (HE.out.trans HE1.out).setCell (by simp) _
      case measure => simp [intOf]; omega
    · have HR := Lib.hid hr; clear hr he
      go_wp2
      go_ret
      have e : k = ds.length := by omega
      have hr := HR.out
      subst e
      obtain rfl : rest = [] := List.eq_nil_of_length_eq_zero (by simpa using hr)
      have hb := HB.out
      have hol := HOL.out
      rw [List.append_nil] at hb
      rw [List.take_length] at hol
      exact ⟨_, rfl, ⟨cs, fp, Own.of_blk hb hol.len (by unfold maxLen; omega) (Nat.le_refl _) hb.lt, hol, by simpa [Value.ownBlock] using HND.out, fun b hb => ⟨by have := (HBD.out b hb).1; omega, (HBD.out b hb).2⟩⟩, HE.out⟩
set_option maxRecDepth 100000 in
set_option maxHeartbeats 1000000 in
theorem eqBeaconStoreS (v1 v2 : Value) (xs ys : List DBeaconStore) (w : World) (h1 : BeaconStoreS w.heap.size w v1 xs) (h2 : BeaconStoreS w.heap.size w v2 ys) :
    Calls Tryz.prog 107 #[v1, v2] w fun e w' => e = .returned (.bool (decide (xs = ys))) ∧ Ext w w' := by
  obtain ⟨A1, n1, c1, rfl, hl1, hn1, hm1, -⟩ := id h1
  obtain ⟨A2, n2, c2, rfl, hl2, hn2, hm2, -⟩ := id h2
  unfold maxLen at hm1 hm2
  have H1 := Lib.hid h1; have H2 := Lib.hid h2; have E1 := Lib.hid hl1; have E2 := Lib.hid hl2; clear h1 h2 hl1 hl2
  by_cases hn : n1 = n2
  · subst hn
    go_enter Tryz.func107, Tryz.ntmps107
    go_wp2
    go_loopw [5] (fun i wr => ∃ k : Nat, k ≤ n1 ∧ i = I k ∧ xs.take k = ys.take k ∧ Ext w wr) (fun i _ => n1 - (intOf i).toNat)
    case atStart => exact ⟨0, by omega, rfl, by simp, Ext.refl _⟩
    case round =>
      obtain ⟨k, hk, rfl, hq, he⟩ := hrel
      have HQ := Lib.hid hq; clear hq
      have HE := Lib.hid he; clear he
      by_cases hlt : k < n1
      · obtain ⟨b1, o1, rfl, hb1, hk1, hc1⟩ := (H1.out.ext HE.out).at_ hlt
        obtain ⟨b2, o2, rfl, hb2, hk2, hc2⟩ := (H2.out.ext HE.out).at_ hlt
        have i0 : (0 : Int) ≤ (k : Int) := by omega
        have i1 : (k : Int) < (n1 : Int) := by omega
        have X1 := Lib.hid (take_snoc xs k hk1)
        have X2 := Lib.hid (take_snoc ys k hk2)
        have hne : ¬ xs[k] = ys[k] → xs ≠ ys := fun hne h => hne (by subst h; rfl)
        have HN := Lib.hid hne; clear hne
        generalize xs[k] = x at *
        generalize ys[k] = y at *
        obtain ⟨A10, n10, c10, h10, s10⟩ := hc1
        obtain ⟨A20, n20, c20, h20, s20⟩ := hc2
        have S10 := Lib.hid s10; clear s10
        have S20 := Lib.hid s20; clear s20
        go_wp2_with fail
        go_region_held3 (fun W => wr.heap.size ≤ W.heap.size ∧ ∀ b o, b < wr.heap.size → W.cell? ⟨b, o, none⟩ = wr.cell? ⟨b, o, none⟩)
          (first | exact ⟨Nat.le_refl _, fun _ _ _ => rfl⟩ | exact keepC (by assumption) he1)
          (first | (go_at_call 168; refine (eqBeaconStore _ _ x y _ (by exact ⟨_, _, _, rfl, S10.out.ext xe⟩) (by exact ⟨_, _, _, rfl, S20.out.ext xe⟩)).mono ?_; rintro e w1 ⟨rfl, he1⟩))
        have HE1 := Lib.hid (HE.out.drew.trans he1)
        have hdd : decide (x = y) = true ↔ x = y := decide_eq_true_iff
        have HD := Lib.hid hdd; clear hdd
        generalize decide (x = y) = bb at *
        cases bb
        · have hxy : ¬ x = y := fun h => by have := HD.out.2 h; cases this
          have HXY := Lib.hid hxy; clear hxy
          go_wp2
          go_ret
          exact ⟨ret_bool (by simp [HN.out HXY.out]), HE1.out⟩
        · have HXY := Lib.hid (HD.out.1 rfl)
          go_wp2
          go_roundw
          case rel => exact ⟨k + 1, by omega, by go_num, by rw [X1.out, X2.out, HQ.out, HXY.out], HE1.out⟩
          case measure => simp [intOf]; omega
      · go_wp2
        go_ret
        have h := HQ.out
        rw [List.take_of_length_le (by rw [E1.out]; omega), List.take_of_length_le (by rw [E2.out]; omega)] at h
        exact ⟨ret_bool (by simp [h]), HE.out⟩
  · have hb : ((n1 : Int) == (n2 : Int)) = false := by simp; omega
    have hb' : ((n1 : Int) != (n2 : Int)) = true := by simp; omega
    have HN := Lib.hid hn; clear hn
    go_enter Tryz.func107, Tryz.ntmps107
    go_wp2
    go_ret
    have : xs ≠ ys := fun h => HN.out (by rw [← E1.out, ← E2.out, h])
    exact ⟨ret_bool (by simp [this]), Ext.refl _⟩
set_option maxRecDepth 100000 in
set_option maxHeartbeats 1000000 in
theorem szBeaconStoreS (v : Value) (ds : List DBeaconStore) (left : Int) (w : World) (h : BeaconStoreS w.heap.size w v ds) (h0 : 0 ≤ left) (hl : left ≤ 1048576) :
    Calls Tryz.prog 99 #[v, I left] w fun e w' => e = .returned (I (szR (totS (fun y => totS (fun y => y.seg.hops.length) y.beacons) ds) left)) ∧ Ext w w' := by
  obtain ⟨A, n, c, rfl, hl1, hn1, hm1, -⟩ := id h
  unfold maxLen at hm1
  subst hl1
  have H := Lib.hid h; clear h
  have HT : Hid (totS (fun y => totS (fun y => y.seg.hops.length) y.beacons) ds = ds.length + (ds.map fun y => totS (fun y => y.seg.hops.length) y.beacons).sum) := rfl
  by_cases hlt : left < (ds.length : Int)
  · have HF := Lib.hid (szR_neg (t := totS (fun y => totS (fun y => y.seg.hops.length) y.beacons) ds) (left := left) (by rw [HT.out]; omega))
    go_enter Tryz.func99, Tryz.ntmps99
    go_wp2
    go_ret
    exact ⟨ret_int HF.out.symm, Ext.refl _⟩
  · go_enter Tryz.func99, Tryz.ntmps99
    go_wp2
    go_loopw [1, 5] (fun l i wr => ∃ (k : Nat) (z : Int), k ≤ ds.length ∧ i = I k ∧ l = I z ∧ z = left - ds.length - (((ds.take k).map fun y => totS (fun y => y.seg.hops.length) y.beacons).sum : Nat) ∧ 0 ≤ z ∧ Ext w wr) (fun _ i _ => ds.length - (intOf i).toNat)
    case atStart => exact ⟨0, left - ds.length, by omega, rfl, rfl, by simp, by omega, Ext.refl _⟩
    case round =>
      obtain ⟨k, z, hk, rfl, rfl, hz, hz0, he⟩ := hrel
      have hzl : z ≤ 1048576 := by omega
      have HZ := Lib.hid hz; clear hz
      have HE := Lib.hid he; clear he
      by_cases hkn : k < ds.length
      · obtain ⟨b, off, rfl, hbb, _, hc⟩ := (H.out.ext HE.out).at_ hkn
        have HS := Lib.hid (sum_take (fun y => totS (fun y => y.seg.hops.length) y.beacons) ds k hkn)
        have HS2 := Lib.hid (sum_take_le (fun y => totS (fun y => y.seg.hops.length) y.beacons) ds (k + 1))
        generalize ds[k] = x at *
        obtain ⟨A0, n0, c0, hc0, s0⟩ := hc
        have S0 := Lib.hid s0; clear s0
        go_wp2_with fail
        refine (szBeaconStore _ x z _ (by exact ⟨_, _, _, rfl, S0.out⟩) (by omega) (by omega)).mono ?_
        rintro e w1 ⟨rfl, he1⟩
        by_cases hx : z < ((totS (fun y => y.seg.hops.length) x.beacons : Nat) : Int)
        · rw [szR_neg hx]
          go_wp2_with fail
          go_ret
          refine ⟨ret_int (szR_neg ?_).symm, HE.out.trans he1⟩
          rw [HT.out]
          have h1 := HZ.out; have h2 := HS.out; have h3 := HS2.out
          omega
        · rw [szR_pos (by omega)]
          go_wp2_with fail
          go_roundw
          case rel =>
            refine ⟨k + 1, z - ((totS (fun y => y.seg.hops.length) x.beacons : Nat) : Int), by omega, by go_num, rfl, ?_, by omega, HE.out.trans he1⟩
            rw [HS.out, HZ.out]
            omega
          case measure => simp [intOf]; omega
      · go_wp2_with fail
        go_ret
        obtain rfl : k = ds.length := by omega
        have h1 := HZ.out
        rw [List.take_length] at h1
        refine ⟨ret_int ?_, HE.out⟩
        rw [szR_pos (by rw [HT.out]; omega), HT.out, h1]
        omega
/-- How many numbers an element takes, and the element with its numbers from q on. -/
def BeaconStoreCnt (x : DBeaconStore) : Nat := 0 + (x.beacons.map BeaconCnt).sum
def BeaconStoreNumE (q : Nat) (x : DBeaconStore) : DBeaconStore := ⟨(numS BeaconNumE BeaconCnt ((q)) x.beacons)⟩
theorem BeaconStoreCnt_le (x : DBeaconStore) : BeaconStoreCnt x ≤ 10 + 10 * (totS (fun y => y.seg.hops.length) x.beacons) := by
  unfold BeaconStoreCnt
  have := BeaconCnt_sum x.beacons
  omega
theorem BeaconStoreCnt_sum (l : List DBeaconStore) : (l.map BeaconStoreCnt).sum ≤ 10 * (totS (fun y => totS (fun y => y.seg.hops.length) y.beacons) l) := cnt_le (fun x => BeaconStoreCnt_le x) l
set_option maxRecDepth 100000 in
set_option maxHeartbeats 1000000 in
theorem markBeaconStoreS_row (v : Value) (xs : List DBeaconStore) (q : Nat) (qi : Int) (w : World) (cs : List Value) (fp : List Nat) (ho : w.ownsRow 0 132 1 v xs.length cs) (hl : OL BeaconStoreOC 1 w xs fp cs) (hn : (v.ownBlock.toList ++ fp).Nodup) (hqi : qi = (q : Int)) (hq : q + (xs.map BeaconStoreCnt).sum ≤ 1000000000000000) :
    Calls Tryz.prog 108 #[v, I qi] w fun e w' => e = .returned (I ((q + (xs.map BeaconStoreCnt).sum : Nat) : Int)) ∧ (∃ cs', w'.ownsRow 0 132 1 v xs.length cs' ∧ OL BeaconStoreOC 1 w' (numS BeaconStoreNumE BeaconStoreCnt q xs) fp cs') ∧ OutF (v.ownBlock.toList ++ fp) w w' := by
  subst hqi
  rcases Own.cases (hi := w.heap.size) ⟨ho, fun k hk => (ho.lt k hk).2⟩ with ⟨rfl, h0, hx⟩ | ⟨g, cap, rest, rfl, h1, h2, hb, hlc, hnn, hm, hs⟩
  · obtain rfl : xs = [] := List.eq_nil_of_length_eq_zero h0
    subst hx
    have HL := Lib.hid hl; clear hl ho hn h0
    go_enter Tryz.func108, Tryz.ntmps108
    go_wp2
    go_loop [1, 5] (fun k i => k = I q ∧ i = I 0) (fun _ _ => 0)
    case atStart => exact ⟨rfl, rfl⟩
    case round =>
      obtain ⟨rfl, rfl⟩ := hrel
      go_wp2
      go_ret
      exact ⟨rfl, ⟨[], World.ownsRow_nil _ _ _ _, HL.out⟩, OutF.refl _ _⟩
  · have hnd : (g :: fp).Nodup := by simpa [Value.ownBlock] using hn
    have M0 := Lib.hid (MInv.start (f := BeaconStoreNumE) (c := BeaconStoreCnt) (q := q) hb hl)
    have HND := Lib.hid hnd
    have HS := Lib.hid hs
    have HLC := Lib.hid hl.len
    clear ho hl hn hb hlc hs hnd
    unfold maxLen at hm
    go_enter Tryz.func108, Tryz.ntmps108
    go_wp2
    go_loopw [1, 5] (fun k i wr => ∃ j p : Nat, j ≤ xs.length ∧ k = I p ∧ i = I j ∧ MInv BeaconStoreOC 1 BeaconStoreNumE BeaconStoreCnt 132 g rest fp xs q w wr j p) (fun _ i _ => xs.length - (intOf i).toNat)
    case atStart => exact ⟨0, q, by omega, rfl, rfl, M0.out⟩
    case round =>
      obtain ⟨j, p, hj, rfl, rfl, hM⟩ := hrel
      have HM := Lib.hid hM; clear hM M0
      by_cases hlt : j < xs.length
      · have hpb : p + BeaconStoreCnt xs[j] ≤ 1000000000000000 := by
          have h1 := HM.out.1
          have h2 := sum_take BeaconStoreCnt xs j hlt
          have h3 := sum_take_le BeaconStoreCnt xs (j + 1)
          omega
        obtain ⟨f1, pre, post, c1, hoc, hpl, hbl, hg, hf, hgo⟩ := HM.out.step BeaconStoreOC.keeps HND.out hlt
        have HGO := Lib.hid hgo; clear hgo
        have HF := Lib.hid hf; clear hf
        generalize xs[j] = x at *
        unfold BeaconStoreCnt at hpb
        obtain ⟨u0, cs0, g0, rfl, r0, o0, rfl⟩ := hoc
        have R0 := Lib.hid r0; clear r0
        have L0 := Lib.hid o0; clear o0
        obtain ⟨A0, n0, c0, hu0⟩ := ownsRow_slice R0.out
        subst hu0
        have G0 : Hid (g ∉ (Value.slice A0 n0 c0).ownBlock.toList ++ g0) := fun hm => hg (by first | exact hm | (simp only [List.mem_append] at hm ⊢; simp [hm]))
        clear hg
        rw [Nat.mul_one] at hpl
        have HPL := Lib.hid hpl; clear hpl
        have B0 := Lib.hid hbl; clear hbl
        simp only [List.cons_append, List.nil_append] at B0
        have lg : g < wr.heap.size := B0.out.lt
        have hu0 := cells_at1 B0.out HPL.out
        have hf0 := B0.out.frozen (j)
        go_wp2_with fail
        refine (markBeaconS_row _ x.beacons (p) ((p : Int)) _ cs0 g0 (by exact R0.out) (by exact L0.out) HF.out (by omega) (by omega)).mono ?_
        rintro e w0 ⟨rfl, ⟨d0, r0, o0⟩, t0⟩
        have R0' := Lib.hid r0; clear r0
        have L0' := Lib.hid o0; clear o0
        have T0 := Lib.hid t0; clear t0
        have B0' := Blk.outF (B0.out) T0.out G0.out
        have B0 := Lib.hid B0'; clear B0'
        have z0 := T0.out.size
        have lg0 : g < w0.heap.size := by omega
        have hv0_0 := cells_at1 B0.out HPL.out
        have hg0_0 := B0.out.frozen (j)
        have hOC : BeaconStoreOC w0 (((Value.slice A0 n0 c0).ownBlock.toList ++ g0)) [.slice A0 n0 c0] (BeaconStoreNumE p x) := ⟨_, _, _, rfl, (by unfold BeaconStoreNumE; dsimp only; rw [numS_len]; exact R0'.out), (by exact L0'.out), rfl⟩
        have HOC := Lib.hid hOC; clear hOC
        have hOU : OutF (g :: (((Value.slice A0 n0 c0).ownBlock.toList ++ g0))) wr w0 := (by repeat (first | (with_reducible exact OutF.refl _ _) | (with_reducible refine OutF.setCell ?_ ?ge _; case ge => simp) | (with_reducible refine OutF.trans ?_ (T0.out.mono (fun x hx => List.mem_cons_of_mem _ (by first | exact hx | (simp only [List.mem_append] at hx ⊢; simp [hx])))))))
        have HOU := Lib.hid hOU; clear hOU
        go_wp2_with fail
        go_roundw
        case rel =>
          exact ⟨j + 1, p + BeaconStoreCnt x, by omega, by simp only [BeaconStoreCnt, Value.int.injEq, true_and]; omega, by go_num, HGO.out _ _ HOC.out rfl B0.out HOU.out⟩
        case measure => simp [intOf]; omega
      · go_wp2_with fail
        go_ret
        obtain rfl : j = xs.length := by omega
        obtain ⟨hp, cs', hb', hl', ho'⟩ := HM.out.stop
        subst hp
        have hs := HS.out
        have e1 : cs'.length = cs.length := by rw [hl'.len, numS_len, HLC.out]
        refine ⟨rfl, ⟨cs', row_of_blk hb' (by rw [hl'.len, numS_len]) hnn (by unfold maxLen; omega) (by rw [← hs, List.length_append, List.length_append, e1]), hl'⟩, by simpa [Value.ownBlock] using ho'⟩
theorem markBeaconStoreS (v : Value) (xs : List DBeaconStore) (q lo hi : Nat) (w : World) (h : BeaconStoreSO lo hi w v xs) (hq : q + (xs.map BeaconStoreCnt).sum ≤ 1000000000000000) :
    Calls Tryz.prog 108 #[v, I q] w fun e w' => e = .returned (I ((q + (xs.map BeaconStoreCnt).sum : Nat) : Int)) ∧ BeaconStoreSO lo hi w' v (numS BeaconStoreNumE BeaconStoreCnt q xs) ∧ Out lo hi w w' :=
  calls_NO numS_len h fun cs fp h1 h2 h3 => markBeaconStoreS_row v xs q q w cs fp h1 h2 h3 rfl hq
set_option maxRecDepth 100000 in
set_option maxHeartbeats 1000000 in
theorem heldBeaconStoreS (v : Value) (xs : List DBeaconStore) (q : Nat) (w : World) (h : BeaconStoreS w.heap.size w v (numS BeaconStoreNumE BeaconStoreCnt q xs)) (hq : q + (xs.map BeaconStoreCnt).sum ≤ 1000000000000000) :
    Calls Tryz.prog 124 #[v, I q] w fun e w' => e = .returned (I ((q + (xs.map BeaconStoreCnt).sum : Nat) : Int)) ∧ Ext w w' := by
  obtain ⟨A, n', c, rfl, hl, hn, hm, -⟩ := id h
  rw [numS_len] at hl
  subst hl
  have H := Lib.hid h; clear h
  unfold maxLen at hm
  go_enter Tryz.func124, Tryz.ntmps124
  go_wp2
  go_loopw [1, 5] (fun k i wr => ∃ j p : Nat, j ≤ xs.length ∧ p = q + ((xs.take j).map BeaconStoreCnt).sum ∧ k = I p ∧ i = I j ∧ Ext w wr) (fun _ i _ => xs.length - (intOf i).toNat)
  case atStart => exact ⟨0, q, by omega, by simp, rfl, rfl, Ext.refl _⟩
  case round =>
    obtain ⟨j, p, hj, hp, rfl, rfl, he⟩ := hrel
    have HPQ := Lib.hid hp; clear hp
    by_cases hlt : j < xs.length
    · have hpb : p + BeaconStoreCnt xs[j] ≤ 1000000000000000 := by
        have h1 := HPQ.out
        have h2 := sum_take BeaconStoreCnt xs j hlt
        have h3 := sum_take_le BeaconStoreCnt xs (j + 1)
        omega
      have HPN : Hid (p + BeaconStoreCnt xs[j] = q + ((xs.take (j + 1)).map BeaconStoreCnt).sum) := by
        unfold Hid
        rw [sum_take BeaconStoreCnt xs j hlt, HPQ.out]
        omega
      obtain ⟨b, off, rfl, hb, hk, hc⟩ := (H.out.ext he).at_ hlt
      rw [numS_get _ _ _ hlt, ← HPQ.out] at hc
      generalize xs[j] = x at *
      unfold BeaconStoreCnt at hpb HPN
      obtain ⟨A0, n0, c0, hc0, s0⟩ := hc
      simp only [BeaconStoreNumE] at hc0 s0
      have S0 := Lib.hid s0; clear s0
      have i0 : (0 : Int) ≤ (p : Int) := by omega
      go_wp2_with fail
      refine (heldBeaconS_at _ x.beacons (p) _ _ (by exact S0.out.ext xe) (by omega) (by omega)).mono ?_
      rintro e w0 ⟨rfl, e0⟩
      obtain ⟨hc0_, -, hz0⟩ := e0.facts
      have i1 : (0 : Int) ≤ ((p + (x.beacons.map BeaconCnt).sum : Nat) : Int) := by omega
      have j1 : ¬ ((p + (x.beacons.map BeaconCnt).sum : Nat) : Int) < 0 := by omega
      go_wp2_with fail
      go_roundw
      case rel => exact ⟨j + 1, _, by omega, HPN.out, by simp only [Value.int.injEq, true_and]; omega, by go_num, xe⟩
      case measure => simp [intOf]; omega
    · go_wp2_with fail
      go_ret
      obtain rfl : j = xs.length := by omega
      exact ⟨ret_int (by have := HPQ.out; rw [List.take_length] at this; omega), xe⟩
theorem heldBeaconStoreS_at (v : Value) (xs : List DBeaconStore) (q : Nat) (qi : Int) (w : World) (h : BeaconStoreS w.heap.size w v (numS BeaconStoreNumE BeaconStoreCnt q xs)) (hqi : qi = (q : Int)) (hq : q + (xs.map BeaconStoreCnt).sum ≤ 1000000000000000) :
    Calls Tryz.prog 124 #[v, I qi] w fun e w' => e = .returned (I ((q + (xs.map BeaconStoreCnt).sum : Nat) : Int)) ∧ Ext w w' := by
  subst hqi
  exact heldBeaconStoreS v xs q w h hq
end Go.Proofs.YtdcfidlngbhpcaaGreat
namespace Go.Proofs.YtdcfidlngbhpcaaGreat
open Go.RowKit
set_option linter.unusedVariables false
theorem info_BeaconMessage : (Tryz.prog.info? 151).map (fun i => (i.zero, i.size, i.bytes)) = some (some (.agg #[.int .i64 0, .int .i64 0, .int .i64 0, .int .i64 0, .slice none 0 0]), 5, 56) := by kernel_rfl

def BeaconMessageO (lo hi : Nat) (w : World) (v : Value) (x : DBeaconMessage) : Prop := ∃ u4, v = .agg #[I x.to, I x.beacon.ing, I x.beacon.seg.ts, I x.beacon.seg.beta, u4] ∧ Own 165 5 lo hi w u4 x.beacon.seg.hops.length (x.beacon.seg.hops.flatMap HopC) ∧ lo ≤ hi
theorem BeaconMessageO.keep {lo hi : Nat} {w w' : World} {v : Value} {x : DBeaconMessage} (h : BeaconMessageO lo hi w v x) (hk : ∀ k, lo ≤ k → k < hi → k < w.heap.size → w'.heap[k]? = w.heap[k]?) : BeaconMessageO lo hi w' v x := by
  obtain ⟨u4, e, o4, l0⟩ := h
  exact ⟨u4, e, o4.keep fun k h1 h2 h3 => hk k (by omega) (by omega) h3, l0⟩
theorem BeaconMessageO.v {lo hi : Nat} {w : World} {v : Value} {x : DBeaconMessage} (h : BeaconMessageO lo hi w v x) : BeaconMessageV hi w v x := by
  obtain ⟨u4, e, o4, l0⟩ := h
  have s4 := (o4.sl (At := HopAt) HopC.len (by omega) HopC.at_)
  obtain ⟨A4, n4, c4, rfl, _⟩ := id s4
  exact ⟨_, _, _, e, s4.keep HopAt.keeps (by omega) (fun _ _ => rfl)⟩
theorem BeaconMessageO.shape {lo hi : Nat} {w : World} {v : Value} {x : DBeaconMessage} (h : BeaconMessageO lo hi w v x) : ∃ A4 n4 c4, v = .agg #[I x.to, I x.beacon.ing, I x.beacon.seg.ts, I x.beacon.seg.beta, .slice A4 n4 c4] := by
  obtain ⟨A4, n4, c4, e, _⟩ := h.v
  exact ⟨A4, n4, c4, e⟩
theorem BeaconMessageO.ext {lo hi : Nat} {w w' : World} {v : Value} {x : DBeaconMessage} (h : BeaconMessageO lo hi w v x) (he : Ext w w') (hhi : hi ≤ w.heap.size) : BeaconMessageO lo hi w' v x := h.keep fun k _ _ h3 => he.same k h3
theorem BeaconMessageO.drew {lo hi : Nat} {w : World} {v : Value} {x : DBeaconMessage} (h : BeaconMessageO lo hi w v x) : BeaconMessageO lo hi w.drew v x := h.keep fun _ _ _ _ => rfl
theorem BeaconMessageO.out {lo hi lo' hi' : Nat} {w w' : World} {v : Value} {x : DBeaconMessage} (h : BeaconMessageO lo hi w v x) (ho : Out lo' hi' w w') (hd : hi' ≤ lo ∨ hi ≤ lo') : BeaconMessageO lo hi w' v x := h.keep fun k h1 h2 h3 => ho.block k h3 (by omega)
theorem BeaconMessageO.more {lo hi lo' hi' : Nat} {w : World} {v : Value} {x : DBeaconMessage} (h : BeaconMessageO lo hi w v x) (h1 : lo' ≤ lo) (h2 : hi ≤ hi') : BeaconMessageO lo' hi' w v x := by
  obtain ⟨u4, e, o4, l0⟩ := h
  exact ⟨u4, e, Own.more o4 h1 h2, by omega⟩
theorem BeaconMessageO.up {lo : Nat} {w w' : World} {v : Value} {x : DBeaconMessage} (h : BeaconMessageO lo w.heap.size w v x) (he : Ext w w') : BeaconMessageO lo w'.heap.size w' v x := (h.ext he (Nat.le_refl _)).more (Nat.le_refl _) he.size
theorem BeaconMessageO.setT {lo hi g : Nat} {w : World} {v : Value} {x : DBeaconMessage} {cs' : List Value} (h : BeaconMessageO lo hi w v x) (hb : Blk w g 151 cs') (i : Nat) (u : Value) : BeaconMessageO lo hi (w.setCell ⟨g, i, none⟩ u) v x := by
  obtain ⟨u4, e, o4, l0⟩ := h
  exact ⟨u4, e, Own.setT o4 hb (by decide) i u, l0⟩
theorem BeaconMessageO_rd {lo hi : Nat} {w : World} {v : Value} {x : DBeaconMessage} (h : BeaconMessageO lo hi w v x) (hhi : hi ≤ w.heap.size) : BeaconMessageV w.heap.size w v x := h.v.keep hhi (fun _ _ => rfl)
set_option maxRecDepth 100000 in
set_option maxHeartbeats 1000000 in
theorem toBeaconMessage (v : Value) (x : DBeaconMessage) (w : World) (h : BeaconMessageV w.heap.size w v x) (hn : x.beacon.seg.hops.length ≤ 16777216) :
    Calls Tryz.prog 121 #[v] w fun e w' => ∃ v', e = .returned v' ∧ BeaconMessageO w.heap.size w'.heap.size w' v' x ∧ Ext w w' := by
  obtain ⟨A4, n4, c4, rfl, s4⟩ := h
  have S4 := Lib.hid s4; clear s4
  go_enter Tryz.func121, Tryz.ntmps121
  go_wp2_with fail
  refine (toBeacon _ x.beacon _ (by exact ⟨_, _, _, rfl, S4.out.ext xe⟩) (by omega)).mono ?_
  rintro e w1 ⟨v1, rfl, ho1, he1⟩
  obtain ⟨hc1, hf1, hz1⟩ := he1.facts
  simp only [World.size_alloc] at hz1 hc1 hf1
  have la1 : w.heap.size < w1.heap.size := by omega
  have lb1 : w.heap.size + 1 < w1.heap.size := by omega
  have lc1 : w.heap.size + 1 + 1 < w1.heap.size := by omega
  obtain ⟨t4, hv1, o4, l1_0⟩ := ho1
  simp only [World.size_alloc] at o4
  subst hv1
  simp only [World.size_alloc] at l1_0
  have O4 := Lib.hid o4; clear o4
  obtain ⟨a4, m4, q4, hu4⟩ : ∃ a n c, t4 = .slice a n c := O4.out.slice
  subst hu4
  go_wp2_with fail
  refine bodyPost_ret (v := .agg #[I x.to, I x.beacon.ing, I x.beacon.seg.ts, I x.beacon.seg.beta, .slice a4 m4 q4]) (by simp [results, Tryz.results121, go_sem, *]) rfl ⟨_, rfl, ?_, ?_⟩
  · simp only [World.size_setCell]
    refine ⟨_, rfl, Own.more (lo := w.heap.size + 1 + 1 + 1) (hi := w1.heap.size) (by repeat (first | (with_reducible exact O4.out) | (with_reducible refine Own.alloc ?_ _) | (with_reducible refine Own.setCell (p := _) ?_ (.inl ?ge) _; case ge => (first | omega | (dsimp only; omega) | (simp only [World.size_setCell]; omega) | (simp only [World.size_alloc]; omega))) | (with_reducible refine Own.ext ?_ (by with_reducible assumption) ?ge; case ge => (first | omega | (dsimp only; omega) | (simp only [World.size_setCell]; omega) | (simp only [World.size_alloc]; omega))))) (by omega) (by omega), by omega⟩
  · exact xe
set_option maxRecDepth 100000 in
set_option maxHeartbeats 1000000 in
theorem eqBeaconMessage (v1 v2 : Value) (x y : DBeaconMessage) (w : World) (h1 : BeaconMessageV w.heap.size w v1 x) (h2 : BeaconMessageV w.heap.size w v2 y) :
    Calls Tryz.prog 117 #[v1, v2] w fun e w' => e = .returned (.bool (decide (x = y))) ∧ Ext w w' := by
  obtain ⟨A14, n14, c14, rfl, s14⟩ := h1
  obtain ⟨A24, n24, c24, rfl, s24⟩ := h2
  have S14 := Lib.hid s14; clear s14
  have S24 := Lib.hid s24; clear s24
  go_enter Tryz.func117, Tryz.ntmps117
  go_wp2_with fail
  all_goals (try (go_ret; exact ⟨ret_bool (by simp_all [DBeaconMessage.eq_iff]), xe⟩))
  refine (eqBeacon _ _ x.beacon y.beacon _ (by exact ⟨_, _, _, rfl, S14.out.ext xe⟩) (by exact ⟨_, _, _, rfl, S24.out.ext xe⟩)).mono ?_
  rintro e w5 ⟨rfl, he5⟩
  obtain ⟨hc5, hf5, hz5⟩ := he5.facts
  go_wp2_with fail
  all_goals
    go_ret
    exact ⟨ret_bool (by simp_all [DBeaconMessage.eq_iff]), xe⟩
set_option maxRecDepth 100000 in
set_option maxHeartbeats 1000000 in
theorem szBeaconMessage (v : Value) (x : DBeaconMessage) (left : Int) (w : World) (h : BeaconMessageV w.heap.size w v x) (h0 : 0 ≤ left) (hl : left ≤ 1048576) :
    Calls Tryz.prog 118 #[v, I left] w fun e w' => e = .returned (I (szR (x.beacon.seg.hops.length) left)) ∧ Ext w w' := by
  obtain ⟨A4, n4, c4, rfl, s4⟩ := h
  have S4 := Lib.hid s4; clear s4
  go_enter Tryz.func118, Tryz.ntmps118
  go_wp2_with fail
  refine (szBeacon _ x.beacon (left) _ (by exact ⟨_, _, _, rfl, S4.out.ext xe⟩) (by omega) (by omega)).mono ?_
  rintro e w1 ⟨rfl, he1⟩
  obtain ⟨hc1, hf1, hz1⟩ := he1.facts
  by_cases hlt0 : left < (((x.beacon.seg.hops.length) : Nat) : Int)
  · rw [szR_neg hlt0]
    go_wp2_with fail
    go_ret
    exact ⟨ret_int (szR_neg (by omega)).symm, xe⟩
  · rw [szR_pos (by omega)]
    go_wp2_with fail
    go_ret
    exact ⟨ret_int (by rw [szR_pos (by omega)] <;> omega), xe⟩
/-- What marking from q on leaves. -/
def BeaconMessageNum1 (q : Nat) (x : DBeaconMessage) : DBeaconMessage := { to := x.to, beacon := { ing := x.beacon.ing, seg := { ts := x.beacon.seg.ts, beta := x.beacon.seg.beta, hops := (HopNum q x.beacon.seg.hops.length) } } }
/-- The cells cs of a BeaconMessage and the blocks that it owns. -/
def BeaconMessageOC (w : World) (fp : List Nat) (cs : List Value) (x : DBeaconMessage) : Prop := ∃ u4, cs = [I x.to, I x.beacon.ing, I x.beacon.seg.ts, I x.beacon.seg.beta, u4] ∧ w.ownsRow 0 165 5 u4 x.beacon.seg.hops.length (x.beacon.seg.hops.flatMap HopC) ∧ fp = u4.ownBlock.toList
theorem BeaconMessageOC.keeps : OKeeps BeaconMessageOC := by
  intro w w' fp cs x hk h
  obtain ⟨u4, e, r4, ef⟩ := h
  exact ⟨u4, e, ownsRow_keep r4 (fun b hb => hk b (by rw [ef]; simp [hb])), ef⟩
theorem BeaconMessageOC.at_ (B : Nat) (w : World) (b o : Nat) (fp : List Nat) (cs : List Value) (x : DBeaconMessage) (h : BeaconMessageOC w fp cs x) (hb : ∀ b ∈ fp, b < B) (hc : ∀ j u, cs[j]? = some u → w.cell? ⟨b, o + j, none⟩ = some u) : BeaconMessageAt B w b o x := by
  obtain ⟨u4, rfl, r4, ef⟩ := h
  have s4 : HopS B w u4 x.beacon.seg.hops := Own.sl (lo := 0) (n := x.beacon.seg.hops.length) (At := HopAt) ⟨r4, fun k hk => hb k (by rw [ef]; simp [hk])⟩ HopC.len (by omega) HopC.at_
  obtain ⟨A4, n4, c4, e4, _⟩ := id s4
  subst e4
  exact ⟨A4, n4, c4, hc 0 _ rfl, hc 1 _ rfl, hc 2 _ rfl, hc 3 _ rfl, hc 4 _ rfl, s4⟩
theorem BeaconMessageOC.one : OOne BeaconMessageOC := by
  intro w fp cs x h
  obtain ⟨u4, rfl, r4, ef⟩ := h
  obtain ⟨a4, m4, c4, e4⟩ := ownsRow_slice r4
  subst e4
  intro u hu
  simp only [List.mem_cons, List.not_mem_nil, or_false] at hu
  rcases hu with rfl | rfl | rfl | rfl | rfl <;> rfl
theorem BeaconMessageOC.typed (T : Nat) (n0 : 165 ≠ T) : OTyped BeaconMessageOC T := by
  intro w fp cs x g cs' h hb
  obtain ⟨u4, e, r4, ef⟩ := h
  subst ef
  intro hm
  exact ownsRow_typed r4 hb n0 hm
theorem BeaconMessageOC.len {w : World} {fp : List Nat} {cs : List Value} {x : DBeaconMessage} (h : BeaconMessageOC w fp cs x) : cs.length = 5 := by
  obtain ⟨u4, rfl, _⟩ := h
  rfl
theorem BeaconMessageO.to_oc {lo hi : Nat} {w : World} {v : Value} {x : DBeaconMessage} (h : BeaconMessageO lo hi w v x) : ∃ a4 k4 q4 fp, v = .agg #[I x.to, I x.beacon.ing, I x.beacon.seg.ts, I x.beacon.seg.beta, .slice a4 k4 q4] ∧ BeaconMessageOC w fp [I x.to, I x.beacon.ing, I x.beacon.seg.ts, I x.beacon.seg.beta, .slice a4 k4 q4] x ∧ fp.Nodup ∧ ∀ b ∈ fp, lo ≤ b ∧ b < hi := by
  obtain ⟨u4, e, o4, l0⟩ := h
  obtain ⟨a4, k4, q4, hu4⟩ : ∃ a n c, u4 = .slice a n c := o4.slice
  have b4 : ∀ b ∈ u4.ownBlock.toList, lo ≤ b ∧ b < hi := fun b hb => ⟨(o4.1.lt b (by simpa using hb)).1, o4.2 b (by simpa using hb)⟩
  have d4 : (u4.ownBlock.toList).Nodup := by cases u4.ownBlock <;> simp
  subst hu4
  exact ⟨a4, k4, q4, (Value.slice a4 k4 q4).ownBlock.toList, e, ⟨_, rfl, (o4.more (Nat.zero_le _) (Nat.le_refl _)).1, rfl⟩, d4, b4⟩
/-- A []BeaconMessage of the call's own. -/
abbrev BeaconMessageSO (lo hi : Nat) (w : World) (v : Value) (xs : List DBeaconMessage) : Prop := NO BeaconMessageOC 151 5 lo hi w v xs
theorem BeaconMessageSO_rd {lo hi : Nat} {w : World} {v : Value} {xs : List DBeaconMessage} (h : BeaconMessageSO lo hi w v xs) (hhi : hi ≤ w.heap.size) : BeaconMessageS w.heap.size w v xs := (NO.sl (At := BeaconMessageAt) h (fun _ => rfl) BeaconMessageOC.at_).keep BeaconMessageAt.keeps hhi (fun _ _ => rfl)
theorem BeaconMessageSO_ext {lo hi : Nat} {w w' : World} {v : Value} {xs : List DBeaconMessage} (h : BeaconMessageSO lo hi w v xs) (he : Ext w w') (_hhi : hi ≤ w.heap.size) : BeaconMessageSO lo hi w' v xs := NO.keep BeaconMessageOC.keeps h fun k _ _ h3 => he.same k h3
theorem BeaconMessageSO_out {lo hi : Nat} {lo' hi' : Nat} {w w' : World} {v : Value} {xs : List DBeaconMessage} (h : BeaconMessageSO lo hi w v xs) (ho : Out lo' hi' w w') (hd : hi' ≤ lo ∨ hi ≤ lo') : BeaconMessageSO lo hi w' v xs := NO.keep BeaconMessageOC.keeps h fun k h1 h2 h3 => ho.block k h3 (by omega)
theorem BeaconMessageSO_drew {lo hi : Nat} {w : World} {v : Value} {xs : List DBeaconMessage} (h : BeaconMessageSO lo hi w v xs) : BeaconMessageSO lo hi w.drew v xs := NO.keep BeaconMessageOC.keeps h fun _ _ _ _ => rfl
theorem BeaconMessageSO_alloc {lo hi : Nat} {w : World} {v : Value} {xs : List DBeaconMessage} (h : BeaconMessageSO lo hi w v xs) (o : Obj) : BeaconMessageSO lo hi (w.alloc o) v xs := NO.keep BeaconMessageOC.keeps h fun k _ _ h3 => Below.heap_alloc w o k h3
theorem BeaconMessageSO_setCell {lo hi : Nat} {w : World} {v : Value} {xs : List DBeaconMessage} (h : BeaconMessageSO lo hi w v xs) {p : Addr} (hp : p.block < lo ∨ hi ≤ p.block) (u : Value) : BeaconMessageSO lo hi (w.setCell p u) v xs := NO.keep BeaconMessageOC.keeps h fun k h1 h2 _ => Below.heap_setCell _ _ _ _ (by omega)
theorem BeaconMessageSO_keep {lo hi : Nat} {w w' : World} {v : Value} {xs : List DBeaconMessage} (h : BeaconMessageSO lo hi w v xs) (hk : ∀ k, lo ≤ k → k < hi → k < w.heap.size → w'.heap[k]? = w.heap[k]?) : BeaconMessageSO lo hi w' v xs := NO.keep BeaconMessageOC.keeps h hk
set_option maxRecDepth 100000 in
set_option maxHeartbeats 1000000 in
theorem toBeaconMessageS (v : Value) (ds : List DBeaconMessage) (w : World) (h : BeaconMessageS w.heap.size w v ds) (hn : totS (fun y => y.beacon.seg.hops.length) ds ≤ 16777216) :
    Calls Tryz.prog 53 #[v] w fun e w' => ∃ v', e = .returned v' ∧ BeaconMessageSO w.heap.size w'.heap.size w' v' ds ∧ Ext w w' := by
  obtain ⟨A, n, c, rfl, hl, -⟩ := id h
  subst hl
  have hn : ds.length + (ds.map fun y => y.beacon.seg.hops.length).sum ≤ 16777216 := hn
  have hmk := run_mk (P := Tryz.prog) 90 151 (.agg #[.int .i64 0, .int .i64 0, .int .i64 0, .int .i64 0, .slice none 0 0]) 5 56 Tryz.underlying90 info_BeaconMessage ds.length (by omega) (by omega)
  have hml := mkRow_len (.agg #[.int .i64 0, .int .i64 0, .int .i64 0, .int .i64 0, .slice none 0 0]) (ds.length * 5)
  generalize mkRow (.agg #[.int .i64 0, .int .i64 0, .int .i64 0, .int .i64 0, .slice none 0 0]) (ds.length * 5) = mr at *
  have H := Lib.hid h; clear h
  have HM := Lib.hid hml; clear hml
  go_enter Tryz.func53, Tryz.ntmps53
  go_wp2
  go_loopw [4] (fun i wr => ∃ (k : Nat) (cs rest : List Value) (fp : List Nat), k ≤ ds.length ∧ i = I k ∧ Blk wr w.heap.size 151 (cs ++ rest) ∧ OL BeaconMessageOC 5 wr (ds.take k) fp cs ∧ (w.heap.size :: fp).Nodup ∧ (∀ b ∈ fp, w.heap.size < b ∧ b < wr.heap.size) ∧ rest.length = (ds.length - k) * 5 ∧ Ext w wr) (fun i _ => ds.length - (intOf i).toNat)
  case atStart => exact ⟨0, [], mr.toList, [], by omega, rfl, by simpa using Blk.new w 151 mr.toList, ⟨rfl, rfl⟩, by simp, by simp, by simpa using HM.out, (Ext.refl _).alloc _⟩
  case round =>
    obtain ⟨k, cs, rest, fp, hk, rfl, hb, hol, hnd, hbd, hr, he⟩ := hrel
    have HE := Lib.hid he
    have HB := Lib.hid hb; clear hb
    have HOL := Lib.hid hol; clear hol
    have HND := Lib.hid hnd; clear hnd
    have HBD := Lib.hid hbd; clear hbd
    by_cases hlt : k < ds.length
    · obtain ⟨b, off, rfl, hbb, _, hc⟩ := (H.out.ext he).at_ hlt
      have hsm := sum_mem (fun y => y.beacon.seg.hops.length) ds k hlt
      obtain ⟨r0, r1, r2, r3, r4, rest, rfl⟩ : ∃ r0 r1 r2 r3 r4 rest', rest = r0 :: r1 :: r2 :: r3 :: r4 :: rest' := by
        match rest, hr with
        | r0 :: r1 :: r2 :: r3 :: r4 :: rest, _ => exact ⟨r0, r1, r2, r3, r4, rest, rfl⟩
        | [], h => simp at h; omega
        | [_], h => simp at h; omega
        | [_, _], h => simp at h; omega
        | [_, _, _], h => simp at h; omega
        | [_, _, _, _], h => simp at h; omega
      have hlr : rest.length = (ds.length - (k + 1)) * 5 := by simp only [List.length_cons] at hr; omega
      have HR := Lib.hid hlr; clear hr he hlr
      have HX := Lib.hid (take_snoc ds k hlt)
      generalize ds[k] = x at *
      obtain ⟨A4, n4, c4, hc0, hc1, hc2, hc3, hc4, s4⟩ := hc
      have S4 := Lib.hid s4; clear s4
      have hp : cs.length = k * 5 := by rw [HOL.out.len, List.length_take, Nat.min_eq_left hk]
      have HP := Lib.hid hp; clear hp
      have hwg : w.heap.size < wr.heap.size := HB.out.lt
      go_wp2_with fail
      refine (toBeaconMessage _ x _ (by exact ⟨_, _, _, rfl, S4.out⟩) (by omega)).mono ?_
      rintro e w1 ⟨v1, rfl, ho1, he1⟩
      obtain ⟨a4, k4, q4, f1, rfl, hoc, hn1, hb1⟩ := ho1.to_oc
      have HOC := Lib.hid hoc; have HN1 := Lib.hid hn1; have HB1F := Lib.hid hb1; clear hoc hn1 hb1 ho1
      have HB1 := Lib.hid (HB.out.below he1.below hwg)
      have hz1 := he1.size
      have HE1 := Lib.hid he1
      clear he1
      obtain ⟨hu0, hu1, hu2, hu3, hu4⟩ := cells_at5 HB1.out HP.out
      have hf0 := HB1.out.frozen (k * 5)
      have hf1 := HB1.out.frozen (k * 5 + 1)
      have hf2 := HB1.out.frozen (k * 5 + 2)
      have hf3 := HB1.out.frozen (k * 5 + 3)
      have hf4 := HB1.out.frozen (k * 5 + 4)
      go_wp2
      go_roundw
      case rel =>
        obtain ⟨g1, g2, g3⟩ := nest_step (w2 := (((((w1.setCell ⟨w.heap.size, k * 5, none⟩ (I x.to)).setCell ⟨w.heap.size, k * 5 + 1, none⟩ (I x.beacon.ing)).setCell ⟨w.heap.size, k * 5 + 2, none⟩ (I x.beacon.seg.ts)).setCell ⟨w.heap.size, k * 5 + 3, none⟩ (I x.beacon.seg.beta)).setCell ⟨w.heap.size, k * 5 + 4, none⟩ (.slice a4 k4 q4))) BeaconMessageOC.keeps HOL.out HE1.out HOC.out rfl HBD.out HND.out HN1.out HB1F.out hwg (fun b hb => (Eq.trans (Below.heap_setCell _ ⟨w.heap.size, k * 5 + 4, none⟩ _ b hb) (Eq.trans (Below.heap_setCell _ ⟨w.heap.size, k * 5 + 3, none⟩ _ b hb) (Eq.trans (Below.heap_setCell _ ⟨w.heap.size, k * 5 + 2, none⟩ _ b hb) (Eq.trans (Below.heap_setCell _ ⟨w.heap.size, k * 5 + 1, none⟩ _ b hb) (Below.heap_setCell _ ⟨w.heap.size, k * 5, none⟩ _ b hb)))))) (by simp only [World.size_setCell])
        refine ⟨k + 1, cs ++ [I x.to, I x.beacon.ing, I x.beacon.seg.ts, I x.beacon.seg.beta, .slice a4 k4 q4], rest, fp ++ f1, by omega, by go_num, ?_, ?_, g2, g3, HR.out, ?_⟩
        · have := ((((HB1.out.set_ (k * 5) (I x.to)).set_ (k * 5 + 1) (I x.beacon.ing)).set_ (k * 5 + 2) (I x.beacon.seg.ts)).set_ (k * 5 + 3) (I x.beacon.seg.beta)).set_ (k * 5 + 4) (.slice a4 k4 q4)
          rw [set_at5 _ _ _ _ _ _ _ _ _ _ _ _ _ HP.out] at this
          simpa using this
        · rw [HX.out]
          exact g1
        · exact (((((HE.out.trans HE1.out).setCell (by simp) _).setCell (by simp) _).setCell (by simp) _).setCell (by simp) _).setCell (by simp) _
      case measure => simp [intOf]; omega
    · have HR := Lib.hid hr; clear hr he
      go_wp2
      go_ret
      have e : k = ds.length := by omega
      have hr := HR.out
      subst e
      obtain rfl : rest = [] := List.eq_nil_of_length_eq_zero (by simpa using hr)
      have hb := HB.out
      have hol := HOL.out
      rw [List.append_nil] at hb
      rw [List.take_length] at hol
      exact ⟨_, rfl, ⟨cs, fp, Own.of_blk hb hol.len (by unfold maxLen; omega) (Nat.le_refl _) hb.lt, hol, by simpa [Value.ownBlock] using HND.out, fun b hb => ⟨by have := (HBD.out b hb).1; omega, (HBD.out b hb).2⟩⟩, HE.out⟩
set_option maxRecDepth 100000 in
set_option maxHeartbeats 1000000 in
theorem eqBeaconMessageS (v1 v2 : Value) (xs ys : List DBeaconMessage) (w : World) (h1 : BeaconMessageS w.heap.size w v1 xs) (h2 : BeaconMessageS w.heap.size w v2 ys) :
    Calls Tryz.prog 48 #[v1, v2] w fun e w' => e = .returned (.bool (decide (xs = ys))) ∧ Ext w w' := by
  obtain ⟨A1, n1, c1, rfl, hl1, hn1, hm1, -⟩ := id h1
  obtain ⟨A2, n2, c2, rfl, hl2, hn2, hm2, -⟩ := id h2
  unfold maxLen at hm1 hm2
  have H1 := Lib.hid h1; have H2 := Lib.hid h2; have E1 := Lib.hid hl1; have E2 := Lib.hid hl2; clear h1 h2 hl1 hl2
  by_cases hn : n1 = n2
  · subst hn
    go_enter Tryz.func48, Tryz.ntmps48
    go_wp2
    go_loopw [5] (fun i wr => ∃ k : Nat, k ≤ n1 ∧ i = I k ∧ xs.take k = ys.take k ∧ Ext w wr) (fun i _ => n1 - (intOf i).toNat)
    case atStart => exact ⟨0, by omega, rfl, by simp, Ext.refl _⟩
    case round =>
      obtain ⟨k, hk, rfl, hq, he⟩ := hrel
      have HQ := Lib.hid hq; clear hq
      have HE := Lib.hid he; clear he
      by_cases hlt : k < n1
      · obtain ⟨b1, o1, rfl, hb1, hk1, hc1⟩ := (H1.out.ext HE.out).at_ hlt
        obtain ⟨b2, o2, rfl, hb2, hk2, hc2⟩ := (H2.out.ext HE.out).at_ hlt
        have i0 : (0 : Int) ≤ (k : Int) := by omega
        have i1 : (k : Int) < (n1 : Int) := by omega
        have X1 := Lib.hid (take_snoc xs k hk1)
        have X2 := Lib.hid (take_snoc ys k hk2)
        have hne : ¬ xs[k] = ys[k] → xs ≠ ys := fun hne h => hne (by subst h; rfl)
        have HN := Lib.hid hne; clear hne
        generalize xs[k] = x at *
        generalize ys[k] = y at *
        obtain ⟨A14, n14, c14, h10, h11, h12, h13, h14, s14⟩ := hc1
        obtain ⟨A24, n24, c24, h20, h21, h22, h23, h24, s24⟩ := hc2
        have S14 := Lib.hid s14; clear s14
        have S24 := Lib.hid s24; clear s24
        go_wp2_with fail
        go_region_held3 (fun W => wr.heap.size ≤ W.heap.size ∧ ∀ b o, b < wr.heap.size → W.cell? ⟨b, o, none⟩ = wr.cell? ⟨b, o, none⟩)
          (first | exact ⟨Nat.le_refl _, fun _ _ _ => rfl⟩ | exact keepC (by assumption) he1)
          (first | (go_at_call 117; refine (eqBeaconMessage _ _ x y _ (by exact ⟨_, _, _, rfl, S14.out.ext xe⟩) (by exact ⟨_, _, _, rfl, S24.out.ext xe⟩)).mono ?_; rintro e w1 ⟨rfl, he1⟩))
        have HE1 := Lib.hid (HE.out.drew.trans he1)
        have hdd : decide (x = y) = true ↔ x = y := decide_eq_true_iff
        have HD := Lib.hid hdd; clear hdd
        generalize decide (x = y) = bb at *
        cases bb
        · have hxy : ¬ x = y := fun h => by have := HD.out.2 h; cases this
          have HXY := Lib.hid hxy; clear hxy
          go_wp2
          go_ret
          exact ⟨ret_bool (by simp [HN.out HXY.out]), HE1.out⟩
        · have HXY := Lib.hid (HD.out.1 rfl)
          go_wp2
          go_roundw
          case rel => exact ⟨k + 1, by omega, by go_num, by rw [X1.out, X2.out, HQ.out, HXY.out], HE1.out⟩
          case measure => simp [intOf]; omega
      · go_wp2
        go_ret
        have h := HQ.out
        rw [List.take_of_length_le (by rw [E1.out]; omega), List.take_of_length_le (by rw [E2.out]; omega)] at h
        exact ⟨ret_bool (by simp [h]), HE.out⟩
  · have hb : ((n1 : Int) == (n2 : Int)) = false := by simp; omega
    have hb' : ((n1 : Int) != (n2 : Int)) = true := by simp; omega
    have HN := Lib.hid hn; clear hn
    go_enter Tryz.func48, Tryz.ntmps48
    go_wp2
    go_ret
    have : xs ≠ ys := fun h => HN.out (by rw [← E1.out, ← E2.out, h])
    exact ⟨ret_bool (by simp [this]), Ext.refl _⟩
set_option maxRecDepth 100000 in
set_option maxHeartbeats 1000000 in
theorem szBeaconMessageS (v : Value) (ds : List DBeaconMessage) (left : Int) (w : World) (h : BeaconMessageS w.heap.size w v ds) (h0 : 0 ≤ left) (hl : left ≤ 1048576) :
    Calls Tryz.prog 51 #[v, I left] w fun e w' => e = .returned (I (szR (totS (fun y => y.beacon.seg.hops.length) ds) left)) ∧ Ext w w' := by
  obtain ⟨A, n, c, rfl, hl1, hn1, hm1, -⟩ := id h
  unfold maxLen at hm1
  subst hl1
  have H := Lib.hid h; clear h
  have HT : Hid (totS (fun y => y.beacon.seg.hops.length) ds = ds.length + (ds.map fun y => y.beacon.seg.hops.length).sum) := rfl
  by_cases hlt : left < (ds.length : Int)
  · have HF := Lib.hid (szR_neg (t := totS (fun y => y.beacon.seg.hops.length) ds) (left := left) (by rw [HT.out]; omega))
    go_enter Tryz.func51, Tryz.ntmps51
    go_wp2
    go_ret
    exact ⟨ret_int HF.out.symm, Ext.refl _⟩
  · go_enter Tryz.func51, Tryz.ntmps51
    go_wp2
    go_loopw [1, 5] (fun l i wr => ∃ (k : Nat) (z : Int), k ≤ ds.length ∧ i = I k ∧ l = I z ∧ z = left - ds.length - (((ds.take k).map fun y => y.beacon.seg.hops.length).sum : Nat) ∧ 0 ≤ z ∧ Ext w wr) (fun _ i _ => ds.length - (intOf i).toNat)
    case atStart => exact ⟨0, left - ds.length, by omega, rfl, rfl, by simp, by omega, Ext.refl _⟩
    case round =>
      obtain ⟨k, z, hk, rfl, rfl, hz, hz0, he⟩ := hrel
      have hzl : z ≤ 1048576 := by omega
      have HZ := Lib.hid hz; clear hz
      have HE := Lib.hid he; clear he
      by_cases hkn : k < ds.length
      · obtain ⟨b, off, rfl, hbb, _, hc⟩ := (H.out.ext HE.out).at_ hkn
        have HS := Lib.hid (sum_take (fun y => y.beacon.seg.hops.length) ds k hkn)
        have HS2 := Lib.hid (sum_take_le (fun y => y.beacon.seg.hops.length) ds (k + 1))
        generalize ds[k] = x at *
        obtain ⟨A4, n4, c4, hc0, hc1, hc2, hc3, hc4, s4⟩ := hc
        have S4 := Lib.hid s4; clear s4
        go_wp2_with fail
        refine (szBeaconMessage _ x z _ (by exact ⟨_, _, _, rfl, S4.out⟩) (by omega) (by omega)).mono ?_
        rintro e w1 ⟨rfl, he1⟩
        by_cases hx : z < ((x.beacon.seg.hops.length : Nat) : Int)
        · rw [szR_neg hx]
          go_wp2_with fail
          go_ret
          refine ⟨ret_int (szR_neg ?_).symm, HE.out.trans he1⟩
          rw [HT.out]
          have h1 := HZ.out; have h2 := HS.out; have h3 := HS2.out
          omega
        · rw [szR_pos (by omega)]
          go_wp2_with fail
          go_roundw
          case rel =>
            refine ⟨k + 1, z - ((x.beacon.seg.hops.length : Nat) : Int), by omega, by go_num, rfl, ?_, by omega, HE.out.trans he1⟩
            rw [HS.out, HZ.out]
            omega
          case measure => simp [intOf]; omega
      · go_wp2_with fail
        go_ret
        obtain rfl : k = ds.length := by omega
        have h1 := HZ.out
        rw [List.take_length] at h1
        refine ⟨ret_int ?_, HE.out⟩
        rw [szR_pos (by rw [HT.out]; omega), HT.out, h1]
        omega
/-- How many numbers an element takes, and the element with its numbers from q on. -/
def BeaconMessageCnt (x : DBeaconMessage) : Nat := 4 + 5 * x.beacon.seg.hops.length
def BeaconMessageNumE (q : Nat) (x : DBeaconMessage) : DBeaconMessage := ⟨(q : Int), ⟨(q : Int) + 1, ⟨(q : Int) + 1 + 1, (q : Int) + 1 + 1 + 1, (HopNum (q + 4) x.beacon.seg.hops.length)⟩⟩⟩
theorem BeaconMessageCnt_le (x : DBeaconMessage) : BeaconMessageCnt x ≤ 10 + 10 * (x.beacon.seg.hops.length) := by
  unfold BeaconMessageCnt
  omega
theorem BeaconMessageCnt_sum (l : List DBeaconMessage) : (l.map BeaconMessageCnt).sum ≤ 10 * (totS (fun y => y.beacon.seg.hops.length) l) := cnt_le (fun x => BeaconMessageCnt_le x) l
set_option maxRecDepth 100000 in
set_option maxHeartbeats 1000000 in
theorem markBeaconMessageS_row (v : Value) (xs : List DBeaconMessage) (q : Nat) (qi : Int) (w : World) (cs : List Value) (fp : List Nat) (ho : w.ownsRow 0 151 5 v xs.length cs) (hl : OL BeaconMessageOC 5 w xs fp cs) (hn : (v.ownBlock.toList ++ fp).Nodup) (hqi : qi = (q : Int)) (hq : q + (xs.map BeaconMessageCnt).sum ≤ 1000000000000000) :
    Calls Tryz.prog 49 #[v, I qi] w fun e w' => e = .returned (I ((q + (xs.map BeaconMessageCnt).sum : Nat) : Int)) ∧ (∃ cs', w'.ownsRow 0 151 5 v xs.length cs' ∧ OL BeaconMessageOC 5 w' (numS BeaconMessageNumE BeaconMessageCnt q xs) fp cs') ∧ OutF (v.ownBlock.toList ++ fp) w w' := by
  subst hqi
  rcases Own.cases (hi := w.heap.size) ⟨ho, fun k hk => (ho.lt k hk).2⟩ with ⟨rfl, h0, hx⟩ | ⟨g, cap, rest, rfl, h1, h2, hb, hlc, hnn, hm, hs⟩
  · obtain rfl : xs = [] := List.eq_nil_of_length_eq_zero h0
    subst hx
    have HL := Lib.hid hl; clear hl ho hn h0
    go_enter Tryz.func49, Tryz.ntmps49
    go_wp2
    go_loop [1, 5] (fun k i => k = I q ∧ i = I 0) (fun _ _ => 0)
    case atStart => exact ⟨rfl, rfl⟩
    case round =>
      obtain ⟨rfl, rfl⟩ := hrel
      go_wp2
      go_ret
      exact ⟨rfl, ⟨[], World.ownsRow_nil _ _ _ _, HL.out⟩, OutF.refl _ _⟩
  · have hnd : (g :: fp).Nodup := by simpa [Value.ownBlock] using hn
    have M0 := Lib.hid (MInv.start (f := BeaconMessageNumE) (c := BeaconMessageCnt) (q := q) hb hl)
    have HND := Lib.hid hnd
    have HS := Lib.hid hs
    have HLC := Lib.hid hl.len
    clear ho hl hn hb hlc hs hnd
    unfold maxLen at hm
    go_enter Tryz.func49, Tryz.ntmps49
    go_wp2
    go_loopw [1, 5] (fun k i wr => ∃ j p : Nat, j ≤ xs.length ∧ k = I p ∧ i = I j ∧ MInv BeaconMessageOC 5 BeaconMessageNumE BeaconMessageCnt 151 g rest fp xs q w wr j p) (fun _ i _ => xs.length - (intOf i).toNat)
    case atStart => exact ⟨0, q, by omega, rfl, rfl, M0.out⟩
    case round =>
      obtain ⟨j, p, hj, rfl, rfl, hM⟩ := hrel
      have HM := Lib.hid hM; clear hM M0
      by_cases hlt : j < xs.length
      · have hpb : p + BeaconMessageCnt xs[j] ≤ 1000000000000000 := by
          have h1 := HM.out.1
          have h2 := sum_take BeaconMessageCnt xs j hlt
          have h3 := sum_take_le BeaconMessageCnt xs (j + 1)
          omega
        obtain ⟨f1, pre, post, c1, hoc, hpl, hbl, hg, hf, hgo⟩ := HM.out.step BeaconMessageOC.keeps HND.out hlt
        have HGO := Lib.hid hgo; clear hgo
        have HF := Lib.hid hf; clear hf
        generalize xs[j] = x at *
        unfold BeaconMessageCnt at hpb
        obtain ⟨u4, rfl, r4, rfl⟩ := hoc
        have R4 := Lib.hid r4; clear r4
        obtain ⟨A4, n4, c4, hu4⟩ := ownsRow_slice R4.out
        subst hu4
        have G4 : Hid (g ∉ (Value.slice A4 n4 c4).ownBlock.toList) := fun hm => hg (by first | exact hm | (simp only [List.mem_append] at hm ⊢; simp [hm]))
        clear hg
        have HPL := Lib.hid hpl; clear hpl
        have B0 := Lib.hid hbl; clear hbl
        simp only [List.cons_append, List.nil_append] at B0
        have lg : g < wr.heap.size := B0.out.lt
        obtain ⟨hu0, hu1, hu2, hu3, hu4⟩ := cells_at5 B0.out HPL.out
        have hf0 := B0.out.frozen (j * 5)
        have hf1 := B0.out.frozen (j * 5 + 1)
        have hf2 := B0.out.frozen (j * 5 + 2)
        have hf3 := B0.out.frozen (j * 5 + 3)
        have hf4 := B0.out.frozen (j * 5 + 4)
        go_wp2_with fail
        refine (markHopS_row _ x.beacon.seg.hops (p + 4) ((p : Int) + 1 + 1 + 1 + 1) _ (by exact ownsRow_set (ownsRow_set (ownsRow_set (ownsRow_set (R4.out) G4.out) G4.out) G4.out) G4.out) (by omega) (by omega)).mono ?_
        rintro e w4 ⟨rfl, r4, t4⟩
        have R4' := Lib.hid r4; clear r4
        have T4 := Lib.hid t4; clear t4
        have B4' := Blk.outF (Blk.set_ (Blk.set_ (Blk.set_ (Blk.set_ (B0.out) (j * 5) (I ((p : Int)))) (j * 5 + 1) (I ((p : Int) + 1))) (j * 5 + 2) (I ((p : Int) + 1 + 1))) (j * 5 + 3) (I ((p : Int) + 1 + 1 + 1))) T4.out G4.out
        have B4 : Hid (Blk w4 g 151 (pre ++ (I ((p : Int)) :: I ((p : Int) + 1) :: I ((p : Int) + 1 + 1) :: I ((p : Int) + 1 + 1 + 1) :: .slice A4 n4 c4 :: post))) := by
          unfold Hid
          have h := B4'
          rw [← HPL.out] at h
          simpa using h
        clear B4'
        have z4 := T4.out.size
        simp only [World.size_setCell] at z4
        have lg4 : g < w4.heap.size := by omega
        obtain ⟨hv4_0, hv4_1, hv4_2, hv4_3, hv4_4⟩ := cells_at5 B4.out HPL.out
        have hg4_0 := B4.out.frozen (j * 5)
        have hg4_1 := B4.out.frozen (j * 5 + 1)
        have hg4_2 := B4.out.frozen (j * 5 + 2)
        have hg4_3 := B4.out.frozen (j * 5 + 3)
        have hg4_4 := B4.out.frozen (j * 5 + 4)
        have hOC : BeaconMessageOC w4 ((Value.slice A4 n4 c4).ownBlock.toList) [I ((p : Int)), I ((p : Int) + 1), I ((p : Int) + 1 + 1), I ((p : Int) + 1 + 1 + 1), .slice A4 n4 c4] (BeaconMessageNumE p x) := ⟨_, rfl, (by unfold BeaconMessageNumE; dsimp only; rw [HopNum_len]; exact R4'.out), rfl⟩
        have HOC := Lib.hid hOC; clear hOC
        have hOU : OutF (g :: ((Value.slice A4 n4 c4).ownBlock.toList)) wr w4 := (by repeat (first | (with_reducible exact OutF.refl _ _) | (with_reducible refine OutF.setCell ?_ ?ge _; case ge => simp) | (with_reducible refine OutF.trans ?_ (T4.out.mono (fun x hx => List.mem_cons_of_mem _ (by first | exact hx | (simp only [List.mem_append] at hx ⊢; simp [hx])))))))
        have HOU := Lib.hid hOU; clear hOU
        go_wp2_with fail
        go_roundw
        case rel =>
          exact ⟨j + 1, p + BeaconMessageCnt x, by omega, by simp only [BeaconMessageCnt, Value.int.injEq, true_and]; omega, by go_num, HGO.out _ _ HOC.out rfl B4.out HOU.out⟩
        case measure => simp [intOf]; omega
      · go_wp2_with fail
        go_ret
        obtain rfl : j = xs.length := by omega
        obtain ⟨hp, cs', hb', hl', ho'⟩ := HM.out.stop
        subst hp
        have hs := HS.out
        have e1 : cs'.length = cs.length := by rw [hl'.len, numS_len, HLC.out]
        refine ⟨rfl, ⟨cs', row_of_blk hb' (by rw [hl'.len, numS_len]) hnn (by unfold maxLen; omega) (by rw [← hs, List.length_append, List.length_append, e1]), hl'⟩, by simpa [Value.ownBlock] using ho'⟩
theorem markBeaconMessageS (v : Value) (xs : List DBeaconMessage) (q lo hi : Nat) (w : World) (h : BeaconMessageSO lo hi w v xs) (hq : q + (xs.map BeaconMessageCnt).sum ≤ 1000000000000000) :
    Calls Tryz.prog 49 #[v, I q] w fun e w' => e = .returned (I ((q + (xs.map BeaconMessageCnt).sum : Nat) : Int)) ∧ BeaconMessageSO lo hi w' v (numS BeaconMessageNumE BeaconMessageCnt q xs) ∧ Out lo hi w w' :=
  calls_NO numS_len h fun cs fp h1 h2 h3 => markBeaconMessageS_row v xs q q w cs fp h1 h2 h3 rfl hq
set_option maxRecDepth 100000 in
set_option maxHeartbeats 1000000 in
theorem heldBeaconMessageS (v : Value) (xs : List DBeaconMessage) (q : Nat) (w : World) (h : BeaconMessageS w.heap.size w v (numS BeaconMessageNumE BeaconMessageCnt q xs)) (hq : q + (xs.map BeaconMessageCnt).sum ≤ 1000000000000000) :
    Calls Tryz.prog 50 #[v, I q] w fun e w' => e = .returned (I ((q + (xs.map BeaconMessageCnt).sum : Nat) : Int)) ∧ Ext w w' := by
  obtain ⟨A, n', c, rfl, hl, hn, hm, -⟩ := id h
  rw [numS_len] at hl
  subst hl
  have H := Lib.hid h; clear h
  unfold maxLen at hm
  go_enter Tryz.func50, Tryz.ntmps50
  go_wp2
  go_loopw [1, 5] (fun k i wr => ∃ j p : Nat, j ≤ xs.length ∧ p = q + ((xs.take j).map BeaconMessageCnt).sum ∧ k = I p ∧ i = I j ∧ Ext w wr) (fun _ i _ => xs.length - (intOf i).toNat)
  case atStart => exact ⟨0, q, by omega, by simp, rfl, rfl, Ext.refl _⟩
  case round =>
    obtain ⟨j, p, hj, hp, rfl, rfl, he⟩ := hrel
    have HPQ := Lib.hid hp; clear hp
    by_cases hlt : j < xs.length
    · have hpb : p + BeaconMessageCnt xs[j] ≤ 1000000000000000 := by
        have h1 := HPQ.out
        have h2 := sum_take BeaconMessageCnt xs j hlt
        have h3 := sum_take_le BeaconMessageCnt xs (j + 1)
        omega
      have HPN : Hid (p + BeaconMessageCnt xs[j] = q + ((xs.take (j + 1)).map BeaconMessageCnt).sum) := by
        unfold Hid
        rw [sum_take BeaconMessageCnt xs j hlt, HPQ.out]
        omega
      obtain ⟨b, off, rfl, hb, hk, hc⟩ := (H.out.ext he).at_ hlt
      rw [numS_get _ _ _ hlt, ← HPQ.out] at hc
      generalize xs[j] = x at *
      unfold BeaconMessageCnt at hpb HPN
      obtain ⟨A4, n4, c4, hc0, hc1, hc2, hc3, hc4, s4⟩ := hc
      simp only [BeaconMessageNumE] at hc0 hc1 hc2 hc3 hc4 s4
      have S4 := Lib.hid s4; clear s4
      have i0 : (0 : Int) ≤ (p : Int) := by omega
      go_wp2_with fail
      refine (heldHopS_at _ x.beacon.seg.hops.length (p + 4) _ _ (by exact S4.out.ext xe) (by omega) (by omega)).mono ?_
      rintro e w4 ⟨rfl, e4⟩
      obtain ⟨hc4_, -, hz4⟩ := e4.facts
      have i5 : (0 : Int) ≤ ((p + 4 + 5 * x.beacon.seg.hops.length : Nat) : Int) := by omega
      have j5 : ¬ ((p + 4 + 5 * x.beacon.seg.hops.length : Nat) : Int) < 0 := by omega
      go_wp2_with fail
      go_roundw
      case rel => exact ⟨j + 1, _, by omega, HPN.out, by simp only [Value.int.injEq, true_and]; omega, by go_num, xe⟩
      case measure => simp [intOf]; omega
    · go_wp2_with fail
      go_ret
      obtain rfl : j = xs.length := by omega
      exact ⟨ret_int (by have := HPQ.out; rw [List.take_length] at this; omega), xe⟩
theorem heldBeaconMessageS_at (v : Value) (xs : List DBeaconMessage) (q : Nat) (qi : Int) (w : World) (h : BeaconMessageS w.heap.size w v (numS BeaconMessageNumE BeaconMessageCnt q xs)) (hqi : qi = (q : Int)) (hq : q + (xs.map BeaconMessageCnt).sum ≤ 1000000000000000) :
    Calls Tryz.prog 50 #[v, I qi] w fun e w' => e = .returned (I ((q + (xs.map BeaconMessageCnt).sum : Nat) : Int)) ∧ Ext w w' := by
  subst hqi
  exact heldBeaconMessageS v xs q w h hq
end Go.Proofs.YtdcfidlngbhpcaaGreat
namespace Go.Proofs.YtdcfidlngbhpcaaGreat
open Go.RowKit
set_option linter.unusedVariables false
theorem info_Beaconing : (Tryz.prog.info? 83).map (fun i => (i.zero, i.size, i.bytes)) = some (some (.agg #[.int .i64 0, .slice none 0 0]), 2, 32) := by kernel_rfl

def BeaconingO (lo hi : Nat) (w : World) (v : Value) (x : DBeaconing) : Prop := ∃ u1, v = .agg #[I x.ts, u1] ∧ BeaconStoreSO lo hi w u1 x.stores ∧ lo ≤ hi
theorem BeaconingO.keep {lo hi : Nat} {w w' : World} {v : Value} {x : DBeaconing} (h : BeaconingO lo hi w v x) (hk : ∀ k, lo ≤ k → k < hi → k < w.heap.size → w'.heap[k]? = w.heap[k]?) : BeaconingO lo hi w' v x := by
  obtain ⟨u1, e, o1, l0⟩ := h
  exact ⟨u1, e, BeaconStoreSO_keep o1 (fun k h1 h2 h3 => hk k (by omega) (by omega) h3), l0⟩
theorem BeaconingO.v {lo hi : Nat} {w : World} {v : Value} {x : DBeaconing} (h : BeaconingO lo hi w v x) : BeaconingV hi w v x := by
  obtain ⟨u1, e, o1, l0⟩ := h
  have s1 := (NO.sl (At := BeaconStoreAt) (pos := fun k => k) o1 (fun _ => (Nat.mul_one _).symm) BeaconStoreOC.at_)
  obtain ⟨A1, n1, c1, rfl, _⟩ := id s1
  exact ⟨_, _, _, e, s1.keep BeaconStoreAt.keeps (by omega) (fun _ _ => rfl)⟩
theorem BeaconingO.shape {lo hi : Nat} {w : World} {v : Value} {x : DBeaconing} (h : BeaconingO lo hi w v x) : ∃ A1 n1 c1, v = .agg #[I x.ts, .slice A1 n1 c1] := by
  obtain ⟨A1, n1, c1, e, _⟩ := h.v
  exact ⟨A1, n1, c1, e⟩
theorem BeaconingO.ext {lo hi : Nat} {w w' : World} {v : Value} {x : DBeaconing} (h : BeaconingO lo hi w v x) (he : Ext w w') (hhi : hi ≤ w.heap.size) : BeaconingO lo hi w' v x := h.keep fun k _ _ h3 => he.same k h3
theorem BeaconingO.drew {lo hi : Nat} {w : World} {v : Value} {x : DBeaconing} (h : BeaconingO lo hi w v x) : BeaconingO lo hi w.drew v x := h.keep fun _ _ _ _ => rfl
theorem BeaconingO.out {lo hi lo' hi' : Nat} {w w' : World} {v : Value} {x : DBeaconing} (h : BeaconingO lo hi w v x) (ho : Out lo' hi' w w') (hd : hi' ≤ lo ∨ hi ≤ lo') : BeaconingO lo hi w' v x := h.keep fun k h1 h2 h3 => ho.block k h3 (by omega)
theorem BeaconingO.more {lo hi lo' hi' : Nat} {w : World} {v : Value} {x : DBeaconing} (h : BeaconingO lo hi w v x) (h1 : lo' ≤ lo) (h2 : hi ≤ hi') : BeaconingO lo' hi' w v x := by
  obtain ⟨u1, e, o1, l0⟩ := h
  exact ⟨u1, e, NO.more o1 h1 h2, by omega⟩
theorem BeaconingO.up {lo : Nat} {w w' : World} {v : Value} {x : DBeaconing} (h : BeaconingO lo w.heap.size w v x) (he : Ext w w') : BeaconingO lo w'.heap.size w' v x := (h.ext he (Nat.le_refl _)).more (Nat.le_refl _) he.size
theorem BeaconingO.setT {lo hi g : Nat} {w : World} {v : Value} {x : DBeaconing} {cs' : List Value} (h : BeaconingO lo hi w v x) (hb : Blk w g 83 cs') (i : Nat) (u : Value) : BeaconingO lo hi (w.setCell ⟨g, i, none⟩ u) v x := by
  obtain ⟨u1, e, o1, l0⟩ := h
  exact ⟨u1, e, NO.setT BeaconStoreOC.keeps (BeaconStoreOC.typed _ (by decide) (by decide)) o1 hb (by decide) i u, l0⟩
theorem BeaconingO_rd {lo hi : Nat} {w : World} {v : Value} {x : DBeaconing} (h : BeaconingO lo hi w v x) (hhi : hi ≤ w.heap.size) : BeaconingV w.heap.size w v x := h.v.keep hhi (fun _ _ => rfl)
set_option maxRecDepth 100000 in
set_option maxHeartbeats 1000000 in
theorem toBeaconing (v : Value) (x : DBeaconing) (w : World) (h : BeaconingV w.heap.size w v x) (hn : totS (fun y => totS (fun y => y.seg.hops.length) y.beacons) x.stores ≤ 16777216) :
    Calls Tryz.prog 40 #[v] w fun e w' => ∃ v', e = .returned v' ∧ BeaconingO w.heap.size w'.heap.size w' v' x ∧ Ext w w' := by
  obtain ⟨A1, n1, c1, rfl, s1⟩ := h
  have S1 := Lib.hid s1; clear s1
  go_enter Tryz.func40, Tryz.ntmps40
  go_wp2_with fail
  refine (toBeaconStoreS _ x.stores _ (by exact S1.out.ext xe) (by omega)).mono ?_
  rintro e w1 ⟨v1, rfl, ho1, he1⟩
  obtain ⟨hc1, hf1, hz1⟩ := he1.facts
  simp only [World.size_alloc] at hz1 hc1 hf1
  have la1 : w.heap.size < w1.heap.size := by omega
  have lb1 : w.heap.size + 1 < w1.heap.size := by omega
  have lc1 : w.heap.size + 1 + 1 < w1.heap.size := by omega
  simp only [World.size_alloc] at ho1
  have O1 := Lib.hid ho1; clear ho1
  obtain ⟨a1, m1, q1, hv1⟩ : ∃ a n c, v1 = .slice a n c := NO.slice O1.out
  subst hv1
  go_wp2_with fail
  refine bodyPost_ret (v := .agg #[I x.ts, .slice a1 m1 q1]) (by simp [results, Tryz.results40, go_sem, *]) rfl ⟨_, rfl, ?_, ?_⟩
  · simp only [World.size_setCell]
    refine ⟨_, rfl, NO.more (lo := w.heap.size + 1 + 1 + 1) (hi := w1.heap.size) (by repeat (first | (with_reducible exact O1.out) | (with_reducible refine BeaconStoreSO_alloc ?_ _) | (with_reducible refine BeaconStoreSO_setCell (p := _) ?_ (.inl ?ge) _; case ge => (first | omega | (dsimp only; omega) | (simp only [World.size_setCell]; omega) | (simp only [World.size_alloc]; omega))) | (with_reducible refine BeaconStoreSO_ext ?_ (by with_reducible assumption) ?ge; case ge => (first | omega | (dsimp only; omega) | (simp only [World.size_setCell]; omega) | (simp only [World.size_alloc]; omega))))) (by omega) (by omega), by omega⟩
  · exact xe
set_option maxRecDepth 100000 in
set_option maxHeartbeats 1000000 in
theorem eqBeaconing (v1 v2 : Value) (x y : DBeaconing) (w : World) (h1 : BeaconingV w.heap.size w v1 x) (h2 : BeaconingV w.heap.size w v2 y) :
    Calls Tryz.prog 43 #[v1, v2] w fun e w' => e = .returned (.bool (decide (x = y))) ∧ Ext w w' := by
  obtain ⟨A11, n11, c11, rfl, s11⟩ := h1
  obtain ⟨A21, n21, c21, rfl, s21⟩ := h2
  have S11 := Lib.hid s11; clear s11
  have S21 := Lib.hid s21; clear s21
  go_enter Tryz.func43, Tryz.ntmps43
  go_wp2_with fail
  all_goals (try (go_ret; exact ⟨ret_bool (by simp_all [DBeaconing.eq_iff]), xe⟩))
  refine (eqBeaconStoreS _ _ x.stores y.stores _ (by exact S11.out.ext xe) (by exact S21.out.ext xe)).mono ?_
  rintro e w2 ⟨rfl, he2⟩
  obtain ⟨hc2, hf2, hz2⟩ := he2.facts
  go_wp2_with fail
  all_goals
    go_ret
    exact ⟨ret_bool (by simp_all [DBeaconing.eq_iff]), xe⟩
set_option maxRecDepth 100000 in
set_option maxHeartbeats 1000000 in
theorem szBeaconing (v : Value) (x : DBeaconing) (left : Int) (w : World) (h : BeaconingV w.heap.size w v x) (h0 : 0 ≤ left) (hl : left ≤ 1048576) :
    Calls Tryz.prog 37 #[v, I left] w fun e w' => e = .returned (I (szR (totS (fun y => totS (fun y => y.seg.hops.length) y.beacons) x.stores) left)) ∧ Ext w w' := by
  obtain ⟨A1, n1, c1, rfl, s1⟩ := h
  have S1 := Lib.hid s1; clear s1
  go_enter Tryz.func37, Tryz.ntmps37
  go_wp2_with fail
  refine (szBeaconStoreS _ x.stores (left) _ (by exact S1.out.ext xe) (by omega) (by omega)).mono ?_
  rintro e w1 ⟨rfl, he1⟩
  obtain ⟨hc1, hf1, hz1⟩ := he1.facts
  by_cases hlt0 : left < (((totS (fun y => totS (fun y => y.seg.hops.length) y.beacons) x.stores) : Nat) : Int)
  · rw [szR_neg hlt0]
    go_wp2_with fail
    go_ret
    exact ⟨ret_int (szR_neg (by omega)).symm, xe⟩
  · rw [szR_pos (by omega)]
    go_wp2_with fail
    go_ret
    exact ⟨ret_int (by rw [szR_pos (by omega)] <;> omega), xe⟩
/-- What marking from q on leaves. -/
def BeaconingNum1 (q : Nat) (x : DBeaconing) : DBeaconing := { ts := x.ts, stores := (numS BeaconStoreNumE BeaconStoreCnt (q) x.stores) }
set_option maxRecDepth 100000 in
set_option maxHeartbeats 1000000 in
theorem markBeaconing (v : Value) (x : DBeaconing) (q lo hi : Nat) (w : World) (h : BeaconingO lo hi w v x) (hhi : hi ≤ w.heap.size) (hq : (q + (x.stores.map BeaconStoreCnt).sum) ≤ 1000000000000000) :
    Calls Tryz.prog 45 #[v, I q] w fun e w' => e = .returned (I (((q + (x.stores.map BeaconStoreCnt).sum) : Nat) : Int)) ∧ BeaconingO lo hi w' v (BeaconingNum1 q x) ∧ Out lo hi w w' := by
  obtain ⟨u1, rfl, o1, l0⟩ := h
  have O1 := Lib.hid o1; clear o1
  obtain ⟨a1, k1, c1, hv1⟩ := NO.slice O1.out
  subst hv1
  go_enter Tryz.func45, Tryz.ntmps45
  go_wp2_with fail
  refine (markBeaconStoreS _ x.stores q lo hi _ (by exact (by repeat (first | (with_reducible exact O1.out) | (with_reducible refine BeaconStoreSO_ext ?_ (by with_reducible assumption) ?ge; case ge => (first | omega | (simp only [World.size_alloc]; omega))) | (with_reducible refine BeaconStoreSO_out ?_ (by with_reducible assumption) ?ge; case ge => omega) | (with_reducible refine BeaconStoreSO_alloc ?_ _)))) (by omega)).mono ?_
  rintro e w1 ⟨rfl, p1, t1⟩
  have P1 := Lib.hid p1; clear p1
  have z1 := t1.size
  have hc1 : ∀ k o, k < lo ∨ hi ≤ k → k < _ → w1.cell? ⟨k, o, none⟩ = _ := fun k o h1 h2 => World.cell?_of_block (a := ⟨k, o, none⟩) (t1.block k h2 (by omega))
  simp only [World.size_alloc] at z1
  have lw1 : w.heap.size < w1.heap.size := by omega
  go_wp2_with fail
  go_ret
  have hOut : Out lo hi w w1 := (Out.trans (Out.of_ext xe) (t1.mono (by omega) (by omega)))
  have HOUT := Lib.hid hOut; clear hOut
  exact ⟨rfl, ⟨_, rfl, (by unfold BeaconingNum1; dsimp only; exact (by repeat (first | (with_reducible exact P1.out) | (with_reducible refine BeaconStoreSO_ext ?_ (by with_reducible assumption) ?ge; case ge => (first | omega | (simp only [World.size_alloc]; omega))) | (with_reducible refine BeaconStoreSO_out ?_ (by with_reducible assumption) ?ge; case ge => omega) | (with_reducible refine BeaconStoreSO_alloc ?_ _)))), l0⟩, HOUT.out⟩
set_option maxRecDepth 100000 in
set_option maxHeartbeats 1000000 in
theorem heldBeaconing (v : Value) (x : DBeaconing) (q : Nat) (w : World) (h : BeaconingV w.heap.size w v (BeaconingNum1 q x)) (hq : (q + (x.stores.map BeaconStoreCnt).sum) ≤ 1000000000000000) :
    Calls Tryz.prog 55 #[v, I q] w fun e w' => e = .returned (I (((q + (x.stores.map BeaconStoreCnt).sum) : Nat) : Int)) ∧ Ext w w' := by
  obtain ⟨A1, n1, c1, rfl, s1⟩ := h
  have S1 := Lib.hid s1; clear s1
  go_enter Tryz.func55, Tryz.ntmps55
  go_wp2_with fail
  refine (heldBeaconStoreS _ x.stores q _ (by exact S1.out.ext xe) (by omega)).mono ?_
  rintro e w1 ⟨rfl, e1⟩
  obtain ⟨hc1, -, hz1⟩ := e1.facts
  simp only [World.size_alloc] at hz1 hc1
  have lw1 : w.heap.size < w1.heap.size := by omega
  have j1 : ¬ (((q + (x.stores.map BeaconStoreCnt).sum) : Nat) : Int) < 0 := by omega
  go_wp2_with fail
  go_ret
  exact ⟨rfl, xe⟩
/-- How many numbers an element takes, and the element with its numbers from q on. -/
def BeaconingCnt (x : DBeaconing) : Nat := 1 + (x.stores.map BeaconStoreCnt).sum
def BeaconingNumE (q : Nat) (x : DBeaconing) : DBeaconing := ⟨(q : Int), (numS BeaconStoreNumE BeaconStoreCnt ((q + 1)) x.stores)⟩
theorem BeaconingCnt_le (x : DBeaconing) : BeaconingCnt x ≤ 10 + 10 * (totS (fun y => totS (fun y => y.seg.hops.length) y.beacons) x.stores) := by
  unfold BeaconingCnt
  have := BeaconStoreCnt_sum x.stores
  omega
theorem BeaconingCnt_sum (l : List DBeaconing) : (l.map BeaconingCnt).sum ≤ 10 * (totS (fun y => totS (fun y => totS (fun y => y.seg.hops.length) y.beacons) y.stores) l) := cnt_le (fun x => BeaconingCnt_le x) l
end Go.Proofs.YtdcfidlngbhpcaaGreat
