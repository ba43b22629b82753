/- The laws' helpers on Beacon: to.. (copy), eq.. (compare), sz.. (count), mark.. and held... Printed by gen.py. -/
import Derived.Test.YtcalbcjheenmgaaHSegment
import Derived.Test.YtcalbcjheenmgaaNest
import Derived.Test.YtcalbcjheenmgaaMarkRows
import Derived.Test.YtcalbcjheenmgaaPush
import Derived.Test.YtcalbcjheenmgaaTyped
namespace Go.Proofs.Ytcalbcjheenmgaa
open Go.RowKit
set_option linter.unusedVariables false
theorem info_Beacon : (Try.prog.info? 168).map (fun i => (i.zero, i.size, i.bytes)) = some (some (.agg #[.int .i64 0, .int .i64 0, .int .i64 0, .slice none 0 0]), 4, 48) := by kernel_rfl

def BeaconO (lo hi : Nat) (w : World) (v : Value) (x : DBeacon) : Prop := ∃ u3, v = .agg #[I x.ing, I x.seg.ts, I x.seg.beta, u3] ∧ Own 117 5 lo hi w u3 x.seg.hops.length (x.seg.hops.flatMap HopC) ∧ lo ≤ hi
theorem BeaconO.keep {lo hi : Nat} {w w' : World} {v : Value} {x : DBeacon} (h : BeaconO lo hi w v x) (hk : ∀ k, lo ≤ k → k < hi → k < w.heap.size → w'.heap[k]? = w.heap[k]?) : BeaconO lo hi w' v x := by
  obtain ⟨u3, e, o3, l0⟩ := h
  exact ⟨u3, e, o3.keep fun k h1 h2 h3 => hk k (by omega) (by omega) h3, l0⟩
theorem BeaconO.v {lo hi : Nat} {w : World} {v : Value} {x : DBeacon} (h : BeaconO lo hi w v x) : BeaconV hi w v x := by
  obtain ⟨u3, e, o3, l0⟩ := h
  have s3 := (o3.sl (At := HopAt) HopC.len (by omega) HopC.at_)
  obtain ⟨A3, n3, c3, rfl, _⟩ := id s3
  exact ⟨_, _, _, e, s3.keep HopAt.keeps (by omega) (fun _ _ => rfl)⟩
theorem BeaconO.shape {lo hi : Nat} {w : World} {v : Value} {x : DBeacon} (h : BeaconO lo hi w v x) : ∃ A3 n3 c3, v = .agg #[I x.ing, I x.seg.ts, I x.seg.beta, .slice A3 n3 c3] := by
  obtain ⟨A3, n3, c3, e, _⟩ := h.v
  exact ⟨A3, n3, c3, e⟩
theorem BeaconO.ext {lo hi : Nat} {w w' : World} {v : Value} {x : DBeacon} (h : BeaconO lo hi w v x) (he : Ext w w') (hhi : hi ≤ w.heap.size) : BeaconO lo hi w' v x := h.keep fun k _ _ h3 => he.same k h3
theorem BeaconO.drew {lo hi : Nat} {w : World} {v : Value} {x : DBeacon} (h : BeaconO lo hi w v x) : BeaconO lo hi w.drew v x := h.keep fun _ _ _ _ => rfl
theorem BeaconO.out {lo hi lo' hi' : Nat} {w w' : World} {v : Value} {x : DBeacon} (h : BeaconO lo hi w v x) (ho : Out lo' hi' w w') (hd : hi' ≤ lo ∨ hi ≤ lo') : BeaconO lo hi w' v x := h.keep fun k h1 h2 h3 => ho.block k h3 (by omega)
theorem BeaconO.more {lo hi lo' hi' : Nat} {w : World} {v : Value} {x : DBeacon} (h : BeaconO lo hi w v x) (h1 : lo' ≤ lo) (h2 : hi ≤ hi') : BeaconO lo' hi' w v x := by
  obtain ⟨u3, e, o3, l0⟩ := h
  exact ⟨u3, e, Own.more o3 h1 h2, by omega⟩
theorem BeaconO.up {lo : Nat} {w w' : World} {v : Value} {x : DBeacon} (h : BeaconO lo w.heap.size w v x) (he : Ext w w') : BeaconO lo w'.heap.size w' v x := (h.ext he (Nat.le_refl _)).more (Nat.le_refl _) he.size
theorem BeaconO.setT {lo hi g : Nat} {w : World} {v : Value} {x : DBeacon} {cs' : List Value} (h : BeaconO lo hi w v x) (hb : Blk w g 168 cs') (i : Nat) (u : Value) : BeaconO lo hi (w.setCell ⟨g, i, none⟩ u) v x := by
  obtain ⟨u3, e, o3, l0⟩ := h
  exact ⟨u3, e, Own.setT o3 hb (by decide) i u, l0⟩
theorem BeaconO_rd {lo hi : Nat} {w : World} {v : Value} {x : DBeacon} (h : BeaconO lo hi w v x) (hhi : hi ≤ w.heap.size) : BeaconV w.heap.size w v x := h.v.keep hhi (fun _ _ => rfl)
set_option maxRecDepth 100000 in
set_option maxHeartbeats 1000000 in
theorem eqBeacon (v1 v2 : Value) (x y : DBeacon) (w : World) (h1 : BeaconV w.heap.size w v1 x) (h2 : BeaconV w.heap.size w v2 y) :
    Calls Try.prog 179 #[v1, v2] w fun e w' => e = .returned (.bool (decide (x = y))) ∧ Ext w w' := by
  obtain ⟨A13, n13, c13, rfl, s13⟩ := h1
  obtain ⟨A23, n23, c23, rfl, s23⟩ := h2
  have S13 := Lib.hid s13; clear s13
  have S23 := Lib.hid s23; clear s23
  go_enter Try.func179, Try.ntmps179
  go_wp2_with fail
  all_goals (try (go_ret; exact ⟨ret_bool (by simp_all [DBeacon.eq_iff]), (by repeat (first | (with_reducible exact Ext.refl _) | (with_reducible assumption) | (with_reducible refine Ext.alloc ?_ _) | (with_reducible refine Ext.drew ?_) | (with_reducible refine Ext.drewN ?_ _) | (with_reducible refine Ext.setCell (p := _) ?_ ?ge _; case ge => (dsimp only; omega)) | (with_reducible refine Ext.trans ?_ (by with_reducible assumption))))⟩))
  refine (eqSegment _ _ x.seg y.seg _ (by exact ⟨_, _, _, rfl, S13.out.ext (by repeat (first | (with_reducible exact Ext.refl _) | (with_reducible assumption) | (with_reducible refine Ext.alloc ?_ _) | (with_reducible refine Ext.drew ?_) | (with_reducible refine Ext.drewN ?_ _) | (with_reducible refine Ext.setCell (p := _) ?_ ?ge _; case ge => (dsimp only; omega)) | (with_reducible refine Ext.trans ?_ (by with_reducible assumption))))⟩) (by exact ⟨_, _, _, rfl, S23.out.ext (by repeat (first | (with_reducible exact Ext.refl _) | (with_reducible assumption) | (with_reducible refine Ext.alloc ?_ _) | (with_reducible refine Ext.drew ?_) | (with_reducible refine Ext.drewN ?_ _) | (with_reducible refine Ext.setCell (p := _) ?_ ?ge _; case ge => (dsimp only; omega)) | (with_reducible refine Ext.trans ?_ (by with_reducible assumption))))⟩)).mono ?_
  rintro e w4 ⟨rfl, he4⟩
  obtain ⟨hc4, hf4, hz4⟩ := he4.facts
  go_wp2_with fail
  all_goals
    go_ret
    exact ⟨ret_bool (by simp_all [DBeacon.eq_iff]), (by repeat (first | (with_reducible exact Ext.refl _) | (with_reducible assumption) | (with_reducible refine Ext.alloc ?_ _) | (with_reducible refine Ext.drew ?_) | (with_reducible refine Ext.drewN ?_ _) | (with_reducible refine Ext.setCell (p := _) ?_ ?ge _; case ge => (dsimp only; omega)) | (with_reducible refine Ext.trans ?_ (by with_reducible assumption))))⟩
/-- What marking from q on leaves. -/
def BeaconNum1 (q : Nat) (x : DBeacon) : DBeacon := { ing := x.ing, seg := { ts := x.seg.ts, beta := x.seg.beta, hops := (HopNum q x.seg.hops.length) } }
/-- The cells cs of a Beacon and the blocks that it owns. -/
def BeaconOC (w : World) (fp : List Nat) (cs : List Value) (x : DBeacon) : Prop := ∃ u3, cs = [I x.ing, I x.seg.ts, I x.seg.beta, u3] ∧ w.ownsRow 0 117 5 u3 x.seg.hops.length (x.seg.hops.flatMap HopC) ∧ fp = u3.ownBlock.toList
theorem BeaconOC.keeps : OKeeps BeaconOC := by
  intro w w' fp cs x hk h
  obtain ⟨u3, e, r3, ef⟩ := h
  exact ⟨u3, e, ownsRow_keep r3 (fun b hb => hk b (by rw [ef]; simp [hb])), ef⟩
theorem BeaconOC.at_ (B : Nat) (w : World) (b o : Nat) (fp : List Nat) (cs : List Value) (x : DBeacon) (h : BeaconOC w fp cs x) (hb : ∀ b ∈ fp, b < B) (hc : ∀ j u, cs[j]? = some u → w.cell? ⟨b, o + j, none⟩ = some u) : BeaconAt B w b o x := by
  obtain ⟨u3, rfl, r3, ef⟩ := h
  have s3 : HopS B w u3 x.seg.hops := Own.sl (lo := 0) (n := x.seg.hops.length) (At := HopAt) ⟨r3, fun k hk => hb k (by rw [ef]; simp [hk])⟩ HopC.len (by omega) HopC.at_
  obtain ⟨A3, n3, c3, e3, _⟩ := id s3
  subst e3
  exact ⟨A3, n3, c3, hc 0 _ rfl, hc 1 _ rfl, hc 2 _ rfl, hc 3 _ rfl, s3⟩
theorem BeaconOC.one : OOne BeaconOC := by
  intro w fp cs x h
  obtain ⟨u3, rfl, r3, ef⟩ := h
  obtain ⟨a3, m3, c3, e3⟩ := ownsRow_slice r3
  subst e3
  intro u hu
  simp only [List.mem_cons, List.not_mem_nil, or_false] at hu
  rcases hu with rfl | rfl | rfl | rfl <;> rfl
theorem BeaconOC.typed (T : Nat) (n0 : 117 ≠ T) : OTyped BeaconOC T := by
  intro w fp cs x g cs' h hb
  obtain ⟨u3, e, r3, ef⟩ := h
  subst ef
  intro hm
  exact ownsRow_typed r3 hb n0 hm
theorem BeaconOC.len {w : World} {fp : List Nat} {cs : List Value} {x : DBeacon} (h : BeaconOC w fp cs x) : cs.length = 4 := by
  obtain ⟨u3, rfl, _⟩ := h
  rfl
theorem BeaconO.to_oc {lo hi : Nat} {w : World} {v : Value} {x : DBeacon} (h : BeaconO lo hi w v x) : ∃ a3 k3 q3 fp, v = .agg #[I x.ing, I x.seg.ts, I x.seg.beta, .slice a3 k3 q3] ∧ BeaconOC w fp [I x.ing, I x.seg.ts, I x.seg.beta, .slice a3 k3 q3] x ∧ fp.Nodup ∧ ∀ b ∈ fp, lo ≤ b ∧ b < hi := by
  obtain ⟨u3, e, o3, l0⟩ := h
  obtain ⟨a3, k3, q3, hu3⟩ : ∃ a n c, u3 = .slice a n c := o3.slice
  have b3 : ∀ b ∈ u3.ownBlock.toList, lo ≤ b ∧ b < hi := fun b hb => ⟨(o3.1.lt b (by simpa using hb)).1, o3.2 b (by simpa using hb)⟩
  have d3 : (u3.ownBlock.toList).Nodup := by cases u3.ownBlock <;> simp
  subst hu3
  exact ⟨a3, k3, q3, (Value.slice a3 k3 q3).ownBlock.toList, e, ⟨_, rfl, (o3.more (Nat.zero_le _) (Nat.le_refl _)).1, rfl⟩, d3, b3⟩
/-- A []Beacon of the call's own. -/
abbrev BeaconSO (lo hi : Nat) (w : World) (v : Value) (xs : List DBeacon) : Prop := NO BeaconOC 168 4 lo hi w v xs
theorem BeaconSO_rd {lo hi : Nat} {w : World} {v : Value} {xs : List DBeacon} (h : BeaconSO lo hi w v xs) (hhi : hi ≤ w.heap.size) : BeaconS w.heap.size w v xs := (NO.sl (At := BeaconAt) h (fun _ => rfl) BeaconOC.at_).keep BeaconAt.keeps hhi (fun _ _ => rfl)
theorem BeaconSO_ext {lo hi : Nat} {w w' : World} {v : Value} {xs : List DBeacon} (h : BeaconSO lo hi w v xs) (he : Ext w w') (_hhi : hi ≤ w.heap.size) : BeaconSO lo hi w' v xs := NO.keep BeaconOC.keeps h fun k _ _ h3 => he.same k h3
theorem BeaconSO_out {lo hi : Nat} {lo' hi' : Nat} {w w' : World} {v : Value} {xs : List DBeacon} (h : BeaconSO lo hi w v xs) (ho : Out lo' hi' w w') (hd : hi' ≤ lo ∨ hi ≤ lo') : BeaconSO lo hi w' v xs := NO.keep BeaconOC.keeps h fun k h1 h2 h3 => ho.block k h3 (by omega)
theorem BeaconSO_drew {lo hi : Nat} {w : World} {v : Value} {xs : List DBeacon} (h : BeaconSO lo hi w v xs) : BeaconSO lo hi w.drew v xs := NO.keep BeaconOC.keeps h fun _ _ _ _ => rfl
theorem BeaconSO_alloc {lo hi : Nat} {w : World} {v : Value} {xs : List DBeacon} (h : BeaconSO lo hi w v xs) (o : Obj) : BeaconSO lo hi (w.alloc o) v xs := NO.keep BeaconOC.keeps h fun k _ _ h3 => Below.heap_alloc w o k h3
theorem BeaconSO_setCell {lo hi : Nat} {w : World} {v : Value} {xs : List DBeacon} (h : BeaconSO lo hi w v xs) {p : Addr} (hp : p.block < lo ∨ hi ≤ p.block) (u : Value) : BeaconSO lo hi (w.setCell p u) v xs := NO.keep BeaconOC.keeps h fun k h1 h2 _ => Below.heap_setCell _ _ _ _ (by omega)
theorem BeaconSO_keep {lo hi : Nat} {w w' : World} {v : Value} {xs : List DBeacon} (h : BeaconSO lo hi w v xs) (hk : ∀ k, lo ≤ k → k < hi → k < w.heap.size → w'.heap[k]? = w.heap[k]?) : BeaconSO lo hi w' v xs := NO.keep BeaconOC.keeps h hk
set_option maxRecDepth 100000 in
set_option maxHeartbeats 1000000 in
theorem eqBeaconS (v1 v2 : Value) (xs ys : List DBeacon) (w : World) (h1 : BeaconS w.heap.size w v1 xs) (h2 : BeaconS w.heap.size w v2 ys) :
    Calls Try.prog 192 #[v1, v2] w fun e w' => e = .returned (.bool (decide (xs = ys))) ∧ Ext w w' := by
  obtain ⟨A1, n1, c1, rfl, hl1, hn1, hm1, -⟩ := id h1
  obtain ⟨A2, n2, c2, rfl, hl2, hn2, hm2, -⟩ := id h2
  unfold maxLen at hm1 hm2
  have H1 := Lib.hid h1; have H2 := Lib.hid h2; have E1 := Lib.hid hl1; have E2 := Lib.hid hl2; clear h1 h2 hl1 hl2
  by_cases hn : n1 = n2
  · subst hn
    go_enter Try.func192, Try.ntmps192
    go_wp2
    go_loopw [5] (fun i wr => ∃ k : Nat, k ≤ n1 ∧ i = I k ∧ xs.take k = ys.take k ∧ Ext w wr) (fun i _ => n1 - (intOf i).toNat)
    case atStart => exact ⟨0, by omega, rfl, by simp, Ext.refl _⟩
    case round =>
      obtain ⟨k, hk, rfl, hq, he⟩ := hrel
      have HQ := Lib.hid hq; clear hq
      have HE := Lib.hid he; clear he
      by_cases hlt : k < n1
      · obtain ⟨b1, o1, rfl, hb1, hk1, hc1⟩ := (H1.out.ext HE.out).at_ hlt
        obtain ⟨b2, o2, rfl, hb2, hk2, hc2⟩ := (H2.out.ext HE.out).at_ hlt
        have i0 : (0 : Int) ≤ (k : Int) := by omega
        have i1 : (k : Int) < (n1 : Int) := by omega
        have X1 := Lib.hid (take_snoc xs k hk1)
        have X2 := Lib.hid (take_snoc ys k hk2)
        have hne : ¬ xs[k] = ys[k] → xs ≠ ys := fun hne h => hne (by subst h; rfl)
        have HN := Lib.hid hne; clear hne
        generalize xs[k] = x at *
        generalize ys[k] = y at *
        obtain ⟨A13, n13, c13, h10, h11, h12, h13, s13⟩ := hc1
        obtain ⟨A23, n23, c23, h20, h21, h22, h23, s23⟩ := hc2
        have S13 := Lib.hid s13; clear s13
        have S23 := Lib.hid s23; clear s23
        go_wp2_with fail
        go_region_held3 (fun W => wr.heap.size ≤ W.heap.size ∧ ∀ b o, b < wr.heap.size → W.cell? ⟨b, o, none⟩ = wr.cell? ⟨b, o, none⟩)
          (first | exact ⟨Nat.le_refl _, fun _ _ _ => rfl⟩ | exact keepC (by assumption) he1)
          (first | (go_at_call 179; refine (eqBeacon _ _ x y _ (by exact ⟨_, _, _, rfl, S13.out.ext (by repeat (first | (with_reducible exact Ext.refl _) | (with_reducible assumption) | (with_reducible refine Ext.alloc ?_ _) | (with_reducible refine Ext.drew ?_) | (with_reducible refine Ext.drewN ?_ _) | (with_reducible refine Ext.setCell (p := _) ?_ ?ge _; case ge => (dsimp only; omega)) | (with_reducible refine Ext.trans ?_ (by with_reducible assumption))))⟩) (by exact ⟨_, _, _, rfl, S23.out.ext (by repeat (first | (with_reducible exact Ext.refl _) | (with_reducible assumption) | (with_reducible refine Ext.alloc ?_ _) | (with_reducible refine Ext.drew ?_) | (with_reducible refine Ext.drewN ?_ _) | (with_reducible refine Ext.setCell (p := _) ?_ ?ge _; case ge => (dsimp only; omega)) | (with_reducible refine Ext.trans ?_ (by with_reducible assumption))))⟩)).mono ?_; rintro e w1 ⟨rfl, he1⟩))
        have HE1 := Lib.hid (HE.out.drew.trans he1)
        have hdd : decide (x = y) = true ↔ x = y := decide_eq_true_iff
        have HD := Lib.hid hdd; clear hdd
        generalize decide (x = y) = bb at *
        cases bb
        · have hxy : ¬ x = y := fun h => by have := HD.out.2 h; cases this
          have HXY := Lib.hid hxy; clear hxy
          go_wp2
          go_ret
          exact ⟨ret_bool (by simp [HN.out HXY.out]), HE1.out⟩
        · have HXY := Lib.hid (HD.out.1 rfl)
          go_wp2
          go_roundw
          case rel => exact ⟨k + 1, by omega, by go_num, by rw [X1.out, X2.out, HQ.out, HXY.out], HE1.out⟩
          case measure => simp [intOf]; omega
      · go_wp2
        go_ret
        have h := HQ.out
        rw [List.take_of_length_le (by rw [E1.out]; omega), List.take_of_length_le (by rw [E2.out]; omega)] at h
        exact ⟨ret_bool (by simp [h]), HE.out⟩
  · have hb : ((n1 : Int) == (n2 : Int)) = false := by simp; omega
    have hb' : ((n1 : Int) != (n2 : Int)) = true := by simp; omega
    have HN := Lib.hid hn; clear hn
    go_enter Try.func192, Try.ntmps192
    go_wp2
    go_ret
    have : xs ≠ ys := fun h => HN.out (by rw [← E1.out, ← E2.out, h])
    exact ⟨ret_bool (by simp [this]), Ext.refl _⟩
/-- How many numbers an element takes, and the element with its numbers from q on. -/
def BeaconCnt (x : DBeacon) : Nat := 3 + 5 * x.seg.hops.length
def BeaconNumE (q : Nat) (x : DBeacon) : DBeacon := ⟨(q : Int), ⟨(q : Int) + 1, (q : Int) + 1 + 1, (HopNum (q + 3) x.seg.hops.length)⟩⟩
theorem BeaconCnt_le (x : DBeacon) : BeaconCnt x ≤ 10 + 10 * (x.seg.hops.length) := by
  unfold BeaconCnt
  omega
theorem BeaconCnt_sum (l : List DBeacon) : (l.map BeaconCnt).sum ≤ 10 * (totS (fun y => y.seg.hops.length) l) := cnt_le (fun x => BeaconCnt_le x) l
set_option maxRecDepth 100000 in
set_option maxHeartbeats 1000000 in
theorem markBeaconS_row (v : Value) (xs : List DBeacon) (q : Nat) (qi : Int) (w : World) (cs : List Value) (fp : List Nat) (ho : w.ownsRow 0 168 4 v xs.length cs) (hl : OL BeaconOC 4 w xs fp cs) (hn : (v.ownBlock.toList ++ fp).Nodup) (hqi : qi = (q : Int)) (hq : q + (xs.map BeaconCnt).sum ≤ 1000000000000000) :
    Calls Try.prog 160 #[v, I qi] w fun e w' => e = .returned (I ((q + (xs.map BeaconCnt).sum : Nat) : Int)) ∧ (∃ cs', w'.ownsRow 0 168 4 v xs.length cs' ∧ OL BeaconOC 4 w' (numS BeaconNumE BeaconCnt q xs) fp cs') ∧ OutF (v.ownBlock.toList ++ fp) w w' := by
  subst hqi
  rcases Own.cases (hi := w.heap.size) ⟨ho, fun k hk => (ho.lt k hk).2⟩ with ⟨rfl, h0, hx⟩ | ⟨g, cap, rest, rfl, h1, h2, hb, hlc, hnn, hm, hs⟩
  · obtain rfl : xs = [] := List.eq_nil_of_length_eq_zero h0
    subst hx
    have HL := Lib.hid hl; clear hl ho hn h0
    go_enter Try.func160, Try.ntmps160
    go_wp2
    go_loop [1, 5] (fun k i => k = I q ∧ i = I 0) (fun _ _ => 0)
    case atStart => exact ⟨rfl, rfl⟩
    case round =>
      obtain ⟨rfl, rfl⟩ := hrel
      go_wp2
      go_ret
      exact ⟨rfl, ⟨[], World.ownsRow_nil _ _ _ _, HL.out⟩, OutF.refl _ _⟩
  · have hnd : (g :: fp).Nodup := by simpa [Value.ownBlock] using hn
    have M0 := Lib.hid (MInv.start (f := BeaconNumE) (c := BeaconCnt) (q := q) hb hl)
    have HND := Lib.hid hnd
    have HS := Lib.hid hs
    have HLC := Lib.hid hl.len
    clear ho hl hn hb hlc hs hnd
    unfold maxLen at hm
    go_enter Try.func160, Try.ntmps160
    go_wp2
    go_loopw [1, 5] (fun k i wr => ∃ j p : Nat, j ≤ xs.length ∧ k = I p ∧ i = I j ∧ MInv BeaconOC 4 BeaconNumE BeaconCnt 168 g rest fp xs q w wr j p) (fun _ i _ => xs.length - (intOf i).toNat)
    case atStart => exact ⟨0, q, by omega, rfl, rfl, M0.out⟩
    case round =>
      obtain ⟨j, p, hj, rfl, rfl, hM⟩ := hrel
      have HM := Lib.hid hM; clear hM M0
      by_cases hlt : j < xs.length
      · have hpb : p + BeaconCnt xs[j] ≤ 1000000000000000 := by
          have h1 := HM.out.1
          have h2 := sum_take BeaconCnt xs j hlt
          have h3 := sum_take_le BeaconCnt xs (j + 1)
          omega
        obtain ⟨f1, pre, post, c1, hoc, hpl, hbl, hg, hf, hgo⟩ := HM.out.step BeaconOC.keeps HND.out hlt
        have HGO := Lib.hid hgo; clear hgo
        have HF := Lib.hid hf; clear hf
        generalize xs[j] = x at *
        unfold BeaconCnt at hpb
        obtain ⟨u3, rfl, r3, rfl⟩ := hoc
        have R3 := Lib.hid r3; clear r3
        obtain ⟨A3, n3, c3, hu3⟩ := ownsRow_slice R3.out
        subst hu3
        have G3 : Hid (g ∉ (Value.slice A3 n3 c3).ownBlock.toList) := fun hm => hg (by first | exact hm | (simp only [List.mem_append] at hm ⊢; simp [hm]))
        clear hg
        have HPL := Lib.hid hpl; clear hpl
        have B0 := Lib.hid hbl; clear hbl
        simp only [List.cons_append, List.nil_append] at B0
        have lg : g < wr.heap.size := B0.out.lt
        obtain ⟨hu0, hu1, hu2, hu3⟩ := cells_at4 B0.out HPL.out
        have hf0 := B0.out.frozen (j * 4)
        have hf1 := B0.out.frozen (j * 4 + 1)
        have hf2 := B0.out.frozen (j * 4 + 2)
        have hf3 := B0.out.frozen (j * 4 + 3)
        go_wp2_with fail
        refine (markHopS_row _ x.seg.hops (p + 3) ((p : Int) + 1 + 1 + 1) _ (by exact ownsRow_set (ownsRow_set (ownsRow_set (R3.out) G3.out) G3.out) G3.out) (by omega) (by omega)).mono ?_
        rintro e w3 ⟨rfl, r3, t3⟩
        have R3' := Lib.hid r3; clear r3
        have T3 := Lib.hid t3; clear t3
        have B3' := Blk.outF (Blk.set_ (Blk.set_ (Blk.set_ (B0.out) (j * 4) (I ((p : Int)))) (j * 4 + 1) (I ((p : Int) + 1))) (j * 4 + 2) (I ((p : Int) + 1 + 1))) T3.out G3.out
        have B3 : Hid (Blk w3 g 168 (pre ++ (I ((p : Int)) :: I ((p : Int) + 1) :: I ((p : Int) + 1 + 1) :: .slice A3 n3 c3 :: post))) := by
          unfold Hid
          have h := B3'
          rw [← HPL.out] at h
          simpa using h
        clear B3'
        have z3 := T3.out.size
        simp only [World.size_setCell] at z3
        have lg3 : g < w3.heap.size := by omega
        obtain ⟨hv3_0, hv3_1, hv3_2, hv3_3⟩ := cells_at4 B3.out HPL.out
        have hg3_0 := B3.out.frozen (j * 4)
        have hg3_1 := B3.out.frozen (j * 4 + 1)
        have hg3_2 := B3.out.frozen (j * 4 + 2)
        have hg3_3 := B3.out.frozen (j * 4 + 3)
        have hOC : BeaconOC w3 ((Value.slice A3 n3 c3).ownBlock.toList) [I ((p : Int)), I ((p : Int) + 1), I ((p : Int) + 1 + 1), .slice A3 n3 c3] (BeaconNumE p x) := ⟨_, rfl, (by unfold BeaconNumE; dsimp only; rw [HopNum_len]; exact R3'.out), rfl⟩
        have HOC := Lib.hid hOC; clear hOC
        have hOU : OutF (g :: ((Value.slice A3 n3 c3).ownBlock.toList)) wr w3 := (by repeat (first | (with_reducible exact OutF.refl _ _) | (with_reducible refine OutF.setCell ?_ ?ge _; case ge => simp) | (with_reducible refine OutF.trans ?_ (T3.out.mono (fun x hx => List.mem_cons_of_mem _ (by first | exact hx | (simp only [List.mem_append] at hx ⊢; simp [hx])))))))
        have HOU := Lib.hid hOU; clear hOU
        go_wp2_with fail
        go_roundw
        case rel =>
          exact ⟨j + 1, p + BeaconCnt x, by omega, by simp only [BeaconCnt, Value.int.injEq, true_and]; omega, by go_num, HGO.out _ _ HOC.out rfl B3.out HOU.out⟩
        case measure => simp [intOf]; omega
      · go_wp2_with fail
        go_ret
        obtain rfl : j = xs.length := by omega
        obtain ⟨hp, cs', hb', hl', ho'⟩ := HM.out.stop
        subst hp
        have hs := HS.out
        have e1 : cs'.length = cs.length := by rw [hl'.len, numS_len, HLC.out]
        refine ⟨rfl, ⟨cs', row_of_blk hb' (by rw [hl'.len, numS_len]) hnn (by unfold maxLen; omega) (by rw [← hs, List.length_append, List.length_append, e1]), hl'⟩, by simpa [Value.ownBlock] using ho'⟩
theorem markBeaconS (v : Value) (xs : List DBeacon) (q lo hi : Nat) (w : World) (h : BeaconSO lo hi w v xs) (hq : q + (xs.map BeaconCnt).sum ≤ 1000000000000000) :
    Calls Try.prog 160 #[v, I q] w fun e w' => e = .returned (I ((q + (xs.map BeaconCnt).sum : Nat) : Int)) ∧ BeaconSO lo hi w' v (numS BeaconNumE BeaconCnt q xs) ∧ Out lo hi w w' :=
  calls_NO numS_len h fun cs fp h1 h2 h3 => markBeaconS_row v xs q q w cs fp h1 h2 h3 rfl hq
set_option maxRecDepth 100000 in
set_option maxHeartbeats 1000000 in
theorem heldBeaconS (v : Value) (xs : List DBeacon) (q : Nat) (w : World) (h : BeaconS w.heap.size w v (numS BeaconNumE BeaconCnt q xs)) (hq : q + (xs.map BeaconCnt).sum ≤ 1000000000000000) :
    Calls Try.prog 161 #[v, I q] w fun e w' => e = .returned (I ((q + (xs.map BeaconCnt).sum : Nat) : Int)) ∧ Ext w w' := by
  obtain ⟨A, n', c, rfl, hl, hn, hm, -⟩ := id h
  rw [numS_len] at hl
  subst hl
  have H := Lib.hid h; clear h
  unfold maxLen at hm
  go_enter Try.func161, Try.ntmps161
  go_wp2
  go_loopw [1, 5] (fun k i wr => ∃ j p : Nat, j ≤ xs.length ∧ p = q + ((xs.take j).map BeaconCnt).sum ∧ k = I p ∧ i = I j ∧ Ext w wr) (fun _ i _ => xs.length - (intOf i).toNat)
  case atStart => exact ⟨0, q, by omega, by simp, rfl, rfl, Ext.refl _⟩
  case round =>
    obtain ⟨j, p, hj, hp, rfl, rfl, he⟩ := hrel
    have HPQ := Lib.hid hp; clear hp
    by_cases hlt : j < xs.length
    · have hpb : p + BeaconCnt xs[j] ≤ 1000000000000000 := by
        have h1 := HPQ.out
        have h2 := sum_take BeaconCnt xs j hlt
        have h3 := sum_take_le BeaconCnt xs (j + 1)
        omega
      have HPN : Hid (p + BeaconCnt xs[j] = q + ((xs.take (j + 1)).map BeaconCnt).sum) := by
        unfold Hid
        rw [sum_take BeaconCnt xs j hlt, HPQ.out]
        omega
      obtain ⟨b, off, rfl, hb, hk, hc⟩ := (H.out.ext he).at_ hlt
      rw [numS_get _ _ _ hlt, ← HPQ.out] at hc
      generalize xs[j] = x at *
      unfold BeaconCnt at hpb HPN
      obtain ⟨A3, n3, c3, hc0, hc1, hc2, hc3, s3⟩ := hc
      simp only [BeaconNumE] at hc0 hc1 hc2 hc3 s3
      have S3 := Lib.hid s3; clear s3
      have i0 : (0 : Int) ≤ (p : Int) := by omega
      go_wp2_with fail
      refine (heldHopS_at _ x.seg.hops.length (p + 3) _ _ (by exact S3.out.ext (by repeat (first | (with_reducible exact Ext.refl _) | (with_reducible assumption) | (with_reducible refine Ext.alloc ?_ _) | (with_reducible refine Ext.drew ?_) | (with_reducible refine Ext.drewN ?_ _) | (with_reducible refine Ext.setCell (p := _) ?_ ?ge _; case ge => (dsimp only; omega)) | (with_reducible refine Ext.trans ?_ (by with_reducible assumption))))) (by omega) (by omega)).mono ?_
      rintro e w3 ⟨rfl, e3⟩
      obtain ⟨hc3_, -, hz3⟩ := e3.facts
      have i4 : (0 : Int) ≤ ((p + 3 + 5 * x.seg.hops.length : Nat) : Int) := by omega
      have j4 : ¬ ((p + 3 + 5 * x.seg.hops.length : Nat) : Int) < 0 := by omega
      go_wp2_with fail
      go_roundw
      case rel => exact ⟨j + 1, _, by omega, HPN.out, by simp only [Value.int.injEq, true_and]; omega, by go_num, (by repeat (first | (with_reducible exact Ext.refl _) | (with_reducible assumption) | (with_reducible refine Ext.alloc ?_ _) | (with_reducible refine Ext.drew ?_) | (with_reducible refine Ext.drewN ?_ _) | (with_reducible refine Ext.setCell (p := _) ?_ ?ge _; case ge => (dsimp only; omega)) | (with_reducible refine Ext.trans ?_ (by with_reducible assumption))))⟩
      case measure => simp [intOf]; omega
    · go_wp2_with fail
      go_ret
      obtain rfl : j = xs.length := by omega
      exact ⟨ret_int (by have := HPQ.out; rw [List.take_length] at this; omega), (by repeat (first | (with_reducible exact Ext.refl _) | (with_reducible assumption) | (with_reducible refine Ext.alloc ?_ _) | (with_reducible refine Ext.drew ?_) | (with_reducible refine Ext.drewN ?_ _) | (with_reducible refine Ext.setCell (p := _) ?_ ?ge _; case ge => (dsimp only; omega)) | (with_reducible refine Ext.trans ?_ (by with_reducible assumption))))⟩
theorem heldBeaconS_at (v : Value) (xs : List DBeacon) (q : Nat) (qi : Int) (w : World) (h : BeaconS w.heap.size w v (numS BeaconNumE BeaconCnt q xs)) (hqi : qi = (q : Int)) (hq : q + (xs.map BeaconCnt).sum ≤ 1000000000000000) :
    Calls Try.prog 161 #[v, I qi] w fun e w' => e = .returned (I ((q + (xs.map BeaconCnt).sum : Nat) : Int)) ∧ Ext w w' := by
  subst hqi
  exact heldBeaconS v xs q w h hq
end Go.Proofs.Ytcalbcjheenmgaa
