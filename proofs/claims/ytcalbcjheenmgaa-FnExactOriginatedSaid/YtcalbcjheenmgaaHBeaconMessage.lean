/- The laws' helpers on BeaconMessage: to.. (copy), eq.. (compare), sz.. (count), mark.. and held... Printed by gen.py. -/
import Derived.Test.YtcalbcjheenmgaaHBeacon
import Derived.Test.YtcalbcjheenmgaaNest
import Derived.Test.YtcalbcjheenmgaaMarkRows
import Derived.Test.YtcalbcjheenmgaaPush
import Derived.Test.YtcalbcjheenmgaaTyped
namespace Go.Proofs.Ytcalbcjheenmgaa
open Go.RowKit
set_option linter.unusedVariables false
theorem info_BeaconMessage : (Try.prog.info? 170).map (fun i => (i.zero, i.size, i.bytes)) = some (some (.agg #[.int .i64 0, .int .i64 0, .int .i64 0, .int .i64 0, .slice none 0 0]), 5, 56) := by kernel_rfl

def BeaconMessageO (lo hi : Nat) (w : World) (v : Value) (x : DBeaconMessage) : Prop := ∃ u4, v = .agg #[I x.to, I x.beacon.ing, I x.beacon.seg.ts, I x.beacon.seg.beta, u4] ∧ Own 117 5 lo hi w u4 x.beacon.seg.hops.length (x.beacon.seg.hops.flatMap HopC) ∧ lo ≤ hi
theorem BeaconMessageO.keep {lo hi : Nat} {w w' : World} {v : Value} {x : DBeaconMessage} (h : BeaconMessageO lo hi w v x) (hk : ∀ k, lo ≤ k → k < hi → k < w.heap.size → w'.heap[k]? = w.heap[k]?) : BeaconMessageO lo hi w' v x := by
  obtain ⟨u4, e, o4, l0⟩ := h
  exact ⟨u4, e, o4.keep fun k h1 h2 h3 => hk k (by omega) (by omega) h3, l0⟩
theorem BeaconMessageO.v {lo hi : Nat} {w : World} {v : Value} {x : DBeaconMessage} (h : BeaconMessageO lo hi w v x) : BeaconMessageV hi w v x := by
  obtain ⟨u4, e, o4, l0⟩ := h
  have s4 := (o4.sl (At := HopAt) HopC.len (by omega) HopC.at_)
  obtain ⟨A4, n4, c4, rfl, _⟩ := id s4
  exact ⟨_, _, _, e, s4.keep HopAt.keeps (by omega) (fun _ _ => rfl)⟩
theorem BeaconMessageO.shape {lo hi : Nat} {w : World} {v : Value} {x : DBeaconMessage} (h : BeaconMessageO lo hi w v x) : ∃ A4 n4 c4, v = .agg #[I x.to, I x.beacon.ing, I x.beacon.seg.ts, I x.beacon.seg.beta, .slice A4 n4 c4] := by
  obtain ⟨A4, n4, c4, e, _⟩ := h.v
  exact ⟨A4, n4, c4, e⟩
theorem BeaconMessageO.ext {lo hi : Nat} {w w' : World} {v : Value} {x : DBeaconMessage} (h : BeaconMessageO lo hi w v x) (he : Ext w w') (hhi : hi ≤ w.heap.size) : BeaconMessageO lo hi w' v x := h.keep fun k _ _ h3 => he.same k h3
theorem BeaconMessageO.drew {lo hi : Nat} {w : World} {v : Value} {x : DBeaconMessage} (h : BeaconMessageO lo hi w v x) : BeaconMessageO lo hi w.drew v x := h.keep fun _ _ _ _ => rfl
theorem BeaconMessageO.out {lo hi lo' hi' : Nat} {w w' : World} {v : Value} {x : DBeaconMessage} (h : BeaconMessageO lo hi w v x) (ho : Out lo' hi' w w') (hd : hi' ≤ lo ∨ hi ≤ lo') : BeaconMessageO lo hi w' v x := h.keep fun k h1 h2 h3 => ho.block k h3 (by omega)
theorem BeaconMessageO.more {lo hi lo' hi' : Nat} {w : World} {v : Value} {x : DBeaconMessage} (h : BeaconMessageO lo hi w v x) (h1 : lo' ≤ lo) (h2 : hi ≤ hi') : BeaconMessageO lo' hi' w v x := by
  obtain ⟨u4, e, o4, l0⟩ := h
  exact ⟨u4, e, Own.more o4 h1 h2, by omega⟩
theorem BeaconMessageO.up {lo : Nat} {w w' : World} {v : Value} {x : DBeaconMessage} (h : BeaconMessageO lo w.heap.size w v x) (he : Ext w w') : BeaconMessageO lo w'.heap.size w' v x := (h.ext he (Nat.le_refl _)).more (Nat.le_refl _) he.size
theorem BeaconMessageO.setT {lo hi g : Nat} {w : World} {v : Value} {x : DBeaconMessage} {cs' : List Value} (h : BeaconMessageO lo hi w v x) (hb : Blk w g 170 cs') (i : Nat) (u : Value) : BeaconMessageO lo hi (w.setCell ⟨g, i, none⟩ u) v x := by
  obtain ⟨u4, e, o4, l0⟩ := h
  exact ⟨u4, e, Own.setT o4 hb (by decide) i u, l0⟩
theorem BeaconMessageO_rd {lo hi : Nat} {w : World} {v : Value} {x : DBeaconMessage} (h : BeaconMessageO lo hi w v x) (hhi : hi ≤ w.heap.size) : BeaconMessageV w.heap.size w v x := h.v.keep hhi (fun _ _ => rfl)
set_option maxRecDepth 100000 in
set_option maxHeartbeats 1000000 in
theorem eqBeaconMessage (v1 v2 : Value) (x y : DBeaconMessage) (w : World) (h1 : BeaconMessageV w.heap.size w v1 x) (h2 : BeaconMessageV w.heap.size w v2 y) :
    Calls Try.prog 128 #[v1, v2] w fun e w' => e = .returned (.bool (decide (x = y))) ∧ Ext w w' := by
  obtain ⟨A14, n14, c14, rfl, s14⟩ := h1
  obtain ⟨A24, n24, c24, rfl, s24⟩ := h2
  have S14 := Lib.hid s14; clear s14
  have S24 := Lib.hid s24; clear s24
  go_enter Try.func128, Try.ntmps128
  go_wp2_with fail
  all_goals (try (go_ret; exact ⟨ret_bool (by simp_all [DBeaconMessage.eq_iff]), (by repeat (first | (with_reducible exact Ext.refl _) | (with_reducible assumption) | (with_reducible refine Ext.alloc ?_ _) | (with_reducible refine Ext.drew ?_) | (with_reducible refine Ext.drewN ?_ _) | (with_reducible refine Ext.setCell (p := _) ?_ ?ge _; case ge => (dsimp only; omega)) | (with_reducible refine Ext.trans ?_ (by with_reducible assumption))))⟩))
  refine (eqBeacon _ _ x.beacon y.beacon _ (by exact ⟨_, _, _, rfl, S14.out.ext (by repeat (first | (with_reducible exact Ext.refl _) | (with_reducible assumption) | (with_reducible refine Ext.alloc ?_ _) | (with_reducible refine Ext.drew ?_) | (with_reducible refine Ext.drewN ?_ _) | (with_reducible refine Ext.setCell (p := _) ?_ ?ge _; case ge => (dsimp only; omega)) | (with_reducible refine Ext.trans ?_ (by with_reducible assumption))))⟩) (by exact ⟨_, _, _, rfl, S24.out.ext (by repeat (first | (with_reducible exact Ext.refl _) | (with_reducible assumption) | (with_reducible refine Ext.alloc ?_ _) | (with_reducible refine Ext.drew ?_) | (with_reducible refine Ext.drewN ?_ _) | (with_reducible refine Ext.setCell (p := _) ?_ ?ge _; case ge => (dsimp only; omega)) | (with_reducible refine Ext.trans ?_ (by with_reducible assumption))))⟩)).mono ?_
  rintro e w5 ⟨rfl, he5⟩
  obtain ⟨hc5, hf5, hz5⟩ := he5.facts
  go_wp2_with fail
  all_goals
    go_ret
    exact ⟨ret_bool (by simp_all [DBeaconMessage.eq_iff]), (by repeat (first | (with_reducible exact Ext.refl _) | (with_reducible assumption) | (with_reducible refine Ext.alloc ?_ _) | (with_reducible refine Ext.drew ?_) | (with_reducible refine Ext.drewN ?_ _) | (with_reducible refine Ext.setCell (p := _) ?_ ?ge _; case ge => (dsimp only; omega)) | (with_reducible refine Ext.trans ?_ (by with_reducible assumption))))⟩
/-- What marking from q on leaves. -/
def BeaconMessageNum1 (q : Nat) (x : DBeaconMessage) : DBeaconMessage := { to := x.to, beacon := { ing := x.beacon.ing, seg := { ts := x.beacon.seg.ts, beta := x.beacon.seg.beta, hops := (HopNum q x.beacon.seg.hops.length) } } }
/-- The cells cs of a BeaconMessage and the blocks that it owns. -/
def BeaconMessageOC (w : World) (fp : List Nat) (cs : List Value) (x : DBeaconMessage) : Prop := ∃ u4, cs = [I x.to, I x.beacon.ing, I x.beacon.seg.ts, I x.beacon.seg.beta, u4] ∧ w.ownsRow 0 117 5 u4 x.beacon.seg.hops.length (x.beacon.seg.hops.flatMap HopC) ∧ fp = u4.ownBlock.toList
theorem BeaconMessageOC.keeps : OKeeps BeaconMessageOC := by
  intro w w' fp cs x hk h
  obtain ⟨u4, e, r4, ef⟩ := h
  exact ⟨u4, e, ownsRow_keep r4 (fun b hb => hk b (by rw [ef]; simp [hb])), ef⟩
theorem BeaconMessageOC.at_ (B : Nat) (w : World) (b o : Nat) (fp : List Nat) (cs : List Value) (x : DBeaconMessage) (h : BeaconMessageOC w fp cs x) (hb : ∀ b ∈ fp, b < B) (hc : ∀ j u, cs[j]? = some u → w.cell? ⟨b, o + j, none⟩ = some u) : BeaconMessageAt B w b o x := by
  obtain ⟨u4, rfl, r4, ef⟩ := h
  have s4 : HopS B w u4 x.beacon.seg.hops := Own.sl (lo := 0) (n := x.beacon.seg.hops.length) (At := HopAt) ⟨r4, fun k hk => hb k (by rw [ef]; simp [hk])⟩ HopC.len (by omega) HopC.at_
  obtain ⟨A4, n4, c4, e4, _⟩ := id s4
  subst e4
  exact ⟨A4, n4, c4, hc 0 _ rfl, hc 1 _ rfl, hc 2 _ rfl, hc 3 _ rfl, hc 4 _ rfl, s4⟩
theorem BeaconMessageOC.one : OOne BeaconMessageOC := by
  intro w fp cs x h
  obtain ⟨u4, rfl, r4, ef⟩ := h
  obtain ⟨a4, m4, c4, e4⟩ := ownsRow_slice r4
  subst e4
  intro u hu
  simp only [List.mem_cons, List.not_mem_nil, or_false] at hu
  rcases hu with rfl | rfl | rfl | rfl | rfl <;> rfl
theorem BeaconMessageOC.typed (T : Nat) (n0 : 117 ≠ T) : OTyped BeaconMessageOC T := by
  intro w fp cs x g cs' h hb
  obtain ⟨u4, e, r4, ef⟩ := h
  subst ef
  intro hm
  exact ownsRow_typed r4 hb n0 hm
theorem BeaconMessageOC.len {w : World} {fp : List Nat} {cs : List Value} {x : DBeaconMessage} (h : BeaconMessageOC w fp cs x) : cs.length = 5 := by
  obtain ⟨u4, rfl, _⟩ := h
  rfl
theorem BeaconMessageO.to_oc {lo hi : Nat} {w : World} {v : Value} {x : DBeaconMessage} (h : BeaconMessageO lo hi w v x) : ∃ a4 k4 q4 fp, v = .agg #[I x.to, I x.beacon.ing, I x.beacon.seg.ts, I x.beacon.seg.beta, .slice a4 k4 q4] ∧ BeaconMessageOC w fp [I x.to, I x.beacon.ing, I x.beacon.seg.ts, I x.beacon.seg.beta, .slice a4 k4 q4] x ∧ fp.Nodup ∧ ∀ b ∈ fp, lo ≤ b ∧ b < hi := by
  obtain ⟨u4, e, o4, l0⟩ := h
  obtain ⟨a4, k4, q4, hu4⟩ : ∃ a n c, u4 = .slice a n c := o4.slice
  have b4 : ∀ b ∈ u4.ownBlock.toList, lo ≤ b ∧ b < hi := fun b hb => ⟨(o4.1.lt b (by simpa using hb)).1, o4.2 b (by simpa using hb)⟩
  have d4 : (u4.ownBlock.toList).Nodup := by cases u4.ownBlock <;> simp
  subst hu4
  exact ⟨a4, k4, q4, (Value.slice a4 k4 q4).ownBlock.toList, e, ⟨_, rfl, (o4.more (Nat.zero_le _) (Nat.le_refl _)).1, rfl⟩, d4, b4⟩
/-- A []BeaconMessage of the call's own. -/
abbrev BeaconMessageSO (lo hi : Nat) (w : World) (v : Value) (xs : List DBeaconMessage) : Prop := NO BeaconMessageOC 170 5 lo hi w v xs
theorem BeaconMessageSO_rd {lo hi : Nat} {w : World} {v : Value} {xs : List DBeaconMessage} (h : BeaconMessageSO lo hi w v xs) (hhi : hi ≤ w.heap.size) : BeaconMessageS w.heap.size w v xs := (NO.sl (At := BeaconMessageAt) h (fun _ => rfl) BeaconMessageOC.at_).keep BeaconMessageAt.keeps hhi (fun _ _ => rfl)
theorem BeaconMessageSO_ext {lo hi : Nat} {w w' : World} {v : Value} {xs : List DBeaconMessage} (h : BeaconMessageSO lo hi w v xs) (he : Ext w w') (_hhi : hi ≤ w.heap.size) : BeaconMessageSO lo hi w' v xs := NO.keep BeaconMessageOC.keeps h fun k _ _ h3 => he.same k h3
theorem BeaconMessageSO_out {lo hi : Nat} {lo' hi' : Nat} {w w' : World} {v : Value} {xs : List DBeaconMessage} (h : BeaconMessageSO lo hi w v xs) (ho : Out lo' hi' w w') (hd : hi' ≤ lo ∨ hi ≤ lo') : BeaconMessageSO lo hi w' v xs := NO.keep BeaconMessageOC.keeps h fun k h1 h2 h3 => ho.block k h3 (by omega)
theorem BeaconMessageSO_drew {lo hi : Nat} {w : World} {v : Value} {xs : List DBeaconMessage} (h : BeaconMessageSO lo hi w v xs) : BeaconMessageSO lo hi w.drew v xs := NO.keep BeaconMessageOC.keeps h fun _ _ _ _ => rfl
theorem BeaconMessageSO_alloc {lo hi : Nat} {w : World} {v : Value} {xs : List DBeaconMessage} (h : BeaconMessageSO lo hi w v xs) (o : Obj) : BeaconMessageSO lo hi (w.alloc o) v xs := NO.keep BeaconMessageOC.keeps h fun k _ _ h3 => Below.heap_alloc w o k h3
theorem BeaconMessageSO_setCell {lo hi : Nat} {w : World} {v : Value} {xs : List DBeaconMessage} (h : BeaconMessageSO lo hi w v xs) {p : Addr} (hp : p.block < lo ∨ hi ≤ p.block) (u : Value) : BeaconMessageSO lo hi (w.setCell p u) v xs := NO.keep BeaconMessageOC.keeps h fun k h1 h2 _ => Below.heap_setCell _ _ _ _ (by omega)
theorem BeaconMessageSO_keep {lo hi : Nat} {w w' : World} {v : Value} {xs : List DBeaconMessage} (h : BeaconMessageSO lo hi w v xs) (hk : ∀ k, lo ≤ k → k < hi → k < w.heap.size → w'.heap[k]? = w.heap[k]?) : BeaconMessageSO lo hi w' v xs := NO.keep BeaconMessageOC.keeps h hk
set_option maxRecDepth 100000 in
set_option maxHeartbeats 1000000 in
theorem eqBeaconMessageS (v1 v2 : Value) (xs ys : List DBeaconMessage) (w : World) (h1 : BeaconMessageS w.heap.size w v1 xs) (h2 : BeaconMessageS w.heap.size w v2 ys) :
    Calls Try.prog 57 #[v1, v2] w fun e w' => e = .returned (.bool (decide (xs = ys))) ∧ Ext w w' := by
  obtain ⟨A1, n1, c1, rfl, hl1, hn1, hm1, -⟩ := id h1
  obtain ⟨A2, n2, c2, rfl, hl2, hn2, hm2, -⟩ := id h2
  unfold maxLen at hm1 hm2
  have H1 := Lib.hid h1; have H2 := Lib.hid h2; have E1 := Lib.hid hl1; have E2 := Lib.hid hl2; clear h1 h2 hl1 hl2
  by_cases hn : n1 = n2
  · subst hn
    go_enter Try.func57, Try.ntmps57
    go_wp2
    go_loopw [5] (fun i wr => ∃ k : Nat, k ≤ n1 ∧ i = I k ∧ xs.take k = ys.take k ∧ Ext w wr) (fun i _ => n1 - (intOf i).toNat)
    case atStart => exact ⟨0, by omega, rfl, by simp, Ext.refl _⟩
    case round =>
      obtain ⟨k, hk, rfl, hq, he⟩ := hrel
      have HQ := Lib.hid hq; clear hq
      have HE := Lib.hid he; clear he
      by_cases hlt : k < n1
      · obtain ⟨b1, o1, rfl, hb1, hk1, hc1⟩ := (H1.out.ext HE.out).at_ hlt
        obtain ⟨b2, o2, rfl, hb2, hk2, hc2⟩ := (H2.out.ext HE.out).at_ hlt
        have i0 : (0 : Int) ≤ (k : Int) := by omega
        have i1 : (k : Int) < (n1 : Int) := by omega
        have X1 := Lib.hid (take_snoc xs k hk1)
        have X2 := Lib.hid (take_snoc ys k hk2)
        have hne : ¬ xs[k] = ys[k] → xs ≠ ys := fun hne h => hne (by subst h; rfl)
        have HN := Lib.hid hne; clear hne
        generalize xs[k] = x at *
        generalize ys[k] = y at *
        obtain ⟨A14, n14, c14, h10, h11, h12, h13, h14, s14⟩ := hc1
        obtain ⟨A24, n24, c24, h20, h21, h22, h23, h24, s24⟩ := hc2
        have S14 := Lib.hid s14; clear s14
        have S24 := Lib.hid s24; clear s24
        go_wp2_with fail
        go_region_held3 (fun W => wr.heap.size ≤ W.heap.size ∧ ∀ b o, b < wr.heap.size → W.cell? ⟨b, o, none⟩ = wr.cell? ⟨b, o, none⟩)
          (first | exact ⟨Nat.le_refl _, fun _ _ _ => rfl⟩ | exact keepC (by assumption) he1)
          (first | (go_at_call 128; refine (eqBeaconMessage _ _ x y _ (by exact ⟨_, _, _, rfl, S14.out.ext (by repeat (first | (with_reducible exact Ext.refl _) | (with_reducible assumption) | (with_reducible refine Ext.alloc ?_ _) | (with_reducible refine Ext.drew ?_) | (with_reducible refine Ext.drewN ?_ _) | (with_reducible refine Ext.setCell (p := _) ?_ ?ge _; case ge => (dsimp only; omega)) | (with_reducible refine Ext.trans ?_ (by with_reducible assumption))))⟩) (by exact ⟨_, _, _, rfl, S24.out.ext (by repeat (first | (with_reducible exact Ext.refl _) | (with_reducible assumption) | (with_reducible refine Ext.alloc ?_ _) | (with_reducible refine Ext.drew ?_) | (with_reducible refine Ext.drewN ?_ _) | (with_reducible refine Ext.setCell (p := _) ?_ ?ge _; case ge => (dsimp only; omega)) | (with_reducible refine Ext.trans ?_ (by with_reducible assumption))))⟩)).mono ?_; rintro e w1 ⟨rfl, he1⟩))
        have HE1 := Lib.hid (HE.out.drew.trans he1)
        have hdd : decide (x = y) = true ↔ x = y := decide_eq_true_iff
        have HD := Lib.hid hdd; clear hdd
        generalize decide (x = y) = bb at *
        cases bb
        · have hxy : ¬ x = y := fun h => by have := HD.out.2 h; cases this
          have HXY := Lib.hid hxy; clear hxy
          go_wp2
          go_ret
          exact ⟨ret_bool (by simp [HN.out HXY.out]), HE1.out⟩
        · have HXY := Lib.hid (HD.out.1 rfl)
          go_wp2
          go_roundw
          case rel => exact ⟨k + 1, by omega, by go_num, by rw [X1.out, X2.out, HQ.out, HXY.out], HE1.out⟩
          case measure => simp [intOf]; omega
      · go_wp2
        go_ret
        have h := HQ.out
        rw [List.take_of_length_le (by rw [E1.out]; omega), List.take_of_length_le (by rw [E2.out]; omega)] at h
        exact ⟨ret_bool (by simp [h]), HE.out⟩
  · have hb : ((n1 : Int) == (n2 : Int)) = false := by simp; omega
    have hb' : ((n1 : Int) != (n2 : Int)) = true := by simp; omega
    have HN := Lib.hid hn; clear hn
    go_enter Try.func57, Try.ntmps57
    go_wp2
    go_ret
    have : xs ≠ ys := fun h => HN.out (by rw [← E1.out, ← E2.out, h])
    exact ⟨ret_bool (by simp [this]), Ext.refl _⟩
/-- How many numbers an element takes, and the element with its numbers from q on. -/
def BeaconMessageCnt (x : DBeaconMessage) : Nat := 4 + 5 * x.beacon.seg.hops.length
def BeaconMessageNumE (q : Nat) (x : DBeaconMessage) : DBeaconMessage := ⟨(q : Int), ⟨(q : Int) + 1, ⟨(q : Int) + 1 + 1, (q : Int) + 1 + 1 + 1, (HopNum (q + 4) x.beacon.seg.hops.length)⟩⟩⟩
theorem BeaconMessageCnt_le (x : DBeaconMessage) : BeaconMessageCnt x ≤ 10 + 10 * (x.beacon.seg.hops.length) := by
  unfold BeaconMessageCnt
  omega
theorem BeaconMessageCnt_sum (l : List DBeaconMessage) : (l.map BeaconMessageCnt).sum ≤ 10 * (totS (fun y => y.beacon.seg.hops.length) l) := cnt_le (fun x => BeaconMessageCnt_le x) l
set_option maxRecDepth 100000 in
set_option maxHeartbeats 1000000 in
theorem markBeaconMessageS_row (v : Value) (xs : List DBeaconMessage) (q : Nat) (qi : Int) (w : World) (cs : List Value) (fp : List Nat) (ho : w.ownsRow 0 170 5 v xs.length cs) (hl : OL BeaconMessageOC 5 w xs fp cs) (hn : (v.ownBlock.toList ++ fp).Nodup) (hqi : qi = (q : Int)) (hq : q + (xs.map BeaconMessageCnt).sum ≤ 1000000000000000) :
    Calls Try.prog 60 #[v, I qi] w fun e w' => e = .returned (I ((q + (xs.map BeaconMessageCnt).sum : Nat) : Int)) ∧ (∃ cs', w'.ownsRow 0 170 5 v xs.length cs' ∧ OL BeaconMessageOC 5 w' (numS BeaconMessageNumE BeaconMessageCnt q xs) fp cs') ∧ OutF (v.ownBlock.toList ++ fp) w w' := by
  subst hqi
  rcases Own.cases (hi := w.heap.size) ⟨ho, fun k hk => (ho.lt k hk).2⟩ with ⟨rfl, h0, hx⟩ | ⟨g, cap, rest, rfl, h1, h2, hb, hlc, hnn, hm, hs⟩
  · obtain rfl : xs = [] := List.eq_nil_of_length_eq_zero h0
    subst hx
    have HL := Lib.hid hl; clear hl ho hn h0
    go_enter Try.func60, Try.ntmps60
    go_wp2
    go_loop [1, 5] (fun k i => k = I q ∧ i = I 0) (fun _ _ => 0)
    case atStart => exact ⟨rfl, rfl⟩
    case round =>
      obtain ⟨rfl, rfl⟩ := hrel
      go_wp2
      go_ret
      exact ⟨rfl, ⟨[], World.ownsRow_nil _ _ _ _, HL.out⟩, OutF.refl _ _⟩
  · have hnd : (g :: fp).Nodup := by simpa [Value.ownBlock] using hn
    have M0 := Lib.hid (MInv.start (f := BeaconMessageNumE) (c := BeaconMessageCnt) (q := q) hb hl)
    have HND := Lib.hid hnd
    have HS := Lib.hid hs
    have HLC := Lib.hid hl.len
    clear ho hl hn hb hlc hs hnd
    unfold maxLen at hm
    go_enter Try.func60, Try.ntmps60
    go_wp2
    go_loopw [1, 5] (fun k i wr => ∃ j p : Nat, j ≤ xs.length ∧ k = I p ∧ i = I j ∧ MInv BeaconMessageOC 5 BeaconMessageNumE BeaconMessageCnt 170 g rest fp xs q w wr j p) (fun _ i _ => xs.length - (intOf i).toNat)
    case atStart => exact ⟨0, q, by omega, rfl, rfl, M0.out⟩
    case round =>
      obtain ⟨j, p, hj, rfl, rfl, hM⟩ := hrel
      have HM := Lib.hid hM; clear hM M0
      by_cases hlt : j < xs.length
      · have hpb : p + BeaconMessageCnt xs[j] ≤ 1000000000000000 := by
          have h1 := HM.out.1
          have h2 := sum_take BeaconMessageCnt xs j hlt
          have h3 := sum_take_le BeaconMessageCnt xs (j + 1)
          omega
        obtain ⟨f1, pre, post, c1, hoc, hpl, hbl, hg, hf, hgo⟩ := HM.out.step BeaconMessageOC.keeps HND.out hlt
        have HGO := Lib.hid hgo; clear hgo
        have HF := Lib.hid hf; clear hf
        generalize xs[j] = x at *
        unfold BeaconMessageCnt at hpb
        obtain ⟨u4, rfl, r4, rfl⟩ := hoc
        have R4 := Lib.hid r4; clear r4
        obtain ⟨A4, n4, c4, hu4⟩ := ownsRow_slice R4.out
        subst hu4
        have G4 : Hid (g ∉ (Value.slice A4 n4 c4).ownBlock.toList) := fun hm => hg (by first | exact hm | (simp only [List.mem_append] at hm ⊢; simp [hm]))
        clear hg
        have HPL := Lib.hid hpl; clear hpl
        have B0 := Lib.hid hbl; clear hbl
        simp only [List.cons_append, List.nil_append] at B0
        have lg : g < wr.heap.size := B0.out.lt
        obtain ⟨hu0, hu1, hu2, hu3, hu4⟩ := cells_at5 B0.out HPL.out
        have hf0 := B0.out.frozen (j * 5)
        have hf1 := B0.out.frozen (j * 5 + 1)
        have hf2 := B0.out.frozen (j * 5 + 2)
        have hf3 := B0.out.frozen (j * 5 + 3)
        have hf4 := B0.out.frozen (j * 5 + 4)
        go_wp2_with fail
        refine (markHopS_row _ x.beacon.seg.hops (p + 4) ((p : Int) + 1 + 1 + 1 + 1) _ (by exact ownsRow_set (ownsRow_set (ownsRow_set (ownsRow_set (R4.out) G4.out) G4.out) G4.out) G4.out) (by omega) (by omega)).mono ?_
        rintro e w4 ⟨rfl, r4, t4⟩
        have R4' := Lib.hid r4; clear r4
        have T4 := Lib.hid t4; clear t4
        have B4' := Blk.outF (Blk.set_ (Blk.set_ (Blk.set_ (Blk.set_ (B0.out) (j * 5) (I ((p : Int)))) (j * 5 + 1) (I ((p : Int) + 1))) (j * 5 + 2) (I ((p : Int) + 1 + 1))) (j * 5 + 3) (I ((p : Int) + 1 + 1 + 1))) T4.out G4.out
        have B4 : Hid (Blk w4 g 170 (pre ++ (I ((p : Int)) :: I ((p : Int) + 1) :: I ((p : Int) + 1 + 1) :: I ((p : Int) + 1 + 1 + 1) :: .slice A4 n4 c4 :: post))) := by
          unfold Hid
          have h := B4'
          rw [← HPL.out] at h
          simpa using h
        clear B4'
        have z4 := T4.out.size
        simp only [World.size_setCell] at z4
        have lg4 : g < w4.heap.size := by omega
        obtain ⟨hv4_0, hv4_1, hv4_2, hv4_3, hv4_4⟩ := cells_at5 B4.out HPL.out
        have hg4_0 := B4.out.frozen (j * 5)
        have hg4_1 := B4.out.frozen (j * 5 + 1)
        have hg4_2 := B4.out.frozen (j * 5 + 2)
        have hg4_3 := B4.out.frozen (j * 5 + 3)
        have hg4_4 := B4.out.frozen (j * 5 + 4)
        have hOC : BeaconMessageOC w4 ((Value.slice A4 n4 c4).ownBlock.toList) [I ((p : Int)), I ((p : Int) + 1), I ((p : Int) + 1 + 1), I ((p : Int) + 1 + 1 + 1), .slice A4 n4 c4] (BeaconMessageNumE p x) := ⟨_, rfl, (by unfold BeaconMessageNumE; dsimp only; rw [HopNum_len]; exact R4'.out), rfl⟩
        have HOC := Lib.hid hOC; clear hOC
        have hOU : OutF (g :: ((Value.slice A4 n4 c4).ownBlock.toList)) wr w4 := (by repeat (first | (with_reducible exact OutF.refl _ _) | (with_reducible refine OutF.setCell ?_ ?ge _; case ge => simp) | (with_reducible refine OutF.trans ?_ (T4.out.mono (fun x hx => List.mem_cons_of_mem _ (by first | exact hx | (simp only [List.mem_append] at hx ⊢; simp [hx])))))))
        have HOU := Lib.hid hOU; clear hOU
        go_wp2_with fail
        go_roundw
        case rel =>
          exact ⟨j + 1, p + BeaconMessageCnt x, by omega, by simp only [BeaconMessageCnt, Value.int.injEq, true_and]; omega, by go_num, HGO.out _ _ HOC.out rfl B4.out HOU.out⟩
        case measure => simp [intOf]; omega
      · go_wp2_with fail
        go_ret
        obtain rfl : j = xs.length := by omega
        obtain ⟨hp, cs', hb', hl', ho'⟩ := HM.out.stop
        subst hp
        have hs := HS.out
        have e1 : cs'.length = cs.length := by rw [hl'.len, numS_len, HLC.out]
        refine ⟨rfl, ⟨cs', row_of_blk hb' (by rw [hl'.len, numS_len]) hnn (by unfold maxLen; omega) (by rw [← hs, List.length_append, List.length_append, e1]), hl'⟩, by simpa [Value.ownBlock] using ho'⟩
theorem markBeaconMessageS (v : Value) (xs : List DBeaconMessage) (q lo hi : Nat) (w : World) (h : BeaconMessageSO lo hi w v xs) (hq : q + (xs.map BeaconMessageCnt).sum ≤ 1000000000000000) :
    Calls Try.prog 60 #[v, I q] w fun e w' => e = .returned (I ((q + (xs.map BeaconMessageCnt).sum : Nat) : Int)) ∧ BeaconMessageSO lo hi w' v (numS BeaconMessageNumE BeaconMessageCnt q xs) ∧ Out lo hi w w' :=
  calls_NO numS_len h fun cs fp h1 h2 h3 => markBeaconMessageS_row v xs q q w cs fp h1 h2 h3 rfl hq
set_option maxRecDepth 100000 in
set_option maxHeartbeats 1000000 in
theorem heldBeaconMessageS (v : Value) (xs : List DBeaconMessage) (q : Nat) (w : World) (h : BeaconMessageS w.heap.size w v (numS BeaconMessageNumE BeaconMessageCnt q xs)) (hq : q + (xs.map BeaconMessageCnt).sum ≤ 1000000000000000) :
    Calls Try.prog 61 #[v, I q] w fun e w' => e = .returned (I ((q + (xs.map BeaconMessageCnt).sum : Nat) : Int)) ∧ Ext w w' := by
  obtain ⟨A, n', c, rfl, hl, hn, hm, -⟩ := id h
  rw [numS_len] at hl
  subst hl
  have H := Lib.hid h; clear h
  unfold maxLen at hm
  go_enter Try.func61, Try.ntmps61
  go_wp2
  go_loopw [1, 5] (fun k i wr => ∃ j p : Nat, j ≤ xs.length ∧ p = q + ((xs.take j).map BeaconMessageCnt).sum ∧ k = I p ∧ i = I j ∧ Ext w wr) (fun _ i _ => xs.length - (intOf i).toNat)
  case atStart => exact ⟨0, q, by omega, by simp, rfl, rfl, Ext.refl _⟩
  case round =>
    obtain ⟨j, p, hj, hp, rfl, rfl, he⟩ := hrel
    have HPQ := Lib.hid hp; clear hp
    by_cases hlt : j < xs.length
    · have hpb : p + BeaconMessageCnt xs[j] ≤ 1000000000000000 := by
        have h1 := HPQ.out
        have h2 := sum_take BeaconMessageCnt xs j hlt
        have h3 := sum_take_le BeaconMessageCnt xs (j + 1)
        omega
      have HPN : Hid (p + BeaconMessageCnt xs[j] = q + ((xs.take (j + 1)).map BeaconMessageCnt).sum) := by
        unfold Hid
        rw [sum_take BeaconMessageCnt xs j hlt, HPQ.out]
        omega
      obtain ⟨b, off, rfl, hb, hk, hc⟩ := (H.out.ext he).at_ hlt
      rw [numS_get _ _ _ hlt, ← HPQ.out] at hc
      generalize xs[j] = x at *
      unfold BeaconMessageCnt at hpb HPN
      obtain ⟨A4, n4, c4, hc0, hc1, hc2, hc3, hc4, s4⟩ := hc
      simp only [BeaconMessageNumE] at hc0 hc1 hc2 hc3 hc4 s4
      have S4 := Lib.hid s4; clear s4
      have i0 : (0 : Int) ≤ (p : Int) := by omega
      go_wp2_with fail
      refine (heldHopS_at _ x.beacon.seg.hops.length (p + 4) _ _ (by exact S4.out.ext (by repeat (first | (with_reducible exact Ext.refl _) | (with_reducible assumption) | (with_reducible refine Ext.alloc ?_ _) | (with_reducible refine Ext.drew ?_) | (with_reducible refine Ext.drewN ?_ _) | (with_reducible refine Ext.setCell (p := _) ?_ ?ge _; case ge => (dsimp only; omega)) | (with_reducible refine Ext.trans ?_ (by with_reducible assumption))))) (by omega) (by omega)).mono ?_
      rintro e w4 ⟨rfl, e4⟩
      obtain ⟨hc4_, -, hz4⟩ := e4.facts
      have i5 : (0 : Int) ≤ ((p + 4 + 5 * x.beacon.seg.hops.length : Nat) : Int) := by omega
      have j5 : ¬ ((p + 4 + 5 * x.beacon.seg.hops.length : Nat) : Int) < 0 := by omega
      go_wp2_with fail
      go_roundw
      case rel => exact ⟨j + 1, _, by omega, HPN.out, by simp only [Value.int.injEq, true_and]; omega, by go_num, (by repeat (first | (with_reducible exact Ext.refl _) | (with_reducible assumption) | (with_reducible refine Ext.alloc ?_ _) | (with_reducible refine Ext.drew ?_) | (with_reducible refine Ext.drewN ?_ _) | (with_reducible refine Ext.setCell (p := _) ?_ ?ge _; case ge => (dsimp only; omega)) | (with_reducible refine Ext.trans ?_ (by with_reducible assumption))))⟩
      case measure => simp [intOf]; omega
    · go_wp2_with fail
      go_ret
      obtain rfl : j = xs.length := by omega
      exact ⟨ret_int (by have := HPQ.out; rw [List.take_length] at this; omega), (by repeat (first | (with_reducible exact Ext.refl _) | (with_reducible assumption) | (with_reducible refine Ext.alloc ?_ _) | (with_reducible refine Ext.drew ?_) | (with_reducible refine Ext.drewN ?_ _) | (with_reducible refine Ext.setCell (p := _) ?_ ?ge _; case ge => (dsimp only; omega)) | (with_reducible refine Ext.trans ?_ (by with_reducible assumption))))⟩
theorem heldBeaconMessageS_at (v : Value) (xs : List DBeaconMessage) (q : Nat) (qi : Int) (w : World) (h : BeaconMessageS w.heap.size w v (numS BeaconMessageNumE BeaconMessageCnt q xs)) (hqi : qi = (q : Int)) (hq : q + (xs.map BeaconMessageCnt).sum ≤ 1000000000000000) :
    Calls Try.prog 61 #[v, I qi] w fun e w' => e = .returned (I ((q + (xs.map BeaconMessageCnt).sum : Nat) : Int)) ∧ Ext w w' := by
  subst hqi
  exact heldBeaconMessageS v xs q w h hq
end Go.Proofs.Ytcalbcjheenmgaa
