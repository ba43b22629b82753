/- The laws' helpers on BeaconStore: to.. (copy), eq.. (compare), sz.. (count), mark.. and held... Printed by gen.py. -/
import Derived.Test.YtcalbcjheenmgaaHBeacon
import Derived.Test.YtcalbcjheenmgaaNest
import Derived.Test.YtcalbcjheenmgaaMarkRows
import Derived.Test.YtcalbcjheenmgaaPush
import Derived.Test.YtcalbcjheenmgaaTyped
namespace Go.Proofs.Ytcalbcjheenmgaa
open Go.RowKit
set_option linter.unusedVariables false
theorem info_BeaconStore : (Try.prog.info? 153).map (fun i => (i.zero, i.size, i.bytes)) = some (some (.agg #[.slice none 0 0]), 1, 24) := by kernel_rfl

def BeaconStoreO (lo hi : Nat) (w : World) (v : Value) (x : DBeaconStore) : Prop := ∃ u0, v = .agg #[u0] ∧ BeaconSO lo hi w u0 x.beacons ∧ lo ≤ hi
theorem BeaconStoreO.keep {lo hi : Nat} {w w' : World} {v : Value} {x : DBeaconStore} (h : BeaconStoreO lo hi w v x) (hk : ∀ k, lo ≤ k → k < hi → k < w.heap.size → w'.heap[k]? = w.heap[k]?) : BeaconStoreO lo hi w' v x := by
  obtain ⟨u0, e, o0, l0⟩ := h
  exact ⟨u0, e, BeaconSO_keep o0 (fun k h1 h2 h3 => hk k (by omega) (by omega) h3), l0⟩
theorem BeaconStoreO.v {lo hi : Nat} {w : World} {v : Value} {x : DBeaconStore} (h : BeaconStoreO lo hi w v x) : BeaconStoreV hi w v x := by
  obtain ⟨u0, e, o0, l0⟩ := h
  have s0 := (NO.sl (At := BeaconAt) (pos := fun k => k * 4) o0 (fun _ => rfl) BeaconOC.at_)
  obtain ⟨A0, n0, c0, rfl, _⟩ := id s0
  exact ⟨_, _, _, e, s0.keep BeaconAt.keeps (by omega) (fun _ _ => rfl)⟩
theorem BeaconStoreO.shape {lo hi : Nat} {w : World} {v : Value} {x : DBeaconStore} (h : BeaconStoreO lo hi w v x) : ∃ A0 n0 c0, v = .agg #[.slice A0 n0 c0] := by
  obtain ⟨A0, n0, c0, e, _⟩ := h.v
  exact ⟨A0, n0, c0, e⟩
theorem BeaconStoreO.ext {lo hi : Nat} {w w' : World} {v : Value} {x : DBeaconStore} (h : BeaconStoreO lo hi w v x) (he : Ext w w') (hhi : hi ≤ w.heap.size) : BeaconStoreO lo hi w' v x := h.keep fun k _ _ h3 => he.same k h3
theorem BeaconStoreO.drew {lo hi : Nat} {w : World} {v : Value} {x : DBeaconStore} (h : BeaconStoreO lo hi w v x) : BeaconStoreO lo hi w.drew v x := h.keep fun _ _ _ _ => rfl
theorem BeaconStoreO.out {lo hi lo' hi' : Nat} {w w' : World} {v : Value} {x : DBeaconStore} (h : BeaconStoreO lo hi w v x) (ho : Out lo' hi' w w') (hd : hi' ≤ lo ∨ hi ≤ lo') : BeaconStoreO lo hi w' v x := h.keep fun k h1 h2 h3 => ho.block k h3 (by omega)
theorem BeaconStoreO.more {lo hi lo' hi' : Nat} {w : World} {v : Value} {x : DBeaconStore} (h : BeaconStoreO lo hi w v x) (h1 : lo' ≤ lo) (h2 : hi ≤ hi') : BeaconStoreO lo' hi' w v x := by
  obtain ⟨u0, e, o0, l0⟩ := h
  exact ⟨u0, e, NO.more o0 h1 h2, by omega⟩
theorem BeaconStoreO.up {lo : Nat} {w w' : World} {v : Value} {x : DBeaconStore} (h : BeaconStoreO lo w.heap.size w v x) (he : Ext w w') : BeaconStoreO lo w'.heap.size w' v x := (h.ext he (Nat.le_refl _)).more (Nat.le_refl _) he.size
theorem BeaconStoreO.setT {lo hi g : Nat} {w : World} {v : Value} {x : DBeaconStore} {cs' : List Value} (h : BeaconStoreO lo hi w v x) (hb : Blk w g 153 cs') (i : Nat) (u : Value) : BeaconStoreO lo hi (w.setCell ⟨g, i, none⟩ u) v x := by
  obtain ⟨u0, e, o0, l0⟩ := h
  exact ⟨u0, e, NO.setT BeaconOC.keeps (BeaconOC.typed _ (by decide)) o0 hb (by decide) i u, l0⟩
theorem BeaconStoreO_rd {lo hi : Nat} {w : World} {v : Value} {x : DBeaconStore} (h : BeaconStoreO lo hi w v x) (hhi : hi ≤ w.heap.size) : BeaconStoreV w.heap.size w v x := h.v.keep hhi (fun _ _ => rfl)
set_option maxRecDepth 100000 in
set_option maxHeartbeats 1000000 in
theorem eqBeaconStore (v1 v2 : Value) (x y : DBeaconStore) (w : World) (h1 : BeaconStoreV w.heap.size w v1 x) (h2 : BeaconStoreV w.heap.size w v2 y) :
    Calls Try.prog 159 #[v1, v2] w fun e w' => e = .returned (.bool (decide (x = y))) ∧ Ext w w' := by
  obtain ⟨A10, n10, c10, rfl, s10⟩ := h1
  obtain ⟨A20, n20, c20, rfl, s20⟩ := h2
  have S10 := Lib.hid s10; clear s10
  have S20 := Lib.hid s20; clear s20
  go_enter Try.func159, Try.ntmps159
  go_wp2_with fail
  all_goals (try (go_ret; exact ⟨ret_bool (by simp_all [DBeaconStore.eq_iff]), (by repeat (first | (with_reducible exact Ext.refl _) | (with_reducible assumption) | (with_reducible refine Ext.alloc ?_ _) | (with_reducible refine Ext.drew ?_) | (with_reducible refine Ext.drewN ?_ _) | (with_reducible refine Ext.setCell (p := _) ?_ ?ge _; case ge => (dsimp only; omega)) | (with_reducible refine Ext.trans ?_ (by with_reducible assumption))))⟩))
  refine (eqBeaconS _ _ x.beacons y.beacons _ (by exact S10.out.ext (by repeat (first | (with_reducible exact Ext.refl _) | (with_reducible assumption) | (with_reducible refine Ext.alloc ?_ _) | (with_reducible refine Ext.drew ?_) | (with_reducible refine Ext.drewN ?_ _) | (with_reducible refine Ext.setCell (p := _) ?_ ?ge _; case ge => (dsimp only; omega)) | (with_reducible refine Ext.trans ?_ (by with_reducible assumption))))) (by exact S20.out.ext (by repeat (first | (with_reducible exact Ext.refl _) | (with_reducible assumption) | (with_reducible refine Ext.alloc ?_ _) | (with_reducible refine Ext.drew ?_) | (with_reducible refine Ext.drewN ?_ _) | (with_reducible refine Ext.setCell (p := _) ?_ ?ge _; case ge => (dsimp only; omega)) | (with_reducible refine Ext.trans ?_ (by with_reducible assumption)))))).mono ?_
  rintro e w1 ⟨rfl, he1⟩
  obtain ⟨hc1, hf1, hz1⟩ := he1.facts
  go_wp2_with fail
  all_goals
    go_ret
    exact ⟨ret_bool (by simp_all [DBeaconStore.eq_iff]), (by repeat (first | (with_reducible exact Ext.refl _) | (with_reducible assumption) | (with_reducible refine Ext.alloc ?_ _) | (with_reducible refine Ext.drew ?_) | (with_reducible refine Ext.drewN ?_ _) | (with_reducible refine Ext.setCell (p := _) ?_ ?ge _; case ge => (dsimp only; omega)) | (with_reducible refine Ext.trans ?_ (by with_reducible assumption))))⟩
/-- What marking from q on leaves. -/
def BeaconStoreNum1 (q : Nat) (x : DBeaconStore) : DBeaconStore := { beacons := (numS BeaconNumE BeaconCnt (q) x.beacons) }
/-- The cells cs of a BeaconStore and the blocks that it owns. -/
def BeaconStoreOC (w : World) (fp : List Nat) (cs : List Value) (x : DBeaconStore) : Prop := ∃ u0 cs0 f0, cs = [u0] ∧ w.ownsRow 0 168 4 u0 x.beacons.length cs0 ∧ OL BeaconOC 4 w x.beacons f0 cs0 ∧ fp = (u0.ownBlock.toList ++ f0)
theorem BeaconStoreOC.keeps : OKeeps BeaconStoreOC := by
  intro w w' fp cs x hk h
  obtain ⟨u0, cs0, f0, e, r0, l0, ef⟩ := h
  exact ⟨u0, cs0, f0, e, ownsRow_keep r0 (fun b hb => hk b (by rw [ef]; simp [hb])), OL.keep BeaconOC.keeps l0 (fun b hb => hk b (by rw [ef]; simp [hb])), ef⟩
theorem BeaconStoreOC.at_ (B : Nat) (w : World) (b o : Nat) (fp : List Nat) (cs : List Value) (x : DBeaconStore) (h : BeaconStoreOC w fp cs x) (hb : ∀ b ∈ fp, b < B) (hc : ∀ j u, cs[j]? = some u → w.cell? ⟨b, o + j, none⟩ = some u) : BeaconStoreAt B w b o x := by
  obtain ⟨u0, cs0, f0, rfl, r0, l0, ef⟩ := h
  have s0 : BeaconS B w u0 x.beacons := sl_of_OL (At := BeaconAt) r0 l0 (fun b hm => hb b (by rw [ef]; simp [hm])) (fun _ => rfl) BeaconOC.at_
  obtain ⟨A0, n0, c0, e0, _⟩ := id s0
  subst e0
  exact ⟨A0, n0, c0, hc 0 _ rfl, s0⟩
theorem BeaconStoreOC.one : OOne BeaconStoreOC := by
  intro w fp cs x h
  obtain ⟨u0, cs0, f0, rfl, r0, l0, ef⟩ := h
  obtain ⟨a0, m0, c0, e0⟩ := ownsRow_slice r0
  subst e0
  intro u hu
  simp only [List.mem_cons, List.not_mem_nil, or_false] at hu
  subst hu
  rfl
theorem BeaconStoreOC.typed (T : Nat) (n0 : 168 ≠ T) (n1 : 117 ≠ T) : OTyped BeaconStoreOC T := by
  intro w fp cs x g cs' h hb
  obtain ⟨u0, cs0, f0, e, r0, l0, ef⟩ := h
  subst ef
  intro hm
  simp only [List.mem_append] at hm
  rcases hm with hm | hm
  · exact ownsRow_typed r0 hb n0 hm
  · exact OL.typed (BeaconOC.typed T n1) hb l0 hm
theorem BeaconStoreOC.len {w : World} {fp : List Nat} {cs : List Value} {x : DBeaconStore} (h : BeaconStoreOC w fp cs x) : cs.length = 1 := by
  obtain ⟨u0, cs0, f0, rfl, _⟩ := h
  rfl
theorem BeaconStoreO.to_oc {lo hi : Nat} {w : World} {v : Value} {x : DBeaconStore} (h : BeaconStoreO lo hi w v x) : ∃ a0 k0 q0 fp, v = .agg #[.slice a0 k0 q0] ∧ BeaconStoreOC w fp [.slice a0 k0 q0] x ∧ fp.Nodup ∧ ∀ b ∈ fp, lo ≤ b ∧ b < hi := by
  obtain ⟨u0, e, o0, l0⟩ := h
  obtain ⟨a0, k0, q0, hu0⟩ : ∃ a n c, u0 = .slice a n c := NO.slice o0
  obtain ⟨cs0, f0, r0, l0_, d0, b0'⟩ := o0
  have b0 : ∀ b ∈ u0.ownBlock.toList ++ f0, lo ≤ b ∧ b < hi := fun b hb => by
    rcases List.mem_append.1 hb with hb | hb
    · exact ⟨(r0.1.lt b (by simpa using hb)).1, r0.2 b (by simpa using hb)⟩
    · exact b0' b hb
  subst hu0
  exact ⟨a0, k0, q0, ((Value.slice a0 k0 q0).ownBlock.toList ++ f0), e, ⟨_, cs0, f0, rfl, (r0.more (Nat.zero_le _) (Nat.le_refl _)).1, l0_, rfl⟩, d0, b0⟩
/-- A []BeaconStore of the call's own. -/
abbrev BeaconStoreSO (lo hi : Nat) (w : World) (v : Value) (xs : List DBeaconStore) : Prop := NO BeaconStoreOC 153 1 lo hi w v xs
theorem BeaconStoreSO_rd {lo hi : Nat} {w : World} {v : Value} {xs : List DBeaconStore} (h : BeaconStoreSO lo hi w v xs) (hhi : hi ≤ w.heap.size) : BeaconStoreS w.heap.size w v xs := (NO.sl (At := BeaconStoreAt) h (fun _ => (Nat.mul_one _).symm) BeaconStoreOC.at_).keep BeaconStoreAt.keeps hhi (fun _ _ => rfl)
theorem BeaconStoreSO_ext {lo hi : Nat} {w w' : World} {v : Value} {xs : List DBeaconStore} (h : BeaconStoreSO lo hi w v xs) (he : Ext w w') (_hhi : hi ≤ w.heap.size) : BeaconStoreSO lo hi w' v xs := NO.keep BeaconStoreOC.keeps h fun k _ _ h3 => he.same k h3
theorem BeaconStoreSO_out {lo hi : Nat} {lo' hi' : Nat} {w w' : World} {v : Value} {xs : List DBeaconStore} (h : BeaconStoreSO lo hi w v xs) (ho : Out lo' hi' w w') (hd : hi' ≤ lo ∨ hi ≤ lo') : BeaconStoreSO lo hi w' v xs := NO.keep BeaconStoreOC.keeps h fun k h1 h2 h3 => ho.block k h3 (by omega)
theorem BeaconStoreSO_drew {lo hi : Nat} {w : World} {v : Value} {xs : List DBeaconStore} (h : BeaconStoreSO lo hi w v xs) : BeaconStoreSO lo hi w.drew v xs := NO.keep BeaconStoreOC.keeps h fun _ _ _ _ => rfl
theorem BeaconStoreSO_alloc {lo hi : Nat} {w : World} {v : Value} {xs : List DBeaconStore} (h : BeaconStoreSO lo hi w v xs) (o : Obj) : BeaconStoreSO lo hi (w.alloc o) v xs := NO.keep BeaconStoreOC.keeps h fun k _ _ h3 => Below.heap_alloc w o k h3
theorem BeaconStoreSO_setCell {lo hi : Nat} {w : World} {v : Value} {xs : List DBeaconStore} (h : BeaconStoreSO lo hi w v xs) {p : Addr} (hp : p.block < lo ∨ hi ≤ p.block) (u : Value) : BeaconStoreSO lo hi (w.setCell p u) v xs := NO.keep BeaconStoreOC.keeps h fun k h1 h2 _ => Below.heap_setCell _ _ _ _ (by omega)
theorem BeaconStoreSO_keep {lo hi : Nat} {w w' : World} {v : Value} {xs : List DBeaconStore} (h : BeaconStoreSO lo hi w v xs) (hk : ∀ k, lo ≤ k → k < hi → k < w.heap.size → w'.heap[k]? = w.heap[k]?) : BeaconStoreSO lo hi w' v xs := NO.keep BeaconStoreOC.keeps h hk
set_option maxRecDepth 100000 in
set_option maxHeartbeats 1000000 in
theorem eqBeaconStoreS (v1 v2 : Value) (xs ys : List DBeaconStore) (w : World) (h1 : BeaconStoreS w.heap.size w v1 xs) (h2 : BeaconStoreS w.heap.size w v2 ys) :
    Calls Try.prog 114 #[v1, v2] w fun e w' => e = .returned (.bool (decide (xs = ys))) ∧ Ext w w' := by
  obtain ⟨A1, n1, c1, rfl, hl1, hn1, hm1, -⟩ := id h1
  obtain ⟨A2, n2, c2, rfl, hl2, hn2, hm2, -⟩ := id h2
  unfold maxLen at hm1 hm2
  have H1 := Lib.hid h1; have H2 := Lib.hid h2; have E1 := Lib.hid hl1; have E2 := Lib.hid hl2; clear h1 h2 hl1 hl2
  by_cases hn : n1 = n2
  · subst hn
    go_enter Try.func114, Try.ntmps114
    go_wp2
    go_loopw [5] (fun i wr => ∃ k : Nat, k ≤ n1 ∧ i = I k ∧ xs.take k = ys.take k ∧ Ext w wr) (fun i _ => n1 - (intOf i).toNat)
    case atStart => exact ⟨0, by omega, rfl, by simp, Ext.refl _⟩
    case round =>
      obtain ⟨k, hk, rfl, hq, he⟩ := hrel
      have HQ := Lib.hid hq; clear hq
      have HE := Lib.hid he; clear he
      by_cases hlt : k < n1
      · obtain ⟨b1, o1, rfl, hb1, hk1, hc1⟩ := (H1.out.ext HE.out).at_ hlt
        obtain ⟨b2, o2, rfl, hb2, hk2, hc2⟩ := (H2.out.ext HE.out).at_ hlt
        have i0 : (0 : Int) ≤ (k : Int) := by omega
        have i1 : (k : Int) < (n1 : Int) := by omega
        have X1 := Lib.hid (take_snoc xs k hk1)
        have X2 := Lib.hid (take_snoc ys k hk2)
        have hne : ¬ xs[k] = ys[k] → xs ≠ ys := fun hne h => hne (by subst h; rfl)
        have HN := Lib.hid hne; clear hne
        generalize xs[k] = x at *
        generalize ys[k] = y at *
        obtain ⟨A10, n10, c10, h10, s10⟩ := hc1
        obtain ⟨A20, n20, c20, h20, s20⟩ := hc2
        have S10 := Lib.hid s10; clear s10
        have S20 := Lib.hid s20; clear s20
        go_wp2_with fail
        go_region_held3 (fun W => wr.heap.size ≤ W.heap.size ∧ ∀ b o, b < wr.heap.size → W.cell? ⟨b, o, none⟩ = wr.cell? ⟨b, o, none⟩)
          (first | exact ⟨Nat.le_refl _, fun _ _ _ => rfl⟩ | exact keepC (by assumption) he1)
          (first | (go_at_call 159; refine (eqBeaconStore _ _ x y _ (by exact ⟨_, _, _, rfl, S10.out.ext (by repeat (first | (with_reducible exact Ext.refl _) | (with_reducible assumption) | (with_reducible refine Ext.alloc ?_ _) | (with_reducible refine Ext.drew ?_) | (with_reducible refine Ext.drewN ?_ _) | (with_reducible refine Ext.setCell (p := _) ?_ ?ge _; case ge => (dsimp only; omega)) | (with_reducible refine Ext.trans ?_ (by with_reducible assumption))))⟩) (by exact ⟨_, _, _, rfl, S20.out.ext (by repeat (first | (with_reducible exact Ext.refl _) | (with_reducible assumption) | (with_reducible refine Ext.alloc ?_ _) | (with_reducible refine Ext.drew ?_) | (with_reducible refine Ext.drewN ?_ _) | (with_reducible refine Ext.setCell (p := _) ?_ ?ge _; case ge => (dsimp only; omega)) | (with_reducible refine Ext.trans ?_ (by with_reducible assumption))))⟩)).mono ?_; rintro e w1 ⟨rfl, he1⟩))
        have HE1 := Lib.hid (HE.out.drew.trans he1)
        have hdd : decide (x = y) = true ↔ x = y := decide_eq_true_iff
        have HD := Lib.hid hdd; clear hdd
        generalize decide (x = y) = bb at *
        cases bb
        · have hxy : ¬ x = y := fun h => by have := HD.out.2 h; cases this
          have HXY := Lib.hid hxy; clear hxy
          go_wp2
          go_ret
          exact ⟨ret_bool (by simp [HN.out HXY.out]), HE1.out⟩
        · have HXY := Lib.hid (HD.out.1 rfl)
          go_wp2
          go_roundw
          case rel => exact ⟨k + 1, by omega, by go_num, by rw [X1.out, X2.out, HQ.out, HXY.out], HE1.out⟩
          case measure => simp [intOf]; omega
      · go_wp2
        go_ret
        have h := HQ.out
        rw [List.take_of_length_le (by rw [E1.out]; omega), List.take_of_length_le (by rw [E2.out]; omega)] at h
        exact ⟨ret_bool (by simp [h]), HE.out⟩
  · have hb : ((n1 : Int) == (n2 : Int)) = false := by simp; omega
    have hb' : ((n1 : Int) != (n2 : Int)) = true := by simp; omega
    have HN := Lib.hid hn; clear hn
    go_enter Try.func114, Try.ntmps114
    go_wp2
    go_ret
    have : xs ≠ ys := fun h => HN.out (by rw [← E1.out, ← E2.out, h])
    exact ⟨ret_bool (by simp [this]), Ext.refl _⟩
/-- How many numbers an element takes, and the element with its numbers from q on. -/
def BeaconStoreCnt (x : DBeaconStore) : Nat := 0 + (x.beacons.map BeaconCnt).sum
def BeaconStoreNumE (q : Nat) (x : DBeaconStore) : DBeaconStore := ⟨(numS BeaconNumE BeaconCnt ((q)) x.beacons)⟩
theorem BeaconStoreCnt_le (x : DBeaconStore) : BeaconStoreCnt x ≤ 10 + 10 * (totS (fun y => y.seg.hops.length) x.beacons) := by
  unfold BeaconStoreCnt
  have := BeaconCnt_sum x.beacons
  omega
theorem BeaconStoreCnt_sum (l : List DBeaconStore) : (l.map BeaconStoreCnt).sum ≤ 10 * (totS (fun y => totS (fun y => y.seg.hops.length) y.beacons) l) := cnt_le (fun x => BeaconStoreCnt_le x) l
set_option maxRecDepth 100000 in
set_option maxHeartbeats 1000000 in
theorem markBeaconStoreS_row (v : Value) (xs : List DBeaconStore) (q : Nat) (qi : Int) (w : World) (cs : List Value) (fp : List Nat) (ho : w.ownsRow 0 153 1 v xs.length cs) (hl : OL BeaconStoreOC 1 w xs fp cs) (hn : (v.ownBlock.toList ++ fp).Nodup) (hqi : qi = (q : Int)) (hq : q + (xs.map BeaconStoreCnt).sum ≤ 1000000000000000) :
    Calls Try.prog 115 #[v, I qi] w fun e w' => e = .returned (I ((q + (xs.map BeaconStoreCnt).sum : Nat) : Int)) ∧ (∃ cs', w'.ownsRow 0 153 1 v xs.length cs' ∧ OL BeaconStoreOC 1 w' (numS BeaconStoreNumE BeaconStoreCnt q xs) fp cs') ∧ OutF (v.ownBlock.toList ++ fp) w w' := by
  subst hqi
  rcases Own.cases (hi := w.heap.size) ⟨ho, fun k hk => (ho.lt k hk).2⟩ with ⟨rfl, h0, hx⟩ | ⟨g, cap, rest, rfl, h1, h2, hb, hlc, hnn, hm, hs⟩
  · obtain rfl : xs = [] := List.eq_nil_of_length_eq_zero h0
    subst hx
    have HL := Lib.hid hl; clear hl ho hn h0
    go_enter Try.func115, Try.ntmps115
    go_wp2
    go_loop [1, 5] (fun k i => k = I q ∧ i = I 0) (fun _ _ => 0)
    case atStart => exact ⟨rfl, rfl⟩
    case round =>
      obtain ⟨rfl, rfl⟩ := hrel
      go_wp2
      go_ret
      exact ⟨rfl, ⟨[], World.ownsRow_nil _ _ _ _, HL.out⟩, OutF.refl _ _⟩
  · have hnd : (g :: fp).Nodup := by simpa [Value.ownBlock] using hn
    have M0 := Lib.hid (MInv.start (f := BeaconStoreNumE) (c := BeaconStoreCnt) (q := q) hb hl)
    have HND := Lib.hid hnd
    have HS := Lib.hid hs
    have HLC := Lib.hid hl.len
    clear ho hl hn hb hlc hs hnd
    unfold maxLen at hm
    go_enter Try.func115, Try.ntmps115
    go_wp2
    go_loopw [1, 5] (fun k i wr => ∃ j p : Nat, j ≤ xs.length ∧ k = I p ∧ i = I j ∧ MInv BeaconStoreOC 1 BeaconStoreNumE BeaconStoreCnt 153 g rest fp xs q w wr j p) (fun _ i _ => xs.length - (intOf i).toNat)
    case atStart => exact ⟨0, q, by omega, rfl, rfl, M0.out⟩
    case round =>
      obtain ⟨j, p, hj, rfl, rfl, hM⟩ := hrel
      have HM := Lib.hid hM; clear hM M0
      by_cases hlt : j < xs.length
      · have hpb : p + BeaconStoreCnt xs[j] ≤ 1000000000000000 := by
          have h1 := HM.out.1
          have h2 := sum_take BeaconStoreCnt xs j hlt
          have h3 := sum_take_le BeaconStoreCnt xs (j + 1)
          omega
        obtain ⟨f1, pre, post, c1, hoc, hpl, hbl, hg, hf, hgo⟩ := HM.out.step BeaconStoreOC.keeps HND.out hlt
        have HGO := Lib.hid hgo; clear hgo
        have HF := Lib.hid hf; clear hf
        generalize xs[j] = x at *
        unfold BeaconStoreCnt at hpb
        obtain ⟨u0, cs0, g0, rfl, r0, o0, rfl⟩ := hoc
        have R0 := Lib.hid r0; clear r0
        have L0 := Lib.hid o0; clear o0
        obtain ⟨A0, n0, c0, hu0⟩ := ownsRow_slice R0.out
        subst hu0
        have G0 : Hid (g ∉ (Value.slice A0 n0 c0).ownBlock.toList ++ g0) := fun hm => hg (by first | exact hm | (simp only [List.mem_append] at hm ⊢; simp [hm]))
        clear hg
        rw [Nat.mul_one] at hpl
        have HPL := Lib.hid hpl; clear hpl
        have B0 := Lib.hid hbl; clear hbl
        simp only [List.cons_append, List.nil_append] at B0
        have lg : g < wr.heap.size := B0.out.lt
        have hu0 := cells_at1 B0.out HPL.out
        have hf0 := B0.out.frozen (j)
        go_wp2_with fail
        refine (markBeaconS_row _ x.beacons (p) ((p : Int)) _ cs0 g0 (by exact R0.out) (by exact L0.out) HF.out (by omega) (by omega)).mono ?_
        rintro e w0 ⟨rfl, ⟨d0, r0, o0⟩, t0⟩
        have R0' := Lib.hid r0; clear r0
        have L0' := Lib.hid o0; clear o0
        have T0 := Lib.hid t0; clear t0
        have B0' := Blk.outF (B0.out) T0.out G0.out
        have B0 := Lib.hid B0'; clear B0'
        have z0 := T0.out.size
        have lg0 : g < w0.heap.size := by omega
        have hv0_0 := cells_at1 B0.out HPL.out
        have hg0_0 := B0.out.frozen (j)
        have hOC : BeaconStoreOC w0 (((Value.slice A0 n0 c0).ownBlock.toList ++ g0)) [.slice A0 n0 c0] (BeaconStoreNumE p x) := ⟨_, _, _, rfl, (by unfold BeaconStoreNumE; dsimp only; rw [numS_len]; exact R0'.out), (by exact L0'.out), rfl⟩
        have HOC := Lib.hid hOC; clear hOC
        have hOU : OutF (g :: (((Value.slice A0 n0 c0).ownBlock.toList ++ g0))) wr w0 := (by repeat (first | (with_reducible exact OutF.refl _ _) | (with_reducible refine OutF.setCell ?_ ?ge _; case ge => simp) | (with_reducible refine OutF.trans ?_ (T0.out.mono (fun x hx => List.mem_cons_of_mem _ (by first | exact hx | (simp only [List.mem_append] at hx ⊢; simp [hx])))))))
        have HOU := Lib.hid hOU; clear hOU
        go_wp2_with fail
        go_roundw
        case rel =>
          exact ⟨j + 1, p + BeaconStoreCnt x, by omega, by simp only [BeaconStoreCnt, Value.int.injEq, true_and]; omega, by go_num, HGO.out _ _ HOC.out rfl B0.out HOU.out⟩
        case measure => simp [intOf]; omega
      · go_wp2_with fail
        go_ret
        obtain rfl : j = xs.length := by omega
        obtain ⟨hp, cs', hb', hl', ho'⟩ := HM.out.stop
        subst hp
        have hs := HS.out
        have e1 : cs'.length = cs.length := by rw [hl'.len, numS_len, HLC.out]
        refine ⟨rfl, ⟨cs', row_of_blk hb' (by rw [hl'.len, numS_len]) hnn (by unfold maxLen; omega) (by rw [← hs, List.length_append, List.length_append, e1]), hl'⟩, by simpa [Value.ownBlock] using ho'⟩
theorem markBeaconStoreS (v : Value) (xs : List DBeaconStore) (q lo hi : Nat) (w : World) (h : BeaconStoreSO lo hi w v xs) (hq : q + (xs.map BeaconStoreCnt).sum ≤ 1000000000000000) :
    Calls Try.prog 115 #[v, I q] w fun e w' => e = .returned (I ((q + (xs.map BeaconStoreCnt).sum : Nat) : Int)) ∧ BeaconStoreSO lo hi w' v (numS BeaconStoreNumE BeaconStoreCnt q xs) ∧ Out lo hi w w' :=
  calls_NO numS_len h fun cs fp h1 h2 h3 => markBeaconStoreS_row v xs q q w cs fp h1 h2 h3 rfl hq
set_option maxRecDepth 100000 in
set_option maxHeartbeats 1000000 in
theorem heldBeaconStoreS (v : Value) (xs : List DBeaconStore) (q : Nat) (w : World) (h : BeaconStoreS w.heap.size w v (numS BeaconStoreNumE BeaconStoreCnt q xs)) (hq : q + (xs.map BeaconStoreCnt).sum ≤ 1000000000000000) :
    Calls Try.prog 116 #[v, I q] w fun e w' => e = .returned (I ((q + (xs.map BeaconStoreCnt).sum : Nat) : Int)) ∧ Ext w w' := by
  obtain ⟨A, n', c, rfl, hl, hn, hm, -⟩ := id h
  rw [numS_len] at hl
  subst hl
  have H := Lib.hid h; clear h
  unfold maxLen at hm
  go_enter Try.func116, Try.ntmps116
  go_wp2
  go_loopw [1, 5] (fun k i wr => ∃ j p : Nat, j ≤ xs.length ∧ p = q + ((xs.take j).map BeaconStoreCnt).sum ∧ k = I p ∧ i = I j ∧ Ext w wr) (fun _ i _ => xs.length - (intOf i).toNat)
  case atStart => exact ⟨0, q, by omega, by simp, rfl, rfl, Ext.refl _⟩
  case round =>
    obtain ⟨j, p, hj, hp, rfl, rfl, he⟩ := hrel
    have HPQ := Lib.hid hp; clear hp
    by_cases hlt : j < xs.length
    · have hpb : p + BeaconStoreCnt xs[j] ≤ 1000000000000000 := by
        have h1 := HPQ.out
        have h2 := sum_take BeaconStoreCnt xs j hlt
        have h3 := sum_take_le BeaconStoreCnt xs (j + 1)
        omega
      have HPN : Hid (p + BeaconStoreCnt xs[j] = q + ((xs.take (j + 1)).map BeaconStoreCnt).sum) := by
        unfold Hid
        rw [sum_take BeaconStoreCnt xs j hlt, HPQ.out]
        omega
      obtain ⟨b, off, rfl, hb, hk, hc⟩ := (H.out.ext he).at_ hlt
      rw [numS_get _ _ _ hlt, ← HPQ.out] at hc
      generalize xs[j] = x at *
      unfold BeaconStoreCnt at hpb HPN
      obtain ⟨A0, n0, c0, hc0, s0⟩ := hc
      simp only [BeaconStoreNumE] at hc0 s0
      have S0 := Lib.hid s0; clear s0
      have i0 : (0 : Int) ≤ (p : Int) := by omega
      go_wp2_with fail
      refine (heldBeaconS_at _ x.beacons (p) _ _ (by exact S0.out.ext (by repeat (first | (with_reducible exact Ext.refl _) | (with_reducible assumption) | (with_reducible refine Ext.alloc ?_ _) | (with_reducible refine Ext.drew ?_) | (with_reducible refine Ext.drewN ?_ _) | (with_reducible refine Ext.setCell (p := _) ?_ ?ge _; case ge => (dsimp only; omega)) | (with_reducible refine Ext.trans ?_ (by with_reducible assumption))))) (by omega) (by omega)).mono ?_
      rintro e w0 ⟨rfl, e0⟩
      obtain ⟨hc0_, -, hz0⟩ := e0.facts
      have i1 : (0 : Int) ≤ ((p + (x.beacons.map BeaconCnt).sum : Nat) : Int) := by omega
      have j1 : ¬ ((p + (x.beacons.map BeaconCnt).sum : Nat) : Int) < 0 := by omega
      go_wp2_with fail
      go_roundw
      case rel => exact ⟨j + 1, _, by omega, HPN.out, by simp only [Value.int.injEq, true_and]; omega, by go_num, (by repeat (first | (with_reducible exact Ext.refl _) | (with_reducible assumption) | (with_reducible refine Ext.alloc ?_ _) | (with_reducible refine Ext.drew ?_) | (with_reducible refine Ext.drewN ?_ _) | (with_reducible refine Ext.setCell (p := _) ?_ ?ge _; case ge => (dsimp only; omega)) | (with_reducible refine Ext.trans ?_ (by with_reducible assumption))))⟩
      case measure => simp [intOf]; omega
    · go_wp2_with fail
      go_ret
      obtain rfl : j = xs.length := by omega
      exact ⟨ret_int (by have := HPQ.out; rw [List.take_length] at this; omega), (by repeat (first | (with_reducible exact Ext.refl _) | (with_reducible assumption) | (with_reducible refine Ext.alloc ?_ _) | (with_reducible refine Ext.drew ?_) | (with_reducible refine Ext.drewN ?_ _) | (with_reducible refine Ext.setCell (p := _) ?_ ?ge _; case ge => (dsimp only; omega)) | (with_reducible refine Ext.trans ?_ (by with_reducible assumption))))⟩
theorem heldBeaconStoreS_at (v : Value) (xs : List DBeaconStore) (q : Nat) (qi : Int) (w : World) (h : BeaconStoreS w.heap.size w v (numS BeaconStoreNumE BeaconStoreCnt q xs)) (hqi : qi = (q : Int)) (hq : q + (xs.map BeaconStoreCnt).sum ≤ 1000000000000000) :
    Calls Try.prog 116 #[v, I qi] w fun e w' => e = .returned (I ((q + (xs.map BeaconStoreCnt).sum : Nat) : Int)) ∧ Ext w w' := by
  subst hqi
  exact heldBeaconStoreS v xs q w h hq
end Go.Proofs.Ytcalbcjheenmgaa
