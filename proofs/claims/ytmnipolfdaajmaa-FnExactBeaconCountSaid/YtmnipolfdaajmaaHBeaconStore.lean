/- The laws' helpers on BeaconStore: to.. (copy), eq.. (compare), sz.. (count), mark.. and held... Printed by gen.py. -/
import Derived.Test.YtmnipolfdaajmaaHBeacon
import Derived.Test.YtmnipolfdaajmaaNest
namespace Go.Proofs.Ytmnipolfdaajmaa
open Go.RowKit
set_option linter.unusedVariables false
theorem info_BeaconStore : (Try.prog.info? 152).map (fun i => (i.zero, i.size, i.bytes)) = some (some (.agg #[.slice none 0 0]), 1, 24) := by kernel_rfl

def BeaconStoreO (lo hi : Nat) (w : World) (v : Value) (x : DBeaconStore) : Prop := ∃ u0, v = .agg #[u0] ∧ BeaconSO lo hi w u0 x.beacons ∧ lo ≤ hi
theorem BeaconStoreO.keep {lo hi : Nat} {w w' : World} {v : Value} {x : DBeaconStore} (h : BeaconStoreO lo hi w v x) (hk : ∀ k, lo ≤ k → k < hi → k < w.heap.size → w'.heap[k]? = w.heap[k]?) : BeaconStoreO lo hi w' v x := by
  obtain ⟨u0, e, o0, l0⟩ := h
  exact ⟨u0, e, BeaconSO_keep o0 (fun k h1 h2 h3 => hk k (by omega) (by omega) h3), l0⟩
theorem BeaconStoreO.v {lo hi : Nat} {w : World} {v : Value} {x : DBeaconStore} (h : BeaconStoreO lo hi w v x) : BeaconStoreV hi w v x := by
  obtain ⟨u0, e, o0, l0⟩ := h
  have s0 := (NO.sl (At := BeaconAt) (pos := fun k => k * 4) o0 (fun _ => rfl) BeaconOC.at_)
  obtain ⟨A0, n0, c0, rfl, _⟩ := id s0
  exact ⟨_, _, _, e, s0.keep BeaconAt.keeps (by omega) (fun _ _ => rfl)⟩
theorem BeaconStoreO.shape {lo hi : Nat} {w : World} {v : Value} {x : DBeaconStore} (h : BeaconStoreO lo hi w v x) : ∃ A0 n0 c0, v = .agg #[.slice A0 n0 c0] := by
  obtain ⟨A0, n0, c0, e, _⟩ := h.v
  exact ⟨A0, n0, c0, e⟩
theorem BeaconStoreO.ext {lo hi : Nat} {w w' : World} {v : Value} {x : DBeaconStore} (h : BeaconStoreO lo hi w v x) (he : Ext w w') (hhi : hi ≤ w.heap.size) : BeaconStoreO lo hi w' v x := h.keep fun k _ _ h3 => he.same k h3
theorem BeaconStoreO.drew {lo hi : Nat} {w : World} {v : Value} {x : DBeaconStore} (h : BeaconStoreO lo hi w v x) : BeaconStoreO lo hi w.drew v x := h.keep fun _ _ _ _ => rfl
theorem BeaconStoreO.out {lo hi lo' hi' : Nat} {w w' : World} {v : Value} {x : DBeaconStore} (h : BeaconStoreO lo hi w v x) (ho : Out lo' hi' w w') (hd : hi' ≤ lo ∨ hi ≤ lo') : BeaconStoreO lo hi w' v x := h.keep fun k h1 h2 h3 => ho.block k h3 (by omega)
theorem BeaconStoreO_rd {lo hi : Nat} {w : World} {v : Value} {x : DBeaconStore} (h : BeaconStoreO lo hi w v x) (hhi : hi ≤ w.heap.size) : BeaconStoreV w.heap.size w v x := h.v.keep hhi (fun _ _ => rfl)
set_option maxRecDepth 100000 in
set_option maxHeartbeats 1000000 in
theorem toBeaconStore (v : Value) (x : DBeaconStore) (w : World) (h : BeaconStoreV w.heap.size w v x) (hn : totS (fun y => y.seg.hops.length) x.beacons ≤ 16777216) :
    Calls Try.prog 135 #[v] w fun e w' => ∃ v', e = .returned v' ∧ BeaconStoreO w.heap.size w'.heap.size w' v' x ∧ Ext w w' := by
  obtain ⟨A0, n0, c0, rfl, s0⟩ := h
  have S0 := Lib.hid s0; clear s0
  go_enter Try.func135, Try.ntmps135
  go_wp2_with fail
  refine (toBeaconS _ x.beacons _ (by exact S0.out.ext (by repeat (first | (with_reducible exact Ext.refl _) | (with_reducible assumption) | (with_reducible refine Ext.alloc ?_ _) | (with_reducible refine Ext.drew ?_) | (with_reducible refine Ext.drewN ?_ _) | (with_reducible refine Ext.setCell (p := _) ?_ ?ge _; case ge => (dsimp only; omega)) | (with_reducible refine Ext.trans ?_ (by with_reducible assumption))))) (by omega)).mono ?_
  rintro e w0 ⟨v0, rfl, ho0, he0⟩
  obtain ⟨hc0, hf0, hz0⟩ := he0.facts
  simp only [World.size_alloc] at hz0 hc0 hf0
  have la0 : w.heap.size < w0.heap.size := by omega
  have lb0 : w.heap.size + 1 < w0.heap.size := by omega
  have lc0 : w.heap.size + 1 + 1 < w0.heap.size := by omega
  simp only [World.size_alloc] at ho0
  have O0 := Lib.hid ho0; clear ho0
  obtain ⟨a0, m0, q0, hv0⟩ : ∃ a n c, v0 = .slice a n c := NO.slice O0.out
  subst hv0
  go_wp2_with fail
  refine bodyPost_ret (v := .agg #[.slice a0 m0 q0]) (by simp [results, Try.results135, go_sem, *]) rfl ⟨_, rfl, ?_, ?_⟩
  · simp only [World.size_setCell]
    refine ⟨_, rfl, NO.more (lo := w.heap.size + 1 + 1 + 1) (hi := w0.heap.size) (by repeat (first | (with_reducible exact O0.out) | (with_reducible refine BeaconSO_alloc ?_ _) | (with_reducible refine BeaconSO_setCell (p := _) ?_ (.inl ?ge) _; case ge => (first | omega | (dsimp only; omega) | (simp only [World.size_setCell]; omega) | (simp only [World.size_alloc]; omega))) | (with_reducible refine BeaconSO_ext ?_ (by with_reducible assumption) ?ge; case ge => (first | omega | (dsimp only; omega) | (simp only [World.size_setCell]; omega) | (simp only [World.size_alloc]; omega))))) (by omega) (by omega), by omega⟩
  · exact (by repeat (first | (with_reducible exact Ext.refl _) | (with_reducible assumption) | (with_reducible refine Ext.alloc ?_ _) | (with_reducible refine Ext.drew ?_) | (with_reducible refine Ext.drewN ?_ _) | (with_reducible refine Ext.setCell (p := _) ?_ ?ge _; case ge => (dsimp only; omega)) | (with_reducible refine Ext.trans ?_ (by with_reducible assumption))))
set_option maxRecDepth 100000 in
set_option maxHeartbeats 1000000 in
theorem eqBeaconStore (v1 v2 : Value) (x y : DBeaconStore) (w : World) (h1 : BeaconStoreV w.heap.size w v1 x) (h2 : BeaconStoreV w.heap.size w v2 y) :
    Calls Try.prog 136 #[v1, v2] w fun e w' => e = .returned (.bool (decide (x = y))) ∧ Ext w w' := by
  obtain ⟨A10, n10, c10, rfl, s10⟩ := h1
  obtain ⟨A20, n20, c20, rfl, s20⟩ := h2
  have S10 := Lib.hid s10; clear s10
  have S20 := Lib.hid s20; clear s20
  go_enter Try.func136, Try.ntmps136
  go_wp2_with fail
  all_goals (try (go_ret; exact ⟨ret_bool (by simp_all [DBeaconStore.eq_iff]), (by repeat (first | (with_reducible exact Ext.refl _) | (with_reducible assumption) | (with_reducible refine Ext.alloc ?_ _) | (with_reducible refine Ext.drew ?_) | (with_reducible refine Ext.drewN ?_ _) | (with_reducible refine Ext.setCell (p := _) ?_ ?ge _; case ge => (dsimp only; omega)) | (with_reducible refine Ext.trans ?_ (by with_reducible assumption))))⟩))
  refine (eqBeaconS _ _ x.beacons y.beacons _ (by exact S10.out.ext (by repeat (first | (with_reducible exact Ext.refl _) | (with_reducible assumption) | (with_reducible refine Ext.alloc ?_ _) | (with_reducible refine Ext.drew ?_) | (with_reducible refine Ext.drewN ?_ _) | (with_reducible refine Ext.setCell (p := _) ?_ ?ge _; case ge => (dsimp only; omega)) | (with_reducible refine Ext.trans ?_ (by with_reducible assumption))))) (by exact S20.out.ext (by repeat (first | (with_reducible exact Ext.refl _) | (with_reducible assumption) | (with_reducible refine Ext.alloc ?_ _) | (with_reducible refine Ext.drew ?_) | (with_reducible refine Ext.drewN ?_ _) | (with_reducible refine Ext.setCell (p := _) ?_ ?ge _; case ge => (dsimp only; omega)) | (with_reducible refine Ext.trans ?_ (by with_reducible assumption)))))).mono ?_
  rintro e w1 ⟨rfl, he1⟩
  obtain ⟨hc1, hf1, hz1⟩ := he1.facts
  go_wp2_with fail
  all_goals
    go_ret
    exact ⟨ret_bool (by simp_all [DBeaconStore.eq_iff]), (by repeat (first | (with_reducible exact Ext.refl _) | (with_reducible assumption) | (with_reducible refine Ext.alloc ?_ _) | (with_reducible refine Ext.drew ?_) | (with_reducible refine Ext.drewN ?_ _) | (with_reducible refine Ext.setCell (p := _) ?_ ?ge _; case ge => (dsimp only; omega)) | (with_reducible refine Ext.trans ?_ (by with_reducible assumption))))⟩
set_option maxRecDepth 100000 in
set_option maxHeartbeats 1000000 in
theorem szBeaconStore (v : Value) (x : DBeaconStore) (left : Int) (w : World) (h : BeaconStoreV w.heap.size w v x) (h0 : 0 ≤ left) (hl : left ≤ 1048576) :
    Calls Try.prog 134 #[v, I left] w fun e w' => e = .returned (I (szR (totS (fun y => y.seg.hops.length) x.beacons) left)) ∧ Ext w w' := by
  obtain ⟨A0, n0, c0, rfl, s0⟩ := h
  have S0 := Lib.hid s0; clear s0
  go_enter Try.func134, Try.ntmps134
  go_wp2_with fail
  refine (szBeaconS _ x.beacons (left) _ (by exact S0.out.ext (by repeat (first | (with_reducible exact Ext.refl _) | (with_reducible assumption) | (with_reducible refine Ext.alloc ?_ _) | (with_reducible refine Ext.drew ?_) | (with_reducible refine Ext.drewN ?_ _) | (with_reducible refine Ext.setCell (p := _) ?_ ?ge _; case ge => (dsimp only; omega)) | (with_reducible refine Ext.trans ?_ (by with_reducible assumption))))) (by omega) (by omega)).mono ?_
  rintro e w1 ⟨rfl, he1⟩
  obtain ⟨hc1, hf1, hz1⟩ := he1.facts
  by_cases hlt0 : left < (((totS (fun y => y.seg.hops.length) x.beacons) : Nat) : Int)
  · rw [szR_neg hlt0]
    go_wp2_with fail
    go_ret
    exact ⟨ret_int (szR_neg (by omega)).symm, (by repeat (first | (with_reducible exact Ext.refl _) | (with_reducible assumption) | (with_reducible refine Ext.alloc ?_ _) | (with_reducible refine Ext.drew ?_) | (with_reducible refine Ext.drewN ?_ _) | (with_reducible refine Ext.setCell (p := _) ?_ ?ge _; case ge => (dsimp only; omega)) | (with_reducible refine Ext.trans ?_ (by with_reducible assumption))))⟩
  · rw [szR_pos (by omega)]
    go_wp2_with fail
    go_ret
    exact ⟨ret_int (by rw [szR_pos (by omega)] <;> omega), (by repeat (first | (with_reducible exact Ext.refl _) | (with_reducible assumption) | (with_reducible refine Ext.alloc ?_ _) | (with_reducible refine Ext.drew ?_) | (with_reducible refine Ext.drewN ?_ _) | (with_reducible refine Ext.setCell (p := _) ?_ ?ge _; case ge => (dsimp only; omega)) | (with_reducible refine Ext.trans ?_ (by with_reducible assumption))))⟩
/-- The cells cs of a BeaconStore and the blocks that it owns. -/
def BeaconStoreOC (w : World) (fp : List Nat) (cs : List Value) (x : DBeaconStore) : Prop := ∃ u0 cs0 f0, cs = [u0] ∧ w.ownsRow 0 190 4 u0 x.beacons.length cs0 ∧ OL BeaconOC 4 w x.beacons f0 cs0 ∧ fp = (u0.ownBlock.toList ++ f0)
theorem BeaconStoreOC.keeps : OKeeps BeaconStoreOC := by
  intro w w' fp cs x hk h
  obtain ⟨u0, cs0, f0, e, r0, l0, ef⟩ := h
  exact ⟨u0, cs0, f0, e, ownsRow_keep r0 (fun b hb => hk b (by rw [ef]; simp [hb])), OL.keep BeaconOC.keeps l0 (fun b hb => hk b (by rw [ef]; simp [hb])), ef⟩
theorem BeaconStoreOC.at_ (B : Nat) (w : World) (b o : Nat) (fp : List Nat) (cs : List Value) (x : DBeaconStore) (h : BeaconStoreOC w fp cs x) (hb : ∀ b ∈ fp, b < B) (hc : ∀ j u, cs[j]? = some u → w.cell? ⟨b, o + j, none⟩ = some u) : BeaconStoreAt B w b o x := by
  obtain ⟨u0, cs0, f0, rfl, r0, l0, ef⟩ := h
  have s0 : BeaconS B w u0 x.beacons := sl_of_OL (At := BeaconAt) r0 l0 (fun b hm => hb b (by rw [ef]; simp [hm])) (fun _ => rfl) BeaconOC.at_
  obtain ⟨A0, n0, c0, e0, _⟩ := id s0
  subst e0
  exact ⟨A0, n0, c0, hc 0 _ rfl, s0⟩
theorem BeaconStoreOC.len {w : World} {fp : List Nat} {cs : List Value} {x : DBeaconStore} (h : BeaconStoreOC w fp cs x) : cs.length = 1 := by
  obtain ⟨u0, cs0, f0, rfl, _⟩ := h
  rfl
theorem BeaconStoreO.to_oc {lo hi : Nat} {w : World} {v : Value} {x : DBeaconStore} (h : BeaconStoreO lo hi w v x) : ∃ a0 k0 q0 fp, v = .agg #[.slice a0 k0 q0] ∧ BeaconStoreOC w fp [.slice a0 k0 q0] x ∧ fp.Nodup ∧ ∀ b ∈ fp, lo ≤ b ∧ b < hi := by
  obtain ⟨u0, e, o0, l0⟩ := h
  obtain ⟨a0, k0, q0, hu0⟩ : ∃ a n c, u0 = .slice a n c := NO.slice o0
  obtain ⟨cs0, f0, r0, l0_, d0, b0'⟩ := o0
  have b0 : ∀ b ∈ u0.ownBlock.toList ++ f0, lo ≤ b ∧ b < hi := fun b hb => by
    rcases List.mem_append.1 hb with hb | hb
    · exact ⟨(r0.1.lt b (by simpa using hb)).1, r0.2 b (by simpa using hb)⟩
    · exact b0' b hb
  subst hu0
  exact ⟨a0, k0, q0, ((Value.slice a0 k0 q0).ownBlock.toList ++ f0), e, ⟨_, cs0, f0, rfl, (r0.more (Nat.zero_le _) (Nat.le_refl _)).1, l0_, rfl⟩, d0, b0⟩
/-- A []BeaconStore of the call's own. -/
abbrev BeaconStoreSO (lo hi : Nat) (w : World) (v : Value) (xs : List DBeaconStore) : Prop := NO BeaconStoreOC 152 1 lo hi w v xs
theorem BeaconStoreSO_rd {lo hi : Nat} {w : World} {v : Value} {xs : List DBeaconStore} (h : BeaconStoreSO lo hi w v xs) (hhi : hi ≤ w.heap.size) : BeaconStoreS w.heap.size w v xs := (NO.sl (At := BeaconStoreAt) h (fun _ => (Nat.mul_one _).symm) BeaconStoreOC.at_).keep BeaconStoreAt.keeps hhi (fun _ _ => rfl)
theorem BeaconStoreSO_ext {lo hi : Nat} {w w' : World} {v : Value} {xs : List DBeaconStore} (h : BeaconStoreSO lo hi w v xs) (he : Ext w w') (_hhi : hi ≤ w.heap.size) : BeaconStoreSO lo hi w' v xs := NO.keep BeaconStoreOC.keeps h fun k _ _ h3 => he.same k h3
theorem BeaconStoreSO_out {lo hi : Nat} {lo' hi' : Nat} {w w' : World} {v : Value} {xs : List DBeaconStore} (h : BeaconStoreSO lo hi w v xs) (ho : Out lo' hi' w w') (hd : hi' ≤ lo ∨ hi ≤ lo') : BeaconStoreSO lo hi w' v xs := NO.keep BeaconStoreOC.keeps h fun k h1 h2 h3 => ho.block k h3 (by omega)
theorem BeaconStoreSO_drew {lo hi : Nat} {w : World} {v : Value} {xs : List DBeaconStore} (h : BeaconStoreSO lo hi w v xs) : BeaconStoreSO lo hi w.drew v xs := NO.keep BeaconStoreOC.keeps h fun _ _ _ _ => rfl
theorem BeaconStoreSO_alloc {lo hi : Nat} {w : World} {v : Value} {xs : List DBeaconStore} (h : BeaconStoreSO lo hi w v xs) (o : Obj) : BeaconStoreSO lo hi (w.alloc o) v xs := NO.keep BeaconStoreOC.keeps h fun k _ _ h3 => Below.heap_alloc w o k h3
theorem BeaconStoreSO_setCell {lo hi : Nat} {w : World} {v : Value} {xs : List DBeaconStore} (h : BeaconStoreSO lo hi w v xs) {p : Addr} (hp : p.block < lo ∨ hi ≤ p.block) (u : Value) : BeaconStoreSO lo hi (w.setCell p u) v xs := NO.keep BeaconStoreOC.keeps h fun k h1 h2 _ => Below.heap_setCell _ _ _ _ (by omega)
theorem BeaconStoreSO_keep {lo hi : Nat} {w w' : World} {v : Value} {xs : List DBeaconStore} (h : BeaconStoreSO lo hi w v xs) (hk : ∀ k, lo ≤ k → k < hi → k < w.heap.size → w'.heap[k]? = w.heap[k]?) : BeaconStoreSO lo hi w' v xs := NO.keep BeaconStoreOC.keeps h hk
set_option maxRecDepth 100000 in
set_option maxHeartbeats 1000000 in
theorem toBeaconStoreS (v : Value) (ds : List DBeaconStore) (w : World) (h : BeaconStoreS w.heap.size w v ds) (hn : totS (fun y => totS (fun y => y.seg.hops.length) y.beacons) ds ≤ 16777216) :
    Calls Try.prog 104 #[v] w fun e w' => ∃ v', e = .returned v' ∧ BeaconStoreSO w.heap.size w'.heap.size w' v' ds ∧ Ext w w' := by
  obtain ⟨A, n, c, rfl, hl, -⟩ := id h
  subst hl
  have hn : ds.length + (ds.map fun y => totS (fun y => y.seg.hops.length) y.beacons).sum ≤ 16777216 := hn
  have hmk := run_mk (P := Try.prog) 101 152 (.agg #[.slice none 0 0]) 1 24 Try.underlying101 info_BeaconStore ds.length (by omega) (by omega)
  have hml := mkRow_len (.agg #[.slice none 0 0]) (ds.length * 1)
  generalize mkRow (.agg #[.slice none 0 0]) (ds.length * 1) = mr at *
  have H := Lib.hid h; clear h
  have HM := Lib.hid hml; clear hml
  go_enter Try.func104, Try.ntmps104
  go_wp2
  go_loopw [4] (fun i wr => ∃ (k : Nat) (cs rest : List Value) (fp : List Nat), k ≤ ds.length ∧ i = I k ∧ Blk wr w.heap.size 152 (cs ++ rest) ∧ OL BeaconStoreOC 1 wr (ds.take k) fp cs ∧ (w.heap.size :: fp).Nodup ∧ (∀ b ∈ fp, w.heap.size < b ∧ b < wr.heap.size) ∧ rest.length = (ds.length - k) * 1 ∧ Ext w wr) (fun i _ => ds.length - (intOf i).toNat)
  case atStart => exact ⟨0, [], mr.toList, [], by omega, rfl, by simpa using Blk.new w 152 mr.toList, ⟨rfl, rfl⟩, by simp, by simp, by simpa using HM.out, (Ext.refl _).alloc _⟩
  case round =>
    obtain ⟨k, cs, rest, fp, hk, rfl, hb, hol, hnd, hbd, hr, he⟩ := hrel
    have HE := Lib.hid he
    have HB := Lib.hid hb; clear hb
    have HOL := Lib.hid hol; clear hol
    have HND := Lib.hid hnd; clear hnd
    have HBD := Lib.hid hbd; clear hbd
    by_cases hlt : k < ds.length
    · obtain ⟨b, off, rfl, hbb, _, hc⟩ := (H.out.ext he).at_ hlt
      have hsm := sum_mem (fun y => totS (fun y => y.seg.hops.length) y.beacons) ds k hlt
      obtain ⟨r0, rest, rfl⟩ : ∃ r0 rest', rest = r0 :: rest' := by
        match rest, hr with
        | r0 :: rest, _ => exact ⟨r0, rest, rfl⟩
        | [], h => simp at h; omega
      have hlr : rest.length = (ds.length - (k + 1)) * 1 := by simp only [List.length_cons] at hr; omega
      have HR := Lib.hid hlr; clear hr he hlr
      have HX := Lib.hid (take_snoc ds k hlt)
      generalize ds[k] = x at *
      obtain ⟨A0, n0, c0, hc0, s0⟩ := hc
      have S0 := Lib.hid s0; clear s0
      have hp : cs.length = k := by rw [HOL.out.len, List.length_take, Nat.min_eq_left hk, Nat.mul_one]
      have HP := Lib.hid hp; clear hp
      have hwg : w.heap.size < wr.heap.size := HB.out.lt
      go_wp2_with fail
      refine (toBeaconStore _ x _ (by exact ⟨_, _, _, rfl, S0.out⟩) (by omega)).mono ?_
      rintro e w1 ⟨v1, rfl, ho1, he1⟩
      obtain ⟨a0, k0, q0, f1, rfl, hoc, hn1, hb1⟩ := ho1.to_oc
      have HOC := Lib.hid hoc; have HN1 := Lib.hid hn1; have HB1F := Lib.hid hb1; clear hoc hn1 hb1 ho1
      have HB1 := Lib.hid (HB.out.below he1.below hwg)
      have hz1 := he1.size
      have HE1 := Lib.hid he1
      clear he1
      have hu0 := cells_at1 HB1.out HP.out
      have hf0 := HB1.out.frozen (k)
      go_wp2
      go_roundw
      case rel =>
        obtain ⟨g1, g2, g3⟩ := nest_step (w2 := (w1.setCell ⟨w.heap.size, k, none⟩ (.slice a0 k0 q0))) BeaconStoreOC.keeps HOL.out HE1.out HOC.out rfl HBD.out HND.out HN1.out HB1F.out hwg (fun b hb => (Below.heap_setCell _ ⟨w.heap.size, k, none⟩ _ b hb)) (by simp only [World.size_setCell])
        refine ⟨k + 1, cs ++ [.slice a0 k0 q0], rest, fp ++ f1, by omega, by go_num, ?_, ?_, g2, g3, HR.out, ?_⟩
        · have := HB1.out.set_ (k) (.slice a0 k0 q0)
          rw [set_at1 _ _ _ _ _ HP.out] at this
          simpa using this
        · rw [HX.out]
          exact g1
        · exact (HE.out.trans HE1.out).setCell (by simp) _
      case measure => simp [intOf]; omega
    · have HR := Lib.hid hr; clear hr he
      go_wp2
      go_ret
      have e : k = ds.length := by omega
      have hr := HR.out
      subst e
      obtain rfl : rest = [] := List.eq_nil_of_length_eq_zero (by simpa using hr)
      have hb := HB.out
      have hol := HOL.out
      rw [List.append_nil] at hb
      rw [List.take_length] at hol
      exact ⟨_, rfl, ⟨cs, fp, Own.of_blk hb hol.len (by unfold maxLen; omega) (Nat.le_refl _) hb.lt, hol, by simpa [Value.ownBlock] using HND.out, fun b hb => ⟨by have := (HBD.out b hb).1; omega, (HBD.out b hb).2⟩⟩, HE.out⟩
set_option maxRecDepth 100000 in
set_option maxHeartbeats 1000000 in
theorem eqBeaconStoreS (v1 v2 : Value) (xs ys : List DBeaconStore) (w : World) (h1 : BeaconStoreS w.heap.size w v1 xs) (h2 : BeaconStoreS w.heap.size w v2 ys) :
    Calls Try.prog 105 #[v1, v2] w fun e w' => e = .returned (.bool (decide (xs = ys))) ∧ Ext w w' := by
  obtain ⟨A1, n1, c1, rfl, hl1, hn1, hm1, -⟩ := id h1
  obtain ⟨A2, n2, c2, rfl, hl2, hn2, hm2, -⟩ := id h2
  unfold maxLen at hm1 hm2
  have H1 := Lib.hid h1; have H2 := Lib.hid h2; have E1 := Lib.hid hl1; have E2 := Lib.hid hl2; clear h1 h2 hl1 hl2
  by_cases hn : n1 = n2
  · subst hn
    go_enter Try.func105, Try.ntmps105
    go_wp2
    go_loopw [5] (fun i wr => ∃ k : Nat, k ≤ n1 ∧ i = I k ∧ xs.take k = ys.take k ∧ Ext w wr) (fun i _ => n1 - (intOf i).toNat)
    case atStart => exact ⟨0, by omega, rfl, by simp, Ext.refl _⟩
    case round =>
      obtain ⟨k, hk, rfl, hq, he⟩ := hrel
      have HQ := Lib.hid hq; clear hq
      have HE := Lib.hid he; clear he
      by_cases hlt : k < n1
      · obtain ⟨b1, o1, rfl, hb1, hk1, hc1⟩ := (H1.out.ext HE.out).at_ hlt
        obtain ⟨b2, o2, rfl, hb2, hk2, hc2⟩ := (H2.out.ext HE.out).at_ hlt
        have i0 : (0 : Int) ≤ (k : Int) := by omega
        have i1 : (k : Int) < (n1 : Int) := by omega
        have X1 := Lib.hid (take_snoc xs k hk1)
        have X2 := Lib.hid (take_snoc ys k hk2)
        have hne : ¬ xs[k] = ys[k] → xs ≠ ys := fun hne h => hne (by subst h; rfl)
        have HN := Lib.hid hne; clear hne
        generalize xs[k] = x at *
        generalize ys[k] = y at *
        obtain ⟨A10, n10, c10, h10, s10⟩ := hc1
        obtain ⟨A20, n20, c20, h20, s20⟩ := hc2
        have S10 := Lib.hid s10; clear s10
        have S20 := Lib.hid s20; clear s20
        go_wp2_with fail
        go_region_held3 (fun W => wr.heap.size ≤ W.heap.size ∧ ∀ b o, b < wr.heap.size → W.cell? ⟨b, o, none⟩ = wr.cell? ⟨b, o, none⟩)
          (first | exact ⟨Nat.le_refl _, fun _ _ _ => rfl⟩ | exact keepC (by assumption) he1)
          (first | (go_at_call 136; refine (eqBeaconStore _ _ x y _ (by exact ⟨_, _, _, rfl, S10.out.ext (by repeat (first | (with_reducible exact Ext.refl _) | (with_reducible assumption) | (with_reducible refine Ext.alloc ?_ _) | (with_reducible refine Ext.drew ?_) | (with_reducible refine Ext.drewN ?_ _) | (with_reducible refine Ext.setCell (p := _) ?_ ?ge _; case ge => (dsimp only; omega)) | (with_reducible refine Ext.trans ?_ (by with_reducible assumption))))⟩) (by exact ⟨_, _, _, rfl, S20.out.ext (by repeat (first | (with_reducible exact Ext.refl _) | (with_reducible assumption) | (with_reducible refine Ext.alloc ?_ _) | (with_reducible refine Ext.drew ?_) | (with_reducible refine Ext.drewN ?_ _) | (with_reducible refine Ext.setCell (p := _) ?_ ?ge _; case ge => (dsimp only; omega)) | (with_reducible refine Ext.trans ?_ (by with_reducible assumption))))⟩)).mono ?_; rintro e w1 ⟨rfl, he1⟩))
        have HE1 := Lib.hid (HE.out.drew.trans he1)
        have hdd : decide (x = y) = true ↔ x = y := decide_eq_true_iff
        have HD := Lib.hid hdd; clear hdd
        generalize decide (x = y) = bb at *
        cases bb
        · have hxy : ¬ x = y := fun h => by have := HD.out.2 h; cases this
          have HXY := Lib.hid hxy; clear hxy
          go_wp2
          go_ret
          exact ⟨ret_bool (by simp [HN.out HXY.out]), HE1.out⟩
        · have HXY := Lib.hid (HD.out.1 rfl)
          go_wp2
          go_roundw
          case rel => exact ⟨k + 1, by omega, by go_num, by rw [X1.out, X2.out, HQ.out, HXY.out], HE1.out⟩
          case measure => simp [intOf]; omega
      · go_wp2
        go_ret
        have h := HQ.out
        rw [List.take_of_length_le (by rw [E1.out]; omega), List.take_of_length_le (by rw [E2.out]; omega)] at h
        exact ⟨ret_bool (by simp [h]), HE.out⟩
  · have hb : ((n1 : Int) == (n2 : Int)) = false := by simp; omega
    have hb' : ((n1 : Int) != (n2 : Int)) = true := by simp; omega
    have HN := Lib.hid hn; clear hn
    go_enter Try.func105, Try.ntmps105
    go_wp2
    go_ret
    have : xs ≠ ys := fun h => HN.out (by rw [← E1.out, ← E2.out, h])
    exact ⟨ret_bool (by simp [this]), Ext.refl _⟩
set_option maxRecDepth 100000 in
set_option maxHeartbeats 1000000 in
theorem szBeaconStoreS (v : Value) (ds : List DBeaconStore) (left : Int) (w : World) (h : BeaconStoreS w.heap.size w v ds) (h0 : 0 ≤ left) (hl : left ≤ 1048576) :
    Calls Try.prog 103 #[v, I left] w fun e w' => e = .returned (I (szR (totS (fun y => totS (fun y => y.seg.hops.length) y.beacons) ds) left)) ∧ Ext w w' := by
  obtain ⟨A, n, c, rfl, hl1, hn1, hm1, -⟩ := id h
  unfold maxLen at hm1
  subst hl1
  have H := Lib.hid h; clear h
  have HT : Hid (totS (fun y => totS (fun y => y.seg.hops.length) y.beacons) ds = ds.length + (ds.map fun y => totS (fun y => y.seg.hops.length) y.beacons).sum) := rfl
  by_cases hlt : left < (ds.length : Int)
  · have HF := Lib.hid (szR_neg (t := totS (fun y => totS (fun y => y.seg.hops.length) y.beacons) ds) (left := left) (by rw [HT.out]; omega))
    go_enter Try.func103, Try.ntmps103
    go_wp2
    go_ret
    exact ⟨ret_int HF.out.symm, Ext.refl _⟩
  · go_enter Try.func103, Try.ntmps103
    go_wp2
    go_loopw [1, 5] (fun l i wr => ∃ (k : Nat) (z : Int), k ≤ ds.length ∧ i = I k ∧ l = I z ∧ z = left - ds.length - (((ds.take k).map fun y => totS (fun y => y.seg.hops.length) y.beacons).sum : Nat) ∧ 0 ≤ z ∧ Ext w wr) (fun _ i _ => ds.length - (intOf i).toNat)
    case atStart => exact ⟨0, left - ds.length, by omega, rfl, rfl, by simp, by omega, Ext.refl _⟩
    case round =>
      obtain ⟨k, z, hk, rfl, rfl, hz, hz0, he⟩ := hrel
      have hzl : z ≤ 1048576 := by omega
      have HZ := Lib.hid hz; clear hz
      have HE := Lib.hid he; clear he
      by_cases hkn : k < ds.length
      · obtain ⟨b, off, rfl, hbb, _, hc⟩ := (H.out.ext HE.out).at_ hkn
        have HS := Lib.hid (sum_take (fun y => totS (fun y => y.seg.hops.length) y.beacons) ds k hkn)
        have HS2 := Lib.hid (sum_take_le (fun y => totS (fun y => y.seg.hops.length) y.beacons) ds (k + 1))
        generalize ds[k] = x at *
        obtain ⟨A0, n0, c0, hc0, s0⟩ := hc
        have S0 := Lib.hid s0; clear s0
        go_wp2_with fail
        refine (szBeaconStore _ x z _ (by exact ⟨_, _, _, rfl, S0.out⟩) (by omega) (by omega)).mono ?_
        rintro e w1 ⟨rfl, he1⟩
        by_cases hx : z < ((totS (fun y => y.seg.hops.length) x.beacons : Nat) : Int)
        · rw [szR_neg hx]
          go_wp2_with fail
          go_ret
          refine ⟨ret_int (szR_neg ?_).symm, HE.out.trans he1⟩
          rw [HT.out]
          have h1 := HZ.out; have h2 := HS.out; have h3 := HS2.out
          omega
        · rw [szR_pos (by omega)]
          go_wp2_with fail
          go_roundw
          case rel =>
            refine ⟨k + 1, z - ((totS (fun y => y.seg.hops.length) x.beacons : Nat) : Int), by omega, by go_num, rfl, ?_, by omega, HE.out.trans he1⟩
            rw [HS.out, HZ.out]
            omega
          case measure => simp [intOf]; omega
      · go_wp2_with fail
        go_ret
        obtain rfl : k = ds.length := by omega
        have h1 := HZ.out
        rw [List.take_length] at h1
        refine ⟨ret_int ?_, HE.out⟩
        rw [szR_pos (by rw [HT.out]; omega), HT.out, h1]
        omega
end Go.Proofs.Ytmnipolfdaajmaa
