/- Contracts of the program's and the reference's functions on beaconing: BeaconCount. -/
import Derived.Test.YtijdlogcbnebcaaGreatGL0
import Derived.Test.YtijdlogcbnebcaaGreatGHB
namespace Go.Proofs.YtijdlogcbnebcaaGreat
open Go.RowKit
set_option linter.unusedVariables false
def beaconCount (x : DBeaconing) : Int := ((x.stores.map fun s => s.beacons.length).sum : Nat)
theorem beacons_le (l : List DBeaconStore) : (l.map fun s => s.beacons.length).sum ≤ (l.map fun y => totS (fun y => y.seg.hops.length) y.beacons).sum := by
  induction l with
  | nil => exact Nat.le_refl _
  | cons x l ih =>
    have h : x.beacons.length ≤ totS (fun y => y.seg.hops.length) x.beacons := by unfold totS; omega
    simp only [List.map_cons, List.sum_cons]
    omega
theorem beaconCount_le (x : DBeaconing) (h : totS (fun y => totS (fun y => y.seg.hops.length) y.beacons) x.stores ≤ 1048576) : (x.stores.map fun s => s.beacons.length).sum ≤ 1000000000 := by
  have h1 := beacons_le x.stores
  have h2 : x.stores.length + (x.stores.map fun y => totS (fun y => y.seg.hops.length) y.beacons).sum ≤ 1048576 := h
  omega
set_option maxRecDepth 100000 in
set_option maxHeartbeats 1000000 in
theorem spec_BeaconCount (v : Value) (x : DBeaconing) (w : World) (h : BeaconingV w.heap.size w v x) (hn : (x.stores.map fun s => s.beacons.length).sum ≤ 1000000000) :
    Calls Tryz.prog 11 #[v] w fun e w' => e = .returned (I (beaconCount x)) ∧ Ext w w' := by
  obtain ⟨A, n, c, rfl, s⟩ := h
  obtain ⟨hl, _, hm⟩ := s.len
  subst hl
  unfold maxLen at hm
  have S := Lib.hid s; clear s
  go_enter Tryz.func11, Tryz.ntmps11
  go_wp2_with fail
  go_loop [3, 4] (fun z i => ∃ (k q : Nat), k ≤ x.stores.length ∧ i = I k ∧ z = I q ∧ q = ((x.stores.take k).map fun s => s.beacons.length).sum ∧ q ≤ 1000000000) (fun _ i => x.stores.length - (intOf i).toNat)
  case atStart => exact ⟨0, 0, by omega, rfl, rfl, by simp, by omega⟩
  case round =>
    obtain ⟨k, q, hk, rfl, rfl, hq, hq1⟩ := hrel
    have HQ := Lib.hid hq; clear hq
    by_cases hlt : k < x.stores.length
    · obtain ⟨b, off, rfl, hb, hkl, hc⟩ := S.out.at_ hlt
      have hs := sum_take (fun s => s.beacons.length) x.stores k hkl
      have hs2 := sum_take_le (fun s => s.beacons.length) x.stores (k + 1)
      have hq2 := HQ.out
      have hb2 : q + (x.stores[k]).beacons.length ≤ 1000000000 := by omega
      have HS := Lib.hid hs; clear hs hs2 hq2
      generalize x.stores[k] = y at *
      obtain ⟨A1, n1, c1, h0, s1⟩ := hc
      obtain ⟨hl1, _, _⟩ := s1.len
      subst hl1
      clear s1
      go_wp2_with fail
      go_round
      case rel => exact ⟨k + 1, q + y.beacons.length, by omega, by go_num, by go_num, by rw [HS.out, HQ.out], hb2⟩
      case measure => simp [intOf]; omega
    · obtain rfl : k = x.stores.length := by omega
      go_wp2_with fail
      go_ret
      refine ⟨ret_int ?_, xe⟩
      have h := HQ.out
      rw [List.take_length] at h
      rw [h]
      rfl
set_option maxRecDepth 100000 in
set_option maxHeartbeats 1000000 in
theorem impl_BeaconCount (v : Value) (x : DBeaconing) (w : World) (h : BeaconingV w.heap.size w v x) (hn : (x.stores.map fun s => s.beacons.length).sum ≤ 1000000000) :
    Calls Tryz.prog 10 #[v] w fun e w' => e = .returned (I (beaconCount x)) ∧ Ext w w' := by
  obtain ⟨A, n, c, rfl, s⟩ := h
  obtain ⟨hl, _, hm⟩ := s.len
  subst hl
  unfold maxLen at hm
  have S := Lib.hid s; clear s
  go_enter Tryz.func10, Tryz.ntmps10
  go_wp2_with fail
  go_loopw [3, 9] (fun z i wr => ∃ (k q : Nat), k ≤ x.stores.length ∧ i = I k ∧ z = I q ∧ q = ((x.stores.take k).map fun s => s.beacons.length).sum ∧ q ≤ 1000000000 ∧ Ext w wr) (fun _ i _ => x.stores.length - (intOf i).toNat)
  case atStart => exact ⟨0, 0, by omega, rfl, rfl, by simp, by omega, xe⟩
  case round =>
    obtain ⟨k, q, hk, rfl, rfl, hq, hq1, he⟩ := hrel
    have HQ := Lib.hid hq; clear hq
    have HE := Lib.hid he; clear he
    by_cases hlt : k < x.stores.length
    · obtain ⟨b, off, rfl, hb, hkl, hc⟩ := (S.out.ext HE.out).at_ hlt
      have hs := sum_take (fun s => s.beacons.length) x.stores k hkl
      have hs2 := sum_take_le (fun s => s.beacons.length) x.stores (k + 1)
      have hq2 := HQ.out
      have hb2 : q + (x.stores[k]).beacons.length ≤ 1000000000 := by omega
      have HS := Lib.hid hs; clear hs hs2 hq2
      generalize x.stores[k] = y at *
      obtain ⟨A1, n1, c1, h0, s1⟩ := hc
      obtain ⟨hl1, _, _⟩ := s1.len
      subst hl1
      clear s1
      go_wp2_with fail
      go_roundw
      case rel => exact ⟨k + 1, q + y.beacons.length, by omega, by go_num, by go_num, by rw [HS.out, HQ.out], hb2, HE.out.alloc _⟩
      case measure => simp [intOf]; omega
    · obtain rfl : k = x.stores.length := by omega
      go_wp2_with fail
      go_ret
      refine ⟨ret_int ?_, HE.out⟩
      have h := HQ.out
      rw [List.take_length] at h
      rw [h]
      rfl
end Go.Proofs.YtijdlogcbnebcaaGreat
