/- Contracts of the program's and the reference's functions on hop lists. -/
import Derived.Test.YtmnipolfdaajmaaL03
import Derived.Test.YtmnipolfdaajmaaHHop
namespace Go.Proofs.Ytmnipolfdaajmaa
open Go.RowKit
set_option linter.unusedVariables false
set_option maxRecDepth 100000 in
set_option maxHeartbeats 1000000 in
theorem impl_equalHopLists (v1 v2 : Value) (xs ys : List DHop) (w : World) (h1 : HopS w.heap.size w v1 xs) (h2 : HopS w.heap.size w v2 ys) :
    Calls Try.prog 146 #[v1, v2] w fun e w' => e = .returned (.bool (decide (xs = ys))) ∧ Ext w w' := by
  obtain ⟨A1, n1, c1, rfl, hl1, hn1, hm1, -⟩ := id h1
  obtain ⟨A2, n2, c2, rfl, hl2, hn2, hm2, -⟩ := id h2
  unfold maxLen at hm1 hm2
  have H1 := Lib.hid h1; have H2 := Lib.hid h2; have E1 := Lib.hid hl1; have E2 := Lib.hid hl2; clear h1 h2 hl1 hl2
  by_cases hn : n1 = n2
  · subst hn
    go_enter Try.func146, Try.ntmps146
    go_wp2
    go_loopw [13] (fun i wr => ∃ k : Nat, k ≤ n1 ∧ i = I k ∧ xs.take k = ys.take k ∧ Ext w wr) (fun i _ => n1 - (intOf i).toNat)
    case atStart => exact ⟨0, by omega, rfl, by simp, Ext.refl _⟩
    case round =>
      obtain ⟨k, hk, rfl, hq, he⟩ := hrel
      have HQ := Lib.hid hq; clear hq
      have HE := Lib.hid he; clear he
      by_cases hlt : k < n1
      · obtain ⟨b1, o1, rfl, hb1, hk1, hc1⟩ := (H1.out.ext HE.out).at_ hlt
        obtain ⟨b2, o2, rfl, hb2, hk2, hc2⟩ := (H2.out.ext HE.out).at_ hlt
        have i0 : (0 : Int) ≤ (k : Int) := by omega
        have i1 : (k : Int) < (n1 : Int) := by omega
        have X1 := Lib.hid (take_snoc xs k hk1)
        have X2 := Lib.hid (take_snoc ys k hk2)
        have hne : ¬ xs[k] = ys[k] → xs ≠ ys := fun hne h => hne (by subst h; rfl)
        have HN := Lib.hid hne; clear hne
        generalize xs[k] = x at *
        generalize ys[k] = y at *
        obtain ⟨h10, h11, h12, h13, h14⟩ := hc1
        obtain ⟨h20, h21, h22, h23, h24⟩ := hc2
        have hqn := fun W => neq_Hop x y W
        have hgd := guard_Hop
        have hdd : decide (x = y) = true ↔ x = y := decide_eq_true_iff
        have HD := Lib.hid hdd; clear hdd
        generalize decide (x = y) = bb at *
        cases bb
        · have hxy : ¬ x = y := fun h => by have := HD.out.2 h; cases this
          have HXY := Lib.hid hxy; clear hxy
          go_wp2
          go_quiet (fail)
          go_wp2
          go_ret
          exact ⟨ret_bool (by simp [HN.out HXY.out]), HE.out.drewN _⟩
        · have HXY := Lib.hid (HD.out.1 rfl)
          go_wp2
          go_quiet (fail)
          go_wp2
          go_roundw
          case rel => exact ⟨k + 1, by omega, by go_num, by rw [X1.out, X2.out, HQ.out, HXY.out], HE.out.drewN _⟩
          case measure => simp [intOf]; omega
      · go_wp2
        go_ret
        have h := HQ.out
        rw [List.take_of_length_le (by rw [E1.out]; omega), List.take_of_length_le (by rw [E2.out]; omega)] at h
        exact ⟨ret_bool (by simp [h]), HE.out⟩
  · have hb : ((n1 : Int) == (n2 : Int)) = false := by simp; omega
    have hb' : ((n1 : Int) != (n2 : Int)) = true := by simp; omega
    have HN := Lib.hid hn; clear hn
    go_enter Try.func146, Try.ntmps146
    go_wp2
    go_ret
    have : xs ≠ ys := fun h => HN.out (by rw [← E1.out, ← E2.out, h])
    exact ⟨ret_bool (by simp [this]), Ext.refl _⟩
set_option maxRecDepth 100000 in
set_option maxHeartbeats 1000000 in
theorem spec_l9SameHops (v1 v2 : Value) (xs ys : List DHop) (w : World) (h1 : HopS w.heap.size w v1 xs) (h2 : HopS w.heap.size w v2 ys) :
    Calls Try.prog 145 #[v1, v2] w fun e w' => e = .returned (.bool (decide (xs = ys))) ∧ Ext w w' := by
  obtain ⟨A1, n1, c1, rfl, hl1, hn1, hm1, -⟩ := id h1
  obtain ⟨A2, n2, c2, rfl, hl2, hn2, hm2, -⟩ := id h2
  unfold maxLen at hm1 hm2
  have H1 := Lib.hid h1; have H2 := Lib.hid h2; have E1 := Lib.hid hl1; have E2 := Lib.hid hl2; clear h1 h2 hl1 hl2
  by_cases hn : n1 = n2
  · subst hn
    go_enter Try.func145, Try.ntmps145
    go_wp2
    go_loopw [5] (fun i wr => ∃ k : Nat, k ≤ n1 ∧ i = I k ∧ xs.take k = ys.take k ∧ Ext w wr) (fun i _ => n1 - (intOf i).toNat)
    case atStart => exact ⟨0, by omega, rfl, by simp, Ext.refl _⟩
    case round =>
      obtain ⟨k, hk, rfl, hq, he⟩ := hrel
      have HQ := Lib.hid hq; clear hq
      have HE := Lib.hid he; clear he
      by_cases hlt : k < n1
      · obtain ⟨b1, o1, rfl, hb1, hk1, hc1⟩ := (H1.out.ext HE.out).at_ hlt
        obtain ⟨b2, o2, rfl, hb2, hk2, hc2⟩ := (H2.out.ext HE.out).at_ hlt
        have i0 : (0 : Int) ≤ (k : Int) := by omega
        have i1 : (k : Int) < (n1 : Int) := by omega
        have X1 := Lib.hid (take_snoc xs k hk1)
        have X2 := Lib.hid (take_snoc ys k hk2)
        have hne : ¬ xs[k] = ys[k] → xs ≠ ys := fun hne h => hne (by subst h; rfl)
        have HN := Lib.hid hne; clear hne
        generalize xs[k] = x at *
        generalize ys[k] = y at *
        obtain ⟨h10, h11, h12, h13, h14⟩ := hc1
        obtain ⟨h20, h21, h22, h23, h24⟩ := hc2
        have hqn := fun W => neq_Hop x y W
        have hgd := guard_Hop
        have hdd : decide (x = y) = true ↔ x = y := decide_eq_true_iff
        have HD := Lib.hid hdd; clear hdd
        generalize decide (x = y) = bb at *
        cases bb
        · have hxy : ¬ x = y := fun h => by have := HD.out.2 h; cases this
          have HXY := Lib.hid hxy; clear hxy
          go_wp2
          go_quiet (fail)
          go_wp2
          go_ret
          exact ⟨ret_bool (by simp [HN.out HXY.out]), HE.out.drewN _⟩
        · have HXY := Lib.hid (HD.out.1 rfl)
          go_wp2
          go_quiet (fail)
          go_wp2
          go_roundw
          case rel => exact ⟨k + 1, by omega, by go_num, by rw [X1.out, X2.out, HQ.out, HXY.out], HE.out.drewN _⟩
          case measure => simp [intOf]; omega
      · go_wp2
        go_ret
        have h := HQ.out
        rw [List.take_of_length_le (by rw [E1.out]; omega), List.take_of_length_le (by rw [E2.out]; omega)] at h
        exact ⟨ret_bool (by simp [h]), HE.out⟩
  · have hb : ((n1 : Int) == (n2 : Int)) = false := by simp; omega
    have hb' : ((n1 : Int) != (n2 : Int)) = true := by simp; omega
    have HN := Lib.hid hn; clear hn
    go_enter Try.func145, Try.ntmps145
    go_wp2
    go_ret
    have : xs ≠ ys := fun h => HN.out (by rw [← E1.out, ← E2.out, h])
    exact ⟨ret_bool (by simp [this]), Ext.refl _⟩
end Go.Proofs.Ytmnipolfdaajmaa
