/- Contracts of the laws' comparisons, at equal data: sameInts, sameVotes, sameHops, sameSeg, sameRoots, sameSigned. No conditions. -/
import Derived.Test.YtmopmgaeiokfjaaGreatGD4
import Derived.Test.YtmopmgaeiokfjaaGreatGL9
import Derived.Test.YtmopmgaeiokfjaaGreatGL17
import Derived.Test.YtmopmgaeiokfjaaGreatGHR
import Derived.Test.YtmopmgaeiokfjaaGreatGHB
set_option maxRecDepth 100000
set_option maxHeartbeats 1000000
namespace Go.Proofs.YtmopmgaeiokfjaaGreat
open Go.RowKit
set_option linter.unusedVariables false
theorem laws_sameHops (v1 v2 : Value) (xs : List DHop) (w : World) (h1 : HopS w.heap.size w v1 xs) (h2 : HopS w.heap.size w v2 xs) :
 Calls Tryz.prog 92 #[v1, v2] w fun e w' => e = .returned (.bool true) ∧ Ext w w' := by
 obtain ⟨A1, n1, c1, rfl, hl1, hn1, hm1, -⟩ := id h1;obtain ⟨A2, n2, c2, rfl, hl2, hn2, hm2, -⟩ := id h2;subst hl1;subst hl2;unfold maxLen at hm1 hm2;have H1 := Lib.hid h1; have H2 := Lib.hid h2; clear h1 h2
 go_enter Tryz.func92, Tryz.ntmps92
 go_wp2_with fail
 go_loopw [5] (fun i wr => ∃ k : Nat, k ≤ xs.length ∧ i = I k ∧ Ext w wr) (fun i _ => xs.length - (intOf i).toNat)
 case atStart => exact ⟨0, by omega, rfl, Ext.refl _⟩
 case round =>
  obtain ⟨k, hk, rfl, he⟩ := hrel;have HE := Lib.hid he; clear he;by_cases hlt : k < xs.length
  · obtain ⟨b1, o1, rfl, hb1, hk1, hc1⟩ := (H1.out.ext HE.out).at_ hlt
    obtain ⟨b2, o2, rfl, hb2, hk2, hc2⟩ := (H2.out.ext HE.out).at_ hlt
    have i0 : (0 : Int) ≤ (k : Int) := by omega
    have i1 : (k : Int) < (xs.length : Int) := by omega
    generalize xs[k] = x at *
    obtain ⟨h10,h11,h12,h13,h14⟩ := hc1;obtain ⟨h20,h21,h22,h23,h24⟩ := hc2;have hqn := fun W => neq_Hop x x W;have hgd := guard_Hop;have hdd : decide (x = x) = true := decide_eq_true rfl;go_wp2_with fail
    go_quiet (fail)
    go_wp2_with fail
    go_roundw
    case rel => exact ⟨k + 1, by omega, by go_num, HE.out.drewN _⟩
    case measure => simp [intOf]; omega
  · have i1 : ¬ (k : Int) < (xs.length : Int) := by omega
    go_wp2_with fail
    go_ret
    exact ⟨rfl, HE.out⟩
theorem laws_sameSeg (v1 v2 : Value) (x : DSegment) (w : World) (h1 : SegmentV w.heap.size w v1 x) (h2 : SegmentV w.heap.size w v2 x) :
 Calls Tryz.prog 48 #[v1, v2] w fun e w' => e = .returned (.bool true) ∧ Ext w w' := by
 obtain ⟨A1, n1, c1, rfl, s1⟩ := h1;obtain ⟨A2, n2, c2, rfl, s2⟩ := h2;have S1 := Lib.hid s1; have S2 := Lib.hid s2; clear s1 s2
 go_enter Tryz.func48, Tryz.ntmps48
 go_wp2_with fail
 refine (laws_sameHops _ _ x.hops _ (by exact S1.out.ext xe) (by exact S2.out.ext xe)).mono ?_;rintro e w7 ⟨rfl, he7⟩;go_wp2_with fail
 go_ret
 exact ⟨rfl, xe⟩
inductive IsS (u : Value) : Value → Prop where
 | mk : IsS u u
end Go.Proofs.YtmopmgaeiokfjaaGreat
