/- Contracts of the program's and the reference's functions on hops and segments: ValidHop, HopMAC, VerifyHop, ChainAdd, BetaAt, FirstInvalidHop, IsTerminated, SegmentExpiry. -/
import Derived.Test.YtcalbcjheenmgaaL05b
import Derived.Test.YtcalbcjheenmgaaL09c
namespace Go.Proofs.Ytcalbcjheenmgaa
open Go.RowKit
set_option linter.unusedVariables false
def validHop (h : DHop) : Bool := inR h.asn 0 7 && (inR h.ing 0 6 && (inR h.egr 0 6 && ((h.ing != h.egr) && (inR h.exp 0 1000000 && isRes h.mac))))
def hopMac (key ts beta : Int) (h : DHop) : Int := mac key [ts, beta, h.asn, h.ing, h.egr, h.exp]
def verifyHop (t : DTopology) (ts beta : Int) (h : DHop) : Bool := validHop h && (isAs t h.asn && h.mac == hopMac (asAt t h.asn).key ts beta h)
def chainAdd (b : Int) (l : List Int) : Int := l.foldl addM b
def macs (l : List DHop) : List Int := l.map fun h => h.mac
def betaAt (s : DSegment) (i : Int) : Int := if inR i 0 s.hops.length then chainAdd s.beta (macs (s.hops.take i.toNat)) else 0
theorem macs_snoc (l : List DHop) (k : Nat) (h : k < l.length) : macs (l.take (k + 1)) = macs (l.take k) ++ [l[k].mac] := by unfold macs; rw [take_snoc l k h, List.map_append]; rfl
theorem macs_len (l : List DHop) : (macs l).length = l.length := by simp [macs]
theorem Sl.take {α : Type} {At : Nat → World → Nat → Nat → α → Prop} {pos : Nat → Nat} {B : Nat} {w : World} {A : Option Addr} {n c k : Nat} {ds : List α} (h : Sl At pos B w (.slice A n c) ds) (hk : k ≤ n) : Sl At pos B w (.slice A k c) (ds.take k) := by
  obtain ⟨A', n', c', e, hl, hn, hc, hr⟩ := h
  cases e
  refine ⟨_, _, _, rfl, by rw [List.length_take, hl]; omega, by omega, hc, fun h0 => ?_⟩
  obtain ⟨b, off, e, hb, hat⟩ := hr (by omega)
  refine ⟨b, off, e, hb, fun j hj => ?_⟩
  rw [List.getElem_take]
  exact hat j (by rw [List.length_take] at hj; omega)
set_option maxRecDepth 100000 in
set_option maxHeartbeats 1000000 in
theorem impl_ValidHop (h : DHop) (w : World) : Calls Try.prog 211 #[.agg #[I h.asn, I h.ing, I h.egr, I h.exp, I h.mac]] w fun e w' => e = .returned (.bool (validHop h)) ∧ Ext w w' := by
  cases h0 : inR h.asn 0 7
  · have HF : Hid (validHop h = false) := by unfold Hid validHop; rw [h0]; rfl
    have H0 := Lib.hid h0; clear h0
    go_enter Try.func211, Try.ntmps211
    go_wp2_with (first | (go_at_call 67; refine (impl_InRange _ _ _ _).mono ?_; rintro e w' ⟨rfl, rfl⟩; first | rw [H0.out]) | (go_at_call 175; refine (impl_isResidue _ _).mono ?_; rintro e w' ⟨rfl, rfl⟩; first | skip))
    go_ret
    exact ⟨ret_bool HF.out.symm, (by repeat (first | (with_reducible exact Ext.refl _) | (with_reducible assumption) | (with_reducible refine Ext.alloc ?_ _) | (with_reducible refine Ext.drew ?_) | (with_reducible refine Ext.drewN ?_ _) | (with_reducible refine Ext.setCell (p := _) ?_ ?ge _; case ge => (dsimp only; omega)) | (with_reducible refine Ext.trans ?_ (by with_reducible assumption))))⟩
  · cases h1 : inR h.ing 0 6
    · have HF : Hid (validHop h = false) := by unfold Hid validHop; rw [h0, h1]; rfl
      have H0 := Lib.hid h0; clear h0; have H1 := Lib.hid h1; clear h1
      go_enter Try.func211, Try.ntmps211
      go_wp2_with (first | (go_at_call 67; refine (impl_InRange _ _ _ _).mono ?_; rintro e w' ⟨rfl, rfl⟩; first | rw [H0.out] | rw [H1.out]) | (go_at_call 175; refine (impl_isResidue _ _).mono ?_; rintro e w' ⟨rfl, rfl⟩; first | skip))
      go_ret
      exact ⟨ret_bool HF.out.symm, (by repeat (first | (with_reducible exact Ext.refl _) | (with_reducible assumption) | (with_reducible refine Ext.alloc ?_ _) | (with_reducible refine Ext.drew ?_) | (with_reducible refine Ext.drewN ?_ _) | (with_reducible refine Ext.setCell (p := _) ?_ ?ge _; case ge => (dsimp only; omega)) | (with_reducible refine Ext.trans ?_ (by with_reducible assumption))))⟩
    · cases h2 : inR h.egr 0 6
      · have HF : Hid (validHop h = false) := by unfold Hid validHop; rw [h0, h1, h2]; rfl
        have H0 := Lib.hid h0; clear h0; have H1 := Lib.hid h1; clear h1; have H2 := Lib.hid h2; clear h2
        go_enter Try.func211, Try.ntmps211
        go_wp2_with (first | (go_at_call 67; refine (impl_InRange _ _ _ _).mono ?_; rintro e w' ⟨rfl, rfl⟩; first | rw [H0.out] | rw [H1.out] | rw [H2.out]) | (go_at_call 175; refine (impl_isResidue _ _).mono ?_; rintro e w' ⟨rfl, rfl⟩; first | skip))
        go_ret
        exact ⟨ret_bool HF.out.symm, (by repeat (first | (with_reducible exact Ext.refl _) | (with_reducible assumption) | (with_reducible refine Ext.alloc ?_ _) | (with_reducible refine Ext.drew ?_) | (with_reducible refine Ext.drewN ?_ _) | (with_reducible refine Ext.setCell (p := _) ?_ ?ge _; case ge => (dsimp only; omega)) | (with_reducible refine Ext.trans ?_ (by with_reducible assumption))))⟩
      · cases h3 : h.ing != h.egr
        · have HF : Hid (validHop h = false) := by unfold Hid validHop; rw [h0, h1, h2, h3]; rfl
          have H0 := Lib.hid h0; clear h0; have H1 := Lib.hid h1; clear h1; have H2 := Lib.hid h2; clear h2
          go_enter Try.func211, Try.ntmps211
          go_wp2_with (first | (go_at_call 67; refine (impl_InRange _ _ _ _).mono ?_; rintro e w' ⟨rfl, rfl⟩; first | rw [H0.out] | rw [H1.out] | rw [H2.out]) | (go_at_call 175; refine (impl_isResidue _ _).mono ?_; rintro e w' ⟨rfl, rfl⟩; first | skip))
          go_ret
          exact ⟨ret_bool HF.out.symm, (by repeat (first | (with_reducible exact Ext.refl _) | (with_reducible assumption) | (with_reducible refine Ext.alloc ?_ _) | (with_reducible refine Ext.drew ?_) | (with_reducible refine Ext.drewN ?_ _) | (with_reducible refine Ext.setCell (p := _) ?_ ?ge _; case ge => (dsimp only; omega)) | (with_reducible refine Ext.trans ?_ (by with_reducible assumption))))⟩
        · cases h4 : inR h.exp 0 1000000
          · have HF : Hid (validHop h = false) := by unfold Hid validHop; rw [h0, h1, h2, h3, h4]; rfl
            have H0 := Lib.hid h0; clear h0; have H1 := Lib.hid h1; clear h1; have H2 := Lib.hid h2; clear h2; have H4 := Lib.hid h4; clear h4
            go_enter Try.func211, Try.ntmps211
            go_wp2_with (first | (go_at_call 67; refine (impl_InRange _ _ _ _).mono ?_; rintro e w' ⟨rfl, rfl⟩; first | rw [H0.out] | rw [H1.out] | rw [H2.out] | rw [H4.out]) | (go_at_call 175; refine (impl_isResidue _ _).mono ?_; rintro e w' ⟨rfl, rfl⟩; first | skip))
            go_ret
            exact ⟨ret_bool HF.out.symm, (by repeat (first | (with_reducible exact Ext.refl _) | (with_reducible assumption) | (with_reducible refine Ext.alloc ?_ _) | (with_reducible refine Ext.drew ?_) | (with_reducible refine Ext.drewN ?_ _) | (with_reducible refine Ext.setCell (p := _) ?_ ?ge _; case ge => (dsimp only; omega)) | (with_reducible refine Ext.trans ?_ (by with_reducible assumption))))⟩
          · cases h5 : isRes h.mac
            · have HF : Hid (validHop h = false) := by unfold Hid validHop; rw [h0, h1, h2, h3, h4, h5]; rfl
              have H0 := Lib.hid h0; clear h0; have H1 := Lib.hid h1; clear h1; have H2 := Lib.hid h2; clear h2; have H4 := Lib.hid h4; clear h4; have H5 := Lib.hid h5; clear h5
              go_enter Try.func211, Try.ntmps211
              go_wp2_with (first | (go_at_call 67; refine (impl_InRange _ _ _ _).mono ?_; rintro e w' ⟨rfl, rfl⟩; first | rw [H0.out] | rw [H1.out] | rw [H2.out] | rw [H4.out]) | (go_at_call 175; refine (impl_isResidue _ _).mono ?_; rintro e w' ⟨rfl, rfl⟩; first | rw [H5.out]))
              go_ret
              exact ⟨ret_bool HF.out.symm, (by repeat (first | (with_reducible exact Ext.refl _) | (with_reducible assumption) | (with_reducible refine Ext.alloc ?_ _) | (with_reducible refine Ext.drew ?_) | (with_reducible refine Ext.drewN ?_ _) | (with_reducible refine Ext.setCell (p := _) ?_ ?ge _; case ge => (dsimp only; omega)) | (with_reducible refine Ext.trans ?_ (by with_reducible assumption))))⟩
            · have HF : Hid (validHop h = true) := by unfold Hid validHop; rw [h0, h1, h2, h3, h4, h5]; rfl
              have H0 := Lib.hid h0; clear h0; have H1 := Lib.hid h1; clear h1; have H2 := Lib.hid h2; clear h2; have H4 := Lib.hid h4; clear h4; have H5 := Lib.hid h5; clear h5
              go_enter Try.func211, Try.ntmps211
              go_wp2_with (first | (go_at_call 67; refine (impl_InRange _ _ _ _).mono ?_; rintro e w' ⟨rfl, rfl⟩; first | rw [H0.out] | rw [H1.out] | rw [H2.out] | rw [H4.out]) | (go_at_call 175; refine (impl_isResidue _ _).mono ?_; rintro e w' ⟨rfl, rfl⟩; first | rw [H5.out]))
              go_ret
              exact ⟨ret_bool HF.out.symm, (by repeat (first | (with_reducible exact Ext.refl _) | (with_reducible assumption) | (with_reducible refine Ext.alloc ?_ _) | (with_reducible refine Ext.drew ?_) | (with_reducible refine Ext.drewN ?_ _) | (with_reducible refine Ext.setCell (p := _) ?_ ?ge _; case ge => (dsimp only; omega)) | (with_reducible refine Ext.trans ?_ (by with_reducible assumption))))⟩
set_option maxRecDepth 100000 in
set_option maxHeartbeats 1000000 in
theorem spec_ValidHop (h : DHop) (w : World) : Calls Try.prog 186 #[.agg #[I h.asn, I h.ing, I h.egr, I h.exp, I h.mac]] w fun e w' => e = .returned (.bool (validHop h)) ∧ Ext w w' := by
  cases h0 : inR h.asn 0 7
  · have HF : Hid (validHop h = false) := by unfold Hid validHop; rw [h0]; rfl
    have H0 := Lib.hid h0; clear h0
    go_enter Try.func186, Try.ntmps186
    go_wp2_with (first | (go_at_call 63; refine (spec_l1In _ _ _ _).mono ?_; rintro e w' ⟨rfl, rfl⟩; first | rw [H0.out]) | (go_at_call 164; refine (spec_l3Ok _ _).mono ?_; rintro e w' ⟨rfl, rfl⟩; first | skip))
    go_ret
    exact ⟨ret_bool HF.out.symm, (by repeat (first | (with_reducible exact Ext.refl _) | (with_reducible assumption) | (with_reducible refine Ext.alloc ?_ _) | (with_reducible refine Ext.drew ?_) | (with_reducible refine Ext.drewN ?_ _) | (with_reducible refine Ext.setCell (p := _) ?_ ?ge _; case ge => (dsimp only; omega)) | (with_reducible refine Ext.trans ?_ (by with_reducible assumption))))⟩
  · cases h1 : inR h.ing 0 6
    · have HF : Hid (validHop h = false) := by unfold Hid validHop; rw [h0, h1]; rfl
      have H0 := Lib.hid h0; clear h0; have H1 := Lib.hid h1; clear h1
      go_enter Try.func186, Try.ntmps186
      go_wp2_with (first | (go_at_call 63; refine (spec_l1In _ _ _ _).mono ?_; rintro e w' ⟨rfl, rfl⟩; first | rw [H0.out] | rw [H1.out]) | (go_at_call 164; refine (spec_l3Ok _ _).mono ?_; rintro e w' ⟨rfl, rfl⟩; first | skip))
      go_ret
      exact ⟨ret_bool HF.out.symm, (by repeat (first | (with_reducible exact Ext.refl _) | (with_reducible assumption) | (with_reducible refine Ext.alloc ?_ _) | (with_reducible refine Ext.drew ?_) | (with_reducible refine Ext.drewN ?_ _) | (with_reducible refine Ext.setCell (p := _) ?_ ?ge _; case ge => (dsimp only; omega)) | (with_reducible refine Ext.trans ?_ (by with_reducible assumption))))⟩
    · cases h2 : inR h.egr 0 6
      · have HF : Hid (validHop h = false) := by unfold Hid validHop; rw [h0, h1, h2]; rfl
        have H0 := Lib.hid h0; clear h0; have H1 := Lib.hid h1; clear h1; have H2 := Lib.hid h2; clear h2
        go_enter Try.func186, Try.ntmps186
        go_wp2_with (first | (go_at_call 63; refine (spec_l1In _ _ _ _).mono ?_; rintro e w' ⟨rfl, rfl⟩; first | rw [H0.out] | rw [H1.out] | rw [H2.out]) | (go_at_call 164; refine (spec_l3Ok _ _).mono ?_; rintro e w' ⟨rfl, rfl⟩; first | skip))
        go_ret
        exact ⟨ret_bool HF.out.symm, (by repeat (first | (with_reducible exact Ext.refl _) | (with_reducible assumption) | (with_reducible refine Ext.alloc ?_ _) | (with_reducible refine Ext.drew ?_) | (with_reducible refine Ext.drewN ?_ _) | (with_reducible refine Ext.setCell (p := _) ?_ ?ge _; case ge => (dsimp only; omega)) | (with_reducible refine Ext.trans ?_ (by with_reducible assumption))))⟩
      · cases h3 : h.ing != h.egr
        · have HF : Hid (validHop h = false) := by unfold Hid validHop; rw [h0, h1, h2, h3]; rfl
          have H0 := Lib.hid h0; clear h0; have H1 := Lib.hid h1; clear h1; have H2 := Lib.hid h2; clear h2
          go_enter Try.func186, Try.ntmps186
          go_wp2_with (first | (go_at_call 63; refine (spec_l1In _ _ _ _).mono ?_; rintro e w' ⟨rfl, rfl⟩; first | rw [H0.out] | rw [H1.out] | rw [H2.out]) | (go_at_call 164; refine (spec_l3Ok _ _).mono ?_; rintro e w' ⟨rfl, rfl⟩; first | skip))
          go_ret
          exact ⟨ret_bool HF.out.symm, (by repeat (first | (with_reducible exact Ext.refl _) | (with_reducible assumption) | (with_reducible refine Ext.alloc ?_ _) | (with_reducible refine Ext.drew ?_) | (with_reducible refine Ext.drewN ?_ _) | (with_reducible refine Ext.setCell (p := _) ?_ ?ge _; case ge => (dsimp only; omega)) | (with_reducible refine Ext.trans ?_ (by with_reducible assumption))))⟩
        · cases h4 : inR h.exp 0 1000000
          · have HF : Hid (validHop h = false) := by unfold Hid validHop; rw [h0, h1, h2, h3, h4]; rfl
            have H0 := Lib.hid h0; clear h0; have H1 := Lib.hid h1; clear h1; have H2 := Lib.hid h2; clear h2; have H4 := Lib.hid h4; clear h4
            go_enter Try.func186, Try.ntmps186
            go_wp2_with (first | (go_at_call 63; refine (spec_l1In _ _ _ _).mono ?_; rintro e w' ⟨rfl, rfl⟩; first | rw [H0.out] | rw [H1.out] | rw [H2.out] | rw [H4.out]) | (go_at_call 164; refine (spec_l3Ok _ _).mono ?_; rintro e w' ⟨rfl, rfl⟩; first | skip))
            go_ret
            exact ⟨ret_bool HF.out.symm, (by repeat (first | (with_reducible exact Ext.refl _) | (with_reducible assumption) | (with_reducible refine Ext.alloc ?_ _) | (with_reducible refine Ext.drew ?_) | (with_reducible refine Ext.drewN ?_ _) | (with_reducible refine Ext.setCell (p := _) ?_ ?ge _; case ge => (dsimp only; omega)) | (with_reducible refine Ext.trans ?_ (by with_reducible assumption))))⟩
          · cases h5 : isRes h.mac
            · have HF : Hid (validHop h = false) := by unfold Hid validHop; rw [h0, h1, h2, h3, h4, h5]; rfl
              have H0 := Lib.hid h0; clear h0; have H1 := Lib.hid h1; clear h1; have H2 := Lib.hid h2; clear h2; have H4 := Lib.hid h4; clear h4; have H5 := Lib.hid h5; clear h5
              go_enter Try.func186, Try.ntmps186
              go_wp2_with (first | (go_at_call 63; refine (spec_l1In _ _ _ _).mono ?_; rintro e w' ⟨rfl, rfl⟩; first | rw [H0.out] | rw [H1.out] | rw [H2.out] | rw [H4.out]) | (go_at_call 164; refine (spec_l3Ok _ _).mono ?_; rintro e w' ⟨rfl, rfl⟩; first | rw [H5.out]))
              go_ret
              exact ⟨ret_bool HF.out.symm, (by repeat (first | (with_reducible exact Ext.refl _) | (with_reducible assumption) | (with_reducible refine Ext.alloc ?_ _) | (with_reducible refine Ext.drew ?_) | (with_reducible refine Ext.drewN ?_ _) | (with_reducible refine Ext.setCell (p := _) ?_ ?ge _; case ge => (dsimp only; omega)) | (with_reducible refine Ext.trans ?_ (by with_reducible assumption))))⟩
            · have HF : Hid (validHop h = true) := by unfold Hid validHop; rw [h0, h1, h2, h3, h4, h5]; rfl
              have H0 := Lib.hid h0; clear h0; have H1 := Lib.hid h1; clear h1; have H2 := Lib.hid h2; clear h2; have H4 := Lib.hid h4; clear h4; have H5 := Lib.hid h5; clear h5
              go_enter Try.func186, Try.ntmps186
              go_wp2_with (first | (go_at_call 63; refine (spec_l1In _ _ _ _).mono ?_; rintro e w' ⟨rfl, rfl⟩; first | rw [H0.out] | rw [H1.out] | rw [H2.out] | rw [H4.out]) | (go_at_call 164; refine (spec_l3Ok _ _).mono ?_; rintro e w' ⟨rfl, rfl⟩; first | rw [H5.out]))
              go_ret
              exact ⟨ret_bool HF.out.symm, (by repeat (first | (with_reducible exact Ext.refl _) | (with_reducible assumption) | (with_reducible refine Ext.alloc ?_ _) | (with_reducible refine Ext.drew ?_) | (with_reducible refine Ext.drewN ?_ _) | (with_reducible refine Ext.setCell (p := _) ?_ ?ge _; case ge => (dsimp only; omega)) | (with_reducible refine Ext.trans ?_ (by with_reducible assumption))))⟩
set_option maxRecDepth 100000 in
set_option maxHeartbeats 1000000 in
theorem impl_HopMAC (key ts beta : Int) (h : DHop) (w : World) : Calls Try.prog 209 #[I key, I ts, I beta, .agg #[I h.asn, I h.ing, I h.egr, I h.exp, I h.mac]] w fun e w' => e = .returned (I (hopMac key ts beta h)) ∧ Ext w w' := by
  go_enter Try.func209, Try.ntmps209
  go_wp2_with fail
  refine (impl_ComputeMAC _ _ [ts, beta, h.asn, h.ing, h.egr, h.exp] _ (by exact Own.ints (E := 3) (n := 6) (lo := 0) (own_newN _ _ _ _ _ _ _ (by simp) (by simp) (by unfold maxLen; omega) (Nat.zero_le _))) (by simp)).mono ?_
  rintro e w1 ⟨rfl, e1⟩
  go_wp2_with fail
  go_ret
  exact ⟨rfl, (by repeat (first | (with_reducible exact Ext.refl _) | (with_reducible assumption) | (with_reducible refine Ext.alloc ?_ _) | (with_reducible refine Ext.drew ?_) | (with_reducible refine Ext.drewN ?_ _) | (with_reducible refine Ext.setCell (p := _) ?_ ?ge _; case ge => (dsimp only; omega)) | (with_reducible refine Ext.trans ?_ (by with_reducible assumption))))⟩
set_option maxRecDepth 100000 in
set_option maxHeartbeats 1000000 in
theorem spec_HopMAC (key ts beta : Int) (h : DHop) (w : World) : Calls Try.prog 194 #[I key, I ts, I beta, .agg #[I h.asn, I h.ing, I h.egr, I h.exp, I h.mac]] w fun e w' => e = .returned (I (hopMac key ts beta h)) ∧ Ext w w' := by
  go_enter Try.func194, Try.ntmps194
  go_wp2_with fail
  refine (spec_ComputeMAC _ _ [ts, beta, h.asn, h.ing, h.egr, h.exp] _ (by exact Own.ints (E := 3) (n := 6) (lo := 0) (own_newN _ _ _ _ _ _ _ (by simp) (by simp) (by unfold maxLen; omega) (Nat.zero_le _))) (by simp)).mono ?_
  rintro e w1 ⟨rfl, e1⟩
  go_wp2_with fail
  go_ret
  exact ⟨rfl, (by repeat (first | (with_reducible exact Ext.refl _) | (with_reducible assumption) | (with_reducible refine Ext.alloc ?_ _) | (with_reducible refine Ext.drew ?_) | (with_reducible refine Ext.drewN ?_ _) | (with_reducible refine Ext.setCell (p := _) ?_ ?ge _; case ge => (dsimp only; omega)) | (with_reducible refine Ext.trans ?_ (by with_reducible assumption))))⟩
set_option maxRecDepth 100000 in
set_option maxHeartbeats 1000000 in
theorem impl_VerifyHop (vt : Value) (ts beta : Int) (h : DHop) (t : DTopology) (w : World) (ht : TopologyV w.heap.size w vt t) :
    Calls Try.prog 210 #[vt, I ts, I beta, .agg #[I h.asn, I h.ing, I h.egr, I h.exp, I h.mac]] w fun e w' => e = .returned (.bool (verifyHop t ts beta h)) ∧ Ext w w' := by
  obtain ⟨At_0, nt_0, ct_0, At_1, nt_1, ct_1, rfl, st_0, st_1⟩ := id ht
  obtain ⟨lt_0, kt_0, mt_0⟩ := st_0.len
  subst lt_0
  unfold maxLen at mt_0
  obtain ⟨lt_1, kt_1, mt_1⟩ := st_1.len
  subst lt_1
  unfold maxLen at mt_1
  have Rt := Lib.hid ht; clear ht
  have St_0 := Lib.hid st_0; clear st_0
  have St_1 := Lib.hid st_1; clear st_1
  go_enter Try.func210, Try.ntmps210
  go_wp2_with fail
  first | refine name_wp (fun W => Ext w W ∧ Blk W (w.heap.size) 73 [.slice At_0 t.ases.length ct_0, .slice At_1 t.links.length ct_1] ∧ Blk W (w.heap.size + 1) 117 [I h.asn, I h.ing, I h.egr, I h.exp, I h.mac]) ⟨(by repeat (first | (with_reducible exact Ext.refl _) | (with_reducible assumption) | (with_reducible refine Ext.alloc ?_ _) | (with_reducible refine Ext.drew ?_) | (with_reducible refine Ext.drewN ?_ _) | (with_reducible refine Ext.setCell (p := _) ?_ ?ge _; case ge => (dsimp only; omega)) | (with_reducible refine Ext.trans ?_ (by with_reducible assumption)))), (by repeat (first | (with_reducible exact Blk.new _ _ _) | ((with_reducible refine Blk.new' _ _ _ _ ?_) <;> (simp; done)) | (with_reducible refine Blk.alloc ?_ _) | (with_reducible refine Blk.drew ?_))), (by repeat (first | (with_reducible exact Blk.new _ _ _) | ((with_reducible refine Blk.new' _ _ _ _ ?_) <;> (simp; done)) | (with_reducible refine Blk.alloc ?_ _) | (with_reducible refine Blk.drew ?_)))⟩ ?_ | refine name_calls (fun W => Ext w W ∧ Blk W (w.heap.size) 73 [.slice At_0 t.ases.length ct_0, .slice At_1 t.links.length ct_1] ∧ Blk W (w.heap.size + 1) 117 [I h.asn, I h.ing, I h.egr, I h.exp, I h.mac]) ⟨(by repeat (first | (with_reducible exact Ext.refl _) | (with_reducible assumption) | (with_reducible refine Ext.alloc ?_ _) | (with_reducible refine Ext.drew ?_) | (with_reducible refine Ext.drewN ?_ _) | (with_reducible refine Ext.setCell (p := _) ?_ ?ge _; case ge => (dsimp only; omega)) | (with_reducible refine Ext.trans ?_ (by with_reducible assumption)))), (by repeat (first | (with_reducible exact Blk.new _ _ _) | ((with_reducible refine Blk.new' _ _ _ _ ?_) <;> (simp; done)) | (with_reducible refine Blk.alloc ?_ _) | (with_reducible refine Blk.drew ?_))), (by repeat (first | (with_reducible exact Blk.new _ _ _) | ((with_reducible refine Blk.new' _ _ _ _ ?_) <;> (simp; done)) | (with_reducible refine Blk.alloc ?_ _) | (with_reducible refine Blk.drew ?_)))⟩ ?_
  rintro w0 ⟨ew0, bt, bh⟩
  have lt := bt.lt
  obtain ⟨pt_0, pt_1⟩ := blk2 bt
  have Bt := Lib.hid bt; clear bt
  have lh := bh.lt
  obtain ⟨ph_0, ph_1, ph_2, ph_3, ph_4⟩ := blk5 bh
  have Bh := Lib.hid bh; clear bh
  cases hva : isAs t h.asn
  · skip
    refine wp_region_L (E := Ext) (w0 := w0) (G := fun τ => match τ with | 10 => some (fun v _ => v = .bool (validHop h)) | 15 => some (fun v _ => v = .bool (false)) | _ => none) Ext.refl (fun h k => Ext.trans h k) (by kernel_rfl) (by kernel_rfl) (by
        intro t φ hG
        split at hG
        all_goals first | (cases hG; done) | (cases Option.some.inj hG; intro v W W' hE hv; first | exact hv | exact IntS.ext hv hE | exact hv.ext hE | exact Own.up hv hE | exact hv.up hE | exact NO.up (by first | exact SegmentOC.keeps | exact TrustRootOC.keeps | exact BeaconOC.keeps | exact BeaconMessageOC.keeps | exact BeaconStoreOC.keeps) hv hE (Nat.le_refl _) | exact ObjUp.up hv hE)) (Ext.drew (by exact Ext.refl _)) ?_
    repeat' (first
      | ((with_reducible refine wpL_skip ?_ ?_ ?_)
         · rfl
         · rfl
         simp only [Act.put, List.setIfInBounds_toArray, List.set_cons_zero, List.set_cons_succ])
      | ((with_reducible refine wpL_quiet ?_ ?_ ?_ ?_)
         · rfl
         · rfl
         · rfl
         apply Exists.intro
         refine ⟨fun W hW hS => ?_, ?_⟩
         · have hC := (Ext.facts hW).1
           go_simp
           first | done | (with_reducible rfl) | rfl
         first | (with_reducible refine wpL_boolT ?_) | (with_reducible refine wpL_boolF ?_) | (with_reducible refine wpL_bool (fun hB => ?_) (fun hB => ?_)) | skip
         all_goals simp only [Act.put, List.setIfInBounds_toArray, List.set_cons_zero, List.set_cons_succ])
      | ((refine wpL_call ?_ rfl rfl ?_ ?_ ?_)
         · rfl
         · rfl
         · intro W hW hS
           have hC := (Ext.facts hW).1
           unfold growAt
           go_simp
           simp only [growUpon]
           first | (go_at_call 211; ((with_reducible refine Calls.mono (impl_ValidHop (h) _) ?_)); rintro e w9 ⟨rfl, e9⟩; exact ⟨_, rfl, e9, by first | rfl | (simp only [*])⟩) | (go_at_call 142; ((with_reducible refine Calls.mono (impl_isAS _ _ (t) _ (by exact Rt.out.ext (by repeat (first | (with_reducible exact Ext.refl _) | (with_reducible assumption) | (with_reducible refine Ext.alloc ?_ _) | (with_reducible refine Ext.drew ?_) | (with_reducible refine Ext.drewN ?_ _) | (with_reducible refine Ext.setCell (p := _) ?_ ?ge _; case ge => (dsimp only; omega)) | (with_reducible refine Ext.trans ?_ (by with_reducible assumption)))))) ?_)); rintro e w9 ⟨rfl, e9⟩; exact ⟨_, rfl, e9, by first | rfl | (simp only [*])⟩)
         first | (with_reducible refine wpL_boolT ?_) | (with_reducible refine wpL_boolF ?_) | (with_reducible refine wpL_bool (fun hB => ?_) (fun hB => ?_)) | skip
         all_goals simp only [Act.put, List.setIfInBounds_toArray, List.set_cons_zero, List.set_cons_succ])
      | ((refine wpL_grow ?_ rfl rfl ?_ ?_)
         · rfl
         · intro W hW hS
           have hC := (Ext.facts hW).1
           unfold growAt
           go_simp
           simp only [growUpon]
           first | (go_at_call 211; ((with_reducible refine Calls.mono (impl_ValidHop (h) _) ?_)); rintro e w9 ⟨rfl, e9⟩; exact ⟨_, rfl, e9, by first | rfl | (simp only [*])⟩) | (go_at_call 142; ((with_reducible refine Calls.mono (impl_isAS _ _ (t) _ (by exact Rt.out.ext (by repeat (first | (with_reducible exact Ext.refl _) | (with_reducible assumption) | (with_reducible refine Ext.alloc ?_ _) | (with_reducible refine Ext.drew ?_) | (with_reducible refine Ext.drewN ?_ _) | (with_reducible refine Ext.setCell (p := _) ?_ ?ge _; case ge => (dsimp only; omega)) | (with_reducible refine Ext.trans ?_ (by with_reducible assumption)))))) ?_)); rintro e w9 ⟨rfl, e9⟩; exact ⟨_, rfl, e9, by first | rfl | (simp only [*])⟩)
         intro v W' hW' hv
         first  | (obtain ⟨A5, n5, c5, rfl, -⟩ := id hv; clear hv) | (obtain ⟨A5, n5, c5, rfl⟩ := NO.slice hv) | skip
         all_goals simp only [Act.put, List.setIfInBounds_toArray, List.set_cons_zero, List.set_cons_succ]))
    all_goals (refine wpL_nil (fun w1 e1 hL => ?_); clear hL)
    all_goals (go_wp2_with fail; go_ret; exact ⟨ret_bool (by simp [verifyHop, *]), (by repeat (first | (with_reducible exact Ext.refl _) | (with_reducible assumption) | (with_reducible refine Ext.alloc ?_ _) | (with_reducible refine Ext.drew ?_) | (with_reducible refine Ext.drewN ?_ _) | (with_reducible refine Ext.setCell (p := _) ?_ ?ge _; case ge => (dsimp only; omega)) | (with_reducible refine Ext.trans ?_ (by with_reducible assumption))))⟩)
  · obtain ⟨m, hxm, hm⟩ := isAs_nat hva
    have i2 : (0 : Int) ≤ h.asn := by omega
    have i3 : h.asn < (t.ases.length : Int) := by omega
    obtain rfl : m = h.asn.toNat := by omega
    clear hxm
    obtain ⟨b2, off2, rfl, hb2, hkl2, hc2⟩ := (St_0.out.ext (w' := w0) (by repeat (first | (with_reducible exact Ext.refl _) | (with_reducible assumption) | (with_reducible refine Ext.alloc ?_ _) | (with_reducible refine Ext.drew ?_) | (with_reducible refine Ext.drewN ?_ _) | (with_reducible refine Ext.setCell (p := _) ?_ ?ge _; case ge => (dsimp only; omega)) | (with_reducible refine Ext.trans ?_ (by with_reducible assumption))))).at_ hm
    have HF : Hid (verifyHop t ts beta h = (validHop h && h.mac == hopMac t.ases[h.asn.toNat].key ts beta h)) := by unfold Hid verifyHop asAt; rw [hva, List.getD_eq_getElem?_getD, List.getElem?_eq_getElem hm]; simp
    generalize t.ases[h.asn.toNat] = y at *
    obtain ⟨y0, y1, y2⟩ := hc2
    refine wp_region_L (E := Ext) (w0 := w0) (G := fun τ => match τ with | 10 => some (fun v _ => v = .bool (validHop h)) | 15 => some (fun v _ => v = .bool (true)) | 30 => some (fun v _ => v = I (hopMac y.key ts beta h)) | _ => none) Ext.refl (fun h k => Ext.trans h k) (by kernel_rfl) (by kernel_rfl) (by
        intro t φ hG
        split at hG
        all_goals first | (cases hG; done) | (cases Option.some.inj hG; intro v W W' hE hv; first | exact hv | exact IntS.ext hv hE | exact hv.ext hE | exact Own.up hv hE | exact hv.up hE | exact NO.up (by first | exact SegmentOC.keeps | exact TrustRootOC.keeps | exact BeaconOC.keeps | exact BeaconMessageOC.keeps | exact BeaconStoreOC.keeps) hv hE (Nat.le_refl _) | exact ObjUp.up hv hE)) (Ext.drew (by exact Ext.refl _)) ?_
    repeat' (first
      | ((with_reducible refine wpL_skip ?_ ?_ ?_)
         · rfl
         · rfl
         simp only [Act.put, List.setIfInBounds_toArray, List.set_cons_zero, List.set_cons_succ])
      | ((with_reducible refine wpL_quiet ?_ ?_ ?_ ?_)
         · rfl
         · rfl
         · rfl
         apply Exists.intro
         refine ⟨fun W hW hS => ?_, ?_⟩
         · have hC := (Ext.facts hW).1
           go_simp
           first | done | (with_reducible rfl) | rfl
         first | (with_reducible refine wpL_boolT ?_) | (with_reducible refine wpL_boolF ?_) | (with_reducible refine wpL_bool (fun hB => ?_) (fun hB => ?_)) | skip
         all_goals simp only [Act.put, List.setIfInBounds_toArray, List.set_cons_zero, List.set_cons_succ])
      | ((refine wpL_call ?_ rfl rfl ?_ ?_ ?_)
         · rfl
         · rfl
         · intro W hW hS
           have hC := (Ext.facts hW).1
           unfold growAt
           go_simp
           simp only [growUpon]
           first | (go_at_call 211; ((with_reducible refine Calls.mono (impl_ValidHop (h) _) ?_)); rintro e w9 ⟨rfl, e9⟩; exact ⟨_, rfl, e9, by first | rfl | (simp only [*])⟩) | (go_at_call 142; ((with_reducible refine Calls.mono (impl_isAS _ _ (t) _ (by exact Rt.out.ext (by repeat (first | (with_reducible exact Ext.refl _) | (with_reducible assumption) | (with_reducible refine Ext.alloc ?_ _) | (with_reducible refine Ext.drew ?_) | (with_reducible refine Ext.drewN ?_ _) | (with_reducible refine Ext.setCell (p := _) ?_ ?ge _; case ge => (dsimp only; omega)) | (with_reducible refine Ext.trans ?_ (by with_reducible assumption)))))) ?_)); rintro e w9 ⟨rfl, e9⟩; exact ⟨_, rfl, e9, by first | rfl | (simp only [*])⟩) | (go_at_call 209; ((with_reducible refine Calls.mono (impl_HopMAC _ _ _ (h) _) ?_)); rintro e w9 ⟨rfl, e9⟩; exact ⟨_, rfl, e9, by first | rfl | (simp only [*])⟩)
         first | (with_reducible refine wpL_boolT ?_) | (with_reducible refine wpL_boolF ?_) | (with_reducible refine wpL_bool (fun hB => ?_) (fun hB => ?_)) | skip
         all_goals simp only [Act.put, List.setIfInBounds_toArray, List.set_cons_zero, List.set_cons_succ])
      | ((refine wpL_grow ?_ rfl rfl ?_ ?_)
         · rfl
         · intro W hW hS
           have hC := (Ext.facts hW).1
           unfold growAt
           go_simp
           simp only [growUpon]
           first | (go_at_call 211; ((with_reducible refine Calls.mono (impl_ValidHop (h) _) ?_)); rintro e w9 ⟨rfl, e9⟩; exact ⟨_, rfl, e9, by first | rfl | (simp only [*])⟩) | (go_at_call 142; ((with_reducible refine Calls.mono (impl_isAS _ _ (t) _ (by exact Rt.out.ext (by repeat (first | (with_reducible exact Ext.refl _) | (with_reducible assumption) | (with_reducible refine Ext.alloc ?_ _) | (with_reducible refine Ext.drew ?_) | (with_reducible refine Ext.drewN ?_ _) | (with_reducible refine Ext.setCell (p := _) ?_ ?ge _; case ge => (dsimp only; omega)) | (with_reducible refine Ext.trans ?_ (by with_reducible assumption)))))) ?_)); rintro e w9 ⟨rfl, e9⟩; exact ⟨_, rfl, e9, by first | rfl | (simp only [*])⟩) | (go_at_call 209; ((with_reducible refine Calls.mono (impl_HopMAC _ _ _ (h) _) ?_)); rintro e w9 ⟨rfl, e9⟩; exact ⟨_, rfl, e9, by first | rfl | (simp only [*])⟩)
         intro v W' hW' hv
         first  | (obtain ⟨A5, n5, c5, rfl, -⟩ := id hv; clear hv) | (obtain ⟨A5, n5, c5, rfl⟩ := NO.slice hv) | skip
         all_goals simp only [Act.put, List.setIfInBounds_toArray, List.set_cons_zero, List.set_cons_succ]))
    all_goals (refine wpL_nil (fun w1 e1 hL => ?_); clear hL)
    all_goals (go_wp2_with fail; go_ret; exact ⟨ret_bool (by rw [HF.out]; simp [*]), (by repeat (first | (with_reducible exact Ext.refl _) | (with_reducible assumption) | (with_reducible refine Ext.alloc ?_ _) | (with_reducible refine Ext.drew ?_) | (with_reducible refine Ext.drewN ?_ _) | (with_reducible refine Ext.setCell (p := _) ?_ ?ge _; case ge => (dsimp only; omega)) | (with_reducible refine Ext.trans ?_ (by with_reducible assumption))))⟩)
set_option maxRecDepth 100000 in
set_option maxHeartbeats 1000000 in
theorem spec_VerifyHop (vt : Value) (ts beta : Int) (h : DHop) (t : DTopology) (w : World) (ht : TopologyV w.heap.size w vt t) :
    Calls Try.prog 203 #[vt, I ts, I beta, .agg #[I h.asn, I h.ing, I h.egr, I h.exp, I h.mac]] w fun e w' => e = .returned (.bool (verifyHop t ts beta h)) ∧ Ext w w' := by
  obtain ⟨At_0, nt_0, ct_0, At_1, nt_1, ct_1, rfl, st_0, st_1⟩ := id ht
  obtain ⟨lt_0, kt_0, mt_0⟩ := st_0.len
  subst lt_0
  unfold maxLen at mt_0
  obtain ⟨lt_1, kt_1, mt_1⟩ := st_1.len
  subst lt_1
  unfold maxLen at mt_1
  have Rt := Lib.hid ht; clear ht
  have St_0 := Lib.hid st_0; clear st_0
  have St_1 := Lib.hid st_1; clear st_1
  go_enter Try.func203, Try.ntmps203
  go_wp2_with fail
  first | refine name_wp (fun W => Ext w W ∧ Blk W (w.heap.size) 73 [.slice At_0 t.ases.length ct_0, .slice At_1 t.links.length ct_1] ∧ Blk W (w.heap.size + 1) 117 [I h.asn, I h.ing, I h.egr, I h.exp, I h.mac]) ⟨(by repeat (first | (with_reducible exact Ext.refl _) | (with_reducible assumption) | (with_reducible refine Ext.alloc ?_ _) | (with_reducible refine Ext.drew ?_) | (with_reducible refine Ext.drewN ?_ _) | (with_reducible refine Ext.setCell (p := _) ?_ ?ge _; case ge => (dsimp only; omega)) | (with_reducible refine Ext.trans ?_ (by with_reducible assumption)))), (by repeat (first | (with_reducible exact Blk.new _ _ _) | ((with_reducible refine Blk.new' _ _ _ _ ?_) <;> (simp; done)) | (with_reducible refine Blk.alloc ?_ _) | (with_reducible refine Blk.drew ?_))), (by repeat (first | (with_reducible exact Blk.new _ _ _) | ((with_reducible refine Blk.new' _ _ _ _ ?_) <;> (simp; done)) | (with_reducible refine Blk.alloc ?_ _) | (with_reducible refine Blk.drew ?_)))⟩ ?_ | refine name_calls (fun W => Ext w W ∧ Blk W (w.heap.size) 73 [.slice At_0 t.ases.length ct_0, .slice At_1 t.links.length ct_1] ∧ Blk W (w.heap.size + 1) 117 [I h.asn, I h.ing, I h.egr, I h.exp, I h.mac]) ⟨(by repeat (first | (with_reducible exact Ext.refl _) | (with_reducible assumption) | (with_reducible refine Ext.alloc ?_ _) | (with_reducible refine Ext.drew ?_) | (with_reducible refine Ext.drewN ?_ _) | (with_reducible refine Ext.setCell (p := _) ?_ ?ge _; case ge => (dsimp only; omega)) | (with_reducible refine Ext.trans ?_ (by with_reducible assumption)))), (by repeat (first | (with_reducible exact Blk.new _ _ _) | ((with_reducible refine Blk.new' _ _ _ _ ?_) <;> (simp; done)) | (with_reducible refine Blk.alloc ?_ _) | (with_reducible refine Blk.drew ?_))), (by repeat (first | (with_reducible exact Blk.new _ _ _) | ((with_reducible refine Blk.new' _ _ _ _ ?_) <;> (simp; done)) | (with_reducible refine Blk.alloc ?_ _) | (with_reducible refine Blk.drew ?_)))⟩ ?_
  rintro w0 ⟨ew0, bt, bh⟩
  have lt := bt.lt
  obtain ⟨pt_0, pt_1⟩ := blk2 bt
  have Bt := Lib.hid bt; clear bt
  have lh := bh.lt
  obtain ⟨ph_0, ph_1, ph_2, ph_3, ph_4⟩ := blk5 bh
  have Bh := Lib.hid bh; clear bh
  cases hva : isAs t h.asn
  · skip
    refine wp_region_L (E := Ext) (w0 := w0) (G := fun τ => match τ with | 10 => some (fun v _ => v = .bool (validHop h)) | 15 => some (fun v _ => v = .bool (false)) | _ => none) Ext.refl (fun h k => Ext.trans h k) (by kernel_rfl) (by kernel_rfl) (by
        intro t φ hG
        split at hG
        all_goals first | (cases hG; done) | (cases Option.some.inj hG; intro v W W' hE hv; first | exact hv | exact IntS.ext hv hE | exact hv.ext hE | exact Own.up hv hE | exact hv.up hE | exact NO.up (by first | exact SegmentOC.keeps | exact TrustRootOC.keeps | exact BeaconOC.keeps | exact BeaconMessageOC.keeps | exact BeaconStoreOC.keeps) hv hE (Nat.le_refl _) | exact ObjUp.up hv hE)) (Ext.drew (by exact Ext.refl _)) ?_
    repeat' (first
      | ((with_reducible refine wpL_skip ?_ ?_ ?_)
         · rfl
         · rfl
         simp only [Act.put, List.setIfInBounds_toArray, List.set_cons_zero, List.set_cons_succ])
      | ((with_reducible refine wpL_quiet ?_ ?_ ?_ ?_)
         · rfl
         · rfl
         · rfl
         apply Exists.intro
         refine ⟨fun W hW hS => ?_, ?_⟩
         · have hC := (Ext.facts hW).1
           go_simp
           first | done | (with_reducible rfl) | rfl
         first | (with_reducible refine wpL_boolT ?_) | (with_reducible refine wpL_boolF ?_) | (with_reducible refine wpL_bool (fun hB => ?_) (fun hB => ?_)) | skip
         all_goals simp only [Act.put, List.setIfInBounds_toArray, List.set_cons_zero, List.set_cons_succ])
      | ((refine wpL_call ?_ rfl rfl ?_ ?_ ?_)
         · rfl
         · rfl
         · intro W hW hS
           have hC := (Ext.facts hW).1
           unfold growAt
           go_simp
           simp only [growUpon]
           first | (go_at_call 186; ((with_reducible refine Calls.mono (spec_ValidHop (h) _) ?_)); rintro e w9 ⟨rfl, e9⟩; exact ⟨_, rfl, e9, by first | rfl | (simp only [*])⟩) | (go_at_call 139; ((with_reducible refine Calls.mono (spec_l5Realm _ _ (t) _ (by exact Rt.out.ext (by repeat (first | (with_reducible exact Ext.refl _) | (with_reducible assumption) | (with_reducible refine Ext.alloc ?_ _) | (with_reducible refine Ext.drew ?_) | (with_reducible refine Ext.drewN ?_ _) | (with_reducible refine Ext.setCell (p := _) ?_ ?ge _; case ge => (dsimp only; omega)) | (with_reducible refine Ext.trans ?_ (by with_reducible assumption)))))) ?_)); rintro e w9 ⟨rfl, e9⟩; exact ⟨_, rfl, e9, by first | rfl | (simp only [*])⟩)
         first | (with_reducible refine wpL_boolT ?_) | (with_reducible refine wpL_boolF ?_) | (with_reducible refine wpL_bool (fun hB => ?_) (fun hB => ?_)) | skip
         all_goals simp only [Act.put, List.setIfInBounds_toArray, List.set_cons_zero, List.set_cons_succ])
      | ((refine wpL_grow ?_ rfl rfl ?_ ?_)
         · rfl
         · intro W hW hS
           have hC := (Ext.facts hW).1
           unfold growAt
           go_simp
           simp only [growUpon]
           first | (go_at_call 186; ((with_reducible refine Calls.mono (spec_ValidHop (h) _) ?_)); rintro e w9 ⟨rfl, e9⟩; exact ⟨_, rfl, e9, by first | rfl | (simp only [*])⟩) | (go_at_call 139; ((with_reducible refine Calls.mono (spec_l5Realm _ _ (t) _ (by exact Rt.out.ext (by repeat (first | (with_reducible exact Ext.refl _) | (with_reducible assumption) | (with_reducible refine Ext.alloc ?_ _) | (with_reducible refine Ext.drew ?_) | (with_reducible refine Ext.drewN ?_ _) | (with_reducible refine Ext.setCell (p := _) ?_ ?ge _; case ge => (dsimp only; omega)) | (with_reducible refine Ext.trans ?_ (by with_reducible assumption)))))) ?_)); rintro e w9 ⟨rfl, e9⟩; exact ⟨_, rfl, e9, by first | rfl | (simp only [*])⟩)
         intro v W' hW' hv
         first  | (obtain ⟨A5, n5, c5, rfl, -⟩ := id hv; clear hv) | (obtain ⟨A5, n5, c5, rfl⟩ := NO.slice hv) | skip
         all_goals simp only [Act.put, List.setIfInBounds_toArray, List.set_cons_zero, List.set_cons_succ]))
    all_goals (refine wpL_nil (fun w1 e1 hL => ?_); clear hL)
    all_goals (go_wp2_with fail; go_ret; exact ⟨ret_bool (by simp [verifyHop, *]), (by repeat (first | (with_reducible exact Ext.refl _) | (with_reducible assumption) | (with_reducible refine Ext.alloc ?_ _) | (with_reducible refine Ext.drew ?_) | (with_reducible refine Ext.drewN ?_ _) | (with_reducible refine Ext.setCell (p := _) ?_ ?ge _; case ge => (dsimp only; omega)) | (with_reducible refine Ext.trans ?_ (by with_reducible assumption))))⟩)
  · obtain ⟨m, hxm, hm⟩ := isAs_nat hva
    have i2 : (0 : Int) ≤ h.asn := by omega
    have i3 : h.asn < (t.ases.length : Int) := by omega
    obtain rfl : m = h.asn.toNat := by omega
    clear hxm
    obtain ⟨b2, off2, rfl, hb2, hkl2, hc2⟩ := (St_0.out.ext (w' := w0) (by repeat (first | (with_reducible exact Ext.refl _) | (with_reducible assumption) | (with_reducible refine Ext.alloc ?_ _) | (with_reducible refine Ext.drew ?_) | (with_reducible refine Ext.drewN ?_ _) | (with_reducible refine Ext.setCell (p := _) ?_ ?ge _; case ge => (dsimp only; omega)) | (with_reducible refine Ext.trans ?_ (by with_reducible assumption))))).at_ hm
    have HF : Hid (verifyHop t ts beta h = (validHop h && h.mac == hopMac t.ases[h.asn.toNat].key ts beta h)) := by unfold Hid verifyHop asAt; rw [hva, List.getD_eq_getElem?_getD, List.getElem?_eq_getElem hm]; simp
    generalize t.ases[h.asn.toNat] = y at *
    obtain ⟨y0, y1, y2⟩ := hc2
    refine wp_region_L (E := Ext) (w0 := w0) (G := fun τ => match τ with | 10 => some (fun v _ => v = .bool (validHop h)) | 15 => some (fun v _ => v = .bool (true)) | 30 => some (fun v _ => v = I (hopMac y.key ts beta h)) | _ => none) Ext.refl (fun h k => Ext.trans h k) (by kernel_rfl) (by kernel_rfl) (by
        intro t φ hG
        split at hG
        all_goals first | (cases hG; done) | (cases Option.some.inj hG; intro v W W' hE hv; first | exact hv | exact IntS.ext hv hE | exact hv.ext hE | exact Own.up hv hE | exact hv.up hE | exact NO.up (by first | exact SegmentOC.keeps | exact TrustRootOC.keeps | exact BeaconOC.keeps | exact BeaconMessageOC.keeps | exact BeaconStoreOC.keeps) hv hE (Nat.le_refl _) | exact ObjUp.up hv hE)) (Ext.drew (by exact Ext.refl _)) ?_
    repeat' (first
      | ((with_reducible refine wpL_skip ?_ ?_ ?_)
         · rfl
         · rfl
         simp only [Act.put, List.setIfInBounds_toArray, List.set_cons_zero, List.set_cons_succ])
      | ((with_reducible refine wpL_quiet ?_ ?_ ?_ ?_)
         · rfl
         · rfl
         · rfl
         apply Exists.intro
         refine ⟨fun W hW hS => ?_, ?_⟩
         · have hC := (Ext.facts hW).1
           go_simp
           first | done | (with_reducible rfl) | rfl
         first | (with_reducible refine wpL_boolT ?_) | (with_reducible refine wpL_boolF ?_) | (with_reducible refine wpL_bool (fun hB => ?_) (fun hB => ?_)) | skip
         all_goals simp only [Act.put, List.setIfInBounds_toArray, List.set_cons_zero, List.set_cons_succ])
      | ((refine wpL_call ?_ rfl rfl ?_ ?_ ?_)
         · rfl
         · rfl
         · intro W hW hS
           have hC := (Ext.facts hW).1
           unfold growAt
           go_simp
           simp only [growUpon]
           first | (go_at_call 186; ((with_reducible refine Calls.mono (spec_ValidHop (h) _) ?_)); rintro e w9 ⟨rfl, e9⟩; exact ⟨_, rfl, e9, by first | rfl | (simp only [*])⟩) | (go_at_call 139; ((with_reducible refine Calls.mono (spec_l5Realm _ _ (t) _ (by exact Rt.out.ext (by repeat (first | (with_reducible exact Ext.refl _) | (with_reducible assumption) | (with_reducible refine Ext.alloc ?_ _) | (with_reducible refine Ext.drew ?_) | (with_reducible refine Ext.drewN ?_ _) | (with_reducible refine Ext.setCell (p := _) ?_ ?ge _; case ge => (dsimp only; omega)) | (with_reducible refine Ext.trans ?_ (by with_reducible assumption)))))) ?_)); rintro e w9 ⟨rfl, e9⟩; exact ⟨_, rfl, e9, by first | rfl | (simp only [*])⟩) | (go_at_call 194; ((with_reducible refine Calls.mono (spec_HopMAC _ _ _ (h) _) ?_)); rintro e w9 ⟨rfl, e9⟩; exact ⟨_, rfl, e9, by first | rfl | (simp only [*])⟩)
         first | (with_reducible refine wpL_boolT ?_) | (with_reducible refine wpL_boolF ?_) | (with_reducible refine wpL_bool (fun hB => ?_) (fun hB => ?_)) | skip
         all_goals simp only [Act.put, List.setIfInBounds_toArray, List.set_cons_zero, List.set_cons_succ])
      | ((refine wpL_grow ?_ rfl rfl ?_ ?_)
         · rfl
         · intro W hW hS
           have hC := (Ext.facts hW).1
           unfold growAt
           go_simp
           simp only [growUpon]
           first | (go_at_call 186; ((with_reducible refine Calls.mono (spec_ValidHop (h) _) ?_)); rintro e w9 ⟨rfl, e9⟩; exact ⟨_, rfl, e9, by first | rfl | (simp only [*])⟩) | (go_at_call 139; ((with_reducible refine Calls.mono (spec_l5Realm _ _ (t) _ (by exact Rt.out.ext (by repeat (first | (with_reducible exact Ext.refl _) | (with_reducible assumption) | (with_reducible refine Ext.alloc ?_ _) | (with_reducible refine Ext.drew ?_) | (with_reducible refine Ext.drewN ?_ _) | (with_reducible refine Ext.setCell (p := _) ?_ ?ge _; case ge => (dsimp only; omega)) | (with_reducible refine Ext.trans ?_ (by with_reducible assumption)))))) ?_)); rintro e w9 ⟨rfl, e9⟩; exact ⟨_, rfl, e9, by first | rfl | (simp only [*])⟩) | (go_at_call 194; ((with_reducible refine Calls.mono (spec_HopMAC _ _ _ (h) _) ?_)); rintro e w9 ⟨rfl, e9⟩; exact ⟨_, rfl, e9, by first | rfl | (simp only [*])⟩)
         intro v W' hW' hv
         first  | (obtain ⟨A5, n5, c5, rfl, -⟩ := id hv; clear hv) | (obtain ⟨A5, n5, c5, rfl⟩ := NO.slice hv) | skip
         all_goals simp only [Act.put, List.setIfInBounds_toArray, List.set_cons_zero, List.set_cons_succ]))
    all_goals (refine wpL_nil (fun w1 e1 hL => ?_); clear hL)
    all_goals (go_wp2_with fail; go_ret; exact ⟨ret_bool (by rw [HF.out]; simp [*]), (by repeat (first | (with_reducible exact Ext.refl _) | (with_reducible assumption) | (with_reducible refine Ext.alloc ?_ _) | (with_reducible refine Ext.drew ?_) | (with_reducible refine Ext.drewN ?_ _) | (with_reducible refine Ext.setCell (p := _) ?_ ?ge _; case ge => (dsimp only; omega)) | (with_reducible refine Ext.trans ?_ (by with_reducible assumption))))⟩)
set_option maxRecDepth 100000 in
set_option maxHeartbeats 1000000 in
theorem impl_ChainAdd (b : Int) (v : Value) (l : List Int) (w : World) (h : IntS w.heap.size w v l) : Calls Try.prog 133 #[I b, v] w fun e w' => e = .returned (I (chainAdd b l)) ∧ w = w' := by
  obtain ⟨A, n, c, rfl, hl, hn, hm, -⟩ := id h
  have H := Lib.hid h; have HL := Lib.hid hl; clear h hl
  unfold maxLen at hm
  go_enter Try.func133, Try.ntmps133
  go_wp2
  go_loop [0,9] (fun d i => ∃ k : Nat, k ≤ n ∧ i = I k ∧ d = I ((l.take k).foldl addM b)) (fun _ i => n - (intOf i).toNat)
  case atStart => exact ⟨0, by omega, rfl, by simp⟩
  case round =>
    obtain ⟨k, hk, rfl, rfl⟩ := hrel
    by_cases hlt : k < n
    · obtain ⟨bb, off, rfl, hb, hkl, hc⟩ := H.out.at_ hlt
      have HX := Lib.hid (foldl_snoc addM b l k hkl)
      have hc : w.cell? ⟨bb, off + k, none⟩ = some (I l[k]) := hc
      generalize l[k] = x at *
      generalize (l.take k).foldl addM b = z at *
      go_wp2_with (first | (go_at_call 181; refine (impl_AddMod _ _ _).mono ?_; rintro e w' ⟨rfl, rfl⟩))
      go_round
      case rel => exact ⟨k + 1, by omega, by go_num, by rw [HX.out]⟩
      case measure => simp [intOf]; omega
    · go_wp2
      go_ret
      exact ⟨ret_int (by rw [List.take_of_length_le (by rw [HL.out]; omega)]; rfl), rfl⟩
set_option maxRecDepth 100000 in
set_option maxHeartbeats 1000000 in
theorem spec_ChainAdd (b : Int) (v : Value) (l : List Int) (w : World) (h : IntS w.heap.size w v l) : Calls Try.prog 130 #[I b, v] w fun e w' => e = .returned (I (chainAdd b l)) ∧ w = w' := by
  obtain ⟨A, n, c, rfl, hl, hn, hm, -⟩ := id h
  have H := Lib.hid h; have HL := Lib.hid hl; clear h hl
  unfold maxLen at hm
  go_enter Try.func130, Try.ntmps130
  go_wp2
  go_loop [0,5] (fun d i => ∃ k : Nat, k ≤ n ∧ i = I k ∧ d = I ((l.take k).foldl addM b)) (fun _ i => n - (intOf i).toNat)
  case atStart => exact ⟨0, by omega, rfl, by simp⟩
  case round =>
    obtain ⟨k, hk, rfl, rfl⟩ := hrel
    by_cases hlt : k < n
    · obtain ⟨bb, off, rfl, hb, hkl, hc⟩ := H.out.at_ hlt
      have HX := Lib.hid (foldl_snoc addM b l k hkl)
      have hc : w.cell? ⟨bb, off + k, none⟩ = some (I l[k]) := hc
      generalize l[k] = x at *
      generalize (l.take k).foldl addM b = z at *
      go_wp2_with (first | (go_at_call 180; refine (spec_AddMod _ _ _).mono ?_; rintro e w' ⟨rfl, rfl⟩))
      go_round
      case rel => exact ⟨k + 1, by omega, by go_num, by rw [HX.out]⟩
      case measure => simp [intOf]; omega
    · go_wp2
      go_ret
      exact ⟨ret_int (by rw [List.take_of_length_le (by rw [HL.out]; omega)]; rfl), rfl⟩
set_option maxRecDepth 100000 in
set_option maxHeartbeats 1000000 in
theorem impl_macsOf (vl : Value) (l : List DHop) (w : World) (hl : HopS w.heap.size w vl l) (hn : l.length ≤ 100000000) :
    Calls Try.prog 134 #[vl] w fun e w' => ∃ v', e = .returned v' ∧ IntSO w.heap.size w'.heap.size w' v' (macs l) ∧ Ext w w' := by
  obtain ⟨Al, nl, cl, rfl, ll, kl, ml, -⟩ := id hl
  subst ll
  unfold maxLen at ml
  have Rl := Lib.hid hl; clear hl
  go_enter Try.func134, Try.ntmps134
  go_wp2_with fail
  go_loopw [3, 8] (fun v i wr => ∃ k : Nat, k ≤ l.length ∧ i = I k ∧ IntSO w.heap.size wr.heap.size wr v (macs (l.take k)) ∧ Ext w wr) (fun _ i _ => l.length - (intOf i).toNat)
  case atStart => exact ⟨0, by omega, rfl, Own.nil _ _ _ _ _, (by repeat (first | (with_reducible exact Ext.refl _) | (with_reducible assumption) | (with_reducible refine Ext.alloc ?_ _) | (with_reducible refine Ext.drew ?_) | (with_reducible refine Ext.drewN ?_ _) | (with_reducible refine Ext.setCell (p := _) ?_ ?ge _; case ge => (dsimp only; omega)) | (with_reducible refine Ext.trans ?_ (by with_reducible assumption))))⟩
  case round =>
    obtain ⟨k, hk, rfl, ho, he⟩ := hrel
    have HO := Lib.hid ho; clear ho
    by_cases hlt : k < l.length
    · obtain ⟨b, off, rfl, hb, hkl, hc⟩ := (Rl.out.ext (w' := wr) (by repeat (first | (with_reducible exact Ext.refl _) | (with_reducible assumption) | (with_reducible refine Ext.alloc ?_ _) | (with_reducible refine Ext.drew ?_) | (with_reducible refine Ext.drewN ?_ _) | (with_reducible refine Ext.setCell (p := _) ?_ ?ge _; case ge => (dsimp only; omega)) | (with_reducible refine Ext.trans ?_ (by with_reducible assumption))))).at_ hlt
      have HX := Lib.hid (macs_snoc l k hkl)
      have hml : (macs (l.take k)).length ≤ k := by rw [macs_len, List.length_take]; omega
      generalize l[k] = x at *
      generalize macs (l.take k) = sl at *
      obtain ⟨h0, h1, h2, h3, h4⟩ := hc
      go_wp2_with (at_builtin; refine hold ?_)
      refine unhold (wpList_app w rfl (.tmp 12) (.tmp 15) _ rfl 3 (.int .i64 0) 1 8 Try.underlying38 info_int rfl (by omega) _ sl.length (sl.map I) rfl _ 1 1 [I x.mac] rfl
        (by exact ((HO.out.alloc _).alloc _).lt_size) (row_newN _ _ _ _ _ _ (by first | rfl | simp) rfl) (one_ints [x.mac]) (by repeat (first | (with_reducible exact Ext.refl _) | (with_reducible assumption) | (with_reducible refine Ext.alloc ?_ _) | (with_reducible refine Ext.drew ?_) | (with_reducible refine Ext.drewN ?_ _) | (with_reducible refine Ext.setCell (p := _) ?_ ?ge _; case ge => (dsimp only; omega)) | (with_reducible refine Ext.trans ?_ (by with_reducible assumption)))) (by unfold maxLen; omega) (by omega) ?_)
      intro v1 w1 ho1 he1 _ _
      have O1 := Lib.hid ho1; clear ho1
      go_wp2_with (at_builtin; refine hold ?_)
      go_roundw
      case rel => exact ⟨k + 1, by omega, by go_num, by rw [HX.out]; unfold IntSO; simpa using O1.out, he1⟩
      case measure => simp [intOf]; omega
    · obtain rfl : k = l.length := by omega
      go_wp2_with fail
      go_ret
      exact ⟨_, rfl, by have h := HO.out; rw [List.take_length] at h; exact h, he⟩
set_option maxRecDepth 100000 in
set_option maxHeartbeats 1000000 in
theorem spec_l9Seals (vs : Value) (i : Int) (s : DSegment) (w : World) (hs : SegmentV w.heap.size w vs s) (hi0 : 0 ≤ i) (hi1 : i ≤ s.hops.length) (hn : s.hops.length ≤ 100000000) :
    Calls Try.prog 131 #[vs, I i] w fun e w' => ∃ v', e = .returned v' ∧ IntSO w.heap.size w'.heap.size w' v' (macs (s.hops.take i.toNat)) ∧ Ext w w' := by
  obtain ⟨m, rfl⟩ := Int.eq_ofNat_of_zero_le hi0
  rw [Int.toNat_natCast]
  obtain ⟨As_2, ns_2, cs_2, rfl, ss_2⟩ := id hs
  obtain ⟨ls_2, ks_2, ms_2⟩ := ss_2.len
  subst ls_2
  unfold maxLen at ms_2
  have Rs := Lib.hid hs; clear hs
  have Ss_2 := Lib.hid ss_2; clear ss_2
  go_enter Try.func131, Try.ntmps131
  go_wp2_with fail
  refine name_wp (fun W => ∃ wb, Ext w wb ∧ Blk wb w.heap.size 31 [I s.ts, I s.beta, .slice As_2 s.hops.length cs_2] ∧ Ext wb W ∧ IntSO wb.heap.size W.heap.size W (.slice (some ⟨w.heap.size + 1, 0, none⟩) 0 0) []) ⟨_, (Ext.refl _).alloc _, Blk.new _ _ _, (Ext.refl _).alloc _, own_zero' _ _ _ _ _ (by simp) (Nat.le_refl _)⟩ ?_
  rintro wz ⟨w0, ew0, bs, ez, hz⟩
  have Bs := Lib.hid bs; clear bs
  have HZ := Lib.hid hz; clear hz
  go_loopw [5, 6] (fun v i wr => ∃ k : Nat, k ≤ m ∧ i = I k ∧ IntSO w0.heap.size wr.heap.size wr v (macs (s.hops.take k)) ∧ Ext w0 wr) (fun _ i _ => m - (intOf i).toNat)
  case atStart => exact ⟨0, by omega, rfl, HZ.out, ez⟩
  case round =>
    obtain ⟨k, hk, rfl, ho, he⟩ := hrel
    have HO := Lib.hid ho; clear ho
    have bs := Bs.out.ext (w' := wr) (by repeat (first | (with_reducible exact Ext.refl _) | (with_reducible assumption) | (with_reducible refine Ext.alloc ?_ _) | (with_reducible refine Ext.drew ?_) | (with_reducible refine Ext.drewN ?_ _) | (with_reducible refine Ext.setCell (p := _) ?_ ?ge _; case ge => (dsimp only; omega)) | (with_reducible refine Ext.trans ?_ (by with_reducible assumption))))
    have ls := bs.lt
    obtain ⟨ps_0, ps_1, ps_2⟩ := blk3 bs
    clear bs
    by_cases hlt : k < m
    · have hkh : k < s.hops.length := by omega
      obtain ⟨b, off, rfl, hb, hkl, hc⟩ := (Ss_2.out.ext (w' := wr) (by repeat (first | (with_reducible exact Ext.refl _) | (with_reducible assumption) | (with_reducible refine Ext.alloc ?_ _) | (with_reducible refine Ext.drew ?_) | (with_reducible refine Ext.drewN ?_ _) | (with_reducible refine Ext.setCell (p := _) ?_ ?ge _; case ge => (dsimp only; omega)) | (with_reducible refine Ext.trans ?_ (by with_reducible assumption))))).at_ hkh
      have HX := Lib.hid (macs_snoc s.hops k hkl)
      have hml : (macs (s.hops.take k)).length ≤ k := by rw [macs_len, List.length_take]; omega
      generalize s.hops[k] = x at *
      generalize macs (s.hops.take k) = sl at *
      obtain ⟨h0, h1, h2, h3, h4⟩ := hc
      have i0 : (0 : Int) ≤ (k : Int) := by omega
      have i1 : (k : Int) < (s.hops.length : Int) := by omega
      go_wp2_with (at_builtin; refine hold ?_)
      refine unhold (wpList_app w0 rfl (.tmp 13) (.tmp 20) _ rfl 3 (.int .i64 0) 1 8 Try.underlying38 info_int rfl (by omega) _ sl.length (sl.map I) rfl _ 1 1 [I x.mac] rfl
        (by exact (HO.out.alloc _).lt_size) (row_newN _ _ _ _ _ _ (by first | rfl | simp) rfl) (one_ints [x.mac]) (by repeat (first | (with_reducible exact Ext.refl _) | (with_reducible assumption) | (with_reducible refine Ext.alloc ?_ _) | (with_reducible refine Ext.drew ?_) | (with_reducible refine Ext.drewN ?_ _) | (with_reducible refine Ext.setCell (p := _) ?_ ?ge _; case ge => (dsimp only; omega)) | (with_reducible refine Ext.trans ?_ (by with_reducible assumption)))) (by unfold maxLen; omega) (by omega) ?_)
      intro v1 w1 ho1 he1 _ _
      have O1 := Lib.hid ho1; clear ho1
      go_wp2_with (at_builtin; refine hold ?_)
      go_roundw
      case rel => exact ⟨k + 1, by omega, by go_num, by rw [HX.out]; unfold IntSO; simpa using O1.out, he1⟩
      case measure => simp [intOf]; omega
    · obtain rfl : k = m := by omega
      go_wp2_with fail
      go_ret
      exact ⟨_, rfl, Own.more HO.out ew0.size (Nat.le_refl _), (by repeat (first | (with_reducible exact Ext.refl _) | (with_reducible assumption) | (with_reducible refine Ext.alloc ?_ _) | (with_reducible refine Ext.drew ?_) | (with_reducible refine Ext.drewN ?_ _) | (with_reducible refine Ext.setCell (p := _) ?_ ?ge _; case ge => (dsimp only; omega)) | (with_reducible refine Ext.trans ?_ (by with_reducible assumption))))⟩
end Go.Proofs.Ytcalbcjheenmgaa
