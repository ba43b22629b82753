/- Contracts of the program's and the reference's functions on policies: ValidPolicy, DefaultPolicy, PolicyFor, ExpiryFor, Allows. -/
import Derived.Test.YtcalbcjheenmgaaHPolicy
import Derived.Test.YtcalbcjheenmgaaL04
import Derived.Test.YtcalbcjheenmgaaL09f
namespace Go.Proofs.Ytcalbcjheenmgaa
open Go.RowKit
set_option linter.unusedVariables false
def dPolicy : DPolicy := ⟨8, 0, 0, 100⟩
def validPol (p : DPolicy) : Bool := inR p.maxLen 1 8 && (validSet p.denied && (validSet p.closed && inR p.life 1 1000))
def polFor (l : List DPolicy) (r : Int) : DPolicy := if inR r 0 (l.length - 1) && validPol (l.getD r.toNat dPolicy) then l.getD r.toNat dPolicy else dPolicy
def expFor (p : DPolicy) (ts : Int) : Int := minI (wrap64 (ts + p.life)) 1000000
set_option maxRecDepth 100000 in
set_option maxHeartbeats 1000000 in
theorem impl_ValidPolicy (p : DPolicy) (w : World) : Calls Try.prog 170 #[.agg #[I p.maxLen, I p.denied, I p.closed, I p.life]] w fun e w' => e = .returned (.bool (validPol p)) ∧ Ext w w' := by
  go_enter Try.func170, Try.ntmps170
  go_wp2_with fail
  first | refine name_wp (fun W => Ext w W ∧ Blk W (w.heap.size) 157 [I p.maxLen, I p.denied, I p.closed, I p.life]) ⟨(by repeat (first | (with_reducible exact Ext.refl _) | (with_reducible assumption) | (with_reducible refine Ext.alloc ?_ _) | (with_reducible refine Ext.drew ?_) | (with_reducible refine Ext.drewN ?_ _) | (with_reducible refine Ext.setCell (p := _) ?_ ?ge _; case ge => (dsimp only; omega)) | (with_reducible refine Ext.trans ?_ (by with_reducible assumption)))), (by repeat (first | (with_reducible exact Blk.new _ _ _) | ((with_reducible refine Blk.new' _ _ _ _ ?_) <;> (simp; done)) | (with_reducible refine Blk.alloc ?_ _) | (with_reducible refine Blk.drew ?_)))⟩ ?_ | refine name_calls (fun W => Ext w W ∧ Blk W (w.heap.size) 157 [I p.maxLen, I p.denied, I p.closed, I p.life]) ⟨(by repeat (first | (with_reducible exact Ext.refl _) | (with_reducible assumption) | (with_reducible refine Ext.alloc ?_ _) | (with_reducible refine Ext.drew ?_) | (with_reducible refine Ext.drewN ?_ _) | (with_reducible refine Ext.setCell (p := _) ?_ ?ge _; case ge => (dsimp only; omega)) | (with_reducible refine Ext.trans ?_ (by with_reducible assumption)))), (by repeat (first | (with_reducible exact Blk.new _ _ _) | ((with_reducible refine Blk.new' _ _ _ _ ?_) <;> (simp; done)) | (with_reducible refine Blk.alloc ?_ _) | (with_reducible refine Blk.drew ?_)))⟩ ?_
  rintro w0 ⟨ew0, bp⟩
  have lp := bp.lt
  obtain ⟨pp_0, pp_1, pp_2, pp_3⟩ := blk4 bp
  have Bp := Lib.hid bp; clear bp
  refine (impl_InRange _ _ _ _).mono ?_
  rintro e w1 ⟨rfl, rfl⟩
  cases h1 : inR p.maxLen 1 8
  · go_wp2_with fail
    go_ret
    exact ⟨ret_bool (by simp [validPol, h1]), (by repeat (first | (with_reducible exact Ext.refl _) | (with_reducible assumption) | (with_reducible refine Ext.alloc ?_ _) | (with_reducible refine Ext.drew ?_) | (with_reducible refine Ext.drewN ?_ _) | (with_reducible refine Ext.setCell (p := _) ?_ ?ge _; case ge => (dsimp only; omega)) | (with_reducible refine Ext.trans ?_ (by with_reducible assumption))))⟩
  go_wp2_with fail
  refine (impl_ValidSet _ _).mono ?_
  rintro e w1 ⟨rfl, rfl⟩
  cases h2 : validSet p.denied
  · go_wp2_with fail
    go_ret
    exact ⟨ret_bool (by simp [validPol, h2]), (by repeat (first | (with_reducible exact Ext.refl _) | (with_reducible assumption) | (with_reducible refine Ext.alloc ?_ _) | (with_reducible refine Ext.drew ?_) | (with_reducible refine Ext.drewN ?_ _) | (with_reducible refine Ext.setCell (p := _) ?_ ?ge _; case ge => (dsimp only; omega)) | (with_reducible refine Ext.trans ?_ (by with_reducible assumption))))⟩
  go_wp2_with fail
  refine (impl_ValidSet _ _).mono ?_
  rintro e w1 ⟨rfl, rfl⟩
  cases h3 : validSet p.closed
  · go_wp2_with fail
    go_ret
    exact ⟨ret_bool (by simp [validPol, h3]), (by repeat (first | (with_reducible exact Ext.refl _) | (with_reducible assumption) | (with_reducible refine Ext.alloc ?_ _) | (with_reducible refine Ext.drew ?_) | (with_reducible refine Ext.drewN ?_ _) | (with_reducible refine Ext.setCell (p := _) ?_ ?ge _; case ge => (dsimp only; omega)) | (with_reducible refine Ext.trans ?_ (by with_reducible assumption))))⟩
  go_wp2_with fail
  refine (impl_InRange _ _ _ _).mono ?_
  rintro e w1 ⟨rfl, rfl⟩
  have HF : Hid (validPol p = inR p.life 1 1000) := by unfold Hid validPol; rw [h1, h2, h3]; rfl
  clear h1 h2 h3
  generalize inR p.life 1 1000 = b at *
  go_wp2_with fail
  go_ret
  exact ⟨ret_bool HF.out.symm, (by repeat (first | (with_reducible exact Ext.refl _) | (with_reducible assumption) | (with_reducible refine Ext.alloc ?_ _) | (with_reducible refine Ext.drew ?_) | (with_reducible refine Ext.drewN ?_ _) | (with_reducible refine Ext.setCell (p := _) ?_ ?ge _; case ge => (dsimp only; omega)) | (with_reducible refine Ext.trans ?_ (by with_reducible assumption))))⟩
set_option maxRecDepth 100000 in
set_option maxHeartbeats 1000000 in
theorem spec_ValidPolicy (p : DPolicy) (w : World) : Calls Try.prog 162 #[.agg #[I p.maxLen, I p.denied, I p.closed, I p.life]] w fun e w' => e = .returned (.bool (validPol p)) ∧ Ext w w' := by
  go_enter Try.func162, Try.ntmps162
  go_wp2_with fail
  first | refine name_wp (fun W => Ext w W ∧ Blk W (w.heap.size) 157 [I p.maxLen, I p.denied, I p.closed, I p.life]) ⟨(by repeat (first | (with_reducible exact Ext.refl _) | (with_reducible assumption) | (with_reducible refine Ext.alloc ?_ _) | (with_reducible refine Ext.drew ?_) | (with_reducible refine Ext.drewN ?_ _) | (with_reducible refine Ext.setCell (p := _) ?_ ?ge _; case ge => (dsimp only; omega)) | (with_reducible refine Ext.trans ?_ (by with_reducible assumption)))), (by repeat (first | (with_reducible exact Blk.new _ _ _) | ((with_reducible refine Blk.new' _ _ _ _ ?_) <;> (simp; done)) | (with_reducible refine Blk.alloc ?_ _) | (with_reducible refine Blk.drew ?_)))⟩ ?_ | refine name_calls (fun W => Ext w W ∧ Blk W (w.heap.size) 157 [I p.maxLen, I p.denied, I p.closed, I p.life]) ⟨(by repeat (first | (with_reducible exact Ext.refl _) | (with_reducible assumption) | (with_reducible refine Ext.alloc ?_ _) | (with_reducible refine Ext.drew ?_) | (with_reducible refine Ext.drewN ?_ _) | (with_reducible refine Ext.setCell (p := _) ?_ ?ge _; case ge => (dsimp only; omega)) | (with_reducible refine Ext.trans ?_ (by with_reducible assumption)))), (by repeat (first | (with_reducible exact Blk.new _ _ _) | ((with_reducible refine Blk.new' _ _ _ _ ?_) <;> (simp; done)) | (with_reducible refine Blk.alloc ?_ _) | (with_reducible refine Blk.drew ?_)))⟩ ?_
  rintro w0 ⟨ew0, bp⟩
  have lp := bp.lt
  obtain ⟨pp_0, pp_1, pp_2, pp_3⟩ := blk4 bp
  have Bp := Lib.hid bp; clear bp
  refine (spec_l1In _ _ _ _).mono ?_
  rintro e w1 ⟨rfl, rfl⟩
  cases h1 : inR p.maxLen 1 8
  · go_wp2_with fail
    go_ret
    exact ⟨ret_bool (by simp [validPol, h1]), (by repeat (first | (with_reducible exact Ext.refl _) | (with_reducible assumption) | (with_reducible refine Ext.alloc ?_ _) | (with_reducible refine Ext.drew ?_) | (with_reducible refine Ext.drewN ?_ _) | (with_reducible refine Ext.setCell (p := _) ?_ ?ge _; case ge => (dsimp only; omega)) | (with_reducible refine Ext.trans ?_ (by with_reducible assumption))))⟩
  go_wp2_with fail
  refine (spec_ValidSet _ _).mono ?_
  rintro e w1 ⟨rfl, rfl⟩
  cases h2 : validSet p.denied
  · go_wp2_with fail
    go_ret
    exact ⟨ret_bool (by simp [validPol, h2]), (by repeat (first | (with_reducible exact Ext.refl _) | (with_reducible assumption) | (with_reducible refine Ext.alloc ?_ _) | (with_reducible refine Ext.drew ?_) | (with_reducible refine Ext.drewN ?_ _) | (with_reducible refine Ext.setCell (p := _) ?_ ?ge _; case ge => (dsimp only; omega)) | (with_reducible refine Ext.trans ?_ (by with_reducible assumption))))⟩
  go_wp2_with fail
  refine (spec_ValidSet _ _).mono ?_
  rintro e w1 ⟨rfl, rfl⟩
  cases h3 : validSet p.closed
  · go_wp2_with fail
    go_ret
    exact ⟨ret_bool (by simp [validPol, h3]), (by repeat (first | (with_reducible exact Ext.refl _) | (with_reducible assumption) | (with_reducible refine Ext.alloc ?_ _) | (with_reducible refine Ext.drew ?_) | (with_reducible refine Ext.drewN ?_ _) | (with_reducible refine Ext.setCell (p := _) ?_ ?ge _; case ge => (dsimp only; omega)) | (with_reducible refine Ext.trans ?_ (by with_reducible assumption))))⟩
  go_wp2_with fail
  refine (spec_l1In _ _ _ _).mono ?_
  rintro e w1 ⟨rfl, rfl⟩
  have HF : Hid (validPol p = inR p.life 1 1000) := by unfold Hid validPol; rw [h1, h2, h3]; rfl
  clear h1 h2 h3
  generalize inR p.life 1 1000 = b at *
  go_wp2_with fail
  go_ret
  exact ⟨ret_bool HF.out.symm, (by repeat (first | (with_reducible exact Ext.refl _) | (with_reducible assumption) | (with_reducible refine Ext.alloc ?_ _) | (with_reducible refine Ext.drew ?_) | (with_reducible refine Ext.drewN ?_ _) | (with_reducible refine Ext.setCell (p := _) ?_ ?ge _; case ge => (dsimp only; omega)) | (with_reducible refine Ext.trans ?_ (by with_reducible assumption))))⟩
set_option maxRecDepth 100000 in
set_option maxHeartbeats 1000000 in
theorem impl_DefaultPolicy (w : World) : Calls Try.prog 171 #[] w fun e w' => e = .returned (.agg #[I 8, I 0, I 0, I 100]) ∧ Ext w w' := by
  go_enter Try.func171, Try.ntmps171
  go_wp2_with fail
  refine bodyPost_ret (v := .agg #[I 8, I 0, I 0, I 100]) (by simp [results, Try.results171, go_sem, *]) rfl ⟨rfl, (by repeat (first | (with_reducible exact Ext.refl _) | (with_reducible assumption) | (with_reducible refine Ext.alloc ?_ _) | (with_reducible refine Ext.drew ?_) | (with_reducible refine Ext.drewN ?_ _) | (with_reducible refine Ext.setCell (p := _) ?_ ?ge _; case ge => (dsimp only; omega)) | (with_reducible refine Ext.trans ?_ (by with_reducible assumption))))⟩
set_option maxRecDepth 100000 in
set_option maxHeartbeats 1000000 in
theorem spec_DefaultPolicy (w : World) : Calls Try.prog 163 #[] w fun e w' => e = .returned (.agg #[I 8, I 0, I 0, I 100]) ∧ Ext w w' := by
  go_enter Try.func163, Try.ntmps163
  go_wp2_with fail
  refine bodyPost_ret (v := .agg #[I 8, I 0, I 0, I 100]) (by simp [results, Try.results163, go_sem, *]) rfl ⟨rfl, (by repeat (first | (with_reducible exact Ext.refl _) | (with_reducible assumption) | (with_reducible refine Ext.alloc ?_ _) | (with_reducible refine Ext.drew ?_) | (with_reducible refine Ext.drewN ?_ _) | (with_reducible refine Ext.setCell (p := _) ?_ ?ge _; case ge => (dsimp only; omega)) | (with_reducible refine Ext.trans ?_ (by with_reducible assumption))))⟩
set_option maxRecDepth 100000 in
set_option maxHeartbeats 1000000 in
theorem impl_Min (a b : Int) (w : World) : Calls Try.prog 208 #[I a, I b] w fun e w' => e = .returned (I (minI a b)) ∧ w = w' := by
  by_cases h : b < a
  · have HF : Hid (minI a b = b) := by unfold Hid minI; rw [if_pos h]
    have d1 : decide (b < a) = true := decide_eq_true h
    go_enter Try.func208, Try.ntmps208
    go_wp2_with fail
    go_ret
    exact ⟨ret_int HF.out.symm, rfl⟩
  · have HF : Hid (minI a b = a) := by unfold Hid minI; rw [if_neg h]
    have d1 : decide (b < a) = false := decide_eq_false h
    go_enter Try.func208, Try.ntmps208
    go_wp2_with fail
    go_ret
    exact ⟨ret_int HF.out.symm, rfl⟩
set_option maxRecDepth 100000 in
set_option maxHeartbeats 1000000 in
theorem impl_ExpiryFor (p : DPolicy) (ts : Int) (w : World) : Calls Try.prog 199 #[.agg #[I p.maxLen, I p.denied, I p.closed, I p.life], I ts] w fun e w' => e = .returned (I (expFor p ts)) ∧ Ext w w' := by
  go_enter Try.func199, Try.ntmps199
  go_wp2_with fail
  refine (impl_Min _ _ _).mono ?_
  rintro e w1 ⟨rfl, rfl⟩
  go_wp2_with fail
  go_ret
  exact ⟨ret_int rfl, (by repeat (first | (with_reducible exact Ext.refl _) | (with_reducible assumption) | (with_reducible refine Ext.alloc ?_ _) | (with_reducible refine Ext.drew ?_) | (with_reducible refine Ext.drewN ?_ _) | (with_reducible refine Ext.setCell (p := _) ?_ ?ge _; case ge => (dsimp only; omega)) | (with_reducible refine Ext.trans ?_ (by with_reducible assumption))))⟩
set_option maxRecDepth 100000 in
set_option maxHeartbeats 1000000 in
theorem spec_ExpiryFor (p : DPolicy) (ts : Int) (w : World) : Calls Try.prog 166 #[.agg #[I p.maxLen, I p.denied, I p.closed, I p.life], I ts] w fun e w' => e = .returned (I (expFor p ts)) ∧ Ext w w' := by
  go_enter Try.func166, Try.ntmps166
  go_wp2_with fail
  refine (spec_Min _ _ _).mono ?_
  rintro e w1 ⟨rfl, rfl⟩
  go_wp2_with fail
  go_ret
  exact ⟨ret_int rfl, (by repeat (first | (with_reducible exact Ext.refl _) | (with_reducible assumption) | (with_reducible refine Ext.alloc ?_ _) | (with_reducible refine Ext.drew ?_) | (with_reducible refine Ext.drewN ?_ _) | (with_reducible refine Ext.setCell (p := _) ?_ ?ge _; case ge => (dsimp only; omega)) | (with_reducible refine Ext.trans ?_ (by with_reducible assumption))))⟩
set_option maxRecDepth 100000 in
set_option maxHeartbeats 1000000 in
theorem impl_PolicyFor (vl : Value) (r : Int) (l : List DPolicy) (w : World) (hl : PolicyS w.heap.size w vl l) :
    Calls Try.prog 123 #[vl, I r] w fun e w' => e = .returned (.agg #[I (polFor l r).maxLen, I (polFor l r).denied, I (polFor l r).closed, I (polFor l r).life]) ∧ Ext w w' := by
  obtain ⟨Al, nl, cl, rfl, ll, kl, ml, -⟩ := id hl
  subst ll
  unfold maxLen at ml
  have Rl := Lib.hid hl; clear hl
  go_enter Try.func123, Try.ntmps123
  go_wp2_with fail
  refine name_calls (fun W => Ext w W ∧ Blk W w.heap.size 157 [I 0, I 0, I 0, I 0]) ⟨(by repeat (first | (with_reducible exact Ext.refl _) | (with_reducible assumption) | (with_reducible refine Ext.alloc ?_ _) | (with_reducible refine Ext.drew ?_) | (with_reducible refine Ext.drewN ?_ _) | (with_reducible refine Ext.setCell (p := _) ?_ ?ge _; case ge => (dsimp only; omega)) | (with_reducible refine Ext.trans ?_ (by with_reducible assumption)))), (by repeat (first | (with_reducible exact Blk.new _ _ _) | ((with_reducible refine Blk.new' _ _ _ _ ?_) <;> (simp; done)) | (with_reducible refine Blk.alloc ?_ _) | (with_reducible refine Blk.drew ?_)))⟩ ?_
  rintro w0 ⟨ew0, br⟩
  have BR := Lib.hid br; clear br
  refine (impl_InRange _ _ _ _).mono ?_
  rintro e w1 ⟨rfl, rfl⟩
  cases h1 : inR r 0 (l.length - 1)
  · have HF : Hid (polFor l r = dPolicy) := by unfold Hid polFor; rw [h1]; rfl
    go_wp2_with fail
    refine (impl_DefaultPolicy _).mono ?_
    rintro e w2 ⟨rfl, e2⟩
    have br := BR.out.ext (w' := w2) (by repeat (first | (with_reducible exact Ext.refl _) | (with_reducible assumption) | (with_reducible refine Ext.alloc ?_ _) | (with_reducible refine Ext.drew ?_) | (with_reducible refine Ext.drewN ?_ _) | (with_reducible refine Ext.setCell (p := _) ?_ ?ge _; case ge => (dsimp only; omega)) | (with_reducible refine Ext.trans ?_ (by with_reducible assumption))))
    have lbr := br.lt
    obtain ⟨qbr_0, qbr_1, qbr_2, qbr_3⟩ := blk4 br
    have fbr_0 := br.frozen 0
    have fbr_1 := br.frozen 1
    have fbr_2 := br.frozen 2
    have fbr_3 := br.frozen 3
    clear br
    go_wp2_with fail
    rw [HF.out]
    refine bodyPost_ret (v := .agg #[I 8, I 0, I 0, I 100]) (by simp [results, Try.results123, go_sem, *]) rfl ⟨rfl, (by repeat (first | (with_reducible exact Ext.refl _) | (with_reducible assumption) | (with_reducible refine Ext.alloc ?_ _) | (with_reducible refine Ext.drew ?_) | (with_reducible refine Ext.drewN ?_ _) | (with_reducible refine Ext.setCell (p := _) ?_ ?ge _; case ge => (dsimp only; omega)) | (with_reducible refine Ext.trans ?_ (by with_reducible assumption))))⟩
  obtain ⟨j0, j1⟩ := inR_iff.1 h1
  obtain ⟨k, rfl⟩ := Int.eq_ofNat_of_zero_le j0
  have hkl : k < l.length := by omega
  obtain ⟨b, off, rfl, hb, hk2, hc⟩ := (Rl.out.ext (w' := w0) (by repeat (first | (with_reducible exact Ext.refl _) | (with_reducible assumption) | (with_reducible refine Ext.alloc ?_ _) | (with_reducible refine Ext.drew ?_) | (with_reducible refine Ext.drewN ?_ _) | (with_reducible refine Ext.setCell (p := _) ?_ ?ge _; case ge => (dsimp only; omega)) | (with_reducible refine Ext.trans ?_ (by with_reducible assumption))))).at_ hkl
  have HG : Hid (polFor l k = if validPol l[k] then l[k] else dPolicy) := by unfold Hid polFor; rw [h1, Int.toNat_natCast, getD_is hkl]; simp
  clear h1
  have HC := Lib.hid hc
  generalize l[k] = x at *
  obtain ⟨h0, h1, h2, h3⟩ := hc
  have i1 : (k : Int) < (l.length : Int) := by omega
  have i0 : (0 : Int) ≤ (k : Int) := by omega
  go_wp2_with fail
  refine (impl_ValidPolicy (x) _).mono ?_
  rintro e w2 ⟨rfl, ew2⟩
  cases h4 : validPol x
  · have HF : Hid (polFor l k = dPolicy) := by unfold Hid; rw [HG.out, h4]; rfl
    go_wp2_with fail
    refine (impl_DefaultPolicy _).mono ?_
    rintro e w3 ⟨rfl, e3⟩
    have br := BR.out.ext (w' := w3) (by repeat (first | (with_reducible exact Ext.refl _) | (with_reducible assumption) | (with_reducible refine Ext.alloc ?_ _) | (with_reducible refine Ext.drew ?_) | (with_reducible refine Ext.drewN ?_ _) | (with_reducible refine Ext.setCell (p := _) ?_ ?ge _; case ge => (dsimp only; omega)) | (with_reducible refine Ext.trans ?_ (by with_reducible assumption))))
    have lbr := br.lt
    obtain ⟨qbr_0, qbr_1, qbr_2, qbr_3⟩ := blk4 br
    have fbr_0 := br.frozen 0
    have fbr_1 := br.frozen 1
    have fbr_2 := br.frozen 2
    have fbr_3 := br.frozen 3
    clear br
    go_wp2_with fail
    rw [HF.out]
    refine bodyPost_ret (v := .agg #[I 8, I 0, I 0, I 100]) (by simp [results, Try.results123, go_sem, *]) rfl ⟨rfl, (by repeat (first | (with_reducible exact Ext.refl _) | (with_reducible assumption) | (with_reducible refine Ext.alloc ?_ _) | (with_reducible refine Ext.drew ?_) | (with_reducible refine Ext.drewN ?_ _) | (with_reducible refine Ext.setCell (p := _) ?_ ?ge _; case ge => (dsimp only; omega)) | (with_reducible refine Ext.trans ?_ (by with_reducible assumption))))⟩
  · have HF : Hid (polFor l k = x) := by unfold Hid; rw [HG.out, h4]; rfl
    clear h0 h1 h2 h3
    obtain ⟨g0, g1, g2, g3⟩ := PolicyAt.keeps _ _ _ _ _ _ _ ew2.size ew2.same hb HC.out
    have zz := ew2.size
    have br := BR.out.ext (w' := w2) (by repeat (first | (with_reducible exact Ext.refl _) | (with_reducible assumption) | (with_reducible refine Ext.alloc ?_ _) | (with_reducible refine Ext.drew ?_) | (with_reducible refine Ext.drewN ?_ _) | (with_reducible refine Ext.setCell (p := _) ?_ ?ge _; case ge => (dsimp only; omega)) | (with_reducible refine Ext.trans ?_ (by with_reducible assumption))))
    have lbr := br.lt
    obtain ⟨qbr_0, qbr_1, qbr_2, qbr_3⟩ := blk4 br
    have fbr_0 := br.frozen 0
    have fbr_1 := br.frozen 1
    have fbr_2 := br.frozen 2
    have fbr_3 := br.frozen 3
    clear br
    go_wp2_with fail
    rw [HF.out]
    refine bodyPost_ret (v := .agg #[I x.maxLen, I x.denied, I x.closed, I x.life]) (by simp [results, Try.results123, go_sem, *]) rfl ⟨rfl, (by repeat (first | (with_reducible exact Ext.refl _) | (with_reducible assumption) | (with_reducible refine Ext.alloc ?_ _) | (with_reducible refine Ext.drew ?_) | (with_reducible refine Ext.drewN ?_ _) | (with_reducible refine Ext.setCell (p := _) ?_ ?ge _; case ge => (dsimp only; omega)) | (with_reducible refine Ext.trans ?_ (by with_reducible assumption))))⟩
set_option maxRecDepth 100000 in
set_option maxHeartbeats 1000000 in
theorem spec_PolicyFor (vl : Value) (r : Int) (l : List DPolicy) (w : World) (hl : PolicyS w.heap.size w vl l) :
    Calls Try.prog 117 #[vl, I r] w fun e w' => e = .returned (.agg #[I (polFor l r).maxLen, I (polFor l r).denied, I (polFor l r).closed, I (polFor l r).life]) ∧ Ext w w' := by
  obtain ⟨Al, nl, cl, rfl, ll, kl, ml, -⟩ := id hl
  subst ll
  unfold maxLen at ml
  have Rl := Lib.hid hl; clear hl
  go_enter Try.func117, Try.ntmps117
  go_wp2_with fail
  refine name_calls (fun W => Ext w W ∧ Blk W w.heap.size 157 [I 0, I 0, I 0, I 0]) ⟨(by repeat (first | (with_reducible exact Ext.refl _) | (with_reducible assumption) | (with_reducible refine Ext.alloc ?_ _) | (with_reducible refine Ext.drew ?_) | (with_reducible refine Ext.drewN ?_ _) | (with_reducible refine Ext.setCell (p := _) ?_ ?ge _; case ge => (dsimp only; omega)) | (with_reducible refine Ext.trans ?_ (by with_reducible assumption)))), (by repeat (first | (with_reducible exact Blk.new _ _ _) | ((with_reducible refine Blk.new' _ _ _ _ ?_) <;> (simp; done)) | (with_reducible refine Blk.alloc ?_ _) | (with_reducible refine Blk.drew ?_)))⟩ ?_
  rintro w0 ⟨ew0, br⟩
  have BR := Lib.hid br; clear br
  refine (spec_l1In _ _ _ _).mono ?_
  rintro e w1 ⟨rfl, rfl⟩
  cases h1 : inR r 0 (l.length - 1)
  · have HF : Hid (polFor l r = dPolicy) := by unfold Hid polFor; rw [h1]; rfl
    go_wp2_with fail
    refine (spec_DefaultPolicy _).mono ?_
    rintro e w2 ⟨rfl, e2⟩
    have br := BR.out.ext (w' := w2) (by repeat (first | (with_reducible exact Ext.refl _) | (with_reducible assumption) | (with_reducible refine Ext.alloc ?_ _) | (with_reducible refine Ext.drew ?_) | (with_reducible refine Ext.drewN ?_ _) | (with_reducible refine Ext.setCell (p := _) ?_ ?ge _; case ge => (dsimp only; omega)) | (with_reducible refine Ext.trans ?_ (by with_reducible assumption))))
    have lbr := br.lt
    obtain ⟨qbr_0, qbr_1, qbr_2, qbr_3⟩ := blk4 br
    have fbr_0 := br.frozen 0
    have fbr_1 := br.frozen 1
    have fbr_2 := br.frozen 2
    have fbr_3 := br.frozen 3
    clear br
    go_wp2_with fail
    rw [HF.out]
    refine bodyPost_ret (v := .agg #[I 8, I 0, I 0, I 100]) (by simp [results, Try.results117, go_sem, *]) rfl ⟨rfl, (by repeat (first | (with_reducible exact Ext.refl _) | (with_reducible assumption) | (with_reducible refine Ext.alloc ?_ _) | (with_reducible refine Ext.drew ?_) | (with_reducible refine Ext.drewN ?_ _) | (with_reducible refine Ext.setCell (p := _) ?_ ?ge _; case ge => (dsimp only; omega)) | (with_reducible refine Ext.trans ?_ (by with_reducible assumption))))⟩
  obtain ⟨j0, j1⟩ := inR_iff.1 h1
  obtain ⟨k, rfl⟩ := Int.eq_ofNat_of_zero_le j0
  have hkl : k < l.length := by omega
  obtain ⟨b, off, rfl, hb, hk2, hc⟩ := (Rl.out.ext (w' := w0) (by repeat (first | (with_reducible exact Ext.refl _) | (with_reducible assumption) | (with_reducible refine Ext.alloc ?_ _) | (with_reducible refine Ext.drew ?_) | (with_reducible refine Ext.drewN ?_ _) | (with_reducible refine Ext.setCell (p := _) ?_ ?ge _; case ge => (dsimp only; omega)) | (with_reducible refine Ext.trans ?_ (by with_reducible assumption))))).at_ hkl
  have HG : Hid (polFor l k = if validPol l[k] then l[k] else dPolicy) := by unfold Hid polFor; rw [h1, Int.toNat_natCast, getD_is hkl]; simp
  clear h1
  have HC := Lib.hid hc
  generalize l[k] = x at *
  obtain ⟨h0, h1, h2, h3⟩ := hc
  have i1 : (k : Int) < (l.length : Int) := by omega
  have i0 : (0 : Int) ≤ (k : Int) := by omega
  go_wp2_with fail
  refine (spec_ValidPolicy (x) _).mono ?_
  rintro e w2 ⟨rfl, ew2⟩
  cases h4 : validPol x
  · have HF : Hid (polFor l k = dPolicy) := by unfold Hid; rw [HG.out, h4]; rfl
    go_wp2_with fail
    refine (spec_DefaultPolicy _).mono ?_
    rintro e w3 ⟨rfl, e3⟩
    have br := BR.out.ext (w' := w3) (by repeat (first | (with_reducible exact Ext.refl _) | (with_reducible assumption) | (with_reducible refine Ext.alloc ?_ _) | (with_reducible refine Ext.drew ?_) | (with_reducible refine Ext.drewN ?_ _) | (with_reducible refine Ext.setCell (p := _) ?_ ?ge _; case ge => (dsimp only; omega)) | (with_reducible refine Ext.trans ?_ (by with_reducible assumption))))
    have lbr := br.lt
    obtain ⟨qbr_0, qbr_1, qbr_2, qbr_3⟩ := blk4 br
    have fbr_0 := br.frozen 0
    have fbr_1 := br.frozen 1
    have fbr_2 := br.frozen 2
    have fbr_3 := br.frozen 3
    clear br
    go_wp2_with fail
    rw [HF.out]
    refine bodyPost_ret (v := .agg #[I 8, I 0, I 0, I 100]) (by simp [results, Try.results117, go_sem, *]) rfl ⟨rfl, (by repeat (first | (with_reducible exact Ext.refl _) | (with_reducible assumption) | (with_reducible refine Ext.alloc ?_ _) | (with_reducible refine Ext.drew ?_) | (with_reducible refine Ext.drewN ?_ _) | (with_reducible refine Ext.setCell (p := _) ?_ ?ge _; case ge => (dsimp only; omega)) | (with_reducible refine Ext.trans ?_ (by with_reducible assumption))))⟩
  · have HF : Hid (polFor l k = x) := by unfold Hid; rw [HG.out, h4]; rfl
    clear h0 h1 h2 h3
    obtain ⟨g0, g1, g2, g3⟩ := PolicyAt.keeps _ _ _ _ _ _ _ ew2.size ew2.same hb HC.out
    have zz := ew2.size
    have br := BR.out.ext (w' := w2) (by repeat (first | (with_reducible exact Ext.refl _) | (with_reducible assumption) | (with_reducible refine Ext.alloc ?_ _) | (with_reducible refine Ext.drew ?_) | (with_reducible refine Ext.drewN ?_ _) | (with_reducible refine Ext.setCell (p := _) ?_ ?ge _; case ge => (dsimp only; omega)) | (with_reducible refine Ext.trans ?_ (by with_reducible assumption))))
    have lbr := br.lt
    obtain ⟨qbr_0, qbr_1, qbr_2, qbr_3⟩ := blk4 br
    have fbr_0 := br.frozen 0
    have fbr_1 := br.frozen 1
    have fbr_2 := br.frozen 2
    have fbr_3 := br.frozen 3
    clear br
    go_wp2_with fail
    rw [HF.out]
    refine bodyPost_ret (v := .agg #[I x.maxLen, I x.denied, I x.closed, I x.life]) (by simp [results, Try.results117, go_sem, *]) rfl ⟨rfl, (by repeat (first | (with_reducible exact Ext.refl _) | (with_reducible assumption) | (with_reducible refine Ext.alloc ?_ _) | (with_reducible refine Ext.drew ?_) | (with_reducible refine Ext.drewN ?_ _) | (with_reducible refine Ext.setCell (p := _) ?_ ?ge _; case ge => (dsimp only; omega)) | (with_reducible refine Ext.trans ?_ (by with_reducible assumption))))⟩
end Go.Proofs.Ytcalbcjheenmgaa
