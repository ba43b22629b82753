/- Contracts of the program's and the reference's functions on policies: ValidPolicy, DefaultPolicy, PolicyFor, ExpiryFor, Allows. -/
import Derived.Test.YtmopmgaeiokfjaaGreatGHS
import Derived.Test.YtmopmgaeiokfjaaGreatGL0
import Derived.Test.YtmopmgaeiokfjaaGreatGL9e
import Derived.Test.YtmopmgaeiokfjaaGreatGL10a
set_option maxRecDepth 100000
set_option maxHeartbeats 1000000
namespace Go.Proofs.YtmopmgaeiokfjaaGreat
open Go.RowKit
set_option linter.unusedVariables false
def dPolicy : DPolicy := ⟨8, 0, 0, 100⟩
def validPol (p : DPolicy) : Bool := inR p.maxLen 1 8 && (validSet p.denied && (validSet p.closed && inR p.life 1 1000))
def polFor (l : List DPolicy) (r : Int) : DPolicy := if inR r 0 (l.length - 1) && validPol (l.getD r.toNat dPolicy) then l.getD r.toNat dPolicy else dPolicy
def expFor (p : DPolicy) (ts : Int) : Int := minI (wrap64 (ts + p.life)) 1000000
theorem impl_ValidPolicy (p : DPolicy) (w : World) : Calls Tryz.prog 85 #[.agg #[I p.maxLen, I p.denied, I p.closed, I p.life]] w fun e w' => e = .returned (.bool (validPol p)) ∧ Ext w w' := by
 go_enter Tryz.func85, Tryz.ntmps85
 go_wp2_with fail
 first | refine name_wp ?_ ?_ ?_ | refine name_calls ?_ ?_ ?_
 exact (fun W => Ext w W ∧ Blk W (w.heap.size) 82 [I p.maxLen, I p.denied, I p.closed, I p.life]);exact ⟨xe, xb⟩;rintro w0 ⟨ew0, bp⟩;have lp := bp.lt;obtain ⟨pp_0, pp_1, pp_2, pp_3⟩ := blk4 bp;have Bp := Lib.hid bp; clear bp;refine (impl_InRange _ _ _ _).mono ?_;rintro e w1 ⟨rfl, rfl⟩;cases h1 : inR p.maxLen 1 8
 · go_wp2_with fail
   go_ret
   exact ⟨ret_bool (by simp [validPol, h1]), xe⟩
 go_wp2_with fail
 refine (impl_ValidSet _ _).mono ?_;rintro e w1 ⟨rfl, rfl⟩;cases h2 : validSet p.denied
 · go_wp2_with fail
   go_ret
   exact ⟨ret_bool (by simp [validPol, h2]), xe⟩
 go_wp2_with fail
 refine (impl_ValidSet _ _).mono ?_;rintro e w1 ⟨rfl, rfl⟩;cases h3 : validSet p.closed
 · go_wp2_with fail
   go_ret
   exact ⟨ret_bool (by simp [validPol, h3]), xe⟩
 go_wp2_with fail
 refine (impl_InRange _ _ _ _).mono ?_;rintro e w1 ⟨rfl, rfl⟩
 have HF : Hid (validPol p = inR p.life 1 1000) := by unfold Hid validPol; rw [h1, h2, h3]; rfl
 clear h1 h2 h3
 generalize inR p.life 1 1000 = b at *
 go_wp2_with fail
 go_ret
 exact ⟨ret_bool HF.out.symm, xe⟩
theorem spec_ValidPolicy (p : DPolicy) (w : World) : Calls Tryz.prog 90 #[.agg #[I p.maxLen, I p.denied, I p.closed, I p.life]] w fun e w' => e = .returned (.bool (validPol p)) ∧ Ext w w' := by
 go_enter Tryz.func90, Tryz.ntmps90
 go_wp2_with fail
 first | refine name_wp ?_ ?_ ?_ | refine name_calls ?_ ?_ ?_
 exact (fun W => Ext w W ∧ Blk W (w.heap.size) 82 [I p.maxLen, I p.denied, I p.closed, I p.life]);exact ⟨xe, xb⟩;rintro w0 ⟨ew0, bp⟩;have lp := bp.lt;obtain ⟨pp_0, pp_1, pp_2, pp_3⟩ := blk4 bp;have Bp := Lib.hid bp; clear bp;refine (spec_l1In _ _ _ _).mono ?_;rintro e w1 ⟨rfl, rfl⟩;cases h1 : inR p.maxLen 1 8
 · go_wp2_with fail
   go_ret
   exact ⟨ret_bool (by simp [validPol, h1]), xe⟩
 go_wp2_with fail
 refine (spec_ValidSet _ _).mono ?_;rintro e w1 ⟨rfl, rfl⟩;cases h2 : validSet p.denied
 · go_wp2_with fail
   go_ret
   exact ⟨ret_bool (by simp [validPol, h2]), xe⟩
 go_wp2_with fail
 refine (spec_ValidSet _ _).mono ?_;rintro e w1 ⟨rfl, rfl⟩;cases h3 : validSet p.closed
 · go_wp2_with fail
   go_ret
   exact ⟨ret_bool (by simp [validPol, h3]), xe⟩
 go_wp2_with fail
 refine (spec_l1In _ _ _ _).mono ?_;rintro e w1 ⟨rfl, rfl⟩
 have HF : Hid (validPol p = inR p.life 1 1000) := by unfold Hid validPol; rw [h1, h2, h3]; rfl
 clear h1 h2 h3
 generalize inR p.life 1 1000 = b at *
 go_wp2_with fail
 go_ret
 exact ⟨ret_bool HF.out.symm, xe⟩
theorem impl_DefaultPolicy (w : World) : Calls Tryz.prog 86 #[] w fun e w' => e = .returned (.agg #[I 8, I 0, I 0, I 100]) ∧ Ext w w' := by
 go_enter Tryz.func86, Tryz.ntmps86
 go_wp2_with fail
 refine bodyPost_ret (v := .agg #[I 8, I 0, I 0, I 100]) (by simp [results, Tryz.results86, go_sem, *]) rfl ⟨rfl, xe⟩
theorem spec_DefaultPolicy (w : World) : Calls Tryz.prog 91 #[] w fun e w' => e = .returned (.agg #[I 8, I 0, I 0, I 100]) ∧ Ext w w' := by
 go_enter Tryz.func91, Tryz.ntmps91
 go_wp2_with fail
 refine bodyPost_ret (v := .agg #[I 8, I 0, I 0, I 100]) (by simp [results, Tryz.results91, go_sem, *]) rfl ⟨rfl, xe⟩
theorem impl_Min (a b : Int) (w : World) : Calls Tryz.prog 150 #[I a, I b] w fun e w' => e = .returned (I (minI a b)) ∧ w = w' := by
 by_cases h : b < a
 · have HF : Hid (minI a b = b) := by unfold Hid minI; rw [if_pos h]
   have d1 : decide (b < a) = true := decide_eq_true h
   go_enter Tryz.func150, Tryz.ntmps150
   go_wp2_with fail
   go_ret
   exact ⟨ret_int HF.out.symm, rfl⟩
 · have HF : Hid (minI a b = a) := by unfold Hid minI; rw [if_neg h]
   have d1 : decide (b < a) = false := decide_eq_false h
   go_enter Tryz.func150, Tryz.ntmps150
   go_wp2_with fail
   go_ret
   exact ⟨ret_int HF.out.symm, rfl⟩
theorem impl_ExpiryFor (p : DPolicy) (ts : Int) (w : World) : Calls Tryz.prog 123 #[.agg #[I p.maxLen, I p.denied, I p.closed, I p.life], I ts] w fun e w' => e = .returned (I (expFor p ts)) ∧ Ext w w' := by
 go_enter Tryz.func123, Tryz.ntmps123
 go_wp2_with fail
 refine (impl_Min _ _ _).mono ?_;rintro e w1 ⟨rfl, rfl⟩;go_wp2_with fail
 go_ret
 exact ⟨ret_int rfl, xe⟩
theorem spec_ExpiryFor (p : DPolicy) (ts : Int) (w : World) : Calls Tryz.prog 127 #[.agg #[I p.maxLen, I p.denied, I p.closed, I p.life], I ts] w fun e w' => e = .returned (I (expFor p ts)) ∧ Ext w w' := by
 go_enter Tryz.func127, Tryz.ntmps127
 go_wp2_with fail
 refine (spec_Min _ _ _).mono ?_;rintro e w1 ⟨rfl, rfl⟩;go_wp2_with fail
 go_ret
 exact ⟨ret_int rfl, xe⟩
theorem impl_PolicyFor (vl : Value) (r : Int) (l : List DPolicy) (w : World) (hl : PolicyS w.heap.size w vl l) :
 Calls Tryz.prog 45 #[vl, I r] w fun e w' => e = .returned (.agg #[I (polFor l r).maxLen, I (polFor l r).denied, I (polFor l r).closed, I (polFor l r).life]) ∧ Ext w w' := by
 obtain ⟨Al, nl, cl, rfl, ll, kl, ml, -⟩ := id hl;subst ll;unfold maxLen at ml;have Rl := Lib.hid hl; clear hl
 go_enter Tryz.func45, Tryz.ntmps45
 go_wp2_with fail
 refine name_calls (fun W => Ext w W ∧ Blk W w.heap.size 82 [I 0, I 0, I 0, I 0]) ⟨xe, xb⟩ ?_;rintro w0 ⟨ew0, br⟩;have BR := Lib.hid br; clear br;refine (impl_InRange _ _ _ _).mono ?_;rintro e w1 ⟨rfl, rfl⟩;cases h1 : inR r 0 (l.length - 1)
 · have HF : Hid (polFor l r = dPolicy) := by unfold Hid polFor; rw [h1]; rfl
   go_wp2_with fail
   refine (impl_DefaultPolicy _).mono ?_;rintro e w2 ⟨rfl, e2⟩;have br := BR.out.ext (w' := w2) xe;have lbr := br.lt;obtain ⟨qbr_0, qbr_1, qbr_2, qbr_3⟩ := blk4 br;have fbr_0 := br.frozen 0;have fbr_1 := br.frozen 1;have fbr_2 := br.frozen 2;have fbr_3 := br.frozen 3;clear br;go_wp2_with fail
   rw [HF.out];refine bodyPost_ret (v := .agg #[I 8, I 0, I 0, I 100]) (by simp [results, Tryz.results45, go_sem, *]) rfl ⟨rfl, xe⟩
 obtain ⟨j0, j1⟩ := inR_iff.1 h1;obtain ⟨k, rfl⟩ := Int.eq_ofNat_of_zero_le j0
 have hkl : k < l.length := by omega
 obtain ⟨b, off, rfl, hb, hk2, hc⟩ := (Rl.out.ext (w' := w0) xe).at_ hkl
 have HG : Hid (polFor l k = if validPol l[k] then l[k] else dPolicy) := by unfold Hid polFor; rw [h1, Int.toNat_natCast, getD_is hkl]; simp
 clear h1;have HC := Lib.hid hc
 generalize l[k] = x at *
 obtain ⟨h0, h1, h2, h3⟩ := hc
 have i1 : (k : Int) < (l.length : Int) := by omega
 have i0 : (0 : Int) ≤ (k : Int) := by omega
 go_wp2_with fail
 refine (impl_ValidPolicy (x) _).mono ?_;rintro e w2 ⟨rfl, ew2⟩;cases h4 : validPol x
 · have HF : Hid (polFor l k = dPolicy) := by unfold Hid; rw [HG.out, h4]; rfl
   go_wp2_with fail
   refine (impl_DefaultPolicy _).mono ?_;rintro e w3 ⟨rfl, e3⟩;have br := BR.out.ext (w' := w3) xe;have lbr := br.lt;obtain ⟨qbr_0, qbr_1, qbr_2, qbr_3⟩ := blk4 br;have fbr_0 := br.frozen 0;have fbr_1 := br.frozen 1;have fbr_2 := br.frozen 2;have fbr_3 := br.frozen 3;clear br;go_wp2_with fail
   rw [HF.out];refine bodyPost_ret (v := .agg #[I 8, I 0, I 0, I 100]) (by simp [results, Tryz.results45, go_sem, *]) rfl ⟨rfl, xe⟩
 · have HF : Hid (polFor l k = x) := by unfold Hid; rw [HG.out, h4]; rfl
   clear h0 h1 h2 h3;obtain ⟨g0, g1, g2, g3⟩ := PolicyAt.keeps _ _ _ _ _ _ _ ew2.size ew2.same hb HC.out;have zz := ew2.size;have br := BR.out.ext (w' := w2) xe;have lbr := br.lt;obtain ⟨qbr_0, qbr_1, qbr_2, qbr_3⟩ := blk4 br;have fbr_0 := br.frozen 0;have fbr_1 := br.frozen 1;have fbr_2 := br.frozen 2;have fbr_3 := br.frozen 3;clear br;go_wp2_with fail
   rw [HF.out];refine bodyPost_ret (v := .agg #[I x.maxLen, I x.denied, I x.closed, I x.life]) (by simp [results, Tryz.results45, go_sem, *]) rfl ⟨rfl, xe⟩
theorem spec_PolicyFor (vl : Value) (r : Int) (l : List DPolicy) (w : World) (hl : PolicyS w.heap.size w vl l) :
 Calls Tryz.prog 47 #[vl, I r] w fun e w' => e = .returned (.agg #[I (polFor l r).maxLen, I (polFor l r).denied, I (polFor l r).closed, I (polFor l r).life]) ∧ Ext w w' := by
 obtain ⟨Al, nl, cl, rfl, ll, kl, ml, -⟩ := id hl;subst ll;unfold maxLen at ml;have Rl := Lib.hid hl; clear hl
 go_enter Tryz.func47, Tryz.ntmps47
 go_wp2_with fail
 refine name_calls (fun W => Ext w W ∧ Blk W w.heap.size 82 [I 0, I 0, I 0, I 0]) ⟨xe, xb⟩ ?_;rintro w0 ⟨ew0, br⟩;have BR := Lib.hid br; clear br;refine (spec_l1In _ _ _ _).mono ?_;rintro e w1 ⟨rfl, rfl⟩;cases h1 : inR r 0 (l.length - 1)
 · have HF : Hid (polFor l r = dPolicy) := by unfold Hid polFor; rw [h1]; rfl
   go_wp2_with fail
   refine (spec_DefaultPolicy _).mono ?_;rintro e w2 ⟨rfl, e2⟩;have br := BR.out.ext (w' := w2) xe;have lbr := br.lt;obtain ⟨qbr_0, qbr_1, qbr_2, qbr_3⟩ := blk4 br;have fbr_0 := br.frozen 0;have fbr_1 := br.frozen 1;have fbr_2 := br.frozen 2;have fbr_3 := br.frozen 3;clear br;go_wp2_with fail
   rw [HF.out];refine bodyPost_ret (v := .agg #[I 8, I 0, I 0, I 100]) (by simp [results, Tryz.results47, go_sem, *]) rfl ⟨rfl, xe⟩
 obtain ⟨j0, j1⟩ := inR_iff.1 h1;obtain ⟨k, rfl⟩ := Int.eq_ofNat_of_zero_le j0
 have hkl : k < l.length := by omega
 obtain ⟨b, off, rfl, hb, hk2, hc⟩ := (Rl.out.ext (w' := w0) xe).at_ hkl
 have HG : Hid (polFor l k = if validPol l[k] then l[k] else dPolicy) := by unfold Hid polFor; rw [h1, Int.toNat_natCast, getD_is hkl]; simp
 clear h1;have HC := Lib.hid hc
 generalize l[k] = x at *
 obtain ⟨h0, h1, h2, h3⟩ := hc
 have i1 : (k : Int) < (l.length : Int) := by omega
 have i0 : (0 : Int) ≤ (k : Int) := by omega
 go_wp2_with fail
 refine (spec_ValidPolicy (x) _).mono ?_;rintro e w2 ⟨rfl, ew2⟩;cases h4 : validPol x
 · have HF : Hid (polFor l k = dPolicy) := by unfold Hid; rw [HG.out, h4]; rfl
   go_wp2_with fail
   refine (spec_DefaultPolicy _).mono ?_;rintro e w3 ⟨rfl, e3⟩;have br := BR.out.ext (w' := w3) xe;have lbr := br.lt;obtain ⟨qbr_0, qbr_1, qbr_2, qbr_3⟩ := blk4 br;have fbr_0 := br.frozen 0;have fbr_1 := br.frozen 1;have fbr_2 := br.frozen 2;have fbr_3 := br.frozen 3;clear br;go_wp2_with fail
   rw [HF.out];refine bodyPost_ret (v := .agg #[I 8, I 0, I 0, I 100]) (by simp [results, Tryz.results47, go_sem, *]) rfl ⟨rfl, xe⟩
 · have HF : Hid (polFor l k = x) := by unfold Hid; rw [HG.out, h4]; rfl
   clear h0 h1 h2 h3;obtain ⟨g0, g1, g2, g3⟩ := PolicyAt.keeps _ _ _ _ _ _ _ ew2.size ew2.same hb HC.out;have zz := ew2.size;have br := BR.out.ext (w' := w2) xe;have lbr := br.lt;obtain ⟨qbr_0, qbr_1, qbr_2, qbr_3⟩ := blk4 br;have fbr_0 := br.frozen 0;have fbr_1 := br.frozen 1;have fbr_2 := br.frozen 2;have fbr_3 := br.frozen 3;clear br;go_wp2_with fail
   rw [HF.out];refine bodyPost_ret (v := .agg #[I x.maxLen, I x.denied, I x.closed, I x.life]) (by simp [results, Tryz.results47, go_sem, *]) rfl ⟨rfl, xe⟩
theorem al_snoc {α : Type} (p : α → Bool) (l : List α) (k : Nat) (h : k < l.length) : (l.take (k + 1)).all p = ((l.take k).all p && p l[k]) := by
 rw [take_snoc l k h, List.all_append];simp
theorem al_no {α : Type} (p : α → Bool) (l : List α) (k : Nat) (h : k < l.length) (hp : p l[k] = false) : l.all p = false := by
 rw [List.all_eq_false];exact ⟨l[k], List.getElem_mem h, by simp [hp]⟩
def allows (p : DPolicy) (s : DSegment) (out : Int) : Bool := decide ((s.hops.length : Int) < p.maxLen) && (!contains p.closed out && (ases s.hops).all fun r => !contains p.denied r)
theorem impl_asesOf (vl : Value) (l : List DHop) (w : World) (hl : HopS w.heap.size w vl l) (hn : l.length ≤ 100000000) :
 Calls Tryz.prog 149 #[vl] w fun e w' => ∃ v', e = .returned v' ∧ IntSO w.heap.size w'.heap.size w' v' (ases l) ∧ Ext w w' := by
 obtain ⟨Al, nl, cl, rfl, ll, kl, ml, -⟩ := id hl;subst ll;unfold maxLen at ml;have Rl := Lib.hid hl; clear hl
 go_enter Tryz.func149, Tryz.ntmps149
 go_wp2_with fail
 go_loopw [3, 8] (fun v i wr => ∃ k : Nat, k ≤ l.length ∧ i = I k ∧ IntSO w.heap.size wr.heap.size wr v (ases (l.take k)) ∧ Ext w wr) (fun _ i _ => l.length - (intOf i).toNat)
 case atStart => exact ⟨0, by omega, rfl, Own.nil _ _ _ _ _, xe⟩
 case round =>
  obtain ⟨k, hk, rfl, ho, he⟩ := hrel;have HO := Lib.hid ho; clear ho;by_cases hlt : k < l.length
  · obtain ⟨b, off, rfl, hb, hkl, hc⟩ := (Rl.out.ext (w' := wr) xe).at_ hlt
    have HX := Lib.hid (ases_snoc l k hkl)
    have hml : (ases (l.take k)).length ≤ k := by unfold ases; rw [List.length_map, List.length_take]; omega
    generalize l[k] = x at *
    generalize ases (l.take k) = sl at *
    obtain ⟨h0, h1, h2, h3, h4⟩ := hc;go_wp2_with (at_builtin; refine hold ?_)
    refine unhold (wpList_app w rfl (.tmp 12) (.tmp 15) _ rfl 3 (.int .i64 0) 1 8 Tryz.underlying96 info_int rfl (by omega) _ sl.length (sl.map I) rfl _ 1 1 [I x.asn] rfl
     (by exact ((HO.out.alloc _).alloc _).lt_size) (row_newN _ _ _ _ _ _ (by first | rfl | simp) rfl) (one_ints [x.asn]) xe (by unfold maxLen; omega) (by omega) ?_)
    intro v1 w1 ho1 he1 _ _;have O1 := Lib.hid ho1; clear ho1;go_wp2_with (at_builtin; refine hold ?_)
    go_roundw
    case rel => exact ⟨k + 1, by omega, by go_num, by rw [HX.out]; unfold IntSO; simpa using O1.out, he1⟩
    case measure => simp [intOf]; omega
  · obtain rfl : k = l.length := by omega
    go_wp2_with fail
    go_ret
    exact ⟨_, rfl, by have h := HO.out; rw [List.take_length] at h; exact h, he⟩
theorem impl_SegmentASes (vs : Value) (s : DSegment) (w : World) (hs : SegmentV w.heap.size w vs s) (hn : s.hops.length ≤ 100000000) :
 Calls Tryz.prog 121 #[vs] w fun e w' => ∃ v', e = .returned v' ∧ IntSO w.heap.size w'.heap.size w' v' (ases s.hops) ∧ Ext w w' := by
 obtain ⟨As_2, ns_2, cs_2, rfl, ss_2⟩ := id hs;obtain ⟨ls_2, ks_2, ms_2⟩ := ss_2.len;subst ls_2;unfold maxLen at ms_2;have Rs := Lib.hid hs; clear hs;have Ss_2 := Lib.hid ss_2; clear ss_2
 go_enter Tryz.func121, Tryz.ntmps121
 go_wp2_with fail
 first | refine name_wp ?_ ?_ ?_ | refine name_calls ?_ ?_ ?_
 exact (fun W => Ext w W ∧ Blk W (w.heap.size) 33 [I s.ts, I s.beta, .slice As_2 s.hops.length cs_2]);exact ⟨xe, xb⟩;rintro w0 ⟨ew0, bs⟩;have ls := bs.lt;obtain ⟨ps_0, ps_1, ps_2⟩ := blk3 bs;have Bs := Lib.hid bs; clear bs;refine (impl_asesOf _ s.hops _ (by exact Ss_2.out.ext xe) (by omega)).mono ?_;rintro e w1 ⟨v1, rfl, o1, e1⟩;go_wp2_with fail
 go_ret
 exact ⟨_, rfl, Own.more o1 (Ext.size ew0) (Nat.le_refl _), xe⟩
theorem impl_Allows (p : DPolicy) (vs : Value) (out : Int) (s : DSegment) (w : World) (hs : SegmentV w.heap.size w vs s) (hn : s.hops.length ≤ 100000000) :
 Calls Tryz.prog 83 #[.agg #[I p.maxLen, I p.denied, I p.closed, I p.life], vs, I out] w fun e w' => e = .returned (.bool (allows p s out)) ∧ Ext w w' := by
 obtain ⟨As_2, ns_2, cs_2, rfl, ss_2⟩ := id hs;obtain ⟨ls_2, ks_2, ms_2⟩ := ss_2.len;subst ls_2;unfold maxLen at ms_2;have Rs := Lib.hid hs; clear hs;have Ss_2 := Lib.hid ss_2; clear ss_2;by_cases h0 : p.maxLen ≤ (s.hops.length : Int)
 · have HF : Hid (allows p s out = false) := by unfold Hid allows; rw [decide_eq_false (by omega)]; rfl
   have d0 : decide (p.maxLen ≤ (s.hops.length : Int)) = true := decide_eq_true h0
   go_enter Tryz.func83, Tryz.ntmps83
   go_wp2_with fail
   go_ret
   exact ⟨ret_bool HF.out.symm, xe⟩
 have HF : Hid (allows p s out = (!contains p.closed out && (ases s.hops).all fun r => !contains p.denied r)) := by unfold Hid allows; rw [decide_eq_true (by omega)]; rfl
 have d0 : decide (p.maxLen ≤ (s.hops.length : Int)) = false := decide_eq_false h0
 go_enter Tryz.func83, Tryz.ntmps83
 go_wp2_with fail
 first | refine name_wp ?_ ?_ ?_ | refine name_calls ?_ ?_ ?_
 exact (fun W => Ext w W ∧ Blk W (w.heap.size) 82 [I p.maxLen, I p.denied, I p.closed, I p.life] ∧ Blk W (w.heap.size + 1) 33 [I s.ts, I s.beta, .slice As_2 s.hops.length cs_2]);exact ⟨xe, xb, xb⟩;rintro w0 ⟨ew0, bp, bs⟩;have lp := bp.lt;obtain ⟨pp_0, pp_1, pp_2, pp_3⟩ := blk4 bp;have Bp := Lib.hid bp; clear bp;have ls := bs.lt;obtain ⟨ps_0, ps_1, ps_2⟩ := blk3 bs;have Bs := Lib.hid bs; clear bs;refine (impl_Contains _ _ _).mono ?_;rintro e w1 ⟨rfl, rfl⟩;cases h1 : contains p.closed out
 · have HF2 : Hid (allows p s out = (ases s.hops).all fun r => !contains p.denied r) := by unfold Hid; rw [HF.out, h1]; rfl
   clear h1;go_wp2_with fail
   refine (impl_SegmentASes _ s _ (by exact Rs.out.ext xe) (by omega)).mono ?_;rintro e w1 ⟨v1, rfl, o1, e1⟩;have hsl := IntSO_rd o1;clear o1
   have hal : (ases s.hops).length ≤ 100000000 := by unfold ases; rw [List.length_map]; omega
   generalize ases s.hops = al at *
   obtain ⟨A1, n1, c1, rfl, ln1, -, -, -⟩ := id hsl;subst ln1;have SL := Lib.hid hsl; clear hsl;go_wp2_with fail
   go_loopw [24] (fun i wr => ∃ k : Nat, k ≤ al.length ∧ i = I k ∧ ((al.take k).all fun r => !contains p.denied r) = true ∧ Ext w1 wr) (fun i _ => al.length - (intOf i).toNat)
   case atStart => exact ⟨0, by omega, rfl, by simp, Ext.refl _⟩
   case round =>
    obtain ⟨k, hk, rfl, hq, he⟩ := hrel;have HQ := Lib.hid hq; clear hq;have bp := Bp.out.ext (w' := wr) xe;have lp := bp.lt;obtain ⟨pp_0, pp_1, pp_2, pp_3⟩ := blk4 bp;clear bp;by_cases hlt : k < al.length
    · obtain ⟨b, off, rfl, hb, hkl, hc⟩ := (SL.out.ext (w' := wr) xe).at_ hlt
      have HX := Lib.hid (al_snoc (fun r => !contains p.denied r) al k hkl);have HN := Lib.hid (al_no (fun r => !contains p.denied r) al k hkl);have hc : wr.cell? ⟨b, off + k, none⟩ = some (I al[k]) := hc
      generalize al[k] = r at *
      go_wp2_with fail
      refine (impl_Contains _ _ _).mono ?_;rintro e w2 ⟨rfl, rfl⟩;cases h2 : contains p.denied r
      · have HS : Hid (((al.take (k + 1)).all fun r => !contains p.denied r) = true) := by unfold Hid; rw [HX.out, HQ.out, h2]; rfl
        go_wp2_with fail
        go_roundw
        case rel => exact ⟨k + 1, by omega, by go_num, HS.out, xe⟩
        case measure => simp [intOf]; omega
      · have HG : Hid (allows p s out = false) := by unfold Hid; rw [HF2.out, HN.out (by rw [h2]; rfl)]
        go_wp2_with fail
        go_ret
        exact ⟨ret_bool HG.out.symm, xe⟩
    · obtain rfl : k = al.length := by omega
      rw [List.take_length] at HQ;go_wp2_with fail
      go_ret
      exact ⟨ret_bool (by rw [HF2.out, HQ.out]), xe⟩
 · have HG : Hid (allows p s out = false) := by unfold Hid; rw [HF.out, h1]; rfl
   go_wp2_with fail
   go_ret
   exact ⟨ret_bool HG.out.symm, xe⟩
theorem spec_Allows (p : DPolicy) (vs : Value) (out : Int) (s : DSegment) (w : World) (hs : SegmentV w.heap.size w vs s) (hn : s.hops.length ≤ 100000000) :
 Calls Tryz.prog 88 #[.agg #[I p.maxLen, I p.denied, I p.closed, I p.life], vs, I out] w fun e w' => e = .returned (.bool (allows p s out)) ∧ Ext w w' := by
 obtain ⟨As_2, ns_2, cs_2, rfl, ss_2⟩ := id hs;obtain ⟨ls_2, ks_2, ms_2⟩ := ss_2.len;subst ls_2;unfold maxLen at ms_2;have Rs := Lib.hid hs; clear hs;have Ss_2 := Lib.hid ss_2; clear ss_2;have HF : Hid (allows p s out = (decide ((s.hops.length : Int) < p.maxLen) && (!contains p.closed out && (ases s.hops).all fun r => !contains p.denied r))) := rfl
 go_enter Tryz.func88, Tryz.ntmps88
 go_wp2_with fail
 first | refine name_wp ?_ ?_ ?_ | refine name_calls ?_ ?_ ?_
 exact (fun W => Ext w W ∧ Blk W (w.heap.size) 82 [I p.maxLen, I p.denied, I p.closed, I p.life] ∧ Blk W (w.heap.size + 1) 33 [I s.ts, I s.beta, .slice As_2 s.hops.length cs_2]);exact ⟨xe, xb, xb⟩;rintro w0 ⟨ew0, bp, bs⟩;have lp := bp.lt;obtain ⟨pp_0, pp_1, pp_2, pp_3⟩ := blk4 bp;have Bp := Lib.hid bp; clear bp;have ls := bs.lt;obtain ⟨ps_0, ps_1, ps_2⟩ := blk3 bs;have Bs := Lib.hid bs; clear bs;refine (spec_SegmentASes _ s _ (by exact Rs.out.ext xe) (by omega)).mono ?_;rintro e w1 ⟨v1, rfl, o1, e1⟩;have hsl := IntSO_rd o1;clear o1
 have hal : (ases s.hops).length ≤ 100000000 := by unfold ases; rw [List.length_map]; omega
 generalize ases s.hops = al at *
 obtain ⟨A1, n1, c1, rfl, ln1, -, -, -⟩ := id hsl;subst ln1;have SL := Lib.hid hsl; clear hsl;go_wp2_with fail
 go_loopw [8] (fun i wr => ∃ k : Nat, k ≤ al.length ∧ i = I k ∧ ((al.take k).all fun r => !contains p.denied r) = true ∧ Ext w1 wr) (fun i _ => al.length - (intOf i).toNat)
 case atStart => exact ⟨0, by omega, rfl, by simp, Ext.refl _⟩
 case round =>
  obtain ⟨k, hk, rfl, hq, he⟩ := hrel;have HQ := Lib.hid hq; clear hq;have bp := Bp.out.ext (w' := wr) xe;have lp := bp.lt;obtain ⟨pp_0, pp_1, pp_2, pp_3⟩ := blk4 bp;clear bp;have bs := Bs.out.ext (w' := wr) xe;have ls := bs.lt;obtain ⟨ps_0, ps_1, ps_2⟩ := blk3 bs;clear bs;by_cases hlt : k < al.length
  · obtain ⟨b, off, rfl, hb, hkl, hc⟩ := (SL.out.ext (w' := wr) xe).at_ hlt
    have HX := Lib.hid (al_snoc (fun r => !contains p.denied r) al k hkl);have HN := Lib.hid (al_no (fun r => !contains p.denied r) al k hkl);have hc : wr.cell? ⟨b, off + k, none⟩ = some (I al[k]) := hc
    generalize al[k] = r at *
    have i0 : (0 : Int) ≤ (k : Int) := by omega
    have i1 : (k : Int) < (al.length : Int) := by omega
    cases h2 : contains p.denied r
    · have HS : Hid (((al.take (k + 1)).all fun r => !contains p.denied r) = true) := by unfold Hid; rw [HX.out, HQ.out, h2]; rfl
      go_wp2_with fail
      refine wp_region_L (E := Ext) (w0 := wr) (G := fun τ => match τ with | 23 => some (fun v _ => v = .bool (false)) | _ => none) Ext.refl (fun h k => Ext.trans h k) (by kernel_rfl) (by kernel_rfl) xg (Ext.drew (by exact Ext.refl _)) ?_
      repeat' (first
       | ((with_reducible refine wpL_skip ?_ ?_ ?_)
          · rfl
          · rfl
          simp only [putS])
       | ((with_reducible refine wpL_quiet ?_ ?_ ?_ ?_)
          · rfl
          · rfl
          · rfl
          apply Exists.intro
          refine ⟨fun W hW hS => ?_, ?_⟩
          · have hC := (Ext.facts hW).1
            go_simp
            first | done | (with_reducible rfl) | (rw [if_neg (by omega)]; exact ⟨rfl, rfl⟩) | rfl
          first | (with_reducible refine wpL_boolT ?_) | (with_reducible refine wpL_boolF ?_) | (with_reducible refine wpL_bool (fun hB => ?_) (fun hB => ?_)) | skip
          all_goals simp only [putS])
       | ((refine wpL_call ?_ rfl rfl ?_ ?_ ?_)
          · rfl
          · rfl
          · intro W hW hS
            have hC := (Ext.facts hW).1;unfold growAt
            go_simp
            simp only [growUpon]
            first | (go_at_call 126; ((with_reducible refine Calls.mono (spec_Contains _ _ _) ?_)); rintro e w9 ⟨rfl, rfl⟩; exact ⟨_, rfl, Ext.refl _, by first | rfl | (simp only [*])⟩)
          first | (with_reducible refine wpL_boolT ?_) | (with_reducible refine wpL_boolF ?_) | (with_reducible refine wpL_bool (fun hB => ?_) (fun hB => ?_)) | skip
          all_goals simp only [putS]))
      refine wpL_nil (fun w4 e4 hL => ?_);clear hL;go_wp2_with fail
      go_roundw
      case rel => exact ⟨k + 1, by omega, by go_num, HS.out, xe⟩
      case measure => simp [intOf]; omega
    · have HG : Hid (allows p s out = false) := by unfold Hid; rw [HF.out, HN.out (by rw [h2]; rfl)]; simp
      go_wp2_with fail
      refine wp_region_L (E := Ext) (w0 := wr) (G := fun τ => match τ with | 23 => some (fun v _ => v = .bool (true)) | _ => none) Ext.refl (fun h k => Ext.trans h k) (by kernel_rfl) (by kernel_rfl) xg (Ext.drew (by exact Ext.refl _)) ?_
      repeat' (first
       | ((with_reducible refine wpL_skip ?_ ?_ ?_)
          · rfl
          · rfl
          simp only [putS])
       | ((with_reducible refine wpL_quiet ?_ ?_ ?_ ?_)
          · rfl
          · rfl
          · rfl
          apply Exists.intro
          refine ⟨fun W hW hS => ?_, ?_⟩
          · have hC := (Ext.facts hW).1
            go_simp
            first | done | (with_reducible rfl) | (rw [if_neg (by omega)]; exact ⟨rfl, rfl⟩) | rfl
          first | (with_reducible refine wpL_boolT ?_) | (with_reducible refine wpL_boolF ?_) | (with_reducible refine wpL_bool (fun hB => ?_) (fun hB => ?_)) | skip
          all_goals simp only [putS])
       | ((refine wpL_call ?_ rfl rfl ?_ ?_ ?_)
          · rfl
          · rfl
          · intro W hW hS
            have hC := (Ext.facts hW).1;unfold growAt
            go_simp
            simp only [growUpon]
            first | (go_at_call 126; ((with_reducible refine Calls.mono (spec_Contains _ _ _) ?_)); rintro e w9 ⟨rfl, rfl⟩; exact ⟨_, rfl, Ext.refl _, by first | rfl | (simp only [*])⟩)
          first | (with_reducible refine wpL_boolT ?_) | (with_reducible refine wpL_boolF ?_) | (with_reducible refine wpL_bool (fun hB => ?_) (fun hB => ?_)) | skip
          all_goals simp only [putS]))
      refine wpL_nil (fun w4 e4 hL => ?_);clear hL;go_wp2_with fail
      go_ret
      exact ⟨ret_bool HG.out.symm, xe⟩
  · obtain rfl : k = al.length := by omega
    rw [List.take_length] at HQ;by_cases h0 : (s.hops.length : Int) < p.maxLen
    · have HG : Hid (allows p s out = !contains p.closed out) := by unfold Hid; rw [HF.out, HQ.out, decide_eq_true h0]; simp
      have d0 : decide ((s.hops.length : Int) < p.maxLen) = true := decide_eq_true h0;go_wp2_with fail
      refine (spec_Contains _ _ _).mono ?_;rintro e w2 ⟨rfl, rfl⟩;cases h1 : contains p.closed out
      all_goals
       go_wp2_with fail
       go_ret
       exact ⟨ret_bool (by rw [HG.out, h1]; rfl), xe⟩
    · have HG : Hid (allows p s out = false) := by unfold Hid; rw [HF.out, decide_eq_false h0]; rfl
      have d0 : decide ((s.hops.length : Int) < p.maxLen) = false := decide_eq_false h0;go_wp2_with fail
      go_ret
      exact ⟨ret_bool HG.out.symm, xe⟩
def authHop (key ts beta : Int) (h : DHop) : DHop := { h with mac := hopMac key ts beta h }
theorem impl_AuthenticateHop (key ts beta : Int) (h : DHop) (w : World) :
 Calls Tryz.prog 124 #[I key, I ts, I beta, .agg #[I h.asn, I h.ing, I h.egr, I h.exp, I h.mac]] w fun e w' => e = .returned (.agg #[I h.asn, I h.ing, I h.egr, I h.exp, I (hopMac key ts beta h)]) ∧ Ext w w' := by
 go_enter Tryz.func124, Tryz.ntmps124
 go_wp2_with fail
 refine name_calls (fun W => Ext w W ∧ Blk W w.heap.size 91 [I h.asn, I h.ing, I h.egr, I h.exp, I h.mac] ∧ Blk W (w.heap.size + 1) 91 [I 0, I 0, I 0, I 0, I 0]) ⟨xe, xb, xb⟩ ?_;rintro w0 ⟨ew0, bh, br⟩;have Bh := Lib.hid bh; have BR := Lib.hid br; clear bh br;refine (impl_HopMAC key ts beta h _).mono ?_;rintro e w1 ⟨rfl, e1⟩;generalize hmc : hopMac key ts beta h = mc;have HM := Lib.hid hmc; clear hmc;have bh := Bh.out.ext (w' := w1) xe;have lbh := bh.lt;obtain ⟨qbh_0, qbh_1, qbh_2, qbh_3, qbh_4⟩ := blk5 bh;have fbh_0 := bh.frozen 0;have fbh_1 := bh.frozen 1;have fbh_2 := bh.frozen 2;have fbh_3 := bh.frozen 3;have fbh_4 := bh.frozen 4;clear bh;have br := BR.out.ext (w' := w1) xe;have lbr := br.lt;obtain ⟨qbr_0, qbr_1, qbr_2, qbr_3, qbr_4⟩ := blk5 br;have fbr_0 := br.frozen 0;have fbr_1 := br.frozen 1;have fbr_2 := br.frozen 2;have fbr_3 := br.frozen 3;have fbr_4 := br.frozen 4;clear br;go_wp2_with fail
 refine bodyPost_ret (v := .agg #[I h.asn, I h.ing, I h.egr, I h.exp, I mc]) (by simp [results, Tryz.results124, go_sem, *]) rfl ⟨by rw [HM.out], xe⟩
theorem spec_AuthenticateHop (key ts beta : Int) (h : DHop) (w : World) :
 Calls Tryz.prog 68 #[I key, I ts, I beta, .agg #[I h.asn, I h.ing, I h.egr, I h.exp, I h.mac]] w fun e w' => e = .returned (.agg #[I h.asn, I h.ing, I h.egr, I h.exp, I (hopMac key ts beta h)]) ∧ Ext w w' := by
 go_enter Tryz.func68, Tryz.ntmps68
 go_wp2_with fail
 refine name_calls (fun W => Ext w W ∧ Blk W (w.heap.size + 1) 91 [I 0, I 0, I 0, I 0, I 0] ∧ Blk W (w.heap.size + 1 + 1) 91 [I h.asn, I h.ing, I h.egr, I h.exp, I h.mac]) ⟨xe, xb, xb⟩ ?_;rintro w0 ⟨ew0, br, bh⟩;have Bh := Lib.hid bh; have BR := Lib.hid br; clear bh br;refine (spec_HopMAC key ts beta h _).mono ?_;rintro e w1 ⟨rfl, e1⟩;generalize hmc : hopMac key ts beta h = mc;have HM := Lib.hid hmc; clear hmc;have bh := Bh.out.ext (w' := w1) xe;have lbh := bh.lt;obtain ⟨qbh_0, qbh_1, qbh_2, qbh_3, qbh_4⟩ := blk5 bh;have fbh_0 := bh.frozen 0;have fbh_1 := bh.frozen 1;have fbh_2 := bh.frozen 2;have fbh_3 := bh.frozen 3;have fbh_4 := bh.frozen 4;clear bh;have br := BR.out.ext (w' := w1) xe;have lbr := br.lt;obtain ⟨qbr_0, qbr_1, qbr_2, qbr_3, qbr_4⟩ := blk5 br;have fbr_0 := br.frozen 0;have fbr_1 := br.frozen 1;have fbr_2 := br.frozen 2;have fbr_3 := br.frozen 3;have fbr_4 := br.frozen 4;clear br;go_wp2_with fail
 refine bodyPost_ret (v := .agg #[I h.asn, I h.ing, I h.egr, I h.exp, I mc]) (by simp [results, Tryz.results68, go_sem, *]) rfl ⟨by rw [HM.out], xe⟩
end Go.Proofs.YtmopmgaeiokfjaaGreat
