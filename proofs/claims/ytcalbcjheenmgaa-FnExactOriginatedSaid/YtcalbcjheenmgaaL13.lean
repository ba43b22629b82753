/- Contracts of the program's and the reference's functions that make segments: SegmentASes, Allows, AuthenticateHop. -/
import Derived.Test.YtcalbcjheenmgaaL12
import Derived.Test.YtcalbcjheenmgaaL10b
namespace Go.Proofs.Ytcalbcjheenmgaa
open Go.RowKit
set_option linter.unusedVariables false
theorem al_snoc {α : Type} (p : α → Bool) (l : List α) (k : Nat) (h : k < l.length) : (l.take (k + 1)).all p = ((l.take k).all p && p l[k]) := by
  rw [take_snoc l k h, List.all_append]
  simp
theorem al_no {α : Type} (p : α → Bool) (l : List α) (k : Nat) (h : k < l.length) (hp : p l[k] = false) : l.all p = false := by
  rw [List.all_eq_false]
  exact ⟨l[k], List.getElem_mem h, by simp [hp]⟩
def allows (p : DPolicy) (s : DSegment) (out : Int) : Bool := decide ((s.hops.length : Int) < p.maxLen) && (!contains p.closed out && (ases s.hops).all fun r => !contains p.denied r)
set_option maxRecDepth 100000 in
set_option maxHeartbeats 1000000 in
theorem impl_asesOf (vl : Value) (l : List DHop) (w : World) (hl : HopS w.heap.size w vl l) (hn : l.length ≤ 100000000) :
    Calls Try.prog 207 #[vl] w fun e w' => ∃ v', e = .returned v' ∧ IntSO w.heap.size w'.heap.size w' v' (ases l) ∧ Ext w w' := by
  obtain ⟨Al, nl, cl, rfl, ll, kl, ml, -⟩ := id hl
  subst ll
  unfold maxLen at ml
  have Rl := Lib.hid hl; clear hl
  go_enter Try.func207, Try.ntmps207
  go_wp2_with fail
  go_loopw [3, 8] (fun v i wr => ∃ k : Nat, k ≤ l.length ∧ i = I k ∧ IntSO w.heap.size wr.heap.size wr v (ases (l.take k)) ∧ Ext w wr) (fun _ i _ => l.length - (intOf i).toNat)
  case atStart => exact ⟨0, by omega, rfl, Own.nil _ _ _ _ _, (by repeat (first | (with_reducible exact Ext.refl _) | (with_reducible assumption) | (with_reducible refine Ext.alloc ?_ _) | (with_reducible refine Ext.drew ?_) | (with_reducible refine Ext.drewN ?_ _) | (with_reducible refine Ext.setCell (p := _) ?_ ?ge _; case ge => (dsimp only; omega)) | (with_reducible refine Ext.trans ?_ (by with_reducible assumption))))⟩
  case round =>
    obtain ⟨k, hk, rfl, ho, he⟩ := hrel
    have HO := Lib.hid ho; clear ho
    by_cases hlt : k < l.length
    · obtain ⟨b, off, rfl, hb, hkl, hc⟩ := (Rl.out.ext (w' := wr) (by repeat (first | (with_reducible exact Ext.refl _) | (with_reducible assumption) | (with_reducible refine Ext.alloc ?_ _) | (with_reducible refine Ext.drew ?_) | (with_reducible refine Ext.drewN ?_ _) | (with_reducible refine Ext.setCell (p := _) ?_ ?ge _; case ge => (dsimp only; omega)) | (with_reducible refine Ext.trans ?_ (by with_reducible assumption))))).at_ hlt
      have HX := Lib.hid (ases_snoc l k hkl)
      have hml : (ases (l.take k)).length ≤ k := by unfold ases; rw [List.length_map, List.length_take]; omega
      generalize l[k] = x at *
      generalize ases (l.take k) = sl at *
      obtain ⟨h0, h1, h2, h3, h4⟩ := hc
      go_wp2_with (at_builtin; refine hold ?_)
      refine unhold (wpList_app w rfl (.tmp 12) (.tmp 15) _ rfl 3 (.int .i64 0) 1 8 Try.underlying38 info_int rfl (by omega) _ sl.length (sl.map I) rfl _ 1 1 [I x.asn] rfl
        (by exact ((HO.out.alloc _).alloc _).lt_size) (row_newN _ _ _ _ _ _ (by first | rfl | simp) rfl) (one_ints [x.asn]) (by repeat (first | (with_reducible exact Ext.refl _) | (with_reducible assumption) | (with_reducible refine Ext.alloc ?_ _) | (with_reducible refine Ext.drew ?_) | (with_reducible refine Ext.drewN ?_ _) | (with_reducible refine Ext.setCell (p := _) ?_ ?ge _; case ge => (dsimp only; omega)) | (with_reducible refine Ext.trans ?_ (by with_reducible assumption)))) (by unfold maxLen; omega) (by omega) ?_)
      intro v1 w1 ho1 he1 _ _
      have O1 := Lib.hid ho1; clear ho1
      go_wp2_with (at_builtin; refine hold ?_)
      go_roundw
      case rel => exact ⟨k + 1, by omega, by go_num, by rw [HX.out]; unfold IntSO; simpa using O1.out, he1⟩
      case measure => simp [intOf]; omega
    · obtain rfl : k = l.length := by omega
      go_wp2_with fail
      go_ret
      exact ⟨_, rfl, by have h := HO.out; rw [List.take_length] at h; exact h, he⟩
set_option maxRecDepth 100000 in
set_option maxHeartbeats 1000000 in
theorem impl_SegmentASes (vs : Value) (s : DSegment) (w : World) (hs : SegmentV w.heap.size w vs s) (hn : s.hops.length ≤ 100000000) :
    Calls Try.prog 198 #[vs] w fun e w' => ∃ v', e = .returned v' ∧ IntSO w.heap.size w'.heap.size w' v' (ases s.hops) ∧ Ext w w' := by
  obtain ⟨As_2, ns_2, cs_2, rfl, ss_2⟩ := id hs
  obtain ⟨ls_2, ks_2, ms_2⟩ := ss_2.len
  subst ls_2
  unfold maxLen at ms_2
  have Rs := Lib.hid hs; clear hs
  have Ss_2 := Lib.hid ss_2; clear ss_2
  go_enter Try.func198, Try.ntmps198
  go_wp2_with fail
  first | refine name_wp (fun W => Ext w W ∧ Blk W (w.heap.size) 31 [I s.ts, I s.beta, .slice As_2 s.hops.length cs_2]) ⟨(by repeat (first | (with_reducible exact Ext.refl _) | (with_reducible assumption) | (with_reducible refine Ext.alloc ?_ _) | (with_reducible refine Ext.drew ?_) | (with_reducible refine Ext.drewN ?_ _) | (with_reducible refine Ext.setCell (p := _) ?_ ?ge _; case ge => (dsimp only; omega)) | (with_reducible refine Ext.trans ?_ (by with_reducible assumption)))), (by repeat (first | (with_reducible exact Blk.new _ _ _) | ((with_reducible refine Blk.new' _ _ _ _ ?_) <;> (simp; done)) | (with_reducible refine Blk.alloc ?_ _) | (with_reducible refine Blk.drew ?_)))⟩ ?_ | refine name_calls (fun W => Ext w W ∧ Blk W (w.heap.size) 31 [I s.ts, I s.beta, .slice As_2 s.hops.length cs_2]) ⟨(by repeat (first | (with_reducible exact Ext.refl _) | (with_reducible assumption) | (with_reducible refine Ext.alloc ?_ _) | (with_reducible refine Ext.drew ?_) | (with_reducible refine Ext.drewN ?_ _) | (with_reducible refine Ext.setCell (p := _) ?_ ?ge _; case ge => (dsimp only; omega)) | (with_reducible refine Ext.trans ?_ (by with_reducible assumption)))), (by repeat (first | (with_reducible exact Blk.new _ _ _) | ((with_reducible refine Blk.new' _ _ _ _ ?_) <;> (simp; done)) | (with_reducible refine Blk.alloc ?_ _) | (with_reducible refine Blk.drew ?_)))⟩ ?_
  rintro w0 ⟨ew0, bs⟩
  have ls := bs.lt
  obtain ⟨ps_0, ps_1, ps_2⟩ := blk3 bs
  have Bs := Lib.hid bs; clear bs
  refine (impl_asesOf _ s.hops _ (by exact Ss_2.out.ext (by repeat (first | (with_reducible exact Ext.refl _) | (with_reducible assumption) | (with_reducible refine Ext.alloc ?_ _) | (with_reducible refine Ext.drew ?_) | (with_reducible refine Ext.drewN ?_ _) | (with_reducible refine Ext.setCell (p := _) ?_ ?ge _; case ge => (dsimp only; omega)) | (with_reducible refine Ext.trans ?_ (by with_reducible assumption))))) (by omega)).mono ?_
  rintro e w1 ⟨v1, rfl, o1, e1⟩
  go_wp2_with fail
  go_ret
  exact ⟨_, rfl, Own.more o1 (Ext.size ew0) (Nat.le_refl _), (by repeat (first | (with_reducible exact Ext.refl _) | (with_reducible assumption) | (with_reducible refine Ext.alloc ?_ _) | (with_reducible refine Ext.drew ?_) | (with_reducible refine Ext.drewN ?_ _) | (with_reducible refine Ext.setCell (p := _) ?_ ?ge _; case ge => (dsimp only; omega)) | (with_reducible refine Ext.trans ?_ (by with_reducible assumption))))⟩
set_option maxRecDepth 100000 in
set_option maxHeartbeats 1000000 in
theorem impl_Allows (p : DPolicy) (vs : Value) (out : Int) (s : DSegment) (w : World) (hs : SegmentV w.heap.size w vs s) (hn : s.hops.length ≤ 100000000) :
    Calls Try.prog 174 #[.agg #[I p.maxLen, I p.denied, I p.closed, I p.life], vs, I out] w fun e w' => e = .returned (.bool (allows p s out)) ∧ Ext w w' := by
  obtain ⟨As_2, ns_2, cs_2, rfl, ss_2⟩ := id hs
  obtain ⟨ls_2, ks_2, ms_2⟩ := ss_2.len
  subst ls_2
  unfold maxLen at ms_2
  have Rs := Lib.hid hs; clear hs
  have Ss_2 := Lib.hid ss_2; clear ss_2
  by_cases h0 : p.maxLen ≤ (s.hops.length : Int)
  · have HF : Hid (allows p s out = false) := by unfold Hid allows; rw [decide_eq_false (by omega)]; rfl
    have d0 : decide (p.maxLen ≤ (s.hops.length : Int)) = true := decide_eq_true h0
    go_enter Try.func174, Try.ntmps174
    go_wp2_with fail
    go_ret
    exact ⟨ret_bool HF.out.symm, (by repeat (first | (with_reducible exact Ext.refl _) | (with_reducible assumption) | (with_reducible refine Ext.alloc ?_ _) | (with_reducible refine Ext.drew ?_) | (with_reducible refine Ext.drewN ?_ _) | (with_reducible refine Ext.setCell (p := _) ?_ ?ge _; case ge => (dsimp only; omega)) | (with_reducible refine Ext.trans ?_ (by with_reducible assumption))))⟩
  have HF : Hid (allows p s out = (!contains p.closed out && (ases s.hops).all fun r => !contains p.denied r)) := by unfold Hid allows; rw [decide_eq_true (by omega)]; rfl
  have d0 : decide (p.maxLen ≤ (s.hops.length : Int)) = false := decide_eq_false h0
  go_enter Try.func174, Try.ntmps174
  go_wp2_with fail
  first | refine name_wp (fun W => Ext w W ∧ Blk W (w.heap.size) 157 [I p.maxLen, I p.denied, I p.closed, I p.life] ∧ Blk W (w.heap.size + 1) 31 [I s.ts, I s.beta, .slice As_2 s.hops.length cs_2]) ⟨(by repeat (first | (with_reducible exact Ext.refl _) | (with_reducible assumption) | (with_reducible refine Ext.alloc ?_ _) | (with_reducible refine Ext.drew ?_) | (with_reducible refine Ext.drewN ?_ _) | (with_reducible refine Ext.setCell (p := _) ?_ ?ge _; case ge => (dsimp only; omega)) | (with_reducible refine Ext.trans ?_ (by with_reducible assumption)))), (by repeat (first | (with_reducible exact Blk.new _ _ _) | ((with_reducible refine Blk.new' _ _ _ _ ?_) <;> (simp; done)) | (with_reducible refine Blk.alloc ?_ _) | (with_reducible refine Blk.drew ?_))), (by repeat (first | (with_reducible exact Blk.new _ _ _) | ((with_reducible refine Blk.new' _ _ _ _ ?_) <;> (simp; done)) | (with_reducible refine Blk.alloc ?_ _) | (with_reducible refine Blk.drew ?_)))⟩ ?_ | refine name_calls (fun W => Ext w W ∧ Blk W (w.heap.size) 157 [I p.maxLen, I p.denied, I p.closed, I p.life] ∧ Blk W (w.heap.size + 1) 31 [I s.ts, I s.beta, .slice As_2 s.hops.length cs_2]) ⟨(by repeat (first | (with_reducible exact Ext.refl _) | (with_reducible assumption) | (with_reducible refine Ext.alloc ?_ _) | (with_reducible refine Ext.drew ?_) | (with_reducible refine Ext.drewN ?_ _) | (with_reducible refine Ext.setCell (p := _) ?_ ?ge _; case ge => (dsimp only; omega)) | (with_reducible refine Ext.trans ?_ (by with_reducible assumption)))), (by repeat (first | (with_reducible exact Blk.new _ _ _) | ((with_reducible refine Blk.new' _ _ _ _ ?_) <;> (simp; done)) | (with_reducible refine Blk.alloc ?_ _) | (with_reducible refine Blk.drew ?_))), (by repeat (first | (with_reducible exact Blk.new _ _ _) | ((with_reducible refine Blk.new' _ _ _ _ ?_) <;> (simp; done)) | (with_reducible refine Blk.alloc ?_ _) | (with_reducible refine Blk.drew ?_)))⟩ ?_
  rintro w0 ⟨ew0, bp, bs⟩
  have lp := bp.lt
  obtain ⟨pp_0, pp_1, pp_2, pp_3⟩ := blk4 bp
  have Bp := Lib.hid bp; clear bp
  have ls := bs.lt
  obtain ⟨ps_0, ps_1, ps_2⟩ := blk3 bs
  have Bs := Lib.hid bs; clear bs
  refine (impl_Contains _ _ _).mono ?_
  rintro e w1 ⟨rfl, rfl⟩
  cases h1 : contains p.closed out
  · have HF2 : Hid (allows p s out = (ases s.hops).all fun r => !contains p.denied r) := by unfold Hid; rw [HF.out, h1]; rfl
    clear h1
    go_wp2_with fail
    refine (impl_SegmentASes _ s _ (by exact Rs.out.ext (by repeat (first | (with_reducible exact Ext.refl _) | (with_reducible assumption) | (with_reducible refine Ext.alloc ?_ _) | (with_reducible refine Ext.drew ?_) | (with_reducible refine Ext.drewN ?_ _) | (with_reducible refine Ext.setCell (p := _) ?_ ?ge _; case ge => (dsimp only; omega)) | (with_reducible refine Ext.trans ?_ (by with_reducible assumption))))) (by omega)).mono ?_
    rintro e w1 ⟨v1, rfl, o1, e1⟩
    have hsl := IntSO_rd o1
    clear o1
    have hal : (ases s.hops).length ≤ 100000000 := by unfold ases; rw [List.length_map]; omega
    generalize ases s.hops = al at *
    obtain ⟨A1, n1, c1, rfl, ln1, -, -, -⟩ := id hsl
    subst ln1
    have SL := Lib.hid hsl; clear hsl
    go_wp2_with fail
    go_loopw [24] (fun i wr => ∃ k : Nat, k ≤ al.length ∧ i = I k ∧ ((al.take k).all fun r => !contains p.denied r) = true ∧ Ext w1 wr) (fun i _ => al.length - (intOf i).toNat)
    case atStart => exact ⟨0, by omega, rfl, by simp, Ext.refl _⟩
    case round =>
      obtain ⟨k, hk, rfl, hq, he⟩ := hrel
      have HQ := Lib.hid hq; clear hq
      have bp := Bp.out.ext (w' := wr) (by repeat (first | (with_reducible exact Ext.refl _) | (with_reducible assumption) | (with_reducible refine Ext.alloc ?_ _) | (with_reducible refine Ext.drew ?_) | (with_reducible refine Ext.drewN ?_ _) | (with_reducible refine Ext.setCell (p := _) ?_ ?ge _; case ge => (dsimp only; omega)) | (with_reducible refine Ext.trans ?_ (by with_reducible assumption))))
      have lp := bp.lt
      obtain ⟨pp_0, pp_1, pp_2, pp_3⟩ := blk4 bp
      clear bp
      by_cases hlt : k < al.length
      · obtain ⟨b, off, rfl, hb, hkl, hc⟩ := (SL.out.ext (w' := wr) (by repeat (first | (with_reducible exact Ext.refl _) | (with_reducible assumption) | (with_reducible refine Ext.alloc ?_ _) | (with_reducible refine Ext.drew ?_) | (with_reducible refine Ext.drewN ?_ _) | (with_reducible refine Ext.setCell (p := _) ?_ ?ge _; case ge => (dsimp only; omega)) | (with_reducible refine Ext.trans ?_ (by with_reducible assumption))))).at_ hlt
        have HX := Lib.hid (al_snoc (fun r => !contains p.denied r) al k hkl)
        have HN := Lib.hid (al_no (fun r => !contains p.denied r) al k hkl)
        have hc : wr.cell? ⟨b, off + k, none⟩ = some (I al[k]) := hc
        generalize al[k] = r at *
        go_wp2_with fail
        refine (impl_Contains _ _ _).mono ?_
        rintro e w2 ⟨rfl, rfl⟩
        cases h2 : contains p.denied r
        · have HS : Hid (((al.take (k + 1)).all fun r => !contains p.denied r) = true) := by unfold Hid; rw [HX.out, HQ.out, h2]; rfl
          go_wp2_with fail
          go_roundw
          case rel => exact ⟨k + 1, by omega, by go_num, HS.out, (by repeat (first | (with_reducible exact Ext.refl _) | (with_reducible assumption) | (with_reducible refine Ext.alloc ?_ _) | (with_reducible refine Ext.drew ?_) | (with_reducible refine Ext.drewN ?_ _) | (with_reducible refine Ext.setCell (p := _) ?_ ?ge _; case ge => (dsimp only; omega)) | (with_reducible refine Ext.trans ?_ (by with_reducible assumption))))⟩
          case measure => simp [intOf]; omega
        · have HG : Hid (allows p s out = false) := by unfold Hid; rw [HF2.out, HN.out (by rw [h2]; rfl)]
          go_wp2_with fail
          go_ret
          exact ⟨ret_bool HG.out.symm, (by repeat (first | (with_reducible exact Ext.refl _) | (with_reducible assumption) | (with_reducible refine Ext.alloc ?_ _) | (with_reducible refine Ext.drew ?_) | (with_reducible refine Ext.drewN ?_ _) | (with_reducible refine Ext.setCell (p := _) ?_ ?ge _; case ge => (dsimp only; omega)) | (with_reducible refine Ext.trans ?_ (by with_reducible assumption))))⟩
      · obtain rfl : k = al.length := by omega
        rw [List.take_length] at HQ
        go_wp2_with fail
        go_ret
        exact ⟨ret_bool (by rw [HF2.out, HQ.out]), (by repeat (first | (with_reducible exact Ext.refl _) | (with_reducible assumption) | (with_reducible refine Ext.alloc ?_ _) | (with_reducible refine Ext.drew ?_) | (with_reducible refine Ext.drewN ?_ _) | (with_reducible refine Ext.setCell (p := _) ?_ ?ge _; case ge => (dsimp only; omega)) | (with_reducible refine Ext.trans ?_ (by with_reducible assumption))))⟩
  · have HG : Hid (allows p s out = false) := by unfold Hid; rw [HF.out, h1]; rfl
    go_wp2_with fail
    go_ret
    exact ⟨ret_bool HG.out.symm, (by repeat (first | (with_reducible exact Ext.refl _) | (with_reducible assumption) | (with_reducible refine Ext.alloc ?_ _) | (with_reducible refine Ext.drew ?_) | (with_reducible refine Ext.drewN ?_ _) | (with_reducible refine Ext.setCell (p := _) ?_ ?ge _; case ge => (dsimp only; omega)) | (with_reducible refine Ext.trans ?_ (by with_reducible assumption))))⟩
set_option maxRecDepth 100000 in
set_option maxHeartbeats 1000000 in
theorem spec_Allows (p : DPolicy) (vs : Value) (out : Int) (s : DSegment) (w : World) (hs : SegmentV w.heap.size w vs s) (hn : s.hops.length ≤ 100000000) :
    Calls Try.prog 165 #[.agg #[I p.maxLen, I p.denied, I p.closed, I p.life], vs, I out] w fun e w' => e = .returned (.bool (allows p s out)) ∧ Ext w w' := by
  obtain ⟨As_2, ns_2, cs_2, rfl, ss_2⟩ := id hs
  obtain ⟨ls_2, ks_2, ms_2⟩ := ss_2.len
  subst ls_2
  unfold maxLen at ms_2
  have Rs := Lib.hid hs; clear hs
  have Ss_2 := Lib.hid ss_2; clear ss_2
  have HF : Hid (allows p s out = (decide ((s.hops.length : Int) < p.maxLen) && (!contains p.closed out && (ases s.hops).all fun r => !contains p.denied r))) := rfl
  go_enter Try.func165, Try.ntmps165
  go_wp2_with fail
  first | refine name_wp (fun W => Ext w W ∧ Blk W (w.heap.size) 157 [I p.maxLen, I p.denied, I p.closed, I p.life] ∧ Blk W (w.heap.size + 1) 31 [I s.ts, I s.beta, .slice As_2 s.hops.length cs_2]) ⟨(by repeat (first | (with_reducible exact Ext.refl _) | (with_reducible assumption) | (with_reducible refine Ext.alloc ?_ _) | (with_reducible refine Ext.drew ?_) | (with_reducible refine Ext.drewN ?_ _) | (with_reducible refine Ext.setCell (p := _) ?_ ?ge _; case ge => (dsimp only; omega)) | (with_reducible refine Ext.trans ?_ (by with_reducible assumption)))), (by repeat (first | (with_reducible exact Blk.new _ _ _) | ((with_reducible refine Blk.new' _ _ _ _ ?_) <;> (simp; done)) | (with_reducible refine Blk.alloc ?_ _) | (with_reducible refine Blk.drew ?_))), (by repeat (first | (with_reducible exact Blk.new _ _ _) | ((with_reducible refine Blk.new' _ _ _ _ ?_) <;> (simp; done)) | (with_reducible refine Blk.alloc ?_ _) | (with_reducible refine Blk.drew ?_)))⟩ ?_ | refine name_calls (fun W => Ext w W ∧ Blk W (w.heap.size) 157 [I p.maxLen, I p.denied, I p.closed, I p.life] ∧ Blk W (w.heap.size + 1) 31 [I s.ts, I s.beta, .slice As_2 s.hops.length cs_2]) ⟨(by repeat (first | (with_reducible exact Ext.refl _) | (with_reducible assumption) | (with_reducible refine Ext.alloc ?_ _) | (with_reducible refine Ext.drew ?_) | (with_reducible refine Ext.drewN ?_ _) | (with_reducible refine Ext.setCell (p := _) ?_ ?ge _; case ge => (dsimp only; omega)) | (with_reducible refine Ext.trans ?_ (by with_reducible assumption)))), (by repeat (first | (with_reducible exact Blk.new _ _ _) | ((with_reducible refine Blk.new' _ _ _ _ ?_) <;> (simp; done)) | (with_reducible refine Blk.alloc ?_ _) | (with_reducible refine Blk.drew ?_))), (by repeat (first | (with_reducible exact Blk.new _ _ _) | ((with_reducible refine Blk.new' _ _ _ _ ?_) <;> (simp; done)) | (with_reducible refine Blk.alloc ?_ _) | (with_reducible refine Blk.drew ?_)))⟩ ?_
  rintro w0 ⟨ew0, bp, bs⟩
  have lp := bp.lt
  obtain ⟨pp_0, pp_1, pp_2, pp_3⟩ := blk4 bp
  have Bp := Lib.hid bp; clear bp
  have ls := bs.lt
  obtain ⟨ps_0, ps_1, ps_2⟩ := blk3 bs
  have Bs := Lib.hid bs; clear bs
  refine (spec_SegmentASes _ s _ (by exact Rs.out.ext (by repeat (first | (with_reducible exact Ext.refl _) | (with_reducible assumption) | (with_reducible refine Ext.alloc ?_ _) | (with_reducible refine Ext.drew ?_) | (with_reducible refine Ext.drewN ?_ _) | (with_reducible refine Ext.setCell (p := _) ?_ ?ge _; case ge => (dsimp only; omega)) | (with_reducible refine Ext.trans ?_ (by with_reducible assumption))))) (by omega)).mono ?_
  rintro e w1 ⟨v1, rfl, o1, e1⟩
  have hsl := IntSO_rd o1
  clear o1
  have hal : (ases s.hops).length ≤ 100000000 := by unfold ases; rw [List.length_map]; omega
  generalize ases s.hops = al at *
  obtain ⟨A1, n1, c1, rfl, ln1, -, -, -⟩ := id hsl
  subst ln1
  have SL := Lib.hid hsl; clear hsl
  go_wp2_with fail
  go_loopw [8] (fun i wr => ∃ k : Nat, k ≤ al.length ∧ i = I k ∧ ((al.take k).all fun r => !contains p.denied r) = true ∧ Ext w1 wr) (fun i _ => al.length - (intOf i).toNat)
  case atStart => exact ⟨0, by omega, rfl, by simp, Ext.refl _⟩
  case round =>
    obtain ⟨k, hk, rfl, hq, he⟩ := hrel
    have HQ := Lib.hid hq; clear hq
    have bp := Bp.out.ext (w' := wr) (by repeat (first | (with_reducible exact Ext.refl _) | (with_reducible assumption) | (with_reducible refine Ext.alloc ?_ _) | (with_reducible refine Ext.drew ?_) | (with_reducible refine Ext.drewN ?_ _) | (with_reducible refine Ext.setCell (p := _) ?_ ?ge _; case ge => (dsimp only; omega)) | (with_reducible refine Ext.trans ?_ (by with_reducible assumption))))
    have lp := bp.lt
    obtain ⟨pp_0, pp_1, pp_2, pp_3⟩ := blk4 bp
    clear bp
    have bs := Bs.out.ext (w' := wr) (by repeat (first | (with_reducible exact Ext.refl _) | (with_reducible assumption) | (with_reducible refine Ext.alloc ?_ _) | (with_reducible refine Ext.drew ?_) | (with_reducible refine Ext.drewN ?_ _) | (with_reducible refine Ext.setCell (p := _) ?_ ?ge _; case ge => (dsimp only; omega)) | (with_reducible refine Ext.trans ?_ (by with_reducible assumption))))
    have ls := bs.lt
    obtain ⟨ps_0, ps_1, ps_2⟩ := blk3 bs
    clear bs
    by_cases hlt : k < al.length
    · obtain ⟨b, off, rfl, hb, hkl, hc⟩ := (SL.out.ext (w' := wr) (by repeat (first | (with_reducible exact Ext.refl _) | (with_reducible assumption) | (with_reducible refine Ext.alloc ?_ _) | (with_reducible refine Ext.drew ?_) | (with_reducible refine Ext.drewN ?_ _) | (with_reducible refine Ext.setCell (p := _) ?_ ?ge _; case ge => (dsimp only; omega)) | (with_reducible refine Ext.trans ?_ (by with_reducible assumption))))).at_ hlt
      have HX := Lib.hid (al_snoc (fun r => !contains p.denied r) al k hkl)
      have HN := Lib.hid (al_no (fun r => !contains p.denied r) al k hkl)
      have hc : wr.cell? ⟨b, off + k, none⟩ = some (I al[k]) := hc
      generalize al[k] = r at *
      have i0 : (0 : Int) ≤ (k : Int) := by omega
      have i1 : (k : Int) < (al.length : Int) := by omega
      cases h2 : contains p.denied r
      · have HS : Hid (((al.take (k + 1)).all fun r => !contains p.denied r) = true) := by unfold Hid; rw [HX.out, HQ.out, h2]; rfl
        go_wp2_with fail
        refine wp_region_L (E := Ext) (w0 := wr) (G := fun τ => match τ with | 23 => some (fun v _ => v = .bool (false)) | _ => none) Ext.refl (fun h k => Ext.trans h k) (by kernel_rfl) (by kernel_rfl) (by
            intro t φ hG
            split at hG
            all_goals first | (cases hG; done) | (cases Option.some.inj hG; intro v W W' hE hv; first | exact hv | exact IntS.ext hv hE | exact hv.ext hE | exact Own.up hv hE | exact hv.up hE | exact NO.up (by first | exact SegmentOC.keeps | exact TrustRootOC.keeps | exact BeaconOC.keeps | exact BeaconMessageOC.keeps | exact BeaconStoreOC.keeps) hv hE (Nat.le_refl _) | exact ObjUp.up hv hE)) (Ext.drew (by exact Ext.refl _)) ?_
        repeat' (first
          | ((with_reducible refine wpL_skip ?_ ?_ ?_)
             · rfl
             · rfl
             simp only [Act.put, List.setIfInBounds_toArray, List.set_cons_zero, List.set_cons_succ])
          | ((with_reducible refine wpL_quiet ?_ ?_ ?_ ?_)
             · rfl
             · rfl
             · rfl
             apply Exists.intro
             refine ⟨fun W hW hS => ?_, ?_⟩
             · have hC := (Ext.facts hW).1
               go_simp
               first | done | (with_reducible rfl) | rfl
             first | (with_reducible refine wpL_boolT ?_) | (with_reducible refine wpL_boolF ?_) | (with_reducible refine wpL_bool (fun hB => ?_) (fun hB => ?_)) | skip
             all_goals simp only [Act.put, List.setIfInBounds_toArray, List.set_cons_zero, List.set_cons_succ])
          | ((refine wpL_call ?_ rfl rfl ?_ ?_ ?_)
             · rfl
             · rfl
             · intro W hW hS
               have hC := (Ext.facts hW).1
               unfold growAt
               go_simp
               simp only [growUpon]
               first | (go_at_call 182; ((with_reducible refine Calls.mono (spec_Contains _ _ _) ?_)); rintro e w9 ⟨rfl, rfl⟩; exact ⟨_, rfl, Ext.refl _, by first | rfl | (simp only [*])⟩)
             first | (with_reducible refine wpL_boolT ?_) | (with_reducible refine wpL_boolF ?_) | (with_reducible refine wpL_bool (fun hB => ?_) (fun hB => ?_)) | skip
             all_goals simp only [Act.put, List.setIfInBounds_toArray, List.set_cons_zero, List.set_cons_succ])
          | ((refine wpL_grow ?_ rfl rfl ?_ ?_)
             · rfl
             · intro W hW hS
               have hC := (Ext.facts hW).1
               unfold growAt
               go_simp
               simp only [growUpon]
               first | (go_at_call 182; ((with_reducible refine Calls.mono (spec_Contains _ _ _) ?_)); rintro e w9 ⟨rfl, rfl⟩; exact ⟨_, rfl, Ext.refl _, by first | rfl | (simp only [*])⟩)
             intro v W' hW' hv
             first  | (obtain ⟨A5, n5, c5, rfl, -⟩ := id hv; clear hv) | (obtain ⟨A5, n5, c5, rfl⟩ := NO.slice hv) | skip
             all_goals simp only [Act.put, List.setIfInBounds_toArray, List.set_cons_zero, List.set_cons_succ]))
        refine wpL_nil (fun w4 e4 hL => ?_)
        clear hL
        go_wp2_with fail
        go_roundw
        case rel => exact ⟨k + 1, by omega, by go_num, HS.out, (by repeat (first | (with_reducible exact Ext.refl _) | (with_reducible assumption) | (with_reducible refine Ext.alloc ?_ _) | (with_reducible refine Ext.drew ?_) | (with_reducible refine Ext.drewN ?_ _) | (with_reducible refine Ext.setCell (p := _) ?_ ?ge _; case ge => (dsimp only; omega)) | (with_reducible refine Ext.trans ?_ (by with_reducible assumption))))⟩
        case measure => simp [intOf]; omega
      · have HG : Hid (allows p s out = false) := by unfold Hid; rw [HF.out, HN.out (by rw [h2]; rfl)]; simp
        go_wp2_with fail
        refine wp_region_L (E := Ext) (w0 := wr) (G := fun τ => match τ with | 23 => some (fun v _ => v = .bool (true)) | _ => none) Ext.refl (fun h k => Ext.trans h k) (by kernel_rfl) (by kernel_rfl) (by
            intro t φ hG
            split at hG
            all_goals first | (cases hG; done) | (cases Option.some.inj hG; intro v W W' hE hv; first | exact hv | exact IntS.ext hv hE | exact hv.ext hE | exact Own.up hv hE | exact hv.up hE | exact NO.up (by first | exact SegmentOC.keeps | exact TrustRootOC.keeps | exact BeaconOC.keeps | exact BeaconMessageOC.keeps | exact BeaconStoreOC.keeps) hv hE (Nat.le_refl _) | exact ObjUp.up hv hE)) (Ext.drew (by exact Ext.refl _)) ?_
        repeat' (first
          | ((with_reducible refine wpL_skip ?_ ?_ ?_)
             · rfl
             · rfl
             simp only [Act.put, List.setIfInBounds_toArray, List.set_cons_zero, List.set_cons_succ])
          | ((with_reducible refine wpL_quiet ?_ ?_ ?_ ?_)
             · rfl
             · rfl
             · rfl
             apply Exists.intro
             refine ⟨fun W hW hS => ?_, ?_⟩
             · have hC := (Ext.facts hW).1
               go_simp
               first | done | (with_reducible rfl) | rfl
             first | (with_reducible refine wpL_boolT ?_) | (with_reducible refine wpL_boolF ?_) | (with_reducible refine wpL_bool (fun hB => ?_) (fun hB => ?_)) | skip
             all_goals simp only [Act.put, List.setIfInBounds_toArray, List.set_cons_zero, List.set_cons_succ])
          | ((refine wpL_call ?_ rfl rfl ?_ ?_ ?_)
             · rfl
             · rfl
             · intro W hW hS
               have hC := (Ext.facts hW).1
               unfold growAt
               go_simp
               simp only [growUpon]
               first | (go_at_call 182; ((with_reducible refine Calls.mono (spec_Contains _ _ _) ?_)); rintro e w9 ⟨rfl, rfl⟩; exact ⟨_, rfl, Ext.refl _, by first | rfl | (simp only [*])⟩)
             first | (with_reducible refine wpL_boolT ?_) | (with_reducible refine wpL_boolF ?_) | (with_reducible refine wpL_bool (fun hB => ?_) (fun hB => ?_)) | skip
             all_goals simp only [Act.put, List.setIfInBounds_toArray, List.set_cons_zero, List.set_cons_succ])
          | ((refine wpL_grow ?_ rfl rfl ?_ ?_)
             · rfl
             · intro W hW hS
               have hC := (Ext.facts hW).1
               unfold growAt
               go_simp
               simp only [growUpon]
               first | (go_at_call 182; ((with_reducible refine Calls.mono (spec_Contains _ _ _) ?_)); rintro e w9 ⟨rfl, rfl⟩; exact ⟨_, rfl, Ext.refl _, by first | rfl | (simp only [*])⟩)
             intro v W' hW' hv
             first  | (obtain ⟨A5, n5, c5, rfl, -⟩ := id hv; clear hv) | (obtain ⟨A5, n5, c5, rfl⟩ := NO.slice hv) | skip
             all_goals simp only [Act.put, List.setIfInBounds_toArray, List.set_cons_zero, List.set_cons_succ]))
        refine wpL_nil (fun w4 e4 hL => ?_)
        clear hL
        go_wp2_with fail
        go_ret
        exact ⟨ret_bool HG.out.symm, (by repeat (first | (with_reducible exact Ext.refl _) | (with_reducible assumption) | (with_reducible refine Ext.alloc ?_ _) | (with_reducible refine Ext.drew ?_) | (with_reducible refine Ext.drewN ?_ _) | (with_reducible refine Ext.setCell (p := _) ?_ ?ge _; case ge => (dsimp only; omega)) | (with_reducible refine Ext.trans ?_ (by with_reducible assumption))))⟩
    · obtain rfl : k = al.length := by omega
      rw [List.take_length] at HQ
      by_cases h0 : (s.hops.length : Int) < p.maxLen
      · have HG : Hid (allows p s out = !contains p.closed out) := by unfold Hid; rw [HF.out, HQ.out, decide_eq_true h0]; simp
        have d0 : decide ((s.hops.length : Int) < p.maxLen) = true := decide_eq_true h0
        go_wp2_with fail
        refine (spec_Contains _ _ _).mono ?_
        rintro e w2 ⟨rfl, rfl⟩
        cases h1 : contains p.closed out
        all_goals
          go_wp2_with fail
          go_ret
          exact ⟨ret_bool (by rw [HG.out, h1]; rfl), (by repeat (first | (with_reducible exact Ext.refl _) | (with_reducible assumption) | (with_reducible refine Ext.alloc ?_ _) | (with_reducible refine Ext.drew ?_) | (with_reducible refine Ext.drewN ?_ _) | (with_reducible refine Ext.setCell (p := _) ?_ ?ge _; case ge => (dsimp only; omega)) | (with_reducible refine Ext.trans ?_ (by with_reducible assumption))))⟩
      · have HG : Hid (allows p s out = false) := by unfold Hid; rw [HF.out, decide_eq_false h0]; rfl
        have d0 : decide ((s.hops.length : Int) < p.maxLen) = false := decide_eq_false h0
        go_wp2_with fail
        go_ret
        exact ⟨ret_bool HG.out.symm, (by repeat (first | (with_reducible exact Ext.refl _) | (with_reducible assumption) | (with_reducible refine Ext.alloc ?_ _) | (with_reducible refine Ext.drew ?_) | (with_reducible refine Ext.drewN ?_ _) | (with_reducible refine Ext.setCell (p := _) ?_ ?ge _; case ge => (dsimp only; omega)) | (with_reducible refine Ext.trans ?_ (by with_reducible assumption))))⟩
def authHop (key ts beta : Int) (h : DHop) : DHop := { h with mac := hopMac key ts beta h }
set_option maxRecDepth 100000 in
set_option maxHeartbeats 1000000 in
theorem impl_AuthenticateHop (key ts beta : Int) (h : DHop) (w : World) :
    Calls Try.prog 200 #[I key, I ts, I beta, .agg #[I h.asn, I h.ing, I h.egr, I h.exp, I h.mac]] w fun e w' => e = .returned (.agg #[I h.asn, I h.ing, I h.egr, I h.exp, I (hopMac key ts beta h)]) ∧ Ext w w' := by
  go_enter Try.func200, Try.ntmps200
  go_wp2_with fail
  refine name_calls (fun W => Ext w W ∧ Blk W w.heap.size 117 [I h.asn, I h.ing, I h.egr, I h.exp, I h.mac] ∧ Blk W (w.heap.size + 1) 117 [I 0, I 0, I 0, I 0, I 0]) ⟨(by repeat (first | (with_reducible exact Ext.refl _) | (with_reducible assumption) | (with_reducible refine Ext.alloc ?_ _) | (with_reducible refine Ext.drew ?_) | (with_reducible refine Ext.drewN ?_ _) | (with_reducible refine Ext.setCell (p := _) ?_ ?ge _; case ge => (dsimp only; omega)) | (with_reducible refine Ext.trans ?_ (by with_reducible assumption)))), (by repeat (first | (with_reducible exact Blk.new _ _ _) | ((with_reducible refine Blk.new' _ _ _ _ ?_) <;> (simp; done)) | (with_reducible refine Blk.alloc ?_ _) | (with_reducible refine Blk.drew ?_))), (by repeat (first | (with_reducible exact Blk.new _ _ _) | ((with_reducible refine Blk.new' _ _ _ _ ?_) <;> (simp; done)) | (with_reducible refine Blk.alloc ?_ _) | (with_reducible refine Blk.drew ?_)))⟩ ?_
  rintro w0 ⟨ew0, bh, br⟩
  have Bh := Lib.hid bh; have BR := Lib.hid br; clear bh br
  refine (impl_HopMAC key ts beta h _).mono ?_
  rintro e w1 ⟨rfl, e1⟩
  generalize hmc : hopMac key ts beta h = mc
  have HM := Lib.hid hmc; clear hmc
  have bh := Bh.out.ext (w' := w1) (by repeat (first | (with_reducible exact Ext.refl _) | (with_reducible assumption) | (with_reducible refine Ext.alloc ?_ _) | (with_reducible refine Ext.drew ?_) | (with_reducible refine Ext.drewN ?_ _) | (with_reducible refine Ext.setCell (p := _) ?_ ?ge _; case ge => (dsimp only; omega)) | (with_reducible refine Ext.trans ?_ (by with_reducible assumption))))
  have lbh := bh.lt
  obtain ⟨qbh_0, qbh_1, qbh_2, qbh_3, qbh_4⟩ := blk5 bh
  have fbh_0 := bh.frozen 0
  have fbh_1 := bh.frozen 1
  have fbh_2 := bh.frozen 2
  have fbh_3 := bh.frozen 3
  have fbh_4 := bh.frozen 4
  clear bh
  have br := BR.out.ext (w' := w1) (by repeat (first | (with_reducible exact Ext.refl _) | (with_reducible assumption) | (with_reducible refine Ext.alloc ?_ _) | (with_reducible refine Ext.drew ?_) | (with_reducible refine Ext.drewN ?_ _) | (with_reducible refine Ext.setCell (p := _) ?_ ?ge _; case ge => (dsimp only; omega)) | (with_reducible refine Ext.trans ?_ (by with_reducible assumption))))
  have lbr := br.lt
  obtain ⟨qbr_0, qbr_1, qbr_2, qbr_3, qbr_4⟩ := blk5 br
  have fbr_0 := br.frozen 0
  have fbr_1 := br.frozen 1
  have fbr_2 := br.frozen 2
  have fbr_3 := br.frozen 3
  have fbr_4 := br.frozen 4
  clear br
  go_wp2_with fail
  refine bodyPost_ret (v := .agg #[I h.asn, I h.ing, I h.egr, I h.exp, I mc]) (by simp [results, Try.results200, go_sem, *]) rfl ⟨by rw [HM.out], (by repeat (first | (with_reducible exact Ext.refl _) | (with_reducible assumption) | (with_reducible refine Ext.alloc ?_ _) | (with_reducible refine Ext.drew ?_) | (with_reducible refine Ext.drewN ?_ _) | (with_reducible refine Ext.setCell (p := _) ?_ ?ge _; case ge => (dsimp only; omega)) | (with_reducible refine Ext.trans ?_ (by with_reducible assumption))))⟩
set_option maxRecDepth 100000 in
set_option maxHeartbeats 1000000 in
theorem spec_AuthenticateHop (key ts beta : Int) (h : DHop) (w : World) :
    Calls Try.prog 167 #[I key, I ts, I beta, .agg #[I h.asn, I h.ing, I h.egr, I h.exp, I h.mac]] w fun e w' => e = .returned (.agg #[I h.asn, I h.ing, I h.egr, I h.exp, I (hopMac key ts beta h)]) ∧ Ext w w' := by
  go_enter Try.func167, Try.ntmps167
  go_wp2_with fail
  refine name_calls (fun W => Ext w W ∧ Blk W (w.heap.size + 1) 117 [I 0, I 0, I 0, I 0, I 0] ∧ Blk W (w.heap.size + 1 + 1) 117 [I h.asn, I h.ing, I h.egr, I h.exp, I h.mac]) ⟨(by repeat (first | (with_reducible exact Ext.refl _) | (with_reducible assumption) | (with_reducible refine Ext.alloc ?_ _) | (with_reducible refine Ext.drew ?_) | (with_reducible refine Ext.drewN ?_ _) | (with_reducible refine Ext.setCell (p := _) ?_ ?ge _; case ge => (dsimp only; omega)) | (with_reducible refine Ext.trans ?_ (by with_reducible assumption)))), (by repeat (first | (with_reducible exact Blk.new _ _ _) | ((with_reducible refine Blk.new' _ _ _ _ ?_) <;> (simp; done)) | (with_reducible refine Blk.alloc ?_ _) | (with_reducible refine Blk.drew ?_))), (by repeat (first | (with_reducible exact Blk.new _ _ _) | ((with_reducible refine Blk.new' _ _ _ _ ?_) <;> (simp; done)) | (with_reducible refine Blk.alloc ?_ _) | (with_reducible refine Blk.drew ?_)))⟩ ?_
  rintro w0 ⟨ew0, br, bh⟩
  have Bh := Lib.hid bh; have BR := Lib.hid br; clear bh br
  refine (spec_HopMAC key ts beta h _).mono ?_
  rintro e w1 ⟨rfl, e1⟩
  generalize hmc : hopMac key ts beta h = mc
  have HM := Lib.hid hmc; clear hmc
  have bh := Bh.out.ext (w' := w1) (by repeat (first | (with_reducible exact Ext.refl _) | (with_reducible assumption) | (with_reducible refine Ext.alloc ?_ _) | (with_reducible refine Ext.drew ?_) | (with_reducible refine Ext.drewN ?_ _) | (with_reducible refine Ext.setCell (p := _) ?_ ?ge _; case ge => (dsimp only; omega)) | (with_reducible refine Ext.trans ?_ (by with_reducible assumption))))
  have lbh := bh.lt
  obtain ⟨qbh_0, qbh_1, qbh_2, qbh_3, qbh_4⟩ := blk5 bh
  have fbh_0 := bh.frozen 0
  have fbh_1 := bh.frozen 1
  have fbh_2 := bh.frozen 2
  have fbh_3 := bh.frozen 3
  have fbh_4 := bh.frozen 4
  clear bh
  have br := BR.out.ext (w' := w1) (by repeat (first | (with_reducible exact Ext.refl _) | (with_reducible assumption) | (with_reducible refine Ext.alloc ?_ _) | (with_reducible refine Ext.drew ?_) | (with_reducible refine Ext.drewN ?_ _) | (with_reducible refine Ext.setCell (p := _) ?_ ?ge _; case ge => (dsimp only; omega)) | (with_reducible refine Ext.trans ?_ (by with_reducible assumption))))
  have lbr := br.lt
  obtain ⟨qbr_0, qbr_1, qbr_2, qbr_3, qbr_4⟩ := blk5 br
  have fbr_0 := br.frozen 0
  have fbr_1 := br.frozen 1
  have fbr_2 := br.frozen 2
  have fbr_3 := br.frozen 3
  have fbr_4 := br.frozen 4
  clear br
  go_wp2_with fail
  refine bodyPost_ret (v := .agg #[I h.asn, I h.ing, I h.egr, I h.exp, I mc]) (by simp [results, Try.results167, go_sem, *]) rfl ⟨by rw [HM.out], (by repeat (first | (with_reducible exact Ext.refl _) | (with_reducible assumption) | (with_reducible refine Ext.alloc ?_ _) | (with_reducible refine Ext.drew ?_) | (with_reducible refine Ext.drewN ?_ _) | (with_reducible refine Ext.setCell (p := _) ?_ ?ge _; case ge => (dsimp only; omega)) | (with_reducible refine Ext.trans ?_ (by with_reducible assumption))))⟩
end Go.Proofs.Ytcalbcjheenmgaa
