/- Contracts of the program's and the reference's functions on policies: ValidPolicy, DefaultPolicy, PolicyFor, ExpiryFor, Allows. -/
import Derived.Test.YtddaodemdkjijaaGreatGHS
import Derived.Test.YtddaodemdkjijaaGreatGL0
import Derived.Test.YtddaodemdkjijaaGreatGL9e
import Derived.Test.YtddaodemdkjijaaGreatGL10a
namespace Go.Proofs.YtddaodemdkjijaaGreat
open Go.RowKit
set_option linter.unusedVariables false
def dPolicy : DPolicy := ⟨8, 0, 0, 100⟩
def validPol (p : DPolicy) : Bool := inR p.maxLen 1 8 && (validSet p.denied && (validSet p.closed && inR p.life 1 1000))
def polFor (l : List DPolicy) (r : Int) : DPolicy := if inR r 0 (l.length - 1) && validPol (l.getD r.toNat dPolicy) then l.getD r.toNat dPolicy else dPolicy
def expFor (p : DPolicy) (ts : Int) : Int := minI (wrap64 (ts + p.life)) 1000000
end Go.Proofs.YtddaodemdkjijaaGreat
namespace Go.Proofs.YtddaodemdkjijaaGreat
open Go.RowKit
set_option linter.unusedVariables false
theorem al_snoc {α : Type} (p : α → Bool) (l : List α) (k : Nat) (h : k < l.length) : (l.take (k + 1)).all p = ((l.take k).all p && p l[k]) := by
  rw [take_snoc l k h, List.all_append]
  simp
theorem al_no {α : Type} (p : α → Bool) (l : List α) (k : Nat) (h : k < l.length) (hp : p l[k] = false) : l.all p = false := by
  rw [List.all_eq_false]
  exact ⟨l[k], List.getElem_mem h, by simp [hp]⟩
def allows (p : DPolicy) (s : DSegment) (out : Int) : Bool := decide ((s.hops.length : Int) < p.maxLen) && (!contains p.closed out && (ases s.hops).all fun r => !contains p.denied r)
set_option maxRecDepth 100000 in
set_option maxHeartbeats 1000000 in
theorem impl_asesOf (vl : Value) (l : List DHop) (w : World) (hl : HopS w.heap.size w vl l) (hn : l.length ≤ 100000000) :
    Calls Tryz.prog 58 #[vl] w fun e w' => ∃ v', e = .returned v' ∧ IntSO w.heap.size w'.heap.size w' v' (ases l) ∧ Ext w w' := by
  obtain ⟨Al, nl, cl, rfl, ll, kl, ml, -⟩ := id hl
  subst ll
  unfold maxLen at ml
  have Rl := Lib.hid hl; clear hl
  go_enter Tryz.func58, Tryz.ntmps58
  go_wp2_with fail
  go_loopw [3, 8] (fun v i wr => ∃ k : Nat, k ≤ l.length ∧ i = I k ∧ IntSO w.heap.size wr.heap.size wr v (ases (l.take k)) ∧ Ext w wr) (fun _ i _ => l.length - (intOf i).toNat)
  case atStart => exact ⟨0, by omega, rfl, Own.nil _ _ _ _ _, xe⟩
  case round =>
    obtain ⟨k, hk, rfl, ho, he⟩ := hrel
    have HO := Lib.hid ho; clear ho
    by_cases hlt : k < l.length
    · obtain ⟨b, off, rfl, hb, hkl, hc⟩ := (Rl.out.ext (w' := wr) xe).at_ hlt
      have HX := Lib.hid (ases_snoc l k hkl)
      have hml : (ases (l.take k)).length ≤ k := by unfold ases; rw [List.length_map, List.length_take]; omega
      generalize l[k] = x at *
      generalize ases (l.take k) = sl at *
      obtain ⟨h0, h1, h2, h3, h4⟩ := hc
      go_wp2_with (at_builtin; refine hold ?_)
      refine unhold (wpList_app w rfl (.tmp 12) (.tmp 15) _ rfl 3 (.int .i64 0) 1 8 Tryz.underlying38 info_int rfl (by omega) _ sl.length (sl.map I) rfl _ 1 1 [I x.asn] rfl
        (by exact ((HO.out.alloc _).alloc _).lt_size) (row_newN _ _ _ _ _ _ (by first | rfl | simp) rfl) (one_ints [x.asn]) xe (by unfold maxLen; omega) (by omega) ?_)
      intro v1 w1 ho1 he1 _ _
      have O1 := Lib.hid ho1; clear ho1
      go_wp2_with (at_builtin; refine hold ?_)
      go_roundw
      case rel => exact ⟨k + 1, by omega, by go_num, by rw [HX.out]; unfold IntSO; simpa using O1.out, he1⟩
      case measure => simp [intOf]; omega
    · obtain rfl : k = l.length := by omega
      go_wp2_with fail
      go_ret
      exact ⟨_, rfl, by have h := HO.out; rw [List.take_length] at h; exact h, he⟩
set_option maxRecDepth 100000 in
set_option maxHeartbeats 1000000 in
theorem impl_SegmentASes (vs : Value) (s : DSegment) (w : World) (hs : SegmentV w.heap.size w vs s) (hn : s.hops.length ≤ 100000000) :
    Calls Tryz.prog 25 #[vs] w fun e w' => ∃ v', e = .returned v' ∧ IntSO w.heap.size w'.heap.size w' v' (ases s.hops) ∧ Ext w w' := by
  obtain ⟨As_2, ns_2, cs_2, rfl, ss_2⟩ := id hs
  obtain ⟨ls_2, ks_2, ms_2⟩ := ss_2.len
  subst ls_2
  unfold maxLen at ms_2
  have Rs := Lib.hid hs; clear hs
  have Ss_2 := Lib.hid ss_2; clear ss_2
  go_enter Tryz.func25, Tryz.ntmps25
  go_wp2_with fail
  first | refine name_wp ?_ ?_ ?_ | refine name_calls ?_ ?_ ?_
  exact (fun W => Ext w W ∧ Blk W (w.heap.size) 37 [I s.ts, I s.beta, .slice As_2 s.hops.length cs_2])
  exact ⟨xe, xb⟩
  rintro w0 ⟨ew0, bs⟩
  have ls := bs.lt
  obtain ⟨ps_0, ps_1, ps_2⟩ := blk3 bs
  have Bs := Lib.hid bs; clear bs
  refine (impl_asesOf _ s.hops _ (by exact Ss_2.out.ext xe) (by omega)).mono ?_
  rintro e w1 ⟨v1, rfl, o1, e1⟩
  go_wp2_with fail
  go_ret
  exact ⟨_, rfl, Own.more o1 (Ext.size ew0) (Nat.le_refl _), xe⟩
def authHop (key ts beta : Int) (h : DHop) : DHop := { h with mac := hopMac key ts beta h }
set_option maxRecDepth 100000 in
set_option maxHeartbeats 1000000 in
theorem spec_AuthenticateHop (key ts beta : Int) (h : DHop) (w : World) :
    Calls Tryz.prog 51 #[I key, I ts, I beta, .agg #[I h.asn, I h.ing, I h.egr, I h.exp, I h.mac]] w fun e w' => e = .returned (.agg #[I h.asn, I h.ing, I h.egr, I h.exp, I (hopMac key ts beta h)]) ∧ Ext w w' := by
  go_enter Tryz.func51, Tryz.ntmps51
  go_wp2_with fail
  refine name_calls (fun W => Ext w W ∧ Blk W (w.heap.size + 1) 67 [I 0, I 0, I 0, I 0, I 0] ∧ Blk W (w.heap.size + 1 + 1) 67 [I h.asn, I h.ing, I h.egr, I h.exp, I h.mac]) ⟨xe, xb, xb⟩ ?_
  rintro w0 ⟨ew0, br, bh⟩
  have Bh := Lib.hid bh; have BR := Lib.hid br; clear bh br
  refine (spec_HopMAC key ts beta h _).mono ?_
  rintro e w1 ⟨rfl, e1⟩
  generalize hmc : hopMac key ts beta h = mc
  have HM := Lib.hid hmc; clear hmc
  have bh := Bh.out.ext (w' := w1) xe
  have lbh := bh.lt
  obtain ⟨qbh_0, qbh_1, qbh_2, qbh_3, qbh_4⟩ := blk5 bh
  have fbh_0 := bh.frozen 0
  have fbh_1 := bh.frozen 1
  have fbh_2 := bh.frozen 2
  have fbh_3 := bh.frozen 3
  have fbh_4 := bh.frozen 4
  clear bh
  have br := BR.out.ext (w' := w1) xe
  have lbr := br.lt
  obtain ⟨qbr_0, qbr_1, qbr_2, qbr_3, qbr_4⟩ := blk5 br
  have fbr_0 := br.frozen 0
  have fbr_1 := br.frozen 1
  have fbr_2 := br.frozen 2
  have fbr_3 := br.frozen 3
  have fbr_4 := br.frozen 4
  clear br
  go_wp2_with fail
  refine bodyPost_ret (v := .agg #[I h.asn, I h.ing, I h.egr, I h.exp, I mc]) (by simp [results, Tryz.results51, go_sem, *]) rfl ⟨by rw [HM.out], xe⟩
end Go.Proofs.YtddaodemdkjijaaGreat
