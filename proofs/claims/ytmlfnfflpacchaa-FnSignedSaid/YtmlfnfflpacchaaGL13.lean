/- Contracts of the program's and the reference's functions on policies: ValidPolicy, DefaultPolicy, PolicyFor, ExpiryFor, Allows. -/
import Derived.Test.YtmlfnfflpacchaaGHS
import Derived.Test.YtmlfnfflpacchaaGL0
import Derived.Test.YtmlfnfflpacchaaGL9e
import Derived.Test.YtmlfnfflpacchaaGL10a
namespace Go.Proofs.Ytmlfnfflpacchaa
open Go.RowKit
set_option linter.unusedVariables false
def dPolicy : DPolicy := ⟨8, 0, 0, 100⟩
def validPol (p : DPolicy) : Bool := inR p.maxLen 1 8 && (validSet p.denied && (validSet p.closed && inR p.life 1 1000))
def polFor (l : List DPolicy) (r : Int) : DPolicy := if inR r 0 (l.length - 1) && validPol (l.getD r.toNat dPolicy) then l.getD r.toNat dPolicy else dPolicy
def expFor (p : DPolicy) (ts : Int) : Int := minI (wrap64 (ts + p.life)) 1000000
end Go.Proofs.Ytmlfnfflpacchaa
namespace Go.Proofs.Ytmlfnfflpacchaa
open Go.RowKit
set_option linter.unusedVariables false
theorem al_snoc {α : Type} (p : α → Bool) (l : List α) (k : Nat) (h : k < l.length) : (l.take (k + 1)).all p = ((l.take k).all p && p l[k]) := by
  rw [take_snoc l k h, List.all_append]
  simp
theorem al_no {α : Type} (p : α → Bool) (l : List α) (k : Nat) (h : k < l.length) (hp : p l[k] = false) : l.all p = false := by
  rw [List.all_eq_false]
  exact ⟨l[k], List.getElem_mem h, by simp [hp]⟩
def allows (p : DPolicy) (s : DSegment) (out : Int) : Bool := decide ((s.hops.length : Int) < p.maxLen) && (!contains p.closed out && (ases s.hops).all fun r => !contains p.denied r)
def authHop (key ts beta : Int) (h : DHop) : DHop := { h with mac := hopMac key ts beta h }
set_option maxRecDepth 100000 in
set_option maxHeartbeats 1000000 in
theorem spec_AuthenticateHop (key ts beta : Int) (h : DHop) (w : World) :
    Calls Try.prog 154 #[I key, I ts, I beta, .agg #[I h.asn, I h.ing, I h.egr, I h.exp, I h.mac]] w fun e w' => e = .returned (.agg #[I h.asn, I h.ing, I h.egr, I h.exp, I (hopMac key ts beta h)]) ∧ Ext w w' := by
  go_enter Try.func154, Try.ntmps154
  go_wp2_with fail
  refine name_calls (fun W => Ext w W ∧ Blk W (w.heap.size + 1) 117 [I 0, I 0, I 0, I 0, I 0] ∧ Blk W (w.heap.size + 1 + 1) 117 [I h.asn, I h.ing, I h.egr, I h.exp, I h.mac]) ⟨xe, xb, xb⟩ ?_
  rintro w0 ⟨ew0, br, bh⟩
  have Bh := Lib.hid bh; have BR := Lib.hid br; clear bh br
  refine (spec_HopMAC key ts beta h _).mono ?_
  rintro e w1 ⟨rfl, e1⟩
  generalize hmc : hopMac key ts beta h = mc
  have HM := Lib.hid hmc; clear hmc
  have bh := Bh.out.ext (w' := w1) xe
  have lbh := bh.lt
  obtain ⟨qbh_0, qbh_1, qbh_2, qbh_3, qbh_4⟩ := blk5 bh
  have fbh_0 := bh.frozen 0
  have fbh_1 := bh.frozen 1
  have fbh_2 := bh.frozen 2
  have fbh_3 := bh.frozen 3
  have fbh_4 := bh.frozen 4
  clear bh
  have br := BR.out.ext (w' := w1) xe
  have lbr := br.lt
  obtain ⟨qbr_0, qbr_1, qbr_2, qbr_3, qbr_4⟩ := blk5 br
  have fbr_0 := br.frozen 0
  have fbr_1 := br.frozen 1
  have fbr_2 := br.frozen 2
  have fbr_3 := br.frozen 3
  have fbr_4 := br.frozen 4
  clear br
  go_wp2_with fail
  refine bodyPost_ret (v := .agg #[I h.asn, I h.ing, I h.egr, I h.exp, I mc]) (by simp [results, Try.results154, go_sem, *]) rfl ⟨by rw [HM.out], xe⟩
end Go.Proofs.Ytmlfnfflpacchaa
