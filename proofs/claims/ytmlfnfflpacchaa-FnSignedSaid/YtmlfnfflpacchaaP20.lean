/- What the law FnSigned asks, in plain words: a signed segment has no bad signature; with a changed hop the first one is there. No conditions. -/
import Derived.Test.YtmlfnfflpacchaaPD
import Derived.Test.YtmlfnfflpacchaaGL20
import Derived.Test.YtmlfnfflpacchaaL20c
import Derived.Test.YtmlfnfflpacchaaL20d
namespace Go.Proofs.Ytmlfnfflpacchaa
open Go.RowKit
set_option linter.unusedVariables false
theorem signedData_nat (s : DSegment) (k : Nat) (hk : k < s.hops.length) : signedData s ((k : Int) + 1) = [s.ts, s.beta, (k : Int) + 1] ++ (s.hops.take (k + 1)).flatMap hopInts := by
  have h : inR ((k : Int) + 1) 0 s.hops.length = true := inR_iff.2 (by omega)
  unfold signedData
  rw [h, if_pos rfl]
  congr 3
theorem signSeg_at (t : DTopology) (s : DSegment) (k : Nat) (hk : k < s.hops.length) : (signSeg t s).sigs.getD k 0 = sigAt t s k ∧ k < (signSeg t s).sigs.length := by
  have h : k < (signSeg t s).sigs.length := by simpa [signSeg] using hk
  refine ⟨?_, h⟩
  rw [List.getD_eq_getElem?_getD, List.getElem?_eq_getElem h]
  simp [signSeg]
theorem sig_good {t : DTopology} {s : DSegment} {k : Nat} (hk : k < s.hops.length) (ha : isAs t s.hops[k].asn = true) (d : List Int) : verifySig t ⟨s.hops[k].asn, sigAt t s k⟩ d = (sign (asAt t s.hops[k].asn).key (signedData s ((k : Int) + 1)) == sign (asAt t s.hops[k].asn).key d) := by
  unfold verifySig
  rw [ha, sigAt_at hk, if_pos ha]
  simp
theorem getD_hop {l : List DHop} {k : Nat} (hk : k < l.length) : l.getD k ⟨0, 0, 0, 0, 0⟩ = l[k] := by
  rw [List.getD_eq_getElem?_getD, List.getElem?_eq_getElem hk]
  rfl
theorem not_bad {t : DTopology} {s : DSegment} {x : DSignedSegment} {k : Nat} (hk : k < s.hops.length) (ha : isAs t s.hops[k].asn = true) (hx : k < x.seg.hops.length) (h1 : x.seg.hops[k].asn = s.hops[k].asn) (h2 : k < x.sigs.length ∧ x.sigs.getD k 0 = sigAt t s k) (h3 : signedData x.seg ((k : Int) + 1) = signedData s ((k : Int) + 1)) : badSig t x k = false := by
  unfold badSig
  rw [getD_hop hx, h1, h2.2, h3, sig_good hk ha]
  simp [h2.1]
theorem signed_ok {t : DTopology} {s : DSegment} (ha : ∀ h ∈ s.hops, isAs t h.asn = true) : firstBad t (signSeg t s) = -1 := by
  refine firstIdx_none fun j hj => ?_
  have hj : j < s.hops.length := hj
  exact not_bad hj (ha _ (List.getElem_mem hj)) hj rfl ⟨(signSeg_at t s j hj).2, (signSeg_at t s j hj).1⟩ rfl
theorem trunc_ok {t : DTopology} {s : DSegment} (ha : ∀ h ∈ s.hops, isAs t h.asn = true) (k : Nat) (hk : k < s.hops.length) : firstBad t (truncSigned (signSeg t s) k) = -1 := by
  have e : truncSigned (signSeg t s) k = ⟨⟨s.ts, s.beta, s.hops.take k⟩, (signSeg t s).sigs.take k⟩ := by
    have h1 : inR (k : Int) 0 (signSeg t s).seg.hops.length = true := inR_iff.2 (by show _ ∧ (k : Int) ≤ (s.hops.length : Int); omega)
    have h2 : (signSeg t s).sigs.length = s.hops.length := by simp [signSeg]
    unfold truncSigned
    rw [h1, decide_eq_true (by omega)]
    rfl
  rw [e]
  refine firstIdx_none fun j hj => ?_
  have hj0 : j < (s.hops.take k).length := hj
  have hjk : j < k := by rw [List.length_take] at hj0; omega
  have hj1 : j < s.hops.length := by omega
  have hs := signSeg_at t s j hj1
  refine not_bad hj1 (ha _ (List.getElem_mem hj1)) hj0 (by simp) ⟨?_, ?_⟩ ?_
  · show j < ((signSeg t s).sigs.take k).length
    rw [List.length_take]; omega
  · show ((signSeg t s).sigs.take k).getD j 0 = _
    rw [← hs.1, List.getD_eq_getElem?_getD, List.getD_eq_getElem?_getD, List.getElem?_take_of_lt hjk]
  · rw [signedData_nat _ j hj0, signedData_nat s j hj1]
    show [s.ts, s.beta, (j : Int) + 1] ++ ((s.hops.take k).take (j + 1)).flatMap hopInts = _
    rw [List.take_take, Nat.min_eq_left (by omega)]
/-- A hop whose expiry is one more. -/
theorem changed_bad {t : DTopology} {s : DSegment} (ha : ∀ h ∈ s.hops, isAs t h.asn = true) (k : Nat) (hk : k < s.hops.length) (y : Int) (hy : ¬ s.hops[k].exp % 2147483647 = y % 2147483647) :
    firstBad t ⟨⟨s.ts, s.beta, s.hops.set k { s.hops[k] with exp := y }⟩, (signSeg t s).sigs⟩ = k := by
  refine firstIdx_at (fun j hj => ?_) (by show k < (s.hops.set k _).length; rw [List.length_set]; exact hk) ?_
  · have hj1 : j < s.hops.length := by omega
    have hj2 : j < (s.hops.set k { s.hops[k] with exp := y }).length := by rw [List.length_set]; exact hj1
    have hs := signSeg_at t s j hj1
    refine not_bad hj1 (ha _ (List.getElem_mem hj1)) hj2 ?_ ⟨hs.2, hs.1⟩ ?_
    · show ((s.hops.set k { s.hops[k] with exp := y })[j]).asn = _
      rw [List.getElem_set_ne (by omega)]
    · rw [signedData_nat _ j hj2, signedData_nat s j hj1]
      show [s.ts, s.beta, (j : Int) + 1] ++ ((s.hops.set k _).take (j + 1)).flatMap hopInts = _
      rw [List.take_set_of_le (by omega)]
  · have hk2 : k < (s.hops.set k { s.hops[k] with exp := y }).length := by rw [List.length_set]; exact hk
    have hs := signSeg_at t s k hk
    unfold badSig
    show (!(decide (k < (signSeg t s).sigs.length) && verifySig t ⟨((s.hops.set k { s.hops[k] with exp := y }).getD k ⟨0, 0, 0, 0, 0⟩).asn, (signSeg t s).sigs.getD k 0⟩ (signedData ⟨s.ts, s.beta, s.hops.set k { s.hops[k] with exp := y }⟩ ((k : Int) + 1)))) = true
    rw [getD_hop hk2, List.getElem_set_self, hs.1]
    have hv : verifySig t ⟨s.hops[k].asn, sigAt t s k⟩ (signedData ⟨s.ts, s.beta, s.hops.set k { s.hops[k] with exp := y }⟩ ((k : Int) + 1)) = false := by
      rw [sig_good hk (ha _ (List.getElem_mem hk)), beq_eq_false_iff_ne]
      intro h
      rw [signedData_nat s k hk, signedData_nat _ k hk2] at h
      have e1 : s.hops.take (k + 1) = s.hops.take k ++ [s.hops[k]] := List.take_succ_eq_append_getElem hk
      have e2 : (s.hops.set k { s.hops[k] with exp := y }).take (k + 1) = s.hops.take k ++ [{ s.hops[k] with exp := y }] := by
        rw [List.take_succ_eq_append_getElem hk2, List.getElem_set_self, List.take_set_of_le (Nat.le_refl _)]
      have e3 : ∀ z : DHop, [s.ts, s.beta, (k : Int) + 1] ++ (s.hops.take k ++ [z]).flatMap hopInts = ([s.ts, s.beta, (k : Int) + 1] ++ (s.hops.take k).flatMap hopInts ++ [z.asn, z.ing, z.egr]) ++ z.exp :: [z.mac] := fun z => by simp [List.flatMap_append, hopInts]
      dsimp only at h
      rw [e1, e2, e3, e3] at h
      exact hy (sign_apart h)
    show (!(decide (k < (signSeg t s).sigs.length) && verifySig t ⟨s.hops[k].asn, sigAt t s k⟩ (signedData ⟨s.ts, s.beta, s.hops.set k { s.hops[k] with exp := y }⟩ ((k : Int) + 1)))) = true
    rw [hv, Bool.and_false]
    rfl
end Go.Proofs.Ytmlfnfflpacchaa
