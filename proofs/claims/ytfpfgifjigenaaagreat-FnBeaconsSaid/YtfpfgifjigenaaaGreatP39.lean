/- The plain law of FnBeacons: what is propagated or originated can be extended by its receiver, and its sender stands last (first). No conditions. -/
import Derived.Test.YtfpfgifjigenaaaGreatGP31
import Derived.Test.YtfpfgifjigenaaaGreatL15e
import Derived.Test.YtfpfgifjigenaaaGreatL15c
namespace Go.Proofs.YtfpfgifjigenaaaGreat
open Go.RowKit
set_option linter.unusedVariables false
theorem lastAS_hop {s : DSegment} (h : s.hops.length ≠ 0) : lastAS s = (lastHop s).asn := by
 unfold lastAS lastHop;rw [if_neg h]
theorem prop_law (t : DTopology) (l : List DPolicy) (r : Int) (got : List DBeacon) : ∀ m ∈ propMsgs t l r got, canExt t m.beacon.seg m.to m.beacon.ing = true ∧ lastAS m.beacon.seg = r := by
 intro m hm;unfold propMsgs at hm;split at hm
 · rename_i hv
   obtain ⟨g, hg, hm⟩ := List.mem_flatMap.1 hm;unfold propOne at hm;obtain ⟨o, ho, rfl⟩ := List.mem_map.1 hm;unfold egrIfs egrTo at ho;obtain ⟨i, hi, rfl⟩ := List.mem_map.1 ho;have h := (List.mem_filter.1 hi).2;unfold egrOk at h;simp only [Bool.and_eq_true, bne_iff_ne, ne_eq, Bool.not_eq_true'] at h;unfold propMsg;refine ⟨ext_canExt (validTop_ok hv) (polFor_valid l r) h.1 h.2.1 h.2.2, ?_⟩;rw [lastAS_hop (by unfold grownSeg; simp), last_grown];rfl
 · simp at hm
theorem orig_law (t : DTopology) (l : List DPolicy) (r ts : Int) : ∀ m ∈ origMsgs t l r ts, canExt t m.beacon.seg m.to m.beacon.ing = true ∧ firstAS m.beacon.seg = r ∧ m.beacon.seg.hops.length = 1 := by
 intro m hm;unfold origMsgs at hm;split at hm
 · rename_i hv
   unfold origMsgsTo at hm;obtain ⟨o, ho, rfl⟩ := List.mem_map.1 hm;have h := (List.mem_filter.1 ho).2;unfold origMsgOk at h
   have he : (origMsg t (polFor l r) r ts o).beacon.seg = grownSeg t (polFor l r) ⟨ts, origBeta t r ts o, []⟩ r 0 o := by
    unfold origMsg origSeg;dsimp only;rw [if_pos h]
   rw [he];refine ⟨orig_canExt (validTop_ok hv) (polFor_valid l r) h, ?_, ?_⟩
   · unfold firstAS grownSeg newHop authHop
     simp
   · unfold grownSeg
     simp
 · simp at hm
end Go.Proofs.YtfpfgifjigenaaaGreat
