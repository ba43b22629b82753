/- The plain law of FnSpreads: every stored beacon keeps every policy of its realms; what is built of them is usable. No program in sight. -/
import Derived.Test.YtpkcoinoiaaebaaGreatGP31
import Derived.Test.YtpkcoinoiaaebaaGreatGL16i
import Derived.Test.YtpkcoinoiaaebaaGreatGL16e
import Derived.Test.YtpkcoinoiaaebaaGreatGL04m
import Derived.Test.YtpkcoinoiaaebaaGreatL10f
namespace Go.Proofs.YtpkcoinoiaaebaaGreat
/-- Hop j of s keeps the policy of its realm. -/
def HopKept (l : List DPolicy) (s : DSegment) (j : Nat) : Prop :=
  (j : Int) + 1 ≤ (polFor l (s.hops.getD j dHop).asn).maxLen ∧ contains (polFor l (s.hops.getD j dHop).asn).closed (s.hops.getD j dHop).egr = false ∧
  (s.hops.getD j dHop).exp ≤ s.ts + (polFor l (s.hops.getD j dHop).asn).life ∧ s.ts ≤ (s.hops.getD j dHop).exp ∧
  ∀ i, i < j → contains (polFor l (s.hops.getD j dHop).asn).denied (s.hops.getD i dHop).asn = false
def Kept (l : List DPolicy) (s : DSegment) : Prop := ∀ j, j < s.hops.length → HopKept l s j
/-- What is stored. -/
def AllB (P : DBeacon → Prop) (st : List DBeaconStore) : Prop := ∀ y ∈ st, ∀ g ∈ y.beacons, P g
theorem runRound_ts (t : DTopology) (l : List DPolicy) (b : DBeaconing) : (runRound t l b).ts = b.ts := rfl
theorem runTo_ts (t : DTopology) (l : List DPolicy) (ts : Int) : ∀ n, (runTo t l ts n).ts = ts
  | 0 => rfl
  | n + 1 => (runRound_ts t l _).trans (runTo_ts t l ts n)
theorem newBeac_all {P : DBeacon → Prop} (t : DTopology) (ts : Int) : AllB P (newBeac t ts).stores := by
  unfold newBeac
  dsimp only
  split
  · intro y hy g hg
    rw [List.eq_of_mem_replicate hy] at hg
    simp at hg
  · intro y hy
    simp at hy
/-- A beacon of the spreading. -/
structure SpreadB (t : DTopology) (l : List DPolicy) (ts : Int) (g : DBeacon) : Prop where
  kept : Kept l g.seg
  ts : g.seg.ts = ts
  ok : VSeg t g.seg
end Go.Proofs.YtpkcoinoiaaebaaGreat
namespace Go.Proofs.YtpkcoinoiaaebaaGreat
open Go.RowKit
set_option linter.unusedVariables false
/-- What the law asks of a hop. -/
structure HopLaw (t : DTopology) (l : List DPolicy) (s : DSegment) (j : Nat) : Prop where
  len : (j : Int) + 1 ≤ (polFor l (s.hops.getD j dHop).asn).maxLen
  closed : contains (polFor l (s.hops.getD j dHop).asn).closed (s.hops.getD j dHop).egr = false
  exp : (s.hops.getD j dHop).exp ≤ s.ts + (polFor l (s.hops.getD j dHop).asn).life ∧ 0 ≤ s.ts + (polFor l (s.hops.getD j dHop).asn).life ∧ s.ts + (polFor l (s.hops.getD j dHop).asn).life ≤ 1001000
  inter : interS (polFor l (s.hops.getD j dHop).asn).denied ((ases (s.hops.take j)).foldl addElem 0) = 0
  auth : authBy t s (s.hops.getD j dHop).asn = true
end Go.Proofs.YtpkcoinoiaaebaaGreat

