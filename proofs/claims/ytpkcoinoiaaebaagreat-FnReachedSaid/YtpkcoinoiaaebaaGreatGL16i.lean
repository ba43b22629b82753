/- What the program's and the reference's functions compute that fill segment databases: AddSegment, BuildDatabase. No conditions. -/
import Derived.Test.YtpkcoinoiaaebaaGreatGL14
import Derived.Test.YtpkcoinoiaaebaaGreatGL16
import Derived.Test.YtpkcoinoiaaebaaGreatGHB
import Derived.Test.YtpkcoinoiaaebaaGreatGL9
namespace Go.Proofs.YtpkcoinoiaaebaaGreat
open Go.RowKit
set_option linter.unusedVariables false
def dbPut (t : DTopology) (k : DSegmentDatabase) (s : DSegment) : DSegmentDatabase := if segKind t s = 2 then ⟨k.down ++ [s], k.core⟩ else ⟨k.down, k.core ++ [s]⟩
abbrev dbTot (k : DSegmentDatabase) : Nat := segTot k.down + segTot k.core
theorem dbPut_tot (t : DTopology) (k : DSegmentDatabase) (s : DSegment) : dbTot (dbPut t k s) = dbTot k + 1 + s.hops.length := by
  have h1 := totS_append (fun u : DSegment => u.hops.length) k.down [s]
  have h2 := totS_append (fun u : DSegment => u.hops.length) k.core [s]
  have h3 : totS (fun u : DSegment => u.hops.length) [s] = 1 + s.hops.length := by simp [totS]
  unfold dbTot segTot dbPut
  split <;> dsimp only <;> omega
def dStore : DBeaconStore := ⟨[]⟩
abbrev strTot (l : List DBeaconStore) : Nat := totS (fun y : DBeaconStore => bcnTot y.beacons) l
def dbStep (t : DTopology) (l : List DPolicy) (r : Int) (k : DSegmentDatabase) (g : DBeacon) : DSegmentDatabase := if termOk t (polFor l r) g.seg r g.ing then dbPut t k (grownSeg t (polFor l r) g.seg r g.ing 0) else k
def dbGots (t : DTopology) (l : List DPolicy) (r : Int) (k : DSegmentDatabase) (m : List DBeacon) : DSegmentDatabase := m.foldl (dbStep t l r) k
def dbTo (t : DTopology) (l : List DPolicy) (x : List DBeaconStore) : Nat → DSegmentDatabase
  | 0 => ⟨[], []⟩
  | n + 1 => dbGots t l n (dbTo t l x n) (x.getD n dStore).beacons
def buildDb (t : DTopology) (l : List DPolicy) (b : DBeaconing) : DSegmentDatabase := dbTo t l b.stores b.stores.length
theorem dbStep_tot (t : DTopology) (l : List DPolicy) (r : Int) (k : DSegmentDatabase) (g : DBeacon) : dbTot (dbStep t l r k g) ≤ dbTot k + 10 := by
  unfold dbStep
  split
  · rename_i h
    have h1 := validSeg_len (canExt_valid (termOk_can h))
    rw [dbPut_tot, grownSeg_len]
    omega
  · omega
theorem dbGots_tot (t : DTopology) (l : List DPolicy) (r : Int) : ∀ (m : List DBeacon) (k : DSegmentDatabase), dbTot (dbGots t l r k m) ≤ dbTot k + 10 * m.length
  | [], k => by unfold dbGots; simp
  | g :: m, k => by
    have h1 := dbGots_tot t l r m (dbStep t l r k g)
    have h2 := dbStep_tot t l r k g
    unfold dbGots at h1 ⊢
    simp only [List.foldl_cons, List.length_cons]
    omega
theorem dbTo_tot (t : DTopology) (l : List DPolicy) (x : List DBeaconStore) : ∀ n, n ≤ x.length → dbTot (dbTo t l x n) ≤ 10 * ((x.take n).map fun y => bcnTot y.beacons).sum
  | 0, _ => by simp [dbTo, dbTot, segTot, totS]
  | n + 1, h => by
    have h1 := dbTo_tot t l x n (by omega)
    have h2 := dbGots_tot t l n (x.getD n dStore).beacons (dbTo t l x n)
    have h3 := sum_take (fun y : DBeaconStore => bcnTot y.beacons) x n (by omega)
    have h4 : x.getD n dStore = x[n] := getD_is (by omega)
    have h5 := totS_len (fun y : DBeacon => y.seg.hops.length) x[n].beacons
    have h6 : dbTo t l x (n + 1) = dbGots t l n (dbTo t l x n) (x.getD n dStore).beacons := rfl
    rw [h4] at h2 h6
    rw [h6, h3]
    have h7 : bcnTot x[n].beacons = totS (fun y : DBeacon => y.seg.hops.length) x[n].beacons := rfl
    omega
theorem buildDb_tot (t : DTopology) (l : List DPolicy) (b : DBeaconing) : dbTot (buildDb t l b) ≤ 10 * strTot b.stores := by
  have h := dbTo_tot t l b.stores b.stores.length (Nat.le_refl _)
  rw [List.take_length] at h
  unfold buildDb strTot totS
  omega
theorem dbGots_snoc (t : DTopology) (l : List DPolicy) (r : Int) (k : DSegmentDatabase) (m : List DBeacon) (j : Nat) (h : j < m.length) : dbGots t l r k (m.take (j + 1)) = dbStep t l r (dbGots t l r k (m.take j)) m[j] := foldl_snoc _ _ _ _ h
end Go.Proofs.YtpkcoinoiaaebaaGreat
namespace Go.Proofs.YtpkcoinoiaaebaaGreat
open Go.RowKit
set_option linter.unusedVariables false
end Go.Proofs.YtpkcoinoiaaebaaGreat

