/- Contracts of the program's and the reference's functions on trust roots: copies, UpdateRoots. -/
import Derived.Test.YtddaodemdkjijaaGreatGL18d
import Derived.Test.YtddaodemdkjijaaGreatGGrow
namespace Go.Proofs.YtddaodemdkjijaaGreat
open Go.RowKit
set_option linter.unusedVariables false
def updRoots (t : DTopology) (l : List DTrustRoot) (x : DTrustRoot) : List DTrustRoot := if validChain t (l ++ [x]) then l ++ [x] else l
theorem updRoots_tot (t : DTopology) (l : List DTrustRoot) (x : DTrustRoot) : totS (fun y : DTrustRoot => y.sigs.length) (updRoots t l x) ≤ totS (fun y => y.sigs.length) l + (1 + x.sigs.length) := by
  unfold updRoots
  split
  · have h : totS (fun y : DTrustRoot => y.sigs.length) [x] = 1 + x.sigs.length := by simp [totS]
    rw [totS_append]
    omega
  · omega
end Go.Proofs.YtddaodemdkjijaaGreat
