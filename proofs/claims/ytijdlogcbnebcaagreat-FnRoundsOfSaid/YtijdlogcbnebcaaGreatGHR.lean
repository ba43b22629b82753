/- The laws' helpers on Signature: to.. (copy), eq.. (compare), sz.. (count), mark.. and held... Printed by gen.py. -/
import Derived.Test.YtijdlogcbnebcaaGreatGCore
import Derived.Test.YtijdlogcbnebcaaGreatGGrow
namespace Go.Proofs.YtijdlogcbnebcaaGreat
open Go.RowKit
set_option linter.unusedVariables false
/-- What marking from q on writes. -/
def SignatureNum (q n : Nat) : List DSignature := (List.range n).map fun j => ⟨((q + 2 * j : Nat) : Int), ((q + 2 * j : Nat) : Int) + 1⟩
theorem SignatureNum_len {q n : Nat} : (SignatureNum q n).length = n := by simp [SignatureNum]
end Go.Proofs.YtijdlogcbnebcaaGreat
namespace Go.Proofs.YtijdlogcbnebcaaGreat
open Go.RowKit
set_option linter.unusedVariables false
/-- What marking from q on leaves. -/
def TrustRootNum1 (q : Nat) (x : DTrustRoot) : DTrustRoot := { isd := x.isd, version := x.version, notBefore := x.notBefore, notAfter := x.notAfter, voters := x.voters, quorum := x.quorum, sigs := (SignatureNum q x.sigs.length) }
/-- How many numbers an element takes, and the element with its numbers from q on. -/
def TrustRootCnt (x : DTrustRoot) : Nat := 6 + 2 * x.sigs.length
def TrustRootNumE (q : Nat) (x : DTrustRoot) : DTrustRoot := ⟨(q : Int), (q : Int) + 1, (q : Int) + 1 + 1, (q : Int) + 1 + 1 + 1, (q : Int) + 1 + 1 + 1 + 1, (q : Int) + 1 + 1 + 1 + 1 + 1, (SignatureNum (q + 6) x.sigs.length)⟩
theorem TrustRootCnt_le (x : DTrustRoot) : TrustRootCnt x ≤ 10 + 10 * (x.sigs.length) := by
  unfold TrustRootCnt
  omega
theorem TrustRootCnt_sum (l : List DTrustRoot) : (l.map TrustRootCnt).sum ≤ 10 * (totS (fun y => y.sigs.length) l) := cnt_le (fun x => TrustRootCnt_le x) l
end Go.Proofs.YtijdlogcbnebcaaGreat
namespace Go.Proofs.YtijdlogcbnebcaaGreat
open Go.RowKit
set_option linter.unusedVariables false
end Go.Proofs.YtijdlogcbnebcaaGreat
