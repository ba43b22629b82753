/- Contracts of the program's and the reference's functions on trust roots: RootData. -/
import Derived.Test.YtnglhofegajbiaaL17
import Derived.Test.YtnglhofegajbiaaHTrustRoot
namespace Go.Proofs.Ytnglhofegajbiaa
open Go.RowKit
set_option linter.unusedVariables false
def rootData (x : DTrustRoot) : List Int := [x.isd, x.version, x.notBefore, x.notAfter, x.voters, x.quorum]
end Go.Proofs.Ytnglhofegajbiaa
