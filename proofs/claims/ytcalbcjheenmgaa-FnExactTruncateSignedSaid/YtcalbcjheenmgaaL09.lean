/- Contracts of the program's and the reference's functions on hop lists. -/
import Derived.Test.YtcalbcjheenmgaaL03
import Derived.Test.YtcalbcjheenmgaaHHop
namespace Go.Proofs.Ytcalbcjheenmgaa
open Go.RowKit
set_option linter.unusedVariables false
end Go.Proofs.Ytcalbcjheenmgaa
