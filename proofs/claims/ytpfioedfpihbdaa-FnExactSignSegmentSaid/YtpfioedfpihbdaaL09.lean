/- Contracts of the program's and the reference's functions on hop lists. -/
import Derived.Test.YtpfioedfpihbdaaL03
import Derived.Test.YtpfioedfpihbdaaHHop
namespace Go.Proofs.Ytpfioedfpihbdaa
open Go.RowKit
set_option linter.unusedVariables false
end Go.Proofs.Ytpfioedfpihbdaa
