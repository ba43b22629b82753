/- Marks of a []int at the one block that it has. Printed by gen.py. -/
import Derived.Test.YtjfoolffiflchaaInts
import Derived.Test.YtjfoolffiflchaaMarks
namespace Go.Proofs.Ytjfoolffiflchaa
open Go.RowKit
set_option linter.unusedVariables false
end Go.Proofs.Ytjfoolffiflchaa
