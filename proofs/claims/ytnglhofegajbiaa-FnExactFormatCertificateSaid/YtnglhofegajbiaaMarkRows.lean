/- Marks of a []int at the one block that it has. Printed by gen.py. -/
import Derived.Test.YtnglhofegajbiaaInts
import Derived.Test.YtnglhofegajbiaaMarks
namespace Go.Proofs.Ytnglhofegajbiaa
open Go.RowKit
set_option linter.unusedVariables false
end Go.Proofs.Ytnglhofegajbiaa
