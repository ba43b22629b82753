/- The laws' helpers on Signature: to.. (copy), eq.. (compare), sz.. (count), mark.. and held... Printed by gen.py. -/
import Derived.Test.YtfpfgifjigenaaaGreatGCore
import Derived.Test.YtfpfgifjigenaaaGreatGGrow
namespace Go.Proofs.YtfpfgifjigenaaaGreat
open Go.RowKit
set_option linter.unusedVariables false
end Go.Proofs.YtfpfgifjigenaaaGreat
namespace Go.Proofs.YtfpfgifjigenaaaGreat
open Go.RowKit
set_option linter.unusedVariables false
end Go.Proofs.YtfpfgifjigenaaaGreat
namespace Go.Proofs.YtfpfgifjigenaaaGreat
open Go.RowKit
set_option linter.unusedVariables false
end Go.Proofs.YtfpfgifjigenaaaGreat
