/- Contracts of the program's and the reference's functions on signatures: EqualSignatures, AddSignature. -/
import Derived.Test.YtfpfgifjigenaaaGreatGL0
import Derived.Test.YtfpfgifjigenaaaGreatGHR
import Derived.Test.YtfpfgifjigenaaaGreatGL5
import Derived.Deep.RegionWith
import Derived.Test.YtfpfgifjigenaaaGreatGL9
import Derived.Test.YtfpfgifjigenaaaGreatGHS
namespace Go.Proofs.YtfpfgifjigenaaaGreat
open Go.RowKit
set_option linter.unusedVariables false
end Go.Proofs.YtfpfgifjigenaaaGreat
namespace Go.Proofs.YtfpfgifjigenaaaGreat
open Go.RowKit
set_option linter.unusedVariables false
end Go.Proofs.YtfpfgifjigenaaaGreat
namespace Go.Proofs.YtfpfgifjigenaaaGreat
open Go.RowKit
set_option linter.unusedVariables false
end Go.Proofs.YtfpfgifjigenaaaGreat
