/- Contracts of the program's and the reference's functions on signatures: EqualSignatures, AddSignature. -/
import Derived.Test.YtmopmgaeiokfjaaGreatGL0
import Derived.Test.YtmopmgaeiokfjaaGreatGHR
import Derived.Test.YtmopmgaeiokfjaaGreatGL5
import Derived.Deep.RegionWith
import Derived.Test.YtmopmgaeiokfjaaGreatGL9
import Derived.Test.YtmopmgaeiokfjaaGreatGHS
namespace Go.Proofs.YtmopmgaeiokfjaaGreat
open Go.RowKit
set_option linter.unusedVariables false
end Go.Proofs.YtmopmgaeiokfjaaGreat
