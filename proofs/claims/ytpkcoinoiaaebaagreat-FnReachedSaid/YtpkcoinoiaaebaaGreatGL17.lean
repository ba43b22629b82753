/- Contracts of the program's and the reference's functions on signatures: EqualSignatures, AddSignature. -/
import Derived.Test.YtpkcoinoiaaebaaGreatGL0
import Derived.Test.YtpkcoinoiaaebaaGreatGHR
import Derived.Test.YtpkcoinoiaaebaaGreatGL5
import Derived.Deep.RegionWith
import Derived.Test.YtpkcoinoiaaebaaGreatGL9
import Derived.Test.YtpkcoinoiaaebaaGreatGHS
namespace Go.Proofs.YtpkcoinoiaaebaaGreat
open Go.RowKit
set_option linter.unusedVariables false
end Go.Proofs.YtpkcoinoiaaebaaGreat
namespace Go.Proofs.YtpkcoinoiaaebaaGreat
open Go.RowKit
set_option linter.unusedVariables false
end Go.Proofs.YtpkcoinoiaaebaaGreat
namespace Go.Proofs.YtpkcoinoiaaebaaGreat
open Go.RowKit
set_option linter.unusedVariables false
end Go.Proofs.YtpkcoinoiaaebaaGreat

