/- The laws' helpers on Signature: to.. (copy), eq.. (compare), sz.. (count), mark.. and held... Printed by gen.py. -/
import Derived.Test.YtpkcoinoiaaebaaGreatGCore
import Derived.Test.YtpkcoinoiaaebaaGreatGGrow
namespace Go.Proofs.YtpkcoinoiaaebaaGreat
open Go.RowKit
set_option linter.unusedVariables false
end Go.Proofs.YtpkcoinoiaaebaaGreat
namespace Go.Proofs.YtpkcoinoiaaebaaGreat
open Go.RowKit
set_option linter.unusedVariables false
end Go.Proofs.YtpkcoinoiaaebaaGreat
namespace Go.Proofs.YtpkcoinoiaaebaaGreat
open Go.RowKit
set_option linter.unusedVariables false
end Go.Proofs.YtpkcoinoiaaebaaGreat

