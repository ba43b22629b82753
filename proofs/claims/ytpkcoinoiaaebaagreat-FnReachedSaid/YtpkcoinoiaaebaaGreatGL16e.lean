/- Contracts of the program's and the reference's functions on segments: SegmentUsable. -/
import Derived.Test.YtpkcoinoiaaebaaGreatGL10c
import Derived.Test.YtpkcoinoiaaebaaGreatGL16
import Derived.Test.YtpkcoinoiaaebaaGreatGGrow
import Derived.Test.YtpkcoinoiaaebaaGreatGHS
import Derived.Test.YtpkcoinoiaaebaaGreatGL9
import Derived.Test.YtpkcoinoiaaebaaGreatGHD
namespace Go.Proofs.YtpkcoinoiaaebaaGreat
open Go.RowKit
set_option linter.unusedVariables false
end Go.Proofs.YtpkcoinoiaaebaaGreat
namespace Go.Proofs.YtpkcoinoiaaebaaGreat
open Go.RowKit
set_option linter.unusedVariables false
end Go.Proofs.YtpkcoinoiaaebaaGreat
namespace Go.Proofs.YtpkcoinoiaaebaaGreat
open Go.RowKit
set_option linter.unusedVariables false
end Go.Proofs.YtpkcoinoiaaebaaGreat
namespace Go.Proofs.YtpkcoinoiaaebaaGreat
open Go.RowKit
set_option linter.unusedVariables false
end Go.Proofs.YtpkcoinoiaaebaaGreat
namespace Go.Proofs.YtpkcoinoiaaebaaGreat
open Go.RowKit
set_option linter.unusedVariables false
end Go.Proofs.YtpkcoinoiaaebaaGreat
namespace Go.Proofs.YtpkcoinoiaaebaaGreat
open Go.RowKit
set_option linter.unusedVariables false
end Go.Proofs.YtpkcoinoiaaebaaGreat
namespace Go.Proofs.YtpkcoinoiaaebaaGreat
open Go.RowKit
set_option linter.unusedVariables false
end Go.Proofs.YtpkcoinoiaaebaaGreat

