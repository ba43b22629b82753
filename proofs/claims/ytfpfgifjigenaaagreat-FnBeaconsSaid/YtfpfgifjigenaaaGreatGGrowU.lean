/- A region that draws its order: as XGrowS, the pure operations that may run late named one by one. No conditions. -/
import Derived.Test.YtfpfgifjigenaaaGreatGGrow
namespace Go.Proofs.YtfpfgifjigenaaaGreat
open Go
section
variable {P : Program} {ops : Array Oper} {E : World → World → Prop} {w0 : World} {G : Tmp → Option (Value → World → Prop)}
end
end Go.Proofs.YtfpfgifjigenaaaGreat
namespace Go.Proofs.YtfpfgifjigenaaaGreat
open Go
section
variable {P : Program} {ops : Array Oper} {E : World → World → Prop} {w0 : World} {G : Tmp → Option (Value → World → Prop)}
end
end Go.Proofs.YtfpfgifjigenaaaGreat
