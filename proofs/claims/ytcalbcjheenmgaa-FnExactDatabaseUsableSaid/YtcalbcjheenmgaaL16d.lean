/- Contracts of the program's and the reference's functions on the segment database: CoreSegments. -/
import Derived.Test.YtcalbcjheenmgaaL16c
import Derived.Test.YtcalbcjheenmgaaPushD
namespace Go.Proofs.Ytcalbcjheenmgaa
open Go.RowKit
set_option linter.unusedVariables false
theorem keepE {w0 w2 : World} (h : Ext w0 w2) : w0.heap.size ≤ w2.heap.size ∧ ∀ b o, b < w0.heap.size → w2.cell? ⟨b, o, none⟩ = w0.cell? ⟨b, o, none⟩ := ⟨h.size, fun _ _ hb => h.cell hb⟩
end Go.Proofs.Ytcalbcjheenmgaa
