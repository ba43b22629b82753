/- Words for the draws of the law FnBooks. No conditions. -/
import Derived.Test.YtmopmgaeiokfjaaGreatD42
import Derived.Test.YtmopmgaeiokfjaaGreatGD31
namespace Go.Proofs.YtmopmgaeiokfjaaGreat
open Go.RowKit
set_option linter.unusedVariables false
theorem SegmentDatabaseQ.kp {lo hi m : Nat} {a b : World} {v : Value} {x : DSegmentDatabase} (h : SegmentDatabaseQ lo hi a v x) (hk : Kp m a b) (hm : m ≤ lo) (hh : hi ≤ a.heap.size) : SegmentDatabaseV b.heap.size b v x :=
 SegmentDatabaseQ_rd ((h.keep fun k h1 _ _ => hk.same k (by omega)).more (Nat.le_refl _) (by rw [hk.size]; exact hh)) (Nat.le_refl _)
theorem SegmentO.kpB {lo hi m : Nat} {a b : World} {v : Value} {t : DSegment} (h : SegmentO lo hi a v t) (hk : Kp m a b) (hm : m ≤ lo) (hh : hi ≤ a.heap.size) : SegmentV b.heap.size b v t :=
 SegmentO_rd (SegmentO.more (h.keep fun k h1 _ _ => hk.same k (by omega)) (Nat.le_refl _) (by rw [hk.size]; exact hh)) (Nat.le_refl _)
theorem SegmentO.dB {lo hi g : Nat} {w w' : World} {v : Value} {t : DSegment} (h : SegmentO lo hi w v t) (hd : D g w w') (hg : g < lo) : SegmentO lo hi w' v t := h.keep fun k h1 _ h3 => hd.block h3 (by omega)
end Go.Proofs.YtmopmgaeiokfjaaGreat
