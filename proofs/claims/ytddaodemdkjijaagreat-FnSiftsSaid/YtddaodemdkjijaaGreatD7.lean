/- The contract of the reference's DrawRoots: a short chain over a small topology. The given slice holds bytes. -/
import Derived.Test.YtddaodemdkjijaaGreatD6
import Derived.Test.YtddaodemdkjijaaGreatL18g
namespace Go.Proofs.YtddaodemdkjijaaGreat
open Go.RowKit
set_option linter.unusedVariables false
theorem Sl.takeR {α : Type} {At : Nat → World → Nat → Nat → α → Prop} {pos : Nat → Nat} {B : Nat} {w : World} {A : Option Addr} {n c k : Nat} {ds : List α} (h : Sl At pos B w (.slice A n c) ds) (hk : k ≤ n) : Sl At pos B w (.slice A k c) (ds.take k) := by
  obtain ⟨A', n', c', e, hl, hn, hc, hr⟩ := h
  cases e
  refine ⟨_, _, _, rfl, by rw [List.length_take, hl]; omega, by omega, hc, fun h0 => ?_⟩
  obtain ⟨b, off, e, hb, hat⟩ := hr (by omega)
  refine ⟨b, off, e, hb, fun j hj => ?_⟩
  rw [List.getElem_take]
  exact hat j (by rw [List.length_take] at hj; omega)
end Go.Proofs.YtddaodemdkjijaaGreat
