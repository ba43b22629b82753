/- From the form's reading of an argument to the words of this seat: each argument of a law reads as a datum of the Lean types. No conditions. -/
import Derived.Test.YtmopmgaeiokfjaaGreatGCore
import Derived.Test.YtmopmgaeiokfjaaGreatRows
import Derived.ProofKit
import Derived.OpenShut
import Derived.ShutString
import Derived.ChangeOld
import Derived.Deep.Slices
import Derived.Deep.Fields
namespace Go.Proofs.YtmopmgaeiokfjaaGreat
open Go.RowKit
set_option linter.unusedVariables false
open Go.ChangeShapes Go.WideShapes Go.ChangeAt Go.Deep
section
variable {H : Type} {enc : TypeId × Value → H} {w : World} {base : Nat} {spare : Nat → Bool} {held : Bool}
theorem list_of {α : Type} {Q : Nat → α → Prop} (n : Nat) (h : ∀ k, k < n → ∃ d, Q k d) : ∃ ds : List α, ds.length = n ∧ ∀ k (hk : k < ds.length), Q k ds[k] := by
 induction n with
 | zero => exact ⟨[], rfl, fun k hk => absurd hk (by simp)⟩
 | succ n ih =>
   obtain ⟨ds, hl, hq⟩ := ih fun k hk => h k (by omega);obtain ⟨d, hd⟩ := h n (by omega);refine ⟨ds ++ [d], by simp [hl], fun k hk => ?_⟩;rw [List.length_append, List.length_singleton] at hk;by_cases hkn : k < ds.length
   · rw [List.getElem_append_left hkn]
     exact hq k hkn
   · obtain rfl : k = n := by omega
     rw [List.getElem_append_right (by omega)]
     simpa [hl] using hd
def Elem {α : Type} (H : Type) (enc : TypeId × Value → H) (w : World) (base : Nat) (spare : Nat → Bool) (held : Bool) (e sz : Nat) (At : Nat → World → Nat → Nat → α → Prop) : Prop :=
 ∀ (fuel b o : Nat) (cs : List Value) (x : DataW H × List MemPlace), DataW.trod enc Tryz.prog w base spare held fuel e cs = some x → (∀ j u, cs[j]? = some u → w.cell? ⟨b, o + j, none⟩ = some u) → b < w.heap.size → ∃ d, At w.heap.size w b o d
theorem read_slice {α : Type} {At : Nat → World → Nat → Nat → α → Prop} {t e sz fuel : Nat} {cs : List Value} {x : DataW H × List MemPlace} (ht : Tryz.prog.underlying t = some (.slice e)) (hc : Tryz.prog.cellsOf e = sz) (hsz : 0 < sz)
 (hel : Elem H enc w base spare held e sz At) (h : DataW.trod enc Tryz.prog w base spare held fuel t cs = some x) : ∃ A n c ds, cs = [.slice A n c] ∧ Sl At (fun k => k * sz) w.heap.size w (.slice A n c) ds := by
 rcases open_slice ht h with ⟨rfl, _⟩ | ⟨a, len, cap, m, n, D, Pl, rfl, hb, hl, hm, hmm, _, hi⟩
 · exact ⟨none, 0, 0, [], rfl, none, 0, 0, rfl, rfl, Nat.le_refl _, Nat.zero_le _, fun h => absurd h (by omega)⟩
 · rw [hc] at hi
   have hlm : len ≤ m := by rw [hmm]; split <;> omega
   rcases Nat.eq_zero_or_pos len with h0 | h0
   · subst h0
     exact ⟨some a, 0, cap, [], rfl, some a, 0, cap, rfl, rfl, hl, hm, fun h => absurd h (by omega)⟩
   · obtain ⟨b, off, spot⟩ := a
     have hspot : spot = none := by
      obtain ⟨cs', hcs, _⟩ := hi 0 (by omega);obtain ⟨_, hcl, hat⟩ := World.cells?_some hcs;have h1 := hat 0 hsz;rw [List.getElem?_eq_getElem (by omega)] at h1
      simpa [Addr.add] using World.cell?_spot h1
     subst hspot
     obtain ⟨ds, hdl, hds⟩ := list_of (Q := fun k d => b < w.heap.size ∧ At w.heap.size w b (off + k * sz) d) len fun k hk => by
      obtain ⟨cs', hcs, htr⟩ := hi k (by omega);obtain ⟨_, hcl, hat⟩ := World.cells?_some hcs
      have hat' : ∀ j u, cs'[j]? = some u → w.cell? ⟨b, off + k * sz + j, none⟩ = some u := fun j u hu => by
       have hj := (List.getElem?_eq_some_iff.1 hu).1;have := hat j (by omega);rw [hu] at this
       have e1 : ((⟨b, off, none⟩ : Addr).add (k * sz)).add j = ⟨b, off + k * sz + j, none⟩ := by
        unfold Addr.add;by_cases h1 : k * sz = 0 <;> by_cases h2 : j = 0 <;> simp [h1, h2]
       rw [e1] at this;exact this
      have hblt : b < w.heap.size := World.block_lt_of_cell? w ⟨b, off + k * sz + 0, none⟩ (hat' 0 _ (List.getElem?_eq_getElem (by omega)));obtain ⟨d, hd⟩ := hel n b (off + k * sz) cs' _ htr hat' hblt;exact ⟨d, hblt, hd⟩
     refine ⟨_, len, cap, ds, rfl, _, len, cap, rfl, hdl, hl, hm, fun _ => ⟨b, off, rfl, (hds 0 (by omega)).1, fun k hk => (hds k hk).2⟩⟩
end
end Go.Proofs.YtmopmgaeiokfjaaGreat
