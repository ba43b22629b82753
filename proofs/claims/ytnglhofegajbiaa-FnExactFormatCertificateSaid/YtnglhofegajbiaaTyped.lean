/- What a store into a block of one type leaves of rows of other types. No conditions. -/
import Derived.Test.YtnglhofegajbiaaFresh
import Derived.Test.YtnglhofegajbiaaPush
namespace Go.Proofs.Ytnglhofegajbiaa
open Go.RowKit
set_option linter.unusedVariables false
/-- v points at a block of the cells zs, made since block lo. -/
def Zero1 (E lo : Nat) (zs : List Value) (v : Value) (W : World) : Prop := ∃ g, v = .pointer (some ⟨g, 0, none⟩) ∧ lo ≤ g ∧ Blk W g E zs
theorem Zero1.ext {E lo : Nat} {zs : List Value} {v : Value} {W W' : World} (h : Zero1 E lo zs v W) (he : Ext W W') : Zero1 E lo zs v W' := by
  obtain ⟨g, e, hg, hb⟩ := h
  exact ⟨g, e, hg, hb.ext he⟩
theorem ownsRow_typed {w : World} {base E T sz n g : Nat} {v : Value} {cs cs' : List Value} (h : w.ownsRow base E sz v n cs) (hb : Blk w g T cs') (hne : E ≠ T) : g ∉ v.ownBlock.toList := by
  intro hm
  rcases h.2 with ⟨rfl, _⟩ | ⟨g', cap, cur, rfl, _, hh, _⟩
  · simp [Value.ownBlock] at hm
  · have e : g = g' := by simpa [Value.ownBlock] using hm
    subst e
    unfold Blk at hb
    rw [hh] at hb
    simp at hb
    exact hne hb.2
theorem Own.setT {E T sz lo hi n g : Nat} {w : World} {v : Value} {cs cs' : List Value} (h : Own E sz lo hi w v n cs) (hb : Blk w g T cs') (hne : E ≠ T) (i : Nat) (u : Value) : Own E sz lo hi (w.setCell ⟨g, i, none⟩ u) v n cs :=
  ⟨ownsRow_set h.1 (ownsRow_typed h.1 hb hne), h.2⟩
/-- No block of such an element is of type T. -/
def OTyped {α : Type} (OC : World → List Nat → List Value → α → Prop) (T : Nat) : Prop := ∀ w fp cs x g cs', OC w fp cs x → Blk w g T cs' → g ∉ fp
theorem OL.typed {α : Type} {OC : World → List Nat → List Value → α → Prop} {sz T g : Nat} {w : World} {cs' : List Value} (hT : OTyped OC T) (hb : Blk w g T cs') : ∀ {ds : List α} {fp : List Nat} {cs : List Value}, OL OC sz w ds fp cs → g ∉ fp
  | [], _, _, ⟨e, _⟩, hm => by subst e; cases hm
  | _ :: _, _, _, ⟨f1, f2, c1, c2, e1, _, _, ho, hr⟩, hm => by
    subst e1
    rcases List.mem_append.1 hm with hm | hm
    · exact hT _ _ _ _ _ _ ho hb hm
    · exact OL.typed hT hb hr hm
theorem NO.setT {α : Type} {OC : World → List Nat → List Value → α → Prop} {E T sz lo hi g : Nat} {w : World} {v : Value} {ds : List α} {cs' : List Value} (hK : OKeeps OC) (hT : OTyped OC T) (h : NO OC E sz lo hi w v ds) (hb : Blk w g T cs') (hne : E ≠ T) (i : Nat) (u : Value) : NO OC E sz lo hi (w.setCell ⟨g, i, none⟩ u) v ds := by
  obtain ⟨cs, fp, ho, hl, hn, hbd⟩ := h
  exact ⟨cs, fp, ho.setT hb hne i u, hl.set hK (OL.typed hT hb hl), hn, hbd⟩
end Go.Proofs.Ytnglhofegajbiaa
