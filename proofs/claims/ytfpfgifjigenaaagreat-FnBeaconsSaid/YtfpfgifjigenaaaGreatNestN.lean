/- Slices whose elements hold slices: one element's cells are written anew, any number of cells. No conditions. -/
import Derived.Test.YtfpfgifjigenaaaGreatGCore
namespace Go.Proofs.YtfpfgifjigenaaaGreat
open Go.RowKit
set_option linter.unusedVariables false
theorem NO.setN {α : Type} {OC : World → List Nat → List Value → α → Prop} (hK : OKeeps OC) {W : World} {E sz lo hi : Nat} {A : Option Addr} {n c : Nat} {ds : List α} {k : Nat} (h : NO OC E sz lo hi W (.slice A n c) ds) (hk : k < ds.length) :
 ∃ g c1 c0 c3 f0, A = some ⟨g, 0, none⟩ ∧ n = ds.length ∧ lo ≤ g ∧ g < hi ∧ Blk W g E (c1 ++ (c0 ++ c3)) ∧ c1.length = k * sz ∧ c0.length = sz ∧ OC W f0 c0 ds[k] ∧ (∀ b ∈ f0, lo ≤ b ∧ b < hi ∧ b ≠ g) ∧ f0.Nodup ∧
  ∀ (W' : World) (c0' : List Value) (f2 : List Nat) (x : α) (hi' : Nat), hi ≤ hi' → c0'.length = sz → Blk W' g E (c1 ++ (c0' ++ c3)) → (∀ b, b ≠ g → lo ≤ b → b < hi → W'.heap[b]? = W.heap[b]?) → OC W' f2 c0' x → f2.Nodup → ((∀ b ∈ f2, hi ≤ b ∧ b < hi') ∨ (∀ b ∈ f2, b ∈ f0)) → NO OC E sz lo hi' W' (.slice A n c) (ds.set k x) := by
 obtain ⟨cs, fp, hown, hl, hnd, hbd⟩ := h
 rcases hown.cases with ⟨e, h0, _⟩ | ⟨g, cap, rest, e, hg1, hg2, hblk, hlc, hcap, hm, hs⟩
 · omega
 · simp only [Value.slice.injEq] at e
   obtain ⟨rfl, rfl, rfl⟩ := e;obtain ⟨f1, f0, f3, c1, c0, c3, e1, e2, l1, l2, ol1, oc0, ol3⟩ := hl.at_ k hk
   have hgf : g ∉ fp := by
    simp only [Value.ownBlock, Option.toList_some, List.singleton_append, List.nodup_cons] at hnd;exact hnd.1
   have hnf : fp.Nodup := (List.nodup_append.1 hnd).2.1;rw [e1] at hnf hgf;have hf1 := List.nodup_append.1 hnf;have hf3 := List.nodup_append.1 hf1.2.1
   have m1 : ∀ b ∈ f1, b ∈ fp := fun b hb => by rw [e1]; exact List.mem_append_left _ hb
   have m0 : ∀ b ∈ f0, b ∈ fp := fun b hb => by rw [e1]; exact List.mem_append_right _ (List.mem_append_left _ hb)
   have m3 : ∀ b ∈ f3, b ∈ fp := fun b hb => by rw [e1]; exact List.mem_append_right _ (List.mem_append_right _ hb)
   have hgf' : ∀ b ∈ fp, b ≠ g := fun b hb e => hgf (by rw [← e1, ← e]; exact hb);refine ⟨g, c1, c0, c3 ++ rest, f0, rfl, rfl, hg1, hg2, by (rw [e2] at hblk; simpa using hblk), l1, l2, oc0, fun b hb => ⟨(hbd b (m0 b hb)).1, (hbd b (m0 b hb)).2, hgf' b (m0 b hb)⟩, hf3.1, ?_⟩;intro W' c0' f2 x hi' hhi hl' hblk' hkeep hoc hn2 hb2
   have hb2' : ∀ b ∈ f2, b ≠ g ∧ lo ≤ b ∧ b < hi' := fun b hb => by
    rcases hb2 with h2 | h2
    · have := h2 b hb; omega
    · have h3 := hbd b (m0 b (h2 b hb)); have h4 := hgf' b (m0 b (h2 b hb)); omega
   have d1 : ∀ a ∈ f1, ∀ b ∈ f2, a ≠ b := fun a ha b hb e => by
    subst e
    rcases hb2 with h2 | h2
    · have h3 := h2 a hb; have h4 := hbd a (m1 a ha); omega
    · exact hf1.2.2 a ha a (List.mem_append_left _ (h2 a hb)) rfl
   have d3 : ∀ a ∈ f2, ∀ b ∈ f3, a ≠ b := fun a ha b hb e => by
    subst e
    rcases hb2 with h2 | h2
    · have h3 := h2 a ha; have h4 := hbd a (m3 a hb); omega
    · exact hf3.2.2 a (h2 a ha) a hb rfl
   refine ⟨c1 ++ (c0' ++ c3), f1 ++ (f2 ++ f3), ?_, ?_, ?_, ?_⟩
   · rw [List.length_set]
     rw [e2] at hlc hs;refine Own.mk' hg1 (by omega) (cs := c1 ++ (c0' ++ c3)) (rest := rest) (by simpa using hblk') ?_ hcap hm ?_
     · simp only [List.length_append] at hlc ⊢
       omega
     · simp only [List.length_append] at hs ⊢
       omega
   · rw [set_split ds k x hk]
     refine OL.append (ol1.keep hK fun b hb _ => hkeep b (hgf' b (m1 b hb)) (hbd b (m1 b hb)).1 (hbd b (m1 b hb)).2) ⟨f2, f3, c0', c3, rfl, rfl, hl', hoc, ol3.keep hK fun b hb _ => hkeep b (hgf' b (m3 b hb)) (hbd b (m3 b hb)).1 (hbd b (m3 b hb)).2⟩
   · simp only [Value.ownBlock, Option.toList_some, List.singleton_append, List.nodup_cons]
     refine ⟨fun hm' => ?_, List.nodup_append.2 ⟨hf1.1, List.nodup_append.2 ⟨hn2, hf3.2.1, fun a ha b hb => d3 a ha b hb⟩, fun a ha b hb e => ?_⟩⟩
     · rcases List.mem_append.1 hm' with hm' | hm'
       · exact hgf' g (m1 g hm') rfl
       · rcases List.mem_append.1 hm' with hm' | hm'
         · exact (hb2' g hm').1 rfl
         · exact hgf' g (m3 g hm') rfl
     · rcases List.mem_append.1 hb with hb | hb
       · exact d1 a ha b hb e
       · exact hf1.2.2 a ha b (List.mem_append_right _ hb) e
   · intro b hb
     rcases List.mem_append.1 hb with hb | hb
     · have := hbd b (m1 b hb); omega
     · rcases List.mem_append.1 hb with hb | hb
       · have := hb2' b hb; omega
       · have := hbd b (m3 b hb); omega
end Go.Proofs.YtfpfgifjigenaaaGreat
