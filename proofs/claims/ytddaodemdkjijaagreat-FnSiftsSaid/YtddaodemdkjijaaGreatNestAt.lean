/- Slices whose elements hold slices: one cell of one element is set anew. No conditions. -/
import Derived.Test.YtddaodemdkjijaaGreatGCore
namespace Go.Proofs.YtddaodemdkjijaaGreat
open Go.RowKit
set_option linter.unusedVariables false
/-- Element k of an owned slice: where it lies, what it holds, and what it is once its cell j has been set. -/
theorem NO.elem {α : Type} {OC : World → List Nat → List Value → α → Prop} (hK : OKeeps OC) {W : World} {E sz lo hi : Nat} {A : Option Addr} {n c : Nat} {ds : List α} {k : Nat} (h : NO OC E sz lo hi W (.slice A n c) ds) (hk : k < ds.length) :
    ∃ g f0 c0, A = some ⟨g, 0, none⟩ ∧ n = ds.length ∧ lo ≤ g ∧ g < hi ∧ g < W.heap.size ∧ OC W f0 c0 ds[k] ∧ c0.length = sz ∧ f0.Nodup ∧ (∀ b ∈ f0, lo ≤ b ∧ b < hi ∧ b ≠ g) ∧ (∀ j, W.frozen? ⟨g, k * sz + j, none⟩ = false) ∧ (∀ j u, c0[j]? = some u → W.cell? ⟨g, k * sz + j, none⟩ = some u) ∧ (∃ cs, Blk W g E cs) ∧
      ∀ (j : Nat) (u : Value) (f2 : List Nat) (x : α) (hi' : Nat), j < sz → hi ≤ hi' → OC W f2 (c0.set j u) x → f2.Nodup → (f2 = f0 ∨ ∀ b ∈ f2, hi ≤ b ∧ b < hi') → NO OC E sz lo hi' (W.setCell ⟨g, k * sz + j, none⟩ u) (.slice A n c) (ds.set k x) := by
  obtain ⟨cs, fp, hown, hl, hnd, hbd⟩ := h
  rcases hown.cases with ⟨e, h0, _⟩ | ⟨g, cap, rest, e, hg1, hg2, hblk, hlc, hcap, hm, hs⟩
  · omega
  · simp only [Value.slice.injEq] at e
    obtain ⟨rfl, rfl, rfl⟩ := e
    obtain ⟨f1, f0, f3, c1, c0, c3, e1, e2, l1, l2, ol1, oc, ol3⟩ := hl.at_ k hk
    have hgf : g ∉ fp := by
      simp only [Value.ownBlock, Option.toList_some, List.singleton_append, List.nodup_cons] at hnd
      exact hnd.1
    have hnf : fp.Nodup := (List.nodup_append.1 hnd).2.1
    have hf0 : ∀ b ∈ f0, b ∈ fp := fun b hb => by rw [e1]; exact List.mem_append_right _ (List.mem_append_left _ hb)
    have hn0 : f0.Nodup := by
      rw [e1] at hnf
      exact (List.nodup_append.1 (List.nodup_append.1 hnf).2.1).1
    refine ⟨g, f0, c0, rfl, rfl, hg1, hg2, hblk.lt, oc, l2, hn0, fun b hb => ⟨(hbd b (hf0 b hb)).1, (hbd b (hf0 b hb)).2, fun e => hgf (by rw [← e]; exact hf0 b hb)⟩, fun j => hblk.frozen _, fun j u hu => ?_, ⟨_, hblk⟩, ?_⟩
    · have hj := (List.getElem?_eq_some_iff.1 hu).1
      rw [hblk.cell, e2, List.append_assoc, List.getElem?_append_right (by omega), show k * sz + j - c1.length = j by omega, List.append_assoc, List.getElem?_append_left (by omega)]
      exact hu
    intro j u f2 x hi' hj hh ho hn hb
    have hkeep : ∀ b, b ≠ g → (W.setCell ⟨g, k * sz + j, none⟩ u).heap[b]? = W.heap[b]? := fun b hb => Below.heap_setCell _ _ _ _ hb
    have hgf2 : g ∉ f2 := by
      rcases hb with rfl | hb
      · exact fun hm => hgf (hf0 g hm)
      · exact fun hm => by have := (hb g hm).1; omega
    have hblk2 : Blk (W.setCell ⟨g, k * sz + j, none⟩ u) g E ((c1 ++ (c0.set j u ++ c3)) ++ rest) := by
      have h1 := hblk.set_ (k * sz + j) u
      have h2 : (cs ++ rest).set (k * sz + j) u = (c1 ++ (c0.set j u ++ c3)) ++ rest := by
        rw [e2, List.append_assoc, List.set_append_right _ _ (by omega), show k * sz + j - c1.length = j by omega, List.append_assoc, List.set_append_left _ _ (by omega)]
        simp
      rw [h2] at h1
      exact h1
    refine ⟨c1 ++ (c0.set j u ++ c3), f1 ++ (f2 ++ f3), ?_, ?_, ?_, ?_⟩
    · have hlen : (c1 ++ (c0.set j u ++ c3)).length = ds.length * sz := by
        rw [e2] at hlc
        simp only [List.length_append, List.length_set] at hlc ⊢
        exact hlc
      rw [List.length_set]
      exact Own.mk' hg1 (by omega) hblk2 hlen hcap hm (by
        rw [e2] at hs
        simp only [List.length_append, List.length_set] at hs ⊢
        exact hs)
    · rw [set_split ds k x hk]
      refine OL.append (ol1.keep hK fun b hb' _ => hkeep b (fun e => hgf (by rw [e1]; rw [← e]; exact List.mem_append_left _ hb'))) ⟨f2, f3, c0.set j u, c3, rfl, rfl, by rw [List.length_set]; exact l2, hK _ _ _ _ _ (fun b hb' _ => hkeep b (fun e => hgf2 (by rw [← e]; exact hb'))) ho, ol3.keep hK fun b hb' _ => hkeep b (fun e => hgf (by rw [e1]; rw [← e]; exact List.mem_append_right _ (List.mem_append_right _ hb')))⟩
    · simp only [Value.ownBlock, Option.toList_some, List.singleton_append, List.nodup_cons]
      rcases hb with rfl | hb
      · rw [← e1]
        exact ⟨hgf, hnf⟩
      rw [e1] at hnf hgf
      have hf1 := List.nodup_append.1 hnf
      have hf3 := List.nodup_append.1 hf1.2.1
      refine ⟨fun hm' => ?_, List.nodup_append.2 ⟨hf1.1, List.nodup_append.2 ⟨hn, hf3.2.1, fun a ha b hb' e => ?_⟩, fun a ha b hb' e => ?_⟩⟩
      · rcases List.mem_append.1 hm' with hm' | hm'
        · exact hgf (List.mem_append_left _ hm')
        · rcases List.mem_append.1 hm' with hm' | hm'
          · have := (hb g hm').1; omega
          · exact hgf (List.mem_append_right _ (List.mem_append_right _ hm'))
      · have h1 := (hb a ha).1
        have h2 := (hbd b (by rw [e1]; exact List.mem_append_right _ (List.mem_append_right _ hb'))).2
        omega
      · rcases List.mem_append.1 hb' with hb' | hb'
        · have h1 := (hb b hb').1
          have h2 := (hbd a (by rw [e1]; exact List.mem_append_left _ ha)).2
          omega
        · exact hf1.2.2 a ha b (List.mem_append_right _ hb') e
    · intro b hm'
      rcases List.mem_append.1 hm' with hm' | hm'
      · have := hbd b (by rw [e1]; exact List.mem_append_left _ hm'); omega
      · rcases List.mem_append.1 hm' with hm' | hm'
        · rcases hb with rfl | hb
          · have := hbd b (hf0 b hm'); omega
          · have := hb b hm'; omega
        · have := hbd b (by rw [e1]; exact List.mem_append_right _ (List.mem_append_right _ hm')); omega
end Go.Proofs.YtddaodemdkjijaaGreat
