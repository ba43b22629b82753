/- A region that draws its order, whose operations only make memory grow but for a tail that waits for all the others: one walk in the text's order, then the tail as a list. No conditions. -/
import Derived.StillTail
import Derived.Test.YtnglhofegajbiaaGrow
namespace Go.Proofs.Ytnglhofegajbiaa
open Go
section
variable {P : Program} {ops : Array Oper} {E : World → World → Prop} {w0 : World} {G : Tmp → Option (Value → World → Prop)}
theorem wpG_anyT {md : Region.Mode} {Q : Exit → Act → World → Prop} {n : Nat} {tl : List Oper} (hrefl : ∀ W, E W W) (htr : ∀ {A B C}, E A B → E B C → E A C) (hG : ∀ t φ, G t = some φ → ∀ v W W', E W W' → φ v W → φ v W') (hs : Region.noSelect ops = true)
    (hsink : Region.sinkB md ops n = true) (hchain : Region.chainB md ops n = true) (hn : n < ops.size) (hseq : Region.seqB md ops tl.length n ((List.replicate n true ++ List.replicate (ops.size - n) false).toArray) = true) (htl : ∀ j, tl[j]? = ops[n + j]?)
    (hlex : ∀ i oi, ops[i]? = some oi → (∀ e ∈ oi.after, Region.binds md e = true → e.on < i) ∧ ∀ j oj, i < j → ops[j]? = some oj → (∀ e ∈ oj.after, Region.binds md e = true → e.on ≠ i) → oi.apart ops oj = true) :
    ∀ (fuel : Nat) (r : List (Nat × Oper)) (listed : Array Bool) (a : Act) (F : Tmp → World → Prop) (W : World), r.length = fuel → HeadInv md ops n listed → (∀ x ∈ r, ops[x.1]? = some x.2 ∧ x.1 < n) → (∀ j, j < n → (listed.getD j true = false ↔ ∃ o, (j, o) ∈ r)) → r.Pairwise (fun x y => x.1 < y.1) →
      UpF E w0 F → E w0 W → (∀ t, F t W) → wpG P ops E w0 G (fun a W => wpList P ops Q tl a W) (r.map (·.2)) a F → wpAny P md ops Q (fuel + tl.length) listed a W := by
  intro fuel
  induction fuel with
  | zero =>
    intro r listed a F W hl hinv _ hm _ _ h0 hF h
    obtain rfl : r = [] := List.eq_nil_of_length_eq_zero hl
    rw [Nat.zero_add]
    have hcan : listed = (List.replicate n true ++ List.replicate (ops.size - n) false).toArray := by
      have hz := hinv.size
      refine Array.ext (by simp; omega) fun i hi hi' => ?_
      simp only [List.getElem_toArray, List.getElem_append, List.length_replicate, List.getElem_replicate]
      by_cases hin : i < n
      · rw [dif_pos hin]
        have : ¬ listed.getD i true = false := fun hf => by
          obtain ⟨o, ho⟩ := (hm i hin).1 hf
          cases ho
        simp only [Array.getD_eq_getD_getElem?, Array.getElem?_eq_getElem hi, Option.getD_some] at this
        simpa using this
      · rw [dif_neg hin]
        have := hinv.tail i (by omega) (by omega)
        simpa only [Array.getD_eq_getD_getElem?, Array.getElem?_eq_getElem hi, Option.getD_some] using this
    exact wpAny_of_seq tl n listed a W htl (by rw [hcan]; exact hseq) (h W h0 hF)
  | succ fuel ih =>
    intro r listed a F W hl hinv hop hm hp hu h0 hF h
    have hz := hinv.size
    rw [show fuel + 1 + tl.length = (fuel + tl.length) + 1 by omega]
    refine ⟨fun hr => ?_, fun j hj => ?_⟩
    · exfalso
      obtain ⟨⟨i, oi⟩, r, rfl⟩ : ∃ x r', r = x :: r' := by
        cases r with
        | nil => cases hl
        | cons x r => exact ⟨x, r, rfl⟩
      obtain ⟨hi, hin0⟩ := hop (i, oi) (List.mem_cons_self ..)
      have hi : ops[i]? = some oi := hi
      have hin0 : i < n := hin0
      have : i ∈ Region.ready md ops listed := by
        refine mem_ready.2 ⟨(hm i hin0).2 ⟨oi, List.mem_cons_self ..⟩, oi, hi, fun e he hb => ?_⟩
        have hlt := (hlex i oi hi).1 e he hb
        have hin : i < ops.size := (Array.getElem?_eq_some_iff.1 hi).1
        have hne : ¬ listed.getD e.on true = false := fun hf => by
          obtain ⟨o, ho⟩ := (hm e.on (by omega)).1 hf
          rcases List.mem_cons.1 ho with ho | ho
          · cases ho; omega
          · have := (List.pairwise_cons.1 hp).1 _ ho
            simp only at this
            omega
        have hsz : e.on < listed.size := by omega
        simp only [Array.getD_eq_getD_getElem?, Array.getElem?_eq_getElem hsz, Option.getD_some] at hne ⊢
        simpa using hne
      rw [hr] at this
      cases this
    · obtain ⟨hun, oj, hoj, hall⟩ := mem_ready.1 hj
      have hjn : j < n := by
        rcases Nat.lt_or_ge j n with h' | h'
        · exact h'
        · obtain ⟨⟨i, oi⟩, r, rfl⟩ : ∃ x r', r = x :: r' := by
            cases r with
            | nil => cases hl
            | cons x r => exact ⟨x, r, rfl⟩
          have hin0 : i < n := (hop (i, oi) (List.mem_cons_self ..)).2
          exact absurd hj (tail_waits hsink hchain hn hinv _ i rfl hin0 ((hm i hin0).2 ⟨oi, List.mem_cons_self ..⟩) j h')
      obtain ⟨oj', hmem⟩ := (hm j hjn).1 hun
      obtain rfl : oj' = oj := by have := (hop _ hmem).1; rw [hoj] at this; exact (Option.some.inj this).symm
      obtain ⟨r1, r2, rfl⟩ := List.append_of_mem hmem
      have hsel := Region.noSelect_spec hs
      have hsj : ∀ cs b, oj'.op ≠ .select cs b := fun cs b => hsel j oj' cs b hoj
      have hap : ∀ oi ∈ r1.map (·.2), oi.apart ops oj' = true ∧ ∀ cs b, oi.op ≠ .select cs b := by
        intro oi hoi
        obtain ⟨⟨i, oi'⟩, hxm, hx2⟩ := List.mem_map.1 hoi
        simp only at hx2
        subst hx2
        have hi : ops[i]? = some oi' := (hop (i, oi') (List.mem_append_left _ hxm)).1
        have hin0 : i < n := (hop (i, oi') (List.mem_append_left _ hxm)).2
        have hij : i < j := (List.pairwise_append.1 hp).2.2 _ hxm _ (List.mem_cons_self ..)
        refine ⟨(hlex i oi' hi).2 j oj' hij hoj fun e he hb heq => ?_, fun cs b => hsel i oi' cs b hi⟩
        have h1 := hall e he hb
        have h2 := (hm i hin0).2 ⟨oi', List.mem_append_left _ hxm⟩
        rw [heq] at h1
        have hin : i < ops.size := (Array.getElem?_eq_some_iff.1 hi).1
        have hsz : i < listed.size := by omega
        simp only [Array.getD_eq_getD_getElem?, Array.getElem?_eq_getElem hsz, Option.getD_some] at h1 h2
        rw [h1] at h2
        cases h2
      rw [List.map_append, List.map_cons] at h
      have hsafe := wpG_safe hrefl htr hG hsj _ _ a F W hap hu h0 hF h
      have hj' : j < listed.size := by rw [hz]; exact (Array.getElem?_eq_some_iff.1 hoj).1
      have hnext : ∀ (v : Value) (p : World → Prop) (W' : World), ResG P ops E w0 G oj' a F v p → E W W' → p W' → (∀ A B, E w0 A → E A B → p A → p B) → wpAny P md ops Q (fuel + tl.length) (listed.setIfInBounds j true) (a.put oj'.dst v) W' := by
        intro v p W' hres hE hpW hpu
        refine ih (r1 ++ r2) _ _ (updF F oj'.dst p) W' ?_ (hinv.set hj hjn) (fun x hx => hop x ?_) (fun k hkn => ?_) ?_ (hu.upd hpu) (htr h0 hE) (fun t => ?_) ?_
        · simp only [List.length_append, List.length_cons] at hl ⊢; omega
        · rcases List.mem_append.1 hx with hx | hx
          · exact List.mem_append_left _ hx
          · exact List.mem_append_right _ (List.mem_cons_of_mem _ hx)
        · by_cases hjk : j = k
          · subst hjk
            constructor
            · intro hk
              simp [Array.getD_eq_getD_getElem?, hj'] at hk
            · rintro ⟨o, ho⟩
              exfalso
              have hpp := List.pairwise_append.1 hp
              rcases List.mem_append.1 ho with ho | ho
              · have := hpp.2.2 _ ho _ (List.mem_cons_self ..)
                simp only at this; omega
              · have := (List.pairwise_cons.1 hpp.2.1).1 _ ho
                simp only at this; omega
          · rw [getD_set_ne true hjk, hm k hkn]
            constructor
            · rintro ⟨o, ho⟩
              rcases List.mem_append.1 ho with ho | ho
              · exact ⟨o, List.mem_append_left _ ho⟩
              · rcases List.mem_cons.1 ho with ho | ho
                · cases ho; exact absurd rfl hjk
                · exact ⟨o, List.mem_append_right _ ho⟩
            · rintro ⟨o, ho⟩
              rcases List.mem_append.1 ho with ho | ho
              · exact ⟨o, List.mem_append_left _ ho⟩
              · exact ⟨o, List.mem_append_right _ (List.mem_cons_of_mem _ ho)⟩
        · have hpp := List.pairwise_append.1 hp
          exact List.pairwise_append.2 ⟨hpp.1, (List.pairwise_cons.1 hpp.2.1).2, fun x hx y hy => hpp.2.2 x hx y (List.mem_cons_of_mem _ hy)⟩
        · unfold updF
          by_cases hd : oj'.dst = some t
          · rw [if_pos hd]; exact hpW
          · rw [if_neg hd]; exact hu t W W' h0 hE (hF t)
        · rw [List.map_append]
          exact wpG_pull hsj _ _ a F hap h hres
      unfold wpOp
      simp only [hoj]
      by_cases hw : Region.wanted oj' (yielded ops a.tmps) = true
      · rw [if_pos hw]
        left
        have hsf := hsafe hw
        cases hg : gOf G oj' with
        | some φ =>
          rw [hg] at hsf
          have hst : ∀ u A B, E A B → φ u A → φ u B := by
            unfold gOf at hg
            cases hd : oj'.dst with
            | none => rw [hd] at hg; cases hg
            | some d => rw [hd] at hg; exact hG d φ hg
          exact grow_wp (hsf W h0 fun t _ => hF t) fun v W' hE hφ => hnext v (φ v) W' (.inr (.inl ⟨hw, φ, hg, rfl, W', htr h0 hE, hφ⟩)) hE hφ (fun A B _ hAB => hst v A B hAB)
        | none =>
          rw [hg] at hsf
          obtain ⟨v, hv⟩ := hsf
          have hq := hv W h0 fun t _ => hF t
          exact quiet_wp hq (hnext v _ W (.inl ⟨hw, hg, rfl, W, h0, fun t _ => hF t, hq⟩) (hrefl W) (fun t _ => hF t) (hu.sees oj'))
      · rw [if_neg hw]
        exact hnext undef _ W (.inr (.inr ⟨by simpa using hw, rfl, rfl⟩)) (hrefl W) trivial (fun _ _ _ _ h => h)


/-- A name for the world at hand, in the midst of a list. -/
theorem name_wpl {ops : Array Oper} {l : List Oper} {Q : Exit → Act → World → Prop} {a : Act} {W : World} (p : World → Prop) (hp : p W) (h : ∀ w, p w → wpList P ops Q l a w) : wpList P ops Q l a W := h W hp
theorem wp_region_LT {id : Nat} {Q : Exit → Act → World → Prop} {a : Act} {w : World} {l : List Oper} (n : Nat) (hrefl : ∀ W, E W W) (htr : ∀ {A B C}, E A B → E B C → E A C) (hm : P.follows .mixedOrders = true) (hB : Region.lexB .any l.toArray = true)
    (hsink : Region.sinkB .any l.toArray n = true) (hchain : Region.chainB .any l.toArray n = true) (hseq : Region.seqB .any l.toArray (l.drop n).length n ((List.replicate n true ++ List.replicate (l.toArray.size - n) false).toArray) = true) (hn : decide (n < l.length) = true)
    (hG : ∀ t φ, G t = some φ → ∀ v W W', E W W' → φ v W → φ v W') (hE : E w0 { w with drawn := w.drawn + 1 })
    (h : wpL P l.toArray E w0 G (fun a W => wpList P l.toArray Q (l.drop n) a W) (l.take n) a []) : (Code.region id l.toArray true).wp P Q a w := by
  have hn : n < l.length := of_decide_eq_true hn
  simp only [Region.lexB, Bool.and_eq_true] at hB
  refine wp_region_any hm ?_
  have hx := lex_facts (ops := l.toArray) (md := .any) l.toArray.size 0 (Array.replicate l.toArray.size false) (by simp) (fun i hi _ => by omega) (fun i _ hi => by simp at hi; simp [hi]) (by omega) hB.2
  have hmap : ((List.range n).zip (l.take n)).map (·.2) = l.take n := by rw [List.map_snd_zip]; simp; omega
  have hsz : l.toArray.size = n + (l.drop n).length := by simp; omega
  have h' : wpG P l.toArray E w0 G (fun a W => wpList P l.toArray Q (l.drop n) a W) (l.take n) a (fun _ _ => True) := by
    unfold wpL at h
    exact wpG_mono _ _ _ _ (fun _ _ _ _ => trivial) h
  have hzl : ((List.range n).zip (l.take n)).length = n := by simp; omega
  have key := wpG_anyT (P := P) (E := E) (w0 := w0) (G := G) (md := .any) (Q := Q) (n := n) (tl := l.drop n) hrefl htr hG hB.1 hsink hchain (by simpa using hn) hseq (fun j => by simp) (fun i oi => hx i oi (Nat.zero_le _)) n ((List.range n).zip (l.take n)) (Array.replicate l.toArray.size false) a (fun _ _ => True) { w with drawn := w.drawn + 1 } hzl ⟨by simp, fun j oj hj hl => absurd hl (by rw [getD_replicate_false]; exact Bool.false_ne_true), fun t ht ht' => by simp at ht'; simp [ht']⟩ ?_ ?_ ?_ (fun _ _ _ _ _ h => h) hE (fun _ => trivial) (by rw [hmap]; exact h')
  · have e : l.toArray.size = n + (l.drop n).length := hsz
    generalize hS : l.toArray.size = S at key e ⊢
    subst e
    exact key
  · intro x hx
    obtain ⟨i, hi, he⟩ := List.mem_iff_getElem.1 hx
    simp only [List.length_zip, List.length_range, List.length_take] at hi
    rw [List.getElem_zip, List.getElem_range] at he
    subst he
    have hil : i < l.length := by omega
    refine ⟨?_, by simp; omega⟩
    simp [hil]
  · intro j hjn
    have hjl : j < l.length := by omega
    constructor
    · intro _
      exact ⟨l[j], List.mem_iff_getElem.2 ⟨j, by simp; omega, by rw [List.getElem_zip, List.getElem_range]; simp⟩⟩
    · intro _
      simp [hjl]
  · have hp : (List.range n).Pairwise (· < ·) := List.pairwise_lt_range
    rw [List.pairwise_iff_getElem] at hp ⊢
    intro i j hi hj hij
    simp only [List.length_zip, List.length_range, List.length_take] at hi hj
    simp only [List.getElem_zip, List.getElem_range]
    exact hij
end
end Go.Proofs.Ytnglhofegajbiaa
