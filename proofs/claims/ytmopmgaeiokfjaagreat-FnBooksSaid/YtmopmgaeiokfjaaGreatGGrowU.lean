/- A region that draws its order: as XGrowS, the pure operations that may run late named one by one. No conditions. -/
import Derived.Test.YtmopmgaeiokfjaaGreatGGrow
namespace Go.Proofs.YtmopmgaeiokfjaaGreat
open Go
section
variable {P : Program} {ops : Array Oper} {E : World → World → Prop} {w0 : World} {G : Tmp → Option (Value → World → Prop)}
def sinkU (md : Region.Mode) (ops : Array Oper) (n : Nat) (lt : Nat → Bool) : Bool := (List.range n).all fun i => lt i || (List.range (n + 1)).any fun j => decide (i < j) && ((j == n || !lt j) && Region.waitsFor md ops j i)
theorem sink_doneU {md : Region.Mode} {n : Nat} {lt : Nat → Bool} {listed : Array Bool} (hs : sinkU md ops n lt = true) (hc : ∀ j oj, ops[j]? = some oj → listed.getD j false = true → ∀ e ∈ oj.after, Region.binds md e = true → listed.getD e.on false = true) (hr : n ∈ Region.ready md ops listed) :
 ∀ (d i : Nat), n - i = d → i < n → lt i = false → listed.getD i false = true := by
 obtain ⟨_, on, hon, hall⟩ := mem_ready.1 hr;intro d
 induction d using Nat.strongRecOn with
 | _ d ih =>
   intro i hd hi hlt;have h1 := List.all_eq_true.1 hs i (List.mem_range.2 hi);rw [hlt, Bool.false_or] at h1;obtain ⟨j, hj, hj2⟩ := List.any_eq_true.1 h1;simp only [Bool.and_eq_true, Bool.or_eq_true, decide_eq_true_eq, beq_iff_eq, Bool.not_eq_true'] at hj2;obtain ⟨oj, hoj, e, he, hb, hon2⟩ := Region.waitsFor_spec hj2.2.2
   have hjle : j ≤ n := by have := List.mem_range.1 hj; omega
   by_cases hjn : j = n
   · subst hjn
     have : oj = on := Option.some.inj (hoj.symm.trans hon);subst this;rw [← hon2];exact hall e he hb
   · have hlj : lt j = false := by
      rcases hj2.2.1 with h | h
      · exact absurd h hjn
      · exact h
     have h2 := ih (n - j) (by omega) j rfl (by omega) hlj;rw [← hon2];exact hc j oj hoj h2 e he hb
theorem on_branchU {md : Region.Mode} {Q : Exit → Act → World → Prop} {n m : Nat} {on : Oper} {tl : List Oper} (hs : Region.noSelect ops = true) (hon : ops[n]? = some on) (hgon : on.guard = none) (hnm : n < m) (hm : m < ops.size)
 {lt : Nat → Bool} (hlt0 : ∀ i, i < m → i ≠ n → lt i = false → i < n) (hsn : sinkU md ops n lt = true) (hsm : Region.sinkB md ops m = true) (hcm : Region.chainB md ops m = true) (hseq : Region.seqB md ops tl.length m ((List.replicate m true ++ List.replicate (ops.size - m) false).toArray) = true) (htl : ∀ j, tl[j]? = ops[m + j]?)
 (hlate : ∀ i oi, lt i = true → i < m → i ≠ n → ops[i]? = some oi → gOf G oi = none ∧ oi.guard = none ∧ on.apart ops oi = true ∧ ∀ a W W' v, oi.quietAt P a (fun _ => False) W v → oi.quietAt P a (fun _ => False) W' v)
 (hlex : ∀ i oi, ops[i]? = some oi → (∀ e ∈ oi.after, Region.binds md e = true → e.on < i) ∧ ∀ j oj, i < j → ops[j]? = some oj → (∀ e ∈ oj.after, Region.binds md e = true → e.on ≠ i) → oi.apart ops oj = true)
 (r : List (Nat × Oper)) (listed : Array Bool) (a : Act) (F : Tmp → World → Prop) (W : World) (hinv : SInv md ops n m listed) (hop : ∀ x ∈ r, ops[x.1]? = some x.2 ∧ x.1 < m ∧ x.1 ≠ n) (hmm : ∀ j, j < m → j ≠ n → (listed.getD j true = false ↔ ∃ o, (j, o) ∈ r)) (hp : r.Pairwise (fun x y => x.1 < y.1))
 (h0 : E w0 W) (hF : ∀ t, F t W) (hr : n ∈ Region.ready md ops listed)
 (h : wpG P ops E w0 G (fun a W => OnAt P on a (fun v W' => wpList P ops Q tl (a.put on.dst v) W') W) (r.map (·.2)) a F) : wpOp P ops Q n (wpAny P md ops Q (r.length + tl.length) (listed.setIfInBounds n true)) a W := by
 have hsel := Region.noSelect_spec hs;have hz := hinv.size;have hdone := sink_doneU hsn hinv.closed hr
 have hlt : ∀ x ∈ r, lt x.1 = true := fun x hx => by
  obtain ⟨h1, h2, h3⟩ := hop x hx;cases h4 : lt x.1
  · have h5 := hdone (n - x.1) x.1 rfl (hlt0 x.1 h2 h3 h4) h4
    have h6 := getD_both ((hmm x.1 h2 h3).2 ⟨x.2, hx⟩);rw [h6] at h5;cases h5
  · rfl
 obtain ⟨v, W', hrun, hw⟩ := late_on (fun cs b => hsel n on cs b hon) (r.map (·.2)) a F (fun oi hoi => by
  obtain ⟨x, hx, rfl⟩ := List.mem_map.1 hoi;obtain ⟨h1, h2, h3⟩ := hop x hx;obtain ⟨g1, g2, g3, g4⟩ := hlate x.1 x.2 (hlt x hx) h2 h3 h1
  exact ⟨g1, g2, g3, fun cs b => hsel x.1 x.2 cs b h1, g4⟩) h0 hF h
 unfold wpOp;simp only [hon];rw [if_pos (by simp only [Region.wanted, hgon])];left
 unfold Oper.wp;rw [hrun];show wpAny P md ops Q (r.length + tl.length) (listed.setIfInBounds n true) (a.put on.dst v) W';obtain ⟨_, on', hon', hall⟩ := mem_ready.1 hr
 have hnz : n < listed.size := by omega
 refine wpG_anyT (P := P) (E := fun A B => A = B) (w0 := W') (G := fun _ => none) (md := md) (Q := Q) (n := m) (tl := tl) (fun _ => rfl) (fun h k => Eq.trans h k) (fun t φ hG => by cases hG) hs hsm hcm hm hseq htl hlex r.length r (listed.setIfInBounds n true) (a.put on.dst v) (fun _ _ => True) W' rfl ⟨by simp [hz], fun j oj hj hl e he hb => ?_, fun t ht ht' => ?_⟩ (fun x hx => ⟨(hop x hx).1, (hop x hx).2.1⟩) (fun j hj => ?_) hp (fun _ _ _ _ _ h => h) rfl (fun _ => trivial) hw
 · by_cases hjn : n = j
   · subst hjn
     have : oj = on' := Option.some.inj (hj.symm.trans hon');subst this;exact getD_set_true (hall e he hb)
   · rw [getD_set_ne false hjn] at hl
     exact getD_set_true (hinv.closed j oj hj hl e he hb)
 · rw [getD_set_ne true (by omega)]
   exact hinv.tail t (.inr ht) ht'
 · by_cases hjn : n = j
   · subst hjn
     constructor
     · intro hk
       simp [Array.getD_eq_getD_getElem?, hnz] at hk
     · rintro ⟨o, ho⟩
       exact absurd rfl (hop _ ho).2.2
   · rw [getD_set_ne true hjn]
     exact hmm j hj (fun e => hjn e.symm)
theorem wpG_anyU {md : Region.Mode} {Q : Exit → Act → World → Prop} {n m : Nat} {on : Oper} {tl : List Oper} (hrefl : ∀ W, E W W) (htr : ∀ {A B C}, E A B → E B C → E A C) (hG : ∀ t φ, G t = some φ → ∀ v W W', E W W' → φ v W → φ v W') (hs : Region.noSelect ops = true) (hon : ops[n]? = some on) (hgon : on.guard = none) (hnm : n < m) (hm : m < ops.size)
 {lt : Nat → Bool} (hlt0 : ∀ i, i < m → i ≠ n → lt i = false → i < n) (hsn : sinkU md ops n lt = true) (hwm : Region.waitsFor md ops m n = true) (hfree : ∀ i, lt i = true → i < m → Region.waitsFor md ops i n = false) (hsm : Region.sinkB md ops m = true) (hcm : Region.chainB md ops m = true) (hseq : Region.seqB md ops tl.length m ((List.replicate m true ++ List.replicate (ops.size - m) false).toArray) = true) (htl : ∀ j, tl[j]? = ops[m + j]?)
 (hlate : ∀ i oi, lt i = true → i < m → i ≠ n → ops[i]? = some oi → gOf G oi = none ∧ oi.guard = none ∧ on.apart ops oi = true ∧ ∀ a W W' v, oi.quietAt P a (fun _ => False) W v → oi.quietAt P a (fun _ => False) W' v)
 (hlex : ∀ i oi, ops[i]? = some oi → (∀ e ∈ oi.after, Region.binds md e = true → e.on < i) ∧ ∀ j oj, i < j → ops[j]? = some oj → (∀ e ∈ oj.after, Region.binds md e = true → e.on ≠ i) → oi.apart ops oj = true) :
 ∀ (fuel : Nat) (r : List (Nat × Oper)) (listed : Array Bool) (a : Act) (F : Tmp → World → Prop) (W : World), r.length = fuel → SInv md ops n m listed → (∀ x ∈ r, ops[x.1]? = some x.2 ∧ x.1 < m ∧ x.1 ≠ n) → (∀ j, j < m → j ≠ n → (listed.getD j true = false ↔ ∃ o, (j, o) ∈ r)) → r.Pairwise (fun x y => x.1 < y.1) →
  UpF E w0 F → E w0 W → (∀ t, F t W) → wpG P ops E w0 G (fun a W => OnAt P on a (fun v W' => wpList P ops Q tl (a.put on.dst v) W') W) (r.map (·.2)) a F → wpAny P md ops Q (fuel + tl.length + 1) listed a W := by
 intro fuel
 induction fuel with
 | zero =>
   intro r listed a F W hl hinv hop hmm hp hu h0 hF h;obtain rfl : r = [] := List.eq_nil_of_length_eq_zero hl;have hz := hinv.size
   have hrn : n ∈ Region.ready md ops listed := by
    refine mem_ready.2 ⟨hinv.tail n (.inl rfl) (by omega), on, hon, fun e he hb => ?_⟩;have hlt := (hlex n on hon).1 e he hb
    exact listed_of (by omega) (fun hf => by
     obtain ⟨o, ho⟩ := (hmm e.on (by omega) (by omega)).1 hf
     cases ho)
   refine ⟨fun hr => (by rw [hr] at hrn; cases hrn), fun j hj => ?_⟩;by_cases hjn : j = n
   · subst hjn
     have := on_branchU hs hon hgon hnm hm hlt0 hsn hsm hcm hseq htl hlate hlex [] listed a F W hinv hop hmm hp h0 hF hj h;exact this
   · exfalso
     obtain ⟨hun, oj, hoj, hall⟩ := mem_ready.1 hj;have hjs : j < ops.size := (Array.getElem?_eq_some_iff.1 hoj).1
     rcases Nat.lt_or_ge j m with h1 | h1
     · obtain ⟨o, ho⟩ := (hmm j h1 hjn).1 hun
       cases ho
     · rcases Nat.eq_or_lt_of_le h1 with h2 | h2
       · subst h2
         obtain ⟨o', ho', e, he, hb, hon2⟩ := Region.waitsFor_spec hwm;have : o' = oj := Option.some.inj (ho'.symm.trans hoj);subst this;have h3 := hall e he hb;rw [hon2, getD_both (hinv.tail n (.inl rfl) (by omega))] at h3;cases h3
       · have h3 := List.all_eq_true.1 hcm j (List.mem_range.2 hjs)
         rw [Bool.or_eq_true, decide_eq_true_eq] at h3
         rcases h3 with h3 | h3
         · omega
         · obtain ⟨o', ho', e, he, hb, hon2⟩ := Region.waitsFor_spec h3
           have : o' = oj := Option.some.inj (ho'.symm.trans hoj);subst this;have h4 := hall e he hb;rw [hon2, getD_both (hinv.tail (j - 1) (.inr (by omega)) (by omega))] at h4;cases h4
 | succ fuel ih =>
   intro r listed a F W hl hinv hop hmm hp hu h0 hF h;have hz := hinv.size;refine ⟨fun hr => ?_, fun j hj => ?_⟩
   · exfalso
     obtain ⟨⟨i, oi⟩, r, rfl⟩ : ∃ x r', r = x :: r' := by
      cases r with
      | nil => cases hl
      | cons x r => exact ⟨x, r, rfl⟩
     obtain ⟨hi, him, hin⟩ := hop (i, oi) (List.mem_cons_self ..);have hi : ops[i]? = some oi := hi;have him : i < m := him;have hin : i ≠ n := hin
     have : i ∈ Region.ready md ops listed := by
      refine mem_ready.2 ⟨(hmm i him hin).2 ⟨oi, List.mem_cons_self ..⟩, oi, hi, fun e he hb => ?_⟩;have hlt := (hlex i oi hi).1 e he hb
      have hen : e.on ≠ n := fun hen => by
       rcases Nat.lt_or_ge i n with h1 | h1
       · omega
       · have hli : lt i = true := by
          cases h4 : lt i
          · have := hlt0 i him hin h4; omega
          · rfl
         have h2 := hfree i hli him
         have h3 : Region.waitsFor md ops i n = true := by
          unfold Region.waitsFor;rw [hi];exact Array.any_eq_true'.2 ⟨e, he, by simp [hb, hen]⟩
         rw [h3] at h2;cases h2
      exact listed_of (by omega) (fun hf => by
       obtain ⟨o, ho⟩ := (hmm e.on (by omega) hen).1 hf
       rcases List.mem_cons.1 ho with ho | ho
       · cases ho; omega
       · have := (List.pairwise_cons.1 hp).1 _ ho
         simp only at this
         omega)
     rw [hr] at this;cases this
   · by_cases hjn0 : j = n
     · subst hjn0
       have := on_branchU hs hon hgon hnm hm hlt0 hsn hsm hcm hseq htl hlate hlex r listed a F W hinv hop hmm hp h0 hF hj h;rw [hl] at this;exact this
     obtain ⟨hun, oj, hoj, hall⟩ := mem_ready.1 hj;have hjs : j < ops.size := (Array.getElem?_eq_some_iff.1 hoj).1
     have hjm : j < m := by
      rcases Nat.lt_or_ge j m with h1 | h1
      · exact h1
      · exfalso
        rcases Nat.eq_or_lt_of_le h1 with h2 | h2
        · subst h2
          obtain ⟨o', ho', e, he, hb, hon2⟩ := Region.waitsFor_spec hwm;have : o' = oj := Option.some.inj (ho'.symm.trans hoj);subst this;have h3 := hall e he hb;rw [hon2, getD_both (hinv.tail n (.inl rfl) (by omega))] at h3;cases h3
        · have h3 := List.all_eq_true.1 hcm j (List.mem_range.2 hjs)
          rw [Bool.or_eq_true, decide_eq_true_eq] at h3
          rcases h3 with h3 | h3
          · omega
          · obtain ⟨o', ho', e, he, hb, hon2⟩ := Region.waitsFor_spec h3
            have : o' = oj := Option.some.inj (ho'.symm.trans hoj);subst this;have h4 := hall e he hb;rw [hon2, getD_both (hinv.tail (j - 1) (.inr (by omega)) (by omega))] at h4;cases h4
     obtain ⟨oj', hmem⟩ := (hmm j hjm hjn0).1 hun
     obtain rfl : oj' = oj := by have := (hop _ hmem).1; rw [hoj] at this; exact (Option.some.inj this).symm
     obtain ⟨r1, r2, rfl⟩ := List.append_of_mem hmem;have hsel := Region.noSelect_spec hs;have hsj : ∀ cs b, oj'.op ≠ .select cs b := fun cs b => hsel j oj' cs b hoj
     have hap : ∀ oi ∈ r1.map (·.2), oi.apart ops oj' = true ∧ ∀ cs b, oi.op ≠ .select cs b := by
      intro oi hoi;obtain ⟨⟨i, oi'⟩, hxm, hx2⟩ := List.mem_map.1 hoi;simp only at hx2;subst hx2;obtain ⟨hi, him, hin⟩ := hop (i, oi') (List.mem_append_left _ hxm);have hi : ops[i]? = some oi' := hi;have him : i < m := him;have hin : i ≠ n := hin;have hij : i < j := (List.pairwise_append.1 hp).2.2 _ hxm _ (List.mem_cons_self ..);refine ⟨(hlex i oi' hi).2 j oj' hij hoj fun e he hb heq => ?_, fun cs b => hsel i oi' cs b hi⟩;have h1 := hall e he hb;have h2 := getD_both ((hmm i him hin).2 ⟨oi', List.mem_append_left _ hxm⟩);rw [heq, h2] at h1;cases h1
     rw [List.map_append, List.map_cons] at h;have hsafe := wpG_safe hrefl htr hG hsj _ _ a F W hap hu h0 hF h
     have hj' : j < listed.size := by rw [hz]; exact hjs
     have hnext : ∀ (v : Value) (p : World → Prop) (W' : World), ResG P ops E w0 G oj' a F v p → E W W' → p W' → (∀ A B, E w0 A → E A B → p A → p B) → wpAny P md ops Q (fuel + tl.length + 1) (listed.setIfInBounds j true) (a.put oj'.dst v) W' := by
      intro v p W' hres hE hpW hpu;refine ih (r1 ++ r2) _ _ (updF F oj'.dst p) W' ?_ ⟨by simp [hz], fun i oi hi hli e he hb => ?_, fun t ht ht' => ?_⟩ (fun x hx => hop x ?_) (fun k hkm hkn => ?_) ?_ (hu.upd hpu) (htr h0 hE) (fun t => ?_) ?_
      · simp only [List.length_append, List.length_cons] at hl ⊢; omega
      · by_cases hji : j = i
        · subst hji
          have : oi = oj' := Option.some.inj (hi.symm.trans hoj);subst this;exact getD_set_true (hall e he hb)
        · rw [getD_set_ne false hji] at hli
          exact getD_set_true (hinv.closed i oi hi hli e he hb)
      · rw [getD_set_ne true (by omega)]
        exact hinv.tail t ht ht'
      · rcases List.mem_append.1 hx with hx | hx
        · exact List.mem_append_left _ hx
        · exact List.mem_append_right _ (List.mem_cons_of_mem _ hx)
      · by_cases hjk : j = k
        · subst hjk
          constructor
          · intro hk
            simp [Array.getD_eq_getD_getElem?, hj'] at hk
          · rintro ⟨o, ho⟩
            exfalso
            have hpp := List.pairwise_append.1 hp
            rcases List.mem_append.1 ho with ho | ho
            · have := hpp.2.2 _ ho _ (List.mem_cons_self ..)
              simp only at this; omega
            · have := (List.pairwise_cons.1 hpp.2.1).1 _ ho
              simp only at this; omega
        · rw [getD_set_ne true hjk, hmm k hkm hkn]
          constructor
          · rintro ⟨o, ho⟩
            rcases List.mem_append.1 ho with ho | ho
            · exact ⟨o, List.mem_append_left _ ho⟩
            · rcases List.mem_cons.1 ho with ho | ho
              · cases ho; exact absurd rfl hjk
              · exact ⟨o, List.mem_append_right _ ho⟩
          · rintro ⟨o, ho⟩
            rcases List.mem_append.1 ho with ho | ho
            · exact ⟨o, List.mem_append_left _ ho⟩
            · exact ⟨o, List.mem_append_right _ (List.mem_cons_of_mem _ ho)⟩
      · have hpp := List.pairwise_append.1 hp
        exact List.pairwise_append.2 ⟨hpp.1, (List.pairwise_cons.1 hpp.2.1).2, fun x hx y hy => hpp.2.2 x hx y (List.mem_cons_of_mem _ hy)⟩
      · unfold updF
        by_cases hd : oj'.dst = some t
        · rw [if_pos hd]; exact hpW
        · rw [if_neg hd]; exact hu t W W' h0 hE (hF t)
      · rw [List.map_append]
        exact wpG_pull hsj _ _ a F hap h hres
     have hnext' : ∀ (v : Value) (p : World → Prop) (W' : World), ResG P ops E w0 G oj' a F v p → E W W' → p W' → (∀ A B, E w0 A → E A B → p A → p B) → wpAny P md ops Q (fuel + 1 + tl.length) (listed.setIfInBounds j true) (a.put oj'.dst v) W' := by
      rw [show fuel + 1 + tl.length = fuel + tl.length + 1 by omega];exact hnext
     unfold wpOp;simp only [hoj];by_cases hw : Region.wanted oj' (yielded ops a.tmps) = true
     · rw [if_pos hw]
       left
       have hsf := hsafe hw
       cases hg : gOf G oj' with
       | some φ =>
         rw [hg] at hsf
         have hst : ∀ u A B, E A B → φ u A → φ u B := by
          unfold gOf at hg
          cases hd : oj'.dst with
          | none => rw [hd] at hg; cases hg
          | some d => rw [hd] at hg; exact hG d φ hg
         exact grow_wp (hsf W h0 fun t _ => hF t) fun v W' hE hφ => hnext' v (φ v) W' (.inr (.inl ⟨hw, φ, hg, rfl, W', htr h0 hE, hφ⟩)) hE hφ (fun A B _ hAB => hst v A B hAB)
       | none =>
         rw [hg] at hsf;obtain ⟨v, hv⟩ := hsf;have hq := hv W h0 fun t _ => hF t;exact quiet_wp hq (hnext' v _ W (.inl ⟨hw, hg, rfl, W, h0, fun t _ => hF t, hq⟩) (hrefl W) (fun t _ => hF t) (hu.sees oj'))
     · rw [if_neg hw]
       exact hnext' undef _ W (.inr (.inr ⟨by simpa using hw, rfl, rfl⟩)) (hrefl W) trivial (fun _ _ _ _ h => h)
theorem wp_region_LU {id : Nat} {Q : Exit → Act → World → Prop} {a : Act} {w : World} {l : List Oper} (n m : Nat) (ls : List Nat) (on : Oper) (hrefl : ∀ W, E W W) (htr : ∀ {A B C}, E A B → E B C → E A C) (hm : P.follows .mixedOrders = true) (hB : Region.lexB .any l.toArray = true)
 (hon : l[n]? = some on) (hgon : on.guard = none) (hnm : decide (n < m) = true) (hml : decide (m < l.length) = true)
 (hls : ((List.range m).all fun i => i == n || (ls.contains i || decide (i < n))) = true) (hsn : sinkU .any l.toArray n (fun i => ls.contains i) = true) (hwm : Region.waitsFor .any l.toArray m n = true) (hfree : ((List.range m).all fun i => !ls.contains i || !Region.waitsFor .any l.toArray i n) = true) (hsm : Region.sinkB .any l.toArray m = true) (hcm : Region.chainB .any l.toArray m = true)
 (hseq : Region.seqB .any l.toArray (l.drop m).length m ((List.replicate m true ++ List.replicate (l.toArray.size - m) false).toArray) = true)
 (hlate : ∀ i ∈ ls, ∀ oi, l[i]? = some oi → gOf G oi = none ∧ oi.guard = none ∧ on.apart l.toArray oi = true ∧ ∀ a W W' v, oi.quietAt P a (fun _ => False) W v → oi.quietAt P a (fun _ => False) W' v)
 (hG : ∀ t φ, G t = some φ → ∀ v W W', E W W' → φ v W → φ v W') (hE : E w0 { w with drawn := w.drawn + 1 })
 (h : wpL P l.toArray E w0 G (fun a W => OnAt P on a (fun v W' => wpList P l.toArray Q (l.drop m) (a.put on.dst v) W') W) (l.take n ++ (l.take m).drop (n + 1)) a []) : (Code.region id l.toArray true).wp P Q a w := by
 have hnm : n < m := of_decide_eq_true hnm;have hml : m < l.length := of_decide_eq_true hml;simp only [Region.lexB, Bool.and_eq_true] at hB;refine wp_region_any hm ?_;have hx := lex_facts (ops := l.toArray) (md := .any) l.toArray.size 0 (Array.replicate l.toArray.size false) (by simp) (fun i hi _ => by omega) (fun i _ hi => by simp at hi; simp [hi]) (by omega) hB.2
 have hmap : ((List.range' 0 n).zip (l.take n) ++ (List.range' (n + 1) (m - (n + 1))).zip ((l.take m).drop (n + 1))).map (·.2) = l.take n ++ (l.take m).drop (n + 1) := by
  rw [List.map_append, List.map_snd_zip, List.map_snd_zip]
  · simp; omega
  · simp; omega
 have h' : wpG P l.toArray E w0 G (fun a W => OnAt P on a (fun v W' => wpList P l.toArray Q (l.drop m) (a.put on.dst v) W') W) (l.take n ++ (l.take m).drop (n + 1)) a (fun _ _ => True) := by
  unfold wpL at h;exact wpG_mono _ _ _ _ (fun _ _ _ _ => trivial) h
 have hmem : ∀ x, x ∈ ((List.range' 0 n).zip (l.take n) ++ (List.range' (n + 1) (m - (n + 1))).zip ((l.take m).drop (n + 1))) ↔ l[x.1]? = some x.2 ∧ x.1 < m ∧ x.1 ≠ n := by
  intro x;rw [List.mem_append, mem_zipR, mem_zipR];constructor
  · rintro (⟨i, hi, h1, h2⟩ | ⟨i, hi, h1, h2⟩)
    · rw [List.getElem?_take_of_lt hi] at h2
      have e : x.1 = i := by omega
      exact ⟨by rw [e]; exact h2, by omega, by omega⟩
    · rw [List.getElem?_drop, List.getElem?_take_of_lt (by omega)] at h2
      exact ⟨by rw [h1]; exact h2, by omega, by omega⟩
  · rintro ⟨h1, h2, h3⟩
    rcases Nat.lt_or_ge x.1 n with h4 | h4
    · exact .inl ⟨x.1, h4, by omega, by rw [List.getElem?_take_of_lt h4]; exact h1⟩
    · refine .inr ⟨x.1 - (n + 1), by omega, by omega, ?_⟩
      rw [List.getElem?_drop, List.getElem?_take_of_lt (by omega), show n + 1 + (x.1 - (n + 1)) = x.1 by omega];exact h1
 have hlen : ((List.range' 0 n).zip (l.take n) ++ (List.range' (n + 1) (m - (n + 1))).zip ((l.take m).drop (n + 1))).length = m - 1 := by simp; omega
 generalize hr : (List.range' 0 n).zip (l.take n) ++ (List.range' (n + 1) (m - (n + 1))).zip ((l.take m).drop (n + 1)) = r at *
 have hp : r.Pairwise (fun x y => x.1 < y.1) := by
  rw [← hr]
  have hzp : ∀ (s k : Nat) (L : List Oper), ((List.range' s k).zip L).Pairwise (fun x y => x.1 < y.1) := by
   intro s k L;rw [List.pairwise_iff_getElem];intro i j hi hj hij;rw [List.getElem_zip, List.getElem_zip];simp only [List.getElem_range'];omega
  refine List.pairwise_append.2 ⟨hzp _ _ _, hzp _ _ _, fun x hx y hy => ?_⟩;obtain ⟨i, hi, h1, _⟩ := mem_zipR.1 hx;obtain ⟨j, hj, h2, _⟩ := mem_zipR.1 hy;omega
 have hfr : ∀ i, ls.contains i = true → i < m → Region.waitsFor .any l.toArray i n = false := fun i h1 h2 => by
  have h3 := List.all_eq_true.1 hfree i (List.mem_range.2 h2);rw [h1] at h3
  simpa using h3
 have hl0 : ∀ i, i < m → i ≠ n → ls.contains i = false → i < n := fun i h1 h2 h3 => by
  have h4 := List.all_eq_true.1 hls i (List.mem_range.2 h1);rw [h3] at h4;simp only [Bool.false_or, Bool.or_eq_true, beq_iff_eq, decide_eq_true_eq] at h4
  rcases h4 with h4 | h4
  · exact absurd h4 h2
  · exact h4
 have hlt : ∀ i oi, ls.contains i = true → i < m → i ≠ n → l.toArray[i]? = some oi → gOf G oi = none ∧ oi.guard = none ∧ on.apart l.toArray oi = true ∧ ∀ a W W' v, oi.quietAt P a (fun _ => False) W v → oi.quietAt P a (fun _ => False) W' v := fun i oi h1 _ _ h3 => hlate i (by simpa using h1) oi (by simpa using h3);have key := wpG_anyU (P := P) (lt := fun i => ls.contains i) (E := E) (w0 := w0) (G := G) (md := .any) (Q := Q) (n := n) (m := m) (on := on) (tl := l.drop m) hrefl htr hG hB.1 (by simpa using hon) hgon hnm (by simpa using hml) hl0 hsn hwm hfr hsm hcm hseq (fun j => by simp) hlt (fun i oi => hx i oi (Nat.zero_le _)) (m - 1) r (Array.replicate l.toArray.size false) a (fun _ _ => True) { w with drawn := w.drawn + 1 } hlen ⟨by simp, fun j oj hj hl => absurd hl (by rw [getD_replicate_false]; exact Bool.false_ne_true), fun t ht ht' => by simp at ht'; simp [ht']⟩ (fun x hx => by simpa using (hmem x).1 hx) (fun j h1 h2 => ⟨fun _ => ⟨l[j]'(by omega), (hmem _).2 ⟨by simp, h1, h2⟩⟩, fun _ => by simp [show j < l.length by omega]⟩) hp (fun _ _ _ _ _ h => h) hE (fun _ => trivial) (by rw [hmap]; exact h')
 have e : m - 1 + (l.drop m).length + 1 = l.toArray.size := by simp; omega
 rw [e] at key;exact key
end
section
variable {P : Program} {ops : Array Oper} {E : World → World → Prop} {w0 : World} {G : Tmp → Option (Value → World → Prop)}
end
end Go.Proofs.YtmopmgaeiokfjaaGreat
