/- A region that draws its order, whose operations only make memory grow but for a tail; one pure operation of the head may run behind the tail's first. One walk in the text's order, then the tail as a list. No conditions. -/
import Derived.Test.YtcalbcjheenmgaaGrowT
namespace Go.Proofs.Ytcalbcjheenmgaa
open Go
section
variable {P : Program} {ops : Array Oper} {E : World → World → Prop} {w0 : World} {G : Tmp → Option (Value → World → Prop)}
def sinkQ (md : Region.Mode) (ops : Array Oper) (n q : Nat) : Bool := (List.range n).all fun i => i == q || (List.range (n + 1)).any fun j => decide (i < j) && (j != q && Region.waitsFor md ops j i)
theorem tail_waitsQ {md : Region.Mode} {n q : Nat} {listed : Array Bool} (hs : sinkQ md ops n q = true) (hc : Region.chainB md ops n = true) (hn : n < ops.size) (hqn : q < n) (inv : HeadInv md ops n listed) :
    ∀ (d i : Nat), n - i = d → i < n → i ≠ q → listed.getD i true = false → ∀ t, n ≤ t → t ∉ Region.ready md ops listed := by
  intro d
  induction d using Nat.strongRecOn with
  | _ d ih =>
    intro i hd hi hiq hun t ht hr
    obtain ⟨_, ot, hot, hall⟩ := mem_ready.1 hr
    have htlt : t < ops.size := (Array.getElem?_eq_some_iff.1 hot).1
    by_cases htn : t = n
    · subst htn
      have h1 := List.all_eq_true.1 hs i (List.mem_range.2 hi)
      rw [Bool.or_eq_true, beq_iff_eq] at h1
      rcases h1 with h1 | h1
      · exact hiq h1
      obtain ⟨j, hj, hj2⟩ := List.any_eq_true.1 h1
      simp only [Bool.and_eq_true, decide_eq_true_eq, bne_iff_ne] at hj2
      obtain ⟨oj, hoj, e, he, hb, hon⟩ := Region.waitsFor_spec hj2.2.2
      have hjle : j ≤ t := by have := List.mem_range.1 hj; omega
      by_cases hjt : j = t
      · subst hjt
        have : oj = ot := Option.some.inj (hoj.symm.trans hot)
        subst this
        have h2 := hall e he hb
        rw [hon, getD_both hun] at h2
        cases h2
      · cases hl : listed.getD j false with
        | true =>
          have h2 := inv.closed j oj hoj hl e he hb
          rw [hon, getD_both hun] at h2
          cases h2
        | false =>
          have hjs : j < listed.size := by rw [inv.size]; omega
          exact ih (t - j) (by omega) j rfl (by omega) hj2.2.1 (getD_in hjs hl) t (Nat.le_refl _) hr
    · have h1 := List.all_eq_true.1 hc t (List.mem_range.2 htlt)
      simp only [Bool.or_eq_true, decide_eq_true_eq] at h1
      rcases h1 with h1 | h1
      · omega
      · obtain ⟨o', ho', e, he, hb, hon⟩ := Region.waitsFor_spec h1
        have : o' = ot := Option.some.inj (ho'.symm.trans hot)
        subst this
        have h2 := hall e he hb
        rw [hon, getD_both (inv.tail (t - 1) (by omega) (by omega))] at h2
        cases h2
/-- The operation runs plainly, to the world W1. -/
def RunsTo (P : Program) (o : Oper) (a : Act) (W W1 : World) : Prop := ∃ nx, (execOp a.eval o).run P W = .ok nx W1 ∧ (nx = .skip ∨ ∃ u, nx = .value u)
theorem RunsTo.wp {o : Oper} {a : Act} {W W1 : World} {K : Act → World → Prop} {Q : Exit → Act → World → Prop} (h : RunsTo P o a W W1) (hd : o.dst = none) (hk : K a W1) : o.wp P a W K Q := by
  obtain ⟨nx, hr, hx⟩ := h
  unfold Oper.wp
  rw [hr]
  rcases hx with rfl | ⟨u, rfl⟩
  · simp only [Oper.upon, hd]; exact hk
  · simp only [Oper.upon, hd]; exact hk
theorem pure_extract {o : Oper} {x : Operand} {i : Nat} (ho : o.op = .extract x i) : ∀ (a : Act) (W W' : World) (v : Value), o.quietAt P a (fun _ => False) W v → o.quietAt P a (fun _ => False) W' v := by
  intro a W W' v h
  unfold Oper.quietAt execOp at *
  rw [ho] at h ⊢
  dsimp only at h ⊢
  unfold Instr.extract at *
  generalize a.eval x = y at *
  cases y with
  | tuple vs =>
    cases hv : vs[i]? with
    | some u =>
      simp only [hv, Sem.run_bind, Sem.run_pure, Result.andThen_ok, Oper.quietUpon] at h ⊢
      exact ⟨trivial, h.2⟩
    | none =>
      exfalso
      simp only [hv] at h
      simp [go_sem, stuck, Oper.quietUpon] at h
  | _ =>
    exfalso
    simp [go_sem, stuck, Oper.quietUpon] at h
def lateL (n q m : Nat) (s : Nat) : Array Bool := ((List.range s).map fun i => (decide (i < n) || decide (i < m)) && i != q).toArray
theorem wpG_anyQ {md : Region.Mode} {Q : Exit → Act → World → Prop} {n q : Nat} {oq on : Oper} {tl : List Oper} (hrefl : ∀ W, E W W) (htr : ∀ {A B C}, E A B → E B C → E A C) (hG : ∀ t φ, G t = some φ → ∀ v W W', E W W' → φ v W → φ v W') (hs : Region.noSelect ops = true)
    (hsink : sinkQ md ops n q = true) (hqn : q < n) (hq : ops[q]? = some oq) (hgq : gOf G oq = none) (hwq : oq.guard = none) (hon : ops[n]? = some on) (hdn : on.dst = none) (hwn : on.guard = none) (hapq : oq.apart ops on = true) (hpure : ∀ a W W' v, oq.quietAt P a (fun _ => False) W v → oq.quietAt P a (fun _ => False) W' v)
    (hr1 : ((Region.ready md ops (lateL n q n ops.size)).all fun j => j == q || j == n) = true) (hr2 : decide (Region.ready md ops ((lateL n q n ops.size).setIfInBounds n true) = [q]) = true) (hs2 : Region.seqB md ops tl.length (n + 1) (((lateL n q n ops.size).setIfInBounds n true).setIfInBounds q true) = true) (hchain : Region.chainB md ops n = true) (hn : n < ops.size) (hseq : Region.seqB md ops (on :: tl).length n ((List.replicate n true ++ List.replicate (ops.size - n) false).toArray) = true) (htl : ∀ j, (on :: tl)[j]? = ops[n + j]?)
    (hlex : ∀ i oi, ops[i]? = some oi → (∀ e ∈ oi.after, Region.binds md e = true → e.on < i) ∧ ∀ j oj, i < j → ops[j]? = some oj → (∀ e ∈ oj.after, Region.binds md e = true → e.on ≠ i) → oi.apart ops oj = true) :
    ∀ (fuel : Nat) (r : List (Nat × Oper)) (listed : Array Bool) (a : Act) (F : Tmp → World → Prop) (W : World), r.length = fuel → HeadInv md ops n listed → (∀ x ∈ r, ops[x.1]? = some x.2 ∧ x.1 < n) → (∀ j, j < n → (listed.getD j true = false ↔ ∃ o, (j, o) ∈ r)) → r.Pairwise (fun x y => x.1 < y.1) →
      UpF E w0 F → E w0 W → (∀ t, F t W) → wpG P ops E w0 G (fun a W => ∃ W1, RunsTo P on a W W1 ∧ wpList P ops Q tl a W1) (r.map (·.2)) a F → wpAny P md ops Q (fuel + (on :: tl).length) listed a W := by
  intro fuel
  induction fuel with
  | zero =>
    intro r listed a F W hl hinv _ hm _ _ h0 hF h
    obtain rfl : r = [] := List.eq_nil_of_length_eq_zero hl
    rw [Nat.zero_add]
    have hcan : listed = (List.replicate n true ++ List.replicate (ops.size - n) false).toArray := by
      have hz := hinv.size
      refine Array.ext (by simp; omega) fun i hi hi' => ?_
      simp only [List.getElem_toArray, List.getElem_append, List.length_replicate, List.getElem_replicate]
      by_cases hin : i < n
      · rw [dif_pos hin]
        have : ¬ listed.getD i true = false := fun hf => by
          obtain ⟨o, ho⟩ := (hm i hin).1 hf
          cases ho
        simp only [Array.getD_eq_getD_getElem?, Array.getElem?_eq_getElem hi, Option.getD_some] at this
        simpa using this
      · rw [dif_neg hin]
        have := hinv.tail i (by omega) (by omega)
        simpa only [Array.getD_eq_getD_getElem?, Array.getElem?_eq_getElem hi, Option.getD_some] using this
    obtain ⟨W1, hrun, hwl⟩ := h W h0 hF
    exact wpAny_of_seq (on :: tl) n listed a W htl (by rw [hcan]; exact hseq) (wpList_plain hwn fun _ hK' => hrun.wp hdn (hK' _ _ hwl))
  | succ fuel ih =>
    intro r listed a F W hl hinv hop hm hp hu h0 hF h
    have hz := hinv.size
    rw [show fuel + 1 + (on :: tl).length = (fuel + (on :: tl).length) + 1 by omega]
    refine ⟨fun hr => ?_, fun j hj => ?_⟩
    · exfalso
      obtain ⟨⟨i, oi⟩, r, rfl⟩ : ∃ x r', r = x :: r' := by
        cases r with
        | nil => cases hl
        | cons x r => exact ⟨x, r, rfl⟩
      obtain ⟨hi, hin0⟩ := hop (i, oi) (List.mem_cons_self ..)
      have hi : ops[i]? = some oi := hi
      have hin0 : i < n := hin0
      have : i ∈ Region.ready md ops listed := by
        refine mem_ready.2 ⟨(hm i hin0).2 ⟨oi, List.mem_cons_self ..⟩, oi, hi, fun e he hb => ?_⟩
        have hlt := (hlex i oi hi).1 e he hb
        have hin : i < ops.size := (Array.getElem?_eq_some_iff.1 hi).1
        have hne : ¬ listed.getD e.on true = false := fun hf => by
          obtain ⟨o, ho⟩ := (hm e.on (by omega)).1 hf
          rcases List.mem_cons.1 ho with ho | ho
          · cases ho; omega
          · have := (List.pairwise_cons.1 hp).1 _ ho
            simp only at this
            omega
        have hsz : e.on < listed.size := by omega
        simp only [Array.getD_eq_getD_getElem?, Array.getElem?_eq_getElem hsz, Option.getD_some] at hne ⊢
        simpa using hne
      rw [hr] at this
      cases this
    · obtain ⟨hun, oj, hoj, hall⟩ := mem_ready.1 hj
      rcases Nat.lt_or_ge j n with hjn | hjn
      case inr =>
        have hall1 : ∀ x ∈ r, x.1 = q := by
          intro x hx
          rcases Nat.lt_trichotomy x.1 q with hc | hc | hc
          · exact absurd hj (tail_waitsQ hsink hchain hn hqn hinv _ x.1 rfl (hop x hx).2 (by omega) ((hm x.1 (hop x hx).2).2 ⟨x.2, hx⟩) j hjn)
          · exact hc
          · exact absurd hj (tail_waitsQ hsink hchain hn hqn hinv _ x.1 rfl (hop x hx).2 (by omega) ((hm x.1 (hop x hx).2).2 ⟨x.2, hx⟩) j hjn)
        obtain ⟨⟨i, oi⟩, r, rfl⟩ : ∃ x r', r = x :: r' := by
          cases r with
          | nil => cases hl
          | cons x r => exact ⟨x, r, rfl⟩
        have hiq : i = q := hall1 (i, oi) (List.mem_cons_self ..)
        subst hiq
        obtain rfl : r = [] := by
          cases r with
          | nil => rfl
          | cons y r =>
            exfalso
            have h1 := (List.pairwise_cons.1 hp).1 y (List.mem_cons_self ..)
            have h2 := hall1 y (List.mem_cons_of_mem _ (List.mem_cons_self ..))
            simp only at h1
            omega
        have hoi : oi = oq := by have := (hop (i, oi) (List.mem_cons_self ..)).1; rw [hq] at this; exact (Option.some.inj this).symm
        subst hoi
        obtain rfl : fuel = 0 := by simpa using hl.symm
        have hcan : listed = lateL n i n ops.size := by
          refine Array.ext (by simp [lateL, hz]) fun m h1 h2 => ?_
          simp only [lateL, List.getElem_toArray, List.getElem_map, List.getElem_range]
          by_cases hmn : m < n
          · have := hm m hmn
            by_cases hmi : m = i
            · subst hmi
              have h3 := this.2 ⟨_, List.mem_cons_self ..⟩
              simp only [Array.getD_eq_getD_getElem?, Array.getElem?_eq_getElem h1, Option.getD_some] at h3
              rw [h3]; simp
            · have h3 : ¬ listed.getD m true = false := fun hf => by
                obtain ⟨o, ho⟩ := this.1 hf
                rcases List.mem_cons.1 ho with ho | ho
                · cases ho; exact hmi rfl
                · cases ho
              simp only [Array.getD_eq_getD_getElem?, Array.getElem?_eq_getElem h1, Option.getD_some] at h3
              have h4 : (m != i) = true := bne_iff_ne.2 hmi
              rw [h4]
              simp [hmn]
              simpa using h3
          · have h3 := hinv.tail m (by omega) (by omega)
            simp only [Array.getD_eq_getD_getElem?, Array.getElem?_eq_getElem h1, Option.getD_some] at h3
            rw [h3]; simp [hmn]
        have hjr := List.all_eq_true.1 hr1 j (by rw [← hcan]; exact hj)
        rw [Bool.or_eq_true, beq_iff_eq, beq_iff_eq] at hjr
        obtain rfl : j = n := by rcases hjr with h | h; omega; exact h
        have hoj2 : oj = on := by rw [hon] at hoj; exact (Option.some.inj hoj).symm
        subst hoj2
        have hwi : Region.wanted oi (yielded ops a.tmps) = true := by simp [Region.wanted, hwq]
        have hwj : Region.wanted oj (yielded ops a.tmps) = true := by simp [Region.wanted, hwn]
        have h' : wpG1 P ops E w0 G oi (wpG P ops E w0 G (fun a W => ∃ W1, RunsTo P oj a W W1 ∧ wpList P ops Q tl a W1) []) a F := h
        unfold wpG1 at h'
        rw [if_pos hwi, hgq] at h'
        obtain ⟨v, hqv, hend⟩ := h'
        have hqW := hqv W h0 fun t _ => hF t
        have hend : ∀ W, E w0 W → (∀ t, updF F oi.dst (Sees ops oi F) t W) → ∃ W1, RunsTo P oj (a.put oi.dst v) W W1 ∧ wpList P ops Q tl (a.put oi.dst v) W1 := hend
        obtain ⟨W1, ⟨nx, hrun, hnx⟩, hwl⟩ := hend W h0 (fun t => by
          unfold updF
          by_cases hd : oi.dst = some t
          · rw [if_pos hd]; exact fun t _ => hF t
          · rw [if_neg hd]; exact hF t)
        obtain ⟨g1, g2, g3⟩ := Oper.apart_spec hapq
        have hselj : ∀ cs b, oj.op ≠ .select cs b := fun cs b => Region.noSelect_spec hs j oj cs b hon
        rw [execOp_put oj hselj a oi.dst v g1] at hrun
        unfold wpOp
        simp only [hon]
        rw [if_pos hwj]
        left
        refine RunsTo.wp ⟨nx, hrun, hnx⟩ hdn ?_
        rw [hcan]
        have hr2' := of_decide_eq_true hr2
        rw [show 0 + (oj :: tl).length = tl.length + 1 by simp]
        refine ⟨fun hr => (by rw [hr2'] at hr; cases hr), fun i2 hi2 => ?_⟩
        rw [hr2'] at hi2
        obtain rfl : i2 = i := by simpa using hi2
        unfold wpOp
        simp only [hq]
        rw [if_pos hwi]
        left
        refine quiet_wp (hpure _ _ _ _ hqW) ?_
        exact wpAny_of_seq tl (j + 1) _ _ _ (fun m => by have := htl (m + 1); simpa [Nat.add_assoc, Nat.add_comm 1 m] using this) hs2 hwl
      obtain ⟨oj', hmem⟩ := (hm j hjn).1 hun
      obtain rfl : oj' = oj := by have := (hop _ hmem).1; rw [hoj] at this; exact (Option.some.inj this).symm
      obtain ⟨r1, r2, rfl⟩ := List.append_of_mem hmem
      have hsel := Region.noSelect_spec hs
      have hsj : ∀ cs b, oj'.op ≠ .select cs b := fun cs b => hsel j oj' cs b hoj
      have hap : ∀ oi ∈ r1.map (·.2), oi.apart ops oj' = true ∧ ∀ cs b, oi.op ≠ .select cs b := by
        intro oi hoi
        obtain ⟨⟨i, oi'⟩, hxm, hx2⟩ := List.mem_map.1 hoi
        simp only at hx2
        subst hx2
        have hi : ops[i]? = some oi' := (hop (i, oi') (List.mem_append_left _ hxm)).1
        have hin0 : i < n := (hop (i, oi') (List.mem_append_left _ hxm)).2
        have hij : i < j := (List.pairwise_append.1 hp).2.2 _ hxm _ (List.mem_cons_self ..)
        refine ⟨(hlex i oi' hi).2 j oj' hij hoj fun e he hb heq => ?_, fun cs b => hsel i oi' cs b hi⟩
        have h1 := hall e he hb
        have h2 := (hm i hin0).2 ⟨oi', List.mem_append_left _ hxm⟩
        rw [heq] at h1
        have hin : i < ops.size := (Array.getElem?_eq_some_iff.1 hi).1
        have hsz : i < listed.size := by omega
        simp only [Array.getD_eq_getD_getElem?, Array.getElem?_eq_getElem hsz, Option.getD_some] at h1 h2
        rw [h1] at h2
        cases h2
      rw [List.map_append, List.map_cons] at h
      have hsafe := wpG_safe hrefl htr hG hsj _ _ a F W hap hu h0 hF h
      have hj' : j < listed.size := by rw [hz]; exact (Array.getElem?_eq_some_iff.1 hoj).1
      have hnext : ∀ (v : Value) (p : World → Prop) (W' : World), ResG P ops E w0 G oj' a F v p → E W W' → p W' → (∀ A B, E w0 A → E A B → p A → p B) → wpAny P md ops Q (fuel + (on :: tl).length) (listed.setIfInBounds j true) (a.put oj'.dst v) W' := by
        intro v p W' hres hE hpW hpu
        refine ih (r1 ++ r2) _ _ (updF F oj'.dst p) W' ?_ (hinv.set hj hjn) (fun x hx => hop x ?_) (fun k hkn => ?_) ?_ (hu.upd hpu) (htr h0 hE) (fun t => ?_) ?_
        · simp only [List.length_append, List.length_cons] at hl ⊢; omega
        · rcases List.mem_append.1 hx with hx | hx
          · exact List.mem_append_left _ hx
          · exact List.mem_append_right _ (List.mem_cons_of_mem _ hx)
        · by_cases hjk : j = k
          · subst hjk
            constructor
            · intro hk
              simp [Array.getD_eq_getD_getElem?, hj'] at hk
            · rintro ⟨o, ho⟩
              exfalso
              have hpp := List.pairwise_append.1 hp
              rcases List.mem_append.1 ho with ho | ho
              · have := hpp.2.2 _ ho _ (List.mem_cons_self ..)
                simp only at this; omega
              · have := (List.pairwise_cons.1 hpp.2.1).1 _ ho
                simp only at this; omega
          · rw [getD_set_ne true hjk, hm k hkn]
            constructor
            · rintro ⟨o, ho⟩
              rcases List.mem_append.1 ho with ho | ho
              · exact ⟨o, List.mem_append_left _ ho⟩
              · rcases List.mem_cons.1 ho with ho | ho
                · cases ho; exact absurd rfl hjk
                · exact ⟨o, List.mem_append_right _ ho⟩
            · rintro ⟨o, ho⟩
              rcases List.mem_append.1 ho with ho | ho
              · exact ⟨o, List.mem_append_left _ ho⟩
              · exact ⟨o, List.mem_append_right _ (List.mem_cons_of_mem _ ho)⟩
        · have hpp := List.pairwise_append.1 hp
          exact List.pairwise_append.2 ⟨hpp.1, (List.pairwise_cons.1 hpp.2.1).2, fun x hx y hy => hpp.2.2 x hx y (List.mem_cons_of_mem _ hy)⟩
        · unfold updF
          by_cases hd : oj'.dst = some t
          · rw [if_pos hd]; exact hpW
          · rw [if_neg hd]; exact hu t W W' h0 hE (hF t)
        · rw [List.map_append]
          exact wpG_pull hsj _ _ a F hap h hres
      unfold wpOp
      simp only [hoj]
      by_cases hw : Region.wanted oj' (yielded ops a.tmps) = true
      · rw [if_pos hw]
        left
        have hsf := hsafe hw
        cases hg : gOf G oj' with
        | some φ =>
          rw [hg] at hsf
          have hst : ∀ u A B, E A B → φ u A → φ u B := by
            unfold gOf at hg
            cases hd : oj'.dst with
            | none => rw [hd] at hg; cases hg
            | some d => rw [hd] at hg; exact hG d φ hg
          exact grow_wp (hsf W h0 fun t _ => hF t) fun v W' hE hφ => hnext v (φ v) W' (.inr (.inl ⟨hw, φ, hg, rfl, W', htr h0 hE, hφ⟩)) hE hφ (fun A B _ hAB => hst v A B hAB)
        | none =>
          rw [hg] at hsf
          obtain ⟨v, hv⟩ := hsf
          have hq := hv W h0 fun t _ => hF t
          exact quiet_wp hq (hnext v _ W (.inl ⟨hw, hg, rfl, W, h0, fun t _ => hF t, hq⟩) (hrefl W) (fun t _ => hF t) (hu.sees oj'))
      · rw [if_neg hw]
        exact hnext undef _ W (.inr (.inr ⟨by simpa using hw, rfl, rfl⟩)) (hrefl W) trivial (fun _ _ _ _ h => h)


theorem wp_region_LQ {id : Nat} {Q : Exit → Act → World → Prop} {a : Act} {w : World} {l : List Oper} (n q : Nat) (oq on : Oper) (tl : List Oper) (htl0 : l.drop n = on :: tl) (hrefl : ∀ W, E W W) (htr : ∀ {A B C}, E A B → E B C → E A C) (hm : P.follows .mixedOrders = true) (hB : Region.lexB .any l.toArray = true)
    (hsink : sinkQ .any l.toArray n q = true) (hqn : decide (q < n) = true) (hq : l.toArray[q]? = some oq) (hgq : gOf G oq = none) (hwq : oq.guard = none) (hon : l.toArray[n]? = some on) (hdn : on.dst = none) (hwn : on.guard = none) (hapq : oq.apart l.toArray on = true) (hpure : ∀ a W W' v, oq.quietAt P a (fun _ => False) W v → oq.quietAt P a (fun _ => False) W' v)
    (hr1 : ((Region.ready .any l.toArray (lateL n q n l.toArray.size)).all fun j => j == q || j == n) = true) (hr2 : decide (Region.ready .any l.toArray ((lateL n q n l.toArray.size).setIfInBounds n true) = [q]) = true) (hs2 : Region.seqB .any l.toArray tl.length (n + 1) (((lateL n q n l.toArray.size).setIfInBounds n true).setIfInBounds q true) = true) (hchain : Region.chainB .any l.toArray n = true) (hseq : Region.seqB .any l.toArray (l.drop n).length n ((List.replicate n true ++ List.replicate (l.toArray.size - n) false).toArray) = true) (hn : decide (n < l.length) = true)
    (hG : ∀ t φ, G t = some φ → ∀ v W W', E W W' → φ v W → φ v W') (hE : E w0 { w with drawn := w.drawn + 1 })
    (h : wpL P l.toArray E w0 G (fun a W => ∃ W1, RunsTo P on a W W1 ∧ wpList P l.toArray Q tl a W1) (l.take n) a []) : (Code.region id l.toArray true).wp P Q a w := by
  have hn : n < l.length := of_decide_eq_true hn
  simp only [Region.lexB, Bool.and_eq_true] at hB
  refine wp_region_any hm ?_
  have hx := lex_facts (ops := l.toArray) (md := .any) l.toArray.size 0 (Array.replicate l.toArray.size false) (by simp) (fun i hi _ => by omega) (fun i _ hi => by simp at hi; simp [hi]) (by omega) hB.2
  have hmap : ((List.range n).zip (l.take n)).map (·.2) = l.take n := by rw [List.map_snd_zip]; simp; omega
  have hsz : l.toArray.size = n + (l.drop n).length := by simp; omega
  have h' : wpG P l.toArray E w0 G (fun a W => ∃ W1, RunsTo P on a W W1 ∧ wpList P l.toArray Q tl a W1) (l.take n) a (fun _ _ => True) := by
    unfold wpL at h
    exact wpG_mono _ _ _ _ (fun _ _ _ _ => trivial) h
  have hzl : ((List.range n).zip (l.take n)).length = n := by simp; omega
  have key := wpG_anyQ (P := P) (E := E) (w0 := w0) (G := G) (md := .any) (Q := Q) (n := n) (q := q) (oq := oq) (on := on) (tl := tl) hrefl htr hG hB.1 hsink (of_decide_eq_true hqn) hq hgq hwq hon hdn hwn hapq hpure hr1 hr2 hs2 hchain (by simpa using hn) (by rw [← htl0]; exact hseq) (fun j => by rw [← htl0]; simp) (fun i oi => hx i oi (Nat.zero_le _)) n ((List.range n).zip (l.take n)) (Array.replicate l.toArray.size false) a (fun _ _ => True) { w with drawn := w.drawn + 1 } hzl ⟨by simp, fun j oj hj hl => absurd hl (by rw [getD_replicate_false]; exact Bool.false_ne_true), fun t ht ht' => by simp at ht'; simp [ht']⟩ ?_ ?_ ?_ (fun _ _ _ _ _ h => h) hE (fun _ => trivial) (by rw [hmap]; exact h')
  · have e : l.toArray.size = n + (on :: tl).length := by rw [← htl0]; exact hsz
    generalize hS : l.toArray.size = S at key e ⊢
    subst e
    exact key
  · intro x hx
    obtain ⟨i, hi, he⟩ := List.mem_iff_getElem.1 hx
    simp only [List.length_zip, List.length_range, List.length_take] at hi
    rw [List.getElem_zip, List.getElem_range] at he
    subst he
    have hil : i < l.length := by omega
    refine ⟨?_, by simp; omega⟩
    simp [hil]
  · intro j hjn
    have hjl : j < l.length := by omega
    constructor
    · intro _
      exact ⟨l[j], List.mem_iff_getElem.2 ⟨j, by simp; omega, by rw [List.getElem_zip, List.getElem_range]; simp⟩⟩
    · intro _
      simp [hjl]
  · have hp : (List.range n).Pairwise (· < ·) := List.pairwise_lt_range
    rw [List.pairwise_iff_getElem] at hp ⊢
    intro i j hi hj hij
    simp only [List.length_zip, List.length_range, List.length_take] at hi hj
    simp only [List.getElem_zip, List.getElem_range]
    exact hij
end
end Go.Proofs.Ytcalbcjheenmgaa
