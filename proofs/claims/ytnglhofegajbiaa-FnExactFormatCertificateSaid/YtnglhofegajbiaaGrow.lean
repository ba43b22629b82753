/- A region that draws its order, whose operations only make memory grow: one walk in the text's order serves every order. Values that depend on the order (new memory) are met by a fact that stays true as memory grows. No conditions. -/
import Derived.Deep.Quiet
namespace Go.Proofs.Ytnglhofegajbiaa
open Go
section
variable {P : Program} {ops : Array Oper} {E : World → World → Prop} {w0 : World} {G : Tmp → Option (Value → World → Prop)}

/-- What an operation that makes memory leaves: a value with the fact φ, in a world that has grown. -/
def growUpon (P : Program) (E : World → World → Prop) (φ : Value → World → Prop) (W : World) : Result Next → Prop
  | .ok (.value u) w' => E W w' ∧ φ u w'
  | .ok .skip w' => E W w' ∧ φ undef w'
  | .ok (.enter f args) w' => Calls P f args w' (fun e w'' => ∃ v, e = .returned v ∧ E W w'' ∧ φ v w'')
  | _ => False
def growAt (P : Program) (o : Oper) (a : Act) (E : World → World → Prop) (φ : Value → World → Prop) (W : World) : Prop := growUpon P E φ W ((execOp a.eval o).run P W)
/-- Which facts hold of the temporaries. -/
def updF (F : Tmp → World → Prop) (d : Option Tmp) (p : World → Prop) : Tmp → World → Prop := fun t => if d = some t then p else F t
def Sees (ops : Array Oper) (o : Oper) (F : Tmp → World → Prop) (W : World) : Prop := ∀ t ∈ o.looksAt ops, F t W
def gOf (G : Tmp → Option (Value → World → Prop)) (o : Oper) : Option (Value → World → Prop) := o.dst.bind G
def wpG1 (P : Program) (ops : Array Oper) (E : World → World → Prop) (w0 : World) (G : Tmp → Option (Value → World → Prop)) (o : Oper) (K : Act → (Tmp → World → Prop) → Prop) (a : Act) (F : Tmp → World → Prop) : Prop :=
  if Region.wanted o (yielded ops a.tmps) = true then
    match gOf G o with
    | some φ => (∀ W, E w0 W → Sees ops o F W → growAt P o a E φ W) ∧ ∀ v, (∃ W, E w0 W ∧ φ v W) → K (a.put o.dst v) (updF F o.dst (φ v))
    | none => ∃ v, (∀ W, E w0 W → Sees ops o F W → o.quietAt P a (fun _ => False) W v) ∧ K (a.put o.dst v) (updF F o.dst (Sees ops o F))
  else K (a.put o.dst undef) (updF F o.dst fun _ => True)
def wpG (P : Program) (ops : Array Oper) (E : World → World → Prop) (w0 : World) (G : Tmp → Option (Value → World → Prop)) (Q : Act → World → Prop) : List Oper → Act → (Tmp → World → Prop) → Prop
  | [], a, F => ∀ W, E w0 W → (∀ t, F t W) → Q a W
  | o :: l, a, F => wpG1 P ops E w0 G o (wpG P ops E w0 G Q l) a F

theorem quiet_det {o : Oper} {a : Act} {W : World} {v v' : Value} (h : o.quietAt P a (fun _ => False) W v) (h' : o.quietAt P a (fun _ => False) W v') : v = v' := by
  unfold Oper.quietAt at h h'
  generalize (execOp a.eval o).run P W = r at h h'
  cases r with
  | ok n w' =>
    cases n <;> simp only [Oper.quietUpon] at h h'
    case value u => rw [← h.2, ← h'.2]
    case skip => rw [h.2, h'.2]
    case enter f args =>
      obtain ⟨e, w', fr, ⟨_, hf⟩, _⟩ := h.2 []
      exact hf.elim
  | halt x w' => simp only [Oper.quietUpon] at h
theorem updF_sees {oj : Oper} {F : Tmp → World → Prop} {d : Option Tmp} {p : World → Prop} (h : ∀ x, d = some x → x ∉ oj.looksAt ops) : Sees ops oj (updF F d p) = Sees ops oj F := by
  funext W
  unfold Sees
  refine propext ⟨fun hh t ht => ?_, fun hh t ht => ?_⟩
  · have := hh t ht
    unfold updF at this
    rwa [if_neg (fun e => h t e ht)] at this
  · unfold updF
    rw [if_neg (fun e => h t e ht)]
    exact hh t ht
theorem updF_comm {F : Tmp → World → Prop} {x y : Option Tmp} (p q : World → Prop) (h : ∀ d, x = some d → y ≠ some d) : updF (updF F x p) y q = updF (updF F y q) x p := by
  funext t
  unfold updF
  by_cases hx : x = some t
  · simp [hx, h t hx]
  · simp [hx]

/-- v and the fact p are what operation o may leave. -/
def ResG (P : Program) (ops : Array Oper) (E : World → World → Prop) (w0 : World) (G : Tmp → Option (Value → World → Prop)) (o : Oper) (a : Act) (F : Tmp → World → Prop) (v : Value) (p : World → Prop) : Prop :=
  (Region.wanted o (yielded ops a.tmps) = true ∧ gOf G o = none ∧ p = Sees ops o F ∧ ∃ W, E w0 W ∧ Sees ops o F W ∧ o.quietAt P a (fun _ => False) W v) ∨
  (Region.wanted o (yielded ops a.tmps) = true ∧ ∃ φ, gOf G o = some φ ∧ p = φ v ∧ ∃ W, E w0 W ∧ φ v W) ∨
  (Region.wanted o (yielded ops a.tmps) = false ∧ v = undef ∧ p = fun _ => True)
theorem ResG.base {o : Oper} {a : Act} {F : Tmp → World → Prop} {v : Value} {p : World → Prop} {K : Act → (Tmp → World → Prop) → Prop} (hr : ResG P ops E w0 G o a F v p) (h : wpG1 P ops E w0 G o K a F) : K (a.put o.dst v) (updF F o.dst p) := by
  unfold wpG1 at h
  rcases hr with ⟨hw, hg, rfl, W, hW, hS, hq⟩ | ⟨hw, φ, hg, rfl, hW⟩ | ⟨hw, rfl, rfl⟩
  · rw [if_pos hw, hg] at h
    obtain ⟨v', h1, h2⟩ := h
    rw [quiet_det hq (h1 W hW hS)]
    exact h2
  · rw [if_pos hw, hg] at h
    exact h.2 v hW
  · rw [if_neg (by rw [hw]; exact Bool.false_ne_true)] at h
    exact h
theorem ResG.put {oj : Oper} {a : Act} {F : Tmp → World → Prop} {v : Value} {p : World → Prop} {d : Option Tmp} {u : Value} {q : World → Prop} (hd : ∀ x, d = some x → x ∉ oj.looksAt ops) (hs : ∀ cs b, oj.op ≠ .select cs b)
    (hr : ResG P ops E w0 G oj a F v p) : ResG P ops E w0 G oj (a.put d u) (updF F d q) v p := by
  unfold ResG Oper.quietAt at *
  rw [updF_sees hd, wanted_put oj a d u hd, execOp_put oj hs a d u hd]
  exact hr
theorem wpG1_put {oi : Oper} {a : Act} {F : Tmp → World → Prop} {d : Option Tmp} {u : Value} {q : World → Prop} (hd : ∀ x, d = some x → x ∉ oi.looksAt ops) (hs : ∀ cs b, oi.op ≠ .select cs b) {K K' : Act → (Tmp → World → Prop) → Prop}
    (h : wpG1 P ops E w0 G oi K a F) (hk : ∀ v p, K (a.put oi.dst v) (updF F oi.dst p) → K' ((a.put d u).put oi.dst v) (updF (updF F d q) oi.dst p)) : wpG1 P ops E w0 G oi K' (a.put d u) (updF F d q) := by
  unfold wpG1 growAt Oper.quietAt at *
  rw [updF_sees hd, wanted_put oi a d u hd, execOp_put oi hs a d u hd]
  by_cases hw : Region.wanted oi (yielded ops a.tmps) = true
  · rw [if_pos hw] at h ⊢
    cases hg : gOf G oi with
    | some φ =>
      rw [hg] at h
      exact ⟨h.1, fun v hv => hk _ _ (h.2 v hv)⟩
    | none =>
      rw [hg] at h
      obtain ⟨v, h1, h2⟩ := h
      exact ⟨v, h1, hk _ _ h2⟩
  · rw [if_neg hw] at h ⊢
    exact hk _ _ h
theorem wpG_pull {Q : Act → World → Prop} {oj : Oper} {v : Value} {p : World → Prop} (hsj : ∀ cs b, oj.op ≠ .select cs b) : ∀ (l1 l2 : List Oper) (a : Act) (F : Tmp → World → Prop), (∀ oi ∈ l1, oi.apart ops oj = true ∧ ∀ cs b, oi.op ≠ .select cs b) →
    wpG P ops E w0 G Q (l1 ++ oj :: l2) a F → ResG P ops E w0 G oj a F v p → wpG P ops E w0 G Q (l1 ++ l2) (a.put oj.dst v) (updF F oj.dst p)
  | [], _, _, _, _, h, hr => hr.base h
  | oi :: l1, l2, a, F, hap, h, hr => by
    obtain ⟨hh, hsi⟩ := hap oi (List.mem_cons_self ..)
    obtain ⟨h1, h2, h3⟩ := Oper.apart_spec hh
    refine wpG1_put h3 hsi (K := wpG P ops E w0 G Q (l1 ++ oj :: l2)) h fun vi pi hK => ?_
    have := wpG_pull hsj l1 l2 _ _ (fun o ho => hap o (List.mem_cons_of_mem _ ho)) hK (hr.put h1 hsj)
    rw [Act.put_comm a vi v h2, updF_comm pi p h2] at this
    exact this

def UpF (E : World → World → Prop) (w0 : World) (F : Tmp → World → Prop) : Prop := ∀ t W W', E w0 W → E W W' → F t W → F t W'
theorem UpF.upd {F : Tmp → World → Prop} {d : Option Tmp} {p : World → Prop} (h : UpF E w0 F) (hp : ∀ W W', E w0 W → E W W' → p W → p W') : UpF E w0 (updF F d p) := by
  intro t W W' h0 h1 hF
  unfold updF at *
  by_cases hd : d = some t
  · rw [if_pos hd] at *; exact hp W W' h0 h1 hF
  · rw [if_neg hd] at *; exact h t W W' h0 h1 hF
theorem UpF.sees {F : Tmp → World → Prop} (h : UpF E w0 F) (o : Oper) : ∀ W W', E w0 W → E W W' → Sees ops o F W → Sees ops o F W' := fun W W' h0 h1 hs t ht => h t W W' h0 h1 (hs t ht)
def SafeG (P : Program) (ops : Array Oper) (E : World → World → Prop) (w0 : World) (G : Tmp → Option (Value → World → Prop)) (o : Oper) (a : Act) (F : Tmp → World → Prop) : Prop :=
  Region.wanted o (yielded ops a.tmps) = true → match gOf G o with
    | some φ => ∀ W, E w0 W → Sees ops o F W → growAt P o a E φ W
    | none => ∃ v, ∀ W, E w0 W → Sees ops o F W → o.quietAt P a (fun _ => False) W v
theorem SafeG.put {oj : Oper} {a : Act} {F : Tmp → World → Prop} {d : Option Tmp} {u : Value} {q : World → Prop} (hd : ∀ x, d = some x → x ∉ oj.looksAt ops) (hs : ∀ cs b, oj.op ≠ .select cs b)
    (h : SafeG P ops E w0 G oj (a.put d u) (updF F d q)) : SafeG P ops E w0 G oj a F := by
  unfold SafeG growAt Oper.quietAt at *
  rwa [updF_sees hd, wanted_put oj a d u hd, execOp_put oj hs a d u hd] at h
theorem grow_some {o : Oper} {a : Act} {φ : Value → World → Prop} {W : World} (h : growAt P o a E φ W) : ∃ v W', E W W' ∧ φ v W' := by
  unfold growAt at h
  generalize (execOp a.eval o).run P W = r at h
  cases r with
  | ok n w' =>
    cases n <;> simp only [growUpon] at h
    case value u => exact ⟨_, _, h⟩
    case skip => exact ⟨_, _, h⟩
    case enter f args =>
      obtain ⟨e, w', fr, ⟨v, _, h1, h2⟩, _⟩ := h []
      exact ⟨v, w', h1, h2⟩
  | halt x w' => simp only [growUpon] at h
theorem grow_wp {o : Oper} {a : Act} {φ : Value → World → Prop} {W : World} {K : Act → World → Prop} {Q : Exit → Act → World → Prop} (h : growAt P o a E φ W) (hk : ∀ v W', E W W' → φ v W' → K (a.put o.dst v) W') : o.wp P a W K Q := by
  unfold growAt at h
  unfold Oper.wp
  generalize (execOp a.eval o).run P W = r at *
  cases r with
  | ok n w' =>
    cases n <;> simp only [growUpon] at h <;> simp only [Oper.upon]
    case value u => exact hk _ _ h.1 h.2
    case skip => exact hk _ _ h.1 h.2
    case enter f args => exact h.mono fun e w'' ⟨v, he, h1, h2⟩ => by subst he; exact hk _ _ h1 h2
  | halt x w' => simp only [growUpon] at h
theorem quiet_wp {o : Oper} {a : Act} {v : Value} {W : World} {K : Act → World → Prop} {Q : Exit → Act → World → Prop} (h : o.quietAt P a (fun _ => False) W v) (hk : K (a.put o.dst v) W) : o.wp P a W K Q := by
  unfold Oper.quietAt at h
  unfold Oper.wp
  generalize (execOp a.eval o).run P W = r at *
  cases r with
  | ok n w' =>
    cases n <;> simp only [Oper.quietUpon] at h <;> simp only [Oper.upon]
    case value u => rw [h.1, h.2]; exact hk
    case skip => rw [h.1, ← h.2]; exact hk
    case enter f args =>
      obtain ⟨e, w', fr, ⟨_, hf⟩, _⟩ := h.2 []
      exact hf.elim
  | halt x w' => simp only [Oper.quietUpon] at h
theorem wpG_safe {Q : Act → World → Prop} {oj : Oper} (hrefl : ∀ W, E W W) (htr : ∀ {A B C}, E A B → E B C → E A C) (hG : ∀ t φ, G t = some φ → ∀ v W W', E W W' → φ v W → φ v W') (hsj : ∀ cs b, oj.op ≠ .select cs b) :
    ∀ (l1 l2 : List Oper) (a : Act) (F : Tmp → World → Prop) (W : World), (∀ oi ∈ l1, oi.apart ops oj = true ∧ ∀ cs b, oi.op ≠ .select cs b) → UpF E w0 F → E w0 W → (∀ t, F t W) →
    wpG P ops E w0 G Q (l1 ++ oj :: l2) a F → SafeG P ops E w0 G oj a F
  | [], l2, a, F, W, _, _, _, _, h => by
    intro hw
    have h : wpG1 P ops E w0 G oj (wpG P ops E w0 G Q l2) a F := h
    unfold wpG1 at h
    rw [if_pos hw] at h
    cases hg : gOf G oj with
    | some φ => rw [hg] at h; exact h.1
    | none => rw [hg] at h; obtain ⟨v, h1, _⟩ := h; exact ⟨v, h1⟩
  | oi :: l1, l2, a, F, W, hap, hu, h0, hF, h => by
    obtain ⟨hh, hsi⟩ := hap oi (List.mem_cons_self ..)
    obtain ⟨h1, h2, h3⟩ := Oper.apart_spec hh
    have h : wpG1 P ops E w0 G oi (wpG P ops E w0 G Q (l1 ++ oj :: l2)) a F := h
    have hap' : ∀ o ∈ l1, o.apart ops oj = true ∧ ∀ cs b, o.op ≠ .select cs b := fun o ho => hap o (List.mem_cons_of_mem _ ho)
    unfold wpG1 at h
    by_cases hw : Region.wanted oi (yielded ops a.tmps) = true
    · rw [if_pos hw] at h
      cases hg : gOf G oi with
      | some φ =>
        rw [hg] at h
        obtain ⟨v, W', hE, hφ⟩ := grow_some (h.1 W h0 fun t _ => hF t)
        have hst : ∀ u A B, E A B → φ u A → φ u B := by
          unfold gOf at hg
          cases hd : oi.dst with
          | none => rw [hd] at hg; cases hg
          | some d => rw [hd] at hg; exact hG d φ hg
        refine SafeG.put h1 hsj (wpG_safe hrefl htr hG hsj l1 l2 _ _ W' hap' (hu.upd fun A B _ hAB => hst v A B hAB) (htr h0 hE) (fun t => ?_) (h.2 v ⟨W', htr h0 hE, hφ⟩))
        unfold updF
        by_cases hd : oi.dst = some t
        · rw [if_pos hd]; exact hφ
        · rw [if_neg hd]; exact hu t W W' h0 hE (hF t)
      | none =>
        rw [hg] at h
        obtain ⟨v, hq, hr⟩ := h
        refine SafeG.put h1 hsj (wpG_safe hrefl htr hG hsj l1 l2 _ _ W hap' (hu.upd (hu.sees oi)) h0 (fun t => ?_) hr)
        unfold updF
        by_cases hd : oi.dst = some t
        · rw [if_pos hd]; exact fun t _ => hF t
        · rw [if_neg hd]; exact hF t
    · rw [if_neg hw] at h
      refine SafeG.put h1 hsj (wpG_safe hrefl htr hG hsj l1 l2 _ _ W hap' (hu.upd fun _ _ _ _ h => h) h0 (fun t => ?_) h)
      unfold updF
      by_cases hd : oi.dst = some t
      · rw [if_pos hd]; trivial
      · rw [if_neg hd]; exact hF t

theorem wpG_any {md : Region.Mode} {Q : Exit → Act → World → Prop} (hrefl : ∀ W, E W W) (htr : ∀ {A B C}, E A B → E B C → E A C) (hG : ∀ t φ, G t = some φ → ∀ v W W', E W W' → φ v W → φ v W') (hs : Region.noSelect ops = true)
    (hlex : ∀ i oi, ops[i]? = some oi → (∀ e ∈ oi.after, Region.binds md e = true → e.on < i) ∧ ∀ j oj, i < j → ops[j]? = some oj → (∀ e ∈ oj.after, Region.binds md e = true → e.on ≠ i) → oi.apart ops oj = true) :
    ∀ (fuel : Nat) (r : List (Nat × Oper)) (listed : Array Bool) (a : Act) (F : Tmp → World → Prop) (W : World), r.length = fuel → listed.size = ops.size → (∀ x ∈ r, ops[x.1]? = some x.2) → (∀ j, listed.getD j true = false ↔ ∃ o, (j, o) ∈ r) → r.Pairwise (fun x y => x.1 < y.1) →
      UpF E w0 F → E w0 W → (∀ t, F t W) → wpG P ops E w0 G (fun a W => Q .normal a W) (r.map (·.2)) a F → wpAny P md ops Q fuel listed a W := by
  intro fuel
  induction fuel with
  | zero =>
    intro r listed a F W hl _ _ hm _ _ h0 hF h
    obtain rfl : r = [] := List.eq_nil_of_length_eq_zero hl
    refine ⟨List.eq_nil_iff_forall_not_mem.2 fun j hj => ?_, h W h0 hF⟩
    obtain ⟨o, ho⟩ := (hm j).1 (mem_ready.1 hj).1
    cases ho
  | succ fuel ih =>
    intro r listed a F W hl hz hop hm hp hu h0 hF h
    refine ⟨fun hr => ?_, fun j hj => ?_⟩
    · exfalso
      obtain ⟨⟨i, oi⟩, r, rfl⟩ : ∃ x r', r = x :: r' := by
        cases r with
        | nil => cases hl
        | cons x r => exact ⟨x, r, rfl⟩
      have hi := hop (i, oi) (List.mem_cons_self ..)
      have : i ∈ Region.ready md ops listed := by
        refine mem_ready.2 ⟨(hm i).2 ⟨oi, List.mem_cons_self ..⟩, oi, hi, fun e he hb => ?_⟩
        have hlt := (hlex i oi hi).1 e he hb
        have hin : i < ops.size := (Array.getElem?_eq_some_iff.1 hi).1
        have hne : ¬ listed.getD e.on true = false := fun hf => by
          obtain ⟨o, ho⟩ := (hm e.on).1 hf
          rcases List.mem_cons.1 ho with ho | ho
          · cases ho; omega
          · have := (List.pairwise_cons.1 hp).1 _ ho
            simp only at this
            omega
        have hsz : e.on < listed.size := by omega
        simp only [Array.getD_eq_getD_getElem?, Array.getElem?_eq_getElem hsz, Option.getD_some] at hne ⊢
        simpa using hne
      rw [hr] at this
      cases this
    · obtain ⟨hun, oj, hoj, hall⟩ := mem_ready.1 hj
      obtain ⟨oj', hmem⟩ := (hm j).1 hun
      obtain rfl : oj' = oj := by have := hop _ hmem; rw [hoj] at this; exact (Option.some.inj this).symm
      obtain ⟨r1, r2, rfl⟩ := List.append_of_mem hmem
      have hsel := Region.noSelect_spec hs
      have hsj : ∀ cs b, oj'.op ≠ .select cs b := fun cs b => hsel j oj' cs b hoj
      have hap : ∀ oi ∈ r1.map (·.2), oi.apart ops oj' = true ∧ ∀ cs b, oi.op ≠ .select cs b := by
        intro oi hoi
        obtain ⟨⟨i, oi'⟩, hxm, hx2⟩ := List.mem_map.1 hoi
        simp only at hx2
        subst hx2
        have hi := hop (i, oi') (List.mem_append_left _ hxm)
        have hij : i < j := (List.pairwise_append.1 hp).2.2 _ hxm _ (List.mem_cons_self ..)
        refine ⟨(hlex i oi' hi).2 j oj' hij hoj fun e he hb heq => ?_, fun cs b => hsel i oi' cs b hi⟩
        have h1 := hall e he hb
        have h2 := (hm i).2 ⟨oi', List.mem_append_left _ hxm⟩
        rw [heq] at h1
        have hin : i < ops.size := (Array.getElem?_eq_some_iff.1 hi).1
        have hsz : i < listed.size := by omega
        simp only [Array.getD_eq_getD_getElem?, Array.getElem?_eq_getElem hsz, Option.getD_some] at h1 h2
        rw [h1] at h2
        cases h2
      rw [List.map_append, List.map_cons] at h
      have hsafe := wpG_safe hrefl htr hG hsj _ _ a F W hap hu h0 hF h
      have hj' : j < listed.size := by rw [hz]; exact (Array.getElem?_eq_some_iff.1 hoj).1
      have hnext : ∀ (v : Value) (p : World → Prop) (W' : World), ResG P ops E w0 G oj' a F v p → E W W' → p W' → (∀ A B, E w0 A → E A B → p A → p B) → wpAny P md ops Q fuel (listed.setIfInBounds j true) (a.put oj'.dst v) W' := by
        intro v p W' hres hE hpW hpu
        refine ih (r1 ++ r2) _ _ (updF F oj'.dst p) W' ?_ (by simpa using hz) (fun x hx => hop x ?_) (fun k => ?_) ?_ (hu.upd hpu) (htr h0 hE) (fun t => ?_) ?_
        · simp only [List.length_append, List.length_cons] at hl ⊢; omega
        · rcases List.mem_append.1 hx with hx | hx
          · exact List.mem_append_left _ hx
          · exact List.mem_append_right _ (List.mem_cons_of_mem _ hx)
        · by_cases hjk : j = k
          · subst hjk
            constructor
            · intro hk
              simp [Array.getD_eq_getD_getElem?, hj'] at hk
            · rintro ⟨o, ho⟩
              exfalso
              have hpp := List.pairwise_append.1 hp
              rcases List.mem_append.1 ho with ho | ho
              · have := hpp.2.2 _ ho _ (List.mem_cons_self ..)
                simp only at this; omega
              · have := (List.pairwise_cons.1 hpp.2.1).1 _ ho
                simp only at this; omega
          · rw [getD_set_ne true hjk, hm k]
            constructor
            · rintro ⟨o, ho⟩
              rcases List.mem_append.1 ho with ho | ho
              · exact ⟨o, List.mem_append_left _ ho⟩
              · rcases List.mem_cons.1 ho with ho | ho
                · cases ho; exact absurd rfl hjk
                · exact ⟨o, List.mem_append_right _ ho⟩
            · rintro ⟨o, ho⟩
              rcases List.mem_append.1 ho with ho | ho
              · exact ⟨o, List.mem_append_left _ ho⟩
              · exact ⟨o, List.mem_append_right _ (List.mem_cons_of_mem _ ho)⟩
        · have hpp := List.pairwise_append.1 hp
          exact List.pairwise_append.2 ⟨hpp.1, (List.pairwise_cons.1 hpp.2.1).2, fun x hx y hy => hpp.2.2 x hx y (List.mem_cons_of_mem _ hy)⟩
        · unfold updF
          by_cases hd : oj'.dst = some t
          · rw [if_pos hd]; exact hpW
          · rw [if_neg hd]; exact hu t W W' h0 hE (hF t)
        · rw [List.map_append]
          exact wpG_pull hsj _ _ a F hap h hres
      unfold wpOp
      simp only [hoj]
      by_cases hw : Region.wanted oj' (yielded ops a.tmps) = true
      · rw [if_pos hw]
        left
        have hsf := hsafe hw
        cases hg : gOf G oj' with
        | some φ =>
          rw [hg] at hsf
          have hst : ∀ u A B, E A B → φ u A → φ u B := by
            unfold gOf at hg
            cases hd : oj'.dst with
            | none => rw [hd] at hg; cases hg
            | some d => rw [hd] at hg; exact hG d φ hg
          exact grow_wp (hsf W h0 fun t _ => hF t) fun v W' hE hφ => hnext v (φ v) W' (.inr (.inl ⟨hw, φ, hg, rfl, W', htr h0 hE, hφ⟩)) hE hφ (fun A B _ hAB => hst v A B hAB)
        | none =>
          rw [hg] at hsf
          obtain ⟨v, hv⟩ := hsf
          have hq := hv W h0 fun t _ => hF t
          exact quiet_wp hq (hnext v _ W (.inl ⟨hw, hg, rfl, W, h0, fun t _ => hF t, hq⟩) (hrefl W) (fun t _ => hF t) (hu.sees oj'))
      · rw [if_neg hw]
        exact hnext undef _ W (.inr (.inr ⟨by simpa using hw, rfl, rfl⟩)) (hrefl W) trivial (fun _ _ _ _ h => h)

theorem lex_facts {md : Region.Mode} : ∀ (fuel k : Nat) (listed : Array Bool), listed.size = ops.size → (∀ i, i < k → i < ops.size → listed.getD i false = true) → (∀ i, k ≤ i → i < ops.size → listed.getD i true = false) → k + fuel = ops.size → Region.lexFrom md ops fuel k listed = true →
    ∀ i oi, k ≤ i → ops[i]? = some oi → (∀ e ∈ oi.after, Region.binds md e = true → e.on < i) ∧ ∀ j oj, i < j → ops[j]? = some oj → (∀ e ∈ oj.after, Region.binds md e = true → e.on ≠ i) → oi.apart ops oj = true := by
  intro fuel
  induction fuel with
  | zero =>
    intro k listed _ _ _ hk _ i oi hi hoi
    have := (Array.getElem?_eq_some_iff.1 hoi).1
    omega
  | succ fuel ih =>
    intro k listed hz hlo hhi hk h i oi hi hoi
    simp only [Region.lexFrom, Bool.and_eq_true] at h
    obtain ⟨⟨hr, hf⟩, h'⟩ := h
    have hin := (Array.getElem?_eq_some_iff.1 hoi).1
    by_cases hki : k = i
    · subst hki
      refine ⟨fun e he hb => ?_, fun j oj hij hoj hno => ?_⟩
      · obtain ⟨_, o, ho, hall⟩ := mem_ready.1 (by simpa using hr : k ∈ Region.ready md ops listed)
        rw [hoi] at ho
        cases ho
        have h1 := hall e he hb
        rcases Nat.lt_or_ge e.on k with hlt | hge
        · exact hlt
        · exfalso
          rcases Nat.lt_or_ge e.on ops.size with hlt | hge2
          · have h2 := hhi e.on hge hlt
            have hsz : e.on < listed.size := by omega
            simp only [Array.getD_eq_getD_getElem?, Array.getElem?_eq_getElem hsz, Option.getD_some] at h1 h2
            rw [h1] at h2
            cases h2
          · have hsz : listed.size ≤ e.on := by omega
            simp [Array.getD_eq_getD_getElem?, Array.getElem?_eq_none hsz] at h1
      · have hjn := (Array.getElem?_eq_some_iff.1 hoj).1
        exact Region.free_spec hoi hf j oj hoj (by omega) (hhi j (by omega) hjn) hno
    · refine ih (k + 1) (listed.setIfInBounds k true) (by simpa using hz) (fun m hm hms => ?_) (fun m hm hms => ?_) (by omega) h' i oi (by omega) hoi
      · by_cases hmk : k = m
        · subst hmk
          have hsz : k < listed.size := by omega
          simp [Array.getD_eq_getD_getElem?, hsz]
        · rw [getD_set_ne false hmk]
          exact hlo m (by omega) hms
      · rw [getD_set_ne true (by omega)]
        exact hhi m (by omega) hms

/-- ONE WALK IN THE TEXT's ORDER, memory only growing. -/
theorem wp_region_grow {id : Nat} {Q : Exit → Act → World → Prop} {a : Act} {w : World} {l : List Oper} (hrefl : ∀ W, E W W) (htr : ∀ {A B C}, E A B → E B C → E A C) (hm : P.follows .mixedOrders = true) (hB : Region.lexB .any l.toArray = true)
    (hG : ∀ t φ, G t = some φ → ∀ v W W', E W W' → φ v W → φ v W') (hE : E w0 { w with drawn := w.drawn + 1 })
    (h : wpG P l.toArray E w0 G (fun a W => Q .normal a W) l a fun _ _ => True) : (Code.region id l.toArray true).wp P Q a w := by
  simp only [Region.lexB, Bool.and_eq_true] at hB
  refine wp_region_any hm ?_
  have hx := lex_facts (ops := l.toArray) (md := .any) l.toArray.size 0 (Array.replicate l.toArray.size false) (by simp) (fun i hi _ => by omega) (fun i _ hi => by simp at hi; simp [hi]) (by omega) hB.2
  have hmap : ((List.range l.length).zip l).map (·.2) = l := by rw [List.map_snd_zip]; simp
  refine wpG_any hrefl htr hG hB.1 (fun i oi => hx i oi (Nat.zero_le _)) _ ((List.range l.length).zip l) _ a (fun _ _ => True) _ ?_ (by simp) (fun x hx => ?_) (fun j => ?_) ?_ (fun _ _ _ _ _ h => h) hE (fun _ => trivial) (by rw [hmap]; exact h)
  · simp
  · obtain ⟨i, hi, he⟩ := List.mem_iff_getElem.1 hx
    simp only [List.length_zip, List.length_range, Nat.min_self] at hi
    rw [List.getElem_zip, List.getElem_range] at he
    subst he
    simp [hi]
  · constructor
    · intro hj
      have hjl : j < l.length := by
        rcases Nat.lt_or_ge j l.length with h | h
        · exact h
        · simp [h] at hj
      exact ⟨l[j], List.mem_iff_getElem.2 ⟨j, by simpa using hjl, by rw [List.getElem_zip, List.getElem_range]⟩⟩
    · rintro ⟨o, ho⟩
      obtain ⟨i, hi, he⟩ := List.mem_iff_getElem.1 ho
      simp only [List.length_zip, List.length_range, Nat.min_self] at hi
      rw [List.getElem_zip, List.getElem_range] at he
      cases he
      simp [hi]
  · rw [List.pairwise_iff_getElem]
    intro i j hi hj hij
    rw [List.getElem_zip, List.getElem_zip, List.getElem_range, List.getElem_range]
    exact hij
theorem updF_mono {F F' : Tmp → World → Prop} {d : Option Tmp} {p p' : World → Prop} (h : ∀ t W, E w0 W → F t W → F' t W) (hp : ∀ W, E w0 W → p W → p' W) : ∀ t W, E w0 W → updF F d p t W → updF F' d p' t W := by
  intro t W h0 hF
  unfold updF at *
  by_cases hd : d = some t
  · rw [if_pos hd] at *; exact hp W h0 hF
  · rw [if_neg hd] at *; exact h t W h0 hF
theorem wpG_mono {Q : Act → World → Prop} : ∀ (l : List Oper) (a : Act) (F F' : Tmp → World → Prop), (∀ t W, E w0 W → F t W → F' t W) → wpG P ops E w0 G Q l a F' → wpG P ops E w0 G Q l a F
  | [], _, _, _, hi, h => fun W h0 hF => h W h0 fun t => hi t W h0 (hF t)
  | o :: l, a, F, F', hi, h => by
    have h : wpG1 P ops E w0 G o (wpG P ops E w0 G Q l) a F' := h
    show wpG1 P ops E w0 G o (wpG P ops E w0 G Q l) a F
    have hs : ∀ W, E w0 W → Sees ops o F W → Sees ops o F' W := fun W h0 hS t ht => hi t W h0 (hS t ht)
    unfold wpG1 at *
    by_cases hw : Region.wanted o (yielded ops a.tmps) = true
    · rw [if_pos hw] at *
      cases hg : gOf G o with
      | some φ =>
        rw [hg] at h
        exact ⟨fun W h0 hS => h.1 W h0 (hs W h0 hS), fun v hv => wpG_mono l _ _ _ (updF_mono hi fun _ _ h => h) (h.2 v hv)⟩
      | none =>
        rw [hg] at h
        obtain ⟨v, h1, h2⟩ := h
        exact ⟨v, fun W h0 hS => h1 W h0 (hs W h0 hS), wpG_mono l _ _ _ (updF_mono hi hs) h2⟩
    · rw [if_neg hw] at *
      exact wpG_mono l _ _ _ (updF_mono hi fun _ _ h => h) h
/-- The facts as a list. -/
def FL (L : List (Tmp × (World → Prop))) : Tmp → World → Prop := fun t W => match L with
  | [] => True
  | p :: L => if p.1 = t then p.2 W else FL L t W
def freshL (L : List (Tmp × (World → Prop))) (d : Option Tmp) : Bool := match d with
  | none => true
  | some d => L.all fun p => p.1 != d
theorem FL_fresh : ∀ (L : List (Tmp × (World → Prop))) (d : Tmp) (W : World), (L.all fun p => p.1 != d) = true → FL L d W
  | [], _, _, _ => trivial
  | p :: L, d, W, h => by
    simp only [List.all_cons, Bool.and_eq_true, bne_iff_ne] at h
    unfold FL
    rw [if_neg h.1]
    exact FL_fresh L d W h.2
def wpL (P : Program) (ops : Array Oper) (E : World → World → Prop) (w0 : World) (G : Tmp → Option (Value → World → Prop)) (Q : Act → World → Prop) (l : List Oper) (a : Act) (L : List (Tmp × (World → Prop))) : Prop := wpG P ops E w0 G Q l a (FL L)
variable {Q : Act → World → Prop} {o : Oper} {rest : List Oper} {a : Act} {L : List (Tmp × (World → Prop))}
theorem wpL_drop {d : Option Tmp} {p : World → Prop} (hf : freshL L d = true) (h : wpL P ops E w0 G Q rest a L) : wpG P ops E w0 G Q rest a (updF (FL L) d p) := by
  refine wpG_mono _ _ _ _ (fun t W _ hF => ?_) h
  unfold updF at hF
  by_cases hd : d = some t
  · subst hd
    exact FL_fresh L t W hf
  · rwa [if_neg hd] at hF
theorem wpL_nil (h : ∀ W, E w0 W → (∀ t, FL L t W) → Q a W) : wpL P ops E w0 G Q [] a L := h
theorem wpL_skip (hw : Region.wanted o (yielded ops a.tmps) = false) (hf : freshL L o.dst = true) (h : wpL P ops E w0 G Q rest (a.put o.dst undef) L) : wpL P ops E w0 G Q (o :: rest) a L := by
  show wpG1 P ops E w0 G o (wpG P ops E w0 G Q rest) a (FL L)
  unfold wpG1
  rw [if_neg (by rw [hw]; exact Bool.false_ne_true)]
  exact wpL_drop hf h
theorem wpL_quiet (hw : Region.wanted o (yielded ops a.tmps) = true) (hg : gOf G o = none) (hf : freshL L o.dst = true) (h : ∃ v, (∀ W, E w0 W → Sees ops o (FL L) W → o.quietAt P a (fun _ => False) W v) ∧ wpL P ops E w0 G Q rest (a.put o.dst v) L) : wpL P ops E w0 G Q (o :: rest) a L := by
  show wpG1 P ops E w0 G o (wpG P ops E w0 G Q rest) a (FL L)
  obtain ⟨v, h1, h2⟩ := h
  unfold wpG1
  rw [if_pos hw, hg]
  exact ⟨v, h1, wpL_drop hf h2⟩
theorem wpL_grow {φ : Value → World → Prop} {d : Tmp} (hw : Region.wanted o (yielded ops a.tmps) = true) (hd : o.dst = some d) (hg : G d = some φ) (h1 : ∀ W, E w0 W → Sees ops o (FL L) W → growAt P o a E φ W)
    (h2 : ∀ v W', E w0 W' → φ v W' → wpL P ops E w0 G Q rest (a.put o.dst v) ((d, φ v) :: L)) : wpL P ops E w0 G Q (o :: rest) a L := by
  show wpG1 P ops E w0 G o (wpG P ops E w0 G Q rest) a (FL L)
  unfold wpG1
  rw [if_pos hw]
  have : gOf G o = some φ := by unfold gOf; rw [hd]; exact hg
  rw [this]
  refine ⟨h1, fun v ⟨W', h0, hφ⟩ => wpG_mono _ _ _ _ (fun t W _ hF => ?_) (h2 v W' h0 hφ)⟩
  rw [hd] at hF
  unfold updF at hF
  unfold FL
  by_cases he : d = t
  · rw [if_pos he]; rwa [if_pos (by rw [he])] at hF
  · rw [if_neg he]; rwa [if_neg (fun h => he (Option.some.inj h))] at hF
/-- A call whose result does not hang on memory. -/
theorem wpL_call {d : Tmp} {u : Value} (hw : Region.wanted o (yielded ops a.tmps) = true) (hd : o.dst = some d) (hg : G d = some fun v _ => v = u) (hf : freshL L o.dst = true) (h1 : ∀ W, E w0 W → Sees ops o (FL L) W → growAt P o a E (fun v _ => v = u) W)
    (h2 : wpL P ops E w0 G Q rest (a.put o.dst u) L) : wpL P ops E w0 G Q (o :: rest) a L := by
  refine wpL_grow hw hd hg h1 fun v W' _ hv => ?_
  subst hv
  refine wpG_mono _ _ _ _ (fun t W _ hF => ?_) h2
  unfold FL at hF
  by_cases he : d = t
  · subst he
    rw [hd] at hf
    exact FL_fresh L d W hf
  · rwa [if_neg he] at hF
theorem wpL_bool {B : Bool} {d : Option Tmp} (h1 : B = true → wpL P ops E w0 G Q rest (a.put d (.bool true)) L) (h2 : B = false → wpL P ops E w0 G Q rest (a.put d (.bool false)) L) : wpL P ops E w0 G Q rest (a.put d (.bool B)) L := by
  cases B
  · exact h2 rfl
  · exact h1 rfl
theorem wpL_boolT {d : Option Tmp} (h : wpL P ops E w0 G Q rest (a.put d (.bool true)) L) : wpL P ops E w0 G Q rest (a.put d (.bool true)) L := h
theorem wpL_boolF {d : Option Tmp} (h : wpL P ops E w0 G Q rest (a.put d (.bool false)) L) : wpL P ops E w0 G Q rest (a.put d (.bool false)) L := h
theorem wp_region_L {id : Nat} {Q : Exit → Act → World → Prop} {a : Act} {w : World} {l : List Oper} (hrefl : ∀ W, E W W) (htr : ∀ {A B C}, E A B → E B C → E A C) (hm : P.follows .mixedOrders = true) (hB : Region.lexB .any l.toArray = true)
    (hG : ∀ t φ, G t = some φ → ∀ v W W', E W W' → φ v W → φ v W') (hE : E w0 { w with drawn := w.drawn + 1 })
    (h : wpL P l.toArray E w0 G (fun a W => Q .normal a W) l a []) : (Code.region id l.toArray true).wp P Q a w :=
  wp_region_grow hrefl htr hm hB hG hE (wpG_mono _ _ _ _ (fun _ _ _ _ => trivial) h)
attribute [irreducible] wpL
/-- A name for the world at hand, with what is known of it. -/
theorem name_wp {c : Code} {Q : Exit → Act → World → Prop} {a : Act} {W : World} (p : World → Prop) (hp : p W) (h : ∀ w, p w → c.wp P Q a w) : c.wp P Q a W := h W hp
theorem name_calls {f : FuncId} {args : Array Value} {R : Ending → World → Prop} {W : World} (p : World → Prop) (hp : p W) (h : ∀ w, p w → Calls P f args w R) : Calls P f args W R := h W hp
end
end Go.Proofs.Ytnglhofegajbiaa
