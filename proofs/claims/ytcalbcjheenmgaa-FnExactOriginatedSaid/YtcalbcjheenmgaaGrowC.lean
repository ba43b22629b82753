/- A region that draws its order, whose operations only make memory grow but for a tail that waits for all the others; the chained operations (calls) run in the text's order, so that their worlds have names. One walk in the text's order, then the tail as a list. No conditions. -/
import Derived.Test.YtcalbcjheenmgaaGrowT
namespace Go.Proofs.Ytcalbcjheenmgaa
open Go
section
variable {P : Program} {ops : Array Oper} {E : World → World → Prop} {w0 : World} {G : Tmp → Option (Value → World → Prop)} {C : Tmp → Option (Value → World → World → Prop)}

def cOf (C : Tmp → Option (Value → World → World → Prop)) (o : Oper) : Option (Value → World → World → Prop) := o.dst.bind C
def isC (C : Tmp → Option (Value → World → World → Prop)) (ops : Array Oper) (j : Nat) : Bool := match ops[j]? with
  | some o => (cOf C o).isSome
  | none => false
def prevC (C : Tmp → Option (Value → World → World → Prop)) (ops : Array Oper) : Nat → Option Nat
  | 0 => none
  | j + 1 => if isC C ops j then some j else prevC C ops j
def edgeB (md : Region.Mode) (ops : Array Oper) (j i : Nat) : Bool := match ops[j]? with
  | some o => o.after.toList.any fun e => Region.binds md e && (e.on == i)
  | none => false
def chainedB (md : Region.Mode) (C : Tmp → Option (Value → World → World → Prop)) (ops : Array Oper) (n : Nat) : Bool := (List.range n).all fun j => !isC C ops j || match prevC C ops j with
  | some p => edgeB md ops j p
  | none => true
theorem prevC_spec : ∀ (j : Nat), (∀ p, prevC C ops j = some p → p < j ∧ isC C ops p = true ∧ ∀ i, p < i → i < j → isC C ops i = false) ∧ (prevC C ops j = none → ∀ i, i < j → isC C ops i = false)
  | 0 => ⟨fun p h => (by cases h), fun _ i h => (by omega)⟩
  | j + 1 => by
    obtain ⟨h1, h2⟩ := prevC_spec j
    unfold prevC
    cases hj : isC C ops j
    · refine ⟨fun p hp => ?_, fun hn i hi => ?_⟩
      · simp only [Bool.false_eq_true, if_false] at hp
        obtain ⟨a, b, c⟩ := h1 p hp
        refine ⟨by omega, b, fun i hi hij => ?_⟩
        rcases Nat.lt_succ_iff_lt_or_eq.1 hij with h | h
        · exact c i hi h
        · rw [h]; exact hj
      · simp only [Bool.false_eq_true, if_false] at hn
        rcases Nat.lt_succ_iff_lt_or_eq.1 hi with h | h
        · exact h2 hn i h
        · rw [h]; exact hj
    · refine ⟨fun p hp => ?_, fun hn => ?_⟩
      · simp only [if_true] at hp
        cases hp
        exact ⟨by omega, hj, fun i hi hij => by omega⟩
      · simp at hn
theorem chain_done {md : Region.Mode} {n : Nat} {listed : Array Bool} (hc : chainedB md C ops n = true) (inv : HeadInv md ops n listed) : ∀ (j : Nat) (oj : Oper), j < n → ops[j]? = some oj → isC C ops j = true → (∀ e ∈ oj.after, Region.binds md e = true → listed.getD e.on false = true) → ∀ i, i < j → isC C ops i = true → listed.getD i false = true := by
  intro j
  induction j using Nat.strongRecOn with
  | _ j ih =>
    intro oj hjn hoj hj hall i hij hi
    have hcj := List.all_eq_true.1 hc j (List.mem_range.2 hjn)
    rw [hj] at hcj
    obtain ⟨p1, p2⟩ := prevC_spec (C := C) (ops := ops) j
    cases hp : prevC C ops j with
    | none => have := p2 hp i hij; rw [this] at hi; cases hi
    | some p =>
      rw [hp] at hcj
      obtain ⟨hpj, hpc, hbt⟩ := p1 p hp
      simp only [Bool.not_true, Bool.false_or, edgeB, hoj] at hcj
      obtain ⟨e, he, hb⟩ := List.any_eq_true.1 hcj
      simp only [Bool.and_eq_true, beq_iff_eq] at hb
      have hlp : listed.getD p false = true := by rw [← hb.2]; exact hall e (by simpa using he) hb.1
      rcases Nat.lt_trichotomy i p with h | h | h
      · obtain ⟨op, hop⟩ : ∃ o, ops[p]? = some o := by
          unfold isC at hpc
          cases ho : ops[p]? with
          | none => rw [ho] at hpc; cases hpc
          | some o => exact ⟨o, rfl⟩
        exact ih p hpj op (by omega) hop hpc (inv.closed p op hop hlp) i h hi
      · rw [h]; exact hlp
      · have := hbt i h hij; rw [this] at hi; cases hi

def wpC1 (P : Program) (ops : Array Oper) (E : World → World → Prop) (w0 : World) (G : Tmp → Option (Value → World → Prop)) (C : Tmp → Option (Value → World → World → Prop)) (o : Oper) (K : Act → (Tmp → World → Prop) → World → Prop) (a : Act) (F : Tmp → World → Prop) (Wp : World) : Prop :=
  if Region.wanted o (yielded ops a.tmps) = true then
    match cOf C o with
    | some ψ => (∀ W, E Wp W → Sees ops o F W → growAt P o a E (fun v W' => ψ v W W') W) ∧ ∀ v W W', E Wp W → E W W' → ψ v W W' → K (a.put o.dst v) (updF F o.dst fun _ => True) W'
    | none => match gOf G o with
      | some φ => (∀ W, E w0 W → Sees ops o F W → growAt P o a E φ W) ∧ ∀ v, (∃ W, E w0 W ∧ φ v W) → K (a.put o.dst v) (updF F o.dst (φ v)) Wp
      | none => ∃ v, (∀ W, E w0 W → Sees ops o F W → o.quietAt P a (fun _ => False) W v) ∧ K (a.put o.dst v) (updF F o.dst (Sees ops o F)) Wp
  else K (a.put o.dst undef) (updF F o.dst fun _ => True) Wp
def wpC (P : Program) (ops : Array Oper) (E : World → World → Prop) (w0 : World) (G : Tmp → Option (Value → World → Prop)) (C : Tmp → Option (Value → World → World → Prop)) (Q : Act → World → Prop) : List Oper → Act → (Tmp → World → Prop) → World → Prop
  | [], a, F, Wp => ∀ W, E Wp W → (∀ t, F t W) → Q a W
  | o :: l, a, F, Wp => wpC1 P ops E w0 G C o (wpC P ops E w0 G C Q l) a F Wp

theorem ResG.baseC {o : Oper} {a : Act} {F : Tmp → World → Prop} {v : Value} {p : World → Prop} {Wp : World} {K : Act → (Tmp → World → Prop) → World → Prop} (hc : cOf C o = none) (hr : ResG P ops E w0 G o a F v p) (h : wpC1 P ops E w0 G C o K a F Wp) : K (a.put o.dst v) (updF F o.dst p) Wp := by
  unfold wpC1 at h
  rw [hc] at h
  rcases hr with ⟨hw, hg, rfl, W, hW, hS, hq⟩ | ⟨hw, φ, hg, rfl, hW⟩ | ⟨hw, rfl, rfl⟩
  · rw [if_pos hw, hg] at h
    obtain ⟨v', h1, h2⟩ := h
    rw [quiet_det hq (h1 W hW hS)]
    exact h2
  · rw [if_pos hw, hg] at h
    exact h.2 v hW
  · rw [if_neg (by rw [hw]; exact Bool.false_ne_true)] at h
    exact h
theorem wpC1_put {oi : Oper} {a : Act} {F : Tmp → World → Prop} {Wp : World} {d : Option Tmp} {u : Value} {q : World → Prop} (hd : ∀ x, d = some x → x ∉ oi.looksAt ops) (hs : ∀ cs b, oi.op ≠ .select cs b) {K K' : Act → (Tmp → World → Prop) → World → Prop}
    (h : wpC1 P ops E w0 G C oi K a F Wp) (hk : ∀ v p Wq, K (a.put oi.dst v) (updF F oi.dst p) Wq → K' ((a.put d u).put oi.dst v) (updF (updF F d q) oi.dst p) Wq) : wpC1 P ops E w0 G C oi K' (a.put d u) (updF F d q) Wp := by
  unfold wpC1 growAt Oper.quietAt at *
  rw [updF_sees hd, wanted_put oi a d u hd, execOp_put oi hs a d u hd]
  by_cases hw : Region.wanted oi (yielded ops a.tmps) = true
  · rw [if_pos hw] at h ⊢
    cases hc : cOf C oi with
    | some ψ =>
      rw [hc] at h
      exact ⟨h.1, fun v W W' h1 h2 h3 => hk _ _ _ (h.2 v W W' h1 h2 h3)⟩
    | none =>
      rw [hc] at h
      cases hg : gOf G oi with
      | some φ =>
        rw [hg] at h
        exact ⟨h.1, fun v hv => hk _ _ _ (h.2 v hv)⟩
      | none =>
        rw [hg] at h
        obtain ⟨v, h1, h2⟩ := h
        exact ⟨v, h1, hk _ _ _ h2⟩
  · rw [if_neg hw] at h ⊢
    exact hk _ _ _ h
/-- The same where the world behind the last chained operation turns, too: for an operation that is none. -/
theorem wpC1_putC {oi : Oper} {a : Act} {F : Tmp → World → Prop} {Wp Wr : World} {d : Option Tmp} {u : Value} {q : World → Prop} (hc : cOf C oi = none) (hd : ∀ x, d = some x → x ∉ oi.looksAt ops) (hs : ∀ cs b, oi.op ≠ .select cs b) {K K' : Act → (Tmp → World → Prop) → World → Prop}
    (h : wpC1 P ops E w0 G C oi K a F Wp) (hk : ∀ v p, K (a.put oi.dst v) (updF F oi.dst p) Wp → K' ((a.put d u).put oi.dst v) (updF (updF F d q) oi.dst p) Wr) : wpC1 P ops E w0 G C oi K' (a.put d u) (updF F d q) Wr := by
  unfold wpC1 growAt Oper.quietAt at *
  rw [updF_sees hd, wanted_put oi a d u hd, execOp_put oi hs a d u hd, hc]
  rw [hc] at h
  by_cases hw : Region.wanted oi (yielded ops a.tmps) = true
  · rw [if_pos hw] at h ⊢
    cases hg : gOf G oi with
    | some φ =>
      rw [hg] at h
      exact ⟨h.1, fun v hv => hk _ _ (h.2 v hv)⟩
    | none =>
      rw [hg] at h
      obtain ⟨v, h1, h2⟩ := h
      exact ⟨v, h1, hk _ _ h2⟩
  · rw [if_neg hw] at h ⊢
    exact hk _ _ h
theorem wpC_pull {Q : Act → World → Prop} {oj : Oper} {v : Value} {p : World → Prop} (hcj : cOf C oj = none) (hsj : ∀ cs b, oj.op ≠ .select cs b) : ∀ (l1 l2 : List Oper) (a : Act) (F : Tmp → World → Prop) (Wp : World), (∀ oi ∈ l1, oi.apart ops oj = true ∧ ∀ cs b, oi.op ≠ .select cs b) →
    wpC P ops E w0 G C Q (l1 ++ oj :: l2) a F Wp → ResG P ops E w0 G oj a F v p → wpC P ops E w0 G C Q (l1 ++ l2) (a.put oj.dst v) (updF F oj.dst p) Wp
  | [], _, _, _, _, _, h, hr => hr.baseC hcj h
  | oi :: l1, l2, a, F, Wp, hap, h, hr => by
    obtain ⟨hh, hsi⟩ := hap oi (List.mem_cons_self ..)
    obtain ⟨h1, h2, h3⟩ := Oper.apart_spec hh
    refine wpC1_put h3 hsi (K := wpC P ops E w0 G C Q (l1 ++ oj :: l2)) h fun vi pi Wq hK => ?_
    have := wpC_pull hcj hsj l1 l2 _ _ _ (fun o ho => hap o (List.mem_cons_of_mem _ ho)) hK (hr.put h1 hsj)
    rw [Act.put_comm a vi v h2, updF_comm pi p h2] at this
    exact this
theorem wpC_pullC {Q : Act → World → Prop} {oj : Oper} {v : Value} {ψ : Value → World → World → Prop} {W W' : World} (hcj : cOf C oj = some ψ) (hsj : ∀ cs b, oj.op ≠ .select cs b) : ∀ (l1 l2 : List Oper) (a : Act) (F : Tmp → World → Prop) (Wp : World), (∀ oi ∈ l1, oi.apart ops oj = true ∧ ∀ cs b, oi.op ≠ .select cs b) → (∀ oi ∈ l1, cOf C oi = none) →
    wpC P ops E w0 G C Q (l1 ++ oj :: l2) a F Wp → Region.wanted oj (yielded ops a.tmps) = true → E Wp W → E W W' → ψ v W W' → wpC P ops E w0 G C Q (l1 ++ l2) (a.put oj.dst v) (updF F oj.dst fun _ => True) W'
  | [], l2, a, F, Wp, _, _, h, hw, h1, h2, h3 => by
    have h : wpC1 P ops E w0 G C oj (wpC P ops E w0 G C Q l2) a F Wp := h
    unfold wpC1 at h
    rw [if_pos hw, hcj] at h
    exact h.2 v W W' h1 h2 h3
  | oi :: l1, l2, a, F, Wp, hap, hcn, h, hw, g1, g2, g3 => by
    obtain ⟨hh, hsi⟩ := hap oi (List.mem_cons_self ..)
    obtain ⟨h1, h2, h3⟩ := Oper.apart_spec hh
    refine wpC1_putC (hcn oi (List.mem_cons_self ..)) h3 hsi (K := wpC P ops E w0 G C Q (l1 ++ oj :: l2)) h fun vi pi hK => ?_
    have := wpC_pullC hcj hsj l1 l2 _ _ _ (fun o ho => hap o (List.mem_cons_of_mem _ ho)) (fun o ho => hcn o (List.mem_cons_of_mem _ ho)) hK (by rw [wanted_put oj a _ _ h1]; exact hw) g1 g2 g3
    rw [Act.put_comm a vi v h2, updF_comm pi _ h2] at this
    exact this
def SafeC (P : Program) (ops : Array Oper) (E : World → World → Prop) (w0 : World) (G : Tmp → Option (Value → World → Prop)) (C : Tmp → Option (Value → World → World → Prop)) (o : Oper) (a : Act) (F : Tmp → World → Prop) (W : World) : Prop :=
  Region.wanted o (yielded ops a.tmps) = true → match cOf C o with
    | some ψ => Sees ops o F W → growAt P o a E (fun v W' => ψ v W W') W
    | none => match gOf G o with
      | some φ => ∀ W, E w0 W → Sees ops o F W → growAt P o a E φ W
      | none => ∃ v, ∀ W, E w0 W → Sees ops o F W → o.quietAt P a (fun _ => False) W v
theorem SafeC.put {oj : Oper} {a : Act} {F : Tmp → World → Prop} {W : World} {d : Option Tmp} {u : Value} {q : World → Prop} (hd : ∀ x, d = some x → x ∉ oj.looksAt ops) (hs : ∀ cs b, oj.op ≠ .select cs b)
    (h : SafeC P ops E w0 G C oj (a.put d u) (updF F d q) W) : SafeC P ops E w0 G C oj a F W := by
  unfold SafeC growAt Oper.quietAt at *
  rwa [updF_sees hd, wanted_put oj a d u hd, execOp_put oj hs a d u hd] at h
/-- A safe operation, taken out of its place. W: the world at hand. -/
theorem wpC_safe {Q : Act → World → Prop} {oj : Oper} (hrefl : ∀ W, E W W) (htr : ∀ {A B C}, E A B → E B C → E A C) (hG : ∀ t φ, G t = some φ → ∀ v W W', E W W' → φ v W → φ v W') (hsj : ∀ cs b, oj.op ≠ .select cs b) :
    ∀ (l1 l2 : List Oper) (a : Act) (F : Tmp → World → Prop) (Wp W : World), (∀ oi ∈ l1, oi.apart ops oj = true ∧ ∀ cs b, oi.op ≠ .select cs b) → UpF E w0 F → E w0 Wp → E Wp W → (∀ t, F t W) →
    wpC P ops E w0 G C Q (l1 ++ oj :: l2) a F Wp → (∃ W', E W W' ∧ SafeC P ops E w0 G C oj a F W') ∧ ((∀ oi ∈ l1, cOf C oi = none) → ∀ W', E Wp W' → SafeC P ops E w0 G C oj a F W')
  | [], l2, a, F, Wp, W, _, _, _, hpW, _, h => by
    have h : wpC1 P ops E w0 G C oj (wpC P ops E w0 G C Q l2) a F Wp := h
    have hh : ∀ W', E Wp W' → SafeC P ops E w0 G C oj a F W' := by
      intro W' hpW' hw
      unfold wpC1 at h
      rw [if_pos hw] at h
      cases hc : cOf C oj with
      | some ψ => rw [hc] at h; exact h.1 W' hpW'
      | none =>
        rw [hc] at h
        cases hg : gOf G oj with
        | some φ => rw [hg] at h; exact h.1
        | none => rw [hg] at h; obtain ⟨v, h1, _⟩ := h; exact ⟨v, h1⟩
    exact ⟨⟨W, hrefl W, hh W hpW⟩, fun _ => hh⟩
  | oi :: l1, l2, a, F, Wp, W, hap, hu, h0p, hpW, hF, h => by
    obtain ⟨hh, hsi⟩ := hap oi (List.mem_cons_self ..)
    obtain ⟨h1, h2, h3⟩ := Oper.apart_spec hh
    have h : wpC1 P ops E w0 G C oi (wpC P ops E w0 G C Q (l1 ++ oj :: l2)) a F Wp := h
    have hap' : ∀ o ∈ l1, o.apart ops oj = true ∧ ∀ cs b, o.op ≠ .select cs b := fun o ho => hap o (List.mem_cons_of_mem _ ho)
    have h0 : E w0 W := htr h0p hpW
    have hlift : ∀ {d : Option Tmp} {u : Value} {q : World → Prop} {V : World}, (∀ x, d = some x → x ∉ oj.looksAt ops) → E W V → ((∃ W', E V W' ∧ SafeC P ops E w0 G C oj (a.put d u) (updF F d q) W') ∧ ((∀ o ∈ l1, cOf C o = none) → ∀ W', E Wp W' → SafeC P ops E w0 G C oj (a.put d u) (updF F d q) W')) →
        (∃ W', E W W' ∧ SafeC P ops E w0 G C oj a F W') ∧ ((∀ o ∈ oi :: l1, cOf C o = none) → ∀ W', E Wp W' → SafeC P ops E w0 G C oj a F W') := by
      intro d u q V hd hV hx
      obtain ⟨⟨W', hE, hS⟩, hx2⟩ := hx
      exact ⟨⟨W', htr hV hE, hS.put hd hsj⟩, fun hn W' hW' => (hx2 (fun o ho => hn o (List.mem_cons_of_mem _ ho)) W' hW').put hd hsj⟩
    unfold wpC1 at h
    by_cases hw : Region.wanted oi (yielded ops a.tmps) = true
    · rw [if_pos hw] at h
      cases hc : cOf C oi with
      | some ψ =>
        rw [hc] at h
        obtain ⟨v, W', hE, hφ⟩ := grow_some (h.1 W hpW fun t _ => hF t)
        have hrec := wpC_safe hrefl htr hG hsj l1 l2 _ _ W' W' hap' (hu.upd fun _ _ _ _ h => h) (htr h0 hE) (hrefl W') (fun t => ?_) (h.2 v W W' hpW hE hφ)
        · obtain ⟨⟨W'', hE2, hS⟩, _⟩ := hrec
          exact ⟨⟨W'', htr hE hE2, hS.put h1 hsj⟩, fun hn => by have := hn oi (List.mem_cons_self ..); rw [hc] at this; cases this⟩
        · unfold updF
          by_cases hd : oi.dst = some t
          · rw [if_pos hd]; trivial
          · rw [if_neg hd]; exact hu t W W' h0 hE (hF t)
      | none =>
        rw [hc] at h
        cases hg : gOf G oi with
        | some φ =>
          rw [hg] at h
          obtain ⟨v, W', hE, hφ⟩ := grow_some (h.1 W h0 fun t _ => hF t)
          have hst : ∀ u A B, E A B → φ u A → φ u B := by
            unfold gOf at hg
            cases hd : oi.dst with
            | none => rw [hd] at hg; cases hg
            | some d => rw [hd] at hg; exact hG d φ hg
          refine hlift h1 hE (wpC_safe hrefl htr hG hsj l1 l2 _ _ Wp W' hap' (hu.upd fun A B _ hAB => hst v A B hAB) h0p (htr hpW hE) (fun t => ?_) (h.2 v ⟨W', htr h0 hE, hφ⟩))
          unfold updF
          by_cases hd : oi.dst = some t
          · rw [if_pos hd]; exact hφ
          · rw [if_neg hd]; exact hu t W W' h0 hE (hF t)
        | none =>
          rw [hg] at h
          obtain ⟨v, hq, hr⟩ := h
          refine hlift h1 (hrefl W) (wpC_safe hrefl htr hG hsj l1 l2 _ _ Wp W hap' (hu.upd (hu.sees oi)) h0p hpW (fun t => ?_) hr)
          unfold updF
          by_cases hd : oi.dst = some t
          · rw [if_pos hd]; exact fun t _ => hF t
          · rw [if_neg hd]; exact hF t
    · rw [if_neg hw] at h
      refine hlift h1 (hrefl W) (wpC_safe hrefl htr hG hsj l1 l2 _ _ Wp W hap' (hu.upd fun _ _ _ _ h => h) h0p hpW (fun t => ?_) h)
      unfold updF
      by_cases hd : oi.dst = some t
      · rw [if_pos hd]; trivial
      · rw [if_neg hd]; exact hF t
/-- An operation that is not wanted, taken out of its place. -/
theorem wpC_pullS {Q : Act → World → Prop} {oj : Oper} (hsj : ∀ cs b, oj.op ≠ .select cs b) : ∀ (l1 l2 : List Oper) (a : Act) (F : Tmp → World → Prop) (Wp : World), (∀ oi ∈ l1, oi.apart ops oj = true ∧ ∀ cs b, oi.op ≠ .select cs b) →
    wpC P ops E w0 G C Q (l1 ++ oj :: l2) a F Wp → Region.wanted oj (yielded ops a.tmps) = false → wpC P ops E w0 G C Q (l1 ++ l2) (a.put oj.dst undef) (updF F oj.dst fun _ => True) Wp
  | [], l2, a, F, Wp, _, h, hw => by
    have h : wpC1 P ops E w0 G C oj (wpC P ops E w0 G C Q l2) a F Wp := h
    unfold wpC1 at h
    rw [if_neg (by rw [hw]; exact Bool.false_ne_true)] at h
    exact h
  | oi :: l1, l2, a, F, Wp, hap, h, hw => by
    obtain ⟨hh, hsi⟩ := hap oi (List.mem_cons_self ..)
    obtain ⟨h1, h2, h3⟩ := Oper.apart_spec hh
    refine wpC1_put h3 hsi (K := wpC P ops E w0 G C Q (l1 ++ oj :: l2)) h fun vi pi Wq hK => ?_
    have := wpC_pullS hsj l1 l2 _ _ _ (fun o ho => hap o (List.mem_cons_of_mem _ ho)) hK (by rw [wanted_put oj a _ _ h1]; exact hw)
    rw [Act.put_comm a vi undef h2, updF_comm pi _ h2] at this
    exact this
theorem wpC_anyT {md : Region.Mode} {Q : Exit → Act → World → Prop} {n : Nat} {tl : List Oper} (hrefl : ∀ W, E W W) (htr : ∀ {A B C}, E A B → E B C → E A C) (hG : ∀ t φ, G t = some φ → ∀ v W W', E W W' → φ v W → φ v W') (hs : Region.noSelect ops = true)
    (hsink : Region.sinkB md ops n = true) (hchain : Region.chainB md ops n = true) (hcc : chainedB md C ops n = true) (hn : n < ops.size) (hseq : Region.seqB md ops tl.length n ((List.replicate n true ++ List.replicate (ops.size - n) false).toArray) = true) (htl : ∀ j, tl[j]? = ops[n + j]?)
    (hlex : ∀ i oi, ops[i]? = some oi → (∀ e ∈ oi.after, Region.binds md e = true → e.on < i) ∧ ∀ j oj, i < j → ops[j]? = some oj → (∀ e ∈ oj.after, Region.binds md e = true → e.on ≠ i) → oi.apart ops oj = true) :
    ∀ (fuel : Nat) (r : List (Nat × Oper)) (listed : Array Bool) (a : Act) (F : Tmp → World → Prop) (Wp W : World), r.length = fuel → HeadInv md ops n listed → (∀ x ∈ r, ops[x.1]? = some x.2 ∧ x.1 < n) → (∀ j, j < n → (listed.getD j true = false ↔ ∃ o, (j, o) ∈ r)) → r.Pairwise (fun x y => x.1 < y.1) →
      UpF E w0 F → E w0 Wp → E Wp W → (∀ t, F t W) → wpC P ops E w0 G C (fun a W => wpList P ops Q tl a W) (r.map (·.2)) a F Wp → wpAny P md ops Q (fuel + tl.length) listed a W := by
  intro fuel
  induction fuel with
  | zero =>
    intro r listed a F Wp W hl hinv _ hm _ _ h0p hpW hF h
    obtain rfl : r = [] := List.eq_nil_of_length_eq_zero hl
    rw [Nat.zero_add]
    have hcan : listed = (List.replicate n true ++ List.replicate (ops.size - n) false).toArray := by
      have hz := hinv.size
      refine Array.ext (by simp; omega) fun i hi hi' => ?_
      simp only [List.getElem_toArray, List.getElem_append, List.length_replicate, List.getElem_replicate]
      by_cases hin : i < n
      · rw [dif_pos hin]
        have : ¬ listed.getD i true = false := fun hf => by
          obtain ⟨o, ho⟩ := (hm i hin).1 hf
          cases ho
        simp only [Array.getD_eq_getD_getElem?, Array.getElem?_eq_getElem hi, Option.getD_some] at this
        simpa using this
      · rw [dif_neg hin]
        have := hinv.tail i (by omega) (by omega)
        simpa only [Array.getD_eq_getD_getElem?, Array.getElem?_eq_getElem hi, Option.getD_some] using this
    exact wpAny_of_seq tl n listed a W htl (by rw [hcan]; exact hseq) (h W hpW hF)
  | succ fuel ih =>
    intro r listed a F Wp W hl hinv hop hm hp hu h0p hpW hF h
    have h0 : E w0 W := htr h0p hpW
    have hz := hinv.size
    rw [show fuel + 1 + tl.length = (fuel + tl.length) + 1 by omega]
    refine ⟨fun hr => ?_, fun j hj => ?_⟩
    · exfalso
      obtain ⟨⟨i, oi⟩, r, rfl⟩ : ∃ x r', r = x :: r' := by
        cases r with
        | nil => cases hl
        | cons x r => exact ⟨x, r, rfl⟩
      obtain ⟨hi, hin0⟩ := hop (i, oi) (List.mem_cons_self ..)
      have hi : ops[i]? = some oi := hi
      have hin0 : i < n := hin0
      have : i ∈ Region.ready md ops listed := by
        refine mem_ready.2 ⟨(hm i hin0).2 ⟨oi, List.mem_cons_self ..⟩, oi, hi, fun e he hb => ?_⟩
        have hlt := (hlex i oi hi).1 e he hb
        have hin : i < ops.size := (Array.getElem?_eq_some_iff.1 hi).1
        have hne : ¬ listed.getD e.on true = false := fun hf => by
          obtain ⟨o, ho⟩ := (hm e.on (by omega)).1 hf
          rcases List.mem_cons.1 ho with ho | ho
          · cases ho; omega
          · have := (List.pairwise_cons.1 hp).1 _ ho
            simp only at this
            omega
        have hsz : e.on < listed.size := by omega
        simp only [Array.getD_eq_getD_getElem?, Array.getElem?_eq_getElem hsz, Option.getD_some] at hne ⊢
        simpa using hne
      rw [hr] at this
      cases this
    · obtain ⟨hun, oj, hoj, hall⟩ := mem_ready.1 hj
      have hjn : j < n := by
        rcases Nat.lt_or_ge j n with h' | h'
        · exact h'
        · obtain ⟨⟨i, oi⟩, r, rfl⟩ : ∃ x r', r = x :: r' := by
            cases r with
            | nil => cases hl
            | cons x r => exact ⟨x, r, rfl⟩
          have hin0 : i < n := (hop (i, oi) (List.mem_cons_self ..)).2
          exact absurd hj (tail_waits hsink hchain hn hinv _ i rfl hin0 ((hm i hin0).2 ⟨oi, List.mem_cons_self ..⟩) j h')
      obtain ⟨oj', hmem⟩ := (hm j hjn).1 hun
      obtain rfl : oj' = oj := by have := (hop _ hmem).1; rw [hoj] at this; exact (Option.some.inj this).symm
      obtain ⟨r1, r2, rfl⟩ := List.append_of_mem hmem
      have hsel := Region.noSelect_spec hs
      have hsj : ∀ cs b, oj'.op ≠ .select cs b := fun cs b => hsel j oj' cs b hoj
      have hap : ∀ oi ∈ r1.map (·.2), oi.apart ops oj' = true ∧ ∀ cs b, oi.op ≠ .select cs b := by
        intro oi hoi
        obtain ⟨⟨i, oi'⟩, hxm, hx2⟩ := List.mem_map.1 hoi
        simp only at hx2
        subst hx2
        have hi : ops[i]? = some oi' := (hop (i, oi') (List.mem_append_left _ hxm)).1
        have hin0 : i < n := (hop (i, oi') (List.mem_append_left _ hxm)).2
        have hij : i < j := (List.pairwise_append.1 hp).2.2 _ hxm _ (List.mem_cons_self ..)
        refine ⟨(hlex i oi' hi).2 j oj' hij hoj fun e he hb heq => ?_, fun cs b => hsel i oi' cs b hi⟩
        have h1 := hall e he hb
        have h2 := (hm i hin0).2 ⟨oi', List.mem_append_left _ hxm⟩
        rw [heq] at h1
        have hin : i < ops.size := (Array.getElem?_eq_some_iff.1 hi).1
        have hsz : i < listed.size := by omega
        simp only [Array.getD_eq_getD_getElem?, Array.getElem?_eq_getElem hsz, Option.getD_some] at h1 h2
        rw [h1] at h2
        cases h2
      rw [List.map_append, List.map_cons] at h
      have hsafe := wpC_safe hrefl htr hG hsj _ _ a F Wp W hap hu h0p hpW hF h
      have hj' : j < listed.size := by rw [hz]; exact (Array.getElem?_eq_some_iff.1 hoj).1
      have hrest : ∀ (v : Value) (p : World → Prop) (Wq W' : World), E w0 Wq → E Wq W' → E W W' → p W' → (∀ A B, E w0 A → E A B → p A → p B) → wpC P ops E w0 G C (fun a W => wpList P ops Q tl a W) (r1.map (·.2) ++ r2.map (·.2)) (a.put oj'.dst v) (updF F oj'.dst p) Wq → wpAny P md ops Q (fuel + tl.length) (listed.setIfInBounds j true) (a.put oj'.dst v) W' := by
        intro v p Wq W' h0q hqW hE hpW' hpu hwp
        refine ih (r1 ++ r2) _ _ (updF F oj'.dst p) Wq W' ?_ (hinv.set hj hjn) (fun x hx => hop x ?_) (fun k hkn => ?_) ?_ (hu.upd hpu) h0q hqW (fun t => ?_) ?_
        · simp only [List.length_append, List.length_cons] at hl ⊢; omega
        · rcases List.mem_append.1 hx with hx | hx
          · exact List.mem_append_left _ hx
          · exact List.mem_append_right _ (List.mem_cons_of_mem _ hx)
        · by_cases hjk : j = k
          · subst hjk
            constructor
            · intro hk
              simp [Array.getD_eq_getD_getElem?, hj'] at hk
            · rintro ⟨o, ho⟩
              exfalso
              have hpp := List.pairwise_append.1 hp
              rcases List.mem_append.1 ho with ho | ho
              · have := hpp.2.2 _ ho _ (List.mem_cons_self ..)
                simp only at this; omega
              · have := (List.pairwise_cons.1 hpp.2.1).1 _ ho
                simp only at this; omega
          · rw [getD_set_ne true hjk, hm k hkn]
            constructor
            · rintro ⟨o, ho⟩
              rcases List.mem_append.1 ho with ho | ho
              · exact ⟨o, List.mem_append_left _ ho⟩
              · rcases List.mem_cons.1 ho with ho | ho
                · cases ho; exact absurd rfl hjk
                · exact ⟨o, List.mem_append_right _ ho⟩
            · rintro ⟨o, ho⟩
              rcases List.mem_append.1 ho with ho | ho
              · exact ⟨o, List.mem_append_left _ ho⟩
              · exact ⟨o, List.mem_append_right _ (List.mem_cons_of_mem _ ho)⟩
        · have hpp := List.pairwise_append.1 hp
          exact List.pairwise_append.2 ⟨hpp.1, (List.pairwise_cons.1 hpp.2.1).2, fun x hx y hy => hpp.2.2 x hx y (List.mem_cons_of_mem _ hy)⟩
        · unfold updF
          by_cases hd : oj'.dst = some t
          · rw [if_pos hd]; exact hpW'
          · rw [if_neg hd]; exact hu t W W' h0 hE (hF t)
        · rw [List.map_append]
          exact hwp
      have hnext : cOf C oj' = none → ∀ (v : Value) (p : World → Prop) (W' : World), ResG P ops E w0 G oj' a F v p → E W W' → p W' → (∀ A B, E w0 A → E A B → p A → p B) → wpAny P md ops Q (fuel + tl.length) (listed.setIfInBounds j true) (a.put oj'.dst v) W' := by
        intro hcn v p W' hres hE hpW' hpu
        exact hrest v p Wp W' h0p (htr hpW hE) hE hpW' hpu (wpC_pull hcn hsj _ _ a F Wp hap h hres)
      unfold wpOp
      simp only [hoj]
      cases hc : cOf C oj' with
      | some ψ =>
        have hjc : isC C ops j = true := by unfold isC; rw [hoj]; simp [hc]
        have hnone : ∀ oi ∈ r1.map (·.2), cOf C oi = none := by
          intro oi hoi
          obtain ⟨⟨i, oi'⟩, hxm, hx2⟩ := List.mem_map.1 hoi
          simp only at hx2
          subst hx2
          have hi : ops[i]? = some oi' := (hop (i, oi') (List.mem_append_left _ hxm)).1
          have hin0 : i < n := (hop (i, oi') (List.mem_append_left _ hxm)).2
          have hij : i < j := (List.pairwise_append.1 hp).2.2 _ hxm _ (List.mem_cons_self ..)
          cases hci : cOf C oi' with
          | none => rfl
          | some ψ' =>
            exfalso
            have hic : isC C ops i = true := by unfold isC; rw [hi]; simp [hci]
            have hall' : ∀ e ∈ oj'.after, Region.binds md e = true → listed.getD e.on false = true := hall
            have h1 := chain_done hcc hinv j oj' hjn hoj hjc hall' i hij hic
            have h2 := (hm i hin0).2 ⟨oi', List.mem_append_left _ hxm⟩
            have hin : i < ops.size := (Array.getElem?_eq_some_iff.1 hi).1
            have hsz : i < listed.size := by omega
            simp only [Array.getD_eq_getD_getElem?, Array.getElem?_eq_getElem hsz, Option.getD_some] at h1 h2
            rw [h1] at h2
            cases h2
        by_cases hw : Region.wanted oj' (yielded ops a.tmps) = true
        · rw [if_pos hw]
          left
          have hsf := hsafe.2 hnone W hpW hw
          rw [hc] at hsf
          exact grow_wp (hsf fun t _ => hF t) fun v W' hE hψ => hrest v (fun _ => True) W' W' (htr h0 hE) (hrefl W') hE trivial (fun _ _ _ _ h => h) (wpC_pullC hc hsj _ _ a F Wp hap hnone h hw hpW hE hψ)
        · rw [if_neg hw]
          refine hrest undef (fun _ => True) Wp W h0p hpW (hrefl W) trivial (fun _ _ _ _ h => h) ?_
          exact wpC_pullS hsj _ _ a F Wp hap h (by simpa using hw)
      | none =>
      by_cases hw : Region.wanted oj' (yielded ops a.tmps) = true
      · rw [if_pos hw]
        left
        obtain ⟨⟨V, _, hsf⟩, _⟩ := hsafe
        have hsf := hsf hw
        rw [hc] at hsf
        cases hg : gOf G oj' with
        | some φ =>
          rw [hg] at hsf
          have hst : ∀ u A B, E A B → φ u A → φ u B := by
            unfold gOf at hg
            cases hd : oj'.dst with
            | none => rw [hd] at hg; cases hg
            | some d => rw [hd] at hg; exact hG d φ hg
          exact grow_wp (hsf W h0 fun t _ => hF t) fun v W' hE hφ => hnext hc v (φ v) W' (.inr (.inl ⟨hw, φ, hg, rfl, W', htr h0 hE, hφ⟩)) hE hφ (fun A B _ hAB => hst v A B hAB)
        | none =>
          rw [hg] at hsf
          obtain ⟨v, hv⟩ := hsf
          have hq := hv W h0 fun t _ => hF t
          exact quiet_wp hq (hnext hc v _ W (.inl ⟨hw, hg, rfl, W, h0, fun t _ => hF t, hq⟩) (hrefl W) (fun t _ => hF t) (hu.sees oj'))
      · rw [if_neg hw]
        exact hnext hc undef _ W (.inr (.inr ⟨by simpa using hw, rfl, rfl⟩)) (hrefl W) trivial (fun _ _ _ _ h => h)
theorem wpC_mono {Q : Act → World → Prop} (htr : ∀ {A B C}, E A B → E B C → E A C) : ∀ (l : List Oper) (a : Act) (F F' : Tmp → World → Prop) (Wp : World), E w0 Wp → (∀ t W, E w0 W → F t W → F' t W) → wpC P ops E w0 G C Q l a F' Wp → wpC P ops E w0 G C Q l a F Wp
  | [], _, _, _, Wp, h0p, hi, h => fun W hpW hF => h W hpW fun t => hi t W (htr h0p hpW) (hF t)
  | o :: l, a, F, F', Wp, h0p, hi, h => by
    have h : wpC1 P ops E w0 G C o (wpC P ops E w0 G C Q l) a F' Wp := h
    show wpC1 P ops E w0 G C o (wpC P ops E w0 G C Q l) a F Wp
    have hs : ∀ W, E w0 W → Sees ops o F W → Sees ops o F' W := fun W h0 hS t ht => hi t W h0 (hS t ht)
    unfold wpC1 at *
    by_cases hw : Region.wanted o (yielded ops a.tmps) = true
    · rw [if_pos hw] at *
      cases hc : cOf C o with
      | some ψ =>
        rw [hc] at h
        exact ⟨fun W hpW hS => h.1 W hpW (hs W (htr h0p hpW) hS), fun v W W' h1 h2 h3 => wpC_mono htr l _ _ _ W' (htr h0p (htr h1 h2)) (updF_mono hi fun _ _ h => h) (h.2 v W W' h1 h2 h3)⟩
      | none =>
        rw [hc] at h
        cases hg : gOf G o with
        | some φ =>
          rw [hg] at h
          exact ⟨fun W h0 hS => h.1 W h0 (hs W h0 hS), fun v hv => wpC_mono htr l _ _ _ Wp h0p (updF_mono hi fun _ _ h => h) (h.2 v hv)⟩
        | none =>
          rw [hg] at h
          obtain ⟨v, h1, h2⟩ := h
          exact ⟨v, fun W h0 hS => h1 W h0 (hs W h0 hS), wpC_mono htr l _ _ _ Wp h0p (updF_mono hi hs) h2⟩
    · rw [if_neg hw] at *
      exact wpC_mono htr l _ _ _ Wp h0p (updF_mono hi fun _ _ h => h) h
/-- The walk with the facts as a list; the world behind the last chained operation is one that E reaches from w0. -/
def wpM (P : Program) (ops : Array Oper) (E : World → World → Prop) (w0 : World) (G : Tmp → Option (Value → World → Prop)) (C : Tmp → Option (Value → World → World → Prop)) (Q : Act → World → Prop) (l : List Oper) (a : Act) (L : List (Tmp × (World → Prop))) (Wp : World) : Prop := wpC P ops E w0 G C Q l a (FL L) Wp
section
variable {Q : Act → World → Prop} {o : Oper} {rest : List Oper} {a : Act} {L : List (Tmp × (World → Prop))} {Wp : World}
theorem wpM_drop {d : Option Tmp} {p : World → Prop} (htr : ∀ {A B C}, E A B → E B C → E A C) (h0p : E w0 Wp) (hf : freshL L d = true) (h : wpM P ops E w0 G C Q rest a L Wp) : wpC P ops E w0 G C Q rest a (updF (FL L) d p) Wp := by
  refine wpC_mono (E := E) htr _ _ _ _ Wp h0p (fun t W _ hF => ?_) h
  unfold updF at hF
  by_cases hd : d = some t
  · subst hd
    exact FL_fresh L t W hf
  · rwa [if_neg hd] at hF
end
theorem wp_region_CT {id : Nat} {Q : Exit → Act → World → Prop} {a : Act} {w : World} {l : List Oper} (n : Nat) (hrefl : ∀ W, E W W) (htr : ∀ {A B C}, E A B → E B C → E A C) (hm : P.follows .mixedOrders = true) (hB : Region.lexB .any l.toArray = true)
    (hsink : Region.sinkB .any l.toArray n = true) (hchain : Region.chainB .any l.toArray n = true) (hcc : chainedB .any C l.toArray n = true) (hseq : Region.seqB .any l.toArray (l.drop n).length n ((List.replicate n true ++ List.replicate (l.toArray.size - n) false).toArray) = true) (hn : decide (n < l.length) = true)
    (hG : ∀ t φ, G t = some φ → ∀ v W W', E W W' → φ v W → φ v W') (hE : E w0 { w with drawn := w.drawn + 1 })
    (h : wpM P l.toArray E w0 G C (fun a W => wpList P l.toArray Q (l.drop n) a W) (l.take n) a [] w0) : (Code.region id l.toArray true).wp P Q a w := by
  have hn : n < l.length := of_decide_eq_true hn
  simp only [Region.lexB, Bool.and_eq_true] at hB
  refine wp_region_any hm ?_
  have hx := lex_facts (ops := l.toArray) (md := .any) l.toArray.size 0 (Array.replicate l.toArray.size false) (by simp) (fun i hi _ => by omega) (fun i _ hi => by simp at hi; simp [hi]) (by omega) hB.2
  have hmap : ((List.range n).zip (l.take n)).map (·.2) = l.take n := by rw [List.map_snd_zip]; simp; omega
  have hsz : l.toArray.size = n + (l.drop n).length := by simp; omega
  have h' : wpC P l.toArray E w0 G C (fun a W => wpList P l.toArray Q (l.drop n) a W) (l.take n) a (fun _ _ => True) w0 := by
    unfold wpM at h
    exact wpC_mono (E := E) htr _ _ _ _ w0 (hrefl w0) (fun _ _ _ _ => trivial) h
  have hzl : ((List.range n).zip (l.take n)).length = n := by simp; omega
  have key := wpC_anyT (P := P) (E := E) (w0 := w0) (G := G) (C := C) (md := .any) (Q := Q) (n := n) (tl := l.drop n) hrefl htr hG hB.1 hsink hchain hcc (by simpa using hn) hseq (fun j => by simp) (fun i oi => hx i oi (Nat.zero_le _)) n ((List.range n).zip (l.take n)) (Array.replicate l.toArray.size false) a (fun _ _ => True) w0 { w with drawn := w.drawn + 1 } hzl ⟨by simp, fun j oj hj hl => absurd hl (by rw [getD_replicate_false]; exact Bool.false_ne_true), fun t ht ht' => by simp at ht'; simp [ht']⟩ ?_ ?_ ?_ (fun _ _ _ _ _ h => h) (hrefl w0) hE (fun _ => trivial) (by rw [hmap]; exact h')
  · have e : l.toArray.size = n + (l.drop n).length := hsz
    generalize hS : l.toArray.size = S at key e ⊢
    subst e
    exact key
  · intro x hx
    obtain ⟨i, hi, he⟩ := List.mem_iff_getElem.1 hx
    simp only [List.length_zip, List.length_range, List.length_take] at hi
    rw [List.getElem_zip, List.getElem_range] at he
    subst he
    have hil : i < l.length := by omega
    refine ⟨?_, by simp; omega⟩
    simp [hil]
  · intro j hjn
    have hjl : j < l.length := by omega
    constructor
    · intro _
      exact ⟨l[j], List.mem_iff_getElem.2 ⟨j, by simp; omega, by rw [List.getElem_zip, List.getElem_range]; simp⟩⟩
    · intro _
      simp [hjl]
  · have hp : (List.range n).Pairwise (· < ·) := List.pairwise_lt_range
    rw [List.pairwise_iff_getElem] at hp ⊢
    intro i j hi hj hij
    simp only [List.length_zip, List.length_range, List.length_take] at hi hj
    simp only [List.getElem_zip, List.getElem_range]
    exact hij
section
variable {Q : Act → World → Prop} {o : Oper} {rest : List Oper} {a : Act} {L : List (Tmp × (World → Prop))} {Wp : World}
theorem wpM_nil (h : ∀ W, E Wp W → (∀ t, FL L t W) → Q a W) : wpM P ops E w0 G C Q [] a L Wp := h
theorem wpM_skip (htr : ∀ {A B C}, E A B → E B C → E A C) (h0p : E w0 Wp) (hw : Region.wanted o (yielded ops a.tmps) = false) (hf : freshL L o.dst = true) (h : wpM P ops E w0 G C Q rest (a.put o.dst undef) L Wp) : wpM P ops E w0 G C Q (o :: rest) a L Wp := by
  show wpC1 P ops E w0 G C o (wpC P ops E w0 G C Q rest) a (FL L) Wp
  unfold wpC1
  rw [if_neg (by rw [hw]; exact Bool.false_ne_true)]
  exact wpM_drop (E := E) htr h0p hf h
theorem wpM_quiet (htr : ∀ {A B C}, E A B → E B C → E A C) (h0p : E w0 Wp) (hw : Region.wanted o (yielded ops a.tmps) = true) (hc : cOf C o = none) (hg : gOf G o = none) (hf : freshL L o.dst = true) (h : ∃ v, (∀ W, E w0 W → Sees ops o (FL L) W → o.quietAt P a (fun _ => False) W v) ∧ wpM P ops E w0 G C Q rest (a.put o.dst v) L Wp) : wpM P ops E w0 G C Q (o :: rest) a L Wp := by
  show wpC1 P ops E w0 G C o (wpC P ops E w0 G C Q rest) a (FL L) Wp
  obtain ⟨v, h1, h2⟩ := h
  unfold wpC1
  rw [if_pos hw, hc, hg]
  exact ⟨v, h1, wpM_drop (E := E) htr h0p hf h2⟩
theorem wpM_grow (htr : ∀ {A B C}, E A B → E B C → E A C) (h0p : E w0 Wp) {φ : Value → World → Prop} {d : Tmp} (hw : Region.wanted o (yielded ops a.tmps) = true) (hd : o.dst = some d) (hc : C d = none) (hg : G d = some φ) (h1 : ∀ W, E w0 W → Sees ops o (FL L) W → growAt P o a E φ W)
    (h2 : ∀ v W', E w0 W' → φ v W' → wpM P ops E w0 G C Q rest (a.put o.dst v) ((d, φ v) :: L) Wp) : wpM P ops E w0 G C Q (o :: rest) a L Wp := by
  show wpC1 P ops E w0 G C o (wpC P ops E w0 G C Q rest) a (FL L) Wp
  unfold wpC1
  rw [if_pos hw]
  have h3 : gOf G o = some φ := by unfold gOf; rw [hd]; exact hg
  have h4 : cOf C o = none := by unfold cOf; rw [hd]; exact hc
  rw [h4, h3]
  refine ⟨h1, fun v ⟨W', h0, hφ⟩ => wpC_mono (E := E) htr _ _ _ _ Wp h0p (fun t W _ hF => ?_) (h2 v W' h0 hφ)⟩
  rw [hd] at hF
  unfold updF at hF
  unfold FL
  by_cases he : d = t
  · rw [if_pos he]; rwa [if_pos (by rw [he])] at hF
  · rw [if_neg he]; rwa [if_neg (fun h => he (Option.some.inj h))] at hF
/-- A chained operation: its worlds get names. -/
theorem wpM_chain (htr : ∀ {A B C}, E A B → E B C → E A C) (h0p : E w0 Wp) {ψ : Value → World → World → Prop} {d : Tmp} (hw : Region.wanted o (yielded ops a.tmps) = true) (hd : o.dst = some d) (hc : C d = some ψ) (hf : freshL L o.dst = true) (h1 : ∀ W, E Wp W → Sees ops o (FL L) W → growAt P o a E (fun v W' => ψ v W W') W)
    (h2 : ∀ v W W', E Wp W → E W W' → ψ v W W' → wpM P ops E w0 G C Q rest (a.put o.dst v) L W') : wpM P ops E w0 G C Q (o :: rest) a L Wp := by
  show wpC1 P ops E w0 G C o (wpC P ops E w0 G C Q rest) a (FL L) Wp
  unfold wpC1
  rw [if_pos hw]
  have h4 : cOf C o = some ψ := by unfold cOf; rw [hd]; exact hc
  rw [h4]
  exact ⟨h1, fun v W W' g1 g2 g3 => wpM_drop (E := E) htr (htr h0p (htr g1 g2)) hf (h2 v W W' g1 g2 g3)⟩
theorem wpM_bool {B : Bool} {d : Option Tmp} (h1 : B = true → wpM P ops E w0 G C Q rest (a.put d (.bool true)) L Wp) (h2 : B = false → wpM P ops E w0 G C Q rest (a.put d (.bool false)) L Wp) : wpM P ops E w0 G C Q rest (a.put d (.bool B)) L Wp := by
  cases B
  · exact h2 rfl
  · exact h1 rfl
end
attribute [irreducible] wpM
end
end Go.Proofs.Ytcalbcjheenmgaa
