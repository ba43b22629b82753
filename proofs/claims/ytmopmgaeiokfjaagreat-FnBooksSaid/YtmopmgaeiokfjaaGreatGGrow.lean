/- A region that draws its order, whose operations only make memory grow: one walk in the text's order serves every order. Values that depend on the order (new memory) are met by a fact that stays true as memory grows. No conditions. -/
import Derived.Deep.Quiet
import Derived.StillTail
import Derived.WalkKit
import Derived.Laws.Panics
import Derived.ArgAppend
import Derived.Test.YtmopmgaeiokfjaaGreatGCore
namespace Go.Proofs.YtmopmgaeiokfjaaGreat
open Go
section
variable {P : Program} {ops : Array Oper} {E : World → World → Prop} {w0 : World} {G : Tmp → Option (Value → World → Prop)}
def growUpon (P : Program) (E : World → World → Prop) (φ : Value → World → Prop) (W : World) : Result Next → Prop
 | .ok (.value u) w' => E W w' ∧ φ u w'
 | .ok .skip w' => E W w' ∧ φ undef w'
 | .ok (.enter f args) w' => Calls P f args w' (fun e w'' => ∃ v, e = .returned v ∧ E W w'' ∧ φ v w'')
 | _ => False
def growAt (P : Program) (o : Oper) (a : Act) (E : World → World → Prop) (φ : Value → World → Prop) (W : World) : Prop := growUpon P E φ W ((execOp a.eval o).run P W)
def updF (F : Tmp → World → Prop) (d : Option Tmp) (p : World → Prop) : Tmp → World → Prop := fun t => if d = some t then p else F t
def Sees (ops : Array Oper) (o : Oper) (F : Tmp → World → Prop) (W : World) : Prop := ∀ t ∈ o.looksAt ops, F t W
def gOf (G : Tmp → Option (Value → World → Prop)) (o : Oper) : Option (Value → World → Prop) := o.dst.bind G
def wpG1 (P : Program) (ops : Array Oper) (E : World → World → Prop) (w0 : World) (G : Tmp → Option (Value → World → Prop)) (o : Oper) (K : Act → (Tmp → World → Prop) → Prop) (a : Act) (F : Tmp → World → Prop) : Prop :=
 if Region.wanted o (yielded ops a.tmps) = true then
  match gOf G o with
  | some φ => (∀ W, E w0 W → Sees ops o F W → growAt P o a E φ W) ∧ ∀ v, (∃ W, E w0 W ∧ φ v W) → K (a.put o.dst v) (updF F o.dst (φ v))
  | none => ∃ v, (∀ W, E w0 W → Sees ops o F W → o.quietAt P a (fun _ => False) W v) ∧ K (a.put o.dst v) (updF F o.dst (Sees ops o F))
 else K (a.put o.dst undef) (updF F o.dst fun _ => True)
def wpG (P : Program) (ops : Array Oper) (E : World → World → Prop) (w0 : World) (G : Tmp → Option (Value → World → Prop)) (Q : Act → World → Prop) : List Oper → Act → (Tmp → World → Prop) → Prop
 | [], a, F => ∀ W, E w0 W → (∀ t, F t W) → Q a W
 | o :: l, a, F => wpG1 P ops E w0 G o (wpG P ops E w0 G Q l) a F
theorem quiet_det {o : Oper} {a : Act} {W : World} {v v' : Value} (h : o.quietAt P a (fun _ => False) W v) (h' : o.quietAt P a (fun _ => False) W v') : v = v' := by
 unfold Oper.quietAt at h h';generalize (execOp a.eval o).run P W = r at h h'
 cases r with
 | ok n w' =>
   cases n <;> simp only [Oper.quietUpon] at h h'
   case value u => rw [← h.2, ← h'.2]
   case skip => rw [h.2, h'.2]
   case enter f args =>
    obtain ⟨e, w', fr, ⟨_, hf⟩, _⟩ := h.2 [];exact hf.elim
 | halt x w' => simp only [Oper.quietUpon] at h
theorem updF_sees {oj : Oper} {F : Tmp → World → Prop} {d : Option Tmp} {p : World → Prop} (h : ∀ x, d = some x → x ∉ oj.looksAt ops) : Sees ops oj (updF F d p) = Sees ops oj F := by
 funext W
 unfold Sees;refine propext ⟨fun hh t ht => ?_, fun hh t ht => ?_⟩
 · have := hh t ht
   unfold updF at this
   rwa [if_neg (fun e => h t e ht)] at this
 · unfold updF
   rw [if_neg (fun e => h t e ht)];exact hh t ht
theorem updF_comm {F : Tmp → World → Prop} {x y : Option Tmp} (p q : World → Prop) (h : ∀ d, x = some d → y ≠ some d) : updF (updF F x p) y q = updF (updF F y q) x p := by
 funext t
 unfold updF;by_cases hx : x = some t
 · simp [hx, h t hx]
 · simp [hx]
def ResG (P : Program) (ops : Array Oper) (E : World → World → Prop) (w0 : World) (G : Tmp → Option (Value → World → Prop)) (o : Oper) (a : Act) (F : Tmp → World → Prop) (v : Value) (p : World → Prop) : Prop :=
 (Region.wanted o (yielded ops a.tmps) = true ∧ gOf G o = none ∧ p = Sees ops o F ∧ ∃ W, E w0 W ∧ Sees ops o F W ∧ o.quietAt P a (fun _ => False) W v) ∨
 (Region.wanted o (yielded ops a.tmps) = true ∧ ∃ φ, gOf G o = some φ ∧ p = φ v ∧ ∃ W, E w0 W ∧ φ v W) ∨
 (Region.wanted o (yielded ops a.tmps) = false ∧ v = undef ∧ p = fun _ => True)
theorem ResG.base {o : Oper} {a : Act} {F : Tmp → World → Prop} {v : Value} {p : World → Prop} {K : Act → (Tmp → World → Prop) → Prop} (hr : ResG P ops E w0 G o a F v p) (h : wpG1 P ops E w0 G o K a F) : K (a.put o.dst v) (updF F o.dst p) := by
 unfold wpG1 at h
 rcases hr with ⟨hw, hg, rfl, W, hW, hS, hq⟩ | ⟨hw, φ, hg, rfl, hW⟩ | ⟨hw, rfl, rfl⟩
 · rw [if_pos hw, hg] at h
   obtain ⟨v', h1, h2⟩ := h;rw [quiet_det hq (h1 W hW hS)];exact h2
 · rw [if_pos hw, hg] at h
   exact h.2 v hW
 · rw [if_neg (by rw [hw]; exact Bool.false_ne_true)] at h
   exact h
theorem ResG.put {oj : Oper} {a : Act} {F : Tmp → World → Prop} {v : Value} {p : World → Prop} {d : Option Tmp} {u : Value} {q : World → Prop} (hd : ∀ x, d = some x → x ∉ oj.looksAt ops) (hs : ∀ cs b, oj.op ≠ .select cs b)
 (hr : ResG P ops E w0 G oj a F v p) : ResG P ops E w0 G oj (a.put d u) (updF F d q) v p := by
 unfold ResG Oper.quietAt at *
 rw [updF_sees hd, wanted_put oj a d u hd, execOp_put oj hs a d u hd];exact hr
theorem wpG1_put {oi : Oper} {a : Act} {F : Tmp → World → Prop} {d : Option Tmp} {u : Value} {q : World → Prop} (hd : ∀ x, d = some x → x ∉ oi.looksAt ops) (hs : ∀ cs b, oi.op ≠ .select cs b) {K K' : Act → (Tmp → World → Prop) → Prop}
 (h : wpG1 P ops E w0 G oi K a F) (hk : ∀ v p, K (a.put oi.dst v) (updF F oi.dst p) → K' ((a.put d u).put oi.dst v) (updF (updF F d q) oi.dst p)) : wpG1 P ops E w0 G oi K' (a.put d u) (updF F d q) := by
 unfold wpG1 growAt Oper.quietAt at *
 rw [updF_sees hd, wanted_put oi a d u hd, execOp_put oi hs a d u hd];by_cases hw : Region.wanted oi (yielded ops a.tmps) = true
 · rw [if_pos hw] at h ⊢
   cases hg : gOf G oi with
   | some φ =>
     rw [hg] at h;exact ⟨h.1, fun v hv => hk _ _ (h.2 v hv)⟩
   | none =>
     rw [hg] at h;obtain ⟨v, h1, h2⟩ := h;exact ⟨v, h1, hk _ _ h2⟩
 · rw [if_neg hw] at h ⊢
   exact hk _ _ h
theorem wpG_pull {Q : Act → World → Prop} {oj : Oper} {v : Value} {p : World → Prop} (hsj : ∀ cs b, oj.op ≠ .select cs b) : ∀ (l1 l2 : List Oper) (a : Act) (F : Tmp → World → Prop), (∀ oi ∈ l1, oi.apart ops oj = true ∧ ∀ cs b, oi.op ≠ .select cs b) →
 wpG P ops E w0 G Q (l1 ++ oj :: l2) a F → ResG P ops E w0 G oj a F v p → wpG P ops E w0 G Q (l1 ++ l2) (a.put oj.dst v) (updF F oj.dst p)
 | [], _, _, _, _, h, hr => hr.base h
 | oi :: l1, l2, a, F, hap, h, hr => by
   obtain ⟨hh, hsi⟩ := hap oi (List.mem_cons_self ..);obtain ⟨h1, h2, h3⟩ := Oper.apart_spec hh;refine wpG1_put h3 hsi (K := wpG P ops E w0 G Q (l1 ++ oj :: l2)) h fun vi pi hK => ?_;have := wpG_pull hsj l1 l2 _ _ (fun o ho => hap o (List.mem_cons_of_mem _ ho)) hK (hr.put h1 hsj);rw [Act.put_comm a vi v h2, updF_comm pi p h2] at this;exact this
def UpF (E : World → World → Prop) (w0 : World) (F : Tmp → World → Prop) : Prop := ∀ t W W', E w0 W → E W W' → F t W → F t W'
theorem UpF.upd {F : Tmp → World → Prop} {d : Option Tmp} {p : World → Prop} (h : UpF E w0 F) (hp : ∀ W W', E w0 W → E W W' → p W → p W') : UpF E w0 (updF F d p) := by
 intro t W W' h0 h1 hF
 unfold updF at *
 by_cases hd : d = some t
 · rw [if_pos hd] at *; exact hp W W' h0 h1 hF
 · rw [if_neg hd] at *; exact h t W W' h0 h1 hF
theorem UpF.sees {F : Tmp → World → Prop} (h : UpF E w0 F) (o : Oper) : ∀ W W', E w0 W → E W W' → Sees ops o F W → Sees ops o F W' := fun W W' h0 h1 hs t ht => h t W W' h0 h1 (hs t ht)
def SafeG (P : Program) (ops : Array Oper) (E : World → World → Prop) (w0 : World) (G : Tmp → Option (Value → World → Prop)) (o : Oper) (a : Act) (F : Tmp → World → Prop) : Prop :=
 Region.wanted o (yielded ops a.tmps) = true → match gOf G o with
  | some φ => ∀ W, E w0 W → Sees ops o F W → growAt P o a E φ W
  | none => ∃ v, ∀ W, E w0 W → Sees ops o F W → o.quietAt P a (fun _ => False) W v
theorem SafeG.put {oj : Oper} {a : Act} {F : Tmp → World → Prop} {d : Option Tmp} {u : Value} {q : World → Prop} (hd : ∀ x, d = some x → x ∉ oj.looksAt ops) (hs : ∀ cs b, oj.op ≠ .select cs b)
 (h : SafeG P ops E w0 G oj (a.put d u) (updF F d q)) : SafeG P ops E w0 G oj a F := by
 unfold SafeG growAt Oper.quietAt at *
 rwa [updF_sees hd, wanted_put oj a d u hd, execOp_put oj hs a d u hd] at h
theorem grow_some {o : Oper} {a : Act} {φ : Value → World → Prop} {W : World} (h : growAt P o a E φ W) : ∃ v W', E W W' ∧ φ v W' := by
 unfold growAt at h;generalize (execOp a.eval o).run P W = r at h
 cases r with
 | ok n w' =>
   cases n <;> simp only [growUpon] at h
   case value u => exact ⟨_, _, h⟩
   case skip => exact ⟨_, _, h⟩
   case enter f args =>
    obtain ⟨e, w', fr, ⟨v, _, h1, h2⟩, _⟩ := h [];exact ⟨v, w', h1, h2⟩
 | halt x w' => simp only [growUpon] at h
theorem grow_wp {o : Oper} {a : Act} {φ : Value → World → Prop} {W : World} {K : Act → World → Prop} {Q : Exit → Act → World → Prop} (h : growAt P o a E φ W) (hk : ∀ v W', E W W' → φ v W' → K (a.put o.dst v) W') : o.wp P a W K Q := by
 unfold growAt at h;unfold Oper.wp
 generalize (execOp a.eval o).run P W = r at *
 cases r with
 | ok n w' =>
   cases n <;> simp only [growUpon] at h <;> simp only [Oper.upon]
   case value u => exact hk _ _ h.1 h.2
   case skip => exact hk _ _ h.1 h.2
   case enter f args => exact h.mono fun e w'' ⟨v, he, h1, h2⟩ => by subst he; exact hk _ _ h1 h2
 | halt x w' => simp only [growUpon] at h
theorem quiet_wp {o : Oper} {a : Act} {v : Value} {W : World} {K : Act → World → Prop} {Q : Exit → Act → World → Prop} (h : o.quietAt P a (fun _ => False) W v) (hk : K (a.put o.dst v) W) : o.wp P a W K Q := by
 unfold Oper.quietAt at h;unfold Oper.wp
 generalize (execOp a.eval o).run P W = r at *
 cases r with
 | ok n w' =>
   cases n <;> simp only [Oper.quietUpon] at h <;> simp only [Oper.upon]
   case value u => rw [h.1, h.2]; exact hk
   case skip => rw [h.1, ← h.2]; exact hk
   case enter f args =>
    obtain ⟨e, w', fr, ⟨_, hf⟩, _⟩ := h.2 [];exact hf.elim
 | halt x w' => simp only [Oper.quietUpon] at h
theorem wpG_safe {Q : Act → World → Prop} {oj : Oper} (hrefl : ∀ W, E W W) (htr : ∀ {A B C}, E A B → E B C → E A C) (hG : ∀ t φ, G t = some φ → ∀ v W W', E W W' → φ v W → φ v W') (hsj : ∀ cs b, oj.op ≠ .select cs b) :
 ∀ (l1 l2 : List Oper) (a : Act) (F : Tmp → World → Prop) (W : World), (∀ oi ∈ l1, oi.apart ops oj = true ∧ ∀ cs b, oi.op ≠ .select cs b) → UpF E w0 F → E w0 W → (∀ t, F t W) →
 wpG P ops E w0 G Q (l1 ++ oj :: l2) a F → SafeG P ops E w0 G oj a F
 | [], l2, a, F, W, _, _, _, _, h => by
   intro hw;have h : wpG1 P ops E w0 G oj (wpG P ops E w0 G Q l2) a F := h;unfold wpG1 at h;rw [if_pos hw] at h
   cases hg : gOf G oj with
   | some φ => rw [hg] at h; exact h.1
   | none => rw [hg] at h; obtain ⟨v, h1, _⟩ := h; exact ⟨v, h1⟩
 | oi :: l1, l2, a, F, W, hap, hu, h0, hF, h => by
   obtain ⟨hh, hsi⟩ := hap oi (List.mem_cons_self ..);obtain ⟨h1, h2, h3⟩ := Oper.apart_spec hh;have h : wpG1 P ops E w0 G oi (wpG P ops E w0 G Q (l1 ++ oj :: l2)) a F := h;have hap' : ∀ o ∈ l1, o.apart ops oj = true ∧ ∀ cs b, o.op ≠ .select cs b := fun o ho => hap o (List.mem_cons_of_mem _ ho);unfold wpG1 at h;by_cases hw : Region.wanted oi (yielded ops a.tmps) = true
   · rw [if_pos hw] at h
     cases hg : gOf G oi with
     | some φ =>
       rw [hg] at h;obtain ⟨v, W', hE, hφ⟩ := grow_some (h.1 W h0 fun t _ => hF t)
       have hst : ∀ u A B, E A B → φ u A → φ u B := by
        unfold gOf at hg
        cases hd : oi.dst with
        | none => rw [hd] at hg; cases hg
        | some d => rw [hd] at hg; exact hG d φ hg
       refine SafeG.put h1 hsj (wpG_safe hrefl htr hG hsj l1 l2 _ _ W' hap' (hu.upd fun A B _ hAB => hst v A B hAB) (htr h0 hE) (fun t => ?_) (h.2 v ⟨W', htr h0 hE, hφ⟩));unfold updF;by_cases hd : oi.dst = some t
       · rw [if_pos hd]; exact hφ
       · rw [if_neg hd]; exact hu t W W' h0 hE (hF t)
     | none =>
       rw [hg] at h;obtain ⟨v, hq, hr⟩ := h;refine SafeG.put h1 hsj (wpG_safe hrefl htr hG hsj l1 l2 _ _ W hap' (hu.upd (hu.sees oi)) h0 (fun t => ?_) hr);unfold updF;by_cases hd : oi.dst = some t
       · rw [if_pos hd]; exact fun t _ => hF t
       · rw [if_neg hd]; exact hF t
   · rw [if_neg hw] at h
     refine SafeG.put h1 hsj (wpG_safe hrefl htr hG hsj l1 l2 _ _ W hap' (hu.upd fun _ _ _ _ h => h) h0 (fun t => ?_) h);unfold updF;by_cases hd : oi.dst = some t
     · rw [if_pos hd]; trivial
     · rw [if_neg hd]; exact hF t
theorem wpG_any {md : Region.Mode} {Q : Exit → Act → World → Prop} (hrefl : ∀ W, E W W) (htr : ∀ {A B C}, E A B → E B C → E A C) (hG : ∀ t φ, G t = some φ → ∀ v W W', E W W' → φ v W → φ v W') (hs : Region.noSelect ops = true)
 (hlex : ∀ i oi, ops[i]? = some oi → (∀ e ∈ oi.after, Region.binds md e = true → e.on < i) ∧ ∀ j oj, i < j → ops[j]? = some oj → (∀ e ∈ oj.after, Region.binds md e = true → e.on ≠ i) → oi.apart ops oj = true) :
 ∀ (fuel : Nat) (r : List (Nat × Oper)) (listed : Array Bool) (a : Act) (F : Tmp → World → Prop) (W : World), r.length = fuel → listed.size = ops.size → (∀ x ∈ r, ops[x.1]? = some x.2) → (∀ j, listed.getD j true = false ↔ ∃ o, (j, o) ∈ r) → r.Pairwise (fun x y => x.1 < y.1) →
  UpF E w0 F → E w0 W → (∀ t, F t W) → wpG P ops E w0 G (fun a W => Q .normal a W) (r.map (·.2)) a F → wpAny P md ops Q fuel listed a W := by
 intro fuel
 induction fuel with
 | zero =>
   intro r listed a F W hl _ _ hm _ _ h0 hF h;obtain rfl : r = [] := List.eq_nil_of_length_eq_zero hl;refine ⟨List.eq_nil_iff_forall_not_mem.2 fun j hj => ?_, h W h0 hF⟩;obtain ⟨o, ho⟩ := (hm j).1 (mem_ready.1 hj).1;cases ho
 | succ fuel ih =>
   intro r listed a F W hl hz hop hm hp hu h0 hF h;refine ⟨fun hr => ?_, fun j hj => ?_⟩
   · exfalso
     obtain ⟨⟨i, oi⟩, r, rfl⟩ : ∃ x r', r = x :: r' := by
      cases r with
      | nil => cases hl
      | cons x r => exact ⟨x, r, rfl⟩
     have hi := hop (i, oi) (List.mem_cons_self ..)
     have : i ∈ Region.ready md ops listed := by
      refine mem_ready.2 ⟨(hm i).2 ⟨oi, List.mem_cons_self ..⟩, oi, hi, fun e he hb => ?_⟩;have hlt := (hlex i oi hi).1 e he hb;have hin : i < ops.size := (Array.getElem?_eq_some_iff.1 hi).1
      have hne : ¬ listed.getD e.on true = false := fun hf => by
       obtain ⟨o, ho⟩ := (hm e.on).1 hf
       rcases List.mem_cons.1 ho with ho | ho
       · cases ho; omega
       · have := (List.pairwise_cons.1 hp).1 _ ho
         simp only at this;omega
      have hsz : e.on < listed.size := by omega
      simp only [Array.getD_eq_getD_getElem?, Array.getElem?_eq_getElem hsz, Option.getD_some] at hne ⊢
      simpa using hne
     rw [hr] at this;cases this
   · obtain ⟨hun, oj, hoj, hall⟩ := mem_ready.1 hj
     obtain ⟨oj', hmem⟩ := (hm j).1 hun
     obtain rfl : oj' = oj := by have := hop _ hmem; rw [hoj] at this; exact (Option.some.inj this).symm
     obtain ⟨r1, r2, rfl⟩ := List.append_of_mem hmem;have hsel := Region.noSelect_spec hs;have hsj : ∀ cs b, oj'.op ≠ .select cs b := fun cs b => hsel j oj' cs b hoj
     have hap : ∀ oi ∈ r1.map (·.2), oi.apart ops oj' = true ∧ ∀ cs b, oi.op ≠ .select cs b := by
      intro oi hoi;obtain ⟨⟨i, oi'⟩, hxm, hx2⟩ := List.mem_map.1 hoi;simp only at hx2;subst hx2;have hi := hop (i, oi') (List.mem_append_left _ hxm);have hij : i < j := (List.pairwise_append.1 hp).2.2 _ hxm _ (List.mem_cons_self ..);refine ⟨(hlex i oi' hi).2 j oj' hij hoj fun e he hb heq => ?_, fun cs b => hsel i oi' cs b hi⟩;have h1 := hall e he hb;have h2 := (hm i).2 ⟨oi', List.mem_append_left _ hxm⟩;rw [heq] at h1;have hin : i < ops.size := (Array.getElem?_eq_some_iff.1 hi).1
      have hsz : i < listed.size := by omega
      simp only [Array.getD_eq_getD_getElem?, Array.getElem?_eq_getElem hsz, Option.getD_some] at h1 h2;rw [h1] at h2;cases h2
     rw [List.map_append, List.map_cons] at h;have hsafe := wpG_safe hrefl htr hG hsj _ _ a F W hap hu h0 hF h
     have hj' : j < listed.size := by rw [hz]; exact (Array.getElem?_eq_some_iff.1 hoj).1
     have hnext : ∀ (v : Value) (p : World → Prop) (W' : World), ResG P ops E w0 G oj' a F v p → E W W' → p W' → (∀ A B, E w0 A → E A B → p A → p B) → wpAny P md ops Q fuel (listed.setIfInBounds j true) (a.put oj'.dst v) W' := by
      intro v p W' hres hE hpW hpu;refine ih (r1 ++ r2) _ _ (updF F oj'.dst p) W' ?_ (by simpa using hz) (fun x hx => hop x ?_) (fun k => ?_) ?_ (hu.upd hpu) (htr h0 hE) (fun t => ?_) ?_
      · simp only [List.length_append, List.length_cons] at hl ⊢; omega
      · rcases List.mem_append.1 hx with hx | hx
        · exact List.mem_append_left _ hx
        · exact List.mem_append_right _ (List.mem_cons_of_mem _ hx)
      · by_cases hjk : j = k
        · subst hjk
          constructor
          · intro hk
            simp [Array.getD_eq_getD_getElem?, hj'] at hk
          · rintro ⟨o, ho⟩
            exfalso
            have hpp := List.pairwise_append.1 hp
            rcases List.mem_append.1 ho with ho | ho
            · have := hpp.2.2 _ ho _ (List.mem_cons_self ..)
              simp only at this; omega
            · have := (List.pairwise_cons.1 hpp.2.1).1 _ ho
              simp only at this; omega
        · rw [getD_set_ne true hjk, hm k]
          constructor
          · rintro ⟨o, ho⟩
            rcases List.mem_append.1 ho with ho | ho
            · exact ⟨o, List.mem_append_left _ ho⟩
            · rcases List.mem_cons.1 ho with ho | ho
              · cases ho; exact absurd rfl hjk
              · exact ⟨o, List.mem_append_right _ ho⟩
          · rintro ⟨o, ho⟩
            rcases List.mem_append.1 ho with ho | ho
            · exact ⟨o, List.mem_append_left _ ho⟩
            · exact ⟨o, List.mem_append_right _ (List.mem_cons_of_mem _ ho)⟩
      · have hpp := List.pairwise_append.1 hp
        exact List.pairwise_append.2 ⟨hpp.1, (List.pairwise_cons.1 hpp.2.1).2, fun x hx y hy => hpp.2.2 x hx y (List.mem_cons_of_mem _ hy)⟩
      · unfold updF
        by_cases hd : oj'.dst = some t
        · rw [if_pos hd]; exact hpW
        · rw [if_neg hd]; exact hu t W W' h0 hE (hF t)
      · rw [List.map_append]
        exact wpG_pull hsj _ _ a F hap h hres
     unfold wpOp;simp only [hoj];by_cases hw : Region.wanted oj' (yielded ops a.tmps) = true
     · rw [if_pos hw]
       left
       have hsf := hsafe hw
       cases hg : gOf G oj' with
       | some φ =>
         rw [hg] at hsf
         have hst : ∀ u A B, E A B → φ u A → φ u B := by
          unfold gOf at hg
          cases hd : oj'.dst with
          | none => rw [hd] at hg; cases hg
          | some d => rw [hd] at hg; exact hG d φ hg
         exact grow_wp (hsf W h0 fun t _ => hF t) fun v W' hE hφ => hnext v (φ v) W' (.inr (.inl ⟨hw, φ, hg, rfl, W', htr h0 hE, hφ⟩)) hE hφ (fun A B _ hAB => hst v A B hAB)
       | none =>
         rw [hg] at hsf;obtain ⟨v, hv⟩ := hsf;have hq := hv W h0 fun t _ => hF t;exact quiet_wp hq (hnext v _ W (.inl ⟨hw, hg, rfl, W, h0, fun t _ => hF t, hq⟩) (hrefl W) (fun t _ => hF t) (hu.sees oj'))
     · rw [if_neg hw]
       exact hnext undef _ W (.inr (.inr ⟨by simpa using hw, rfl, rfl⟩)) (hrefl W) trivial (fun _ _ _ _ h => h)
theorem lex_facts {md : Region.Mode} : ∀ (fuel k : Nat) (listed : Array Bool), listed.size = ops.size → (∀ i, i < k → i < ops.size → listed.getD i false = true) → (∀ i, k ≤ i → i < ops.size → listed.getD i true = false) → k + fuel = ops.size → Region.lexFrom md ops fuel k listed = true →
 ∀ i oi, k ≤ i → ops[i]? = some oi → (∀ e ∈ oi.after, Region.binds md e = true → e.on < i) ∧ ∀ j oj, i < j → ops[j]? = some oj → (∀ e ∈ oj.after, Region.binds md e = true → e.on ≠ i) → oi.apart ops oj = true := by
 intro fuel
 induction fuel with
 | zero =>
   intro k listed _ _ _ hk _ i oi hi hoi;have := (Array.getElem?_eq_some_iff.1 hoi).1;omega
 | succ fuel ih =>
   intro k listed hz hlo hhi hk h i oi hi hoi;simp only [Region.lexFrom, Bool.and_eq_true] at h;obtain ⟨⟨hr, hf⟩, h'⟩ := h;have hin := (Array.getElem?_eq_some_iff.1 hoi).1;by_cases hki : k = i
   · subst hki
     refine ⟨fun e he hb => ?_, fun j oj hij hoj hno => ?_⟩
     · obtain ⟨_, o, ho, hall⟩ := mem_ready.1 (by simpa using hr : k ∈ Region.ready md ops listed)
       rw [hoi] at ho;cases ho;have h1 := hall e he hb
       rcases Nat.lt_or_ge e.on k with hlt | hge
       · exact hlt
       · exfalso
         rcases Nat.lt_or_ge e.on ops.size with hlt | hge2
         · have h2 := hhi e.on hge hlt
           have hsz : e.on < listed.size := by omega
           simp only [Array.getD_eq_getD_getElem?, Array.getElem?_eq_getElem hsz, Option.getD_some] at h1 h2;rw [h1] at h2;cases h2
         · have hsz : listed.size ≤ e.on := by omega
           simp [Array.getD_eq_getD_getElem?, Array.getElem?_eq_none hsz] at h1
     · have hjn := (Array.getElem?_eq_some_iff.1 hoj).1
       exact Region.free_spec hoi hf j oj hoj (by omega) (hhi j (by omega) hjn) hno
   · refine ih (k + 1) (listed.setIfInBounds k true) (by simpa using hz) (fun m hm hms => ?_) (fun m hm hms => ?_) (by omega) h' i oi (by omega) hoi
     · by_cases hmk : k = m
       · subst hmk
         have hsz : k < listed.size := by omega
         simp [Array.getD_eq_getD_getElem?, hsz]
       · rw [getD_set_ne false hmk]
         exact hlo m (by omega) hms
     · rw [getD_set_ne true (by omega)]
       exact hhi m (by omega) hms
theorem wp_region_grow {id : Nat} {Q : Exit → Act → World → Prop} {a : Act} {w : World} {l : List Oper} (hrefl : ∀ W, E W W) (htr : ∀ {A B C}, E A B → E B C → E A C) (hm : P.follows .mixedOrders = true) (hB : Region.lexB .any l.toArray = true)
 (hG : ∀ t φ, G t = some φ → ∀ v W W', E W W' → φ v W → φ v W') (hE : E w0 { w with drawn := w.drawn + 1 })
 (h : wpG P l.toArray E w0 G (fun a W => Q .normal a W) l a fun _ _ => True) : (Code.region id l.toArray true).wp P Q a w := by
 simp only [Region.lexB, Bool.and_eq_true] at hB;refine wp_region_any hm ?_;have hx := lex_facts (ops := l.toArray) (md := .any) l.toArray.size 0 (Array.replicate l.toArray.size false) (by simp) (fun i hi _ => by omega) (fun i _ hi => by simp at hi; simp [hi]) (by omega) hB.2
 have hmap : ((List.range l.length).zip l).map (·.2) = l := by rw [List.map_snd_zip]; simp
 refine wpG_any hrefl htr hG hB.1 (fun i oi => hx i oi (Nat.zero_le _)) _ ((List.range l.length).zip l) _ a (fun _ _ => True) _ ?_ (by simp) (fun x hx => ?_) (fun j => ?_) ?_ (fun _ _ _ _ _ h => h) hE (fun _ => trivial) (by rw [hmap]; exact h)
 · simp
 · obtain ⟨i, hi, he⟩ := List.mem_iff_getElem.1 hx
   simp only [List.length_zip, List.length_range, Nat.min_self] at hi;rw [List.getElem_zip, List.getElem_range] at he;subst he;simp [hi]
 · constructor
   · intro hj
     have hjl : j < l.length := by
      rcases Nat.lt_or_ge j l.length with h | h
      · exact h
      · simp [h] at hj
     exact ⟨l[j], List.mem_iff_getElem.2 ⟨j, by simpa using hjl, by rw [List.getElem_zip, List.getElem_range]⟩⟩
   · rintro ⟨o, ho⟩
     obtain ⟨i, hi, he⟩ := List.mem_iff_getElem.1 ho;simp only [List.length_zip, List.length_range, Nat.min_self] at hi;rw [List.getElem_zip, List.getElem_range] at he;cases he;simp [hi]
 · rw [List.pairwise_iff_getElem]
   intro i j hi hj hij;rw [List.getElem_zip, List.getElem_zip, List.getElem_range, List.getElem_range];exact hij
theorem updF_mono {F F' : Tmp → World → Prop} {d : Option Tmp} {p p' : World → Prop} (h : ∀ t W, E w0 W → F t W → F' t W) (hp : ∀ W, E w0 W → p W → p' W) : ∀ t W, E w0 W → updF F d p t W → updF F' d p' t W := by
 intro t W h0 hF
 unfold updF at *
 by_cases hd : d = some t
 · rw [if_pos hd] at *; exact hp W h0 hF
 · rw [if_neg hd] at *; exact h t W h0 hF
theorem wpG_mono {Q : Act → World → Prop} : ∀ (l : List Oper) (a : Act) (F F' : Tmp → World → Prop), (∀ t W, E w0 W → F t W → F' t W) → wpG P ops E w0 G Q l a F' → wpG P ops E w0 G Q l a F
 | [], _, _, _, hi, h => fun W h0 hF => h W h0 fun t => hi t W h0 (hF t)
 | o :: l, a, F, F', hi, h => by
   have h : wpG1 P ops E w0 G o (wpG P ops E w0 G Q l) a F' := h;show wpG1 P ops E w0 G o (wpG P ops E w0 G Q l) a F;have hs : ∀ W, E w0 W → Sees ops o F W → Sees ops o F' W := fun W h0 hS t ht => hi t W h0 (hS t ht)
   unfold wpG1 at *
   by_cases hw : Region.wanted o (yielded ops a.tmps) = true
   · rw [if_pos hw] at *
     cases hg : gOf G o with
     | some φ =>
       rw [hg] at h;exact ⟨fun W h0 hS => h.1 W h0 (hs W h0 hS), fun v hv => wpG_mono l _ _ _ (updF_mono hi fun _ _ h => h) (h.2 v hv)⟩
     | none =>
       rw [hg] at h;obtain ⟨v, h1, h2⟩ := h;exact ⟨v, fun W h0 hS => h1 W h0 (hs W h0 hS), wpG_mono l _ _ _ (updF_mono hi hs) h2⟩
   · rw [if_neg hw] at *
     exact wpG_mono l _ _ _ (updF_mono hi fun _ _ h => h) h
def FL (L : List (Tmp × (World → Prop))) : Tmp → World → Prop := fun t W => match L with
 | [] => True
 | p :: L => if p.1 = t then p.2 W else FL L t W
def freshL (L : List (Tmp × (World → Prop))) (d : Option Tmp) : Bool := match d with
 | none => true
 | some d => L.all fun p => p.1 != d
theorem FL_fresh : ∀ (L : List (Tmp × (World → Prop))) (d : Tmp) (W : World), (L.all fun p => p.1 != d) = true → FL L d W
 | [], _, _, _ => trivial
 | p :: L, d, W, h => by
   simp only [List.all_cons, Bool.and_eq_true, bne_iff_ne] at h;unfold FL;rw [if_neg h.1];exact FL_fresh L d W h.2
def wpL (P : Program) (ops : Array Oper) (E : World → World → Prop) (w0 : World) (G : Tmp → Option (Value → World → Prop)) (Q : Act → World → Prop) (l : List Oper) (a : Act) (L : List (Tmp × (World → Prop))) : Prop := wpG P ops E w0 G Q l a (FL L)
variable {Q : Act → World → Prop} {o : Oper} {rest : List Oper} {a : Act} {L : List (Tmp × (World → Prop))}
theorem wpL_drop {d : Option Tmp} {p : World → Prop} (hf : freshL L d = true) (h : wpL P ops E w0 G Q rest a L) : wpG P ops E w0 G Q rest a (updF (FL L) d p) := by
 refine wpG_mono _ _ _ _ (fun t W _ hF => ?_) h;unfold updF at hF;by_cases hd : d = some t
 · subst hd
   exact FL_fresh L t W hf
 · rwa [if_neg hd] at hF
theorem wpL_nil (h : ∀ W, E w0 W → (∀ t, FL L t W) → Q a W) : wpL P ops E w0 G Q [] a L := h
theorem wpL_skip (hw : Region.wanted o (yielded ops a.tmps) = false) (hf : freshL L o.dst = true) (h : wpL P ops E w0 G Q rest (a.put o.dst undef) L) : wpL P ops E w0 G Q (o :: rest) a L := by
 show wpG1 P ops E w0 G o (wpG P ops E w0 G Q rest) a (FL L);unfold wpG1;rw [if_neg (by rw [hw]; exact Bool.false_ne_true)];exact wpL_drop hf h
theorem wpL_quiet (hw : Region.wanted o (yielded ops a.tmps) = true) (hg : gOf G o = none) (hf : freshL L o.dst = true) (h : ∃ v, (∀ W, E w0 W → Sees ops o (FL L) W → o.quietAt P a (fun _ => False) W v) ∧ wpL P ops E w0 G Q rest (a.put o.dst v) L) : wpL P ops E w0 G Q (o :: rest) a L := by
 show wpG1 P ops E w0 G o (wpG P ops E w0 G Q rest) a (FL L);obtain ⟨v, h1, h2⟩ := h;unfold wpG1;rw [if_pos hw, hg];exact ⟨v, h1, wpL_drop hf h2⟩
theorem wpL_grow {φ : Value → World → Prop} {d : Tmp} (hw : Region.wanted o (yielded ops a.tmps) = true) (hd : o.dst = some d) (hg : G d = some φ) (h1 : ∀ W, E w0 W → Sees ops o (FL L) W → growAt P o a E φ W)
 (h2 : ∀ v W', E w0 W' → φ v W' → wpL P ops E w0 G Q rest (a.put o.dst v) ((d, φ v) :: L)) : wpL P ops E w0 G Q (o :: rest) a L := by
 show wpG1 P ops E w0 G o (wpG P ops E w0 G Q rest) a (FL L);unfold wpG1;rw [if_pos hw]
 have : gOf G o = some φ := by unfold gOf; rw [hd]; exact hg
 rw [this];refine ⟨h1, fun v ⟨W', h0, hφ⟩ => wpG_mono _ _ _ _ (fun t W _ hF => ?_) (h2 v W' h0 hφ)⟩;rw [hd] at hF;unfold updF at hF;unfold FL;by_cases he : d = t
 · rw [if_pos he]; rwa [if_pos (by rw [he])] at hF
 · rw [if_neg he]; rwa [if_neg (fun h => he (Option.some.inj h))] at hF
theorem wpL_call {d : Tmp} {u : Value} (hw : Region.wanted o (yielded ops a.tmps) = true) (hd : o.dst = some d) (hg : G d = some fun v _ => v = u) (hf : freshL L o.dst = true) (h1 : ∀ W, E w0 W → Sees ops o (FL L) W → growAt P o a E (fun v _ => v = u) W)
 (h2 : wpL P ops E w0 G Q rest (a.put o.dst u) L) : wpL P ops E w0 G Q (o :: rest) a L := by
 refine wpL_grow hw hd hg h1 fun v W' _ hv => ?_;subst hv;refine wpG_mono _ _ _ _ (fun t W _ hF => ?_) h2;unfold FL at hF;by_cases he : d = t
 · subst he
   rw [hd] at hf;exact FL_fresh L d W hf
 · rwa [if_neg he] at hF
theorem wpL_bool {B : Bool} {d : Option Tmp} (h1 : B = true → wpL P ops E w0 G Q rest (a.put d (.bool true)) L) (h2 : B = false → wpL P ops E w0 G Q rest (a.put d (.bool false)) L) : wpL P ops E w0 G Q rest (a.put d (.bool B)) L := by
 cases B
 · exact h2 rfl
 · exact h1 rfl
theorem wpL_boolT {d : Option Tmp} (h : wpL P ops E w0 G Q rest (a.put d (.bool true)) L) : wpL P ops E w0 G Q rest (a.put d (.bool true)) L := h
theorem wpL_boolF {d : Option Tmp} (h : wpL P ops E w0 G Q rest (a.put d (.bool false)) L) : wpL P ops E w0 G Q rest (a.put d (.bool false)) L := h
theorem wp_region_L {id : Nat} {Q : Exit → Act → World → Prop} {a : Act} {w : World} {l : List Oper} (hrefl : ∀ W, E W W) (htr : ∀ {A B C}, E A B → E B C → E A C) (hm : P.follows .mixedOrders = true) (hB : Region.lexB .any l.toArray = true)
 (hG : ∀ t φ, G t = some φ → ∀ v W W', E W W' → φ v W → φ v W') (hE : E w0 { w with drawn := w.drawn + 1 })
 (h : wpL P l.toArray E w0 G (fun a W => Q .normal a W) l a []) : (Code.region id l.toArray true).wp P Q a w :=
 wp_region_grow hrefl htr hm hB hG hE (wpG_mono _ _ _ _ (fun _ _ _ _ => trivial) h)
attribute [irreducible] wpL
theorem name_wp {c : Code} {Q : Exit → Act → World → Prop} {a : Act} {W : World} (p : World → Prop) (hp : p W) (h : ∀ w, p w → c.wp P Q a w) : c.wp P Q a W := h W hp
theorem name_calls {f : FuncId} {args : Array Value} {R : Ending → World → Prop} {W : World} (p : World → Prop) (hp : p W) (h : ∀ w, p w → Calls P f args w R) : Calls P f args W R := h W hp
end
section
variable {P : Program} {ops : Array Oper} {E : World → World → Prop} {w0 : World} {G : Tmp → Option (Value → World → Prop)}
theorem wpG_anyT {md : Region.Mode} {Q : Exit → Act → World → Prop} {n : Nat} {tl : List Oper} (hrefl : ∀ W, E W W) (htr : ∀ {A B C}, E A B → E B C → E A C) (hG : ∀ t φ, G t = some φ → ∀ v W W', E W W' → φ v W → φ v W') (hs : Region.noSelect ops = true)
 (hsink : Region.sinkB md ops n = true) (hchain : Region.chainB md ops n = true) (hn : n < ops.size) (hseq : Region.seqB md ops tl.length n ((List.replicate n true ++ List.replicate (ops.size - n) false).toArray) = true) (htl : ∀ j, tl[j]? = ops[n + j]?)
 (hlex : ∀ i oi, ops[i]? = some oi → (∀ e ∈ oi.after, Region.binds md e = true → e.on < i) ∧ ∀ j oj, i < j → ops[j]? = some oj → (∀ e ∈ oj.after, Region.binds md e = true → e.on ≠ i) → oi.apart ops oj = true) :
 ∀ (fuel : Nat) (r : List (Nat × Oper)) (listed : Array Bool) (a : Act) (F : Tmp → World → Prop) (W : World), r.length = fuel → HeadInv md ops n listed → (∀ x ∈ r, ops[x.1]? = some x.2 ∧ x.1 < n) → (∀ j, j < n → (listed.getD j true = false ↔ ∃ o, (j, o) ∈ r)) → r.Pairwise (fun x y => x.1 < y.1) →
  UpF E w0 F → E w0 W → (∀ t, F t W) → wpG P ops E w0 G (fun a W => wpList P ops Q tl a W) (r.map (·.2)) a F → wpAny P md ops Q (fuel + tl.length) listed a W := by
 intro fuel
 induction fuel with
 | zero =>
   intro r listed a F W hl hinv _ hm _ _ h0 hF h;obtain rfl : r = [] := List.eq_nil_of_length_eq_zero hl;rw [Nat.zero_add]
   have hcan : listed = (List.replicate n true ++ List.replicate (ops.size - n) false).toArray := by
    have hz := hinv.size;refine Array.ext (by simp; omega) fun i hi hi' => ?_;simp only [List.getElem_toArray, List.getElem_append, List.length_replicate, List.getElem_replicate];by_cases hin : i < n
    · rw [dif_pos hin]
      have : ¬ listed.getD i true = false := fun hf => by
       obtain ⟨o, ho⟩ := (hm i hin).1 hf;cases ho
      simp only [Array.getD_eq_getD_getElem?, Array.getElem?_eq_getElem hi, Option.getD_some] at this
      simpa using this
    · rw [dif_neg hin]
      have := hinv.tail i (by omega) (by omega)
      simpa only [Array.getD_eq_getD_getElem?, Array.getElem?_eq_getElem hi, Option.getD_some] using this
   exact wpAny_of_seq tl n listed a W htl (by rw [hcan]; exact hseq) (h W h0 hF)
 | succ fuel ih =>
   intro r listed a F W hl hinv hop hm hp hu h0 hF h;have hz := hinv.size;rw [show fuel + 1 + tl.length = (fuel + tl.length) + 1 by omega];refine ⟨fun hr => ?_, fun j hj => ?_⟩
   · exfalso
     obtain ⟨⟨i, oi⟩, r, rfl⟩ : ∃ x r', r = x :: r' := by
      cases r with
      | nil => cases hl
      | cons x r => exact ⟨x, r, rfl⟩
     obtain ⟨hi, hin0⟩ := hop (i, oi) (List.mem_cons_self ..);have hi : ops[i]? = some oi := hi;have hin0 : i < n := hin0
     have : i ∈ Region.ready md ops listed := by
      refine mem_ready.2 ⟨(hm i hin0).2 ⟨oi, List.mem_cons_self ..⟩, oi, hi, fun e he hb => ?_⟩;have hlt := (hlex i oi hi).1 e he hb;have hin : i < ops.size := (Array.getElem?_eq_some_iff.1 hi).1
      have hne : ¬ listed.getD e.on true = false := fun hf => by
       obtain ⟨o, ho⟩ := (hm e.on (by omega)).1 hf
       rcases List.mem_cons.1 ho with ho | ho
       · cases ho; omega
       · have := (List.pairwise_cons.1 hp).1 _ ho
         simp only at this;omega
      have hsz : e.on < listed.size := by omega
      simp only [Array.getD_eq_getD_getElem?, Array.getElem?_eq_getElem hsz, Option.getD_some] at hne ⊢
      simpa using hne
     rw [hr] at this;cases this
   · obtain ⟨hun, oj, hoj, hall⟩ := mem_ready.1 hj
     have hjn : j < n := by
      rcases Nat.lt_or_ge j n with h' | h'
      · exact h'
      · obtain ⟨⟨i, oi⟩, r, rfl⟩ : ∃ x r', r = x :: r' := by
         cases r with
         | nil => cases hl
         | cons x r => exact ⟨x, r, rfl⟩
        have hin0 : i < n := (hop (i, oi) (List.mem_cons_self ..)).2;exact absurd hj (tail_waits hsink hchain hn hinv _ i rfl hin0 ((hm i hin0).2 ⟨oi, List.mem_cons_self ..⟩) j h')
     obtain ⟨oj', hmem⟩ := (hm j hjn).1 hun
     obtain rfl : oj' = oj := by have := (hop _ hmem).1; rw [hoj] at this; exact (Option.some.inj this).symm
     obtain ⟨r1, r2, rfl⟩ := List.append_of_mem hmem;have hsel := Region.noSelect_spec hs;have hsj : ∀ cs b, oj'.op ≠ .select cs b := fun cs b => hsel j oj' cs b hoj
     have hap : ∀ oi ∈ r1.map (·.2), oi.apart ops oj' = true ∧ ∀ cs b, oi.op ≠ .select cs b := by
      intro oi hoi;obtain ⟨⟨i, oi'⟩, hxm, hx2⟩ := List.mem_map.1 hoi;simp only at hx2;subst hx2;have hi : ops[i]? = some oi' := (hop (i, oi') (List.mem_append_left _ hxm)).1;have hin0 : i < n := (hop (i, oi') (List.mem_append_left _ hxm)).2;have hij : i < j := (List.pairwise_append.1 hp).2.2 _ hxm _ (List.mem_cons_self ..);refine ⟨(hlex i oi' hi).2 j oj' hij hoj fun e he hb heq => ?_, fun cs b => hsel i oi' cs b hi⟩;have h1 := hall e he hb;have h2 := (hm i hin0).2 ⟨oi', List.mem_append_left _ hxm⟩;rw [heq] at h1;have hin : i < ops.size := (Array.getElem?_eq_some_iff.1 hi).1
      have hsz : i < listed.size := by omega
      simp only [Array.getD_eq_getD_getElem?, Array.getElem?_eq_getElem hsz, Option.getD_some] at h1 h2;rw [h1] at h2;cases h2
     rw [List.map_append, List.map_cons] at h;have hsafe := wpG_safe hrefl htr hG hsj _ _ a F W hap hu h0 hF h
     have hj' : j < listed.size := by rw [hz]; exact (Array.getElem?_eq_some_iff.1 hoj).1
     have hnext : ∀ (v : Value) (p : World → Prop) (W' : World), ResG P ops E w0 G oj' a F v p → E W W' → p W' → (∀ A B, E w0 A → E A B → p A → p B) → wpAny P md ops Q (fuel + tl.length) (listed.setIfInBounds j true) (a.put oj'.dst v) W' := by
      intro v p W' hres hE hpW hpu;refine ih (r1 ++ r2) _ _ (updF F oj'.dst p) W' ?_ (hinv.set hj hjn) (fun x hx => hop x ?_) (fun k hkn => ?_) ?_ (hu.upd hpu) (htr h0 hE) (fun t => ?_) ?_
      · simp only [List.length_append, List.length_cons] at hl ⊢; omega
      · rcases List.mem_append.1 hx with hx | hx
        · exact List.mem_append_left _ hx
        · exact List.mem_append_right _ (List.mem_cons_of_mem _ hx)
      · by_cases hjk : j = k
        · subst hjk
          constructor
          · intro hk
            simp [Array.getD_eq_getD_getElem?, hj'] at hk
          · rintro ⟨o, ho⟩
            exfalso
            have hpp := List.pairwise_append.1 hp
            rcases List.mem_append.1 ho with ho | ho
            · have := hpp.2.2 _ ho _ (List.mem_cons_self ..)
              simp only at this; omega
            · have := (List.pairwise_cons.1 hpp.2.1).1 _ ho
              simp only at this; omega
        · rw [getD_set_ne true hjk, hm k hkn]
          constructor
          · rintro ⟨o, ho⟩
            rcases List.mem_append.1 ho with ho | ho
            · exact ⟨o, List.mem_append_left _ ho⟩
            · rcases List.mem_cons.1 ho with ho | ho
              · cases ho; exact absurd rfl hjk
              · exact ⟨o, List.mem_append_right _ ho⟩
          · rintro ⟨o, ho⟩
            rcases List.mem_append.1 ho with ho | ho
            · exact ⟨o, List.mem_append_left _ ho⟩
            · exact ⟨o, List.mem_append_right _ (List.mem_cons_of_mem _ ho)⟩
      · have hpp := List.pairwise_append.1 hp
        exact List.pairwise_append.2 ⟨hpp.1, (List.pairwise_cons.1 hpp.2.1).2, fun x hx y hy => hpp.2.2 x hx y (List.mem_cons_of_mem _ hy)⟩
      · unfold updF
        by_cases hd : oj'.dst = some t
        · rw [if_pos hd]; exact hpW
        · rw [if_neg hd]; exact hu t W W' h0 hE (hF t)
      · rw [List.map_append]
        exact wpG_pull hsj _ _ a F hap h hres
     unfold wpOp;simp only [hoj];by_cases hw : Region.wanted oj' (yielded ops a.tmps) = true
     · rw [if_pos hw]
       left
       have hsf := hsafe hw
       cases hg : gOf G oj' with
       | some φ =>
         rw [hg] at hsf
         have hst : ∀ u A B, E A B → φ u A → φ u B := by
          unfold gOf at hg
          cases hd : oj'.dst with
          | none => rw [hd] at hg; cases hg
          | some d => rw [hd] at hg; exact hG d φ hg
         exact grow_wp (hsf W h0 fun t _ => hF t) fun v W' hE hφ => hnext v (φ v) W' (.inr (.inl ⟨hw, φ, hg, rfl, W', htr h0 hE, hφ⟩)) hE hφ (fun A B _ hAB => hst v A B hAB)
       | none =>
         rw [hg] at hsf;obtain ⟨v, hv⟩ := hsf;have hq := hv W h0 fun t _ => hF t;exact quiet_wp hq (hnext v _ W (.inl ⟨hw, hg, rfl, W, h0, fun t _ => hF t, hq⟩) (hrefl W) (fun t _ => hF t) (hu.sees oj'))
     · rw [if_neg hw]
       exact hnext undef _ W (.inr (.inr ⟨by simpa using hw, rfl, rfl⟩)) (hrefl W) trivial (fun _ _ _ _ h => h)
theorem wp_region_LT {id : Nat} {Q : Exit → Act → World → Prop} {a : Act} {w : World} {l : List Oper} (n : Nat) (hrefl : ∀ W, E W W) (htr : ∀ {A B C}, E A B → E B C → E A C) (hm : P.follows .mixedOrders = true) (hB : Region.lexB .any l.toArray = true)
 (hsink : Region.sinkB .any l.toArray n = true) (hchain : Region.chainB .any l.toArray n = true) (hseq : Region.seqB .any l.toArray (l.drop n).length n ((List.replicate n true ++ List.replicate (l.toArray.size - n) false).toArray) = true) (hn : decide (n < l.length) = true)
 (hG : ∀ t φ, G t = some φ → ∀ v W W', E W W' → φ v W → φ v W') (hE : E w0 { w with drawn := w.drawn + 1 })
 (h : wpL P l.toArray E w0 G (fun a W => wpList P l.toArray Q (l.drop n) a W) (l.take n) a []) : (Code.region id l.toArray true).wp P Q a w := by
 have hn : n < l.length := of_decide_eq_true hn;simp only [Region.lexB, Bool.and_eq_true] at hB;refine wp_region_any hm ?_;have hx := lex_facts (ops := l.toArray) (md := .any) l.toArray.size 0 (Array.replicate l.toArray.size false) (by simp) (fun i hi _ => by omega) (fun i _ hi => by simp at hi; simp [hi]) (by omega) hB.2
 have hmap : ((List.range n).zip (l.take n)).map (·.2) = l.take n := by rw [List.map_snd_zip]; simp; omega
 have hsz : l.toArray.size = n + (l.drop n).length := by simp; omega
 have h' : wpG P l.toArray E w0 G (fun a W => wpList P l.toArray Q (l.drop n) a W) (l.take n) a (fun _ _ => True) := by
  unfold wpL at h;exact wpG_mono _ _ _ _ (fun _ _ _ _ => trivial) h
 have hzl : ((List.range n).zip (l.take n)).length = n := by simp; omega
 have key := wpG_anyT (P := P) (E := E) (w0 := w0) (G := G) (md := .any) (Q := Q) (n := n) (tl := l.drop n) hrefl htr hG hB.1 hsink hchain (by simpa using hn) hseq (fun j => by simp) (fun i oi => hx i oi (Nat.zero_le _)) n ((List.range n).zip (l.take n)) (Array.replicate l.toArray.size false) a (fun _ _ => True) { w with drawn := w.drawn + 1 } hzl ⟨by simp, fun j oj hj hl => absurd hl (by rw [getD_replicate_false]; exact Bool.false_ne_true), fun t ht ht' => by simp at ht'; simp [ht']⟩ ?_ ?_ ?_ (fun _ _ _ _ _ h => h) hE (fun _ => trivial) (by rw [hmap]; exact h')
 · have e : l.toArray.size = n + (l.drop n).length := hsz
   generalize hS : l.toArray.size = S at key e ⊢;subst e;exact key
 · intro x hx
   obtain ⟨i, hi, he⟩ := List.mem_iff_getElem.1 hx;simp only [List.length_zip, List.length_range, List.length_take] at hi;rw [List.getElem_zip, List.getElem_range] at he;subst he
   have hil : i < l.length := by omega
   refine ⟨?_, by simp; omega⟩;simp [hil]
 · intro j hjn
   have hjl : j < l.length := by omega
   constructor
   · intro _
     exact ⟨l[j], List.mem_iff_getElem.2 ⟨j, by simp; omega, by rw [List.getElem_zip, List.getElem_range]; simp⟩⟩
   · intro _
     simp [hjl]
 · have hp : (List.range n).Pairwise (· < ·) := List.pairwise_lt_range
   rw [List.pairwise_iff_getElem] at hp ⊢;intro i j hi hj hij;simp only [List.length_zip, List.length_range, List.length_take] at hi hj;simp only [List.getElem_zip, List.getElem_range];exact hij
end
section
variable {P : Program} {ops : Array Oper} {E : World → World → Prop} {w0 : World} {G : Tmp → Option (Value → World → Prop)} {C : Tmp → Option (Value → World → World → Prop)}
def cOf (C : Tmp → Option (Value → World → World → Prop)) (o : Oper) : Option (Value → World → World → Prop) := o.dst.bind C
def isC (C : Tmp → Option (Value → World → World → Prop)) (ops : Array Oper) (j : Nat) : Bool := match ops[j]? with
 | some o => (cOf C o).isSome
 | none => false
def prevC (C : Tmp → Option (Value → World → World → Prop)) (ops : Array Oper) : Nat → Option Nat
 | 0 => none
 | j + 1 => if isC C ops j then some j else prevC C ops j
def edgeB (md : Region.Mode) (ops : Array Oper) (j i : Nat) : Bool := match ops[j]? with
 | some o => o.after.toList.any fun e => Region.binds md e && (e.on == i)
 | none => false
def chainedB (md : Region.Mode) (C : Tmp → Option (Value → World → World → Prop)) (ops : Array Oper) (n : Nat) : Bool := (List.range n).all fun j => !isC C ops j || match prevC C ops j with
 | some p => edgeB md ops j p
 | none => true
theorem prevC_spec : ∀ (j : Nat), (∀ p, prevC C ops j = some p → p < j ∧ isC C ops p = true ∧ ∀ i, p < i → i < j → isC C ops i = false) ∧ (prevC C ops j = none → ∀ i, i < j → isC C ops i = false)
 | 0 => ⟨fun p h => (by cases h), fun _ i h => (by omega)⟩
 | j + 1 => by
   obtain ⟨h1, h2⟩ := prevC_spec j;unfold prevC;cases hj : isC C ops j
   · refine ⟨fun p hp => ?_, fun hn i hi => ?_⟩
     · simp only [Bool.false_eq_true, if_false] at hp
       obtain ⟨a, b, c⟩ := h1 p hp;refine ⟨by omega, b, fun i hi hij => ?_⟩
       rcases Nat.lt_succ_iff_lt_or_eq.1 hij with h | h
       · exact c i hi h
       · rw [h]; exact hj
     · simp only [Bool.false_eq_true, if_false] at hn
       rcases Nat.lt_succ_iff_lt_or_eq.1 hi with h | h
       · exact h2 hn i h
       · rw [h]; exact hj
   · refine ⟨fun p hp => ?_, fun hn => ?_⟩
     · simp only [if_true] at hp
       cases hp;exact ⟨by omega, hj, fun i hi hij => by omega⟩
     · simp at hn
theorem chain_done {md : Region.Mode} {n : Nat} {listed : Array Bool} (hc : chainedB md C ops n = true) (inv : HeadInv md ops n listed) : ∀ (j : Nat) (oj : Oper), j < n → ops[j]? = some oj → isC C ops j = true → (∀ e ∈ oj.after, Region.binds md e = true → listed.getD e.on false = true) → ∀ i, i < j → isC C ops i = true → listed.getD i false = true := by
 intro j
 induction j using Nat.strongRecOn with
 | _ j ih =>
   intro oj hjn hoj hj hall i hij hi;have hcj := List.all_eq_true.1 hc j (List.mem_range.2 hjn);rw [hj] at hcj;obtain ⟨p1, p2⟩ := prevC_spec (C := C) (ops := ops) j
   cases hp : prevC C ops j with
   | none => have := p2 hp i hij; rw [this] at hi; cases hi
   | some p =>
     rw [hp] at hcj;obtain ⟨hpj, hpc, hbt⟩ := p1 p hp;simp only [Bool.not_true, Bool.false_or, edgeB, hoj] at hcj;obtain ⟨e, he, hb⟩ := List.any_eq_true.1 hcj;simp only [Bool.and_eq_true, beq_iff_eq] at hb
     have hlp : listed.getD p false = true := by rw [← hb.2]; exact hall e (by simpa using he) hb.1
     rcases Nat.lt_trichotomy i p with h | h | h
     · obtain ⟨op, hop⟩ : ∃ o, ops[p]? = some o := by
        unfold isC at hpc
        cases ho : ops[p]? with
        | none => rw [ho] at hpc; cases hpc
        | some o => exact ⟨o, rfl⟩
       exact ih p hpj op (by omega) hop hpc (inv.closed p op hop hlp) i h hi
     · rw [h]; exact hlp
     · have := hbt i h hij; rw [this] at hi; cases hi
def wpC1 (P : Program) (ops : Array Oper) (E : World → World → Prop) (w0 : World) (G : Tmp → Option (Value → World → Prop)) (C : Tmp → Option (Value → World → World → Prop)) (o : Oper) (K : Act → (Tmp → World → Prop) → World → Prop) (a : Act) (F : Tmp → World → Prop) (Wp : World) : Prop :=
 if Region.wanted o (yielded ops a.tmps) = true then
  match cOf C o with
  | some ψ => (∀ W, E Wp W → Sees ops o F W → growAt P o a E (fun v W' => ψ v W W') W) ∧ ∀ v W W', E Wp W → E W W' → ψ v W W' → K (a.put o.dst v) (updF F o.dst fun _ => True) W'
  | none => match gOf G o with
    | some φ => (∀ W, E w0 W → Sees ops o F W → growAt P o a E φ W) ∧ ∀ v, (∃ W, E w0 W ∧ φ v W) → K (a.put o.dst v) (updF F o.dst (φ v)) Wp
    | none => ∃ v, (∀ W, E w0 W → Sees ops o F W → o.quietAt P a (fun _ => False) W v) ∧ K (a.put o.dst v) (updF F o.dst (Sees ops o F)) Wp
 else K (a.put o.dst undef) (updF F o.dst fun _ => True) Wp
def wpC (P : Program) (ops : Array Oper) (E : World → World → Prop) (w0 : World) (G : Tmp → Option (Value → World → Prop)) (C : Tmp → Option (Value → World → World → Prop)) (Q : Act → World → Prop) : List Oper → Act → (Tmp → World → Prop) → World → Prop
 | [], a, F, Wp => ∀ W, E Wp W → (∀ t, F t W) → Q a W
 | o :: l, a, F, Wp => wpC1 P ops E w0 G C o (wpC P ops E w0 G C Q l) a F Wp
theorem ResG.baseC {o : Oper} {a : Act} {F : Tmp → World → Prop} {v : Value} {p : World → Prop} {Wp : World} {K : Act → (Tmp → World → Prop) → World → Prop} (hc : cOf C o = none) (hr : ResG P ops E w0 G o a F v p) (h : wpC1 P ops E w0 G C o K a F Wp) : K (a.put o.dst v) (updF F o.dst p) Wp := by
 unfold wpC1 at h;rw [hc] at h
 rcases hr with ⟨hw, hg, rfl, W, hW, hS, hq⟩ | ⟨hw, φ, hg, rfl, hW⟩ | ⟨hw, rfl, rfl⟩
 · rw [if_pos hw, hg] at h
   obtain ⟨v', h1, h2⟩ := h;rw [quiet_det hq (h1 W hW hS)];exact h2
 · rw [if_pos hw, hg] at h
   exact h.2 v hW
 · rw [if_neg (by rw [hw]; exact Bool.false_ne_true)] at h
   exact h
theorem wpC1_put {oi : Oper} {a : Act} {F : Tmp → World → Prop} {Wp : World} {d : Option Tmp} {u : Value} {q : World → Prop} (hd : ∀ x, d = some x → x ∉ oi.looksAt ops) (hs : ∀ cs b, oi.op ≠ .select cs b) {K K' : Act → (Tmp → World → Prop) → World → Prop}
 (h : wpC1 P ops E w0 G C oi K a F Wp) (hk : ∀ v p Wq, K (a.put oi.dst v) (updF F oi.dst p) Wq → K' ((a.put d u).put oi.dst v) (updF (updF F d q) oi.dst p) Wq) : wpC1 P ops E w0 G C oi K' (a.put d u) (updF F d q) Wp := by
 unfold wpC1 growAt Oper.quietAt at *
 rw [updF_sees hd, wanted_put oi a d u hd, execOp_put oi hs a d u hd];by_cases hw : Region.wanted oi (yielded ops a.tmps) = true
 · rw [if_pos hw] at h ⊢
   cases hc : cOf C oi with
   | some ψ =>
     rw [hc] at h;exact ⟨h.1, fun v W W' h1 h2 h3 => hk _ _ _ (h.2 v W W' h1 h2 h3)⟩
   | none =>
     rw [hc] at h
     cases hg : gOf G oi with
     | some φ =>
       rw [hg] at h;exact ⟨h.1, fun v hv => hk _ _ _ (h.2 v hv)⟩
     | none =>
       rw [hg] at h;obtain ⟨v, h1, h2⟩ := h;exact ⟨v, h1, hk _ _ _ h2⟩
 · rw [if_neg hw] at h ⊢
   exact hk _ _ _ h
theorem wpC1_putC {oi : Oper} {a : Act} {F : Tmp → World → Prop} {Wp Wr : World} {d : Option Tmp} {u : Value} {q : World → Prop} (hc : cOf C oi = none) (hd : ∀ x, d = some x → x ∉ oi.looksAt ops) (hs : ∀ cs b, oi.op ≠ .select cs b) {K K' : Act → (Tmp → World → Prop) → World → Prop}
 (h : wpC1 P ops E w0 G C oi K a F Wp) (hk : ∀ v p, K (a.put oi.dst v) (updF F oi.dst p) Wp → K' ((a.put d u).put oi.dst v) (updF (updF F d q) oi.dst p) Wr) : wpC1 P ops E w0 G C oi K' (a.put d u) (updF F d q) Wr := by
 unfold wpC1 growAt Oper.quietAt at *
 rw [updF_sees hd, wanted_put oi a d u hd, execOp_put oi hs a d u hd, hc];rw [hc] at h;by_cases hw : Region.wanted oi (yielded ops a.tmps) = true
 · rw [if_pos hw] at h ⊢
   cases hg : gOf G oi with
   | some φ =>
     rw [hg] at h;exact ⟨h.1, fun v hv => hk _ _ (h.2 v hv)⟩
   | none =>
     rw [hg] at h;obtain ⟨v, h1, h2⟩ := h;exact ⟨v, h1, hk _ _ h2⟩
 · rw [if_neg hw] at h ⊢
   exact hk _ _ h
theorem wpC_pull {Q : Act → World → Prop} {oj : Oper} {v : Value} {p : World → Prop} (hcj : cOf C oj = none) (hsj : ∀ cs b, oj.op ≠ .select cs b) : ∀ (l1 l2 : List Oper) (a : Act) (F : Tmp → World → Prop) (Wp : World), (∀ oi ∈ l1, oi.apart ops oj = true ∧ ∀ cs b, oi.op ≠ .select cs b) →
 wpC P ops E w0 G C Q (l1 ++ oj :: l2) a F Wp → ResG P ops E w0 G oj a F v p → wpC P ops E w0 G C Q (l1 ++ l2) (a.put oj.dst v) (updF F oj.dst p) Wp
 | [], _, _, _, _, _, h, hr => hr.baseC hcj h
 | oi :: l1, l2, a, F, Wp, hap, h, hr => by
   obtain ⟨hh, hsi⟩ := hap oi (List.mem_cons_self ..);obtain ⟨h1, h2, h3⟩ := Oper.apart_spec hh;refine wpC1_put h3 hsi (K := wpC P ops E w0 G C Q (l1 ++ oj :: l2)) h fun vi pi Wq hK => ?_;have := wpC_pull hcj hsj l1 l2 _ _ _ (fun o ho => hap o (List.mem_cons_of_mem _ ho)) hK (hr.put h1 hsj);rw [Act.put_comm a vi v h2, updF_comm pi p h2] at this;exact this
theorem wpC_pullC {Q : Act → World → Prop} {oj : Oper} {v : Value} {ψ : Value → World → World → Prop} {W W' : World} (hcj : cOf C oj = some ψ) (hsj : ∀ cs b, oj.op ≠ .select cs b) : ∀ (l1 l2 : List Oper) (a : Act) (F : Tmp → World → Prop) (Wp : World), (∀ oi ∈ l1, oi.apart ops oj = true ∧ ∀ cs b, oi.op ≠ .select cs b) → (∀ oi ∈ l1, cOf C oi = none) →
 wpC P ops E w0 G C Q (l1 ++ oj :: l2) a F Wp → Region.wanted oj (yielded ops a.tmps) = true → E Wp W → E W W' → ψ v W W' → wpC P ops E w0 G C Q (l1 ++ l2) (a.put oj.dst v) (updF F oj.dst fun _ => True) W'
 | [], l2, a, F, Wp, _, _, h, hw, h1, h2, h3 => by
   have h : wpC1 P ops E w0 G C oj (wpC P ops E w0 G C Q l2) a F Wp := h;unfold wpC1 at h;rw [if_pos hw, hcj] at h;exact h.2 v W W' h1 h2 h3
 | oi :: l1, l2, a, F, Wp, hap, hcn, h, hw, g1, g2, g3 => by
   obtain ⟨hh, hsi⟩ := hap oi (List.mem_cons_self ..);obtain ⟨h1, h2, h3⟩ := Oper.apart_spec hh;refine wpC1_putC (hcn oi (List.mem_cons_self ..)) h3 hsi (K := wpC P ops E w0 G C Q (l1 ++ oj :: l2)) h fun vi pi hK => ?_;have := wpC_pullC hcj hsj l1 l2 _ _ _ (fun o ho => hap o (List.mem_cons_of_mem _ ho)) (fun o ho => hcn o (List.mem_cons_of_mem _ ho)) hK (by rw [wanted_put oj a _ _ h1]; exact hw) g1 g2 g3;rw [Act.put_comm a vi v h2, updF_comm pi _ h2] at this;exact this
def SafeC (P : Program) (ops : Array Oper) (E : World → World → Prop) (w0 : World) (G : Tmp → Option (Value → World → Prop)) (C : Tmp → Option (Value → World → World → Prop)) (o : Oper) (a : Act) (F : Tmp → World → Prop) (W : World) : Prop :=
 Region.wanted o (yielded ops a.tmps) = true → match cOf C o with
  | some ψ => Sees ops o F W → growAt P o a E (fun v W' => ψ v W W') W
  | none => match gOf G o with
    | some φ => ∀ W, E w0 W → Sees ops o F W → growAt P o a E φ W
    | none => ∃ v, ∀ W, E w0 W → Sees ops o F W → o.quietAt P a (fun _ => False) W v
theorem SafeC.put {oj : Oper} {a : Act} {F : Tmp → World → Prop} {W : World} {d : Option Tmp} {u : Value} {q : World → Prop} (hd : ∀ x, d = some x → x ∉ oj.looksAt ops) (hs : ∀ cs b, oj.op ≠ .select cs b)
 (h : SafeC P ops E w0 G C oj (a.put d u) (updF F d q) W) : SafeC P ops E w0 G C oj a F W := by
 unfold SafeC growAt Oper.quietAt at *
 rwa [updF_sees hd, wanted_put oj a d u hd, execOp_put oj hs a d u hd] at h
theorem wpC_safe {Q : Act → World → Prop} {oj : Oper} (hrefl : ∀ W, E W W) (htr : ∀ {A B C}, E A B → E B C → E A C) (hG : ∀ t φ, G t = some φ → ∀ v W W', E W W' → φ v W → φ v W') (hsj : ∀ cs b, oj.op ≠ .select cs b) :
 ∀ (l1 l2 : List Oper) (a : Act) (F : Tmp → World → Prop) (Wp W : World), (∀ oi ∈ l1, oi.apart ops oj = true ∧ ∀ cs b, oi.op ≠ .select cs b) → UpF E w0 F → E w0 Wp → E Wp W → (∀ t, F t W) →
 wpC P ops E w0 G C Q (l1 ++ oj :: l2) a F Wp → (∃ W', E W W' ∧ SafeC P ops E w0 G C oj a F W') ∧ ((∀ oi ∈ l1, cOf C oi = none) → ∀ W', E Wp W' → SafeC P ops E w0 G C oj a F W')
 | [], l2, a, F, Wp, W, _, _, _, hpW, _, h => by
   have h : wpC1 P ops E w0 G C oj (wpC P ops E w0 G C Q l2) a F Wp := h
   have hh : ∀ W', E Wp W' → SafeC P ops E w0 G C oj a F W' := by
    intro W' hpW' hw;unfold wpC1 at h;rw [if_pos hw] at h
    cases hc : cOf C oj with
    | some ψ => rw [hc] at h; exact h.1 W' hpW'
    | none =>
      rw [hc] at h
      cases hg : gOf G oj with
      | some φ => rw [hg] at h; exact h.1
      | none => rw [hg] at h; obtain ⟨v, h1, _⟩ := h; exact ⟨v, h1⟩
   exact ⟨⟨W, hrefl W, hh W hpW⟩, fun _ => hh⟩
 | oi :: l1, l2, a, F, Wp, W, hap, hu, h0p, hpW, hF, h => by
   obtain ⟨hh, hsi⟩ := hap oi (List.mem_cons_self ..);obtain ⟨h1, h2, h3⟩ := Oper.apart_spec hh;have h : wpC1 P ops E w0 G C oi (wpC P ops E w0 G C Q (l1 ++ oj :: l2)) a F Wp := h;have hap' : ∀ o ∈ l1, o.apart ops oj = true ∧ ∀ cs b, o.op ≠ .select cs b := fun o ho => hap o (List.mem_cons_of_mem _ ho);have h0 : E w0 W := htr h0p hpW
   have hlift : ∀ {d : Option Tmp} {u : Value} {q : World → Prop} {V : World}, (∀ x, d = some x → x ∉ oj.looksAt ops) → E W V → ((∃ W', E V W' ∧ SafeC P ops E w0 G C oj (a.put d u) (updF F d q) W') ∧ ((∀ o ∈ l1, cOf C o = none) → ∀ W', E Wp W' → SafeC P ops E w0 G C oj (a.put d u) (updF F d q) W')) →
    (∃ W', E W W' ∧ SafeC P ops E w0 G C oj a F W') ∧ ((∀ o ∈ oi :: l1, cOf C o = none) → ∀ W', E Wp W' → SafeC P ops E w0 G C oj a F W') := by
    intro d u q V hd hV hx;obtain ⟨⟨W', hE, hS⟩, hx2⟩ := hx;exact ⟨⟨W', htr hV hE, hS.put hd hsj⟩, fun hn W' hW' => (hx2 (fun o ho => hn o (List.mem_cons_of_mem _ ho)) W' hW').put hd hsj⟩
   unfold wpC1 at h;by_cases hw : Region.wanted oi (yielded ops a.tmps) = true
   · rw [if_pos hw] at h
     cases hc : cOf C oi with
     | some ψ =>
       rw [hc] at h;obtain ⟨v, W', hE, hφ⟩ := grow_some (h.1 W hpW fun t _ => hF t);have hrec := wpC_safe hrefl htr hG hsj l1 l2 _ _ W' W' hap' (hu.upd fun _ _ _ _ h => h) (htr h0 hE) (hrefl W') (fun t => ?_) (h.2 v W W' hpW hE hφ)
       · obtain ⟨⟨W'', hE2, hS⟩, _⟩ := hrec
         exact ⟨⟨W'', htr hE hE2, hS.put h1 hsj⟩, fun hn => by have := hn oi (List.mem_cons_self ..); rw [hc] at this; cases this⟩
       · unfold updF
         by_cases hd : oi.dst = some t
         · rw [if_pos hd]; trivial
         · rw [if_neg hd]; exact hu t W W' h0 hE (hF t)
     | none =>
       rw [hc] at h
       cases hg : gOf G oi with
       | some φ =>
         rw [hg] at h;obtain ⟨v, W', hE, hφ⟩ := grow_some (h.1 W h0 fun t _ => hF t)
         have hst : ∀ u A B, E A B → φ u A → φ u B := by
          unfold gOf at hg
          cases hd : oi.dst with
          | none => rw [hd] at hg; cases hg
          | some d => rw [hd] at hg; exact hG d φ hg
         refine hlift h1 hE (wpC_safe hrefl htr hG hsj l1 l2 _ _ Wp W' hap' (hu.upd fun A B _ hAB => hst v A B hAB) h0p (htr hpW hE) (fun t => ?_) (h.2 v ⟨W', htr h0 hE, hφ⟩));unfold updF;by_cases hd : oi.dst = some t
         · rw [if_pos hd]; exact hφ
         · rw [if_neg hd]; exact hu t W W' h0 hE (hF t)
       | none =>
         rw [hg] at h;obtain ⟨v, hq, hr⟩ := h;refine hlift h1 (hrefl W) (wpC_safe hrefl htr hG hsj l1 l2 _ _ Wp W hap' (hu.upd (hu.sees oi)) h0p hpW (fun t => ?_) hr);unfold updF;by_cases hd : oi.dst = some t
         · rw [if_pos hd]; exact fun t _ => hF t
         · rw [if_neg hd]; exact hF t
   · rw [if_neg hw] at h
     refine hlift h1 (hrefl W) (wpC_safe hrefl htr hG hsj l1 l2 _ _ Wp W hap' (hu.upd fun _ _ _ _ h => h) h0p hpW (fun t => ?_) h);unfold updF;by_cases hd : oi.dst = some t
     · rw [if_pos hd]; trivial
     · rw [if_neg hd]; exact hF t
theorem wpC_pullS {Q : Act → World → Prop} {oj : Oper} (hsj : ∀ cs b, oj.op ≠ .select cs b) : ∀ (l1 l2 : List Oper) (a : Act) (F : Tmp → World → Prop) (Wp : World), (∀ oi ∈ l1, oi.apart ops oj = true ∧ ∀ cs b, oi.op ≠ .select cs b) →
 wpC P ops E w0 G C Q (l1 ++ oj :: l2) a F Wp → Region.wanted oj (yielded ops a.tmps) = false → wpC P ops E w0 G C Q (l1 ++ l2) (a.put oj.dst undef) (updF F oj.dst fun _ => True) Wp
 | [], l2, a, F, Wp, _, h, hw => by
   have h : wpC1 P ops E w0 G C oj (wpC P ops E w0 G C Q l2) a F Wp := h;unfold wpC1 at h;rw [if_neg (by rw [hw]; exact Bool.false_ne_true)] at h;exact h
 | oi :: l1, l2, a, F, Wp, hap, h, hw => by
   obtain ⟨hh, hsi⟩ := hap oi (List.mem_cons_self ..);obtain ⟨h1, h2, h3⟩ := Oper.apart_spec hh;refine wpC1_put h3 hsi (K := wpC P ops E w0 G C Q (l1 ++ oj :: l2)) h fun vi pi Wq hK => ?_;have := wpC_pullS hsj l1 l2 _ _ _ (fun o ho => hap o (List.mem_cons_of_mem _ ho)) hK (by rw [wanted_put oj a _ _ h1]; exact hw);rw [Act.put_comm a vi undef h2, updF_comm pi _ h2] at this;exact this
theorem wpC_anyT {md : Region.Mode} {Q : Exit → Act → World → Prop} {n : Nat} {tl : List Oper} (hrefl : ∀ W, E W W) (htr : ∀ {A B C}, E A B → E B C → E A C) (hG : ∀ t φ, G t = some φ → ∀ v W W', E W W' → φ v W → φ v W') (hs : Region.noSelect ops = true)
 (hsink : Region.sinkB md ops n = true) (hchain : Region.chainB md ops n = true) (hcc : chainedB md C ops n = true) (hn : n < ops.size) (hseq : Region.seqB md ops tl.length n ((List.replicate n true ++ List.replicate (ops.size - n) false).toArray) = true) (htl : ∀ j, tl[j]? = ops[n + j]?)
 (hlex : ∀ i oi, ops[i]? = some oi → (∀ e ∈ oi.after, Region.binds md e = true → e.on < i) ∧ ∀ j oj, i < j → ops[j]? = some oj → (∀ e ∈ oj.after, Region.binds md e = true → e.on ≠ i) → oi.apart ops oj = true) :
 ∀ (fuel : Nat) (r : List (Nat × Oper)) (listed : Array Bool) (a : Act) (F : Tmp → World → Prop) (Wp W : World), r.length = fuel → HeadInv md ops n listed → (∀ x ∈ r, ops[x.1]? = some x.2 ∧ x.1 < n) → (∀ j, j < n → (listed.getD j true = false ↔ ∃ o, (j, o) ∈ r)) → r.Pairwise (fun x y => x.1 < y.1) →
  UpF E w0 F → E w0 Wp → E Wp W → (∀ t, F t W) → wpC P ops E w0 G C (fun a W => wpList P ops Q tl a W) (r.map (·.2)) a F Wp → wpAny P md ops Q (fuel + tl.length) listed a W := by
 intro fuel
 induction fuel with
 | zero =>
   intro r listed a F Wp W hl hinv _ hm _ _ h0p hpW hF h;obtain rfl : r = [] := List.eq_nil_of_length_eq_zero hl;rw [Nat.zero_add]
   have hcan : listed = (List.replicate n true ++ List.replicate (ops.size - n) false).toArray := by
    have hz := hinv.size;refine Array.ext (by simp; omega) fun i hi hi' => ?_;simp only [List.getElem_toArray, List.getElem_append, List.length_replicate, List.getElem_replicate];by_cases hin : i < n
    · rw [dif_pos hin]
      have : ¬ listed.getD i true = false := fun hf => by
       obtain ⟨o, ho⟩ := (hm i hin).1 hf;cases ho
      simp only [Array.getD_eq_getD_getElem?, Array.getElem?_eq_getElem hi, Option.getD_some] at this
      simpa using this
    · rw [dif_neg hin]
      have := hinv.tail i (by omega) (by omega)
      simpa only [Array.getD_eq_getD_getElem?, Array.getElem?_eq_getElem hi, Option.getD_some] using this
   exact wpAny_of_seq tl n listed a W htl (by rw [hcan]; exact hseq) (h W hpW hF)
 | succ fuel ih =>
   intro r listed a F Wp W hl hinv hop hm hp hu h0p hpW hF h;have h0 : E w0 W := htr h0p hpW;have hz := hinv.size;rw [show fuel + 1 + tl.length = (fuel + tl.length) + 1 by omega];refine ⟨fun hr => ?_, fun j hj => ?_⟩
   · exfalso
     obtain ⟨⟨i, oi⟩, r, rfl⟩ : ∃ x r', r = x :: r' := by
      cases r with
      | nil => cases hl
      | cons x r => exact ⟨x, r, rfl⟩
     obtain ⟨hi, hin0⟩ := hop (i, oi) (List.mem_cons_self ..);have hi : ops[i]? = some oi := hi;have hin0 : i < n := hin0
     have : i ∈ Region.ready md ops listed := by
      refine mem_ready.2 ⟨(hm i hin0).2 ⟨oi, List.mem_cons_self ..⟩, oi, hi, fun e he hb => ?_⟩;have hlt := (hlex i oi hi).1 e he hb;have hin : i < ops.size := (Array.getElem?_eq_some_iff.1 hi).1
      have hne : ¬ listed.getD e.on true = false := fun hf => by
       obtain ⟨o, ho⟩ := (hm e.on (by omega)).1 hf
       rcases List.mem_cons.1 ho with ho | ho
       · cases ho; omega
       · have := (List.pairwise_cons.1 hp).1 _ ho
         simp only at this;omega
      have hsz : e.on < listed.size := by omega
      simp only [Array.getD_eq_getD_getElem?, Array.getElem?_eq_getElem hsz, Option.getD_some] at hne ⊢
      simpa using hne
     rw [hr] at this;cases this
   · obtain ⟨hun, oj, hoj, hall⟩ := mem_ready.1 hj
     have hjn : j < n := by
      rcases Nat.lt_or_ge j n with h' | h'
      · exact h'
      · obtain ⟨⟨i, oi⟩, r, rfl⟩ : ∃ x r', r = x :: r' := by
         cases r with
         | nil => cases hl
         | cons x r => exact ⟨x, r, rfl⟩
        have hin0 : i < n := (hop (i, oi) (List.mem_cons_self ..)).2;exact absurd hj (tail_waits hsink hchain hn hinv _ i rfl hin0 ((hm i hin0).2 ⟨oi, List.mem_cons_self ..⟩) j h')
     obtain ⟨oj', hmem⟩ := (hm j hjn).1 hun
     obtain rfl : oj' = oj := by have := (hop _ hmem).1; rw [hoj] at this; exact (Option.some.inj this).symm
     obtain ⟨r1, r2, rfl⟩ := List.append_of_mem hmem;have hsel := Region.noSelect_spec hs;have hsj : ∀ cs b, oj'.op ≠ .select cs b := fun cs b => hsel j oj' cs b hoj
     have hap : ∀ oi ∈ r1.map (·.2), oi.apart ops oj' = true ∧ ∀ cs b, oi.op ≠ .select cs b := by
      intro oi hoi;obtain ⟨⟨i, oi'⟩, hxm, hx2⟩ := List.mem_map.1 hoi;simp only at hx2;subst hx2;have hi : ops[i]? = some oi' := (hop (i, oi') (List.mem_append_left _ hxm)).1;have hin0 : i < n := (hop (i, oi') (List.mem_append_left _ hxm)).2;have hij : i < j := (List.pairwise_append.1 hp).2.2 _ hxm _ (List.mem_cons_self ..);refine ⟨(hlex i oi' hi).2 j oj' hij hoj fun e he hb heq => ?_, fun cs b => hsel i oi' cs b hi⟩;have h1 := hall e he hb;have h2 := (hm i hin0).2 ⟨oi', List.mem_append_left _ hxm⟩;rw [heq] at h1;have hin : i < ops.size := (Array.getElem?_eq_some_iff.1 hi).1
      have hsz : i < listed.size := by omega
      simp only [Array.getD_eq_getD_getElem?, Array.getElem?_eq_getElem hsz, Option.getD_some] at h1 h2;rw [h1] at h2;cases h2
     rw [List.map_append, List.map_cons] at h;have hsafe := wpC_safe hrefl htr hG hsj _ _ a F Wp W hap hu h0p hpW hF h
     have hj' : j < listed.size := by rw [hz]; exact (Array.getElem?_eq_some_iff.1 hoj).1
     have hrest : ∀ (v : Value) (p : World → Prop) (Wq W' : World), E w0 Wq → E Wq W' → E W W' → p W' → (∀ A B, E w0 A → E A B → p A → p B) → wpC P ops E w0 G C (fun a W => wpList P ops Q tl a W) (r1.map (·.2) ++ r2.map (·.2)) (a.put oj'.dst v) (updF F oj'.dst p) Wq → wpAny P md ops Q (fuel + tl.length) (listed.setIfInBounds j true) (a.put oj'.dst v) W' := by
      intro v p Wq W' h0q hqW hE hpW' hpu hwp;refine ih (r1 ++ r2) _ _ (updF F oj'.dst p) Wq W' ?_ (hinv.set hj hjn) (fun x hx => hop x ?_) (fun k hkn => ?_) ?_ (hu.upd hpu) h0q hqW (fun t => ?_) ?_
      · simp only [List.length_append, List.length_cons] at hl ⊢; omega
      · rcases List.mem_append.1 hx with hx | hx
        · exact List.mem_append_left _ hx
        · exact List.mem_append_right _ (List.mem_cons_of_mem _ hx)
      · by_cases hjk : j = k
        · subst hjk
          constructor
          · intro hk
            simp [Array.getD_eq_getD_getElem?, hj'] at hk
          · rintro ⟨o, ho⟩
            exfalso
            have hpp := List.pairwise_append.1 hp
            rcases List.mem_append.1 ho with ho | ho
            · have := hpp.2.2 _ ho _ (List.mem_cons_self ..)
              simp only at this; omega
            · have := (List.pairwise_cons.1 hpp.2.1).1 _ ho
              simp only at this; omega
        · rw [getD_set_ne true hjk, hm k hkn]
          constructor
          · rintro ⟨o, ho⟩
            rcases List.mem_append.1 ho with ho | ho
            · exact ⟨o, List.mem_append_left _ ho⟩
            · rcases List.mem_cons.1 ho with ho | ho
              · cases ho; exact absurd rfl hjk
              · exact ⟨o, List.mem_append_right _ ho⟩
          · rintro ⟨o, ho⟩
            rcases List.mem_append.1 ho with ho | ho
            · exact ⟨o, List.mem_append_left _ ho⟩
            · exact ⟨o, List.mem_append_right _ (List.mem_cons_of_mem _ ho)⟩
      · have hpp := List.pairwise_append.1 hp
        exact List.pairwise_append.2 ⟨hpp.1, (List.pairwise_cons.1 hpp.2.1).2, fun x hx y hy => hpp.2.2 x hx y (List.mem_cons_of_mem _ hy)⟩
      · unfold updF
        by_cases hd : oj'.dst = some t
        · rw [if_pos hd]; exact hpW'
        · rw [if_neg hd]; exact hu t W W' h0 hE (hF t)
      · rw [List.map_append]
        exact hwp
     have hnext : cOf C oj' = none → ∀ (v : Value) (p : World → Prop) (W' : World), ResG P ops E w0 G oj' a F v p → E W W' → p W' → (∀ A B, E w0 A → E A B → p A → p B) → wpAny P md ops Q (fuel + tl.length) (listed.setIfInBounds j true) (a.put oj'.dst v) W' := by
      intro hcn v p W' hres hE hpW' hpu;exact hrest v p Wp W' h0p (htr hpW hE) hE hpW' hpu (wpC_pull hcn hsj _ _ a F Wp hap h hres)
     unfold wpOp;simp only [hoj]
     cases hc : cOf C oj' with
     | some ψ =>
       have hjc : isC C ops j = true := by unfold isC; rw [hoj]; simp [hc]
       have hnone : ∀ oi ∈ r1.map (·.2), cOf C oi = none := by
        intro oi hoi;obtain ⟨⟨i, oi'⟩, hxm, hx2⟩ := List.mem_map.1 hoi;simp only at hx2;subst hx2;have hi : ops[i]? = some oi' := (hop (i, oi') (List.mem_append_left _ hxm)).1;have hin0 : i < n := (hop (i, oi') (List.mem_append_left _ hxm)).2;have hij : i < j := (List.pairwise_append.1 hp).2.2 _ hxm _ (List.mem_cons_self ..)
        cases hci : cOf C oi' with
        | none => rfl
        | some ψ' =>
          exfalso
          have hic : isC C ops i = true := by unfold isC; rw [hi]; simp [hci]
          have hall' : ∀ e ∈ oj'.after, Region.binds md e = true → listed.getD e.on false = true := hall;have h1 := chain_done hcc hinv j oj' hjn hoj hjc hall' i hij hic;have h2 := (hm i hin0).2 ⟨oi', List.mem_append_left _ hxm⟩;have hin : i < ops.size := (Array.getElem?_eq_some_iff.1 hi).1
          have hsz : i < listed.size := by omega
          simp only [Array.getD_eq_getD_getElem?, Array.getElem?_eq_getElem hsz, Option.getD_some] at h1 h2;rw [h1] at h2;cases h2
       by_cases hw : Region.wanted oj' (yielded ops a.tmps) = true
       · rw [if_pos hw]
         left
         have hsf := hsafe.2 hnone W hpW hw;rw [hc] at hsf;exact grow_wp (hsf fun t _ => hF t) fun v W' hE hψ => hrest v (fun _ => True) W' W' (htr h0 hE) (hrefl W') hE trivial (fun _ _ _ _ h => h) (wpC_pullC hc hsj _ _ a F Wp hap hnone h hw hpW hE hψ)
       · rw [if_neg hw]
         refine hrest undef (fun _ => True) Wp W h0p hpW (hrefl W) trivial (fun _ _ _ _ h => h) ?_;exact wpC_pullS hsj _ _ a F Wp hap h (by simpa using hw)
     | none =>
     by_cases hw : Region.wanted oj' (yielded ops a.tmps) = true
     · rw [if_pos hw]
       left
       obtain ⟨⟨V, _, hsf⟩, _⟩ := hsafe;have hsf := hsf hw;rw [hc] at hsf
       cases hg : gOf G oj' with
       | some φ =>
         rw [hg] at hsf
         have hst : ∀ u A B, E A B → φ u A → φ u B := by
          unfold gOf at hg
          cases hd : oj'.dst with
          | none => rw [hd] at hg; cases hg
          | some d => rw [hd] at hg; exact hG d φ hg
         exact grow_wp (hsf W h0 fun t _ => hF t) fun v W' hE hφ => hnext hc v (φ v) W' (.inr (.inl ⟨hw, φ, hg, rfl, W', htr h0 hE, hφ⟩)) hE hφ (fun A B _ hAB => hst v A B hAB)
       | none =>
         rw [hg] at hsf;obtain ⟨v, hv⟩ := hsf;have hq := hv W h0 fun t _ => hF t;exact quiet_wp hq (hnext hc v _ W (.inl ⟨hw, hg, rfl, W, h0, fun t _ => hF t, hq⟩) (hrefl W) (fun t _ => hF t) (hu.sees oj'))
     · rw [if_neg hw]
       exact hnext hc undef _ W (.inr (.inr ⟨by simpa using hw, rfl, rfl⟩)) (hrefl W) trivial (fun _ _ _ _ h => h)
theorem wpC_mono {Q : Act → World → Prop} (htr : ∀ {A B C}, E A B → E B C → E A C) : ∀ (l : List Oper) (a : Act) (F F' : Tmp → World → Prop) (Wp : World), E w0 Wp → (∀ t W, E w0 W → F t W → F' t W) → wpC P ops E w0 G C Q l a F' Wp → wpC P ops E w0 G C Q l a F Wp
 | [], _, _, _, Wp, h0p, hi, h => fun W hpW hF => h W hpW fun t => hi t W (htr h0p hpW) (hF t)
 | o :: l, a, F, F', Wp, h0p, hi, h => by
   have h : wpC1 P ops E w0 G C o (wpC P ops E w0 G C Q l) a F' Wp := h;show wpC1 P ops E w0 G C o (wpC P ops E w0 G C Q l) a F Wp;have hs : ∀ W, E w0 W → Sees ops o F W → Sees ops o F' W := fun W h0 hS t ht => hi t W h0 (hS t ht)
   unfold wpC1 at *
   by_cases hw : Region.wanted o (yielded ops a.tmps) = true
   · rw [if_pos hw] at *
     cases hc : cOf C o with
     | some ψ =>
       rw [hc] at h;exact ⟨fun W hpW hS => h.1 W hpW (hs W (htr h0p hpW) hS), fun v W W' h1 h2 h3 => wpC_mono htr l _ _ _ W' (htr h0p (htr h1 h2)) (updF_mono hi fun _ _ h => h) (h.2 v W W' h1 h2 h3)⟩
     | none =>
       rw [hc] at h
       cases hg : gOf G o with
       | some φ =>
         rw [hg] at h;exact ⟨fun W h0 hS => h.1 W h0 (hs W h0 hS), fun v hv => wpC_mono htr l _ _ _ Wp h0p (updF_mono hi fun _ _ h => h) (h.2 v hv)⟩
       | none =>
         rw [hg] at h;obtain ⟨v, h1, h2⟩ := h;exact ⟨v, fun W h0 hS => h1 W h0 (hs W h0 hS), wpC_mono htr l _ _ _ Wp h0p (updF_mono hi hs) h2⟩
   · rw [if_neg hw] at *
     exact wpC_mono htr l _ _ _ Wp h0p (updF_mono hi fun _ _ h => h) h
def wpM (P : Program) (ops : Array Oper) (E : World → World → Prop) (w0 : World) (G : Tmp → Option (Value → World → Prop)) (C : Tmp → Option (Value → World → World → Prop)) (Q : Act → World → Prop) (l : List Oper) (a : Act) (L : List (Tmp × (World → Prop))) (Wp : World) : Prop := wpC P ops E w0 G C Q l a (FL L) Wp
section
variable {Q : Act → World → Prop} {o : Oper} {rest : List Oper} {a : Act} {L : List (Tmp × (World → Prop))} {Wp : World}
theorem wpM_drop {d : Option Tmp} {p : World → Prop} (htr : ∀ {A B C}, E A B → E B C → E A C) (h0p : E w0 Wp) (hf : freshL L d = true) (h : wpM P ops E w0 G C Q rest a L Wp) : wpC P ops E w0 G C Q rest a (updF (FL L) d p) Wp := by
 refine wpC_mono (E := E) htr _ _ _ _ Wp h0p (fun t W _ hF => ?_) h;unfold updF at hF;by_cases hd : d = some t
 · subst hd
   exact FL_fresh L t W hf
 · rwa [if_neg hd] at hF
end
theorem wp_region_CT {id : Nat} {Q : Exit → Act → World → Prop} {a : Act} {w : World} {l : List Oper} (n : Nat) (hrefl : ∀ W, E W W) (htr : ∀ {A B C}, E A B → E B C → E A C) (hm : P.follows .mixedOrders = true) (hB : Region.lexB .any l.toArray = true)
 (hsink : Region.sinkB .any l.toArray n = true) (hchain : Region.chainB .any l.toArray n = true) (hcc : chainedB .any C l.toArray n = true) (hseq : Region.seqB .any l.toArray (l.drop n).length n ((List.replicate n true ++ List.replicate (l.toArray.size - n) false).toArray) = true) (hn : decide (n < l.length) = true)
 (hG : ∀ t φ, G t = some φ → ∀ v W W', E W W' → φ v W → φ v W') (hE : E w0 { w with drawn := w.drawn + 1 })
 (h : wpM P l.toArray E w0 G C (fun a W => wpList P l.toArray Q (l.drop n) a W) (l.take n) a [] w0) : (Code.region id l.toArray true).wp P Q a w := by
 have hn : n < l.length := of_decide_eq_true hn;simp only [Region.lexB, Bool.and_eq_true] at hB;refine wp_region_any hm ?_;have hx := lex_facts (ops := l.toArray) (md := .any) l.toArray.size 0 (Array.replicate l.toArray.size false) (by simp) (fun i hi _ => by omega) (fun i _ hi => by simp at hi; simp [hi]) (by omega) hB.2
 have hmap : ((List.range n).zip (l.take n)).map (·.2) = l.take n := by rw [List.map_snd_zip]; simp; omega
 have hsz : l.toArray.size = n + (l.drop n).length := by simp; omega
 have h' : wpC P l.toArray E w0 G C (fun a W => wpList P l.toArray Q (l.drop n) a W) (l.take n) a (fun _ _ => True) w0 := by
  unfold wpM at h;exact wpC_mono (E := E) htr _ _ _ _ w0 (hrefl w0) (fun _ _ _ _ => trivial) h
 have hzl : ((List.range n).zip (l.take n)).length = n := by simp; omega
 have key := wpC_anyT (P := P) (E := E) (w0 := w0) (G := G) (C := C) (md := .any) (Q := Q) (n := n) (tl := l.drop n) hrefl htr hG hB.1 hsink hchain hcc (by simpa using hn) hseq (fun j => by simp) (fun i oi => hx i oi (Nat.zero_le _)) n ((List.range n).zip (l.take n)) (Array.replicate l.toArray.size false) a (fun _ _ => True) w0 { w with drawn := w.drawn + 1 } hzl ⟨by simp, fun j oj hj hl => absurd hl (by rw [getD_replicate_false]; exact Bool.false_ne_true), fun t ht ht' => by simp at ht'; simp [ht']⟩ ?_ ?_ ?_ (fun _ _ _ _ _ h => h) (hrefl w0) hE (fun _ => trivial) (by rw [hmap]; exact h')
 · have e : l.toArray.size = n + (l.drop n).length := hsz
   generalize hS : l.toArray.size = S at key e ⊢;subst e;exact key
 · intro x hx
   obtain ⟨i, hi, he⟩ := List.mem_iff_getElem.1 hx;simp only [List.length_zip, List.length_range, List.length_take] at hi;rw [List.getElem_zip, List.getElem_range] at he;subst he
   have hil : i < l.length := by omega
   refine ⟨?_, by simp; omega⟩;simp [hil]
 · intro j hjn
   have hjl : j < l.length := by omega
   constructor
   · intro _
     exact ⟨l[j], List.mem_iff_getElem.2 ⟨j, by simp; omega, by rw [List.getElem_zip, List.getElem_range]; simp⟩⟩
   · intro _
     simp [hjl]
 · have hp : (List.range n).Pairwise (· < ·) := List.pairwise_lt_range
   rw [List.pairwise_iff_getElem] at hp ⊢;intro i j hi hj hij;simp only [List.length_zip, List.length_range, List.length_take] at hi hj;simp only [List.getElem_zip, List.getElem_range];exact hij
section
variable {Q : Act → World → Prop} {o : Oper} {rest : List Oper} {a : Act} {L : List (Tmp × (World → Prop))} {Wp : World}
theorem wpM_nil (h : ∀ W, E Wp W → (∀ t, FL L t W) → Q a W) : wpM P ops E w0 G C Q [] a L Wp := h
theorem wpM_skip (htr : ∀ {A B C}, E A B → E B C → E A C) (h0p : E w0 Wp) (hw : Region.wanted o (yielded ops a.tmps) = false) (hf : freshL L o.dst = true) (h : wpM P ops E w0 G C Q rest (a.put o.dst undef) L Wp) : wpM P ops E w0 G C Q (o :: rest) a L Wp := by
 show wpC1 P ops E w0 G C o (wpC P ops E w0 G C Q rest) a (FL L) Wp;unfold wpC1;rw [if_neg (by rw [hw]; exact Bool.false_ne_true)];exact wpM_drop (E := E) htr h0p hf h
theorem wpM_quiet (htr : ∀ {A B C}, E A B → E B C → E A C) (h0p : E w0 Wp) (hw : Region.wanted o (yielded ops a.tmps) = true) (hc : cOf C o = none) (hg : gOf G o = none) (hf : freshL L o.dst = true) (h : ∃ v, (∀ W, E w0 W → Sees ops o (FL L) W → o.quietAt P a (fun _ => False) W v) ∧ wpM P ops E w0 G C Q rest (a.put o.dst v) L Wp) : wpM P ops E w0 G C Q (o :: rest) a L Wp := by
 show wpC1 P ops E w0 G C o (wpC P ops E w0 G C Q rest) a (FL L) Wp;obtain ⟨v, h1, h2⟩ := h;unfold wpC1;rw [if_pos hw, hc, hg];exact ⟨v, h1, wpM_drop (E := E) htr h0p hf h2⟩
theorem wpM_grow (htr : ∀ {A B C}, E A B → E B C → E A C) (h0p : E w0 Wp) {φ : Value → World → Prop} {d : Tmp} (hw : Region.wanted o (yielded ops a.tmps) = true) (hd : o.dst = some d) (hc : C d = none) (hg : G d = some φ) (h1 : ∀ W, E w0 W → Sees ops o (FL L) W → growAt P o a E φ W)
 (h2 : ∀ v W', E w0 W' → φ v W' → wpM P ops E w0 G C Q rest (a.put o.dst v) ((d, φ v) :: L) Wp) : wpM P ops E w0 G C Q (o :: rest) a L Wp := by
 show wpC1 P ops E w0 G C o (wpC P ops E w0 G C Q rest) a (FL L) Wp;unfold wpC1;rw [if_pos hw]
 have h3 : gOf G o = some φ := by unfold gOf; rw [hd]; exact hg
 have h4 : cOf C o = none := by unfold cOf; rw [hd]; exact hc
 rw [h4, h3];refine ⟨h1, fun v ⟨W', h0, hφ⟩ => wpC_mono (E := E) htr _ _ _ _ Wp h0p (fun t W _ hF => ?_) (h2 v W' h0 hφ)⟩;rw [hd] at hF;unfold updF at hF;unfold FL;by_cases he : d = t
 · rw [if_pos he]; rwa [if_pos (by rw [he])] at hF
 · rw [if_neg he]; rwa [if_neg (fun h => he (Option.some.inj h))] at hF
theorem wpM_chain (htr : ∀ {A B C}, E A B → E B C → E A C) (h0p : E w0 Wp) {ψ : Value → World → World → Prop} {d : Tmp} (hw : Region.wanted o (yielded ops a.tmps) = true) (hd : o.dst = some d) (hc : C d = some ψ) (hf : freshL L o.dst = true) (h1 : ∀ W, E Wp W → Sees ops o (FL L) W → growAt P o a E (fun v W' => ψ v W W') W)
 (h2 : ∀ v W W', E Wp W → E W W' → ψ v W W' → wpM P ops E w0 G C Q rest (a.put o.dst v) L W') : wpM P ops E w0 G C Q (o :: rest) a L Wp := by
 show wpC1 P ops E w0 G C o (wpC P ops E w0 G C Q rest) a (FL L) Wp;unfold wpC1;rw [if_pos hw]
 have h4 : cOf C o = some ψ := by unfold cOf; rw [hd]; exact hc
 rw [h4];exact ⟨h1, fun v W W' g1 g2 g3 => wpM_drop (E := E) htr (htr h0p (htr g1 g2)) hf (h2 v W W' g1 g2 g3)⟩
theorem wpM_bool {B : Bool} {d : Option Tmp} (h1 : B = true → wpM P ops E w0 G C Q rest (a.put d (.bool true)) L Wp) (h2 : B = false → wpM P ops E w0 G C Q rest (a.put d (.bool false)) L Wp) : wpM P ops E w0 G C Q rest (a.put d (.bool B)) L Wp := by
 cases B
 · exact h2 rfl
 · exact h1 rfl
end
attribute [irreducible] wpM
end
section
variable {P : Program} {ops : Array Oper} {E : World → World → Prop} {w0 : World} {G : Tmp → Option (Value → World → Prop)}
def sinkQ (md : Region.Mode) (ops : Array Oper) (n q : Nat) : Bool := (List.range n).all fun i => i == q || (List.range (n + 1)).any fun j => decide (i < j) && (j != q && Region.waitsFor md ops j i)
theorem tail_waitsQ {md : Region.Mode} {n q : Nat} {listed : Array Bool} (hs : sinkQ md ops n q = true) (hc : Region.chainB md ops n = true) (hn : n < ops.size) (hqn : q < n) (inv : HeadInv md ops n listed) :
 ∀ (d i : Nat), n - i = d → i < n → i ≠ q → listed.getD i true = false → ∀ t, n ≤ t → t ∉ Region.ready md ops listed := by
 intro d
 induction d using Nat.strongRecOn with
 | _ d ih =>
   intro i hd hi hiq hun t ht hr;obtain ⟨_, ot, hot, hall⟩ := mem_ready.1 hr;have htlt : t < ops.size := (Array.getElem?_eq_some_iff.1 hot).1;by_cases htn : t = n
   · subst htn
     have h1 := List.all_eq_true.1 hs i (List.mem_range.2 hi);rw [Bool.or_eq_true, beq_iff_eq] at h1
     rcases h1 with h1 | h1
     · exact hiq h1
     obtain ⟨j, hj, hj2⟩ := List.any_eq_true.1 h1;simp only [Bool.and_eq_true, decide_eq_true_eq, bne_iff_ne] at hj2;obtain ⟨oj, hoj, e, he, hb, hon⟩ := Region.waitsFor_spec hj2.2.2
     have hjle : j ≤ t := by have := List.mem_range.1 hj; omega
     by_cases hjt : j = t
     · subst hjt
       have : oj = ot := Option.some.inj (hoj.symm.trans hot);subst this;have h2 := hall e he hb;rw [hon, getD_both hun] at h2;cases h2
     · cases hl : listed.getD j false with
       | true =>
         have h2 := inv.closed j oj hoj hl e he hb;rw [hon, getD_both hun] at h2;cases h2
       | false =>
         have hjs : j < listed.size := by rw [inv.size]; omega
         exact ih (t - j) (by omega) j rfl (by omega) hj2.2.1 (getD_in hjs hl) t (Nat.le_refl _) hr
   · have h1 := List.all_eq_true.1 hc t (List.mem_range.2 htlt)
     simp only [Bool.or_eq_true, decide_eq_true_eq] at h1
     rcases h1 with h1 | h1
     · omega
     · obtain ⟨o', ho', e, he, hb, hon⟩ := Region.waitsFor_spec h1
       have : o' = ot := Option.some.inj (ho'.symm.trans hot);subst this;have h2 := hall e he hb;rw [hon, getD_both (inv.tail (t - 1) (by omega) (by omega))] at h2;cases h2
def RunsTo (P : Program) (o : Oper) (a : Act) (W W1 : World) : Prop := ∃ nx, (execOp a.eval o).run P W = .ok nx W1 ∧ (nx = .skip ∨ ∃ u, nx = .value u)
theorem RunsTo.wp {o : Oper} {a : Act} {W W1 : World} {K : Act → World → Prop} {Q : Exit → Act → World → Prop} (h : RunsTo P o a W W1) (hd : o.dst = none) (hk : K a W1) : o.wp P a W K Q := by
 obtain ⟨nx, hr, hx⟩ := h;unfold Oper.wp;rw [hr]
 rcases hx with rfl | ⟨u, rfl⟩
 · simp only [Oper.upon, hd]; exact hk
 · simp only [Oper.upon, hd]; exact hk
theorem pure_extract {o : Oper} {x : Operand} {i : Nat} (ho : o.op = .extract x i) : ∀ (a : Act) (W W' : World) (v : Value), o.quietAt P a (fun _ => False) W v → o.quietAt P a (fun _ => False) W' v := by
 intro a W W' v h
 unfold Oper.quietAt execOp at *
 rw [ho] at h ⊢;dsimp only at h ⊢
 unfold Instr.extract at *
 generalize a.eval x = y at *
 cases y with
 | tuple vs =>
   cases hv : vs[i]? with
   | some u =>
     simp only [hv, Sem.run_bind, Sem.run_pure, Result.andThen_ok, Oper.quietUpon] at h ⊢;exact ⟨trivial, h.2⟩
   | none =>
     exfalso
     simp only [hv] at h;simp [go_sem, stuck, Oper.quietUpon] at h
 | _ =>
   exfalso
   simp [go_sem, stuck, Oper.quietUpon] at h
def lateL (n q m : Nat) (s : Nat) : Array Bool := ((List.range s).map fun i => (decide (i < n) || decide (i < m)) && i != q).toArray
theorem wpG_anyQ {md : Region.Mode} {Q : Exit → Act → World → Prop} {n q : Nat} {oq on : Oper} {tl : List Oper} (hrefl : ∀ W, E W W) (htr : ∀ {A B C}, E A B → E B C → E A C) (hG : ∀ t φ, G t = some φ → ∀ v W W', E W W' → φ v W → φ v W') (hs : Region.noSelect ops = true)
 (hsink : sinkQ md ops n q = true) (hqn : q < n) (hq : ops[q]? = some oq) (hgq : gOf G oq = none) (hwq : oq.guard = none) (hon : ops[n]? = some on) (hdn : on.dst = none) (hwn : on.guard = none) (hapq : oq.apart ops on = true) (hpure : ∀ a W W' v, oq.quietAt P a (fun _ => False) W v → oq.quietAt P a (fun _ => False) W' v)
 (hr1 : ((Region.ready md ops (lateL n q n ops.size)).all fun j => j == q || j == n) = true) (hr2 : decide (Region.ready md ops ((lateL n q n ops.size).setIfInBounds n true) = [q]) = true) (hs2 : Region.seqB md ops tl.length (n + 1) (((lateL n q n ops.size).setIfInBounds n true).setIfInBounds q true) = true) (hchain : Region.chainB md ops n = true) (hn : n < ops.size) (hseq : Region.seqB md ops (on :: tl).length n ((List.replicate n true ++ List.replicate (ops.size - n) false).toArray) = true) (htl : ∀ j, (on :: tl)[j]? = ops[n + j]?)
 (hlex : ∀ i oi, ops[i]? = some oi → (∀ e ∈ oi.after, Region.binds md e = true → e.on < i) ∧ ∀ j oj, i < j → ops[j]? = some oj → (∀ e ∈ oj.after, Region.binds md e = true → e.on ≠ i) → oi.apart ops oj = true) :
 ∀ (fuel : Nat) (r : List (Nat × Oper)) (listed : Array Bool) (a : Act) (F : Tmp → World → Prop) (W : World), r.length = fuel → HeadInv md ops n listed → (∀ x ∈ r, ops[x.1]? = some x.2 ∧ x.1 < n) → (∀ j, j < n → (listed.getD j true = false ↔ ∃ o, (j, o) ∈ r)) → r.Pairwise (fun x y => x.1 < y.1) →
  UpF E w0 F → E w0 W → (∀ t, F t W) → wpG P ops E w0 G (fun a W => ∃ W1, RunsTo P on a W W1 ∧ wpList P ops Q tl a W1) (r.map (·.2)) a F → wpAny P md ops Q (fuel + (on :: tl).length) listed a W := by
 intro fuel
 induction fuel with
 | zero =>
   intro r listed a F W hl hinv _ hm _ _ h0 hF h;obtain rfl : r = [] := List.eq_nil_of_length_eq_zero hl;rw [Nat.zero_add]
   have hcan : listed = (List.replicate n true ++ List.replicate (ops.size - n) false).toArray := by
    have hz := hinv.size;refine Array.ext (by simp; omega) fun i hi hi' => ?_;simp only [List.getElem_toArray, List.getElem_append, List.length_replicate, List.getElem_replicate];by_cases hin : i < n
    · rw [dif_pos hin]
      have : ¬ listed.getD i true = false := fun hf => by
       obtain ⟨o, ho⟩ := (hm i hin).1 hf;cases ho
      simp only [Array.getD_eq_getD_getElem?, Array.getElem?_eq_getElem hi, Option.getD_some] at this
      simpa using this
    · rw [dif_neg hin]
      have := hinv.tail i (by omega) (by omega)
      simpa only [Array.getD_eq_getD_getElem?, Array.getElem?_eq_getElem hi, Option.getD_some] using this
   obtain ⟨W1, hrun, hwl⟩ := h W h0 hF;exact wpAny_of_seq (on :: tl) n listed a W htl (by rw [hcan]; exact hseq) (wpList_plain hwn fun _ hK' => hrun.wp hdn (hK' _ _ hwl))
 | succ fuel ih =>
   intro r listed a F W hl hinv hop hm hp hu h0 hF h;have hz := hinv.size;rw [show fuel + 1 + (on :: tl).length = (fuel + (on :: tl).length) + 1 by omega];refine ⟨fun hr => ?_, fun j hj => ?_⟩
   · exfalso
     obtain ⟨⟨i, oi⟩, r, rfl⟩ : ∃ x r', r = x :: r' := by
      cases r with
      | nil => cases hl
      | cons x r => exact ⟨x, r, rfl⟩
     obtain ⟨hi, hin0⟩ := hop (i, oi) (List.mem_cons_self ..);have hi : ops[i]? = some oi := hi;have hin0 : i < n := hin0
     have : i ∈ Region.ready md ops listed := by
      refine mem_ready.2 ⟨(hm i hin0).2 ⟨oi, List.mem_cons_self ..⟩, oi, hi, fun e he hb => ?_⟩;have hlt := (hlex i oi hi).1 e he hb;have hin : i < ops.size := (Array.getElem?_eq_some_iff.1 hi).1
      have hne : ¬ listed.getD e.on true = false := fun hf => by
       obtain ⟨o, ho⟩ := (hm e.on (by omega)).1 hf
       rcases List.mem_cons.1 ho with ho | ho
       · cases ho; omega
       · have := (List.pairwise_cons.1 hp).1 _ ho
         simp only at this;omega
      have hsz : e.on < listed.size := by omega
      simp only [Array.getD_eq_getD_getElem?, Array.getElem?_eq_getElem hsz, Option.getD_some] at hne ⊢
      simpa using hne
     rw [hr] at this;cases this
   · obtain ⟨hun, oj, hoj, hall⟩ := mem_ready.1 hj
     rcases Nat.lt_or_ge j n with hjn | hjn
     case inr =>
      have hall1 : ∀ x ∈ r, x.1 = q := by
       intro x hx
       rcases Nat.lt_trichotomy x.1 q with hc | hc | hc
       · exact absurd hj (tail_waitsQ hsink hchain hn hqn hinv _ x.1 rfl (hop x hx).2 (by omega) ((hm x.1 (hop x hx).2).2 ⟨x.2, hx⟩) j hjn)
       · exact hc
       · exact absurd hj (tail_waitsQ hsink hchain hn hqn hinv _ x.1 rfl (hop x hx).2 (by omega) ((hm x.1 (hop x hx).2).2 ⟨x.2, hx⟩) j hjn)
      obtain ⟨⟨i, oi⟩, r, rfl⟩ : ∃ x r', r = x :: r' := by
       cases r with
       | nil => cases hl
       | cons x r => exact ⟨x, r, rfl⟩
      have hiq : i = q := hall1 (i, oi) (List.mem_cons_self ..);subst hiq
      obtain rfl : r = [] := by
       cases r with
       | nil => rfl
       | cons y r =>
         exfalso
         have h1 := (List.pairwise_cons.1 hp).1 y (List.mem_cons_self ..);have h2 := hall1 y (List.mem_cons_of_mem _ (List.mem_cons_self ..));simp only at h1;omega
      have hoi : oi = oq := by have := (hop (i, oi) (List.mem_cons_self ..)).1; rw [hq] at this; exact (Option.some.inj this).symm
      subst hoi
      obtain rfl : fuel = 0 := by simpa using hl.symm
      have hcan : listed = lateL n i n ops.size := by
       refine Array.ext (by simp [lateL, hz]) fun m h1 h2 => ?_;simp only [lateL, List.getElem_toArray, List.getElem_map, List.getElem_range];by_cases hmn : m < n
       · have := hm m hmn
         by_cases hmi : m = i
         · subst hmi
           have h3 := this.2 ⟨_, List.mem_cons_self ..⟩;simp only [Array.getD_eq_getD_getElem?, Array.getElem?_eq_getElem h1, Option.getD_some] at h3;rw [h3]; simp
         · have h3 : ¬ listed.getD m true = false := fun hf => by
            obtain ⟨o, ho⟩ := this.1 hf
            rcases List.mem_cons.1 ho with ho | ho
            · cases ho; exact hmi rfl
            · cases ho
           simp only [Array.getD_eq_getD_getElem?, Array.getElem?_eq_getElem h1, Option.getD_some] at h3;have h4 : (m != i) = true := bne_iff_ne.2 hmi;rw [h4];simp [hmn]
           simpa using h3
       · have h3 := hinv.tail m (by omega) (by omega)
         simp only [Array.getD_eq_getD_getElem?, Array.getElem?_eq_getElem h1, Option.getD_some] at h3;rw [h3]; simp [hmn]
      have hjr := List.all_eq_true.1 hr1 j (by rw [← hcan]; exact hj);rw [Bool.or_eq_true, beq_iff_eq, beq_iff_eq] at hjr
      obtain rfl : j = n := by rcases hjr with h | h; omega; exact h
      have hoj2 : oj = on := by rw [hon] at hoj; exact (Option.some.inj hoj).symm
      subst hoj2
      have hwi : Region.wanted oi (yielded ops a.tmps) = true := by simp [Region.wanted, hwq]
      have hwj : Region.wanted oj (yielded ops a.tmps) = true := by simp [Region.wanted, hwn]
      have h' : wpG1 P ops E w0 G oi (wpG P ops E w0 G (fun a W => ∃ W1, RunsTo P oj a W W1 ∧ wpList P ops Q tl a W1) []) a F := h;unfold wpG1 at h';rw [if_pos hwi, hgq] at h';obtain ⟨v, hqv, hend⟩ := h';have hqW := hqv W h0 fun t _ => hF t;have hend : ∀ W, E w0 W → (∀ t, updF F oi.dst (Sees ops oi F) t W) → ∃ W1, RunsTo P oj (a.put oi.dst v) W W1 ∧ wpList P ops Q tl (a.put oi.dst v) W1 := hend
      obtain ⟨W1, ⟨nx, hrun, hnx⟩, hwl⟩ := hend W h0 (fun t => by
       unfold updF;by_cases hd : oi.dst = some t
       · rw [if_pos hd]; exact fun t _ => hF t
       · rw [if_neg hd]; exact hF t)
      obtain ⟨g1, g2, g3⟩ := Oper.apart_spec hapq;have hselj : ∀ cs b, oj.op ≠ .select cs b := fun cs b => Region.noSelect_spec hs j oj cs b hon;rw [execOp_put oj hselj a oi.dst v g1] at hrun;unfold wpOp;simp only [hon];rw [if_pos hwj];left
      refine RunsTo.wp ⟨nx, hrun, hnx⟩ hdn ?_;rw [hcan];have hr2' := of_decide_eq_true hr2;rw [show 0 + (oj :: tl).length = tl.length + 1 by simp];refine ⟨fun hr => (by rw [hr2'] at hr; cases hr), fun i2 hi2 => ?_⟩;rw [hr2'] at hi2
      obtain rfl : i2 = i := by simpa using hi2
      unfold wpOp;simp only [hq];rw [if_pos hwi];left
      refine quiet_wp (hpure _ _ _ _ hqW) ?_;exact wpAny_of_seq tl (j + 1) _ _ _ (fun m => by have := htl (m + 1); simpa [Nat.add_assoc, Nat.add_comm 1 m] using this) hs2 hwl
     obtain ⟨oj', hmem⟩ := (hm j hjn).1 hun
     obtain rfl : oj' = oj := by have := (hop _ hmem).1; rw [hoj] at this; exact (Option.some.inj this).symm
     obtain ⟨r1, r2, rfl⟩ := List.append_of_mem hmem;have hsel := Region.noSelect_spec hs;have hsj : ∀ cs b, oj'.op ≠ .select cs b := fun cs b => hsel j oj' cs b hoj
     have hap : ∀ oi ∈ r1.map (·.2), oi.apart ops oj' = true ∧ ∀ cs b, oi.op ≠ .select cs b := by
      intro oi hoi;obtain ⟨⟨i, oi'⟩, hxm, hx2⟩ := List.mem_map.1 hoi;simp only at hx2;subst hx2;have hi : ops[i]? = some oi' := (hop (i, oi') (List.mem_append_left _ hxm)).1;have hin0 : i < n := (hop (i, oi') (List.mem_append_left _ hxm)).2;have hij : i < j := (List.pairwise_append.1 hp).2.2 _ hxm _ (List.mem_cons_self ..);refine ⟨(hlex i oi' hi).2 j oj' hij hoj fun e he hb heq => ?_, fun cs b => hsel i oi' cs b hi⟩;have h1 := hall e he hb;have h2 := (hm i hin0).2 ⟨oi', List.mem_append_left _ hxm⟩;rw [heq] at h1;have hin : i < ops.size := (Array.getElem?_eq_some_iff.1 hi).1
      have hsz : i < listed.size := by omega
      simp only [Array.getD_eq_getD_getElem?, Array.getElem?_eq_getElem hsz, Option.getD_some] at h1 h2;rw [h1] at h2;cases h2
     rw [List.map_append, List.map_cons] at h;have hsafe := wpG_safe hrefl htr hG hsj _ _ a F W hap hu h0 hF h
     have hj' : j < listed.size := by rw [hz]; exact (Array.getElem?_eq_some_iff.1 hoj).1
     have hnext : ∀ (v : Value) (p : World → Prop) (W' : World), ResG P ops E w0 G oj' a F v p → E W W' → p W' → (∀ A B, E w0 A → E A B → p A → p B) → wpAny P md ops Q (fuel + (on :: tl).length) (listed.setIfInBounds j true) (a.put oj'.dst v) W' := by
      intro v p W' hres hE hpW hpu;refine ih (r1 ++ r2) _ _ (updF F oj'.dst p) W' ?_ (hinv.set hj hjn) (fun x hx => hop x ?_) (fun k hkn => ?_) ?_ (hu.upd hpu) (htr h0 hE) (fun t => ?_) ?_
      · simp only [List.length_append, List.length_cons] at hl ⊢; omega
      · rcases List.mem_append.1 hx with hx | hx
        · exact List.mem_append_left _ hx
        · exact List.mem_append_right _ (List.mem_cons_of_mem _ hx)
      · by_cases hjk : j = k
        · subst hjk
          constructor
          · intro hk
            simp [Array.getD_eq_getD_getElem?, hj'] at hk
          · rintro ⟨o, ho⟩
            exfalso
            have hpp := List.pairwise_append.1 hp
            rcases List.mem_append.1 ho with ho | ho
            · have := hpp.2.2 _ ho _ (List.mem_cons_self ..)
              simp only at this; omega
            · have := (List.pairwise_cons.1 hpp.2.1).1 _ ho
              simp only at this; omega
        · rw [getD_set_ne true hjk, hm k hkn]
          constructor
          · rintro ⟨o, ho⟩
            rcases List.mem_append.1 ho with ho | ho
            · exact ⟨o, List.mem_append_left _ ho⟩
            · rcases List.mem_cons.1 ho with ho | ho
              · cases ho; exact absurd rfl hjk
              · exact ⟨o, List.mem_append_right _ ho⟩
          · rintro ⟨o, ho⟩
            rcases List.mem_append.1 ho with ho | ho
            · exact ⟨o, List.mem_append_left _ ho⟩
            · exact ⟨o, List.mem_append_right _ (List.mem_cons_of_mem _ ho)⟩
      · have hpp := List.pairwise_append.1 hp
        exact List.pairwise_append.2 ⟨hpp.1, (List.pairwise_cons.1 hpp.2.1).2, fun x hx y hy => hpp.2.2 x hx y (List.mem_cons_of_mem _ hy)⟩
      · unfold updF
        by_cases hd : oj'.dst = some t
        · rw [if_pos hd]; exact hpW
        · rw [if_neg hd]; exact hu t W W' h0 hE (hF t)
      · rw [List.map_append]
        exact wpG_pull hsj _ _ a F hap h hres
     unfold wpOp;simp only [hoj];by_cases hw : Region.wanted oj' (yielded ops a.tmps) = true
     · rw [if_pos hw]
       left
       have hsf := hsafe hw
       cases hg : gOf G oj' with
       | some φ =>
         rw [hg] at hsf
         have hst : ∀ u A B, E A B → φ u A → φ u B := by
          unfold gOf at hg
          cases hd : oj'.dst with
          | none => rw [hd] at hg; cases hg
          | some d => rw [hd] at hg; exact hG d φ hg
         exact grow_wp (hsf W h0 fun t _ => hF t) fun v W' hE hφ => hnext v (φ v) W' (.inr (.inl ⟨hw, φ, hg, rfl, W', htr h0 hE, hφ⟩)) hE hφ (fun A B _ hAB => hst v A B hAB)
       | none =>
         rw [hg] at hsf;obtain ⟨v, hv⟩ := hsf;have hq := hv W h0 fun t _ => hF t;exact quiet_wp hq (hnext v _ W (.inl ⟨hw, hg, rfl, W, h0, fun t _ => hF t, hq⟩) (hrefl W) (fun t _ => hF t) (hu.sees oj'))
     · rw [if_neg hw]
       exact hnext undef _ W (.inr (.inr ⟨by simpa using hw, rfl, rfl⟩)) (hrefl W) trivial (fun _ _ _ _ h => h)
theorem wp_region_LQ {id : Nat} {Q : Exit → Act → World → Prop} {a : Act} {w : World} {l : List Oper} (n q : Nat) (oq on : Oper) (tl : List Oper) (htl0 : l.drop n = on :: tl) (hrefl : ∀ W, E W W) (htr : ∀ {A B C}, E A B → E B C → E A C) (hm : P.follows .mixedOrders = true) (hB : Region.lexB .any l.toArray = true)
 (hsink : sinkQ .any l.toArray n q = true) (hqn : decide (q < n) = true) (hq : l.toArray[q]? = some oq) (hgq : gOf G oq = none) (hwq : oq.guard = none) (hon : l.toArray[n]? = some on) (hdn : on.dst = none) (hwn : on.guard = none) (hapq : oq.apart l.toArray on = true) (hpure : ∀ a W W' v, oq.quietAt P a (fun _ => False) W v → oq.quietAt P a (fun _ => False) W' v)
 (hr1 : ((Region.ready .any l.toArray (lateL n q n l.toArray.size)).all fun j => j == q || j == n) = true) (hr2 : decide (Region.ready .any l.toArray ((lateL n q n l.toArray.size).setIfInBounds n true) = [q]) = true) (hs2 : Region.seqB .any l.toArray tl.length (n + 1) (((lateL n q n l.toArray.size).setIfInBounds n true).setIfInBounds q true) = true) (hchain : Region.chainB .any l.toArray n = true) (hseq : Region.seqB .any l.toArray (l.drop n).length n ((List.replicate n true ++ List.replicate (l.toArray.size - n) false).toArray) = true) (hn : decide (n < l.length) = true)
 (hG : ∀ t φ, G t = some φ → ∀ v W W', E W W' → φ v W → φ v W') (hE : E w0 { w with drawn := w.drawn + 1 })
 (h : wpL P l.toArray E w0 G (fun a W => ∃ W1, RunsTo P on a W W1 ∧ wpList P l.toArray Q tl a W1) (l.take n) a []) : (Code.region id l.toArray true).wp P Q a w := by
 have hn : n < l.length := of_decide_eq_true hn;simp only [Region.lexB, Bool.and_eq_true] at hB;refine wp_region_any hm ?_;have hx := lex_facts (ops := l.toArray) (md := .any) l.toArray.size 0 (Array.replicate l.toArray.size false) (by simp) (fun i hi _ => by omega) (fun i _ hi => by simp at hi; simp [hi]) (by omega) hB.2
 have hmap : ((List.range n).zip (l.take n)).map (·.2) = l.take n := by rw [List.map_snd_zip]; simp; omega
 have hsz : l.toArray.size = n + (l.drop n).length := by simp; omega
 have h' : wpG P l.toArray E w0 G (fun a W => ∃ W1, RunsTo P on a W W1 ∧ wpList P l.toArray Q tl a W1) (l.take n) a (fun _ _ => True) := by
  unfold wpL at h;exact wpG_mono _ _ _ _ (fun _ _ _ _ => trivial) h
 have hzl : ((List.range n).zip (l.take n)).length = n := by simp; omega
 have key := wpG_anyQ (P := P) (E := E) (w0 := w0) (G := G) (md := .any) (Q := Q) (n := n) (q := q) (oq := oq) (on := on) (tl := tl) hrefl htr hG hB.1 hsink (of_decide_eq_true hqn) hq hgq hwq hon hdn hwn hapq hpure hr1 hr2 hs2 hchain (by simpa using hn) (by rw [← htl0]; exact hseq) (fun j => by rw [← htl0]; simp) (fun i oi => hx i oi (Nat.zero_le _)) n ((List.range n).zip (l.take n)) (Array.replicate l.toArray.size false) a (fun _ _ => True) { w with drawn := w.drawn + 1 } hzl ⟨by simp, fun j oj hj hl => absurd hl (by rw [getD_replicate_false]; exact Bool.false_ne_true), fun t ht ht' => by simp at ht'; simp [ht']⟩ ?_ ?_ ?_ (fun _ _ _ _ _ h => h) hE (fun _ => trivial) (by rw [hmap]; exact h')
 · have e : l.toArray.size = n + (on :: tl).length := by rw [← htl0]; exact hsz
   generalize hS : l.toArray.size = S at key e ⊢;subst e;exact key
 · intro x hx
   obtain ⟨i, hi, he⟩ := List.mem_iff_getElem.1 hx;simp only [List.length_zip, List.length_range, List.length_take] at hi;rw [List.getElem_zip, List.getElem_range] at he;subst he
   have hil : i < l.length := by omega
   refine ⟨?_, by simp; omega⟩;simp [hil]
 · intro j hjn
   have hjl : j < l.length := by omega
   constructor
   · intro _
     exact ⟨l[j], List.mem_iff_getElem.2 ⟨j, by simp; omega, by rw [List.getElem_zip, List.getElem_range]; simp⟩⟩
   · intro _
     simp [hjl]
 · have hp : (List.range n).Pairwise (· < ·) := List.pairwise_lt_range
   rw [List.pairwise_iff_getElem] at hp ⊢;intro i j hi hj hij;simp only [List.length_zip, List.length_range, List.length_take] at hi hj;simp only [List.getElem_zip, List.getElem_range];exact hij
end
section
variable {P : Program} {ops : Array Oper} {E : World → World → Prop} {w0 : World} {G : Tmp → Option (Value → World → Prop)}
def OnAt (P : Program) (o : Oper) (a : Act) (ψ : Value → World → Prop) (W : World) : Prop := ∃ v W', (execOp a.eval o).run P W = .ok (.value v) W' ∧ ψ v W'
structure SInv (md : Region.Mode) (ops : Array Oper) (n m : Nat) (listed : Array Bool) : Prop where
 size : listed.size = ops.size
 closed : ∀ j oj, ops[j]? = some oj → listed.getD j false = true → ∀ e ∈ oj.after, Region.binds md e = true → listed.getD e.on false = true
 tail : ∀ t, (t = n ∨ m ≤ t) → t < ops.size → listed.getD t true = false
theorem late_on {on : Oper} {tlK : Act → World → Prop} {W : World} (hso : ∀ cs b, on.op ≠ .select cs b) : ∀ (r : List Oper) (a : Act) (F : Tmp → World → Prop),
 (∀ oi ∈ r, gOf G oi = none ∧ oi.guard = none ∧ on.apart ops oi = true ∧ (∀ cs b, oi.op ≠ .select cs b) ∧ ∀ a W W' v, oi.quietAt P a (fun _ => False) W v → oi.quietAt P a (fun _ => False) W' v) →
 E w0 W → (∀ t, F t W) → wpG P ops E w0 G (fun a W => OnAt P on a (fun v W' => tlK (a.put on.dst v) W') W) r a F →
 OnAt P on a (fun v W' => wpG P ops (fun A B => A = B) W' (fun _ => none) tlK r (a.put on.dst v) (fun _ _ => True)) W
 | [], a, F, _, h0, hF, h => by
   obtain ⟨v, W', hr, hk⟩ := h W h0 hF;exact ⟨v, W', hr, fun W2 e _ => by subst e; exact hk⟩
 | oi :: r, a, F, hl, h0, hF, h => by
   obtain ⟨hg, hgd, hap, hsi, hpure⟩ := hl oi (List.mem_cons_self ..);obtain ⟨h1, h2, h3⟩ := Oper.apart_spec hap
   have hw : ∀ a : Act, Region.wanted oi (yielded ops a.tmps) = true := fun a => by simp only [Region.wanted, hgd]
   have h : wpG1 P ops E w0 G oi (wpG P ops E w0 G (fun a W => OnAt P on a (fun v W' => tlK (a.put on.dst v) W') W) r) a F := h;unfold wpG1 at h;rw [if_pos (hw a), hg] at h;obtain ⟨v, hq, hk⟩ := h
   have hk2 := late_on hso r (a.put oi.dst v) _ (fun o ho => hl o (List.mem_cons_of_mem _ ho)) h0 (fun t => by
    unfold updF;split
    · exact fun t _ => hF t
    · exact hF t) hk
   obtain ⟨x, W', hrun, hw2⟩ := hk2;rw [execOp_put on hso a oi.dst v h3] at hrun;refine ⟨x, W', hrun, ?_⟩;show wpG1 P ops (fun A B => A = B) W' (fun _ => none) oi (wpG P ops (fun A B => A = B) W' (fun _ => none) tlK r) (a.put on.dst x) (fun _ _ => True);unfold wpG1
   have hgn : gOf (fun _ => (none : Option (Value → World → Prop))) oi = none := by unfold gOf; cases oi.dst <;> rfl
   rw [if_pos (hw _), hgn];refine ⟨v, fun W2 _ _ => ?_, ?_⟩
   · have hq2 := hpure _ _ W2 _ (hq W h0 fun t _ => hF t)
     unfold Oper.quietAt at hq2 ⊢;rw [execOp_put oi hsi a on.dst x h1];exact hq2
   · rw [Act.put_comm a x v h2]
     exact wpG_mono _ _ _ _ (fun _ _ _ _ => trivial) hw2
theorem sink_done {md : Region.Mode} {n : Nat} {listed : Array Bool} (hs : Region.sinkB md ops n = true) (hc : ∀ j oj, ops[j]? = some oj → listed.getD j false = true → ∀ e ∈ oj.after, Region.binds md e = true → listed.getD e.on false = true) (hr : n ∈ Region.ready md ops listed) :
 ∀ (d i : Nat), n - i = d → i < n → listed.getD i false = true := by
 obtain ⟨_, on, hon, hall⟩ := mem_ready.1 hr;intro d
 induction d using Nat.strongRecOn with
 | _ d ih =>
   intro i hd hi;have h1 := List.all_eq_true.1 hs i (List.mem_range.2 hi);obtain ⟨j, hj, hj2⟩ := List.any_eq_true.1 h1;simp only [Bool.and_eq_true, decide_eq_true_eq] at hj2;obtain ⟨oj, hoj, e, he, hb, hon2⟩ := Region.waitsFor_spec hj2.2
   have hjle : j ≤ n := by have := List.mem_range.1 hj; omega
   by_cases hjn : j = n
   · subst hjn
     have : oj = on := Option.some.inj (hoj.symm.trans hon);subst this;rw [← hon2];exact hall e he hb
   · have h2 := ih (n - j) (by omega) j rfl (by omega)
     rw [← hon2];exact hc j oj hoj h2 e he hb
theorem listed_of {listed : Array Bool} {i : Nat} (hi : i < listed.size) (h : ¬ listed.getD i true = false) : listed.getD i false = true := by
 simp only [Array.getD_eq_getD_getElem?, Array.getElem?_eq_getElem hi, Option.getD_some] at h ⊢
 simpa using h
theorem on_branch {md : Region.Mode} {Q : Exit → Act → World → Prop} {n m : Nat} {on : Oper} {tl : List Oper} (hs : Region.noSelect ops = true) (hon : ops[n]? = some on) (hgon : on.guard = none) (hnm : n < m) (hm : m < ops.size)
 (hsn : Region.sinkB md ops n = true) (hsm : Region.sinkB md ops m = true) (hcm : Region.chainB md ops m = true) (hseq : Region.seqB md ops tl.length m ((List.replicate m true ++ List.replicate (ops.size - m) false).toArray) = true) (htl : ∀ j, tl[j]? = ops[m + j]?)
 (hlate : ∀ i oi, n < i → i < m → ops[i]? = some oi → gOf G oi = none ∧ oi.guard = none ∧ on.apart ops oi = true ∧ ∀ a W W' v, oi.quietAt P a (fun _ => False) W v → oi.quietAt P a (fun _ => False) W' v)
 (hlex : ∀ i oi, ops[i]? = some oi → (∀ e ∈ oi.after, Region.binds md e = true → e.on < i) ∧ ∀ j oj, i < j → ops[j]? = some oj → (∀ e ∈ oj.after, Region.binds md e = true → e.on ≠ i) → oi.apart ops oj = true)
 (r : List (Nat × Oper)) (listed : Array Bool) (a : Act) (F : Tmp → World → Prop) (W : World) (hinv : SInv md ops n m listed) (hop : ∀ x ∈ r, ops[x.1]? = some x.2 ∧ x.1 < m ∧ x.1 ≠ n) (hmm : ∀ j, j < m → j ≠ n → (listed.getD j true = false ↔ ∃ o, (j, o) ∈ r)) (hp : r.Pairwise (fun x y => x.1 < y.1))
 (h0 : E w0 W) (hF : ∀ t, F t W) (hr : n ∈ Region.ready md ops listed)
 (h : wpG P ops E w0 G (fun a W => OnAt P on a (fun v W' => wpList P ops Q tl (a.put on.dst v) W') W) (r.map (·.2)) a F) : wpOp P ops Q n (wpAny P md ops Q (r.length + tl.length) (listed.setIfInBounds n true)) a W := by
 have hsel := Region.noSelect_spec hs;have hz := hinv.size;have hdone := sink_done hsn hinv.closed hr
 have hlt : ∀ x ∈ r, n < x.1 := fun x hx => by
  obtain ⟨h1, h2, h3⟩ := hop x hx
  rcases Nat.lt_or_ge n x.1 with h4 | h4
  · exact h4
  · have h5 := hdone (n - x.1) x.1 rfl (by omega)
    have h6 := getD_both ((hmm x.1 h2 h3).2 ⟨x.2, hx⟩);rw [h6] at h5;cases h5
 obtain ⟨v, W', hrun, hw⟩ := late_on (fun cs b => hsel n on cs b hon) (r.map (·.2)) a F (fun oi hoi => by
  obtain ⟨x, hx, rfl⟩ := List.mem_map.1 hoi;obtain ⟨h1, h2, h3⟩ := hop x hx;obtain ⟨g1, g2, g3, g4⟩ := hlate x.1 x.2 (hlt x hx) h2 h1
  exact ⟨g1, g2, g3, fun cs b => hsel x.1 x.2 cs b h1, g4⟩) h0 hF h
 unfold wpOp;simp only [hon];rw [if_pos (by simp only [Region.wanted, hgon])];left
 unfold Oper.wp;rw [hrun];show wpAny P md ops Q (r.length + tl.length) (listed.setIfInBounds n true) (a.put on.dst v) W';obtain ⟨_, on', hon', hall⟩ := mem_ready.1 hr
 have hnz : n < listed.size := by omega
 refine wpG_anyT (P := P) (E := fun A B => A = B) (w0 := W') (G := fun _ => none) (md := md) (Q := Q) (n := m) (tl := tl) (fun _ => rfl) (fun h k => Eq.trans h k) (fun t φ hG => by cases hG) hs hsm hcm hm hseq htl hlex r.length r (listed.setIfInBounds n true) (a.put on.dst v) (fun _ _ => True) W' rfl ⟨by simp [hz], fun j oj hj hl e he hb => ?_, fun t ht ht' => ?_⟩ (fun x hx => ⟨(hop x hx).1, (hop x hx).2.1⟩) (fun j hj => ?_) hp (fun _ _ _ _ _ h => h) rfl (fun _ => trivial) hw
 · by_cases hjn : n = j
   · subst hjn
     have : oj = on' := Option.some.inj (hj.symm.trans hon');subst this;exact getD_set_true (hall e he hb)
   · rw [getD_set_ne false hjn] at hl
     exact getD_set_true (hinv.closed j oj hj hl e he hb)
 · rw [getD_set_ne true (by omega)]
   exact hinv.tail t (.inr ht) ht'
 · by_cases hjn : n = j
   · subst hjn
     constructor
     · intro hk
       simp [Array.getD_eq_getD_getElem?, hnz] at hk
     · rintro ⟨o, ho⟩
       exact absurd rfl (hop _ ho).2.2
   · rw [getD_set_ne true hjn]
     exact hmm j hj (fun e => hjn e.symm)
theorem wpG_anyS {md : Region.Mode} {Q : Exit → Act → World → Prop} {n m : Nat} {on : Oper} {tl : List Oper} (hrefl : ∀ W, E W W) (htr : ∀ {A B C}, E A B → E B C → E A C) (hG : ∀ t φ, G t = some φ → ∀ v W W', E W W' → φ v W → φ v W') (hs : Region.noSelect ops = true) (hon : ops[n]? = some on) (hgon : on.guard = none) (hnm : n < m) (hm : m < ops.size)
 (hsn : Region.sinkB md ops n = true) (hwm : Region.waitsFor md ops m n = true) (hfree : ∀ i, n < i → i < m → Region.waitsFor md ops i n = false) (hsm : Region.sinkB md ops m = true) (hcm : Region.chainB md ops m = true) (hseq : Region.seqB md ops tl.length m ((List.replicate m true ++ List.replicate (ops.size - m) false).toArray) = true) (htl : ∀ j, tl[j]? = ops[m + j]?)
 (hlate : ∀ i oi, n < i → i < m → ops[i]? = some oi → gOf G oi = none ∧ oi.guard = none ∧ on.apart ops oi = true ∧ ∀ a W W' v, oi.quietAt P a (fun _ => False) W v → oi.quietAt P a (fun _ => False) W' v)
 (hlex : ∀ i oi, ops[i]? = some oi → (∀ e ∈ oi.after, Region.binds md e = true → e.on < i) ∧ ∀ j oj, i < j → ops[j]? = some oj → (∀ e ∈ oj.after, Region.binds md e = true → e.on ≠ i) → oi.apart ops oj = true) :
 ∀ (fuel : Nat) (r : List (Nat × Oper)) (listed : Array Bool) (a : Act) (F : Tmp → World → Prop) (W : World), r.length = fuel → SInv md ops n m listed → (∀ x ∈ r, ops[x.1]? = some x.2 ∧ x.1 < m ∧ x.1 ≠ n) → (∀ j, j < m → j ≠ n → (listed.getD j true = false ↔ ∃ o, (j, o) ∈ r)) → r.Pairwise (fun x y => x.1 < y.1) →
  UpF E w0 F → E w0 W → (∀ t, F t W) → wpG P ops E w0 G (fun a W => OnAt P on a (fun v W' => wpList P ops Q tl (a.put on.dst v) W') W) (r.map (·.2)) a F → wpAny P md ops Q (fuel + tl.length + 1) listed a W := by
 intro fuel
 induction fuel with
 | zero =>
   intro r listed a F W hl hinv hop hmm hp hu h0 hF h;obtain rfl : r = [] := List.eq_nil_of_length_eq_zero hl;have hz := hinv.size
   have hrn : n ∈ Region.ready md ops listed := by
    refine mem_ready.2 ⟨hinv.tail n (.inl rfl) (by omega), on, hon, fun e he hb => ?_⟩;have hlt := (hlex n on hon).1 e he hb
    exact listed_of (by omega) (fun hf => by
     obtain ⟨o, ho⟩ := (hmm e.on (by omega) (by omega)).1 hf
     cases ho)
   refine ⟨fun hr => (by rw [hr] at hrn; cases hrn), fun j hj => ?_⟩;by_cases hjn : j = n
   · subst hjn
     have := on_branch hs hon hgon hnm hm hsn hsm hcm hseq htl hlate hlex [] listed a F W hinv hop hmm hp h0 hF hj h;exact this
   · exfalso
     obtain ⟨hun, oj, hoj, hall⟩ := mem_ready.1 hj;have hjs : j < ops.size := (Array.getElem?_eq_some_iff.1 hoj).1
     rcases Nat.lt_or_ge j m with h1 | h1
     · obtain ⟨o, ho⟩ := (hmm j h1 hjn).1 hun
       cases ho
     · rcases Nat.eq_or_lt_of_le h1 with h2 | h2
       · subst h2
         obtain ⟨o', ho', e, he, hb, hon2⟩ := Region.waitsFor_spec hwm;have : o' = oj := Option.some.inj (ho'.symm.trans hoj);subst this;have h3 := hall e he hb;rw [hon2, getD_both (hinv.tail n (.inl rfl) (by omega))] at h3;cases h3
       · have h3 := List.all_eq_true.1 hcm j (List.mem_range.2 hjs)
         rw [Bool.or_eq_true, decide_eq_true_eq] at h3
         rcases h3 with h3 | h3
         · omega
         · obtain ⟨o', ho', e, he, hb, hon2⟩ := Region.waitsFor_spec h3
           have : o' = oj := Option.some.inj (ho'.symm.trans hoj);subst this;have h4 := hall e he hb;rw [hon2, getD_both (hinv.tail (j - 1) (.inr (by omega)) (by omega))] at h4;cases h4
 | succ fuel ih =>
   intro r listed a F W hl hinv hop hmm hp hu h0 hF h;have hz := hinv.size;refine ⟨fun hr => ?_, fun j hj => ?_⟩
   · exfalso
     obtain ⟨⟨i, oi⟩, r, rfl⟩ : ∃ x r', r = x :: r' := by
      cases r with
      | nil => cases hl
      | cons x r => exact ⟨x, r, rfl⟩
     obtain ⟨hi, him, hin⟩ := hop (i, oi) (List.mem_cons_self ..);have hi : ops[i]? = some oi := hi;have him : i < m := him;have hin : i ≠ n := hin
     have : i ∈ Region.ready md ops listed := by
      refine mem_ready.2 ⟨(hmm i him hin).2 ⟨oi, List.mem_cons_self ..⟩, oi, hi, fun e he hb => ?_⟩;have hlt := (hlex i oi hi).1 e he hb
      have hen : e.on ≠ n := fun hen => by
       rcases Nat.lt_or_ge i n with h1 | h1
       · omega
       · have h2 := hfree i (by omega) him
         have h3 : Region.waitsFor md ops i n = true := by
          unfold Region.waitsFor;rw [hi];exact Array.any_eq_true'.2 ⟨e, he, by simp [hb, hen]⟩
         rw [h3] at h2;cases h2
      exact listed_of (by omega) (fun hf => by
       obtain ⟨o, ho⟩ := (hmm e.on (by omega) hen).1 hf
       rcases List.mem_cons.1 ho with ho | ho
       · cases ho; omega
       · have := (List.pairwise_cons.1 hp).1 _ ho
         simp only at this
         omega)
     rw [hr] at this;cases this
   · by_cases hjn0 : j = n
     · subst hjn0
       have := on_branch hs hon hgon hnm hm hsn hsm hcm hseq htl hlate hlex r listed a F W hinv hop hmm hp h0 hF hj h;rw [hl] at this;exact this
     obtain ⟨hun, oj, hoj, hall⟩ := mem_ready.1 hj;have hjs : j < ops.size := (Array.getElem?_eq_some_iff.1 hoj).1
     have hjm : j < m := by
      rcases Nat.lt_or_ge j m with h1 | h1
      · exact h1
      · exfalso
        rcases Nat.eq_or_lt_of_le h1 with h2 | h2
        · subst h2
          obtain ⟨o', ho', e, he, hb, hon2⟩ := Region.waitsFor_spec hwm;have : o' = oj := Option.some.inj (ho'.symm.trans hoj);subst this;have h3 := hall e he hb;rw [hon2, getD_both (hinv.tail n (.inl rfl) (by omega))] at h3;cases h3
        · have h3 := List.all_eq_true.1 hcm j (List.mem_range.2 hjs)
          rw [Bool.or_eq_true, decide_eq_true_eq] at h3
          rcases h3 with h3 | h3
          · omega
          · obtain ⟨o', ho', e, he, hb, hon2⟩ := Region.waitsFor_spec h3
            have : o' = oj := Option.some.inj (ho'.symm.trans hoj);subst this;have h4 := hall e he hb;rw [hon2, getD_both (hinv.tail (j - 1) (.inr (by omega)) (by omega))] at h4;cases h4
     obtain ⟨oj', hmem⟩ := (hmm j hjm hjn0).1 hun
     obtain rfl : oj' = oj := by have := (hop _ hmem).1; rw [hoj] at this; exact (Option.some.inj this).symm
     obtain ⟨r1, r2, rfl⟩ := List.append_of_mem hmem;have hsel := Region.noSelect_spec hs;have hsj : ∀ cs b, oj'.op ≠ .select cs b := fun cs b => hsel j oj' cs b hoj
     have hap : ∀ oi ∈ r1.map (·.2), oi.apart ops oj' = true ∧ ∀ cs b, oi.op ≠ .select cs b := by
      intro oi hoi;obtain ⟨⟨i, oi'⟩, hxm, hx2⟩ := List.mem_map.1 hoi;simp only at hx2;subst hx2;obtain ⟨hi, him, hin⟩ := hop (i, oi') (List.mem_append_left _ hxm);have hi : ops[i]? = some oi' := hi;have him : i < m := him;have hin : i ≠ n := hin;have hij : i < j := (List.pairwise_append.1 hp).2.2 _ hxm _ (List.mem_cons_self ..);refine ⟨(hlex i oi' hi).2 j oj' hij hoj fun e he hb heq => ?_, fun cs b => hsel i oi' cs b hi⟩;have h1 := hall e he hb;have h2 := getD_both ((hmm i him hin).2 ⟨oi', List.mem_append_left _ hxm⟩);rw [heq, h2] at h1;cases h1
     rw [List.map_append, List.map_cons] at h;have hsafe := wpG_safe hrefl htr hG hsj _ _ a F W hap hu h0 hF h
     have hj' : j < listed.size := by rw [hz]; exact hjs
     have hnext : ∀ (v : Value) (p : World → Prop) (W' : World), ResG P ops E w0 G oj' a F v p → E W W' → p W' → (∀ A B, E w0 A → E A B → p A → p B) → wpAny P md ops Q (fuel + tl.length + 1) (listed.setIfInBounds j true) (a.put oj'.dst v) W' := by
      intro v p W' hres hE hpW hpu;refine ih (r1 ++ r2) _ _ (updF F oj'.dst p) W' ?_ ⟨by simp [hz], fun i oi hi hli e he hb => ?_, fun t ht ht' => ?_⟩ (fun x hx => hop x ?_) (fun k hkm hkn => ?_) ?_ (hu.upd hpu) (htr h0 hE) (fun t => ?_) ?_
      · simp only [List.length_append, List.length_cons] at hl ⊢; omega
      · by_cases hji : j = i
        · subst hji
          have : oi = oj' := Option.some.inj (hi.symm.trans hoj);subst this;exact getD_set_true (hall e he hb)
        · rw [getD_set_ne false hji] at hli
          exact getD_set_true (hinv.closed i oi hi hli e he hb)
      · rw [getD_set_ne true (by omega)]
        exact hinv.tail t ht ht'
      · rcases List.mem_append.1 hx with hx | hx
        · exact List.mem_append_left _ hx
        · exact List.mem_append_right _ (List.mem_cons_of_mem _ hx)
      · by_cases hjk : j = k
        · subst hjk
          constructor
          · intro hk
            simp [Array.getD_eq_getD_getElem?, hj'] at hk
          · rintro ⟨o, ho⟩
            exfalso
            have hpp := List.pairwise_append.1 hp
            rcases List.mem_append.1 ho with ho | ho
            · have := hpp.2.2 _ ho _ (List.mem_cons_self ..)
              simp only at this; omega
            · have := (List.pairwise_cons.1 hpp.2.1).1 _ ho
              simp only at this; omega
        · rw [getD_set_ne true hjk, hmm k hkm hkn]
          constructor
          · rintro ⟨o, ho⟩
            rcases List.mem_append.1 ho with ho | ho
            · exact ⟨o, List.mem_append_left _ ho⟩
            · rcases List.mem_cons.1 ho with ho | ho
              · cases ho; exact absurd rfl hjk
              · exact ⟨o, List.mem_append_right _ ho⟩
          · rintro ⟨o, ho⟩
            rcases List.mem_append.1 ho with ho | ho
            · exact ⟨o, List.mem_append_left _ ho⟩
            · exact ⟨o, List.mem_append_right _ (List.mem_cons_of_mem _ ho)⟩
      · have hpp := List.pairwise_append.1 hp
        exact List.pairwise_append.2 ⟨hpp.1, (List.pairwise_cons.1 hpp.2.1).2, fun x hx y hy => hpp.2.2 x hx y (List.mem_cons_of_mem _ hy)⟩
      · unfold updF
        by_cases hd : oj'.dst = some t
        · rw [if_pos hd]; exact hpW
        · rw [if_neg hd]; exact hu t W W' h0 hE (hF t)
      · rw [List.map_append]
        exact wpG_pull hsj _ _ a F hap h hres
     have hnext' : ∀ (v : Value) (p : World → Prop) (W' : World), ResG P ops E w0 G oj' a F v p → E W W' → p W' → (∀ A B, E w0 A → E A B → p A → p B) → wpAny P md ops Q (fuel + 1 + tl.length) (listed.setIfInBounds j true) (a.put oj'.dst v) W' := by
      rw [show fuel + 1 + tl.length = fuel + tl.length + 1 by omega];exact hnext
     unfold wpOp;simp only [hoj];by_cases hw : Region.wanted oj' (yielded ops a.tmps) = true
     · rw [if_pos hw]
       left
       have hsf := hsafe hw
       cases hg : gOf G oj' with
       | some φ =>
         rw [hg] at hsf
         have hst : ∀ u A B, E A B → φ u A → φ u B := by
          unfold gOf at hg
          cases hd : oj'.dst with
          | none => rw [hd] at hg; cases hg
          | some d => rw [hd] at hg; exact hG d φ hg
         exact grow_wp (hsf W h0 fun t _ => hF t) fun v W' hE hφ => hnext' v (φ v) W' (.inr (.inl ⟨hw, φ, hg, rfl, W', htr h0 hE, hφ⟩)) hE hφ (fun A B _ hAB => hst v A B hAB)
       | none =>
         rw [hg] at hsf;obtain ⟨v, hv⟩ := hsf;have hq := hv W h0 fun t _ => hF t;exact quiet_wp hq (hnext' v _ W (.inl ⟨hw, hg, rfl, W, h0, fun t _ => hF t, hq⟩) (hrefl W) (fun t _ => hF t) (hu.sees oj'))
     · rw [if_neg hw]
       exact hnext' undef _ W (.inr (.inr ⟨by simpa using hw, rfl, rfl⟩)) (hrefl W) trivial (fun _ _ _ _ h => h)
theorem mem_zipR {s : Nat} : ∀ {k : Nat} {L : List Oper} {x : Nat × Oper}, x ∈ (List.range' s k).zip L ↔ ∃ i, i < k ∧ x.1 = s + i ∧ L[i]? = some x.2 := by
 intro k L x;constructor
 · intro hx
   obtain ⟨i, hi, he⟩ := List.mem_iff_getElem.1 hx;simp only [List.length_zip, List.length_range'] at hi;rw [List.getElem_zip] at he;subst he;exact ⟨i, by omega, by simp, by simp⟩
 · rintro ⟨i, hi, h1, h2⟩
   obtain ⟨hl, h3⟩ := List.getElem?_eq_some_iff.1 h2;refine List.mem_iff_getElem.2 ⟨i, by simp; omega, ?_⟩;rw [List.getElem_zip];simp only [List.getElem_range', Nat.one_mul];rw [← h1, h3]
theorem wp_region_LS {id : Nat} {Q : Exit → Act → World → Prop} {a : Act} {w : World} {l : List Oper} (n m : Nat) (on : Oper) (hrefl : ∀ W, E W W) (htr : ∀ {A B C}, E A B → E B C → E A C) (hm : P.follows .mixedOrders = true) (hB : Region.lexB .any l.toArray = true)
 (hon : l[n]? = some on) (hgon : on.guard = none) (hnm : decide (n < m) = true) (hml : decide (m < l.length) = true)
 (hsn : Region.sinkB .any l.toArray n = true) (hwm : Region.waitsFor .any l.toArray m n = true) (hfree : ((List.range m).all fun i => decide (i ≤ n) || !Region.waitsFor .any l.toArray i n) = true) (hsm : Region.sinkB .any l.toArray m = true) (hcm : Region.chainB .any l.toArray m = true)
 (hseq : Region.seqB .any l.toArray (l.drop m).length m ((List.replicate m true ++ List.replicate (l.toArray.size - m) false).toArray) = true)
 (hlate : ∀ oi ∈ (l.take m).drop (n + 1), gOf G oi = none ∧ oi.guard = none ∧ on.apart l.toArray oi = true ∧ ∀ a W W' v, oi.quietAt P a (fun _ => False) W v → oi.quietAt P a (fun _ => False) W' v)
 (hG : ∀ t φ, G t = some φ → ∀ v W W', E W W' → φ v W → φ v W') (hE : E w0 { w with drawn := w.drawn + 1 })
 (h : wpL P l.toArray E w0 G (fun a W => OnAt P on a (fun v W' => wpList P l.toArray Q (l.drop m) (a.put on.dst v) W') W) (l.take n ++ (l.take m).drop (n + 1)) a []) : (Code.region id l.toArray true).wp P Q a w := by
 have hnm : n < m := of_decide_eq_true hnm;have hml : m < l.length := of_decide_eq_true hml;simp only [Region.lexB, Bool.and_eq_true] at hB;refine wp_region_any hm ?_;have hx := lex_facts (ops := l.toArray) (md := .any) l.toArray.size 0 (Array.replicate l.toArray.size false) (by simp) (fun i hi _ => by omega) (fun i _ hi => by simp at hi; simp [hi]) (by omega) hB.2
 have hmap : ((List.range' 0 n).zip (l.take n) ++ (List.range' (n + 1) (m - (n + 1))).zip ((l.take m).drop (n + 1))).map (·.2) = l.take n ++ (l.take m).drop (n + 1) := by
  rw [List.map_append, List.map_snd_zip, List.map_snd_zip]
  · simp; omega
  · simp; omega
 have h' : wpG P l.toArray E w0 G (fun a W => OnAt P on a (fun v W' => wpList P l.toArray Q (l.drop m) (a.put on.dst v) W') W) (l.take n ++ (l.take m).drop (n + 1)) a (fun _ _ => True) := by
  unfold wpL at h;exact wpG_mono _ _ _ _ (fun _ _ _ _ => trivial) h
 have hmem : ∀ x, x ∈ ((List.range' 0 n).zip (l.take n) ++ (List.range' (n + 1) (m - (n + 1))).zip ((l.take m).drop (n + 1))) ↔ l[x.1]? = some x.2 ∧ x.1 < m ∧ x.1 ≠ n := by
  intro x;rw [List.mem_append, mem_zipR, mem_zipR];constructor
  · rintro (⟨i, hi, h1, h2⟩ | ⟨i, hi, h1, h2⟩)
    · rw [List.getElem?_take_of_lt hi] at h2
      have e : x.1 = i := by omega
      exact ⟨by rw [e]; exact h2, by omega, by omega⟩
    · rw [List.getElem?_drop, List.getElem?_take_of_lt (by omega)] at h2
      exact ⟨by rw [h1]; exact h2, by omega, by omega⟩
  · rintro ⟨h1, h2, h3⟩
    rcases Nat.lt_or_ge x.1 n with h4 | h4
    · exact .inl ⟨x.1, h4, by omega, by rw [List.getElem?_take_of_lt h4]; exact h1⟩
    · refine .inr ⟨x.1 - (n + 1), by omega, by omega, ?_⟩
      rw [List.getElem?_drop, List.getElem?_take_of_lt (by omega), show n + 1 + (x.1 - (n + 1)) = x.1 by omega];exact h1
 have hlen : ((List.range' 0 n).zip (l.take n) ++ (List.range' (n + 1) (m - (n + 1))).zip ((l.take m).drop (n + 1))).length = m - 1 := by simp; omega
 generalize hr : (List.range' 0 n).zip (l.take n) ++ (List.range' (n + 1) (m - (n + 1))).zip ((l.take m).drop (n + 1)) = r at *
 have hp : r.Pairwise (fun x y => x.1 < y.1) := by
  rw [← hr]
  have hzp : ∀ (s k : Nat) (L : List Oper), ((List.range' s k).zip L).Pairwise (fun x y => x.1 < y.1) := by
   intro s k L;rw [List.pairwise_iff_getElem];intro i j hi hj hij;rw [List.getElem_zip, List.getElem_zip];simp only [List.getElem_range'];omega
  refine List.pairwise_append.2 ⟨hzp _ _ _, hzp _ _ _, fun x hx y hy => ?_⟩;obtain ⟨i, hi, h1, _⟩ := mem_zipR.1 hx;obtain ⟨j, hj, h2, _⟩ := mem_zipR.1 hy;omega
 have hfr : ∀ i, n < i → i < m → Region.waitsFor .any l.toArray i n = false := fun i h1 h2 => by
  have h3 := List.all_eq_true.1 hfree i (List.mem_range.2 h2);rw [Bool.or_eq_true, decide_eq_true_eq, Bool.not_eq_true'] at h3
  rcases h3 with h3 | h3
  · omega
  · exact h3
 have hlt : ∀ i oi, n < i → i < m → l.toArray[i]? = some oi → gOf G oi = none ∧ oi.guard = none ∧ on.apart l.toArray oi = true ∧ ∀ a W W' v, oi.quietAt P a (fun _ => False) W v → oi.quietAt P a (fun _ => False) W' v := fun i oi h1 h2 h3 => by
  refine hlate oi (List.mem_iff_getElem?.2 ⟨i - (n + 1), ?_⟩);rw [List.getElem?_drop, List.getElem?_take_of_lt (by omega), show n + 1 + (i - (n + 1)) = i by omega]
  simpa using h3
 have key := wpG_anyS (P := P) (E := E) (w0 := w0) (G := G) (md := .any) (Q := Q) (n := n) (m := m) (on := on) (tl := l.drop m) hrefl htr hG hB.1 (by simpa using hon) hgon hnm (by simpa using hml) hsn hwm hfr hsm hcm hseq (fun j => by simp) hlt (fun i oi => hx i oi (Nat.zero_le _)) (m - 1) r (Array.replicate l.toArray.size false) a (fun _ _ => True) { w with drawn := w.drawn + 1 } hlen ⟨by simp, fun j oj hj hl => absurd hl (by rw [getD_replicate_false]; exact Bool.false_ne_true), fun t ht ht' => by simp at ht'; simp [ht']⟩ (fun x hx => by simpa using (hmem x).1 hx) (fun j h1 h2 => ⟨fun _ => ⟨l[j]'(by omega), (hmem _).2 ⟨by simp, h1, h2⟩⟩, fun _ => by simp [show j < l.length by omega]⟩) hp (fun _ _ _ _ _ h => h) hE (fun _ => trivial) (by rw [hmap]; exact h')
 have e : m - 1 + (l.drop m).length + 1 = l.toArray.size := by simp; omega
 rw [e] at key;exact key
end
theorem pure_move {P : Program} {o : Oper} {x : Operand} (ho : o.op = .move x) : ∀ (a : Act) (W W' : World) (v : Value), o.quietAt P a (fun _ => False) W v → o.quietAt P a (fun _ => False) W' v := by
 intro a W W' v h
 unfold Oper.quietAt execOp at *
 rw [ho] at h ⊢;simp only [Sem.run_pure, Oper.quietUpon] at h ⊢;exact ⟨trivial, h.2⟩
theorem pure_slice {P : Program} {o : Oper} {t : TypeId} {x lo : Operand} (ho : o.op = .slice t x (some lo) none none) (ht : P.underlying t = some (.slice (P.elem t))) (sz : Nat) (hsz : ∀ W, (sizeOf (P.elem t)).run P W = .ok sz W) : ∀ (a : Act) (W W' : World) (v : Value), o.quietAt P a (fun _ => False) W v → o.quietAt P a (fun _ => False) W' v := by
 intro a W W' v h
 unfold Oper.quietAt execOp at *
 rw [ho] at h ⊢;simp only [Option.map_some, Option.map_none, Sem.run_bind, run_sliceAt_slice _ _ _ _ _ _ ht] at h ⊢
 generalize a.eval x = y at *
 generalize a.eval lo = z at *
 cases y with
 | slice A n c =>
   simp only [run_slice_any _ _ _ _ _ ht, hsz] at h ⊢
   cases z with
   | int k i =>
     simp only [Instr.sliceBounds, Sem.run_bind, Sem.run_pure, Result.andThen_ok, run_sliceBound_if] at h ⊢;by_cases hc : 0 ≤ i ∧ i ≤ (n : Int)
     · simp only [if_pos hc, Result.andThen_ok, Oper.quietUpon] at h ⊢
       exact ⟨trivial, h.2⟩
     · exfalso
       simp only [if_neg hc] at h;obtain ⟨s, w', e⟩ := run_boundsPanic (P := P) (w := W) (α := Nat) k i n (if (none : Option Value).isSome = true then BoundsCode.slice3C else BoundsCode.sliceB);rw [e] at h;simp only [Result.andThen, Oper.quietUpon] at h
   | _ =>
     exfalso
     first
      | (simp [Instr.sliceBounds, Instr.sliceBound, asIntOf, stuck, go_sem, Oper.quietUpon] at h; done)
      | (rename_i p; cases p <;> simp [Instr.sliceBounds, Instr.sliceBound, asIntOf, stuck, unsupported, go_sem, Oper.quietUpon] at h)
 | _ =>
   exfalso
   simp [Instr.slice, run_underlying ht, stuck, go_sem, Oper.quietUpon] at h
end Go.Proofs.YtmopmgaeiokfjaaGreat
namespace Go.Proofs.YtmopmgaeiokfjaaGreat
open Go.RowKit
set_option linter.unusedVariables false
def Fresh0 (E lo : Nat) (v : Value) (W : World) : Prop := ∃ g, v = .slice (some ⟨g, 0, none⟩) 0 0 ∧ lo ≤ g ∧ Blk W g E []
theorem Fresh0.ext {E lo : Nat} {v : Value} {W W' : World} (h : Fresh0 E lo v W) (he : Ext W W') : Fresh0 E lo v W' := by
 obtain ⟨g, e, hg, hb⟩ := h;exact ⟨g, e, hg, hb.ext he⟩
theorem Fresh0.new (W : World) (E lo g : Nat) (hg : g = W.heap.size) (hlo : lo ≤ W.heap.size) : Fresh0 E lo (.slice (some ⟨g, 0, none⟩) 0 0) (W.alloc (.cells #[] E)) := by
 subst hg;exact ⟨_, rfl, hlo, Blk.new W E []⟩
theorem Own.up {E sz lo n : Nat} {w w' : World} {v : Value} {cs : List Value} (h : Own E sz lo w.heap.size w v n cs) (he : Ext w w') : Own E sz lo w'.heap.size w' v n cs := (h.ext he (Nat.le_refl _)).lt_size
theorem ext_of_grown {w w' : World} (h : w.grownBy w' none) : Ext w w' := by
 unfold Ext;exact ⟨h.os, h.tape, h.output, h.size, fun k hk => h.block k hk (by simp)⟩
theorem run_app0 {P : Program} {W : World} (t ty e : TypeId) (z : Value) (size bytes : Nat) (ht : P.underlying t = some (.slice e)) (hinfo : (P.info? e).map (fun i => (i.zero, i.size, i.bytes)) = some (some z, size, bytes)) (hzs : z.cells.size = size) (hsz : 0 < size)
 (g lo : Nat) (hlo : lo ≤ g) (hb : Blk W g e []) (A : Option Addr) (m c : Nat) (news : List Value) (hr : Row W size A m news) (h1 : ∀ u ∈ news, u.oneCell' = true) (h63 : m ≤ maxLen) (hbytes : m * bytes ≤ 140737488355328) :
 ∃ v' w', (Builtin.append_ #[t, t] ty #[.slice (some ⟨g, 0, none⟩) 0 0, .slice A m c]).run P W = .ok v' w' ∧ Own e size lo w'.heap.size w' v' m news ∧ Ext W w' := by
 obtain ⟨i, hi, hz, hz1, hz2⟩ := info_parts hinfo;have hown : Own e size lo W.heap.size W (.slice (some ⟨g, 0, none⟩) 0 0) 0 [] := Own.of_blk hb (by simp) (by unfold maxLen; omega) hlo hb.lt
 rcases Nat.eq_zero_or_pos m with h0 | h0
 · subst h0
   have hn : news = [] := List.eq_nil_of_length_eq_zero (by simpa using hr.1);subst hn;refine ⟨_, W, ?_, hown, Ext.refl _⟩
   cases A with
   | none => exact run_append_of_nil W 0 t ty e i size ht hi _ 0 [] ((hown.more (Nat.zero_le _) (Nat.le_refl _)).1) c
   | some ad =>
     have := run_append_room_cells (P := P) W t ty e i ht hi g 0 0 0 ad 0 c [] (by simp) (by simp) h1 (Nat.le_refl _) (by simp) (by simp)
     simpa [World.setCells] using this
 · obtain ⟨ad, rfl, hc⟩ := hr.2 h0
   obtain ⟨v', w', hrun, h2, h3⟩ := run_append_arg_grows (P := P) W t ty e i z size bytes ht hi hz hz1 hz2 hzs hsz ⟨g, 0, none⟩ 0 0 [] (by simp) (by simp) ad m c news hr.1 hc (by omega) (by omega) (by simpa using hbytes);refine ⟨v', w', hrun, ?_, ext_of_grown h3⟩
   have hw : w'.ownsRow W.heap.size e size v' m news := by simpa using h2
   have hlt := hb.lt;exact Own.more (hi := w'.heap.size) ⟨hw, fun k hk => (hw.lt k hk).2⟩ (by omega) (Nat.le_refl _)
theorem grow_app0 {P : Program} {o : Oper} {a : Act} {φ : Value → World → Prop} {W : World} (s x : Operand) (t : TypeId) (ho : o.op = .call { callee := .builtin .append, args := #[s, x], argTypes := #[t, t] })
 (e : TypeId) (z : Value) (size bytes : Nat) (ht : P.underlying t = some (.slice e)) (hinfo : (P.info? e).map (fun i => (i.zero, i.size, i.bytes)) = some (some z, size, bytes)) (hzs : z.cells.size = size) (hsz : 0 < size)
 (lo : Nat) (v0 : Value) (hs : a.eval s = v0) (hf : Fresh0 e lo v0 W) (A : Option Addr) (m c : Nat) (news : List Value) (hx : a.eval x = .slice A m c) (hr : Row W size A m news) (h1 : ∀ u ∈ news, u.oneCell' = true) (h63 : m ≤ maxLen) (hbytes : m * bytes ≤ 140737488355328)
 (hφ : ∀ v' w', Own e size lo w'.heap.size w' v' m news → φ v' w') : growAt P o a Ext φ W := by
 obtain ⟨g, rfl, hlo, hb⟩ := hf;obtain ⟨v', w', hrun, h2, h3⟩ := run_app0 (P := P) t o.type e z size bytes ht hinfo hzs hsz g lo hlo hb A m c news hr h1 h63 hbytes;unfold growAt execOp;simp only [ho, resolve, invoke, builtin, Sem.run_bind, Sem.run_pure, Result.andThen_ok, List.map_toArray, List.map_cons, List.map_nil, hs, hx, hrun, growUpon];exact ⟨h3, hφ v' w' h2⟩
theorem wpList_appB {P : Program} {ops : Array Oper} {rest : List Oper} {o : Oper} {a : Act} {w : World} {Q : Exit → Act → World → Prop} (lo : Nat) (hgd : o.guard = none) (s x : Operand) (t : TypeId)
 (ho : o.op = .call { callee := .builtin .append, args := #[s, x], argTypes := #[t, t] })
 (E : TypeId) (z : Value) (sz bytes : Nat) (ht : P.underlying t = some (.slice E)) (hinfo : (P.info? E).map (fun i => (i.zero, i.size, i.bytes)) = some (some z, sz, bytes)) (hzs : z.cells.size = sz) (hsz : 0 < sz)
 (v : Value) (n : Nat) (xs : List Value) (hs : a.eval s = v) (A : Option Addr) (m c : Nat) (news : List Value) (hx : a.eval x = .slice A m c)
 (hown : Own E sz lo w.heap.size w v n xs) (hr : Row w sz A m news) (h1 : ∀ u ∈ news, u.oneCell' = true) (hlo : lo ≤ w.heap.size)
 (h63 : n + m ≤ maxLen) (hbytes : (n + m) * bytes ≤ 140737488355328)
 (h : ∀ v' w', Own E sz lo w'.heap.size w' v' (n + m) (xs ++ news) → w.grownBy w' v.ownBlock → wpList P ops Q rest (a.put o.dst v') w') : wpList P ops Q (o :: rest) a w := by
 obtain ⟨i0, hi0, hz0, hz1, hz2⟩ := info_parts hinfo;refine wpList_append_any w hgd s x t ho lo E i0 z sz bytes ht hi0 hz0 hz1 hz2 hzs hsz v n xs hs hown.1 A m c news hx hr h1 h63 hbytes hlo ?_;intro v' w' h2 h3 h4;exact h v' w' ⟨h2, fun k hk => (h2.lt k hk).2⟩ h3
theorem Blk.grown {w w' : World} {g : Nat} {t : TypeId} {cs : List Value} {row : Option Nat} (h : Blk w g t cs) (hg : w.grownBy w' row) (hn : row ≠ some g) : Blk w' g t cs := (hg.block g h.lt (fun e => hn e.symm)).trans h
theorem Own.not_block {E sz lo hi n g : Nat} {w : World} {v : Value} {cs : List Value} (h : Own E sz lo hi w v n cs) (hg : g < lo) : v.ownBlock ≠ some g := fun e => by have := (h.1.lt g e).1; omega
theorem Ext.grownB {a w w' : World} {E sz lo hi n : Nat} {v : Value} {cs : List Value} (h : Ext a w) (ho : Own E sz lo hi w v n cs) (hg : w.grownBy w' v.ownBlock) (hl : a.heap.size ≤ lo) : Ext a w' := h.grown hg fun k hk => Nat.le_trans hl (ho.1.lt k hk).1
theorem wp_pushD {α : Type} {OC : World → List Nat → List Value → α → Prop} {P : Program} {o : Oper} {a : Act} {w : World} {K : Act → World → Prop} {Q : Exit → Act → World → Prop} (w0 : World) (hK : OKeeps OC) (hO : OOne OC) (s x : Operand) (t : TypeId)
 (ho : o.op = .call { callee := .builtin .append, args := #[s, x], argTypes := #[t, t] })
 (E : TypeId) (z : Value) (sz bytes : Nat) (ht : P.underlying t = some (.slice E)) (hinfo : (P.info? E).map (fun i => (i.zero, i.size, i.bytes)) = some (some z, sz, bytes)) (hzs : z.cells.size = sz) (hsz : 0 < sz)
 (v : Value) (ds ds2 : List α) (l1 h1 l2 h2 : Nat) (hs : a.eval s = v) (A : Option Addr) (k c : Nat) (hx : a.eval x = .slice A k c)
 (hno : NO OC E sz l1 h1 w v ds) (hno2 : NO OC E sz l2 h2 w (.slice A k c) ds2) (hd : h1 ≤ l2 ∨ h2 ≤ l1) (hw1 : w0.heap.size ≤ l1) (hw2 : w0.heap.size ≤ l2) (hm1 : h1 ≤ w.heap.size) (hm2 : h2 ≤ w.heap.size) (he : Ext w0 w)
 (h63 : ds.length + ds2.length ≤ 1000000000) (hby : bytes ≤ 1000)
 (h : ∀ v' w', NO OC E sz w0.heap.size w'.heap.size w' v' (ds ++ ds2) → Ext w0 w' → K (a.put o.dst v') w') : o.wp P a w K Q := by
 obtain ⟨cs, fp, hown, hl, hn, hb⟩ := hno;obtain ⟨cs2, f2, hown2, hl2, hn2, hb2⟩ := hno2;obtain ⟨rfl, hr⟩ := NO.row hown2;have hmul : (ds.length + ds2.length) * bytes ≤ 1000000000 * 1000 := Nat.mul_le_mul h63 hby;obtain ⟨i0, hi0, hz0, hz1, hz2⟩ := info_parts hinfo;refine wp_append_any w s x t ho w0.heap.size E i0 z sz bytes ht hi0 hz0 hz1 hz2 hzs hsz v ds.length cs hs (hown.more hw1 (Nat.le_refl _)).1 A ds2.length c cs2 hx hr (hl2.ones hO) (by unfold maxLen; omega) (by omega) he.size ?_;intro v' w' h2' hg hbl
 have ho' : Own E sz w0.heap.size w'.heap.size w' v' (ds.length + ds2.length) (cs ++ cs2) := ⟨h2', fun k hk => (h2'.lt k hk).2⟩
 have he' : Ext w0 w' := he.app (hown.more hw1 (Nat.le_refl _)) hg;have hn2' := (List.nodup_append.1 hn2).2.1;refine h v' w' ⟨cs ++ cs2, fp ++ f2, by rw [List.length_append]; exact ho', ?_, ?_, ?_⟩ he'
 · have hne : ∀ b ∈ fp ++ f2, v.ownBlock ≠ some b := by
    intro b hm' e
    rcases List.mem_append.1 hm' with h1 | h1
    · exact (List.nodup_append.1 hn).2.2 b (by simp [e]) b h1 rfl
    · have h4 := (hown.1.lt b e).1
      have h2 := hown.2 b e;have h3 := hb2 b h1;omega
   refine OL.append (hl.keep hK fun b hbm hbs => ?_) (hl2.keep hK fun b hbm hbs => ?_)
   · exact hg.block b hbs (fun e => hne b (by simp [hbm]) e.symm)
   · exact hg.block b hbs (fun e => hne b (by simp [hbm]) e.symm)
 · have hd' := List.nodup_append.1 hn
   have h12 : (fp ++ f2).Nodup := List.nodup_append.2 ⟨hd'.2.1, hn2', fun p hp q hq => by have h1 := hb p hp; have h2 := hb2 q hq; omega⟩;refine List.nodup_append.2 ⟨by cases v'.ownBlock <;> simp, h12, fun p hp q hq e => ?_⟩;subst e
   have hp : v'.ownBlock = some p := by simpa using hp
   rcases hbl with hbl | hbl
   · rw [hbl] at hp
     rcases List.mem_append.1 hq with h1 | h1
     · exact hd'.2.2 p (by simp [hp]) p h1 rfl
     · have h4 := (hown.1.lt p hp).1
       have h2 := hown.2 p hp;have h3 := hb2 p h1;omega
   · rw [hbl] at hp
     cases hp
     rcases List.mem_append.1 hq with h1 | h1
     · have := hb _ h1; omega
     · have := hb2 _ h1; omega
 · intro b hm'
   have hz : w.heap.size ≤ w'.heap.size := hg.size
   rcases List.mem_append.1 hm' with h1 | h1
   · have := hb b h1; omega
   · have := hb2 b h1; omega
theorem step_pushD {α : Type} {OC : World → List Nat → List Value → α → Prop} {P : Program} {ops : Array Oper} {o : Oper} {a : Act} {w : World} {K : Act → World → Prop} {Q : Exit → Act → World → Prop} {E' : Prop} (hgd : o.guard = none) (w0 : World) (hK : OKeeps OC) (hO : OOne OC) (s x : Operand) (t : TypeId)
 (ho : o.op = .call { callee := .builtin .append, args := #[s, x], argTypes := #[t, t] })
 (E : TypeId) (z : Value) (sz bytes : Nat) (ht : P.underlying t = some (.slice E)) (hinfo : (P.info? E).map (fun i => (i.zero, i.size, i.bytes)) = some (some z, sz, bytes)) (hzs : z.cells.size = sz) (hsz : 0 < sz)
 (v : Value) (ds ds2 : List α) (l1 h1 l2 h2 : Nat) (hs : a.eval s = v) (A : Option Addr) (k c : Nat) (hx : a.eval x = .slice A k c)
 (hno : NO OC E sz l1 h1 w v ds) (hno2 : NO OC E sz l2 h2 w (.slice A k c) ds2) (hd : h1 ≤ l2 ∨ h2 ≤ l1) (hw1 : w0.heap.size ≤ l1) (hw2 : w0.heap.size ≤ l2) (hm1 : h1 ≤ w.heap.size) (hm2 : h2 ≤ w.heap.size) (he : Ext w0 w)
 (h63 : ds.length + ds2.length ≤ 1000000000) (hby : bytes ≤ 1000)
 (h : ∀ v' w', NO OC E sz w0.heap.size w'.heap.size w' v' (ds ++ ds2) → Ext w0 w' → K (a.put o.dst v') w') : if Region.wanted o (yielded ops a.tmps) = true then Oper.wp P o a w K Q else E' := by
 have hw : Region.wanted o (yielded ops a.tmps) = true := by simp [Region.wanted, hgd]
 rw [if_pos hw];exact wp_pushD w0 hK hO s x t ho E z sz bytes ht hinfo hzs hsz v ds ds2 l1 h1 l2 h2 hs A k c hx hno hno2 hd hw1 hw2 hm1 hm2 he h63 hby h
def Fresh1 (E lo : Nat) (cs : List Value) (v : Value) (W : World) : Prop := ∃ g, v = .slice (some ⟨g, 0, none⟩) 1 1 ∧ lo ≤ g ∧ Blk W g E cs
theorem Fresh1.ext {E lo : Nat} {cs : List Value} {v : Value} {W W' : World} (h : Fresh1 E lo cs v W) (he : Ext W W') : Fresh1 E lo cs v W' := by
 obtain ⟨g, e, hg, hb⟩ := h;exact ⟨g, e, hg, hb.ext he⟩
theorem Fresh1.new (W : World) (E lo g : Nat) (cs : List Value) (hg : g = W.heap.size) (hlo : lo ≤ W.heap.size) : Fresh1 E lo cs (.slice (some ⟨g, 0, none⟩) 1 1) (W.alloc (.cells cs.toArray E)) := by
 subst hg;exact ⟨_, rfl, hlo, Blk.new W E cs⟩
theorem row_blk {W : World} {E sz g : Nat} {cs : List Value} (hb : Blk W g E cs) (h : cs.length = sz) : Row W sz (some ⟨g, 0, none⟩) 1 cs :=
 ⟨by omega, fun _ => ⟨_, rfl, fun j u hu => by rw [add_none, Nat.zero_add]; exact (hb.cell j).trans hu⟩⟩
theorem wp_pushE {α : Type} {OC : World → List Nat → List Value → α → Prop} {P : Program} {o : Oper} {a : Act} {w : World} {K : Act → World → Prop} {Q : Exit → Act → World → Prop} (lo : Nat) (hK : OKeeps OC) (hO : OOne OC) (s x : Operand) (t : TypeId)
 (ho : o.op = .call { callee := .builtin .append, args := #[s, x], argTypes := #[t, t] })
 (E : TypeId) (z : Value) (sz bytes : Nat) (ht : P.underlying t = some (.slice E)) (hinfo : (P.info? E).map (fun i => (i.zero, i.size, i.bytes)) = some (some z, sz, bytes)) (hzs : z.cells.size = sz) (hsz : 0 < sz)
 (v : Value) (ds ds2 : List α) (cs news : List Value) (fp f2 : List Nat) (hs : a.eval s = v) (A : Option Addr) (k c : Nat) (hx : a.eval x = .slice A k c)
 (hown : Own E sz lo w.heap.size w v ds.length cs) (hl : OL OC sz w ds fp cs) (hn : (v.ownBlock.toList ++ fp).Nodup) (hb : ∀ b ∈ fp, lo ≤ b ∧ b < w.heap.size)
 (hr : Row w sz A k news) (hol : OL OC sz w ds2 f2 news) (hn2 : f2.Nodup) (hb2 : ∀ b ∈ f2, lo ≤ b ∧ b < w.heap.size) (hd : ∀ b ∈ f2, b ∉ fp ∧ v.ownBlock ≠ some b) (hlo : lo ≤ w.heap.size)
 (h63 : ds.length + ds2.length ≤ 1000000000) (hby : bytes ≤ 1000)
 (h : ∀ v' w', NO OC E sz lo w'.heap.size w' v' (ds ++ ds2) → w.grownBy w' v.ownBlock → K (a.put o.dst v') w') : o.wp P a w K Q := by
 have hlen : k * sz = ds2.length * sz := by rw [← hr.1, hol.len]
 have hk : k = ds2.length := Nat.eq_of_mul_eq_mul_right hsz hlen;subst hk;have hmul : (ds.length + ds2.length) * bytes ≤ 1000000000 * 1000 := Nat.mul_le_mul h63 hby;obtain ⟨i0, hi0, hz0, hz1, hz2⟩ := info_parts hinfo;refine wp_append_any w s x t ho lo E i0 z sz bytes ht hi0 hz0 hz1 hz2 hzs hsz v ds.length cs hs hown.1 A ds2.length c news hx hr (hol.ones hO) (by unfold maxLen; omega) (by omega) hlo ?_;intro v' w' h2' hg hbl;refine h v' w' ⟨cs ++ news, fp ++ f2, by rw [List.length_append]; exact ⟨h2', fun k hk => (h2'.lt k hk).2⟩, ?_, ?_, ?_⟩ hg
 · have hne : ∀ b ∈ fp ++ f2, v.ownBlock ≠ some b := by
    intro b hm' e
    rcases List.mem_append.1 hm' with h1 | h1
    · exact (List.nodup_append.1 hn).2.2 b (by simp [e]) b h1 rfl
    · exact (hd b h1).2 e
   refine OL.append (hl.keep hK fun b hbm hbs => ?_) (hol.keep hK fun b hbm hbs => ?_)
   · exact hg.block b hbs (fun e => hne b (by simp [hbm]) e.symm)
   · exact hg.block b hbs (fun e => hne b (by simp [hbm]) e.symm)
 · have hd' := List.nodup_append.1 hn
   have h12 : (fp ++ f2).Nodup := List.nodup_append.2 ⟨hd'.2.1, hn2, fun p hp q hq e => (hd q hq).1 (e ▸ hp)⟩;refine List.nodup_append.2 ⟨by cases v'.ownBlock <;> simp, h12, fun p hp q hq e => ?_⟩;subst e
   have hp : v'.ownBlock = some p := by simpa using hp
   rcases hbl with hbl | hbl
   · rw [hbl] at hp
     rcases List.mem_append.1 hq with h1 | h1
     · exact hd'.2.2 p (by simp [hp]) p h1 rfl
     · exact (hd p h1).2 hp
   · rw [hbl] at hp
     cases hp
     rcases List.mem_append.1 hq with h1 | h1
     · have := hb _ h1; omega
     · have := hb2 _ h1; omega
 · intro b hm'
   have hz : w.heap.size ≤ w'.heap.size := hg.size
   rcases List.mem_append.1 hm' with h1 | h1
   · have := hb b h1; omega
   · have := hb2 b h1; omega
section
variable {α : Type} {OC : World → List Nat → List Value → α → Prop} {P : Program} {ops : Array Oper} {rest : List Oper} {o : Oper} {a : Act} {w : World} {K : Act → World → Prop} {Q : Exit → Act → World → Prop} {E' : Prop}
theorem wpList_pushE (hgd : o.guard = none) (lo : Nat) (hK : OKeeps OC) (hO : OOne OC) (s x : Operand) (t : TypeId)
 (ho : o.op = .call { callee := .builtin .append, args := #[s, x], argTypes := #[t, t] })
 (E : TypeId) (z : Value) (sz bytes : Nat) (ht : P.underlying t = some (.slice E)) (hinfo : (P.info? E).map (fun i => (i.zero, i.size, i.bytes)) = some (some z, sz, bytes)) (hzs : z.cells.size = sz) (hsz : 0 < sz)
 (v : Value) (ds ds2 : List α) (cs news : List Value) (fp f2 : List Nat) (hs : a.eval s = v) (A : Option Addr) (k c : Nat) (hx : a.eval x = .slice A k c)
 (hown : Own E sz lo w.heap.size w v ds.length cs) (hl : OL OC sz w ds fp cs) (hn : (v.ownBlock.toList ++ fp).Nodup) (hb : ∀ b ∈ fp, lo ≤ b ∧ b < w.heap.size)
 (hr : Row w sz A k news) (hol : OL OC sz w ds2 f2 news) (hn2 : f2.Nodup) (hb2 : ∀ b ∈ f2, lo ≤ b ∧ b < w.heap.size) (hd : ∀ b ∈ f2, b ∉ fp ∧ v.ownBlock ≠ some b) (hlo : lo ≤ w.heap.size)
 (h63 : ds.length + ds2.length ≤ 1000000000) (hby : bytes ≤ 1000)
 (h : ∀ v' w', NO OC E sz lo w'.heap.size w' v' (ds ++ ds2) → w.grownBy w' v.ownBlock → wpList P ops Q rest (a.put o.dst v') w') : wpList P ops Q (o :: rest) a w :=
 wpList_plain hgd fun _ hK' => wp_pushE lo hK hO s x t ho E z sz bytes ht hinfo hzs hsz v ds ds2 cs news fp f2 hs A k c hx hown hl hn hb hr hol hn2 hb2 hd hlo h63 hby fun v' w' h2 h3 => hK' _ _ (h v' w' h2 h3)
end
def Zero1 (E lo : Nat) (zs : List Value) (v : Value) (W : World) : Prop := ∃ g, v = .pointer (some ⟨g, 0, none⟩) ∧ lo ≤ g ∧ Blk W g E zs
theorem Zero1.ext {E lo : Nat} {zs : List Value} {v : Value} {W W' : World} (h : Zero1 E lo zs v W) (he : Ext W W') : Zero1 E lo zs v W' := by
 obtain ⟨g, e, hg, hb⟩ := h;exact ⟨g, e, hg, hb.ext he⟩
theorem ownsRow_typed {w : World} {base E T sz n g : Nat} {v : Value} {cs cs' : List Value} (h : w.ownsRow base E sz v n cs) (hb : Blk w g T cs') (hne : E ≠ T) : g ∉ v.ownBlock.toList := by
 intro hm
 rcases h.2 with ⟨rfl, _⟩ | ⟨g', cap, cur, rfl, _, hh, _⟩
 · simp [Value.ownBlock] at hm
 · have e : g = g' := by simpa [Value.ownBlock] using hm
   subst e;unfold Blk at hb;rw [hh] at hb;simp at hb;exact hne hb.2
theorem Own.setT {E T sz lo hi n g : Nat} {w : World} {v : Value} {cs cs' : List Value} (h : Own E sz lo hi w v n cs) (hb : Blk w g T cs') (hne : E ≠ T) (i : Nat) (u : Value) : Own E sz lo hi (w.setCell ⟨g, i, none⟩ u) v n cs :=
 ⟨ownsRow_set h.1 (ownsRow_typed h.1 hb hne), h.2⟩
def OTyped {α : Type} (OC : World → List Nat → List Value → α → Prop) (T : Nat) : Prop := ∀ w fp cs x g cs', OC w fp cs x → Blk w g T cs' → g ∉ fp
theorem OL.typed {α : Type} {OC : World → List Nat → List Value → α → Prop} {sz T g : Nat} {w : World} {cs' : List Value} (hT : OTyped OC T) (hb : Blk w g T cs') : ∀ {ds : List α} {fp : List Nat} {cs : List Value}, OL OC sz w ds fp cs → g ∉ fp
 | [], _, _, ⟨e, _⟩, hm => by subst e; cases hm
 | _ :: _, _, _, ⟨f1, f2, c1, c2, e1, _, _, ho, hr⟩, hm => by
   subst e1
   rcases List.mem_append.1 hm with hm | hm
   · exact hT _ _ _ _ _ _ ho hb hm
   · exact OL.typed hT hb hr hm
theorem NO.setT {α : Type} {OC : World → List Nat → List Value → α → Prop} {E T sz lo hi g : Nat} {w : World} {v : Value} {ds : List α} {cs' : List Value} (hK : OKeeps OC) (hT : OTyped OC T) (h : NO OC E sz lo hi w v ds) (hb : Blk w g T cs') (hne : E ≠ T) (i : Nat) (u : Value) : NO OC E sz lo hi (w.setCell ⟨g, i, none⟩ u) v ds := by
 obtain ⟨cs, fp, ho, hl, hn, hbd⟩ := h;exact ⟨cs, fp, ho.setT hb hne i u, hl.set hK (OL.typed hT hb hl), hn, hbd⟩
theorem NO.setAt1 {α : Type} {OC : World → List Nat → List Value → α → Prop} (hK : OKeeps OC) {W : World} {E lo hi hi' : Nat} {A : Option Addr} {n c : Nat} {ds : List α} {k : Nat} (h : NO OC E 1 lo hi W (.slice A n c) ds) (hk : k < ds.length) {f2 : List Nat} {u : Value} {x : α}
 (ho : OC W f2 [u] x) (hn : f2.Nodup) (hb : ∀ b ∈ f2, hi ≤ b ∧ b < hi') (hh : hi ≤ hi') :
 ∃ g, A = some ⟨g, 0, none⟩ ∧ n = ds.length ∧ lo ≤ g ∧ g < hi ∧ g < W.heap.size ∧ W.frozen? ⟨g, k, none⟩ = false ∧ NO OC E 1 lo hi' (W.setCell ⟨g, k, none⟩ u) (.slice A n c) (ds.set k x) := by
 obtain ⟨cs, fp, hown, hl, hnd, hbd⟩ := h
 rcases hown.cases with ⟨e, h0, _⟩ | ⟨g, cap, rest, e, hg1, hg2, hblk, hlc, hcap, hm, hs⟩
 · omega
 · simp only [Value.slice.injEq] at e
   obtain ⟨rfl, rfl, rfl⟩ := e;obtain ⟨f1, f0, f3, c1, c0, c3, e1, e2, l1, l2, ol1, _, ol3⟩ := hl.at_ k hk
   have hgf : g ∉ fp := by
    simp only [Value.ownBlock, Option.toList_some, List.singleton_append, List.nodup_cons] at hnd;exact hnd.1
   have hnf : fp.Nodup := (List.nodup_append.1 hnd).2.1;have hkeep : ∀ b, b ≠ g → (W.setCell ⟨g, k, none⟩ u).heap[b]? = W.heap[b]? := fun b hb => Below.heap_setCell _ _ _ _ hb
   have hblk2 : Blk (W.setCell ⟨g, k, none⟩ u) g E ((c1 ++ ([u] ++ c3)) ++ rest) := by
    have h1 := hblk.set_ k u
    have h2 : (cs ++ rest).set k u = (c1 ++ ([u] ++ c3)) ++ rest := by
     obtain ⟨y, rfl⟩ : ∃ y, c0 = [y] := by
      rcases c0 with _ | ⟨y, _ | ⟨z, c0⟩⟩
      · simp at l2
      · exact ⟨y, rfl⟩
      · simp at l2
     rw [e2]
     have h3 : (c1 ++ ([y] ++ c3)) ++ rest = c1 ++ y :: (c3 ++ rest) := by simp
     rw [h3, set_at c1 (c3 ++ rest) y u k (by rw [l1]; omega)];simp
    rw [h2] at h1;exact h1
   have hgw : g < W.heap.size := hblk.lt;refine ⟨g, rfl, rfl, hg1, hg2, hgw, hblk.frozen k, c1 ++ ([u] ++ c3), f1 ++ (f2 ++ f3), ?_, ?_, ?_, ?_⟩
   · have hlen : (c1 ++ ([u] ++ c3)).length = ds.length * 1 := by
      rw [e2] at hlc;simp only [List.length_append] at hlc ⊢;simp only [List.length_cons, List.length_nil];omega
     rw [List.length_set]
     exact Own.mk' hg1 (by omega) hblk2 hlen hcap hm (by
      rw [e2] at hs;simp only [List.length_append] at hs ⊢;simp only [List.length_cons, List.length_nil]
      omega)
   · rw [set_split ds k x hk]
     refine OL.append (ol1.keep hK fun b hb' _ => hkeep b (fun e => hgf (by rw [e1]; rw [← e]; exact List.mem_append_left _ hb'))) ⟨f2, f3, [u], c3, rfl, rfl, rfl, hK _ _ _ _ _ (fun b hb' _ => hkeep b (fun e => by have := (hb b hb').1; omega)) ho, ol3.keep hK fun b hb' _ => hkeep b (fun e => hgf (by rw [e1]; rw [← e]; exact List.mem_append_right _ (List.mem_append_right _ hb')))⟩
   · simp only [Value.ownBlock, Option.toList_some, List.singleton_append, List.nodup_cons]
     rw [e1] at hnf hgf;have hf1 := List.nodup_append.1 hnf;have hf3 := List.nodup_append.1 hf1.2.1;refine ⟨fun hm' => ?_, List.nodup_append.2 ⟨hf1.1, List.nodup_append.2 ⟨hn, hf3.2.1, fun a ha b hb' e => ?_⟩, fun a ha b hb' e => ?_⟩⟩
     · rcases List.mem_append.1 hm' with hm' | hm'
       · exact hgf (List.mem_append_left _ hm')
       · rcases List.mem_append.1 hm' with hm' | hm'
         · have := (hb g hm').1; omega
         · exact hgf (List.mem_append_right _ (List.mem_append_right _ hm'))
     · have h1 := (hb a ha).1
       have h2 := (hbd b (by rw [e1]; exact List.mem_append_right _ (List.mem_append_right _ hb'))).2;omega
     · rcases List.mem_append.1 hb' with hb' | hb'
       · have h1 := (hb b hb').1
         have h2 := (hbd a (by rw [e1]; exact List.mem_append_left _ ha)).2;omega
       · exact hf1.2.2 a ha b (List.mem_append_right _ hb') e
   · intro b hm'
     rcases List.mem_append.1 hm' with hm' | hm'
     · have := hbd b (by rw [e1]; exact List.mem_append_left _ hm'); omega
     · rcases List.mem_append.1 hm' with hm' | hm'
       · have := hb b hm'; omega
       · have := hbd b (by rw [e1]; exact List.mem_append_right _ (List.mem_append_right _ hm')); omega
end Go.Proofs.YtmopmgaeiokfjaaGreat
