/- append onto a slice of the call's own whose elements hold slices themselves. No conditions. -/
import Derived.Test.YtnglhofegajbiaaAppend
import Derived.Test.YtnglhofegajbiaaMarks
namespace Go.Proofs.Ytnglhofegajbiaa
open Go.RowKit
set_option linter.unusedVariables false
def OOne {α : Type} (OC : World → List Nat → List Value → α → Prop) : Prop := ∀ w fp cs x, OC w fp cs x → ∀ u ∈ cs, u.oneCell' = true
theorem OL.ones {α : Type} {OC : World → List Nat → List Value → α → Prop} {sz : Nat} {w : World} (hO : OOne OC) : ∀ {ds : List α} {fp : List Nat} {cs : List Value}, OL OC sz w ds fp cs → ∀ u ∈ cs, u.oneCell' = true
  | [], _, _, ⟨_, e⟩, u, hu => by subst e; cases hu
  | _ :: _, _, _, ⟨f1, f2, c1, c2, _, e2, _, ho, hr⟩, u, hu => by
    subst e2
    rcases List.mem_append.1 hu with hu | hu
    · exact hO _ _ _ _ ho u hu
    · exact OL.ones hO hr u hu
theorem NO.nil {α : Type} (OC : World → List Nat → List Value → α → Prop) (E sz lo hi : Nat) (w : World) : NO OC E sz lo hi w (.slice none 0 0) [] := ⟨[], [], Own.nil _ _ _ _ _, ⟨rfl, rfl⟩, by simp [Value.ownBlock], by simp⟩
theorem NO.zero {α : Type} (OC : World → List Nat → List Value → α → Prop) (W : World) (E sz lo g : Nat) (hg : g = W.heap.size) (hlo : lo ≤ W.heap.size) : NO OC E sz lo (W.alloc (.cells #[] E)).heap.size (W.alloc (.cells #[] E)) (.slice (some ⟨g, 0, none⟩) 0 0) [] :=
  ⟨[], [], own_zero' W E sz lo g hg hlo, ⟨rfl, rfl⟩, by simp [Value.ownBlock], by simp⟩
section
variable {α : Type} {OC : World → List Nat → List Value → α → Prop} {E sz lo hi : Nat} {w w' : World} {v : Value} {ds : List α}
theorem NO.up (hK : OKeeps OC) (h : NO OC E sz lo hi w v ds) (he : Ext w w') (hh : hi ≤ w.heap.size) : NO OC E sz lo w'.heap.size w' v ds :=
  (NO.keep hK h fun k _ _ h3 => he.same k h3).more (Nat.le_refl _) (Nat.le_trans hh he.size)
theorem NO.at' (hK : OKeeps OC) (h : NO OC E sz lo hi w v ds) (he : Ext w w') : NO OC E sz lo hi w' v ds := NO.keep hK h fun k _ _ h3 => he.same k h3
/-- The source row of an append of all of them. -/
theorem NO.row {cs : List Value} {n : Nat} {A : Option Addr} {c k : Nat} (h : Own E sz lo hi w (.slice A k c) n cs) : k = n ∧ Row w sz A n cs := by
  rcases h.cases with ⟨e, h0, hc⟩ | ⟨g, cap, rest, e, _, _, hb, hl, hn, _⟩
  · cases e
    subst h0; subst hc
    exact ⟨rfl, by simp, fun h => absurd h (by omega)⟩
  · cases e
    refine ⟨rfl, hl, fun _ => ⟨_, rfl, fun j u hu => ?_⟩⟩
    rw [add_none, Nat.zero_add]
    have hj := (List.getElem?_eq_some_iff.1 hu).1
    exact (hb.cell j).trans (by rw [List.getElem?_append_left hj]; exact hu)
end
/-- append of elements whose blocks are newer (from m on) than those of the row. -/
theorem wpList_push {α : Type} {OC : World → List Nat → List Value → α → Prop} {P : Program} {ops : Array Oper} {rest : List Oper} {o : Oper} {a : Act} {w : World} {Q : Exit → Act → World → Prop} (w0 : World) (hK : OKeeps OC) (hO : OOne OC) (hgd : o.guard = none) (s x : Operand) (t : TypeId)
    (ho : o.op = .call { callee := .builtin .append, args := #[s, x], argTypes := #[t, t] })
    (E : TypeId) (z : Value) (sz bytes : Nat) (ht : P.underlying t = some (.slice E)) (hinfo : (P.info? E).map (fun i => (i.zero, i.size, i.bytes)) = some (some z, sz, bytes)) (hzs : z.cells.size = sz) (hsz : 0 < sz)
    (v : Value) (ds ds2 : List α) (m : Nat) (hs : a.eval s = v) (A : Option Addr) (k c : Nat) (news : List Value) (f2 : List Nat) (hx : a.eval x = .slice A k c)
    (hno : NO OC E sz w0.heap.size m w v ds) (hm : m ≤ w.heap.size) (hr : Row w sz A k news) (hol : OL OC sz w ds2 f2 news) (hn2 : f2.Nodup) (hb2 : ∀ b ∈ f2, m ≤ b ∧ b < w.heap.size) (hw0 : w0.heap.size ≤ m) (he : Ext w0 w)
    (h63 : ds.length + ds2.length ≤ 1000000000) (hby : bytes ≤ 1000)
    (h : ∀ v' w', NO OC E sz w0.heap.size w'.heap.size w' v' (ds ++ ds2) → Ext w0 w' → wpList P ops Q rest (a.put o.dst v') w') : wpList P ops Q (o :: rest) a w := by
  obtain ⟨cs, fp, hown, hl, hn, hb⟩ := hno
  have hlen : k * sz = ds2.length * sz := by rw [← hr.1, hol.len]
  have hk : k = ds2.length := Nat.eq_of_mul_eq_mul_right hsz hlen
  subst hk
  have hmul : (ds.length + ds2.length) * bytes ≤ 1000000000 * 1000 := Nat.mul_le_mul h63 hby
  refine wpList_app w0 hgd s x t ho E z sz bytes ht hinfo hzs hsz v ds.length cs hs A ds2.length c news hx (hown.more (Nat.le_refl _) hm) hr (hol.ones hO) he (by unfold maxLen; omega) (by omega) ?_
  intro v' w' ho' he' hg hbl
  refine h v' w' ⟨cs ++ news, fp ++ f2, by rw [List.length_append]; exact ho', ?_, ?_, ?_⟩ he'
  · have hne : ∀ b ∈ fp ++ f2, v.ownBlock ≠ some b := by
      intro b hm' e
      rcases List.mem_append.1 hm' with h1 | h1
      · exact (List.nodup_append.1 hn).2.2 b (by simp [e]) b h1 rfl
      · have h2 := hown.2 b e
        have h3 := hb2 b h1
        omega
    refine OL.append (hl.keep hK fun b hbm hbs => ?_) (hol.keep hK fun b hbm hbs => ?_)
    · exact hg.block b hbs (fun e => hne b (by simp [hbm]) e.symm)
    · exact hg.block b hbs (fun e => hne b (by simp [hbm]) e.symm)
  · have hd := List.nodup_append.1 hn
    have h12 : (fp ++ f2).Nodup := List.nodup_append.2 ⟨hd.2.1, hn2, fun p hp q hq => by have h1 := hb p hp; have h2 := hb2 q hq; omega⟩
    refine List.nodup_append.2 ⟨by cases v'.ownBlock <;> simp, h12, fun p hp q hq e => ?_⟩
    subst e
    have hp : v'.ownBlock = some p := by simpa using hp
    rcases hbl with hbl | hbl
    · rw [hbl] at hp
      rcases List.mem_append.1 hq with h1 | h1
      · exact hd.2.2 p (by simp [hp]) p h1 rfl
      · have h2 := hown.2 p hp
        have h3 := hb2 p h1
        omega
    · rw [hbl] at hp
      cases hp
      rcases List.mem_append.1 hq with h1 | h1
      · have := hb _ h1; omega
      · have := hb2 _ h1; omega
  · intro b hm'
    have hz : w.heap.size ≤ w'.heap.size := hg.size
    have hz0 := he.size
    rcases List.mem_append.1 hm' with h1 | h1
    · have := hb b h1; omega
    · have := hb2 b h1
      exact ⟨by omega, by omega⟩
theorem row_one (W : World) (E sz g : Nat) (cs : List Value) (hg : g = W.heap.size) (h : cs.length = sz) : Row (W.alloc (.cells cs.toArray E)) sz (some ⟨g, 0, none⟩) 1 cs := row_newN W E sz 1 g cs hg (by omega)
end Go.Proofs.Ytnglhofegajbiaa
