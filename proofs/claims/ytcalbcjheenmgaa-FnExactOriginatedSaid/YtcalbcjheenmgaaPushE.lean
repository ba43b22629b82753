/- append of elements that hold slices, with what is disjoint said outright. No conditions. -/
import Derived.Test.YtcalbcjheenmgaaPushD
import Derived.Test.YtcalbcjheenmgaaFresh
namespace Go.Proofs.Ytcalbcjheenmgaa
open Go.RowKit
set_option linter.unusedVariables false
/-- v is a slice of one element with the cells cs, in a block of its own made since block lo. -/
def Fresh1 (E lo : Nat) (cs : List Value) (v : Value) (W : World) : Prop := ∃ g, v = .slice (some ⟨g, 0, none⟩) 1 1 ∧ lo ≤ g ∧ Blk W g E cs
theorem Fresh1.ext {E lo : Nat} {cs : List Value} {v : Value} {W W' : World} (h : Fresh1 E lo cs v W) (he : Ext W W') : Fresh1 E lo cs v W' := by
  obtain ⟨g, e, hg, hb⟩ := h
  exact ⟨g, e, hg, hb.ext he⟩
theorem Fresh1.new (W : World) (E lo g : Nat) (cs : List Value) (hg : g = W.heap.size) (hlo : lo ≤ W.heap.size) : Fresh1 E lo cs (.slice (some ⟨g, 0, none⟩) 1 1) (W.alloc (.cells cs.toArray E)) := by
  subst hg
  exact ⟨_, rfl, hlo, Blk.new W E cs⟩
theorem row_blk {W : World} {E sz g : Nat} {cs : List Value} (hb : Blk W g E cs) (h : cs.length = sz) : Row W sz (some ⟨g, 0, none⟩) 1 cs :=
  ⟨by omega, fun _ => ⟨_, rfl, fun j u hu => by rw [add_none, Nat.zero_add]; exact (hb.cell j).trans hu⟩⟩
theorem wp_pushE {α : Type} {OC : World → List Nat → List Value → α → Prop} {P : Program} {o : Oper} {a : Act} {w : World} {K : Act → World → Prop} {Q : Exit → Act → World → Prop} (lo : Nat) (hK : OKeeps OC) (hO : OOne OC) (s x : Operand) (t : TypeId)
    (ho : o.op = .call { callee := .builtin .append, args := #[s, x], argTypes := #[t, t] })
    (E : TypeId) (z : Value) (sz bytes : Nat) (ht : P.underlying t = some (.slice E)) (hinfo : (P.info? E).map (fun i => (i.zero, i.size, i.bytes)) = some (some z, sz, bytes)) (hzs : z.cells.size = sz) (hsz : 0 < sz)
    (v : Value) (ds ds2 : List α) (cs news : List Value) (fp f2 : List Nat) (hs : a.eval s = v) (A : Option Addr) (k c : Nat) (hx : a.eval x = .slice A k c)
    (hown : Own E sz lo w.heap.size w v ds.length cs) (hl : OL OC sz w ds fp cs) (hn : (v.ownBlock.toList ++ fp).Nodup) (hb : ∀ b ∈ fp, lo ≤ b ∧ b < w.heap.size)
    (hr : Row w sz A k news) (hol : OL OC sz w ds2 f2 news) (hn2 : f2.Nodup) (hb2 : ∀ b ∈ f2, lo ≤ b ∧ b < w.heap.size) (hd : ∀ b ∈ f2, b ∉ fp ∧ v.ownBlock ≠ some b) (hlo : lo ≤ w.heap.size)
    (h63 : ds.length + ds2.length ≤ 1000000000) (hby : bytes ≤ 1000)
    (h : ∀ v' w', NO OC E sz lo w'.heap.size w' v' (ds ++ ds2) → w.grownBy w' v.ownBlock → K (a.put o.dst v') w') : o.wp P a w K Q := by
  have hlen : k * sz = ds2.length * sz := by rw [← hr.1, hol.len]
  have hk : k = ds2.length := Nat.eq_of_mul_eq_mul_right hsz hlen
  subst hk
  have hmul : (ds.length + ds2.length) * bytes ≤ 1000000000 * 1000 := Nat.mul_le_mul h63 hby
  obtain ⟨i0, hi0, hz0, hz1, hz2⟩ := info_parts hinfo
  refine wp_append_any w s x t ho lo E i0 z sz bytes ht hi0 hz0 hz1 hz2 hzs hsz v ds.length cs hs hown.1 A ds2.length c news hx hr (hol.ones hO) (by unfold maxLen; omega) (by omega) hlo ?_
  intro v' w' h2' hg hbl
  refine h v' w' ⟨cs ++ news, fp ++ f2, by rw [List.length_append]; exact ⟨h2', fun k hk => (h2'.lt k hk).2⟩, ?_, ?_, ?_⟩ hg
  · have hne : ∀ b ∈ fp ++ f2, v.ownBlock ≠ some b := by
      intro b hm' e
      rcases List.mem_append.1 hm' with h1 | h1
      · exact (List.nodup_append.1 hn).2.2 b (by simp [e]) b h1 rfl
      · exact (hd b h1).2 e
    refine OL.append (hl.keep hK fun b hbm hbs => ?_) (hol.keep hK fun b hbm hbs => ?_)
    · exact hg.block b hbs (fun e => hne b (by simp [hbm]) e.symm)
    · exact hg.block b hbs (fun e => hne b (by simp [hbm]) e.symm)
  · have hd' := List.nodup_append.1 hn
    have h12 : (fp ++ f2).Nodup := List.nodup_append.2 ⟨hd'.2.1, hn2, fun p hp q hq e => (hd q hq).1 (e ▸ hp)⟩
    refine List.nodup_append.2 ⟨by cases v'.ownBlock <;> simp, h12, fun p hp q hq e => ?_⟩
    subst e
    have hp : v'.ownBlock = some p := by simpa using hp
    rcases hbl with hbl | hbl
    · rw [hbl] at hp
      rcases List.mem_append.1 hq with h1 | h1
      · exact hd'.2.2 p (by simp [hp]) p h1 rfl
      · exact (hd p h1).2 hp
    · rw [hbl] at hp
      cases hp
      rcases List.mem_append.1 hq with h1 | h1
      · have := hb _ h1; omega
      · have := hb2 _ h1; omega
  · intro b hm'
    have hz : w.heap.size ≤ w'.heap.size := hg.size
    rcases List.mem_append.1 hm' with h1 | h1
    · have := hb b h1; omega
    · have := hb2 b h1; omega
section
variable {α : Type} {OC : World → List Nat → List Value → α → Prop} {P : Program} {ops : Array Oper} {rest : List Oper} {o : Oper} {a : Act} {w : World} {K : Act → World → Prop} {Q : Exit → Act → World → Prop} {E' : Prop}
theorem wpList_pushE (hgd : o.guard = none) (lo : Nat) (hK : OKeeps OC) (hO : OOne OC) (s x : Operand) (t : TypeId)
    (ho : o.op = .call { callee := .builtin .append, args := #[s, x], argTypes := #[t, t] })
    (E : TypeId) (z : Value) (sz bytes : Nat) (ht : P.underlying t = some (.slice E)) (hinfo : (P.info? E).map (fun i => (i.zero, i.size, i.bytes)) = some (some z, sz, bytes)) (hzs : z.cells.size = sz) (hsz : 0 < sz)
    (v : Value) (ds ds2 : List α) (cs news : List Value) (fp f2 : List Nat) (hs : a.eval s = v) (A : Option Addr) (k c : Nat) (hx : a.eval x = .slice A k c)
    (hown : Own E sz lo w.heap.size w v ds.length cs) (hl : OL OC sz w ds fp cs) (hn : (v.ownBlock.toList ++ fp).Nodup) (hb : ∀ b ∈ fp, lo ≤ b ∧ b < w.heap.size)
    (hr : Row w sz A k news) (hol : OL OC sz w ds2 f2 news) (hn2 : f2.Nodup) (hb2 : ∀ b ∈ f2, lo ≤ b ∧ b < w.heap.size) (hd : ∀ b ∈ f2, b ∉ fp ∧ v.ownBlock ≠ some b) (hlo : lo ≤ w.heap.size)
    (h63 : ds.length + ds2.length ≤ 1000000000) (hby : bytes ≤ 1000)
    (h : ∀ v' w', NO OC E sz lo w'.heap.size w' v' (ds ++ ds2) → w.grownBy w' v.ownBlock → wpList P ops Q rest (a.put o.dst v') w') : wpList P ops Q (o :: rest) a w :=
  wpList_plain hgd fun _ hK' => wp_pushE lo hK hO s x t ho E z sz bytes ht hinfo hzs hsz v ds ds2 cs news fp f2 hs A k c hx hown hl hn hb hr hol hn2 hb2 hd hlo h63 hby fun v' w' h2 h3 => hK' _ _ (h v' w' h2 h3)
theorem step_pushE (hgd : o.guard = none) (lo : Nat) (hK : OKeeps OC) (hO : OOne OC) (s x : Operand) (t : TypeId)
    (ho : o.op = .call { callee := .builtin .append, args := #[s, x], argTypes := #[t, t] })
    (E : TypeId) (z : Value) (sz bytes : Nat) (ht : P.underlying t = some (.slice E)) (hinfo : (P.info? E).map (fun i => (i.zero, i.size, i.bytes)) = some (some z, sz, bytes)) (hzs : z.cells.size = sz) (hsz : 0 < sz)
    (v : Value) (ds ds2 : List α) (cs news : List Value) (fp f2 : List Nat) (hs : a.eval s = v) (A : Option Addr) (k c : Nat) (hx : a.eval x = .slice A k c)
    (hown : Own E sz lo w.heap.size w v ds.length cs) (hl : OL OC sz w ds fp cs) (hn : (v.ownBlock.toList ++ fp).Nodup) (hb : ∀ b ∈ fp, lo ≤ b ∧ b < w.heap.size)
    (hr : Row w sz A k news) (hol : OL OC sz w ds2 f2 news) (hn2 : f2.Nodup) (hb2 : ∀ b ∈ f2, lo ≤ b ∧ b < w.heap.size) (hd : ∀ b ∈ f2, b ∉ fp ∧ v.ownBlock ≠ some b) (hlo : lo ≤ w.heap.size)
    (h63 : ds.length + ds2.length ≤ 1000000000) (hby : bytes ≤ 1000)
    (h : ∀ v' w', NO OC E sz lo w'.heap.size w' v' (ds ++ ds2) → w.grownBy w' v.ownBlock → K (a.put o.dst v') w') : if Region.wanted o (yielded ops a.tmps) = true then Oper.wp P o a w K Q else E' := by
  have hw : Region.wanted o (yielded ops a.tmps) = true := by simp [Region.wanted, hgd]
  rw [if_pos hw]
  exact wp_pushE lo hK hO s x t ho E z sz bytes ht hinfo hzs hsz v ds ds2 cs news fp f2 hs A k c hx hown hl hn hb hr hol hn2 hb2 hd hlo h63 hby h
end
/-- A copy of the row alone: the elements are shared. -/
theorem NO.of_copy {α : Type} {OC : World → List Nat → List Value → α → Prop} {E sz lo mid : Nat} {W : World} {v : Value} {ds : List α} {cs : List Value} {fp : List Nat} (ho : Own E sz mid W.heap.size W v ds.length cs) (hl : OL OC sz W ds fp cs) (hn : fp.Nodup) (hb : ∀ b ∈ fp, lo ≤ b ∧ b < mid) (hlm : lo ≤ mid) :
    Own E sz lo W.heap.size W v ds.length cs ∧ (v.ownBlock.toList ++ fp).Nodup := by
  refine ⟨ho.more hlm (Nat.le_refl _), List.nodup_append.2 ⟨by cases v.ownBlock <;> simp, hn, fun p hp q hq e => ?_⟩⟩
  subst e
  have h1 := (ho.1.lt p (by simpa using hp)).1
  have h2 := hb p hq
  omega
end Go.Proofs.Ytcalbcjheenmgaa
