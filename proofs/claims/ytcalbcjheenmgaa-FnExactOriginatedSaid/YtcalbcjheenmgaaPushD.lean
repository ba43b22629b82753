/- append of one slice of the call's own onto another, as one step of a region that draws its order. No conditions. -/
import Derived.Test.YtcalbcjheenmgaaPush
namespace Go.Proofs.Ytcalbcjheenmgaa
open Go.RowKit
set_option linter.unusedVariables false
/-- append onto a row of the call's own in blocks from lo on. -/
theorem wpList_appB {P : Program} {ops : Array Oper} {rest : List Oper} {o : Oper} {a : Act} {w : World} {Q : Exit → Act → World → Prop} (lo : Nat) (hgd : o.guard = none) (s x : Operand) (t : TypeId)
    (ho : o.op = .call { callee := .builtin .append, args := #[s, x], argTypes := #[t, t] })
    (E : TypeId) (z : Value) (sz bytes : Nat) (ht : P.underlying t = some (.slice E)) (hinfo : (P.info? E).map (fun i => (i.zero, i.size, i.bytes)) = some (some z, sz, bytes)) (hzs : z.cells.size = sz) (hsz : 0 < sz)
    (v : Value) (n : Nat) (xs : List Value) (hs : a.eval s = v) (A : Option Addr) (m c : Nat) (news : List Value) (hx : a.eval x = .slice A m c)
    (hown : Own E sz lo w.heap.size w v n xs) (hr : Row w sz A m news) (h1 : ∀ u ∈ news, u.oneCell' = true) (hlo : lo ≤ w.heap.size)
    (h63 : n + m ≤ maxLen) (hbytes : (n + m) * bytes ≤ 140737488355328)
    (h : ∀ v' w', Own E sz lo w'.heap.size w' v' (n + m) (xs ++ news) → w.grownBy w' v.ownBlock → wpList P ops Q rest (a.put o.dst v') w') : wpList P ops Q (o :: rest) a w := by
  obtain ⟨i0, hi0, hz0, hz1, hz2⟩ := info_parts hinfo
  refine wpList_append_any w hgd s x t ho lo E i0 z sz bytes ht hi0 hz0 hz1 hz2 hzs hsz v n xs hs hown.1 A m c news hx hr h1 h63 hbytes hlo ?_
  intro v' w' h2 h3 h4
  exact h v' w' ⟨h2, fun k hk => (h2.lt k hk).2⟩ h3
theorem Blk.grown {w w' : World} {g : Nat} {t : TypeId} {cs : List Value} {row : Option Nat} (h : Blk w g t cs) (hg : w.grownBy w' row) (hn : row ≠ some g) : Blk w' g t cs := (hg.block g h.lt (fun e => hn e.symm)).trans h
theorem Own.not_block {E sz lo hi n g : Nat} {w : World} {v : Value} {cs : List Value} (h : Own E sz lo hi w v n cs) (hg : g < lo) : v.ownBlock ≠ some g := fun e => by have := (h.1.lt g e).1; omega
theorem Ext.grownB {a w w' : World} {E sz lo hi n : Nat} {v : Value} {cs : List Value} (h : Ext a w) (ho : Own E sz lo hi w v n cs) (hg : w.grownBy w' v.ownBlock) (hl : a.heap.size ≤ lo) : Ext a w' := h.grown hg fun k hk => Nat.le_trans hl (ho.1.lt k hk).1
/-- append of all elements of another such slice, whose blocks are others; as one step of a region that draws its order. -/
theorem wp_pushD {α : Type} {OC : World → List Nat → List Value → α → Prop} {P : Program} {o : Oper} {a : Act} {w : World} {K : Act → World → Prop} {Q : Exit → Act → World → Prop} (w0 : World) (hK : OKeeps OC) (hO : OOne OC) (s x : Operand) (t : TypeId)
    (ho : o.op = .call { callee := .builtin .append, args := #[s, x], argTypes := #[t, t] })
    (E : TypeId) (z : Value) (sz bytes : Nat) (ht : P.underlying t = some (.slice E)) (hinfo : (P.info? E).map (fun i => (i.zero, i.size, i.bytes)) = some (some z, sz, bytes)) (hzs : z.cells.size = sz) (hsz : 0 < sz)
    (v : Value) (ds ds2 : List α) (l1 h1 l2 h2 : Nat) (hs : a.eval s = v) (A : Option Addr) (k c : Nat) (hx : a.eval x = .slice A k c)
    (hno : NO OC E sz l1 h1 w v ds) (hno2 : NO OC E sz l2 h2 w (.slice A k c) ds2) (hd : h1 ≤ l2 ∨ h2 ≤ l1) (hw1 : w0.heap.size ≤ l1) (hw2 : w0.heap.size ≤ l2) (hm1 : h1 ≤ w.heap.size) (hm2 : h2 ≤ w.heap.size) (he : Ext w0 w)
    (h63 : ds.length + ds2.length ≤ 1000000000) (hby : bytes ≤ 1000)
    (h : ∀ v' w', NO OC E sz w0.heap.size w'.heap.size w' v' (ds ++ ds2) → Ext w0 w' → K (a.put o.dst v') w') : o.wp P a w K Q := by
  obtain ⟨cs, fp, hown, hl, hn, hb⟩ := hno
  obtain ⟨cs2, f2, hown2, hl2, hn2, hb2⟩ := hno2
  obtain ⟨rfl, hr⟩ := NO.row hown2
  have hmul : (ds.length + ds2.length) * bytes ≤ 1000000000 * 1000 := Nat.mul_le_mul h63 hby
  obtain ⟨i0, hi0, hz0, hz1, hz2⟩ := info_parts hinfo
  refine wp_append_any w s x t ho w0.heap.size E i0 z sz bytes ht hi0 hz0 hz1 hz2 hzs hsz v ds.length cs hs (hown.more hw1 (Nat.le_refl _)).1 A ds2.length c cs2 hx hr (hl2.ones hO) (by unfold maxLen; omega) (by omega) he.size ?_
  intro v' w' h2' hg hbl
  have ho' : Own E sz w0.heap.size w'.heap.size w' v' (ds.length + ds2.length) (cs ++ cs2) := ⟨h2', fun k hk => (h2'.lt k hk).2⟩
  have he' : Ext w0 w' := he.app (hown.more hw1 (Nat.le_refl _)) hg
  have hn2' := (List.nodup_append.1 hn2).2.1
  refine h v' w' ⟨cs ++ cs2, fp ++ f2, by rw [List.length_append]; exact ho', ?_, ?_, ?_⟩ he'
  · have hne : ∀ b ∈ fp ++ f2, v.ownBlock ≠ some b := by
      intro b hm' e
      rcases List.mem_append.1 hm' with h1 | h1
      · exact (List.nodup_append.1 hn).2.2 b (by simp [e]) b h1 rfl
      · have h4 := (hown.1.lt b e).1
        have h2 := hown.2 b e
        have h3 := hb2 b h1
        omega
    refine OL.append (hl.keep hK fun b hbm hbs => ?_) (hl2.keep hK fun b hbm hbs => ?_)
    · exact hg.block b hbs (fun e => hne b (by simp [hbm]) e.symm)
    · exact hg.block b hbs (fun e => hne b (by simp [hbm]) e.symm)
  · have hd' := List.nodup_append.1 hn
    have h12 : (fp ++ f2).Nodup := List.nodup_append.2 ⟨hd'.2.1, hn2', fun p hp q hq => by have h1 := hb p hp; have h2 := hb2 q hq; omega⟩
    refine List.nodup_append.2 ⟨by cases v'.ownBlock <;> simp, h12, fun p hp q hq e => ?_⟩
    subst e
    have hp : v'.ownBlock = some p := by simpa using hp
    rcases hbl with hbl | hbl
    · rw [hbl] at hp
      rcases List.mem_append.1 hq with h1 | h1
      · exact hd'.2.2 p (by simp [hp]) p h1 rfl
      · have h4 := (hown.1.lt p hp).1
        have h2 := hown.2 p hp
        have h3 := hb2 p h1
        omega
    · rw [hbl] at hp
      cases hp
      rcases List.mem_append.1 hq with h1 | h1
      · have := hb _ h1; omega
      · have := hb2 _ h1; omega
  · intro b hm'
    have hz : w.heap.size ≤ w'.heap.size := hg.size
    rcases List.mem_append.1 hm' with h1 | h1
    · have := hb b h1; omega
    · have := hb2 b h1; omega
theorem step_pushD {α : Type} {OC : World → List Nat → List Value → α → Prop} {P : Program} {ops : Array Oper} {o : Oper} {a : Act} {w : World} {K : Act → World → Prop} {Q : Exit → Act → World → Prop} {E' : Prop} (hgd : o.guard = none) (w0 : World) (hK : OKeeps OC) (hO : OOne OC) (s x : Operand) (t : TypeId)
    (ho : o.op = .call { callee := .builtin .append, args := #[s, x], argTypes := #[t, t] })
    (E : TypeId) (z : Value) (sz bytes : Nat) (ht : P.underlying t = some (.slice E)) (hinfo : (P.info? E).map (fun i => (i.zero, i.size, i.bytes)) = some (some z, sz, bytes)) (hzs : z.cells.size = sz) (hsz : 0 < sz)
    (v : Value) (ds ds2 : List α) (l1 h1 l2 h2 : Nat) (hs : a.eval s = v) (A : Option Addr) (k c : Nat) (hx : a.eval x = .slice A k c)
    (hno : NO OC E sz l1 h1 w v ds) (hno2 : NO OC E sz l2 h2 w (.slice A k c) ds2) (hd : h1 ≤ l2 ∨ h2 ≤ l1) (hw1 : w0.heap.size ≤ l1) (hw2 : w0.heap.size ≤ l2) (hm1 : h1 ≤ w.heap.size) (hm2 : h2 ≤ w.heap.size) (he : Ext w0 w)
    (h63 : ds.length + ds2.length ≤ 1000000000) (hby : bytes ≤ 1000)
    (h : ∀ v' w', NO OC E sz w0.heap.size w'.heap.size w' v' (ds ++ ds2) → Ext w0 w' → K (a.put o.dst v') w') : if Region.wanted o (yielded ops a.tmps) = true then Oper.wp P o a w K Q else E' := by
  have hw : Region.wanted o (yielded ops a.tmps) = true := by simp [Region.wanted, hgd]
  rw [if_pos hw]
  exact wp_pushD w0 hK hO s x t ho E z sz bytes ht hinfo hzs hsz v ds ds2 l1 h1 l2 h2 hs A k c hx hno hno2 hd hw1 hw2 hm1 hm2 he h63 hby h
end Go.Proofs.Ytcalbcjheenmgaa
