/- append onto a fresh empty slice, as an operation that only makes memory grow. No conditions. -/
import Derived.ArgAppend
import Derived.Test.YtnglhofegajbiaaAppend
import Derived.Test.YtnglhofegajbiaaGrowT
namespace Go.Proofs.Ytnglhofegajbiaa
open Go.RowKit
set_option linter.unusedVariables false
/-- v is an empty slice of no room, made since block lo. -/
def Fresh0 (E lo : Nat) (v : Value) (W : World) : Prop := ∃ g, v = .slice (some ⟨g, 0, none⟩) 0 0 ∧ lo ≤ g ∧ Blk W g E []
theorem Fresh0.ext {E lo : Nat} {v : Value} {W W' : World} (h : Fresh0 E lo v W) (he : Ext W W') : Fresh0 E lo v W' := by
  obtain ⟨g, e, hg, hb⟩ := h
  exact ⟨g, e, hg, hb.ext he⟩
theorem Fresh0.new (W : World) (E lo g : Nat) (hg : g = W.heap.size) (hlo : lo ≤ W.heap.size) : Fresh0 E lo (.slice (some ⟨g, 0, none⟩) 0 0) (W.alloc (.cells #[] E)) := by
  subst hg
  exact ⟨_, rfl, hlo, Blk.new W E []⟩
/-- Own to the end of the heap is kept as memory grows. -/
theorem Own.up {E sz lo n : Nat} {w w' : World} {v : Value} {cs : List Value} (h : Own E sz lo w.heap.size w v n cs) (he : Ext w w') : Own E sz lo w'.heap.size w' v n cs := (h.ext he (Nat.le_refl _)).lt_size
theorem ext_of_grown {w w' : World} (h : w.grownBy w' none) : Ext w w' := by
  unfold Ext
  exact ⟨h.os, h.tape, h.output, h.size, fun k hk => h.block k hk (by simp)⟩
theorem run_app0 {P : Program} {W : World} (t ty e : TypeId) (z : Value) (size bytes : Nat) (ht : P.underlying t = some (.slice e)) (hinfo : (P.info? e).map (fun i => (i.zero, i.size, i.bytes)) = some (some z, size, bytes)) (hzs : z.cells.size = size) (hsz : 0 < size)
    (g lo : Nat) (hlo : lo ≤ g) (hb : Blk W g e []) (A : Option Addr) (m c : Nat) (news : List Value) (hr : Row W size A m news) (h1 : ∀ u ∈ news, u.oneCell' = true) (h63 : m ≤ maxLen) (hbytes : m * bytes ≤ 140737488355328) :
    ∃ v' w', (Builtin.append_ #[t, t] ty #[.slice (some ⟨g, 0, none⟩) 0 0, .slice A m c]).run P W = .ok v' w' ∧ Own e size lo w'.heap.size w' v' m news ∧ Ext W w' := by
  obtain ⟨i, hi, hz, hz1, hz2⟩ := info_parts hinfo
  have hown : Own e size lo W.heap.size W (.slice (some ⟨g, 0, none⟩) 0 0) 0 [] := Own.of_blk hb (by simp) (by unfold maxLen; omega) hlo hb.lt
  rcases Nat.eq_zero_or_pos m with h0 | h0
  · subst h0
    have hn : news = [] := List.eq_nil_of_length_eq_zero (by simpa using hr.1)
    subst hn
    refine ⟨_, W, ?_, hown, Ext.refl _⟩
    cases A with
    | none => exact run_append_of_nil W 0 t ty e i size ht hi _ 0 [] ((hown.more (Nat.zero_le _) (Nat.le_refl _)).1) c
    | some ad =>
      have := run_append_room_cells (P := P) W t ty e i ht hi g 0 0 0 ad 0 c [] (by simp) (by simp) h1 (Nat.le_refl _) (by simp) (by simp)
      simpa [World.setCells] using this
  · obtain ⟨ad, rfl, hc⟩ := hr.2 h0
    obtain ⟨v', w', hrun, h2, h3⟩ := run_append_arg_grows (P := P) W t ty e i z size bytes ht hi hz hz1 hz2 hzs hsz ⟨g, 0, none⟩ 0 0 [] (by simp) (by simp) ad m c news hr.1 hc (by omega) (by omega) (by simpa using hbytes)
    refine ⟨v', w', hrun, ?_, ext_of_grown h3⟩
    have hw : w'.ownsRow W.heap.size e size v' m news := by simpa using h2
    have hlt := hb.lt
    exact Own.more (hi := w'.heap.size) ⟨hw, fun k hk => (hw.lt k hk).2⟩ (by omega) (Nat.le_refl _)
theorem grow_app0 {P : Program} {o : Oper} {a : Act} {φ : Value → World → Prop} {W : World} (s x : Operand) (t : TypeId) (ho : o.op = .call { callee := .builtin .append, args := #[s, x], argTypes := #[t, t] })
    (e : TypeId) (z : Value) (size bytes : Nat) (ht : P.underlying t = some (.slice e)) (hinfo : (P.info? e).map (fun i => (i.zero, i.size, i.bytes)) = some (some z, size, bytes)) (hzs : z.cells.size = size) (hsz : 0 < size)
    (lo : Nat) (v0 : Value) (hs : a.eval s = v0) (hf : Fresh0 e lo v0 W) (A : Option Addr) (m c : Nat) (news : List Value) (hx : a.eval x = .slice A m c) (hr : Row W size A m news) (h1 : ∀ u ∈ news, u.oneCell' = true) (h63 : m ≤ maxLen) (hbytes : m * bytes ≤ 140737488355328)
    (hφ : ∀ v' w', Own e size lo w'.heap.size w' v' m news → φ v' w') : growAt P o a Ext φ W := by
  obtain ⟨g, rfl, hlo, hb⟩ := hf
  obtain ⟨v', w', hrun, h2, h3⟩ := run_app0 (P := P) t o.type e z size bytes ht hinfo hzs hsz g lo hlo hb A m c news hr h1 h63 hbytes
  unfold growAt execOp
  simp only [ho, resolve, invoke, builtin, Sem.run_bind, Sem.run_pure, Result.andThen_ok, List.map_toArray, List.map_cons, List.map_nil, hs, hx, hrun, growUpon]
  exact ⟨h3, hφ v' w' h2⟩
end Go.Proofs.Ytnglhofegajbiaa
