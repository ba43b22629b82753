/- append of owned slices onto an owned slice that a variable holds. No conditions. -/
import Derived.Test.YtcalbcjheenmgaaPushE
import Derived.Test.YtcalbcjheenmgaaHSegment
namespace Go.Proofs.Ytcalbcjheenmgaa
open Go.RowKit
set_option linter.unusedVariables false
section
variable {α : Type} {OC : World → List Nat → List Value → α → Prop}
/-- A slice of one new element that owns blocks. -/
theorem NO.single (hK : OKeeps OC) {W : World} {E sz lo g : Nat} {fp : List Nat} {cs : List Value} {x : α} (ho : OC W fp cs x) (hn : fp.Nodup) (hb : ∀ b ∈ fp, lo ≤ b ∧ b < W.heap.size) (hl : cs.length = sz) (hlo : lo ≤ W.heap.size) (hg : g = W.heap.size) :
    NO OC E sz lo (W.alloc (.cells cs.toArray E)).heap.size (W.alloc (.cells cs.toArray E)) (.slice (some ⟨g, 0, none⟩) 1 1) [x] := by
  subst hg
  refine ⟨cs, fp, own_new W E sz lo cs hl hlo, OL.one (hK _ _ _ _ _ (fun b hm hs => Below.heap_alloc _ _ _ hs) ho) hl, ?_, fun b hm => ⟨(hb b hm).1, by have := (hb b hm).2; simp only [World.size_alloc]; omega⟩⟩
  simp only [Value.ownBlock, Option.toList_some, List.singleton_append, List.nodup_cons]
  exact ⟨fun hm => by have := hb _ hm; omega, hn⟩
theorem NO.not_block {E sz lo hi g : Nat} {w : World} {v : Value} {ds : List α} (h : NO OC E sz lo hi w v ds) (hg : g < lo) : v.ownBlock ≠ some g := by
  obtain ⟨cs, fp, ho, _⟩ := h
  exact ho.not_block hg
theorem Ext.grownN {a w w' : World} {E sz lo hi : Nat} {v : Value} {ds : List α} (h : Ext a w) (ho : NO OC E sz lo hi w v ds) (hg : w.grownBy w' v.ownBlock) (hl : a.heap.size ≤ lo) : Ext a w' := by
  obtain ⟨cs, fp, ho, _⟩ := ho
  exact h.grownB ho hg hl
variable {P : Program} {ops : Array Oper} {rest : List Oper} {o : Oper} {a : Act} {w : World} {Q : Exit → Act → World → Prop}
theorem wpList_pushN (hgd : o.guard = none) (lo : Nat) (hK : OKeeps OC) (hO : OOne OC) (s x : Operand) (t : TypeId)
    (ho : o.op = .call { callee := .builtin .append, args := #[s, x], argTypes := #[t, t] })
    (E : TypeId) (z : Value) (sz bytes : Nat) (ht : P.underlying t = some (.slice E)) (hinfo : (P.info? E).map (fun i => (i.zero, i.size, i.bytes)) = some (some z, sz, bytes)) (hzs : z.cells.size = sz) (hsz : 0 < sz)
    (v : Value) (ds ds2 : List α) (m l2 h2 : Nat) (hs : a.eval s = v) (A : Option Addr) (k c : Nat) (hx : a.eval x = .slice A k c)
    (hno : NO OC E sz lo m w v ds) (hno2 : NO OC E sz l2 h2 w (.slice A k c) ds2) (hd : m ≤ l2) (hlo : lo ≤ l2) (hm : m ≤ w.heap.size) (hm2 : h2 ≤ w.heap.size) (hlw : lo ≤ w.heap.size)
    (h63 : ds.length + ds2.length ≤ 1000000000) (hby : bytes ≤ 1000)
    (h : ∀ v' w', NO OC E sz lo w'.heap.size w' v' (ds ++ ds2) → w.grownBy w' v.ownBlock → wpList P ops Q rest (a.put o.dst v') w') : wpList P ops Q (o :: rest) a w := by
  obtain ⟨cs, fp, hown, hl, hn, hb⟩ := hno
  obtain ⟨cs2, f2, hown2, hl2, hn2, hb2⟩ := hno2
  obtain ⟨rfl, hr⟩ := NO.row hown2
  refine wpList_pushE hgd lo hK hO s x t ho E z sz bytes ht hinfo hzs hsz v ds ds2 cs cs2 fp f2 hs A _ c hx (hown.more (Nat.le_refl _) hm) hl hn (fun b hbm => ⟨(hb b hbm).1, by have := (hb b hbm).2; omega⟩) hr hl2 (List.nodup_append.1 hn2).2.1 (fun b hbm => ⟨by have := (hb2 b hbm).1; omega, by have := (hb2 b hbm).2; omega⟩) (fun b hbm => ⟨fun hf => ?_, fun e => ?_⟩) hlw h63 hby h
  · have h1 := hb b hf; have h2 := hb2 b hbm; omega
  · have h1 := hown.2 b e; have h2 := hb2 b hbm; omega
end
theorem SegmentO.single {W : World} {lo g : Nat} {x : DSegment} {A : Option Addr} {n c : Nat} {ts be : Int} (ho : SegmentO lo W.heap.size W (.agg #[I ts, I be, .slice A n c]) x) (hlo : lo ≤ W.heap.size) (hg : g = W.heap.size) :
    SegmentSO lo (W.alloc (.cells #[I ts, I be, .slice A n c] 31)).heap.size (W.alloc (.cells #[I ts, I be, .slice A n c] 31)) (.slice (some ⟨g, 0, none⟩) 1 1) [x] := by
  obtain ⟨a, k, q, fp, e, hoc, hn, hb⟩ := ho.to_oc
  have e' : [I ts, I be, .slice A n c] = [I x.ts, I x.beta, .slice a k q] := by
    have := Value.agg.inj e
    exact congrArg Array.toList this
  rw [← e'] at hoc
  exact NO.single SegmentOC.keeps hoc hn hb rfl hlo hg
end Go.Proofs.Ytcalbcjheenmgaa
