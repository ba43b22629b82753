/- The laws' helpers on Policy: to.. (copy), eq.. (compare), sz.. (count), mark.. and held... Printed by gen.py. -/
import Derived.Test.YtmopmgaeiokfjaaGreatGCore
import Derived.Test.YtmopmgaeiokfjaaGreatGGrow
set_option maxRecDepth 100000
set_option maxHeartbeats 1000000
namespace Go.Proofs.YtmopmgaeiokfjaaGreat
open Go.RowKit
set_option linter.unusedVariables false
theorem info_Policy : (Tryz.prog.info? 82).map (fun i => (i.zero, i.size, i.bytes)) = some (some (.agg #[.int .i64 0, .int .i64 0, .int .i64 0, .int .i64 0]), 4, 32) := by kernel_rfl
theorem row_Policy {B : Nat} {w : World} {A : Option Addr} {n c : Nat} {xs : List DPolicy} (h : PolicyS B w (.slice A n c) xs) : Row w 4 A n (xs.flatMap PolicyC) := row_flat (C := PolicyC) (sz := 4) (fun _ => rfl) (by omega) PolicyAt.cells_ h
abbrev PolicySO (lo hi : Nat) (w : World) (v : Value) (xs : List DPolicy) : Prop := Own 82 4 lo hi w v xs.length (xs.flatMap PolicyC)
theorem PolicySO_rd {lo hi : Nat} {w : World} {v : Value} {xs : List DPolicy} (h : PolicySO lo hi w v xs) : PolicyS w.heap.size w v xs := (Own.lt_size h).sl (At := PolicyAt) PolicyC.len (by omega) PolicyC.at_
theorem info_Hop : (Tryz.prog.info? 91).map (fun i => (i.zero, i.size, i.bytes)) = some (some (.agg #[.int .i64 0, .int .i64 0, .int .i64 0, .int .i64 0, .int .i64 0]), 5, 40) := by kernel_rfl
theorem row_Hop {B : Nat} {w : World} {A : Option Addr} {n c : Nat} {xs : List DHop} (h : HopS B w (.slice A n c) xs) : Row w 5 A n (xs.flatMap HopC) := row_flat (C := HopC) (sz := 5) (fun _ => rfl) (by omega) HopAt.cells_ h
theorem neq_Hop (x y : DHop) (w : World) : (binOp .neq 91 (.agg #[I x.asn, I x.ing, I x.egr, I x.exp, I x.mac]) (.agg #[I y.asn, I y.ing, I y.egr, I y.exp, I y.mac])).run Tryz.prog w = .ok (.bool (!decide (x = y))) w := by
 have hp : Tryz.prog.stoodInHeld 91 = false := by kernel_rfl
 have ht : Tryz.prog.underlying 91 = some (.struct (Tryz.prog.fieldsOf 91)) := by kernel_rfl
 have hf := ht.symm.trans Tryz.underlying91;injection hf with hf;injection hf with hf;rw [run_neq_struct, run_equalIn_struct w 9999 91 _ _ ht hp, hf];by_cases h0 : x.asn = y.asn
 rotate_left
 · simp [Op.eqFields, go_sem, Tryz.underlying3, DHop.eq_iff, h0]
 by_cases h1 : x.ing = y.ing
 rotate_left
 · simp [Op.eqFields, go_sem, Tryz.underlying3, DHop.eq_iff, h0, h1]
 by_cases h2 : x.egr = y.egr
 rotate_left
 · simp [Op.eqFields, go_sem, Tryz.underlying3, DHop.eq_iff, h0, h1, h2]
 by_cases h3 : x.exp = y.exp
 rotate_left
 · simp [Op.eqFields, go_sem, Tryz.underlying3, DHop.eq_iff, h0, h1, h2, h3]
 by_cases h4 : x.mac = y.mac
 · simp [Op.eqFields, go_sem, Tryz.underlying3, DHop.eq_iff, h0, h1, h2, h3, h4]
 · simp [Op.eqFields, go_sem, Tryz.underlying3, DHop.eq_iff, h0, h1, h2, h3, h4]
theorem guard_Hop : Tryz.prog.eqGuardType Tryz.prog.depth 91 = false := by kernel_rfl
abbrev HopSO (lo hi : Nat) (w : World) (v : Value) (xs : List DHop) : Prop := Own 91 5 lo hi w v xs.length (xs.flatMap HopC)
theorem HopSO_rd {lo hi : Nat} {w : World} {v : Value} {xs : List DHop} (h : HopSO lo hi w v xs) : HopS w.heap.size w v xs := (Own.lt_size h).sl (At := HopAt) HopC.len (by omega) HopC.at_
theorem info_Segment : (Tryz.prog.info? 33).map (fun i => (i.zero, i.size, i.bytes)) = some (some (.agg #[.int .i64 0, .int .i64 0, .slice none 0 0]), 3, 40) := by kernel_rfl
def SegmentO (lo hi : Nat) (w : World) (v : Value) (x : DSegment) : Prop := ∃ u2, v = .agg #[I x.ts, I x.beta, u2] ∧ Own 91 5 lo hi w u2 x.hops.length (x.hops.flatMap HopC) ∧ lo ≤ hi
theorem SegmentO.keep {lo hi : Nat} {w w' : World} {v : Value} {x : DSegment} (h : SegmentO lo hi w v x) (hk : ∀ k, lo ≤ k → k < hi → k < w.heap.size → w'.heap[k]? = w.heap[k]?) : SegmentO lo hi w' v x := by
 obtain ⟨u2, e, o2, l0⟩ := h;exact ⟨u2, e, o2.keep fun k h1 h2 h3 => hk k (by omega) (by omega) h3, l0⟩
theorem SegmentO.v {lo hi : Nat} {w : World} {v : Value} {x : DSegment} (h : SegmentO lo hi w v x) : SegmentV hi w v x := by
 obtain ⟨u2, e, o2, l0⟩ := h
 have s2 := (o2.sl (At := HopAt) HopC.len (by omega) HopC.at_)
 obtain ⟨A2, n2, c2, rfl, _⟩ := id s2;exact ⟨_, _, _, e, s2.keep HopAt.keeps (by omega) (fun _ _ => rfl)⟩
theorem SegmentO.shape {lo hi : Nat} {w : World} {v : Value} {x : DSegment} (h : SegmentO lo hi w v x) : ∃ A2 n2 c2, v = .agg #[I x.ts, I x.beta, .slice A2 n2 c2] := by
 obtain ⟨A2, n2, c2, e, _⟩ := h.v;exact ⟨A2, n2, c2, e⟩
theorem SegmentO.ext {lo hi : Nat} {w w' : World} {v : Value} {x : DSegment} (h : SegmentO lo hi w v x) (he : Ext w w') (hhi : hi ≤ w.heap.size) : SegmentO lo hi w' v x := h.keep fun k _ _ h3 => he.same k h3
theorem SegmentO.more {lo hi lo' hi' : Nat} {w : World} {v : Value} {x : DSegment} (h : SegmentO lo hi w v x) (h1 : lo' ≤ lo) (h2 : hi ≤ hi') : SegmentO lo' hi' w v x := by
 obtain ⟨u2, e, o2, l0⟩ := h;exact ⟨u2, e, Own.more o2 h1 h2, by omega⟩
theorem SegmentO.up {lo : Nat} {w w' : World} {v : Value} {x : DSegment} (h : SegmentO lo w.heap.size w v x) (he : Ext w w') : SegmentO lo w'.heap.size w' v x := (h.ext he (Nat.le_refl _)).more (Nat.le_refl _) he.size
theorem SegmentO.setT {lo hi g : Nat} {w : World} {v : Value} {x : DSegment} {cs' : List Value} (h : SegmentO lo hi w v x) (hb : Blk w g 33 cs') (i : Nat) (u : Value) : SegmentO lo hi (w.setCell ⟨g, i, none⟩ u) v x := by
 obtain ⟨u2, e, o2, l0⟩ := h;exact ⟨u2, e, Own.setT o2 hb (by decide) i u, l0⟩
theorem SegmentO_rd {lo hi : Nat} {w : World} {v : Value} {x : DSegment} (h : SegmentO lo hi w v x) (hhi : hi ≤ w.heap.size) : SegmentV w.heap.size w v x := h.v.keep hhi (fun _ _ => rfl)
def SegmentOC (w : World) (fp : List Nat) (cs : List Value) (x : DSegment) : Prop := ∃ u2, cs = [I x.ts, I x.beta, u2] ∧ w.ownsRow 0 91 5 u2 x.hops.length (x.hops.flatMap HopC) ∧ fp = u2.ownBlock.toList
theorem SegmentOC.keeps : OKeeps SegmentOC := by
 intro w w' fp cs x hk h;obtain ⟨u2, e, r2, ef⟩ := h;exact ⟨u2, e, ownsRow_keep r2 (fun b hb => hk b (by rw [ef]; simp [hb])), ef⟩
theorem SegmentOC.at_ (B : Nat) (w : World) (b o : Nat) (fp : List Nat) (cs : List Value) (x : DSegment) (h : SegmentOC w fp cs x) (hb : ∀ b ∈ fp, b < B) (hc : ∀ j u, cs[j]? = some u → w.cell? ⟨b, o + j, none⟩ = some u) : SegmentAt B w b o x := by
 obtain ⟨u2, rfl, r2, ef⟩ := h;have s2 : HopS B w u2 x.hops := Own.sl (lo := 0) (n := x.hops.length) (At := HopAt) ⟨r2, fun k hk => hb k (by rw [ef]; simp [hk])⟩ HopC.len (by omega) HopC.at_;obtain ⟨A2, n2, c2, e2, _⟩ := id s2;subst e2;exact ⟨A2, n2, c2, hc 0 _ rfl, hc 1 _ rfl, hc 2 _ rfl, s2⟩
theorem SegmentOC.one : OOne SegmentOC := by
 intro w fp cs x h;obtain ⟨u2, rfl, r2, ef⟩ := h;obtain ⟨a2, m2, c2, e2⟩ := ownsRow_slice r2;subst e2;intro u hu;simp only [List.mem_cons, List.not_mem_nil, or_false] at hu
 rcases hu with rfl | rfl | rfl <;> rfl
theorem SegmentOC.typed (T : Nat) (n0 : 91 ≠ T) : OTyped SegmentOC T := by
 intro w fp cs x g cs' h hb;obtain ⟨u2, e, r2, ef⟩ := h;subst ef;intro hm;exact ownsRow_typed r2 hb n0 hm
theorem SegmentO.to_oc {lo hi : Nat} {w : World} {v : Value} {x : DSegment} (h : SegmentO lo hi w v x) : ∃ a2 k2 q2 fp, v = .agg #[I x.ts, I x.beta, .slice a2 k2 q2] ∧ SegmentOC w fp [I x.ts, I x.beta, .slice a2 k2 q2] x ∧ fp.Nodup ∧ ∀ b ∈ fp, lo ≤ b ∧ b < hi := by
 obtain ⟨u2, e, o2, l0⟩ := h;obtain ⟨a2, k2, q2, hu2⟩ : ∃ a n c, u2 = .slice a n c := o2.slice
 have b2 : ∀ b ∈ u2.ownBlock.toList, lo ≤ b ∧ b < hi := fun b hb => ⟨(o2.1.lt b (by simpa using hb)).1, o2.2 b (by simpa using hb)⟩
 have d2 : (u2.ownBlock.toList).Nodup := by cases u2.ownBlock <;> simp
 subst hu2;exact ⟨a2, k2, q2, (Value.slice a2 k2 q2).ownBlock.toList, e, ⟨_, rfl, (o2.more (Nat.zero_le _) (Nat.le_refl _)).1, rfl⟩, d2, b2⟩
abbrev SegmentSO (lo hi : Nat) (w : World) (v : Value) (xs : List DSegment) : Prop := NO SegmentOC 33 3 lo hi w v xs
theorem SegmentSO_rd {lo hi : Nat} {w : World} {v : Value} {xs : List DSegment} (h : SegmentSO lo hi w v xs) (hhi : hi ≤ w.heap.size) : SegmentS w.heap.size w v xs := (NO.sl (At := SegmentAt) h (fun _ => rfl) SegmentOC.at_).keep SegmentAt.keeps hhi (fun _ _ => rfl)
theorem SegmentSO_setCell {lo hi : Nat} {w : World} {v : Value} {xs : List DSegment} (h : SegmentSO lo hi w v xs) {p : Addr} (hp : p.block < lo ∨ hi ≤ p.block) (u : Value) : SegmentSO lo hi (w.setCell p u) v xs := NO.keep SegmentOC.keeps h fun k h1 h2 _ => Below.heap_setCell _ _ _ _ (by omega)
section
variable {α : Type} {OC : World → List Nat → List Value → α → Prop}
theorem NO.single (hK : OKeeps OC) {W : World} {E sz lo g : Nat} {fp : List Nat} {cs : List Value} {x : α} (ho : OC W fp cs x) (hn : fp.Nodup) (hb : ∀ b ∈ fp, lo ≤ b ∧ b < W.heap.size) (hl : cs.length = sz) (hlo : lo ≤ W.heap.size) (hg : g = W.heap.size) :
 NO OC E sz lo (W.alloc (.cells cs.toArray E)).heap.size (W.alloc (.cells cs.toArray E)) (.slice (some ⟨g, 0, none⟩) 1 1) [x] := by
 subst hg;refine ⟨cs, fp, own_new W E sz lo cs hl hlo, OL.one (hK _ _ _ _ _ (fun b hm hs => Below.heap_alloc _ _ _ hs) ho) hl, ?_, fun b hm => ⟨(hb b hm).1, by have := (hb b hm).2; simp only [World.size_alloc]; omega⟩⟩;simp only [Value.ownBlock, Option.toList_some, List.singleton_append, List.nodup_cons];exact ⟨fun hm => by have := hb _ hm; omega, hn⟩
theorem NO.not_block {E sz lo hi g : Nat} {w : World} {v : Value} {ds : List α} (h : NO OC E sz lo hi w v ds) (hg : g < lo) : v.ownBlock ≠ some g := by
 obtain ⟨cs, fp, ho, _⟩ := h;exact ho.not_block hg
theorem Ext.grownN {a w w' : World} {E sz lo hi : Nat} {v : Value} {ds : List α} (h : Ext a w) (ho : NO OC E sz lo hi w v ds) (hg : w.grownBy w' v.ownBlock) (hl : a.heap.size ≤ lo) : Ext a w' := by
 obtain ⟨cs, fp, ho, _⟩ := ho;exact h.grownB ho hg hl
variable {P : Program} {ops : Array Oper} {rest : List Oper} {o : Oper} {a : Act} {w : World} {Q : Exit → Act → World → Prop}
theorem wpList_pushN (hgd : o.guard = none) (lo : Nat) (hK : OKeeps OC) (hO : OOne OC) (s x : Operand) (t : TypeId)
 (ho : o.op = .call { callee := .builtin .append, args := #[s, x], argTypes := #[t, t] })
 (E : TypeId) (z : Value) (sz bytes : Nat) (ht : P.underlying t = some (.slice E)) (hinfo : (P.info? E).map (fun i => (i.zero, i.size, i.bytes)) = some (some z, sz, bytes)) (hzs : z.cells.size = sz) (hsz : 0 < sz)
 (v : Value) (ds ds2 : List α) (m l2 h2 : Nat) (hs : a.eval s = v) (A : Option Addr) (k c : Nat) (hx : a.eval x = .slice A k c)
 (hno : NO OC E sz lo m w v ds) (hno2 : NO OC E sz l2 h2 w (.slice A k c) ds2) (hd : m ≤ l2) (hlo : lo ≤ l2) (hm : m ≤ w.heap.size) (hm2 : h2 ≤ w.heap.size) (hlw : lo ≤ w.heap.size)
 (h63 : ds.length + ds2.length ≤ 1000000000) (hby : bytes ≤ 1000)
 (h : ∀ v' w', NO OC E sz lo w'.heap.size w' v' (ds ++ ds2) → w.grownBy w' v.ownBlock → wpList P ops Q rest (a.put o.dst v') w') : wpList P ops Q (o :: rest) a w := by
 obtain ⟨cs, fp, hown, hl, hn, hb⟩ := hno;obtain ⟨cs2, f2, hown2, hl2, hn2, hb2⟩ := hno2;obtain ⟨rfl, hr⟩ := NO.row hown2;refine wpList_pushE hgd lo hK hO s x t ho E z sz bytes ht hinfo hzs hsz v ds ds2 cs cs2 fp f2 hs A _ c hx (hown.more (Nat.le_refl _) hm) hl hn (fun b hbm => ⟨(hb b hbm).1, by have := (hb b hbm).2; omega⟩) hr hl2 (List.nodup_append.1 hn2).2.1 (fun b hbm => ⟨by have := (hb2 b hbm).1; omega, by have := (hb2 b hbm).2; omega⟩) (fun b hbm => ⟨fun hf => ?_, fun e => ?_⟩) hlw h63 hby h
 · have h1 := hb b hf; have h2 := hb2 b hbm; omega
 · have h1 := hown.2 b e; have h2 := hb2 b hbm; omega
end
theorem SegmentO.single {W : World} {lo g : Nat} {x : DSegment} {A : Option Addr} {n c : Nat} {ts be : Int} (ho : SegmentO lo W.heap.size W (.agg #[I ts, I be, .slice A n c]) x) (hlo : lo ≤ W.heap.size) (hg : g = W.heap.size) :
 SegmentSO lo (W.alloc (.cells #[I ts, I be, .slice A n c] 33)).heap.size (W.alloc (.cells #[I ts, I be, .slice A n c] 33)) (.slice (some ⟨g, 0, none⟩) 1 1) [x] := by
 obtain ⟨a, k, q, fp, e, hoc, hn, hb⟩ := ho.to_oc
 have e' : [I ts, I be, .slice A n c] = [I x.ts, I x.beta, .slice a k q] := by
  have := Value.agg.inj e;exact congrArg Array.toList this
 rw [← e'] at hoc;exact NO.single SegmentOC.keeps hoc hn hb rfl hlo hg
theorem segV {B : Nat} {w : World} {A : Option Addr} {n c : Nat} {x : DSegment} (h : HopS B w (.slice A n c) x.hops) : SegmentV B w (.agg #[I x.ts, I x.beta, .slice A n c]) x := ⟨_, _, _, rfl, h⟩
theorem wp_pushX {α : Type} {OC : World → List Nat → List Value → α → Prop} {P : Program} {o : Oper} {a : Act} {w : World} {K : Act → World → Prop} {Q : Exit → Act → World → Prop} (lo : Nat) (hK : OKeeps OC) (hO : OOne OC) (s x : Operand) (t : TypeId)
 (ho : o.op = .call { callee := .builtin .append, args := #[s, x], argTypes := #[t, t] })
 (E : TypeId) (z : Value) (sz bytes : Nat) (ht : P.underlying t = some (.slice E)) (hinfo : (P.info? E).map (fun i => (i.zero, i.size, i.bytes)) = some (some z, sz, bytes)) (hzs : z.cells.size = sz) (hsz : 0 < sz)
 (v : Value) (ds ds2 : List α) (cs news : List Value) (fp f2 : List Nat) (hs : a.eval s = v) (A : Option Addr) (k c : Nat) (hx : a.eval x = .slice A k c)
 (hown : Own E sz lo w.heap.size w v ds.length cs) (hl : OL OC sz w ds fp cs) (hn : ∀ b ∈ fp, v.ownBlock ≠ some b)
 (hr : Row w sz A k news) (hol : OL OC sz w ds2 f2 news) (hd : ∀ b ∈ f2, v.ownBlock ≠ some b) (hlo : lo ≤ w.heap.size)
 (h63 : ds.length + ds2.length ≤ 1000000000) (hby : bytes ≤ 1000)
 (h : ∀ v' w', Own E sz lo w'.heap.size w' v' (ds ++ ds2).length (cs ++ news) → OL OC sz w' (ds ++ ds2) (fp ++ f2) (cs ++ news) → w.grownBy w' v.ownBlock → (v'.ownBlock = v.ownBlock ∨ v'.ownBlock = some w.heap.size) → K (a.put o.dst v') w') : o.wp P a w K Q := by
 have hlen : k * sz = ds2.length * sz := by rw [← hr.1, hol.len]
 have hk : k = ds2.length := Nat.eq_of_mul_eq_mul_right hsz hlen;subst hk;have hmul : (ds.length + ds2.length) * bytes ≤ 1000000000 * 1000 := Nat.mul_le_mul h63 hby;obtain ⟨i0, hi0, hz0, hz1, hz2⟩ := info_parts hinfo;refine wp_append_any w s x t ho lo E i0 z sz bytes ht hi0 hz0 hz1 hz2 hzs hsz v ds.length cs hs hown.1 A ds2.length c news hx hr (hol.ones hO) (by unfold maxLen; omega) (by omega) hlo ?_;intro v' w' h2' hg hbl
 have hne : ∀ b ∈ fp ++ f2, v.ownBlock ≠ some b := by
  intro b hm' e
  rcases List.mem_append.1 hm' with h1 | h1
  · exact hn b h1 e
  · exact hd b h1 e
 refine h v' w' (by rw [List.length_append]; exact ⟨h2', fun k hk => (h2'.lt k hk).2⟩) ?_ hg hbl;refine OL.append (hl.keep hK fun b hbm hbs => ?_) (hol.keep hK fun b hbm hbs => ?_)
 · exact hg.block b hbs (fun e => hne b (by simp [hbm]) e.symm)
 · exact hg.block b hbs (fun e => hne b (by simp [hbm]) e.symm)
section
variable {α : Type} {OC : World → List Nat → List Value → α → Prop} {P : Program} {ops : Array Oper} {rest : List Oper} {o : Oper} {a : Act} {w : World} {K : Act → World → Prop} {Q : Exit → Act → World → Prop} {E' : Prop}
theorem wpList_pushX (hgd : o.guard = none) (lo : Nat) (hK : OKeeps OC) (hO : OOne OC) (s x : Operand) (t : TypeId)
 (ho : o.op = .call { callee := .builtin .append, args := #[s, x], argTypes := #[t, t] })
 (E : TypeId) (z : Value) (sz bytes : Nat) (ht : P.underlying t = some (.slice E)) (hinfo : (P.info? E).map (fun i => (i.zero, i.size, i.bytes)) = some (some z, sz, bytes)) (hzs : z.cells.size = sz) (hsz : 0 < sz)
 (v : Value) (ds ds2 : List α) (cs news : List Value) (fp f2 : List Nat) (hs : a.eval s = v) (A : Option Addr) (k c : Nat) (hx : a.eval x = .slice A k c)
 (hown : Own E sz lo w.heap.size w v ds.length cs) (hl : OL OC sz w ds fp cs) (hn : ∀ b ∈ fp, v.ownBlock ≠ some b)
 (hr : Row w sz A k news) (hol : OL OC sz w ds2 f2 news) (hd : ∀ b ∈ f2, v.ownBlock ≠ some b) (hlo : lo ≤ w.heap.size)
 (h63 : ds.length + ds2.length ≤ 1000000000) (hby : bytes ≤ 1000)
 (h : ∀ v' w', Own E sz lo w'.heap.size w' v' (ds ++ ds2).length (cs ++ news) → OL OC sz w' (ds ++ ds2) (fp ++ f2) (cs ++ news) → w.grownBy w' v.ownBlock → (v'.ownBlock = v.ownBlock ∨ v'.ownBlock = some w.heap.size) → wpList P ops Q rest (a.put o.dst v') w') : wpList P ops Q (o :: rest) a w :=
 wpList_plain hgd fun _ hK' => wp_pushX lo hK hO s x t ho E z sz bytes ht hinfo hzs hsz v ds ds2 cs news fp f2 hs A k c hx hown hl hn hr hol hd hlo h63 hby fun v' w' h2 h3 h4 h5 => hK' _ _ (h v' w' h2 h3 h4 h5)
end
theorem Own.of_row {E sz lo hi n : Nat} {w : World} {v : Value} {cs : List Value} (h : w.ownsRow 0 E sz v n cs) (hb : ∀ b ∈ v.ownBlock.toList, lo ≤ b ∧ b < hi) : Own E sz lo hi w v n cs := by
 obtain ⟨h1, h2⟩ := h;refine ⟨⟨h1, ?_⟩, fun k hk => (hb k (by simp [hk])).2⟩
 rcases h2 with h2 | ⟨g, cap, cur, rfl, hg, r⟩
 · exact .inl h2
 · exact .inr ⟨g, cap, cur, rfl, (hb g (by simp [Value.ownBlock])).1, r⟩
end Go.Proofs.YtmopmgaeiokfjaaGreat
