/- The built-in append onto a row of the call's own, whatever the source is (nil, empty or not): after the kit's worked lemmas on append, turned to the words of this seat. No conditions. -/
import Derived.Maps.AppendAt
import Derived.Deep.AppendLies
import Derived.RegionTactic
import Derived.OwnWalk
import Derived.Deep.RegionLaw
import Derived.Test.YtnglhofegajbiaaTypes
namespace Go.Proofs.Ytnglhofegajbiaa
open Go.RowKit
set_option linter.unusedVariables false

/-- The source '.slice A m c' of an append holds the cells news. -/
def Row (w : World) (sz : Nat) (A : Option Addr) (m : Nat) (news : List Value) : Prop :=
  news.length = m * sz ∧ (0 < m → ∃ ad, A = some ad ∧ ∀ j u, news[j]? = some u → w.cell? (ad.add j) = some u)
theorem add_none (b off j : Nat) : (⟨b, off, none⟩ : Addr).add j = ⟨b, off + j, none⟩ := by unfold Addr.add; split <;> simp_all
theorem row_ints {B : Nat} {w : World} {A : Option Addr} {n c : Nat} {xs : List Int} (h : IntS B w (.slice A n c) xs) : Row w 1 A n (xs.map I) := by
  obtain ⟨A', n', c', e, hl, _, _, hr⟩ := h
  cases e
  refine ⟨by simpa using hl, fun h0 => ?_⟩
  obtain ⟨b, off, e, _, hat⟩ := hr h0
  refine ⟨⟨b, off, none⟩, e, fun j u hu => ?_⟩
  obtain ⟨hj, hu'⟩ := List.getElem?_eq_some_iff.1 hu
  rw [List.length_map] at hj
  rw [List.getElem_map] at hu'
  subst hu'
  rw [add_none]
  exact hat j hj
theorem row_flat {α : Type} {At : Nat → World → Nat → Nat → α → Prop} {C : α → List Value} {sz : Nat} (hC : ∀ x, (C x).length = sz) (hsz : 0 < sz)
    (hAt : ∀ B w b o x, At B w b o x → ∀ j u, (C x)[j]? = some u → w.cell? ⟨b, o + j, none⟩ = some u)
    {B : Nat} {w : World} {A : Option Addr} {n c : Nat} {xs : List α} (h : Sl At (fun k => k * sz) B w (.slice A n c) xs) : Row w sz A n (xs.flatMap C) := by
  obtain ⟨A', n', c', e, hl, _, _, hr⟩ := h
  cases e
  refine ⟨by rw [flat_len C sz hC, hl], fun h0 => ?_⟩
  obtain ⟨b, off, e, _, hat⟩ := hr h0
  refine ⟨⟨b, off, none⟩, e, fun j u hu => ?_⟩
  have hj := (List.getElem?_eq_some_iff.1 hu).1
  rw [flat_len C sz hC] at hj
  have hk : j / sz < xs.length := (Nat.div_lt_iff_lt_mul hsz).2 hj
  have hd : j / sz * sz + j % sz = j := by rw [Nat.mul_comm]; exact Nat.div_add_mod j sz
  rw [← hd, flat_get C sz hC xs _ _ hk (Nat.mod_lt _ hsz)] at hu
  have := hAt _ _ _ _ _ (hat _ hk) _ _ hu
  rw [add_none]
  have e2 : off + j / sz * sz + j % sz = off + j := by rw [Nat.add_assoc, hd]
  simpa [e2] using this
section
variable {P : Program} (w : World)

theorem run_append_of_nil (base : Nat) (t ty e : TypeId) (i : TypeInfo) (size : Nat) (ht : P.underlying t = some (.slice e)) (hi : P.info? e = some i)
    (v : Value) (n : Nat) (xs : List Value) (hown : w.ownsRow base e size v n xs) (c : Nat) : (Builtin.append_ #[t, t] ty #[v, .slice none 0 c]).run P w = .ok v w := by
  rcases hown.2 with ⟨rfl, rfl⟩ | ⟨g, cap, cur, rfl, _, _, hnc, _⟩
  · simp [Builtin.append_, run_underlying ht, sizeOf, typeInfo, hi, Builtin.lenOf, Builtin.firstCells]
  · simp [Builtin.append_, run_underlying ht, sizeOf, typeInfo, hi, Builtin.lenOf, Builtin.firstCells, hnc, storeCells]

theorem run_append_any (base : Nat) (t ty e : TypeId) (i : TypeInfo) (z : Value) (size bytes : Nat) (ht : P.underlying t = some (.slice e)) (hi : P.info? e = some i) (hz : i.zero = some z)
    (hsize : i.size = size) (hby : i.bytes = bytes) (hzs : z.cells.size = size) (hsz : 0 < size)
    (v : Value) (n : Nat) (xs : List Value) (hown : w.ownsRow base e size v n xs)
    (A : Option Addr) (m c : Nat) (news : List Value) (hr : Row w size A m news) (h1 : ∀ u ∈ news, u.oneCell' = true)
    (h63 : n + m ≤ maxLen) (hbytes : (n + m) * bytes ≤ 140737488355328) (hbase : base ≤ w.heap.size) :
    ∃ v' w', (Builtin.append_ #[t, t] ty #[v, .slice A m c]).run P w = .ok v' w' ∧ w'.ownsRow base e size v' (n + m) (xs ++ news) ∧ w.grownBy w' v.ownBlock ∧
      (v'.ownBlock = v.ownBlock ∨ v'.ownBlock = some w.heap.size) := by
  rcases A with _ | ad
  · have hm : m = 0 := by
      rcases Nat.eq_zero_or_pos m with h0 | h0
      · exact h0
      · obtain ⟨ad, h, _⟩ := hr.2 h0
        cases h
    subst hm
    have hn : news = [] := List.eq_nil_of_length_eq_zero (by simpa using hr.1)
    subst hn
    exact ⟨v, w, run_append_of_nil w base t ty e i size ht hi v n xs hown c, by simpa using hown, World.grownBy.refl w _, .inl rfl⟩
  · have hcells : ∀ j u, news[j]? = some u → w.cell? (ad.add j) = some u := by
      intro j u hu
      rcases Nat.eq_zero_or_pos m with h0 | h0
      · subst h0
        have hn : news = [] := List.eq_nil_of_length_eq_zero (by simpa using hr.1)
        subst hn
        simp at hu
      · obtain ⟨ad', h, hc⟩ := hr.2 h0
        injection h with h
        subst h
        exact hc j u hu
    obtain ⟨v', w', hrun, h2, h3, _, h5⟩ := run_append_own_at (P := P) w base t ty e i z size bytes ht hi hz hsize hby hzs hsz v n xs hown ad m c news hr.1 hcells h1 h63 hbytes hbase
    exact ⟨v', w', hrun, h2, h3, h5⟩

theorem wp_append_any {o : Oper} {a : Act} {K : Act → World → Prop} {Q : Exit → Act → World → Prop} (s x : Operand) (t : TypeId)
    (ho : o.op = .call { callee := .builtin .append, args := #[s, x], argTypes := #[t, t] })
    (base : Nat) (e : TypeId) (i : TypeInfo) (z : Value) (size bytes : Nat) (ht : P.underlying t = some (.slice e)) (hi : P.info? e = some i) (hz : i.zero = some z)
    (hsize : i.size = size) (hby : i.bytes = bytes) (hzs : z.cells.size = size) (hsz : 0 < size)
    (v : Value) (n : Nat) (xs : List Value) (hs : a.eval s = v) (hown : w.ownsRow base e size v n xs)
    (A : Option Addr) (m c : Nat) (news : List Value) (hx : a.eval x = .slice A m c) (hr : Row w size A m news) (h1 : ∀ u ∈ news, u.oneCell' = true)
    (h63 : n + m ≤ maxLen) (hbytes : (n + m) * bytes ≤ 140737488355328) (hbase : base ≤ w.heap.size)
    (h : ∀ v' w', w'.ownsRow base e size v' (n + m) (xs ++ news) → w.grownBy w' v.ownBlock → (v'.ownBlock = v.ownBlock ∨ v'.ownBlock = some w.heap.size) → K (a.put o.dst v') w') : o.wp P a w K Q := by
  obtain ⟨v', w', hrun, h2, h3, h4⟩ := run_append_any (P := P) w base t o.type e i z size bytes ht hi hz hsize hby hzs hsz v n xs hown A m c news hr h1 h63 hbytes hbase
  unfold Oper.wp execOp
  simp only [ho, resolve, invoke, builtin, Sem.run_bind, Sem.run_pure, Result.andThen_ok, List.map_toArray, List.map_cons, List.map_nil, hs, hx, hrun]
  exact h v' w' h2 h3 h4

theorem wpList_append_any {ops : Array Oper} {rest : List Oper} {o : Oper} {a : Act} {Q : Exit → Act → World → Prop} (hgd : o.guard = none) (s x : Operand) (t : TypeId)
    (ho : o.op = .call { callee := .builtin .append, args := #[s, x], argTypes := #[t, t] })
    (base : Nat) (e : TypeId) (i : TypeInfo) (z : Value) (size bytes : Nat) (ht : P.underlying t = some (.slice e)) (hi : P.info? e = some i) (hz : i.zero = some z)
    (hsize : i.size = size) (hby : i.bytes = bytes) (hzs : z.cells.size = size) (hsz : 0 < size)
    (v : Value) (n : Nat) (xs : List Value) (hs : a.eval s = v) (hown : w.ownsRow base e size v n xs)
    (A : Option Addr) (m c : Nat) (news : List Value) (hx : a.eval x = .slice A m c) (hr : Row w size A m news) (h1 : ∀ u ∈ news, u.oneCell' = true)
    (h63 : n + m ≤ maxLen) (hbytes : (n + m) * bytes ≤ 140737488355328) (hbase : base ≤ w.heap.size)
    (h : ∀ v' w', w'.ownsRow base e size v' (n + m) (xs ++ news) → w.grownBy w' v.ownBlock → (v'.ownBlock = v.ownBlock ∨ v'.ownBlock = some w.heap.size) → wpList P ops Q rest (a.put o.dst v') w') : wpList P ops Q (o :: rest) a w :=
  wpList_plain hgd fun _ hK => wp_append_any w s x t ho base e i z size bytes ht hi hz hsize hby hzs hsz v n xs hs hown A m c news hx hr h1 h63 hbytes hbase fun v' w' h2 h3 h4 => hK _ _ (h v' w' h2 h3 h4)

theorem step_append_any {ops : Array Oper} {o : Oper} {a : Act} {K : Act → World → Prop} {Q : Exit → Act → World → Prop} {E : Prop} (hgd : o.guard = none) (s x : Operand) (t : TypeId)
    (ho : o.op = .call { callee := .builtin .append, args := #[s, x], argTypes := #[t, t] })
    (base : Nat) (e : TypeId) (i : TypeInfo) (z : Value) (size bytes : Nat) (ht : P.underlying t = some (.slice e)) (hi : P.info? e = some i) (hz : i.zero = some z)
    (hsize : i.size = size) (hby : i.bytes = bytes) (hzs : z.cells.size = size) (hsz : 0 < size)
    (v : Value) (n : Nat) (xs : List Value) (hs : a.eval s = v) (hown : w.ownsRow base e size v n xs)
    (A : Option Addr) (m c : Nat) (news : List Value) (hx : a.eval x = .slice A m c) (hr : Row w size A m news) (h1 : ∀ u ∈ news, u.oneCell' = true)
    (h63 : n + m ≤ maxLen) (hbytes : (n + m) * bytes ≤ 140737488355328) (hbase : base ≤ w.heap.size)
    (h : ∀ v' w', w'.ownsRow base e size v' (n + m) (xs ++ news) → w.grownBy w' v.ownBlock → (v'.ownBlock = v.ownBlock ∨ v'.ownBlock = some w.heap.size) → K (a.put o.dst v') w') :
    if Region.wanted o (yielded ops a.tmps) = true then Oper.wp P o a w K Q else E := by
  have hw : Region.wanted o (yielded ops a.tmps) = true := by simp [Region.wanted, hgd]
  rw [if_pos hw]
  exact wp_append_any w s x t ho base e i z size bytes ht hi hz hsize hby hzs hsz v n xs hs hown A m c news hx hr h1 h63 hbytes hbase h
end

theorem hold {p : Prop} (h : Hid p) : p := h
theorem unhold {p : Prop} (h : p) : Hid p := h
theorem row_new (W : World) (E sz : Nat) (cs : List Value) (h : cs.length = sz) : Row (W.alloc (.cells cs.toArray E)) sz (some ⟨W.heap.size, 0, none⟩) 1 cs :=
  ⟨by omega, fun _ => ⟨_, rfl, fun j u hu => by rw [add_none, Nat.zero_add]; exact ((Blk.new W E cs).cell j).trans hu⟩⟩
theorem row_newN (W : World) (E sz n g : Nat) (cs : List Value) (hg : g = W.heap.size) (h : cs.length = n * sz) : Row (W.alloc (.cells cs.toArray E)) sz (some ⟨g, 0, none⟩) n cs := by
  subst hg
  exact ⟨h, fun _ => ⟨_, rfl, fun j u hu => by rw [add_none, Nat.zero_add]; exact ((Blk.new W E cs).cell j).trans hu⟩⟩
theorem own_newN (W : World) (E sz n lo g : Nat) (cs : List Value) (hg : g = W.heap.size) (h : cs.length = n * sz) (hn : n ≤ maxLen) (hlo : lo ≤ W.heap.size) : Own E sz lo (W.alloc (.cells cs.toArray E)).heap.size (W.alloc (.cells cs.toArray E)) (.slice (some ⟨g, 0, none⟩) n n) n cs := by
  subst hg
  exact Own.of_blk (Blk.new W E cs) h hn hlo (by rw [World.size_alloc]; omega)
theorem own_new (W : World) (E sz lo : Nat) (cs : List Value) (h : cs.length = sz) (hlo : lo ≤ W.heap.size) : Own E sz lo (W.alloc (.cells cs.toArray E)).heap.size (W.alloc (.cells cs.toArray E)) (.slice (some ⟨W.heap.size, 0, none⟩) 1 1) 1 cs :=
  Own.of_blk (Blk.new W E cs) (by omega) (by unfold maxLen; omega) hlo (by rw [World.size_alloc]; omega)
theorem own_zero (W : World) (E sz lo : Nat) (hlo : lo ≤ W.heap.size) : Own E sz lo (W.alloc (.cells #[] E)).heap.size (W.alloc (.cells #[] E)) (.slice (some ⟨W.heap.size, 0, none⟩) 0 0) 0 [] :=
  Own.of_blk (Blk.new W E []) (by simp) (by unfold maxLen; omega) hlo (by rw [World.size_alloc]; omega)
theorem own_zero' (W : World) (E sz lo g : Nat) (hg : g = W.heap.size) (hlo : lo ≤ W.heap.size) : Own E sz lo (W.alloc (.cells #[] E)).heap.size (W.alloc (.cells #[] E)) (.slice (some ⟨g, 0, none⟩) 0 0) 0 [] := by
  subst hg
  exact own_zero W E sz lo hlo
theorem Ext.app {w0 w w' : World} {E sz hi n : Nat} {v : Value} {xs : List Value} (h : Ext w0 w) (ho : Own E sz w0.heap.size hi w v n xs) (hg : w.grownBy w' v.ownBlock) : Ext w0 w' :=
  h.grown hg fun k hk => (ho.1.lt k hk).1

/-- append, in a region that does not draw: the row v is the call's own (made since w0), the source is any slice that reads as news. -/
theorem wpList_app {P : Program} {ops : Array Oper} {rest : List Oper} {o : Oper} {a : Act} {w : World} {Q : Exit → Act → World → Prop} (w0 : World) (hgd : o.guard = none) (s x : Operand) (t : TypeId)
    (ho : o.op = .call { callee := .builtin .append, args := #[s, x], argTypes := #[t, t] })
    (E : TypeId) (z : Value) (sz bytes : Nat) (ht : P.underlying t = some (.slice E)) (hinfo : (P.info? E).map (fun i => (i.zero, i.size, i.bytes)) = some (some z, sz, bytes)) (hzs : z.cells.size = sz) (hsz : 0 < sz)
    (v : Value) (n : Nat) (xs : List Value) (hs : a.eval s = v) (A : Option Addr) (m c : Nat) (news : List Value) (hx : a.eval x = .slice A m c)
    (hown : Own E sz w0.heap.size w.heap.size w v n xs) (hr : Row w sz A m news) (h1 : ∀ u ∈ news, u.oneCell' = true) (he : Ext w0 w)
    (h63 : n + m ≤ maxLen) (hbytes : (n + m) * bytes ≤ 140737488355328)
    (h : ∀ v' w', Own E sz w0.heap.size w'.heap.size w' v' (n + m) (xs ++ news) → Ext w0 w' → w.grownBy w' v.ownBlock → (v'.ownBlock = v.ownBlock ∨ v'.ownBlock = some w.heap.size) → wpList P ops Q rest (a.put o.dst v') w') : wpList P ops Q (o :: rest) a w := by
  obtain ⟨i0, hi0, hz0, hz1, hz2⟩ := info_parts hinfo
  refine wpList_append_any w hgd s x t ho w0.heap.size E i0 z sz bytes ht hi0 hz0 hz1 hz2 hzs hsz v n xs hs hown.1 A m c news hx hr h1 h63 hbytes he.size ?_
  intro v' w' h2 h3 h4
  exact h v' w' ⟨h2, fun k hk => (h2.lt k hk).2⟩ (he.app hown h3) h3 h4
/-- A region that draws its order, whose operations only read and whose callees hand back one value and only make memory: one walk in the text's order. -/
theorem wp_region_ext {P : Program} {id : Nat} {Q : Exit → Act → World → Prop} {a : Act} {w w0 : World} {l : List Oper} (hm : P.follows .mixedOrders = true) (hB : Region.lexB .any l.toArray = true) (he : Ext w0 w)
    (h : wpQuiet P l.toArray (fun W => Ext w0 W) (fun a' => ∀ w', Ext w0 w' → Q .normal a' w') l a) : (Code.region id l.toArray true).wp P Q a w :=
  wp_region_quiet (C := fun W => Ext w0 W) hm hB he.drew (by simpa using h)
theorem one_ints (l : List Int) : ∀ u ∈ l.map I, u.oneCell' = true := by
  intro u hu
  obtain ⟨x, _, rfl⟩ := List.mem_map.1 hu
  rfl
end Go.Proofs.Ytnglhofegajbiaa
