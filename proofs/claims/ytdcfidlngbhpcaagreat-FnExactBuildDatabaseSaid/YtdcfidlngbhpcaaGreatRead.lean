/- From the form's reading of an argument to the words of this seat: each argument of a law reads as a datum of the Lean types. No conditions. -/
import Derived.Test.YtdcfidlngbhpcaaGreatGCore
import Derived.Test.YtdcfidlngbhpcaaGreatRows
import Derived.ProofKit
import Derived.OpenShut
import Derived.ShutString
import Derived.ChangeOld
import Derived.Deep.Slices
import Derived.Deep.Fields
namespace Go.Proofs.YtdcfidlngbhpcaaGreat
open Go.RowKit
set_option linter.unusedVariables false
open Go.ChangeShapes Go.WideShapes Go.ChangeAt Go.Deep
section
variable {H : Type} {enc : TypeId × Value → H} {w : World} {base : Nat} {spare : Nat → Bool} {held : Bool}

theorem list_of {α : Type} {Q : Nat → α → Prop} (n : Nat) (h : ∀ k, k < n → ∃ d, Q k d) : ∃ ds : List α, ds.length = n ∧ ∀ k (hk : k < ds.length), Q k ds[k] := by
  induction n with
  | zero => exact ⟨[], rfl, fun k hk => absurd hk (by simp)⟩
  | succ n ih =>
    obtain ⟨ds, hl, hq⟩ := ih fun k hk => h k (by omega)
    obtain ⟨d, hd⟩ := h n (by omega)
    refine ⟨ds ++ [d], by simp [hl], fun k hk => ?_⟩
    rw [List.length_append, List.length_singleton] at hk
    by_cases hkn : k < ds.length
    · rw [List.getElem_append_left hkn]
      exact hq k hkn
    · obtain rfl : k = n := by omega
      rw [List.getElem_append_right (by omega)]
      simpa [hl] using hd

/-- What is asked of a reading of one element: its cells, wherever they lie, read as a datum. -/
def Elem {α : Type} (H : Type) (enc : TypeId × Value → H) (w : World) (base : Nat) (spare : Nat → Bool) (held : Bool) (e sz : Nat) (At : Nat → World → Nat → Nat → α → Prop) : Prop :=
  ∀ (fuel b o : Nat) (cs : List Value) (x : DataW H × List MemPlace), DataW.trod enc Tryz.prog w base spare held fuel e cs = some x → (∀ j u, cs[j]? = some u → w.cell? ⟨b, o + j, none⟩ = some u) → b < w.heap.size → ∃ d, At w.heap.size w b o d

theorem read_slice {α : Type} {At : Nat → World → Nat → Nat → α → Prop} {t e sz fuel : Nat} {cs : List Value} {x : DataW H × List MemPlace} (ht : Tryz.prog.underlying t = some (.slice e)) (hc : Tryz.prog.cellsOf e = sz) (hsz : 0 < sz)
    (hel : Elem H enc w base spare held e sz At) (h : DataW.trod enc Tryz.prog w base spare held fuel t cs = some x) : ∃ A n c ds, cs = [.slice A n c] ∧ Sl At (fun k => k * sz) w.heap.size w (.slice A n c) ds := by
  rcases open_slice ht h with ⟨rfl, _⟩ | ⟨a, len, cap, m, n, D, Pl, rfl, hb, hl, hm, hmm, _, hi⟩
  · exact ⟨none, 0, 0, [], rfl, none, 0, 0, rfl, rfl, Nat.le_refl _, Nat.zero_le _, fun h => absurd h (by omega)⟩
  · rw [hc] at hi
    have hlm : len ≤ m := by rw [hmm]; split <;> omega
    rcases Nat.eq_zero_or_pos len with h0 | h0
    · subst h0
      exact ⟨some a, 0, cap, [], rfl, some a, 0, cap, rfl, rfl, hl, hm, fun h => absurd h (by omega)⟩
    · obtain ⟨b, off, spot⟩ := a
      have hspot : spot = none := by
        obtain ⟨cs', hcs, _⟩ := hi 0 (by omega)
        obtain ⟨_, hcl, hat⟩ := World.cells?_some hcs
        have h1 := hat 0 hsz
        rw [List.getElem?_eq_getElem (by omega)] at h1
        simpa [Addr.add] using World.cell?_spot h1
      subst hspot
      obtain ⟨ds, hdl, hds⟩ := list_of (Q := fun k d => b < w.heap.size ∧ At w.heap.size w b (off + k * sz) d) len fun k hk => by
        obtain ⟨cs', hcs, htr⟩ := hi k (by omega)
        obtain ⟨_, hcl, hat⟩ := World.cells?_some hcs
        have hat' : ∀ j u, cs'[j]? = some u → w.cell? ⟨b, off + k * sz + j, none⟩ = some u := fun j u hu => by
          have hj := (List.getElem?_eq_some_iff.1 hu).1
          have := hat j (by omega)
          rw [hu] at this
          have e1 : ((⟨b, off, none⟩ : Addr).add (k * sz)).add j = ⟨b, off + k * sz + j, none⟩ := by
            unfold Addr.add
            by_cases h1 : k * sz = 0 <;> by_cases h2 : j = 0 <;> simp [h1, h2]
          rw [e1] at this
          exact this
        have hblt : b < w.heap.size := World.block_lt_of_cell? w ⟨b, off + k * sz + 0, none⟩ (hat' 0 _ (List.getElem?_eq_getElem (by omega)))
        obtain ⟨d, hd⟩ := hel n b (off + k * sz) cs' _ htr hat' hblt
        exact ⟨d, hblt, hd⟩
      refine ⟨_, len, cap, ds, rfl, _, len, cap, rfl, hdl, hl, hm, fun _ => ⟨b, off, rfl, (hds 0 (by omega)).1, fun k hk => (hds k hk).2⟩⟩

theorem field_of {fs : Array Field} {n : Nat} {cs : List Value} {xs : List (DataW H × List MemPlace)} (hxl : xs.length = fs.size)
    (hg : ∀ (i : Nat) (f : Field), fs[i]? = some f → DataW.trod enc Tryz.prog w base spare held n f.type ((cs.drop f.offset).take (Tryz.prog.cellsOf f.type)) = xs[i]?) (i : Nat) (f : Field) (hf : fs[i]? = some f) (k : Nat) (hk : Tryz.prog.cellsOf f.type = k) :
    ∃ y, DataW.trod enc Tryz.prog w base spare held n f.type ((cs.drop f.offset).take k) = some y := by
  have h := hg i f hf
  have hi : i < xs.length := by rw [hxl]; exact (Array.getElem?_eq_some_iff.1 hf).1
  rw [hk, List.getElem?_eq_getElem hi] at h
  exact ⟨_, h⟩
theorem read_int {fuel : Nat} {cs : List Value} {x : DataW H × List MemPlace} (h : DataW.trod enc Tryz.prog w base spare held fuel 3 cs = some x) : ∃ n, cs = [I n] := by
  obtain ⟨n, e, _⟩ := DataW.trod_int Tryz.underlying3 h
  exact ⟨n, e⟩
theorem read_bool {fuel : Nat} {cs : List Value} {x : DataW H × List MemPlace} (h : DataW.trod enc Tryz.prog w base spare held fuel 4 cs = some x) : ∃ b, cs = [.bool b] := by
  obtain ⟨n, e, _⟩ := DataW.trod_bool Tryz.underlying4 h
  exact ⟨n, e⟩
theorem elem_int : Elem H enc w base spare held 3 1 IntAt := by
  intro fuel b o cs x h hc _
  obtain ⟨n, rfl⟩ := read_int h
  exact ⟨n, hc 0 _ rfl⟩
theorem read_IntS {fuel : Nat} {cs : List Value} {x : DataW H × List MemPlace} (h : DataW.trod enc Tryz.prog w base spare held fuel 145 cs = some x) : ∃ A n c ds, cs = [.slice A n c] ∧ IntS w.heap.size w (.slice A n c) ds := by
  obtain ⟨A, n, c, ds, e, hs⟩ := read_slice (At := IntAt) (sz := 1) Tryz.underlying145 (by kernel_rfl) (by omega) elem_int h
  exact ⟨A, n, c, ds, e, by simpa using hs⟩
set_option maxRecDepth 100000 in
set_option maxHeartbeats 1000000 in
theorem read_Hop {fuel : Nat} {cs : List Value} {x : DataW H × List MemPlace} (h : DataW.trod enc Tryz.prog w base spare held fuel 178 cs = some x) : ∃ d : DHop, cs = [I d.asn, I d.ing, I d.egr, I d.exp, I d.mac] := by
  obtain ⟨xs, n, _, _, hlen, hxl, hg⟩ := DataW.trod_struct Tryz.underlying178 h
  have hlen : cs.length = 5 := hlen.trans (by kernel_rfl)
  match cs, hlen with
  | [c0, c1, c2, c3, c4], _ =>
    obtain ⟨y0, g0⟩ := field_of hxl hg 0 _ rfl 1 (by kernel_rfl)
    obtain ⟨d0, e0⟩ := read_int (cs := [c0]) g0
    simp only [List.cons.injEq, and_true] at e0
    subst e0
    obtain ⟨y1, g1⟩ := field_of hxl hg 1 _ rfl 1 (by kernel_rfl)
    obtain ⟨d1, e1⟩ := read_int (cs := [c1]) g1
    simp only [List.cons.injEq, and_true] at e1
    subst e1
    obtain ⟨y2, g2⟩ := field_of hxl hg 2 _ rfl 1 (by kernel_rfl)
    obtain ⟨d2, e2⟩ := read_int (cs := [c2]) g2
    simp only [List.cons.injEq, and_true] at e2
    subst e2
    obtain ⟨y3, g3⟩ := field_of hxl hg 3 _ rfl 1 (by kernel_rfl)
    obtain ⟨d3, e3⟩ := read_int (cs := [c3]) g3
    simp only [List.cons.injEq, and_true] at e3
    subst e3
    obtain ⟨y4, g4⟩ := field_of hxl hg 4 _ rfl 1 (by kernel_rfl)
    obtain ⟨d4, e4⟩ := read_int (cs := [c4]) g4
    simp only [List.cons.injEq, and_true] at e4
    subst e4
    exact ⟨⟨d0, d1, d2, d3, d4⟩, rfl⟩
theorem elem_Hop : Elem H enc w base spare held 178 5 HopAt := by
  intro fuel b o cs x h hc _
  obtain ⟨d, rfl⟩ := read_Hop h
  exact ⟨d, hc 0 _ rfl, hc 1 _ rfl, hc 2 _ rfl, hc 3 _ rfl, hc 4 _ rfl⟩
theorem read_HopS {fuel : Nat} {cs : List Value} {x : DataW H × List MemPlace} (h : DataW.trod enc Tryz.prog w base spare held fuel 29 cs = some x) : ∃ A n c ds, cs = [.slice A n c] ∧ HopS w.heap.size w (.slice A n c) ds := by
  obtain ⟨A, n, c, ds, e, hs⟩ := read_slice (At := HopAt) (sz := 5) Tryz.underlying29 (by kernel_rfl) (by omega) elem_Hop h
  exact ⟨A, n, c, ds, e, hs⟩
set_option maxRecDepth 100000 in
set_option maxHeartbeats 1000000 in
theorem read_AS {fuel : Nat} {cs : List Value} {x : DataW H × List MemPlace} (h : DataW.trod enc Tryz.prog w base spare held fuel 172 cs = some x) : ∃ d : DAS, cs = [I d.isd, .bool d.core, I d.key] := by
  obtain ⟨xs, n, _, _, hlen, hxl, hg⟩ := DataW.trod_struct Tryz.underlying172 h
  have hlen : cs.length = 3 := hlen.trans (by kernel_rfl)
  match cs, hlen with
  | [c0, c1, c2], _ =>
    obtain ⟨y0, g0⟩ := field_of hxl hg 0 _ rfl 1 (by kernel_rfl)
    obtain ⟨d0, e0⟩ := read_int (cs := [c0]) g0
    simp only [List.cons.injEq, and_true] at e0
    subst e0
    obtain ⟨y1, g1⟩ := field_of hxl hg 1 _ rfl 1 (by kernel_rfl)
    obtain ⟨d1, e1⟩ := read_bool (cs := [c1]) g1
    simp only [List.cons.injEq, and_true] at e1
    subst e1
    obtain ⟨y2, g2⟩ := field_of hxl hg 2 _ rfl 1 (by kernel_rfl)
    obtain ⟨d2, e2⟩ := read_int (cs := [c2]) g2
    simp only [List.cons.injEq, and_true] at e2
    subst e2
    exact ⟨⟨d0, d1, d2⟩, rfl⟩
theorem elem_AS : Elem H enc w base spare held 172 3 ASAt := by
  intro fuel b o cs x h hc _
  obtain ⟨d, rfl⟩ := read_AS h
  exact ⟨d, hc 0 _ rfl, hc 1 _ rfl, hc 2 _ rfl⟩
theorem read_ASS {fuel : Nat} {cs : List Value} {x : DataW H × List MemPlace} (h : DataW.trod enc Tryz.prog w base spare held fuel 22 cs = some x) : ∃ A n c ds, cs = [.slice A n c] ∧ ASS w.heap.size w (.slice A n c) ds := by
  obtain ⟨A, n, c, ds, e, hs⟩ := read_slice (At := ASAt) (sz := 3) Tryz.underlying22 (by kernel_rfl) (by omega) elem_AS h
  exact ⟨A, n, c, ds, e, hs⟩
set_option maxRecDepth 100000 in
set_option maxHeartbeats 1000000 in
theorem read_Link {fuel : Nat} {cs : List Value} {x : DataW H × List MemPlace} (h : DataW.trod enc Tryz.prog w base spare held fuel 176 cs = some x) : ∃ d : DLink, cs = [I d.a, I d.ai, I d.b, I d.bi, I d.kind] := by
  obtain ⟨xs, n, _, _, hlen, hxl, hg⟩ := DataW.trod_struct Tryz.underlying176 h
  have hlen : cs.length = 5 := hlen.trans (by kernel_rfl)
  match cs, hlen with
  | [c0, c1, c2, c3, c4], _ =>
    obtain ⟨y0, g0⟩ := field_of hxl hg 0 _ rfl 1 (by kernel_rfl)
    obtain ⟨d0, e0⟩ := read_int (cs := [c0]) g0
    simp only [List.cons.injEq, and_true] at e0
    subst e0
    obtain ⟨y1, g1⟩ := field_of hxl hg 1 _ rfl 1 (by kernel_rfl)
    obtain ⟨d1, e1⟩ := read_int (cs := [c1]) g1
    simp only [List.cons.injEq, and_true] at e1
    subst e1
    obtain ⟨y2, g2⟩ := field_of hxl hg 2 _ rfl 1 (by kernel_rfl)
    obtain ⟨d2, e2⟩ := read_int (cs := [c2]) g2
    simp only [List.cons.injEq, and_true] at e2
    subst e2
    obtain ⟨y3, g3⟩ := field_of hxl hg 3 _ rfl 1 (by kernel_rfl)
    obtain ⟨d3, e3⟩ := read_int (cs := [c3]) g3
    simp only [List.cons.injEq, and_true] at e3
    subst e3
    obtain ⟨y4, g4⟩ := field_of hxl hg 4 _ rfl 1 (by kernel_rfl)
    obtain ⟨d4, e4⟩ := read_int (cs := [c4]) g4
    simp only [List.cons.injEq, and_true] at e4
    subst e4
    exact ⟨⟨d0, d1, d2, d3, d4⟩, rfl⟩
theorem elem_Link : Elem H enc w base spare held 176 5 LinkAt := by
  intro fuel b o cs x h hc _
  obtain ⟨d, rfl⟩ := read_Link h
  exact ⟨d, hc 0 _ rfl, hc 1 _ rfl, hc 2 _ rfl, hc 3 _ rfl, hc 4 _ rfl⟩
theorem read_LinkS {fuel : Nat} {cs : List Value} {x : DataW H × List MemPlace} (h : DataW.trod enc Tryz.prog w base spare held fuel 23 cs = some x) : ∃ A n c ds, cs = [.slice A n c] ∧ LinkS w.heap.size w (.slice A n c) ds := by
  obtain ⟨A, n, c, ds, e, hs⟩ := read_slice (At := LinkAt) (sz := 5) Tryz.underlying23 (by kernel_rfl) (by omega) elem_Link h
  exact ⟨A, n, c, ds, e, hs⟩
set_option maxRecDepth 100000 in
set_option maxHeartbeats 1000000 in
theorem read_Policy {fuel : Nat} {cs : List Value} {x : DataW H × List MemPlace} (h : DataW.trod enc Tryz.prog w base spare held fuel 139 cs = some x) : ∃ d : DPolicy, cs = [I d.maxLen, I d.denied, I d.closed, I d.life] := by
  obtain ⟨xs, n, _, _, hlen, hxl, hg⟩ := DataW.trod_struct Tryz.underlying139 h
  have hlen : cs.length = 4 := hlen.trans (by kernel_rfl)
  match cs, hlen with
  | [c0, c1, c2, c3], _ =>
    obtain ⟨y0, g0⟩ := field_of hxl hg 0 _ rfl 1 (by kernel_rfl)
    obtain ⟨d0, e0⟩ := read_int (cs := [c0]) g0
    simp only [List.cons.injEq, and_true] at e0
    subst e0
    obtain ⟨y1, g1⟩ := field_of hxl hg 1 _ rfl 1 (by kernel_rfl)
    obtain ⟨d1, e1⟩ := read_int (cs := [c1]) g1
    simp only [List.cons.injEq, and_true] at e1
    subst e1
    obtain ⟨y2, g2⟩ := field_of hxl hg 2 _ rfl 1 (by kernel_rfl)
    obtain ⟨d2, e2⟩ := read_int (cs := [c2]) g2
    simp only [List.cons.injEq, and_true] at e2
    subst e2
    obtain ⟨y3, g3⟩ := field_of hxl hg 3 _ rfl 1 (by kernel_rfl)
    obtain ⟨d3, e3⟩ := read_int (cs := [c3]) g3
    simp only [List.cons.injEq, and_true] at e3
    subst e3
    exact ⟨⟨d0, d1, d2, d3⟩, rfl⟩
theorem elem_Policy : Elem H enc w base spare held 139 4 PolicyAt := by
  intro fuel b o cs x h hc _
  obtain ⟨d, rfl⟩ := read_Policy h
  exact ⟨d, hc 0 _ rfl, hc 1 _ rfl, hc 2 _ rfl, hc 3 _ rfl⟩
theorem read_PolicyS {fuel : Nat} {cs : List Value} {x : DataW H × List MemPlace} (h : DataW.trod enc Tryz.prog w base spare held fuel 72 cs = some x) : ∃ A n c ds, cs = [.slice A n c] ∧ PolicyS w.heap.size w (.slice A n c) ds := by
  obtain ⟨A, n, c, ds, e, hs⟩ := read_slice (At := PolicyAt) (sz := 4) Tryz.underlying72 (by kernel_rfl) (by omega) elem_Policy h
  exact ⟨A, n, c, ds, e, hs⟩
set_option maxRecDepth 100000 in
set_option maxHeartbeats 1000000 in
theorem read_Segment {fuel : Nat} {cs : List Value} {x : DataW H × List MemPlace} (h : DataW.trod enc Tryz.prog w base spare held fuel 31 cs = some x) : ∃ d : DSegment, ∃ A2 n2 c2, cs = [I d.ts, I d.beta, .slice A2 n2 c2] ∧ HopS w.heap.size w (.slice A2 n2 c2) d.hops := by
  obtain ⟨xs, n, _, _, hlen, hxl, hg⟩ := DataW.trod_struct Tryz.underlying31 h
  have hlen : cs.length = 3 := hlen.trans (by kernel_rfl)
  match cs, hlen with
  | [c0, c1, c2], _ =>
    obtain ⟨y0, g0⟩ := field_of hxl hg 0 _ rfl 1 (by kernel_rfl)
    obtain ⟨d0, e0⟩ := read_int (cs := [c0]) g0
    simp only [List.cons.injEq, and_true] at e0
    subst e0
    obtain ⟨y1, g1⟩ := field_of hxl hg 1 _ rfl 1 (by kernel_rfl)
    obtain ⟨d1, e1⟩ := read_int (cs := [c1]) g1
    simp only [List.cons.injEq, and_true] at e1
    subst e1
    obtain ⟨y2, g2⟩ := field_of hxl hg 2 _ rfl 1 (by kernel_rfl)
    obtain ⟨A2, n2, c2, d2, e2, s2⟩ := read_HopS (cs := [c2]) g2
    simp only [List.cons.injEq, and_true] at e2
    subst e2
    exact ⟨⟨d0, d1, d2⟩, A2, n2, c2, rfl, s2⟩
theorem elem_Segment : Elem H enc w base spare held 31 3 SegmentAt := by
  intro fuel b o cs x h hc _
  obtain ⟨d, A2, n2, c2, rfl, s2⟩ := read_Segment h
  exact ⟨d, A2, n2, c2, hc 0 _ rfl, hc 1 _ rfl, hc 2 _ rfl, s2⟩
theorem read_SegmentS {fuel : Nat} {cs : List Value} {x : DataW H × List MemPlace} (h : DataW.trod enc Tryz.prog w base spare held fuel 26 cs = some x) : ∃ A n c ds, cs = [.slice A n c] ∧ SegmentS w.heap.size w (.slice A n c) ds := by
  obtain ⟨A, n, c, ds, e, hs⟩ := read_slice (At := SegmentAt) (sz := 3) Tryz.underlying26 (by kernel_rfl) (by omega) elem_Segment h
  exact ⟨A, n, c, ds, e, hs⟩
set_option maxRecDepth 100000 in
set_option maxHeartbeats 1000000 in
theorem read_Topology {fuel : Nat} {cs : List Value} {x : DataW H × List MemPlace} (h : DataW.trod enc Tryz.prog w base spare held fuel 25 cs = some x) : ∃ d : DTopology, ∃ A0 n0 c0, ∃ A1 n1 c1, cs = [.slice A0 n0 c0, .slice A1 n1 c1] ∧ ASS w.heap.size w (.slice A0 n0 c0) d.ases ∧ LinkS w.heap.size w (.slice A1 n1 c1) d.links := by
  obtain ⟨xs, n, _, _, hlen, hxl, hg⟩ := DataW.trod_struct Tryz.underlying25 h
  have hlen : cs.length = 2 := hlen.trans (by kernel_rfl)
  match cs, hlen with
  | [c0, c1], _ =>
    obtain ⟨y0, g0⟩ := field_of hxl hg 0 _ rfl 1 (by kernel_rfl)
    obtain ⟨A0, n0, c0, d0, e0, s0⟩ := read_ASS (cs := [c0]) g0
    simp only [List.cons.injEq, and_true] at e0
    subst e0
    obtain ⟨y1, g1⟩ := field_of hxl hg 1 _ rfl 1 (by kernel_rfl)
    obtain ⟨A1, n1, c1, d1, e1, s1⟩ := read_LinkS (cs := [c1]) g1
    simp only [List.cons.injEq, and_true] at e1
    subst e1
    exact ⟨⟨d0, d1⟩, A0, n0, c0, A1, n1, c1, rfl, s0, s1⟩
set_option maxRecDepth 100000 in
set_option maxHeartbeats 1000000 in
theorem read_Beacon {fuel : Nat} {cs : List Value} {x : DataW H × List MemPlace} (h : DataW.trod enc Tryz.prog w base spare held fuel 58 cs = some x) : ∃ d : DBeacon, ∃ A3 n3 c3, cs = [I d.ing, I d.seg.ts, I d.seg.beta, .slice A3 n3 c3] ∧ HopS w.heap.size w (.slice A3 n3 c3) d.seg.hops := by
  obtain ⟨xs, n, _, _, hlen, hxl, hg⟩ := DataW.trod_struct Tryz.underlying58 h
  have hlen : cs.length = 4 := hlen.trans (by kernel_rfl)
  match cs, hlen with
  | [c0, c1, c2, c3], _ =>
    obtain ⟨y0, g0⟩ := field_of hxl hg 0 _ rfl 1 (by kernel_rfl)
    obtain ⟨d0, e0⟩ := read_int (cs := [c0]) g0
    simp only [List.cons.injEq, and_true] at e0
    subst e0
    obtain ⟨y1, g1⟩ := field_of hxl hg 1 _ rfl 3 (by kernel_rfl)
    obtain ⟨d1, A3, n3, c3, e1, s3⟩ := read_Segment (cs := [c1, c2, c3]) g1
    simp only [List.cons.injEq, and_true] at e1
    obtain ⟨rfl, rfl, rfl⟩ := e1
    exact ⟨⟨d0, d1⟩, A3, n3, c3, rfl, s3⟩
theorem elem_Beacon : Elem H enc w base spare held 58 4 BeaconAt := by
  intro fuel b o cs x h hc _
  obtain ⟨d, A3, n3, c3, rfl, s3⟩ := read_Beacon h
  exact ⟨d, A3, n3, c3, hc 0 _ rfl, hc 1 _ rfl, hc 2 _ rfl, hc 3 _ rfl, s3⟩
theorem read_BeaconS {fuel : Nat} {cs : List Value} {x : DataW H × List MemPlace} (h : DataW.trod enc Tryz.prog w base spare held fuel 56 cs = some x) : ∃ A n c ds, cs = [.slice A n c] ∧ BeaconS w.heap.size w (.slice A n c) ds := by
  obtain ⟨A, n, c, ds, e, hs⟩ := read_slice (At := BeaconAt) (sz := 4) Tryz.underlying56 (by kernel_rfl) (by omega) elem_Beacon h
  exact ⟨A, n, c, ds, e, hs⟩
set_option maxRecDepth 100000 in
set_option maxHeartbeats 1000000 in
theorem read_BeaconStore {fuel : Nat} {cs : List Value} {x : DataW H × List MemPlace} (h : DataW.trod enc Tryz.prog w base spare held fuel 189 cs = some x) : ∃ d : DBeaconStore, ∃ A0 n0 c0, cs = [.slice A0 n0 c0] ∧ BeaconS w.heap.size w (.slice A0 n0 c0) d.beacons := by
  obtain ⟨xs, n, _, _, hlen, hxl, hg⟩ := DataW.trod_struct Tryz.underlying189 h
  have hlen : cs.length = 1 := hlen.trans (by kernel_rfl)
  match cs, hlen with
  | [c0], _ =>
    obtain ⟨y0, g0⟩ := field_of hxl hg 0 _ rfl 1 (by kernel_rfl)
    obtain ⟨A0, n0, c0, d0, e0, s0⟩ := read_BeaconS (cs := [c0]) g0
    simp only [List.cons.injEq, and_true] at e0
    subst e0
    exact ⟨⟨d0⟩, A0, n0, c0, rfl, s0⟩
theorem elem_BeaconStore : Elem H enc w base spare held 189 1 BeaconStoreAt := by
  intro fuel b o cs x h hc _
  obtain ⟨d, A0, n0, c0, rfl, s0⟩ := read_BeaconStore h
  exact ⟨d, A0, n0, c0, hc 0 _ rfl, s0⟩
theorem read_BeaconStoreS {fuel : Nat} {cs : List Value} {x : DataW H × List MemPlace} (h : DataW.trod enc Tryz.prog w base spare held fuel 73 cs = some x) : ∃ A n c ds, cs = [.slice A n c] ∧ BeaconStoreS w.heap.size w (.slice A n c) ds := by
  obtain ⟨A, n, c, ds, e, hs⟩ := read_slice (At := BeaconStoreAt) (sz := 1) Tryz.underlying73 (by kernel_rfl) (by omega) elem_BeaconStore h
  exact ⟨A, n, c, ds, e, by simpa using hs⟩
set_option maxRecDepth 100000 in
set_option maxHeartbeats 1000000 in
theorem read_BeaconMessage {fuel : Nat} {cs : List Value} {x : DataW H × List MemPlace} (h : DataW.trod enc Tryz.prog w base spare held fuel 156 cs = some x) : ∃ d : DBeaconMessage, ∃ A4 n4 c4, cs = [I d.to, I d.beacon.ing, I d.beacon.seg.ts, I d.beacon.seg.beta, .slice A4 n4 c4] ∧ HopS w.heap.size w (.slice A4 n4 c4) d.beacon.seg.hops := by
  obtain ⟨xs, n, _, _, hlen, hxl, hg⟩ := DataW.trod_struct Tryz.underlying156 h
  have hlen : cs.length = 5 := hlen.trans (by kernel_rfl)
  match cs, hlen with
  | [c0, c1, c2, c3, c4], _ =>
    obtain ⟨y0, g0⟩ := field_of hxl hg 0 _ rfl 1 (by kernel_rfl)
    obtain ⟨d0, e0⟩ := read_int (cs := [c0]) g0
    simp only [List.cons.injEq, and_true] at e0
    subst e0
    obtain ⟨y1, g1⟩ := field_of hxl hg 1 _ rfl 4 (by kernel_rfl)
    obtain ⟨d1, A4, n4, c4, e1, s4⟩ := read_Beacon (cs := [c1, c2, c3, c4]) g1
    simp only [List.cons.injEq, and_true] at e1
    obtain ⟨rfl, rfl, rfl, rfl⟩ := e1
    exact ⟨⟨d0, d1⟩, A4, n4, c4, rfl, s4⟩
theorem elem_BeaconMessage : Elem H enc w base spare held 156 5 BeaconMessageAt := by
  intro fuel b o cs x h hc _
  obtain ⟨d, A4, n4, c4, rfl, s4⟩ := read_BeaconMessage h
  exact ⟨d, A4, n4, c4, hc 0 _ rfl, hc 1 _ rfl, hc 2 _ rfl, hc 3 _ rfl, hc 4 _ rfl, s4⟩
theorem read_BeaconMessageS {fuel : Nat} {cs : List Value} {x : DataW H × List MemPlace} (h : DataW.trod enc Tryz.prog w base spare held fuel 95 cs = some x) : ∃ A n c ds, cs = [.slice A n c] ∧ BeaconMessageS w.heap.size w (.slice A n c) ds := by
  obtain ⟨A, n, c, ds, e, hs⟩ := read_slice (At := BeaconMessageAt) (sz := 5) Tryz.underlying95 (by kernel_rfl) (by omega) elem_BeaconMessage h
  exact ⟨A, n, c, ds, e, hs⟩
set_option maxRecDepth 100000 in
set_option maxHeartbeats 1000000 in
theorem read_Beaconing {fuel : Nat} {cs : List Value} {x : DataW H × List MemPlace} (h : DataW.trod enc Tryz.prog w base spare held fuel 75 cs = some x) : ∃ d : DBeaconing, ∃ A1 n1 c1, cs = [I d.ts, .slice A1 n1 c1] ∧ BeaconStoreS w.heap.size w (.slice A1 n1 c1) d.stores := by
  obtain ⟨xs, n, _, _, hlen, hxl, hg⟩ := DataW.trod_struct Tryz.underlying75 h
  have hlen : cs.length = 2 := hlen.trans (by kernel_rfl)
  match cs, hlen with
  | [c0, c1], _ =>
    obtain ⟨y0, g0⟩ := field_of hxl hg 0 _ rfl 1 (by kernel_rfl)
    obtain ⟨d0, e0⟩ := read_int (cs := [c0]) g0
    simp only [List.cons.injEq, and_true] at e0
    subst e0
    obtain ⟨y1, g1⟩ := field_of hxl hg 1 _ rfl 1 (by kernel_rfl)
    obtain ⟨A1, n1, c1, d1, e1, s1⟩ := read_BeaconStoreS (cs := [c1]) g1
    simp only [List.cons.injEq, and_true] at e1
    subst e1
    exact ⟨⟨d0, d1⟩, A1, n1, c1, rfl, s1⟩
set_option maxRecDepth 100000 in
set_option maxHeartbeats 1000000 in
theorem read_SegmentDatabase {fuel : Nat} {cs : List Value} {x : DataW H × List MemPlace} (h : DataW.trod enc Tryz.prog w base spare held fuel 28 cs = some x) : ∃ d : DSegmentDatabase, ∃ A0 n0 c0, ∃ A1 n1 c1, cs = [.slice A0 n0 c0, .slice A1 n1 c1] ∧ SegmentS w.heap.size w (.slice A0 n0 c0) d.down ∧ SegmentS w.heap.size w (.slice A1 n1 c1) d.core := by
  obtain ⟨xs, n, _, _, hlen, hxl, hg⟩ := DataW.trod_struct Tryz.underlying28 h
  have hlen : cs.length = 2 := hlen.trans (by kernel_rfl)
  match cs, hlen with
  | [c0, c1], _ =>
    obtain ⟨y0, g0⟩ := field_of hxl hg 0 _ rfl 1 (by kernel_rfl)
    obtain ⟨A0, n0, c0, d0, e0, s0⟩ := read_SegmentS (cs := [c0]) g0
    simp only [List.cons.injEq, and_true] at e0
    subst e0
    obtain ⟨y1, g1⟩ := field_of hxl hg 1 _ rfl 1 (by kernel_rfl)
    obtain ⟨A1, n1, c1, d1, e1, s1⟩ := read_SegmentS (cs := [c1]) g1
    simp only [List.cons.injEq, and_true] at e1
    subst e1
    exact ⟨⟨d0, d1⟩, A0, n0, c0, A1, n1, c1, rfl, s0, s1⟩
end
end Go.Proofs.YtdcfidlngbhpcaaGreat
