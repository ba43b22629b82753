/- The law FnBooks returns true for every input and changes no argument. No conditions. -/
import Derived.Test.YtmopmgaeiokfjaaGreatD44
import Derived.Test.YtmopmgaeiokfjaaGreatRead
set_option maxRecDepth 100000
set_option maxHeartbeats 1000000
namespace Go.Proofs.YtmopmgaeiokfjaaGreat.lawBooks
open Go.RowKit
set_option linter.unusedVariables false
open Go.ChangeShapes Go.WideShapes Go.ChangeAt
theorem own : ownKnob Tryz.prog.godebug = none := by kernel_rfl
theorem laidOut : laidOutB Tryz.prog = true := by kernel_rfl
theorem elem_byte {H : Type} {enc : TypeId × Value → H} {w : World} {base : Nat} {spare : Nat → Bool} {held : Bool} : Elem H enc w base spare held 5 1 ByteAt := by
 intro fuel b o cs x h hc _;obtain ⟨n, rfl, -, hw⟩ := DataW.trod_int Tryz.underlying5 h
 have h9 : 0 ≤ n ∧ n < 256 := by
  have hw : (decide (IntKind.u8.min ≤ n) && decide (n ≤ IntKind.u8.max)) = true := hw
  have e0 : IntKind.u8.min = 0 := by decide +kernel
  have e1 : IntKind.u8.max = 255 := by decide +kernel
  rw [e0, e1] at hw;simp at hw;omega
 exact ⟨n.toNat, by rw [show ((n.toNat : Nat) : Int) = n by omega]; exact hc 0 _ rfl, by omega⟩
theorem read_ByteS {H : Type} {enc : TypeId × Value → H} {w : World} {base : Nat} {spare : Nat → Bool} {held : Bool} {fuel : Nat} {cs : List Value} {x : DataW H × List MemPlace} (h : DataW.trod enc Tryz.prog w base spare held fuel 22 cs = some x) : ∃ A n c ds, cs = [.slice A n c] ∧ ByteS w.heap.size w (.slice A n c) ds := by
 obtain ⟨A, n, c, ds, e, hs⟩ := read_slice (At := ByteAt) (sz := 1) Tryz.underlying22 (by kernel_rfl) (by omega) elem_byte h;exact ⟨A, n, c, ds, e, by simpa using hs⟩
theorem lifted (os : Os) (started : os.Started) (H : Type) (enc : TypeId × Value → H) :
 ReturnsInHanded {} Tryz.checked os 3 .any (Rows.fnBooksSpec.pre6 enc Tryz.prog Tryz.f3 Rows.fnBooksRow.domain false) (Rows.fnBooksSpec.post enc Tryz.prog Tryz.f3 false true false false) := by
 refine returnsInHanded_of_change (C := Tryz.checked) own started (by kernel_rfl) Tryz.func3
  (ChangeSpec.witness6 (enc := enc) (C := Tryz.checked) false ⟨#[], #[.slice none 0 0], []⟩ 8 (by kernel_rfl) (by kernel_rfl) (by kernel_rfl) (by kernel_rfl)) ?_
 intro W base args ds gs before hval0 hW hcnd _;have hval : ∀ (j : Nat) t v, Tryz.f3.params[j]? = some t → args[j]? = some v → Value.okWide Tryz.prog W .any base t v := hval0;have hW' := hW;obtain ⟨p, q, hA0, hV, rfl, hfz, hnd⟩ := hW;have hA : DataW.TrodAll enc Tryz.prog W 0 (fun _ => true) true Tryz.f3.params.toList args.toList ds p := hA0;rw [Tryz.params3] at hA hval;obtain ⟨v0, vs0, d0, ds0, p0, q0, hargs, rfl, rfl, h0, r0⟩ := trodAll_cons hA;obtain ⟨rfl, rfl, rfl⟩ := trodAll_nil r0
 obtain rfl : args = #[v0] := by cases args; simp_all
 obtain ⟨rfl, rfl⟩ := trodVars_none hV;have k0 := h0
 have lt0 : ∀ x ∈ p0, x.block < W.heap.size := by obtain ⟨m, hm⟩ := k0; exact DataW.trod_lt m _ _ _ hm
 obtain ⟨a0, len0, cap0, rfl⟩ := okWide_slice Tryz.underlying22 (hval 0 22 v0 rfl rfl)
 obtain ⟨x0, y0⟩ : ∃ ds, ByteS W.heap.size W (.slice a0 len0 cap0) ds := by
  obtain ⟨fuel, hf⟩ := h0;obtain ⟨A, n, c, ds, e, hs⟩ := read_ByteS hf;simp only [Value.cells, List.cons.injEq, and_true] at e;rw [← e] at hs;exact ⟨ds, hs⟩
 clear hA0 hval0;refine (books_walk _ x0 W y0).mono fun e W' ⟨he, bel⟩ => ?_;subst he;exact ⟨_, rfl, _, _, _, [], _, [], hW', trodAll_mk1 (shut_bool Tryz.underlying4 _), (trodAll_cons_mk (Below.trod laidOut (by kernel_rfl) (of_decide_eq_true (by kernel_rfl)) k0 bel.below lt0) trodAll_mk0), rfl, bel.below.frame _, fun h => by cases h⟩
theorem over : Rows.fnBooksRow.holds Tryz.pinned (OpenSpec.ofChange Rows.fnBooksSpec) :=
 OpenClaim.holds_of_wide 3 Tryz.f3 rfl rfl rfl rfl rfl rfl rfl ⟨rfl, rfl, rfl, rfl, rfl⟩ rfl rfl rfl rfl rfl (by kernel_rfl) Tryz.func3 (by kernel_rfl)
  (of_decide_eq_true (by kernel_rfl)) (by unfold Func.isWrapper; first | (rw [if_pos (by decide +kernel)]; kernel_rfl) | (rw [if_neg (by decide +kernel)]; exact ⟨rfl, rfl⟩))
  (fun os started H enc _ => lifted os started H enc)
theorem proved : Rows.FnBooksSaid := over
#print axioms proved
end Go.Proofs.YtmopmgaeiokfjaaGreat.lawBooks
