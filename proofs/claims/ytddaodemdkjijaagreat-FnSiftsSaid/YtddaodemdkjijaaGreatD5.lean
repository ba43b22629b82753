/- Contracts of the reference's functions that draws of roots use: CoreASes, MakeSet, RemoveElement. No conditions. -/
import Derived.Test.YtddaodemdkjijaaGreatD4
import Derived.Test.YtddaodemdkjijaaGreatGL0
import Derived.Test.YtddaodemdkjijaaGreatP18u
namespace Go.Proofs.YtddaodemdkjijaaGreat
open Go.RowKit
set_option linter.unusedVariables false
set_option maxRecDepth 100000 in
set_option maxHeartbeats 1000000 in
theorem spec_CoreASes (vt : Value) (isd : Int) (t : DTopology) (w : World) (ht : TopologyV w.heap.size w vt t) (hn : t.ases.length ≤ 100000) : Calls Tryz.prog 82 #[vt, I isd] w fun e w' => ∃ v', e = .returned v' ∧ (∃ l : List Int, IntSO w.heap.size w'.heap.size w' v' l ∧ ∀ r ∈ l, 0 ≤ r ∧ r < t.ases.length) ∧ Ext w w' := by
  obtain ⟨At_0, nt_0, ct_0, At_1, nt_1, ct_1, rfl, st_0, st_1⟩ := id ht
  obtain ⟨lt_0, kt_0, mt_0⟩ := st_0.len
  subst lt_0
  unfold maxLen at mt_0
  obtain ⟨lt_1, kt_1, mt_1⟩ := st_1.len
  subst lt_1
  unfold maxLen at mt_1
  have Rt := Lib.hid ht; clear ht
  have St_0 := Lib.hid st_0; clear st_0
  have St_1 := Lib.hid st_1; clear st_1
  go_enter Tryz.func82, Tryz.ntmps82
  go_wp2_with fail
  refine name_wp (fun W => ∃ wb, Ext w wb ∧ wb.heap.size = w.heap.size + 1 ∧ Blk wb w.heap.size 27 [.slice At_0 t.ases.length ct_0, .slice At_1 t.links.length ct_1] ∧ Ext wb W ∧ IntSO wb.heap.size W.heap.size W (.slice (some ⟨w.heap.size + 1, 0, none⟩) 0 0) []) ⟨_, xe, by simp only [World.size_alloc], xb, (Ext.refl _).alloc _, own_zero' _ _ _ _ _ (by simp) (Nat.le_refl _)⟩ ?_
  rintro w0 ⟨wb, ewb, zb, bt, ew0, hz⟩
  have Bt := Lib.hid bt; have HZ := Lib.hid hz; clear bt hz
  go_loopw [5, 6] (fun v i wr => ∃ (k : Nat) (l : List Int), k ≤ t.ases.length ∧ i = I k ∧ IntSO wb.heap.size wr.heap.size wr v l ∧ l.length ≤ k ∧ (∀ r ∈ l, 0 ≤ r ∧ r < t.ases.length) ∧ Ext wb wr) (fun _ i _ => t.ases.length - (intOf i).toNat)
  case atStart => exact ⟨0, [], by omega, rfl, HZ.out, by simp, fun r hr => by simp at hr, ew0⟩
  case round =>
    obtain ⟨k, l, hk, rfl, hl, hll, hlr, he⟩ := hrel
    obtain ⟨av, nv, cv, hv⟩ := hl.slice
    subst hv
    obtain ⟨hnv, -⟩ := NO.row hl
    subst hnv
    have HL := Lib.hid hl; have HLR := Lib.hid hlr; clear hl hlr
    have zr := he.size; have z0 := ewb.size
    have lt : w.heap.size < wb.heap.size := by omega
    clear lt
    have bt := Bt.out.ext (w' := wr) xe
    have lt := bt.lt
    obtain ⟨pt_0, pt_1⟩ := blk2 bt
    clear bt
    by_cases hlt : k < t.ases.length
    · obtain ⟨b, off, hA, hb, hkl, hc⟩ := St_0.out.at_ hlt
      generalize t.ases[k] = u at *
      subst hA
      obtain ⟨hu_0, hu_1, hu_2⟩ := hc
      have i0 : (0 : Int) ≤ (k : Int) := by omega
      have i1 : (k : Int) < (t.ases.length : Int) := by omega
      obtain ⟨ku_0, ku_1, ku_2⟩ := And.intro ((Ext.cell (a := w) (b := wr) xe hb).trans hu_0) (And.intro ((Ext.cell (a := w) (b := wr) xe hb).trans hu_1) ((Ext.cell (a := w) (b := wr) xe hb).trans hu_2))
      generalize u.core = uc at *
      generalize u.isd = ui at *
      cases uc
      · go_wp2_with fail
        go_roundw
        case rel => exact ⟨k + 1, l, by omega, by go_num, HL.out, by omega, HLR.out, he⟩
        case measure => first | (simp [intOf]; done) | (simp [intOf]; omega)
      by_cases hq : ui = isd
      · have dq : (ui == isd) = true := beq_iff_eq.2 hq
        clear hq
        go_wp2_with (at_builtin; refine hold ?_)
        refine unhold (wpList_appL wb.heap.size rfl (.tmp 31) (.tmp 33) _ rfl 3 (.int .i64 0) 1 8 Tryz.underlying38 info_int rfl (by omega) (.slice av l.length cv) l.length (l.map I) rfl _ 1 1 [I (k : Int)] rfl (by exact (Own.ext HL.out (w' := wr.alloc _) xe (Nat.le_refl _)).lt_size) (row_one _ _ _ _ _ (by first | rfl | simp) rfl) (one_ints [(k : Int)]) (by simp only [World.size_alloc]; omega) (by unfold maxLen; omega) (by omega) ?_)
        intro v8 w8 o8 hg8
        have h57 := (Own.ext HL.out (w' := wr.alloc (.cells #[I (k : Int)] 3)) xe (Nat.le_refl _))
        have E8 := Lib.hid (Ext.grownB (a := wb) (w := wr.alloc (.cells #[I (k : Int)] 3)) xe h57 hg8 (Nat.le_refl _))
        have o9 : IntSO wb.heap.size w8.heap.size w8 v8 (l ++ [(k : Int)]) := by
          unfold IntSO
          rw [List.length_append, List.length_singleton, List.map_append]
          exact o8
        have O9 := Lib.hid o9; clear o8 o9 hg8 h57
        go_wp2_with (at_builtin; refine hold ?_)
        go_roundw
        case rel => exact ⟨k + 1, l ++ [(k : Int)], by omega, by go_num, O9.out, by simp; omega, fun r hr => by rcases List.mem_append.1 hr with hr | hr; exact HLR.out r hr; (have e : r = (k : Int) := by simpa using hr); omega, E8.out⟩
        case measure => first | (simp [intOf]; done) | (simp [intOf]; omega)
      · have dq : (ui == isd) = false := beq_eq_false_iff_ne.2 hq
        clear hq
        go_wp2_with fail
        go_roundw
        case rel => exact ⟨k + 1, l, by omega, by go_num, HL.out, by omega, HLR.out, he⟩
        case measure => first | (simp [intOf]; done) | (simp [intOf]; omega)
    · obtain rfl : k = t.ases.length := by omega
      have i1 : ¬ (t.ases.length : Int) < (t.ases.length : Int) := by omega
      go_wp2_with fail
      go_ret
      exact ⟨_, rfl, ⟨l, Own.more HL.out (by omega) (Nat.le_refl _), HLR.out⟩, xe⟩
set_option maxRecDepth 100000 in
set_option maxHeartbeats 1000000 in
theorem spec_MakeSet (vl : Value) (l : List Int) (w : World) (hl : IntS w.heap.size w vl l) : Calls Tryz.prog 81 #[vl] w fun e w' => e = .returned (I (l.foldl addElem 0)) ∧ Ext w w' := by
  obtain ⟨Al, nl, cl, rfl, ll, kl, ml, -⟩ := id hl
  subst ll
  unfold maxLen at ml
  have Rl := Lib.hid hl; clear hl
  go_enter Tryz.func81, Tryz.ntmps81
  go_wp2_with fail
  go_loopw [3, 4] (fun s i wr => ∃ k : Nat, k ≤ l.length ∧ i = I k ∧ s = I ((l.take k).foldl addElem 0) ∧ Ext w wr) (fun _ i _ => l.length - (intOf i).toNat)
  case atStart => exact ⟨0, by omega, rfl, rfl, Ext.refl _⟩
  case round =>
    obtain ⟨k, hk, rfl, rfl, he⟩ := hrel
    by_cases hlt : k < l.length
    · obtain ⟨b, off, hA, hb, hkl, hc⟩ := (Rl.out.ext (w' := wr) xe).at_ hlt
      have hc : wr.cell? ⟨b, off + k, none⟩ = some (I l[k]) := hc
      have HX := Lib.hid (foldl_snoc addElem 0 l k hkl)
      generalize l[k] = y at *
      generalize (l.take k).foldl addElem 0 = s at *
      subst hA
      have i0 : (0 : Int) ≤ (k : Int) := by omega
      have i1 : (k : Int) < (l.length : Int) := by omega
      go_wp2_with fail
      refine (spec_AddElement s y wr).mono ?_
      rintro e w1 ⟨rfl, rfl⟩
      go_wp2_with fail
      go_roundw
      case rel => exact ⟨k + 1, by omega, by go_num, by rw [HX.out], he⟩
      case measure => first | (simp [intOf]; done) | (simp [intOf]; omega)
    · obtain rfl : k = l.length := by omega
      have i1 : ¬ (l.length : Int) < (l.length : Int) := by omega
      go_wp2_with fail
      go_ret
      exact ⟨by first | rfl | simp, he⟩
theorem andNot1 (s : Int) (h0 : 0 ≤ s) (h1 : s ≤ 65535) : bits BinOp.andNot IntKind.i64 s 1 = ((s.toNat &&& 18446744073709551614 : Nat) : Int) := by
  obtain ⟨n, rfl⟩ : ∃ n : Nat, s = (n : Int) := ⟨s.toNat, by omega⟩
  have h2 : (BitVec.ofInt 64 (n : Int)).toNat = n := by rw [BitVec.toNat_ofInt]; omega
  have h3 : (~~~(BitVec.ofInt 64 1)).toNat = 18446744073709551614 := by decide
  show IntKind.i64.wrap ((BitVec.ofInt 64 (n : Int) &&& ~~~(BitVec.ofInt 64 1)).toNat : Nat) = _
  rw [BitVec.toNat_and, h2, h3, Int.toNat_natCast]
  have h4 : n &&& 18446744073709551614 ≤ n := Nat.and_le_left
  exact IntWalk.i64_in _ (by omega)
theorem andNot1_sub {s : Int} (h : validSet s = true) : ∀ j, contains (bits BinOp.andNot IntKind.i64 s 1) j = true → contains s j = true := by
  intro j hj
  obtain ⟨h0, h1⟩ := inR_iff.1 h
  rw [andNot1 s h0 h1] at hj
  unfold contains at hj ⊢
  rw [Bool.and_eq_true, Bool.and_eq_true] at hj
  rw [h, hj.2.1]
  have h2 := hj.2.2
  rw [Int.toNat_natCast, Nat.testBit_and, Bool.and_eq_true] at h2
  rw [h2.1]
  rfl
set_option maxRecDepth 100000 in
set_option maxHeartbeats 1000000 in
theorem spec_RemoveElement (s : Int) (w : World) : Calls Tryz.prog 84 #[I s, I 0] w fun e w' => (∃ x : Int, e = .returned (I x) ∧ ∀ j, contains x j = true → contains s j = true) ∧ w = w' := by
  go_enter Tryz.func84, Tryz.ntmps84
  go_wp2_with fail
  refine (spec_ValidSet s w).mono ?_
  rintro e w1 ⟨rfl, rfl⟩
  cases h : validSet s
  · go_wp2_with fail
    go_ret
    exact ⟨⟨s, rfl, fun _ h => h⟩, rfl⟩
  · go_wp2_with fail
    refine (spec_l4One 0 w).mono ?_
    rintro e w2 ⟨rfl, rfl⟩
    have h9 : inR 0 0 15 = true := by decide
    rw [h9]
    go_wp2_with fail
    go_ret
    refine ⟨⟨_, rfl, andNot1_sub h⟩, by first | rfl | trivial⟩
end Go.Proofs.YtddaodemdkjijaaGreat
