/- Contracts of the reference's cursor: l1New, l1Byte, l1Below, l1Once, l1Int: some value in range. No conditions. -/
import Derived.Test.YtijdlogcbnebcaaGreatD0
import Derived.Test.YtijdlogcbnebcaaGreatGGrow
import Derived.Test.YtijdlogcbnebcaaGreatGCore
namespace Go.Proofs.YtijdlogcbnebcaaGreat
open Go.RowKit
set_option linter.unusedVariables false
theorem i64_and255 (n : Int) : bits .and .i64 n 255 = n % 256 := by
  have h255 : (BitVec.ofInt 64 255).toNat = 2 ^ 8 - 1 := by decide
  have key : (BitVec.ofInt 64 n &&& BitVec.ofInt 64 255).toNat = (n % ((2 ^ 64 : Nat) : Int)).toNat % 2 ^ 8 := by
    rw [BitVec.toNat_and, BitVec.toNat_ofInt, h255, Nat.and_two_pow_sub_one_eq_mod]
  show IntKind.i64.wrap ((BitVec.ofInt 64 n &&& BitVec.ofInt 64 255).toNat : Nat) = n % 256
  rw [key, IntKind.wrap_i64]
  omega
theorem and255_in (n : Int) : 0 ≤ bits .and .i64 n 255 ∧ bits .and .i64 n 255 ≤ 255 := by rw [i64_and255]; omega
theorem tmodIn {x n : Int} (h0 : 0 ≤ x) (hn : 0 < n) : 0 ≤ x.tmod n ∧ (0 < n → x.tmod n < n) ∧ (n ≤ 0 → x.tmod n = 0) := by
  rw [Int.tmod_eq_emod_of_nonneg h0]
  exact ⟨Int.emod_nonneg _ (by omega), fun _ => Int.emod_lt_of_pos _ hn, fun h => by omega⟩
theorem emodIn {x n : Int} (hn : 0 < n) : 0 ≤ x % n ∧ (0 < n → x % n < n) ∧ (n ≤ 0 → x % n = 0) := ⟨Int.emod_nonneg _ (by omega), fun _ => Int.emod_lt_of_pos _ hn, fun h => by omega⟩
set_option maxRecDepth 100000 in
set_option maxHeartbeats 1000000 in
theorem spec_l1Byte (g : Nat) (w : World) (hc : Cur w g) : Calls Tryz.prog 69 #[.pointer (some ⟨g, 0, none⟩)] w fun e w' => ∃ x : Int, e = .returned (I x) ∧ (0 ≤ x ∧ x ≤ 255) ∧ D g w w' := by
  obtain ⟨A, n, c, i, h, bs, hb, hi, hn, hbs, -⟩ := hc
  have HB := Lib.hid hb; have HBS := Lib.hid hbs; clear hb hbs
  have hgw := HB.out.lt
  have b0 := HB.out.ext (w' := w) xe
  have lb0 := b0.lt
  obtain ⟨qb0_0, qb0_1, qb0_2⟩ := blk3 b0
  have fb0_0 := b0.frozen 0
  have fb0_1 := b0.frozen 1
  have fb0_2 := b0.frozen 2
  clear b0
  go_enter Tryz.func69, Tryz.ntmps69
  go_wp2_with fail
  generalize wrap64 (wrap64 (h * 6364136223846793005) + 1442695040888963407) = h2
  refine name_wp (fun W => Out g (g + 1) w W ∧ Blk W g 69 [.slice A n c, I i, I h2] ∧ ByteS g W (.slice A n c) bs) ⟨(Out.refl _ _ _).setCell (p := ⟨g, 2, none⟩) (Nat.le_refl _) (Nat.lt_succ_self _) _, by simpa using HB.out.set_ 2 (I h2), HBS.out.keep ByteAt.keeps (Nat.le_refl _) (fun k hk => Below.heap_setCell _ _ _ _ (by dsimp only; omega))⟩ ?_
  clear lb0 qb0_0 qb0_1 qb0_2 fb0_0 fb0_1 fb0_2
  rintro w1 ⟨ho1, hb1, hbs1⟩
  have HO1 := Lib.hid ho1; have HB1 := Lib.hid hb1; have HBS1 := Lib.hid hbs1; clear ho1 hb1 hbs1
  have hg1 := HB1.out.lt
  have b1 := HB1.out.ext (w' := w1) xe
  have lb1 := b1.lt
  obtain ⟨qb1_0, qb1_1, qb1_2⟩ := blk3 b1
  have fb1_0 := b1.frozen 0
  have fb1_1 := b1.frozen 1
  have fb1_2 := b1.frozen 2
  clear b1
  refine wp_region_L (E := Ext) (w0 := w1) (G := fun τ => match τ with | 0 => none | _ => none) Ext.refl (fun h k => Ext.trans h k) (by kernel_rfl) (by kernel_rfl) xg (Ext.drew (by exact Ext.refl _)) ?_
  repeat' (first
    | ((with_reducible refine wpL_skip ?_ ?_ ?_)
       · rfl
       · rfl
       simp only [Act.put, List.setIfInBounds_toArray, List.set_cons_zero, List.set_cons_succ])
    | ((with_reducible refine wpL_quiet ?_ ?_ ?_ ?_)
       · rfl
       · rfl
       · rfl
       apply Exists.intro
       refine ⟨fun W hW hS => ?_, ?_⟩
       · have hC := (Ext.facts hW).1
         go_simp
         first | done | (with_reducible rfl) | (rw [if_neg (by omega)]; exact ⟨rfl, rfl⟩) | rfl
       first | (with_reducible refine wpL_boolT ?_) | (with_reducible refine wpL_boolF ?_) | (with_reducible refine wpL_bool (fun hB => ?_) (fun hB => ?_)) | skip
       all_goals simp only [Act.put, List.setIfInBounds_toArray, List.set_cons_zero, List.set_cons_succ]))
  refine wpL_nil (fun w2 e2 hL => ?_)
  clear hL lb1 qb1_0 qb1_1 qb1_2 fb1_0 fb1_1 fb1_2
  obtain ⟨x0, x1⟩ := and255_in (bits BinOp.xor IntKind.i64 (h2 / 8589934592) (h2 / 140737488355328))
  generalize bits BinOp.and IntKind.i64 (bits BinOp.xor IntKind.i64 (h2 / 8589934592) (h2 / 140737488355328)) 255 = X at *
  have hg2 : g < w2.heap.size := by have := e2.size; omega
  have b2 := HB1.out.ext (w' := w2) xe
  have lb2 := b2.lt
  obtain ⟨qb2_0, qb2_1, qb2_2⟩ := blk3 b2
  have fb2_0 := b2.frozen 0
  have fb2_1 := b2.frozen 1
  have fb2_2 := b2.frozen 2
  clear b2
  have i0 : (0 : Int) ≤ (i : Int) := by omega
  by_cases hlt : i < n
  · have i1 : (i : Int) < (n : Int) := by omega
    go_wp2_with fail
    refine wp_region_L (E := Ext) (w0 := w2) (G := fun τ => match τ with | 0 => none | _ => none) Ext.refl (fun h k => Ext.trans h k) (by kernel_rfl) (by kernel_rfl) xg (Ext.drew (by exact Ext.refl _)) ?_
    repeat' (first
      | ((with_reducible refine wpL_skip ?_ ?_ ?_)
         · rfl
         · rfl
         simp only [Act.put, List.setIfInBounds_toArray, List.set_cons_zero, List.set_cons_succ])
      | ((with_reducible refine wpL_quiet ?_ ?_ ?_ ?_)
         · rfl
         · rfl
         · rfl
         apply Exists.intro
         refine ⟨fun W hW hS => ?_, ?_⟩
         · have hC := (Ext.facts hW).1
           go_simp
           first | done | (with_reducible rfl) | (rw [if_neg (by omega)]; exact ⟨rfl, rfl⟩) | rfl
         first | (with_reducible refine wpL_boolT ?_) | (with_reducible refine wpL_boolF ?_) | (with_reducible refine wpL_bool (fun hB => ?_) (fun hB => ?_)) | skip
         all_goals simp only [Act.put, List.setIfInBounds_toArray, List.set_cons_zero, List.set_cons_succ]))
    refine wpL_nil (fun w3 e3 hL => ?_)
    clear hL lb2 qb2_0 qb2_1 qb2_2 fb2_0 fb2_1 fb2_2
    have z2 := e2.size; have z3 := e3.size
    have hg3 : g < w3.heap.size := by omega
    obtain ⟨b, off, rfl, hb, hkl, hc1, hc2⟩ := HBS1.out.at_ hlt
    have hb3 : b < w3.heap.size := by omega
    have ku := (Ext.cell (a := w1) (b := w3) xe (by omega : b < w1.heap.size)).trans hc1
    have hbx : (bs[i] : Nat) < 256 := hc2
    generalize bs[i] = y at *
    have b3 := HB1.out.ext (w' := w3) xe
    have lb3 := b3.lt
    obtain ⟨qb3_0, qb3_1, qb3_2⟩ := blk3 b3
    have fb3_0 := b3.frozen 0
    have fb3_1 := b3.frozen 1
    have fb3_2 := b3.frozen 2
    clear b3
    go_wp2_with fail
    refine wp_region_L (E := Ext) (w0 := w3) (G := fun τ => match τ with | 0 => none | _ => none) Ext.refl (fun h k => Ext.trans h k) (by kernel_rfl) (by kernel_rfl) xg (Ext.drew (by exact Ext.refl _)) ?_
    repeat' (first
      | ((with_reducible refine wpL_skip ?_ ?_ ?_)
         · rfl
         · rfl
         simp only [Act.put, List.setIfInBounds_toArray, List.set_cons_zero, List.set_cons_succ])
      | ((with_reducible refine wpL_quiet ?_ ?_ ?_ ?_)
         · rfl
         · rfl
         · rfl
         apply Exists.intro
         refine ⟨fun W hW hS => ?_, ?_⟩
         · have hC := (Ext.facts hW).1
           go_simp
           first | done | (with_reducible rfl) | (rw [if_neg (by omega)]; exact ⟨rfl, rfl⟩) | rfl
         first | (with_reducible refine wpL_boolT ?_) | (with_reducible refine wpL_boolF ?_) | (with_reducible refine wpL_bool (fun hB => ?_) (fun hB => ?_)) | skip
         all_goals simp only [Act.put, List.setIfInBounds_toArray, List.set_cons_zero, List.set_cons_succ]))
    refine wpL_nil (fun w4 e4 hL => ?_)
    clear hL ku lb3 qb3_0 qb3_1 qb3_2 fb3_0 fb3_1 fb3_2
    have z4 := e4.size
    have hg4 : g < w4.heap.size := by omega
    have b4 := HB1.out.ext (w' := w4) xe
    have lb4 := b4.lt
    obtain ⟨qb4_0, qb4_1, qb4_2⟩ := blk3 b4
    have fb4_0 := b4.frozen 0
    have fb4_1 := b4.frozen 1
    have fb4_2 := b4.frozen 2
    clear b4
    go_wp2_with fail
    go_ret
    have hd : Out g (g + 1) w w4 := HO1.out.trans (Out.of_ext xe)
    refine ⟨_, rfl, and255_in _, ⟨hd.setCell (p := ⟨g, 1, none⟩) (Nat.le_refl _) (Nat.lt_succ_self _) _, fun x => ?_⟩⟩
    obtain ⟨bs', hx, hBg⟩ := x.bytes HB.out
    refine ⟨_, n, c, i + 1, h2, bs', ?_, by omega, hn, hx.keep ByteAt.keeps (Nat.le_refl _) (fun k hk => ?_), hBg⟩
    · have h9 := (HB1.out.ext (w' := w4) xe).set_ 1 (I ((i : Int) + 1))
      simpa using h9
    · rw [Below.heap_setCell _ _ _ _ (by dsimp only; omega)]
      exact (hd.block k (by omega) (.inl (by omega)))
  · have i1 : ¬ (i : Int) < (n : Int) := by omega
    go_wp2_with fail
    refine wp_region_L (E := Ext) (w0 := w2) (G := fun τ => match τ with | 0 => none | _ => none) Ext.refl (fun h k => Ext.trans h k) (by kernel_rfl) (by kernel_rfl) xg (Ext.drew (by exact Ext.refl _)) ?_
    repeat' (first
      | ((with_reducible refine wpL_skip ?_ ?_ ?_)
         · rfl
         · rfl
         simp only [Act.put, List.setIfInBounds_toArray, List.set_cons_zero, List.set_cons_succ])
      | ((with_reducible refine wpL_quiet ?_ ?_ ?_ ?_)
         · rfl
         · rfl
         · rfl
         apply Exists.intro
         refine ⟨fun W hW hS => ?_, ?_⟩
         · have hC := (Ext.facts hW).1
           go_simp
           first | done | (with_reducible rfl) | (rw [if_neg (by omega)]; exact ⟨rfl, rfl⟩) | rfl
         first | (with_reducible refine wpL_boolT ?_) | (with_reducible refine wpL_boolF ?_) | (with_reducible refine wpL_bool (fun hB => ?_) (fun hB => ?_)) | skip
         all_goals simp only [Act.put, List.setIfInBounds_toArray, List.set_cons_zero, List.set_cons_succ]))
    refine wpL_nil (fun w3 e3 hL => ?_)
    clear hL
    have z2 := e2.size; have z3 := e3.size
    go_wp2_with fail
    go_ret
    have hd : Out g (g + 1) w w3 := HO1.out.trans (Out.of_ext xe)
    refine ⟨X, rfl, ⟨x0, x1⟩, ⟨hd, fun x => ?_⟩⟩
    obtain ⟨bs', hx, hBg⟩ := x.bytes HB.out
    exact ⟨A, n, c, i, h2, bs', HB1.out.ext xe, hi, hn, hx.keep ByteAt.keeps (Nat.le_refl _) (fun k hk => hd.block k (by omega) (.inl (by omega))), hBg⟩
set_option maxRecDepth 100000 in
set_option maxHeartbeats 1000000 in
theorem spec_l1Below (g : Nat) (n : Int) (w : World) (hc : Cur w g) (hn : n ≤ 16777216) : Calls Tryz.prog 35 #[.pointer (some ⟨g, 0, none⟩), I n] w fun e w' => ∃ x : Int, e = .returned (I x) ∧ (0 ≤ x ∧ (0 < n → x < n) ∧ (n ≤ 0 → x = 0)) ∧ D g w w' := by
  have HC := Lib.hid hc; clear hc
  go_enter Tryz.func35, Tryz.ntmps35
  by_cases h0 : n ≤ 0
  · go_wp2_with fail
    go_ret
    exact ⟨0, rfl, ⟨by omega, fun h => by omega, fun _ => rfl⟩, D.refl _ _⟩
  by_cases h1 : n ≤ 256
  · go_wp2_with fail
    refine (spec_l1Byte g w HC.out).mono ?_
    rintro e w1 ⟨x, rfl, ⟨x0, x1⟩, d1⟩
    go_wp2_with fail
    go_ret
    refine ⟨_, rfl, ?_, xd⟩
    first | exact tmodIn (by omega) (by omega) | exact emodIn (by omega)
  · go_wp2_with fail
    refine (spec_l1Byte g w HC.out).mono ?_
    rintro e w1 ⟨x, rfl, ⟨x0, x1⟩, d1⟩
    go_wp2_with fail
    refine (spec_l1Byte g w1 (d1.cur HC.out)).mono ?_
    rintro e w2 ⟨y, rfl, ⟨y0, y1⟩, d2⟩
    go_wp2_with fail
    refine (spec_l1Byte g w2 (d2.cur (d1.cur HC.out))).mono ?_
    rintro e w3 ⟨z, rfl, ⟨z0, z1⟩, d3⟩
    go_wp2_with fail
    go_ret
    refine ⟨_, rfl, ?_, xd⟩
    first | exact tmodIn (by omega) (by omega) | exact emodIn (by omega)
set_option maxRecDepth 100000 in
set_option maxHeartbeats 1000000 in
theorem spec_l1Once (g : Nat) (n : Int) (w : World) (hc : Cur w g) (hn : n ≤ 16777216) : Calls Tryz.prog 16 #[.pointer (some ⟨g, 0, none⟩), I n] w fun e w' => ∃ x : Bool, e = .returned (.bool x) ∧ D g w w' := by
  go_enter Tryz.func16, Tryz.ntmps16
  go_wp2_with fail
  refine (spec_l1Below g n w hc hn).mono ?_
  rintro e w1 ⟨x, rfl, -, d1⟩
  go_wp2_with fail
  go_ret
  exact ⟨_, rfl, d1⟩
set_option maxRecDepth 100000 in
set_option maxHeartbeats 1000000 in
theorem spec_l1Int (g : Nat) (vl : Value) (l : List Int) (w : World) (hc : Cur w g) (hl : IntSO (g + 1) w.heap.size w vl l) (h0 : 0 < l.length) (hn : l.length ≤ 16777216) : Calls Tryz.prog 36 #[.pointer (some ⟨g, 0, none⟩), vl] w fun e w' => ∃ x : Int, e = .returned (I x) ∧ x ∈ l ∧ D g w w' := by
  have HC := Lib.hid hc; have HL := Lib.hid hl; clear hc
  obtain ⟨A, n, c, rfl, ln, -, mc, -⟩ := id (IntSO_rd hl)
  subst ln
  unfold maxLen at mc
  clear hl
  go_enter Tryz.func36, Tryz.ntmps36
  go_wp2_with fail
  refine (spec_l1Below g l.length w HC.out (by omega)).mono ?_
  rintro e w1 ⟨x, rfl, ⟨x0, x1, -⟩, d1⟩
  have x1 := x1 (by omega)
  obtain ⟨k, rfl⟩ : ∃ k : Nat, x = (k : Int) := ⟨x.toNat, by omega⟩
  obtain ⟨b, off, rfl, hb, hkl, hc⟩ := (IntSO_rd (HL.out.dUp d1 (by omega))).at_ (k := k) (by omega)
  have hc : w1.cell? ⟨b, off + k, none⟩ = some (I l[k]) := hc
  go_wp2_with fail
  go_ret
  exact ⟨_, rfl, List.getElem_mem _, d1⟩
set_option maxRecDepth 100000 in
set_option maxHeartbeats 1000000 in
theorem spec_l1NewB (vb : Value) (bs : List Nat) (B : Nat) (w : World) (hb : ByteS B w vb bs) (hB : B ≤ w.heap.size) (hn : bs.length ≤ 1048576) : Calls Tryz.prog 14 #[vb] w fun e w' => ∃ g : Nat, e = .returned (.pointer (some ⟨g, 0, none⟩)) ∧ w.heap.size ≤ g ∧ CurB B w' g ∧ Ext w w' := by
  obtain ⟨A, n, c, rfl, ln, -, mc, -⟩ := id hb
  subst ln
  unfold maxLen at mc
  have HB := Lib.hid hb; clear hb
  go_enter Tryz.func14, Tryz.ntmps14
  go_wp2_with fail
  go_loopw [3, 4] (fun h i wr => ∃ (k : Nat) (z : Int), k ≤ bs.length ∧ i = I k ∧ h = I z ∧ wr = w) (fun _ i _ => bs.length - (intOf i).toNat)
  case atStart => exact ⟨0, _, by omega, rfl, rfl, rfl⟩
  case round =>
    obtain ⟨k, z, hk, rfl, rfl, rfl⟩ := hrel
    by_cases hlt : k < bs.length
    · obtain ⟨b, off, rfl, hb, hkl, hc1, hc2⟩ := HB.out.at_ hlt
      generalize bs[k] = y at *
      have i0 : (0 : Int) ≤ (k : Int) := by omega
      have i1 : (k : Int) < (bs.length : Int) := by omega
      by_cases h4 : k < 4000
      · have i2 : (k : Int) < 4000 := by omega
        go_wp2_with fail
        go_roundw
        case rel => exact ⟨k + 1, _, by omega, by go_num, rfl, by trivial⟩
        case measure => simp [intOf]; omega
      · have i2 : ¬ (k : Int) < 4000 := by omega
        go_wp2_with fail
        go_ret
        exact ⟨_, rfl, by simp, ⟨_, _, c, 0, z, bs, by simpa using Blk.new _ 69 [.slice (some ⟨b, off, none⟩) bs.length c, I 0, I z], by omega, hn, HB.out.keep ByteAt.keeps (Nat.le_refl _) (fun j hj => Below.heap_alloc _ _ _ (by omega)), by simpa using hB⟩, xe⟩
    · have i1 : ¬ (k : Int) < (bs.length : Int) := by omega
      go_wp2_with fail
      go_ret
      exact ⟨_, rfl, by simp, ⟨_, _, c, 0, z, bs, by simpa using Blk.new _ 69 [.slice A bs.length c, I 0, I z], by omega, hn, HB.out.keep ByteAt.keeps (Nat.le_refl _) (fun j hj => Below.heap_alloc _ _ _ (by omega)), by simpa using hB⟩, xe⟩
theorem spec_l1New (vb : Value) (bs : List Nat) (w : World) (hb : ByteS w.heap.size w vb bs) (hn : bs.length ≤ 1048576) : Calls Tryz.prog 14 #[vb] w fun e w' => ∃ g : Nat, e = .returned (.pointer (some ⟨g, 0, none⟩)) ∧ w.heap.size ≤ g ∧ Cur w' g ∧ Ext w w' := by
  refine (spec_l1NewB vb bs _ w hb (Nat.le_refl _) hn).mono ?_
  rintro e w1 ⟨g, rfl, h1, h2, h3⟩
  exact ⟨g, rfl, h1, h2.cur, h3⟩
end Go.Proofs.YtijdlogcbnebcaaGreat
