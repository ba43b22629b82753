/- Words for draws: a cursor over bytes, which calls turn, and what stays beside it. No conditions. -/
import Derived.Test.YtmopmgaeiokfjaaGreatGCore
import Derived.Test.YtmopmgaeiokfjaaGreatGGrow
import Derived.Laws.BitsAllLaws
import Derived.Laws.Bits128
import Derived.Test.YtmopmgaeiokfjaaGreatGHT
import Derived.Test.YtmopmgaeiokfjaaGreatGL5
set_option maxRecDepth 100000
set_option maxHeartbeats 1000000
namespace Go.Proofs.YtmopmgaeiokfjaaGreat
open Go.RowKit
set_option linter.unusedVariables false
def ByteAt (_B : Nat) (w : World) (b o : Nat) (x : Nat) : Prop := w.cell? ⟨b, o, none⟩ = some (.int .u8 (x : Int)) ∧ x < 256
theorem ByteAt.keeps : Keeps ByteAt := fun _ _ _ _ _ _ _ _ hs hb h => ⟨(hs.cell hb).trans h.1, h.2⟩
abbrev ByteS := Sl ByteAt (fun k => k)
def CurB (B : Nat) (w : World) (g : Nat) : Prop := ∃ (A : Option Addr) (n c i : Nat) (h : Int) (bs : List Nat), Blk w g 94 [.slice A n c, I i, I h] ∧ i ≤ n ∧ n ≤ 1048576 ∧ ByteS B w (.slice A n c) bs ∧ B ≤ g
abbrev Cur (w : World) (g : Nat) : Prop := CurB g w g
theorem CurB.lt {B : Nat} {w : World} {g : Nat} (h : CurB B w g) : g < w.heap.size := by
 obtain ⟨A, n, c, i, h, bs, hb, _⟩ := h;exact hb.lt
theorem CurB.keep {B : Nat} {w w' : World} {g : Nat} (h : CurB B w g) (hg : w'.heap[g]? = w.heap[g]?) (hs : ∀ k, k < B → w'.heap[k]? = w.heap[k]?) : CurB B w' g := by
 obtain ⟨A, n, c, i, h, bs, hb, h1, h2, h3, h4⟩ := h;exact ⟨A, n, c, i, h, bs, hg.trans hb, h1, h2, h3.keep ByteAt.keeps (Nat.le_refl _) fun k hk => hs k hk, h4⟩
theorem CurB.all {B : Nat} {w w' : World} {g : Nat} (h : CurB B w g) (hs : ∀ k, k ≤ g → w'.heap[k]? = w.heap[k]?) : CurB B w' g := by
 have hB : B ≤ g := by obtain ⟨A, n, c, i, h, bs, _, _, _, _, h4⟩ := h; exact h4
 exact h.keep (hs g (Nat.le_refl _)) fun k hk => hs k (by omega)
theorem CurB.cur {B : Nat} {w : World} {g : Nat} (h : CurB B w g) : Cur w g := by
 obtain ⟨A, n, c, i, h, bs, hb, h1, h2, h3, h4⟩ := h;exact ⟨A, n, c, i, h, bs, hb, h1, h2, h3.keep ByteAt.keeps h4 fun k hk => rfl, Nat.le_refl _⟩
theorem CurB.bytes {B : Nat} {w : World} {g : Nat} (x : CurB B w g) {A : Option Addr} {n c i : Nat} {h : Int} (hb : Blk w g 94 [.slice A n c, I i, I h]) : ∃ bs, ByteS B w (.slice A n c) bs ∧ B ≤ g := by
 obtain ⟨A', n', c', i', h', bs, hb', h1, h2, h3, h4⟩ := x;have e := Option.some.inj (hb'.symm.trans hb);have e2 : ([.slice A' n' c', I i', I h'] : List Value).toArray = [.slice A n c, I i, I h].toArray := (Obj.cells.inj e).1;have e3 := congrArg Array.toList e2;simp only [List.cons.injEq, Value.slice.injEq] at e3;obtain ⟨⟨rfl, rfl, rfl⟩, -⟩ := e3;exact ⟨bs, h3, h4⟩
structure D (g : Nat) (a b : World) : Prop where
 out : Out g (g + 1) a b
 cur : ∀ {B : Nat}, CurB B a g → CurB B b g
section
variable {g : Nat} {a b c w w' : World}
theorem D.refl (g : Nat) (a : World) : D g a a := ⟨Out.refl _ _ _, fun h => h⟩
theorem D.trans (h : D g a b) (k : D g b c) : D g a c := ⟨h.out.trans k.out, fun x => k.cur (h.cur x)⟩
theorem D.size (h : D g a b) : a.heap.size ≤ b.heap.size := h.out.size
theorem D.block (h : D g a b) {k : Nat} (hk : k < a.heap.size) (hn : k ≠ g) : b.heap[k]? = a.heap[k]? := h.out.block k hk (by omega)
theorem D.cell (h : D g a b) {k o : Nat} (hk : k < a.heap.size) (hn : k ≠ g) : b.cell? ⟨k, o, none⟩ = a.cell? ⟨k, o, none⟩ := World.cell?_of_block (w := a) (a := ⟨k, o, none⟩) (h.block hk hn)
theorem frozen_of_block {w w' : World} {k o : Nat} (h : w'.heap[k]? = w.heap[k]?) : w'.frozen? ⟨k, o, none⟩ = w.frozen? ⟨k, o, none⟩ := by
 simp only [World.frozen?, h]
theorem D.facts (h : D g a b) : (∀ k o, k < a.heap.size → k ≠ g → b.cell? ⟨k, o, none⟩ = a.cell? ⟨k, o, none⟩) ∧ (∀ k o, k < a.heap.size → k ≠ g → b.frozen? ⟨k, o, none⟩ = a.frozen? ⟨k, o, none⟩) ∧ a.heap.size ≤ b.heap.size :=
 ⟨fun _ _ hk hn => h.cell hk hn, fun _ _ hk hn => frozen_of_block (h.block hk hn), h.size⟩
theorem D.of_ext (h : Ext a b) (hg : g < a.heap.size) : D g a b := ⟨Out.of_ext h, fun x => x.all fun k hk => h.same k (by omega)⟩
theorem D.alloc (h : D g a w) (hg : g < a.heap.size) (o : Obj) : D g a (w.alloc o) := h.trans (D.of_ext ((Ext.refl _).alloc o) (Nat.lt_of_lt_of_le hg h.size))
theorem D.drew (h : D g a w) : D g a w.drew := ⟨⟨h.out.os, h.out.tape, h.out.output, h.out.size, h.out.block⟩, fun x => (h.cur x).all fun _ _ => rfl⟩
theorem D.setNew (h : D g a w) (hg : g < a.heap.size) {p : Addr} (hp : a.heap.size ≤ p.block) (u : Value) : D g a (w.setCell p u) := by
 refine ⟨⟨h.out.os, h.out.tape, h.out.output, by simp only [World.size_setCell]; exact h.out.size, fun k hk hn => ?_⟩, fun x => (h.cur x).all fun k hk => Below.heap_setCell _ _ _ _ (by omega)⟩;rw [Below.heap_setCell _ _ _ _ (by omega)];exact h.out.block k hk hn
theorem D.grown {row : Option Nat} (h : D g a w) (hg : g < a.heap.size) (hw : w.grownBy b row) (hr : ∀ k, row = some k → a.heap.size ≤ k) : D g a b := by
 have hb : Below a.heap.size w b := Below.grown (Below.refl _ _) hw h.size hr;refine ⟨⟨hb.os.trans h.out.os, hb.tape.trans h.out.tape, hb.output.trans h.out.output, Nat.le_trans h.size hb.size, fun k hk hn => (hb.block k hk).trans (h.out.block k hk hn)⟩, fun x => (h.cur x).all fun k hk => hb.block k (by omega)⟩
theorem D.ext (h : D g b c) (hb : Ext a b) (hg : a.heap.size ≤ g) : Ext a c := by
 have h1 : Below a.heap.size b c := ⟨h.out.os, h.out.tape, h.out.output, h.size, fun k hk => h.block (Nat.lt_of_lt_of_le hk hb.size) (by omega)⟩
 have h2 : Below a.heap.size a b := hb.below;unfold Ext;exact Below.trans h2 h1
theorem Blk.d {k : Nat} {t : TypeId} {cs : List Value} (h : Blk w k t cs) (hd : D g w w') (hn : k ≠ g) : Blk w' k t cs := (hd.block h.lt hn).trans h
theorem Own.d {E sz lo hi n : Nat} {v : Value} {cs : List Value} (h : Own E sz lo hi w v n cs) (hd : D g w w') (hg : g < lo) : Own E sz lo hi w' v n cs := h.keep fun k h1 _ h3 => hd.block h3 (by omega)
theorem Own.dUp {E sz lo n : Nat} {v : Value} {cs : List Value} (h : Own E sz lo w.heap.size w v n cs) (hd : D g w w') (hg : g < lo) : Own E sz lo w'.heap.size w' v n cs := (h.d hd hg).more (Nat.le_refl _) hd.size
end
theorem xd {g : Nat} {a b : World} (h : D g a b := by repeat (first | (with_reducible exact D.refl _ _) | (with_reducible assumption) | (with_reducible refine D.alloc ?_ (by omega) _) | (with_reducible refine D.drew ?_) | (with_reducible refine D.setNew (p := _) ?_ (by omega) ?ge _; case ge => (dsimp only; omega)) | (with_reducible refine D.trans ?_ (by with_reducible assumption)) | (with_reducible refine D.trans ?_ (D.of_ext (by with_reducible assumption) (by omega))))) : D g a b := h
theorem i64_and255 (n : Int) : bits .and .i64 n 255 = n % 256 := by
 have h255 : (BitVec.ofInt 64 255).toNat = 2 ^ 8 - 1 := by decide
 have key : (BitVec.ofInt 64 n &&& BitVec.ofInt 64 255).toNat = (n % ((2 ^ 64 : Nat) : Int)).toNat % 2 ^ 8 := by
  rw [BitVec.toNat_and, BitVec.toNat_ofInt, h255, Nat.and_two_pow_sub_one_eq_mod]
 show IntKind.i64.wrap ((BitVec.ofInt 64 n &&& BitVec.ofInt 64 255).toNat : Nat) = n % 256;rw [key, IntKind.wrap_i64];omega
theorem and255_in (n : Int) : 0 ≤ bits .and .i64 n 255 ∧ bits .and .i64 n 255 ≤ 255 := by rw [i64_and255]; omega
theorem tmodIn {x n : Int} (h0 : 0 ≤ x) (hn : 0 < n) : 0 ≤ x.tmod n ∧ (0 < n → x.tmod n < n) ∧ (n ≤ 0 → x.tmod n = 0) := by
 rw [Int.tmod_eq_emod_of_nonneg h0];exact ⟨Int.emod_nonneg _ (by omega), fun _ => Int.emod_lt_of_pos _ hn, fun h => by omega⟩
theorem emodIn {x n : Int} (hn : 0 < n) : 0 ≤ x % n ∧ (0 < n → x % n < n) ∧ (n ≤ 0 → x % n = 0) := ⟨Int.emod_nonneg _ (by omega), fun _ => Int.emod_lt_of_pos _ hn, fun h => by omega⟩
theorem spec_l1Byte (g : Nat) (w : World) (hc : Cur w g) : Calls Tryz.prog 75 #[.pointer (some ⟨g, 0, none⟩)] w fun e w' => ∃ x : Int, e = .returned (I x) ∧ (0 ≤ x ∧ x ≤ 255) ∧ D g w w' := by
 obtain ⟨A, n, c, i, h, bs, hb, hi, hn, hbs, -⟩ := hc;have HB := Lib.hid hb; have HBS := Lib.hid hbs; clear hb hbs;have hgw := HB.out.lt;have b0 := HB.out.ext (w' := w) xe;have lb0 := b0.lt;obtain ⟨qb0_0, qb0_1, qb0_2⟩ := blk3 b0;have fb0_0 := b0.frozen 0;have fb0_1 := b0.frozen 1;have fb0_2 := b0.frozen 2;clear b0
 go_enter Tryz.func75, Tryz.ntmps75
 go_wp2_with fail
 generalize wrap64 (wrap64 (h * 6364136223846793005) + 1442695040888963407) = h2;refine name_wp (fun W => Out g (g + 1) w W ∧ Blk W g 94 [.slice A n c, I i, I h2] ∧ ByteS g W (.slice A n c) bs) ⟨(Out.refl _ _ _).setCell (p := ⟨g, 2, none⟩) (Nat.le_refl _) (Nat.lt_succ_self _) _, by simpa using HB.out.set_ 2 (I h2), HBS.out.keep ByteAt.keeps (Nat.le_refl _) (fun k hk => Below.heap_setCell _ _ _ _ (by dsimp only; omega))⟩ ?_;clear lb0 qb0_0 qb0_1 qb0_2 fb0_0 fb0_1 fb0_2;rintro w1 ⟨ho1, hb1, hbs1⟩;have HO1 := Lib.hid ho1; have HB1 := Lib.hid hb1; have HBS1 := Lib.hid hbs1; clear ho1 hb1 hbs1;have hg1 := HB1.out.lt;have b1 := HB1.out.ext (w' := w1) xe;have lb1 := b1.lt;obtain ⟨qb1_0, qb1_1, qb1_2⟩ := blk3 b1;have fb1_0 := b1.frozen 0;have fb1_1 := b1.frozen 1;have fb1_2 := b1.frozen 2;clear b1;refine wp_region_L (E := Ext) (w0 := w1) (G := fun τ => match τ with | 0 => none | _ => none) Ext.refl (fun h k => Ext.trans h k) (by kernel_rfl) (by kernel_rfl) xg (Ext.drew (by exact Ext.refl _)) ?_
 repeat' (first
  | ((with_reducible refine wpL_skip ?_ ?_ ?_)
     · rfl
     · rfl
     simp only [putS])
  | ((with_reducible refine wpL_quiet ?_ ?_ ?_ ?_)
     · rfl
     · rfl
     · rfl
     apply Exists.intro
     refine ⟨fun W hW hS => ?_, ?_⟩
     · have hC := (Ext.facts hW).1
       go_simp
       first | done | (with_reducible rfl) | (rw [if_neg (by omega)]; exact ⟨rfl, rfl⟩) | rfl
     first | (with_reducible refine wpL_boolT ?_) | (with_reducible refine wpL_boolF ?_) | (with_reducible refine wpL_bool (fun hB => ?_) (fun hB => ?_)) | skip
     all_goals simp only [putS]))
 refine wpL_nil (fun w2 e2 hL => ?_);clear hL lb1 qb1_0 qb1_1 qb1_2 fb1_0 fb1_1 fb1_2;obtain ⟨x0, x1⟩ := and255_in (bits BinOp.xor IntKind.i64 (h2 / 8589934592) (h2 / 140737488355328))
 generalize bits BinOp.and IntKind.i64 (bits BinOp.xor IntKind.i64 (h2 / 8589934592) (h2 / 140737488355328)) 255 = X at *
 have hg2 : g < w2.heap.size := by have := e2.size; omega
 have b2 := HB1.out.ext (w' := w2) xe;have lb2 := b2.lt;obtain ⟨qb2_0, qb2_1, qb2_2⟩ := blk3 b2;have fb2_0 := b2.frozen 0;have fb2_1 := b2.frozen 1;have fb2_2 := b2.frozen 2;clear b2
 have i0 : (0 : Int) ≤ (i : Int) := by omega
 by_cases hlt : i < n
 · have i1 : (i : Int) < (n : Int) := by omega
   go_wp2_with fail
   refine wp_region_L (E := Ext) (w0 := w2) (G := fun τ => match τ with | 0 => none | _ => none) Ext.refl (fun h k => Ext.trans h k) (by kernel_rfl) (by kernel_rfl) xg (Ext.drew (by exact Ext.refl _)) ?_
   repeat' (first
    | ((with_reducible refine wpL_skip ?_ ?_ ?_)
       · rfl
       · rfl
       simp only [putS])
    | ((with_reducible refine wpL_quiet ?_ ?_ ?_ ?_)
       · rfl
       · rfl
       · rfl
       apply Exists.intro
       refine ⟨fun W hW hS => ?_, ?_⟩
       · have hC := (Ext.facts hW).1
         go_simp
         first | done | (with_reducible rfl) | (rw [if_neg (by omega)]; exact ⟨rfl, rfl⟩) | rfl
       first | (with_reducible refine wpL_boolT ?_) | (with_reducible refine wpL_boolF ?_) | (with_reducible refine wpL_bool (fun hB => ?_) (fun hB => ?_)) | skip
       all_goals simp only [putS]))
   refine wpL_nil (fun w3 e3 hL => ?_);clear hL lb2 qb2_0 qb2_1 qb2_2 fb2_0 fb2_1 fb2_2;have z2 := e2.size; have z3 := e3.size
   have hg3 : g < w3.heap.size := by omega
   obtain ⟨b, off, rfl, hb, hkl, hc1, hc2⟩ := HBS1.out.at_ hlt
   have hb3 : b < w3.heap.size := by omega
   have ku := (Ext.cell (a := w1) (b := w3) xe (by omega : b < w1.heap.size)).trans hc1;have hbx : (bs[i] : Nat) < 256 := hc2
   generalize bs[i] = y at *
   have b3 := HB1.out.ext (w' := w3) xe;have lb3 := b3.lt;obtain ⟨qb3_0, qb3_1, qb3_2⟩ := blk3 b3;have fb3_0 := b3.frozen 0;have fb3_1 := b3.frozen 1;have fb3_2 := b3.frozen 2;clear b3;go_wp2_with fail
   refine wp_region_L (E := Ext) (w0 := w3) (G := fun τ => match τ with | 0 => none | _ => none) Ext.refl (fun h k => Ext.trans h k) (by kernel_rfl) (by kernel_rfl) xg (Ext.drew (by exact Ext.refl _)) ?_
   repeat' (first
    | ((with_reducible refine wpL_skip ?_ ?_ ?_)
       · rfl
       · rfl
       simp only [putS])
    | ((with_reducible refine wpL_quiet ?_ ?_ ?_ ?_)
       · rfl
       · rfl
       · rfl
       apply Exists.intro
       refine ⟨fun W hW hS => ?_, ?_⟩
       · have hC := (Ext.facts hW).1
         go_simp
         first | done | (with_reducible rfl) | (rw [if_neg (by omega)]; exact ⟨rfl, rfl⟩) | rfl
       first | (with_reducible refine wpL_boolT ?_) | (with_reducible refine wpL_boolF ?_) | (with_reducible refine wpL_bool (fun hB => ?_) (fun hB => ?_)) | skip
       all_goals simp only [putS]))
   refine wpL_nil (fun w4 e4 hL => ?_);clear hL ku lb3 qb3_0 qb3_1 qb3_2 fb3_0 fb3_1 fb3_2;have z4 := e4.size
   have hg4 : g < w4.heap.size := by omega
   have b4 := HB1.out.ext (w' := w4) xe;have lb4 := b4.lt;obtain ⟨qb4_0, qb4_1, qb4_2⟩ := blk3 b4;have fb4_0 := b4.frozen 0;have fb4_1 := b4.frozen 1;have fb4_2 := b4.frozen 2;clear b4;go_wp2_with fail
   go_ret
   have hd : Out g (g + 1) w w4 := HO1.out.trans (Out.of_ext xe);refine ⟨_, rfl, and255_in _, ⟨hd.setCell (p := ⟨g, 1, none⟩) (Nat.le_refl _) (Nat.lt_succ_self _) _, fun x => ?_⟩⟩;obtain ⟨bs', hx, hBg⟩ := x.bytes HB.out;refine ⟨_, n, c, i + 1, h2, bs', ?_, by omega, hn, hx.keep ByteAt.keeps (Nat.le_refl _) (fun k hk => ?_), hBg⟩
   · have h9 := (HB1.out.ext (w' := w4) xe).set_ 1 (I ((i : Int) + 1))
     simpa using h9
   · rw [Below.heap_setCell _ _ _ _ (by dsimp only; omega)]
     exact (hd.block k (by omega) (.inl (by omega)))
 · have i1 : ¬ (i : Int) < (n : Int) := by omega
   go_wp2_with fail
   refine wp_region_L (E := Ext) (w0 := w2) (G := fun τ => match τ with | 0 => none | _ => none) Ext.refl (fun h k => Ext.trans h k) (by kernel_rfl) (by kernel_rfl) xg (Ext.drew (by exact Ext.refl _)) ?_
   repeat' (first
    | ((with_reducible refine wpL_skip ?_ ?_ ?_)
       · rfl
       · rfl
       simp only [putS])
    | ((with_reducible refine wpL_quiet ?_ ?_ ?_ ?_)
       · rfl
       · rfl
       · rfl
       apply Exists.intro
       refine ⟨fun W hW hS => ?_, ?_⟩
       · have hC := (Ext.facts hW).1
         go_simp
         first | done | (with_reducible rfl) | (rw [if_neg (by omega)]; exact ⟨rfl, rfl⟩) | rfl
       first | (with_reducible refine wpL_boolT ?_) | (with_reducible refine wpL_boolF ?_) | (with_reducible refine wpL_bool (fun hB => ?_) (fun hB => ?_)) | skip
       all_goals simp only [putS]))
   refine wpL_nil (fun w3 e3 hL => ?_);clear hL;have z2 := e2.size; have z3 := e3.size;go_wp2_with fail
   go_ret
   have hd : Out g (g + 1) w w3 := HO1.out.trans (Out.of_ext xe);refine ⟨X, rfl, ⟨x0, x1⟩, ⟨hd, fun x => ?_⟩⟩;obtain ⟨bs', hx, hBg⟩ := x.bytes HB.out;exact ⟨A, n, c, i, h2, bs', HB1.out.ext xe, hi, hn, hx.keep ByteAt.keeps (Nat.le_refl _) (fun k hk => hd.block k (by omega) (.inl (by omega))), hBg⟩
theorem spec_l1Below (g : Nat) (n : Int) (w : World) (hc : Cur w g) (hn : n ≤ 16777216) : Calls Tryz.prog 38 #[.pointer (some ⟨g, 0, none⟩), I n] w fun e w' => ∃ x : Int, e = .returned (I x) ∧ (0 ≤ x ∧ (0 < n → x < n) ∧ (n ≤ 0 → x = 0)) ∧ D g w w' := by
 have HC := Lib.hid hc; clear hc
 go_enter Tryz.func38, Tryz.ntmps38
 by_cases h0 : n ≤ 0
 · go_wp2_with fail
   go_ret
   exact ⟨0, rfl, ⟨by omega, fun h => by omega, fun _ => rfl⟩, D.refl _ _⟩
 by_cases h1 : n ≤ 256
 · go_wp2_with fail
   refine (spec_l1Byte g w HC.out).mono ?_;rintro e w1 ⟨x, rfl, ⟨x0, x1⟩, d1⟩;go_wp2_with fail
   go_ret
   refine ⟨_, rfl, ?_, xd⟩
   first | exact tmodIn (by omega) (by omega) | exact emodIn (by omega)
 · go_wp2_with fail
   refine (spec_l1Byte g w HC.out).mono ?_;rintro e w1 ⟨x, rfl, ⟨x0, x1⟩, d1⟩;go_wp2_with fail
   refine (spec_l1Byte g w1 (d1.cur HC.out)).mono ?_;rintro e w2 ⟨y, rfl, ⟨y0, y1⟩, d2⟩;go_wp2_with fail
   refine (spec_l1Byte g w2 (d2.cur (d1.cur HC.out))).mono ?_;rintro e w3 ⟨z, rfl, ⟨z0, z1⟩, d3⟩;go_wp2_with fail
   go_ret
   refine ⟨_, rfl, ?_, xd⟩
   first | exact tmodIn (by omega) (by omega) | exact emodIn (by omega)
theorem spec_l1Once (g : Nat) (n : Int) (w : World) (hc : Cur w g) (hn : n ≤ 16777216) : Calls Tryz.prog 33 #[.pointer (some ⟨g, 0, none⟩), I n] w fun e w' => ∃ x : Bool, e = .returned (.bool x) ∧ D g w w' := by
 go_enter Tryz.func33, Tryz.ntmps33
 go_wp2_with fail
 refine (spec_l1Below g n w hc hn).mono ?_;rintro e w1 ⟨x, rfl, -, d1⟩;go_wp2_with fail
 go_ret
 exact ⟨_, rfl, d1⟩
theorem spec_l1NewB (vb : Value) (bs : List Nat) (B : Nat) (w : World) (hb : ByteS B w vb bs) (hB : B ≤ w.heap.size) (hn : bs.length ≤ 1048576) : Calls Tryz.prog 30 #[vb] w fun e w' => ∃ g : Nat, e = .returned (.pointer (some ⟨g, 0, none⟩)) ∧ w.heap.size ≤ g ∧ CurB B w' g ∧ Ext w w' := by
 obtain ⟨A, n, c, rfl, ln, -, mc, -⟩ := id hb;subst ln;unfold maxLen at mc;have HB := Lib.hid hb; clear hb
 go_enter Tryz.func30, Tryz.ntmps30
 go_wp2_with fail
 go_loopw [3, 4] (fun h i wr => ∃ (k : Nat) (z : Int), k ≤ bs.length ∧ i = I k ∧ h = I z ∧ wr = w) (fun _ i _ => bs.length - (intOf i).toNat)
 case atStart => exact ⟨0, _, by omega, rfl, rfl, rfl⟩
 case round =>
  obtain ⟨k, z, hk, rfl, rfl, rfl⟩ := hrel;by_cases hlt : k < bs.length
  · obtain ⟨b, off, rfl, hb, hkl, hc1, hc2⟩ := HB.out.at_ hlt
    generalize bs[k] = y at *
    have i0 : (0 : Int) ≤ (k : Int) := by omega
    have i1 : (k : Int) < (bs.length : Int) := by omega
    by_cases h4 : k < 4000
    · have i2 : (k : Int) < 4000 := by omega
      go_wp2_with fail
      go_roundw
      case rel => exact ⟨k + 1, _, by omega, by go_num, rfl, by trivial⟩
      case measure => simp [intOf]; omega
    · have i2 : ¬ (k : Int) < 4000 := by omega
      go_wp2_with fail
      go_ret
      exact ⟨_, rfl, by simp, ⟨_, _, c, 0, z, bs, by simpa using Blk.new _ 94 [.slice (some ⟨b, off, none⟩) bs.length c, I 0, I z], by omega, hn, HB.out.keep ByteAt.keeps (Nat.le_refl _) (fun j hj => Below.heap_alloc _ _ _ (by omega)), by simpa using hB⟩, xe⟩
  · have i1 : ¬ (k : Int) < (bs.length : Int) := by omega
    go_wp2_with fail
    go_ret
    exact ⟨_, rfl, by simp, ⟨_, _, c, 0, z, bs, by simpa using Blk.new _ 94 [.slice A bs.length c, I 0, I z], by omega, hn, HB.out.keep ByteAt.keeps (Nat.le_refl _) (fun j hj => Below.heap_alloc _ _ _ (by omega)), by simpa using hB⟩, xe⟩
theorem size_int (W : World) : (sizeOf (Tryz.prog.elem 96)).run Tryz.prog W = .ok 1 W := by
 have e : Tryz.prog.elem 96 = 3 := by kernel_rfl
 rw [e]
 have h5 : Tryz.prog.cellsOf 3 = 1 := by kernel_rfl
 first | (simp; done) | simp [h5]
theorem onAt_app {P : Program} {o : Oper} {a : Act} {w : World} {ψ : Value → World → Prop} (lo : Nat) (s x : Operand) (t : TypeId)
 (ho : o.op = .call { callee := .builtin .append, args := #[s, x], argTypes := #[t, t] })
 (E : TypeId) (z : Value) (sz bytes : Nat) (ht : P.underlying t = some (.slice E)) (hinfo : (P.info? E).map (fun i => (i.zero, i.size, i.bytes)) = some (some z, sz, bytes)) (hzs : z.cells.size = sz) (hsz : 0 < sz)
 (v : Value) (n : Nat) (xs : List Value) (hs : a.eval s = v) (A : Option Addr) (m c : Nat) (news : List Value) (hx : a.eval x = .slice A m c)
 (hown : Own E sz lo w.heap.size w v n xs) (hr : Row w sz A m news) (h1 : ∀ u ∈ news, u.oneCell' = true) (hlo : lo ≤ w.heap.size)
 (h63 : n + m ≤ maxLen) (hbytes : (n + m) * bytes ≤ 140737488355328)
 (h : ∀ v' w', Own E sz lo w'.heap.size w' v' (n + m) (xs ++ news) → w.grownBy w' v.ownBlock → ψ v' w') : OnAt P o a ψ w := by
 obtain ⟨i0, hi0, hz0, hz1, hz2⟩ := info_parts hinfo;obtain ⟨v', w', hrun, h2', hg, _⟩ := run_append_any (P := P) w lo t o.type E i0 z sz bytes ht hi0 hz0 hz1 hz2 hzs hsz v n xs hown.1 A m c news hr h1 h63 hbytes hlo;refine ⟨v', w', ?_, h v' w' ⟨h2', fun k hk => (h2'.lt k hk).2⟩ hg⟩;unfold execOp;simp only [ho, resolve, invoke, builtin, Sem.run_bind, Sem.run_pure, Result.andThen_ok, List.map_toArray, List.map_cons, List.map_nil, hs, hx, hrun]
theorem row_pre {B : Nat} {w : World} {A : Option Addr} {n c : Nat} {l : List Int} (h : IntS B w (.slice A n c) l) (k : Nat) (hk : k ≤ n) : Row w 1 A k ((l.take k).map I) := by
 have hr := row_ints h;have hl := h.len.1;refine ⟨by rw [List.length_map, List.length_take]; omega, fun h0 => ?_⟩;obtain ⟨ad, e, hat⟩ := hr.2 (by omega);refine ⟨ad, e, fun j u hu => hat j u ?_⟩;rw [List.getElem?_map] at hu ⊢;rw [List.getElem?_take] at hu;split at hu
 · exact hu
 · simp at hu
theorem row_suf {B : Nat} {w : World} {A : Option Addr} {n c : Nat} {l : List Int} (h : IntS B w (.slice A n c) l) (k : Nat) (hk : k ≤ n) : Row w 1 (if c = k then A else A.map (fun x => x.add (k * 1))) (n - k) ((l.drop k).map I) := by
 obtain ⟨hl, hc, _⟩ := h.len;refine ⟨by rw [List.length_map, List.length_drop]; omega, fun h0 => ?_⟩;obtain ⟨b, off, e, _, hj, _⟩ := h.at_ (k := k) (by omega);subst e;refine ⟨⟨b, off + k, none⟩, ?_, fun j u hu => ?_⟩
 · rw [if_neg (by omega), Option.map_some, add_none, Nat.mul_one]
 · rw [List.getElem?_map, List.getElem?_drop] at hu
   have hkj : k + j < l.length := by
    rcases Nat.lt_or_ge (k + j) l.length with h1 | h1
    · exact h1
    · rw [List.getElem?_eq_none h1] at hu; simp at hu
   obtain ⟨b', off', e', _, hj', hcell⟩ := h.at_ (k := k + j) (by omega);cases e';rw [add_none, Nat.add_assoc];rw [List.getElem?_eq_getElem hkj] at hu
   have hu : I l[k + j] = u := by simpa using hu
   rw [← hu];exact hcell
theorem row_suf_some {B : Nat} {w : World} {b off n c : Nat} {l : List Int} (h : IntS B w (.slice (some ⟨b, off, none⟩) n c) l) (k : Nat) (hk : k < n) : Row w 1 (some ⟨b, off + k, none⟩) (n - k) ((l.drop k).map I) := by
 have h2 := row_suf h k (by omega);obtain ⟨_, hc, _⟩ := h.len;rw [if_neg (by omega), Option.map_some, add_none, Nat.mul_one] at h2;exact h2
theorem row_suf_nil {B : Nat} {w : World} {A A' : Option Addr} {n c : Nat} {l : List Int} (h : IntS B w (.slice A n c) l) (k : Nat) (hk : n ≤ k) : Row w 1 A' (n - k) ((l.drop k).map I) := by
 obtain ⟨hl, _, _⟩ := h.len;exact ⟨by rw [List.length_map, List.length_drop]; omega, fun h0 => by omega⟩
theorem row_nil0 {w : World} {A : Option Addr} (l : List Int) : Row w 1 A 0 ((l.drop l.length).map I) := ⟨by simp, fun h => by omega⟩
theorem spec_l5Put (vl : Value) (n : Int) (l : List Int) (w : World) (hl : IntS w.heap.size w vl l) (hn : l.length ≤ 100000) : Calls Tryz.prog 138 #[vl, I n] w fun e w' => ∃ v', e = .returned v' ∧ (∃ l' : List Int, IntS w'.heap.size w' v' l' ∧ l'.length ≤ l.length + 1) ∧ Ext w w' := by
 obtain ⟨Al, nl, cl, rfl, ll, kl, ml, -⟩ := id hl;subst ll;unfold maxLen at ml;have Rl := Lib.hid hl; clear hl
 go_enter Tryz.func138, Tryz.ntmps138
 go_wp2_with fail
 go_loopw [5] (fun i wr => ∃ k : Nat, k ≤ l.length ∧ i = I k ∧ wr = w) (fun i _ => l.length - (intOf i).toNat)
 case atStart => exact ⟨0, by omega, rfl, rfl⟩
 case round =>
  obtain ⟨k, hk, rfl, rfl⟩ := hrel
  have i0 : (0 : Int) ≤ (k : Int) := by omega
  by_cases hlt : k < l.length
  · obtain ⟨b, off, hA, hb, hkl, hc⟩ := Rl.out.at_ hlt
    have hc : wr.cell? ⟨b, off + k, none⟩ = some (I l[k]) := hc
    generalize l[k] = y at *
    subst hA
    have i1 : (k : Int) < (l.length : Int) := by omega
    have i2 : (k : Int) ≤ (cl : Int) := by omega
    have i3 : (k : Int) ≤ (l.length : Int) := by omega
    by_cases hy : y < n
    · go_wp2_with fail
      go_roundw
      case rel => exact ⟨k + 1, by omega, by go_num, by trivial⟩
      case measure => simp [intOf]; omega
    by_cases hq : y = n
    · subst hq
      go_wp2_with fail
      go_ret
      exact ⟨_, rfl, ⟨l, Rl.out, by omega⟩, xe⟩
    · have d1 : (y == n) = false := beq_eq_false_iff_ne.2 hq
      go_wp2_with fail
      clear d1;refine wp_region_LS 7 11 _ (E := Ext) (w0 := wr) (G := fun τ => match τ with | 39 => some (fun v W => Fresh1 3 wr.heap.size [I n] v W) | 37 => some (fun v W => Own 3 1 wr.heap.size W.heap.size W v k ((l.take k).map I)) | 33 => some (fun v W => Fresh0 3 wr.heap.size v W) | _ => none)  Ext.refl (fun h k => Ext.trans h k) (by kernel_rfl) (by kernel_rfl) rfl rfl (by kernel_rfl) (by kernel_rfl) (by kernel_rfl) (by kernel_rfl) (by kernel_rfl) (by kernel_rfl) (by kernel_rfl) (by kernel_rfl) (by intro oi hoi; simp only [List.take_succ_cons, List.take_zero, List.drop_succ_cons, List.drop_zero, List.mem_cons, List.not_mem_nil, or_false] at hoi; rcases hoi with rfl | rfl | rfl; (· exact ⟨rfl, rfl, by kernel_rfl, pure_move rfl⟩); (· exact ⟨rfl, rfl, by kernel_rfl, pure_move rfl⟩); (· exact ⟨rfl, rfl, by kernel_rfl, pure_slice rfl (by kernel_rfl) 1 size_int⟩)) xg (Ext.drew (by exact Ext.refl _)) ?_;simp only [List.take_succ_cons, List.take_zero, List.drop_succ_cons, List.drop_zero, List.cons_append, List.nil_append]
      repeat' (first
       | ((with_reducible refine wpL_skip ?_ ?_ ?_)
          · rfl
          · rfl
          simp only [putS])
       | ((with_reducible refine wpL_quiet ?_ ?_ ?_ ?_)
          · rfl
          · rfl
          · rfl
          apply Exists.intro
          refine ⟨fun W hW hS => ?_, ?_⟩
          · have hC := (Ext.facts hW).1
            go_simp
            first | done | (with_reducible rfl) | (rw [if_neg (by omega)]; exact ⟨rfl, rfl⟩) | rfl
          first | (with_reducible refine wpL_boolT ?_) | (with_reducible refine wpL_boolF ?_) | (with_reducible refine wpL_bool (fun hB => ?_) (fun hB => ?_)) | skip
          all_goals simp only [putS])
       | ((refine wpL_grow ?_ rfl rfl ?_ ?_)
          · rfl
          · intro W hW hS
            first | (exact grow_app0 (.tmp 33) (.tmp 36) _ rfl 3 _ 1 8 Tryz.underlying96 info_int rfl (by omega) wr.heap.size _ rfl (hS 33 (by decide)) _ _ _ ((l.take k).map I) rfl (by exact row_pre (Rl.out.ext (w' := W) xe) k (by omega)) (one_ints _) (by unfold maxLen; omega) (by omega) (fun v1 w1 o1 => o1)) | skip
            all_goals have hC := (Ext.facts hW).1
            all_goals unfold growAt
            all_goals go_simp
            all_goals simp only [growUpon]
            all_goals first | (exact ⟨xe, Fresh1.new _ 3 _ _ _ rfl (Ext.size (by assumption))⟩) | (exact ⟨xe, Fresh0.new _ 3 _ _ rfl (Ext.size (by assumption))⟩)
          intro v W' hW' hv
          first | (obtain ⟨g5, rfl, -⟩ := hv) | (obtain ⟨A5, n5, c5, rfl⟩ := Own.slice hv) | (obtain ⟨g5, rfl, -⟩ := hv) | (obtain ⟨A5, n5, c5, rfl, -⟩ := id hv; clear hv) | (obtain ⟨A5, n5, c5, rfl⟩ := NO.slice hv) | skip
          all_goals simp only [putS]))
      refine wpL_nil (fun w7 e7 hL => ?_);have o37 : Own 3 1 wr.heap.size w7.heap.size w7 (.slice A5 n5 c5) k ((l.take k).map I) := hL 37;have f39 : Fresh1 3 wr.heap.size [I n] _ w7 := hL 39;clear hL;obtain ⟨g9, hv9, hg9, hb9⟩ := f39;have z7 := e7.size
      try dsimp only
      refine onAt_app wr.heap.size (.tmp 37) (.tmp 39) _ rfl 3 _ 1 8 Tryz.underlying96 info_int rfl (by omega) _ k _ rfl _ 1 1 [I n] hv9 o37 (row_blk hb9 rfl) (one_ints [n]) (by omega) (by unfold maxLen; omega) (by omega) ?_;intro v8 w8 o8 hg8;have E8 := Ext.app (w0 := wr) e7 o37 hg8;have z8 : w7.heap.size ≤ w8.heap.size := hg8.size;obtain ⟨a8, m8, q8, hv8⟩ := o8.slice;subst hv8;have hRS := Rl.out.ext (w' := w8) E8;go_wp2_with (at_builtin; refine hold ?_)
      refine unhold (wpList_app wr rfl (.tmp 40) (.tmp 43) _ rfl 3 (.int .i64 0) 1 8 Tryz.underlying96 info_int rfl (by omega) _ (k + 1) _ rfl _ _ _ ((l.drop k).map I) rfl o8 (by first | exact row_suf_some hRS k (by omega) | exact row_suf_nil hRS k (by omega) | exact row_suf hRS k (by omega)) (one_ints _) E8 (by unfold maxLen; omega) (by omega) ?_);intro v9 w9 o9 e9 _ _
      have hlen : (((l.take k).map I ++ [I n]) ++ (l.drop k).map I) = ((l.take k ++ [n]) ++ l.drop k).map I := by simp
      rw [hlen] at o9;have H9 := Lib.hid (IntSO_rd (lo := 0) (hi := w9.heap.size) (xs := (l.take k ++ [n]) ++ l.drop k) (by have h := o9.more (Nat.zero_le _) (Nat.le_refl _); have hl9 : ((l.take k ++ [n]) ++ l.drop k).length = k + 1 + (l.length - k) := (by simp [hk]; try omega); unfold IntSO; rw [hl9]; exact h));clear o9;go_wp2_with (at_builtin; refine hold ?_)
      go_ret
      exact ⟨_, rfl, ⟨_, H9.out, by simp only [List.length_append, List.length_take, List.length_drop, List.length_singleton]; omega⟩, e9⟩
  · obtain rfl : k = l.length := by omega
    have i1 : ¬ (l.length : Int) < (l.length : Int) := by omega
    have i2 : (l.length : Int) ≤ (cl : Int) := by omega
    have i3 : (l.length : Int) ≤ (l.length : Int) := by omega
    go_wp2_with fail
    refine wp_region_LS 7 11 _ (E := Ext) (w0 := wr) (G := fun τ => match τ with | 39 => some (fun v W => Fresh1 3 wr.heap.size [I n] v W) | 37 => some (fun v W => Own 3 1 wr.heap.size W.heap.size W v l.length ((l.take l.length).map I)) | 33 => some (fun v W => Fresh0 3 wr.heap.size v W) | _ => none)  Ext.refl (fun h k => Ext.trans h k) (by kernel_rfl) (by kernel_rfl) rfl rfl (by kernel_rfl) (by kernel_rfl) (by kernel_rfl) (by kernel_rfl) (by kernel_rfl) (by kernel_rfl) (by kernel_rfl) (by kernel_rfl) (by intro oi hoi; simp only [List.take_succ_cons, List.take_zero, List.drop_succ_cons, List.drop_zero, List.mem_cons, List.not_mem_nil, or_false] at hoi; rcases hoi with rfl | rfl | rfl; (· exact ⟨rfl, rfl, by kernel_rfl, pure_move rfl⟩); (· exact ⟨rfl, rfl, by kernel_rfl, pure_move rfl⟩); (· exact ⟨rfl, rfl, by kernel_rfl, pure_slice rfl (by kernel_rfl) 1 size_int⟩)) xg (Ext.drew (by exact Ext.refl _)) ?_;simp only [List.take_succ_cons, List.take_zero, List.drop_succ_cons, List.drop_zero, List.cons_append, List.nil_append]
    repeat' (first
     | ((with_reducible refine wpL_skip ?_ ?_ ?_)
        · rfl
        · rfl
        simp only [putS])
     | ((with_reducible refine wpL_quiet ?_ ?_ ?_ ?_)
        · rfl
        · rfl
        · rfl
        apply Exists.intro
        refine ⟨fun W hW hS => ?_, ?_⟩
        · have hC := (Ext.facts hW).1
          go_simp
          first | done | (with_reducible rfl) | (rw [if_neg (by omega)]; exact ⟨rfl, rfl⟩) | rfl
        first | (with_reducible refine wpL_boolT ?_) | (with_reducible refine wpL_boolF ?_) | (with_reducible refine wpL_bool (fun hB => ?_) (fun hB => ?_)) | skip
        all_goals simp only [putS])
     | ((refine wpL_grow ?_ rfl rfl ?_ ?_)
        · rfl
        · intro W hW hS
          first | (exact grow_app0 (.tmp 33) (.tmp 36) _ rfl 3 _ 1 8 Tryz.underlying96 info_int rfl (by omega) wr.heap.size _ rfl (hS 33 (by decide)) _ _ _ ((l.take l.length).map I) rfl (by exact row_pre (Rl.out.ext (w' := W) xe) l.length (by omega)) (one_ints _) (by unfold maxLen; omega) (by omega) (fun v1 w1 o1 => o1)) | skip
          all_goals have hC := (Ext.facts hW).1
          all_goals unfold growAt
          all_goals go_simp
          all_goals simp only [growUpon]
          all_goals first | (exact ⟨xe, Fresh1.new _ 3 _ _ _ rfl (Ext.size (by assumption))⟩) | (exact ⟨xe, Fresh0.new _ 3 _ _ rfl (Ext.size (by assumption))⟩)
        intro v W' hW' hv
        first | (obtain ⟨g5, rfl, -⟩ := hv) | (obtain ⟨A5, n5, c5, rfl⟩ := Own.slice hv) | (obtain ⟨g5, rfl, -⟩ := hv) | (obtain ⟨A5, n5, c5, rfl, -⟩ := id hv; clear hv) | (obtain ⟨A5, n5, c5, rfl⟩ := NO.slice hv) | skip
        all_goals simp only [putS]))
    refine wpL_nil (fun w7 e7 hL => ?_);have o37 : Own 3 1 wr.heap.size w7.heap.size w7 (.slice A5 n5 c5) l.length ((l.take l.length).map I) := hL 37;have f39 : Fresh1 3 wr.heap.size [I n] _ w7 := hL 39;clear hL;obtain ⟨g9, hv9, hg9, hb9⟩ := f39;have z7 := e7.size
    try dsimp only
    refine onAt_app wr.heap.size (.tmp 37) (.tmp 39) _ rfl 3 _ 1 8 Tryz.underlying96 info_int rfl (by omega) _ l.length _ rfl _ 1 1 [I n] hv9 o37 (row_blk hb9 rfl) (one_ints [n]) (by omega) (by unfold maxLen; omega) (by omega) ?_;intro v8 w8 o8 hg8;have E8 := Ext.app (w0 := wr) e7 o37 hg8;have z8 : w7.heap.size ≤ w8.heap.size := hg8.size;obtain ⟨a8, m8, q8, hv8⟩ := o8.slice;subst hv8;have hRS := Rl.out.ext (w' := w8) E8;go_wp2_with (at_builtin; refine hold ?_)
    all_goals
     refine unhold (wpList_app wr rfl (.tmp 40) (.tmp 43) _ rfl 3 (.int .i64 0) 1 8 Tryz.underlying96 info_int rfl (by omega) _ (l.length + 1) _ rfl _ _ _ ((l.drop l.length).map I) rfl o8 (row_nil0 l) (one_ints _) E8 (by unfold maxLen; omega) (by omega) ?_);intro v9 w9 o9 e9 _ _
     have hlen : (((l.take l.length).map I ++ [I n]) ++ (l.drop l.length).map I) = ((l.take l.length ++ [n]) ++ l.drop l.length).map I := by simp
     rw [hlen] at o9;have H9 := Lib.hid (IntSO_rd (lo := 0) (hi := w9.heap.size) (xs := (l.take l.length ++ [n]) ++ l.drop l.length) (by have h := o9.more (Nat.zero_le _) (Nat.le_refl _); have hl9 : ((l.take l.length ++ [n]) ++ l.drop l.length).length = l.length + 1 + 0 := (by simp); unfold IntSO; rw [hl9]; exact h));clear o9;go_wp2_with (at_builtin; refine hold ?_)
     go_ret
     exact ⟨_, rfl, ⟨_, H9.out, by simp only [List.length_append, List.length_take, List.length_drop, List.length_singleton]; omega⟩, e9⟩
theorem spec_Interfaces (vt : Value) (r : Int) (t : DTopology) (w : World) (ht : TopologyV w.heap.size w vt t) (hn : t.links.length ≤ 10000) : Calls Tryz.prog 104 #[vt, I r] w fun e w' => ∃ v', e = .returned v' ∧ (∃ l : List Int, IntS w'.heap.size w' v' l ∧ l.length ≤ 2 * t.links.length) ∧ Ext w w' := by
 obtain ⟨At_0, nt_0, ct_0, At_1, nt_1, ct_1, rfl, st_0, st_1⟩ := id ht;obtain ⟨lt_0, kt_0, mt_0⟩ := st_0.len;subst lt_0;unfold maxLen at mt_0;obtain ⟨lt_1, kt_1, mt_1⟩ := st_1.len;subst lt_1;unfold maxLen at mt_1;have Rt := Lib.hid ht; clear ht;have St_0 := Lib.hid st_0; clear st_0;have St_1 := Lib.hid st_1; clear st_1
 go_enter Tryz.func104, Tryz.ntmps104
 go_wp2_with fail
 refine name_wp (fun W => Ext w W ∧ Blk W w.heap.size 27 [.slice At_0 t.ases.length ct_0, .slice At_1 t.links.length ct_1] ∧ IntS W.heap.size W (.slice (some ⟨w.heap.size + 1, 0, none⟩) 0 0) []) ⟨xe, xb, ⟨_, 0, 0, rfl, rfl, Nat.le_refl _, Nat.zero_le _, fun h => absurd h (by omega)⟩⟩ ?_;rintro w0 ⟨ew0, bt, hz⟩;have Bt := Lib.hid bt; have HZ := Lib.hid hz; clear bt hz
 go_loopw [5, 6] (fun v i wr => ∃ (k : Nat) (l : List Int), k ≤ t.links.length ∧ i = I k ∧ IntS wr.heap.size wr v l ∧ l.length ≤ 2 * k ∧ Ext w0 wr) (fun _ i _ => t.links.length - (intOf i).toNat)
 case atStart => exact ⟨0, [], by omega, rfl, HZ.out, by simp, Ext.refl _⟩
 case round =>
  obtain ⟨k, l, hk, rfl, hl, hll, he⟩ := hrel;obtain ⟨av, nv, cv, rfl, -⟩ := id hl;have HL := Lib.hid hl; clear hl;have zr := he.size; have z0 := ew0.size;have bt := Bt.out.ext (w' := wr) xe;have lt := bt.lt;obtain ⟨pt_0, pt_1⟩ := blk2 bt;clear bt;by_cases hlt : k < t.links.length
  · obtain ⟨b, off, hA, hb, hkl, hc⟩ := St_1.out.at_ hlt
    generalize t.links[k] = u at *
    subst hA;obtain ⟨hu_0, hu_1, hu_2, hu_3, hu_4⟩ := hc
    have i0 : (0 : Int) ≤ (k : Int) := by omega
    have i1 : (k : Int) < (t.links.length : Int) := by omega
    obtain ⟨ku_0, ku_1, ku_2, ku_3⟩ := And.intro ((Ext.cell (a := w) (b := wr) xe hb).trans hu_0) (And.intro ((Ext.cell (a := w) (b := wr) xe hb).trans hu_1) (And.intro ((Ext.cell (a := w) (b := wr) xe hb).trans hu_2) ((Ext.cell (a := w) (b := wr) xe hb).trans hu_3)));by_cases h1 : u.a = r
    · have d1 : (u.a == r) = true := beq_iff_eq.2 h1
      clear h1;go_wp2_with fail
      refine (spec_l5Put _ u.ai l _ (by exact HL.out) (by omega)).mono ?_;rintro e w1 ⟨v1, rfl, ⟨l1, hl1, hn1⟩, e1⟩;obtain ⟨a1, n1, c1, rfl, -⟩ := id hl1;clear HL;have HL := Lib.hid hl1; clear hl1 ku_0 ku_1 ku_2 ku_3 pt_0 pt_1 lt;have bt := Bt.out.ext (w' := w1) xe;have lt := bt.lt;obtain ⟨pt_0, pt_1⟩ := blk2 bt;clear bt;obtain ⟨ku_0, ku_1, ku_2, ku_3⟩ := And.intro ((Ext.cell (a := w) (b := w1) xe hb).trans hu_0) (And.intro ((Ext.cell (a := w) (b := w1) xe hb).trans hu_1) (And.intro ((Ext.cell (a := w) (b := w1) xe hb).trans hu_2) ((Ext.cell (a := w) (b := w1) xe hb).trans hu_3)));by_cases h2 : u.b = r
      · have d2 : (u.b == r) = true := beq_iff_eq.2 h2
        clear h2;go_wp2_with fail
        refine (spec_l5Put _ u.bi l1 _ (by exact HL.out.ext xe) (by omega)).mono ?_;rintro e w9 ⟨v9, rfl, ⟨l9, hl9, hn9⟩, e9⟩;go_wp2_with fail
        go_roundw
        case rel => exact ⟨k + 1, l9, by omega, by go_num, hl9, by omega, xe⟩
        case measure => simp [intOf]; omega
      · have d2 : (u.b == r) = false := beq_eq_false_iff_ne.2 h2
        clear h2;go_wp2_with fail
        go_roundw
        case rel => exact ⟨k + 1, l1, by omega, by go_num, HL.out.ext xe, by omega, xe⟩
        case measure => simp [intOf]; omega
    · have d1 : (u.a == r) = false := beq_eq_false_iff_ne.2 h1
      clear h1;by_cases h2 : u.b = r
      · have d2 : (u.b == r) = true := beq_iff_eq.2 h2
        clear h2;go_wp2_with fail
        refine (spec_l5Put _ u.bi l _ (by exact HL.out.ext xe) (by omega)).mono ?_;rintro e w9 ⟨v9, rfl, ⟨l9, hl9, hn9⟩, e9⟩;go_wp2_with fail
        go_roundw
        case rel => exact ⟨k + 1, l9, by omega, by go_num, hl9, by omega, xe⟩
        case measure => simp [intOf]; omega
      · have d2 : (u.b == r) = false := beq_eq_false_iff_ne.2 h2
        clear h2;go_wp2_with fail
        go_roundw
        case rel => exact ⟨k + 1, l, by omega, by go_num, HL.out.ext xe, by omega, xe⟩
        case measure => simp [intOf]; omega
  · obtain rfl : k = t.links.length := by omega
    have i1 : ¬ (t.links.length : Int) < (t.links.length : Int) := by omega
    go_wp2_with fail
    go_ret
    exact ⟨_, rfl, ⟨l, HL.out, by omega⟩, xe⟩
theorem wpList_appL {P : Program} {ops : Array Oper} {rest : List Oper} {o : Oper} {a : Act} {w : World} {Q : Exit → Act → World → Prop} (lo : Nat) (hgd : o.guard = none) (s x : Operand) (t : TypeId)
 (ho : o.op = .call { callee := .builtin .append, args := #[s, x], argTypes := #[t, t] })
 (E : TypeId) (z : Value) (sz bytes : Nat) (ht : P.underlying t = some (.slice E)) (hinfo : (P.info? E).map (fun i => (i.zero, i.size, i.bytes)) = some (some z, sz, bytes)) (hzs : z.cells.size = sz) (hsz : 0 < sz)
 (v : Value) (n : Nat) (xs : List Value) (hs : a.eval s = v) (A : Option Addr) (m c : Nat) (news : List Value) (hx : a.eval x = .slice A m c)
 (hown : Own E sz lo w.heap.size w v n xs) (hr : Row w sz A m news) (h1 : ∀ u ∈ news, u.oneCell' = true) (hlo : lo ≤ w.heap.size)
 (h63 : n + m ≤ maxLen) (hbytes : (n + m) * bytes ≤ 140737488355328)
 (h : ∀ v' w', Own E sz lo w'.heap.size w' v' (n + m) (xs ++ news) → w.grownBy w' v.ownBlock → wpList P ops Q rest (a.put o.dst v') w') : wpList P ops Q (o :: rest) a w := by
 obtain ⟨i0, hi0, hz0, hz1, hz2⟩ := info_parts hinfo;refine wpList_append_any w hgd s x t ho lo E i0 z sz bytes ht hi0 hz0 hz1 hz2 hzs hsz v n xs hs hown.1 A m c news hx hr h1 h63 hbytes hlo ?_;intro v' w' h2 h3 _;exact h v' w' ⟨h2, fun k hk => (h2.lt k hk).2⟩ h3
theorem off_type {T sz lo hi n g T' : Nat} {w : World} {v : Value} {cs cs' : List Value} (hv : Own T sz lo hi w v n cs) (hb : Blk w g T' cs') (hne : T ≠ T') : v.ownBlock ≠ some g := fun e => ownsRow_typed hv.1 hb hne (by simp [e])
theorem other_type {E T sz sz' lo hi lo' hi' n n' : Nat} {w : World} {u v : Value} {cs cs' : List Value} (h : Own E sz lo hi w u n cs) (hv : Own T sz' lo' hi' w v n' cs') (hne : E ≠ T) {w' : World} (hg : w.grownBy w' v.ownBlock) : Own E sz lo hi w' u n cs := by
 refine ⟨ownsRow_keep h.1 (fun b hb hs => hg.block b hs (fun e => ?_)), h.2⟩
 rcases hv.cases with ⟨rfl, _⟩ | ⟨g, cap, rest, rfl, _, _, hbk, _⟩
 · simp [Value.ownBlock] at e
 · have : b = g := by simpa [Value.ownBlock] using e
   subst this;exact ownsRow_typed h.1 hbk hne hb
def Topo (lo : Nat) (W : World) (gt : Nat) (t : DTopology) : Prop := ∃ A0 c0 A1 c1, Blk W gt 27 [.slice A0 t.ases.length c0, .slice A1 t.links.length c1] ∧ ASSO lo W.heap.size W (.slice A0 t.ases.length c0) t.ases ∧ LinkSO lo W.heap.size W (.slice A1 t.links.length c1) t.links ∧ lo ≤ W.heap.size
theorem Topo.ext {lo gt : Nat} {w w' : World} {t : DTopology} (h : Topo lo w gt t) (he : Ext w w') : Topo lo w' gt t := by
 obtain ⟨A0, c0, A1, c1, hb, h0, h1, hl⟩ := h;exact ⟨A0, c0, A1, c1, hb.ext he, (h0.ext he (Nat.le_refl _)).more (Nat.le_refl _) he.size, (h1.ext he (Nat.le_refl _)).more (Nat.le_refl _) he.size, Nat.le_trans hl he.size⟩
theorem Topo.d {lo gt g : Nat} {w w' : World} {t : DTopology} (h : Topo lo w gt t) (hd : D g w w') (hg : g < lo) (hn : gt ≠ g) : Topo lo w' gt t := by
 obtain ⟨A0, c0, A1, c1, hb, h0, h1, hl⟩ := h;exact ⟨A0, c0, A1, c1, hb.d hd hn, h0.dUp hd hg, h1.dUp hd hg, Nat.le_trans hl hd.size⟩
theorem topoV {lo : Nat} {w : World} {t : DTopology} {A0 A1 : Option Addr} {c0 c1 : Nat} (h0 : ASSO lo w.heap.size w (.slice A0 t.ases.length c0) t.ases) (h1 : LinkSO lo w.heap.size w (.slice A1 t.links.length c1) t.links) : TopologyV w.heap.size w (.agg #[.slice A0 t.ases.length c0, .slice A1 t.links.length c1]) t := ⟨_, _, _, _, _, _, rfl, ASSO_rd h0, LinkSO_rd h1⟩
theorem spec_l5Add (gt : Nat) (a b kind : Int) (lo : Nat) (t : DTopology) (w : World) (ht : Topo lo w gt t) (hn : t.links.length ≤ 1000) :
 Calls Tryz.prog 109 #[.pointer (some ⟨gt, 0, none⟩), I a, I b, I kind] w fun e w' => e = .returned (.tuple #[]) ∧ (∃ t', Topo lo w' gt t' ∧ t'.ases = t.ases ∧ t'.links.length ≤ t.links.length + 1) ∧ ∀ g u, D g u w → g < u.heap.size → u.heap.size ≤ gt → u.heap.size ≤ lo → D g u w' := by
 obtain ⟨A0, c0, A1, c1, hb, h0, h1, hl⟩ := ht;have HB := Lib.hid hb; have H0 := Lib.hid h0; have H1 := Lib.hid h1; clear hb h0 h1
 go_enter Tryz.func109, Tryz.ntmps109
 have b0 := HB.out.ext (w' := w) xe;have lb0 := b0.lt;obtain ⟨qb0_0, qb0_1⟩ := blk2 b0;have fb0_0 := b0.frozen 0;have fb0_1 := b0.frozen 1;clear b0;go_wp2_with fail
 refine (spec_Interfaces _ a t w (topoV H0.out H1.out) (by omega)).mono ?_;rintro e w1 ⟨v1, rfl, ⟨l1, hl1, hn1⟩, e1⟩;obtain ⟨a1, m1, q1, rfl, lm1, -, -, -⟩ := id hl1;subst lm1;have z1 := e1.size;clear lb0 qb0_0 qb0_1 fb0_0 fb0_1 hl1;have b1 := HB.out.ext (w' := w1) xe;have lb1 := b1.lt;obtain ⟨qb1_0, qb1_1⟩ := blk2 b1;have fb1_0 := b1.frozen 0;have fb1_1 := b1.frozen 1;clear b1;go_wp2_with fail
 refine (spec_Interfaces _ b t w1 (topoV (H0.out.ext e1 (Nat.le_refl _) |>.more (Nat.le_refl _) z1) (H1.out.ext e1 (Nat.le_refl _) |>.more (Nat.le_refl _) z1)) (by omega)).mono ?_;rintro e w2 ⟨v2, rfl, ⟨l2, hl2, hn2⟩, e2⟩;obtain ⟨a2, m2, q2, rfl, lm2, -, -, -⟩ := id hl2;subst lm2;have z2 := e2.size;clear lb1 qb1_0 qb1_1 fb1_0 fb1_1 hl2
 have hno : (∃ t', Topo lo w2 gt t' ∧ t'.ases = t.ases ∧ t'.links.length ≤ t.links.length + 1) ∧ ∀ g u, D g u w → g < u.heap.size → u.heap.size ≤ gt → u.heap.size ≤ lo → D g u w2 := by
  refine ⟨⟨t, Topo.ext ⟨A0, c0, A1, c1, HB.out, H0.out, H1.out, hl⟩ xe, rfl, by omega⟩, fun g u hd hg _ _ => hd.trans (D.of_ext xe (Nat.lt_of_lt_of_le hg hd.size))⟩
 have HNO := Lib.hid hno; clear hno;by_cases hx : l1.length ≤ 5
 · have i1 : (l1.length : Int) + 1 ≤ 6 := by omega
   by_cases hy : l2.length ≤ 5
   · have i2 : (l2.length : Int) + 1 ≤ 6 := by omega
     have b2 := HB.out.ext (w' := w2) xe;have lb2 := b2.lt;obtain ⟨qb2_0, qb2_1⟩ := blk2 b2;have fb2_0 := b2.frozen 0;have fb2_1 := b2.frozen 1;clear b2;go_wp2_with (at_builtin; refine hold ?_)
     refine unhold (wpList_appL lo rfl (.tmp 34) (.tmp 41) _ rfl 125 _ 5 40 Tryz.underlying25 info_Link rfl (by omega) (.slice A1 t.links.length c1) t.links.length (t.links.flatMap LinkC) rfl _ 1 1 _ rfl (by exact Own.ext (w' := w2.alloc _) (Own.more H1.out (Nat.le_refl _) (Nat.le_refl _)) xe (Nat.le_refl _) |>.lt_size) (row_one _ _ _ _ _ (by first | rfl | simp) rfl) (one_Link [⟨a, (l1.length : Int) + 1, b, (l2.length : Int) + 1, kind⟩]) (by simp only [World.size_alloc]; omega) (by unfold maxLen; omega) (by omega) ?_);intro v8 w8 o8 hg8;obtain ⟨a8, m8, q8, hv8⟩ := o8.slice;subst hv8;obtain ⟨hm8, -⟩ := NO.row o8;subst hm8;have hb7 := HB.out.ext (w' := w2.alloc (.cells #[I a, I ((l1.length : Int) + 1), I b, I ((l2.length : Int) + 1), I kind] 125)) xe;have h17 := (H1.out.ext (w' := w2.alloc (.cells #[I a, I ((l1.length : Int) + 1), I b, I ((l2.length : Int) + 1), I kind] 125)) xe (Nat.le_refl _)).lt_size;have h07 := (H0.out.ext (w' := w2.alloc (.cells #[I a, I ((l1.length : Int) + 1), I b, I ((l2.length : Int) + 1), I kind] 125)) xe (Nat.le_refl _)).lt_size;have B8 := Lib.hid (Blk.grown hb7 hg8 (off_type h17 hb7 (by decide)));have A8 := Lib.hid ((other_type h07 h17 (by decide) hg8).lt_size);have z8 := hg8.size;simp only [World.size_alloc] at z8;have HG := Lib.hid hg8
     have hls : (t.links.flatMap LinkC ++ [⟨a, (l1.length : Int) + 1, b, (l2.length : Int) + 1, kind⟩].flatMap LinkC) = (t.links ++ [(⟨a, (l1.length : Int) + 1, b, (l2.length : Int) + 1, kind⟩ : DLink)]).flatMap LinkC := by rw [List.flatMap_append]
     have o9 : Own 125 5 lo w8.heap.size w8 (.slice a8 (t.links.length + 1) q8) (t.links.length + 1) ((t.links ++ [(⟨a, (l1.length : Int) + 1, b, (l2.length : Int) + 1, kind⟩ : DLink)]).flatMap LinkC) := by rw [← hls]; exact o8
     have O8 := Lib.hid o9; clear o8 o9 hls hg8 hb7 h07;have H17 := Lib.hid h17; clear h17;have b8 := B8.out.ext (w' := w8) xe;have lb8 := b8.lt;obtain ⟨qb8_0, qb8_1⟩ := blk2 b8;have fb8_0 := b8.frozen 0;have fb8_1 := b8.frozen 1;clear b8;go_wp2_with (at_builtin; refine hold ?_)
     refine ⟨by rfl, .tuple #[], by simp [results, Tryz.results109, go_sem, *], rfl, ⟨⟨t.ases, t.links ++ [⟨a, (l1.length : Int) + 1, b, (l2.length : Int) + 1, kind⟩]⟩, ⟨A0, c0, a8, q8, ?_, ?_, ?_, ?_⟩, rfl, by simp⟩, fun g u hd hg hh1 hh2 => ?_⟩
     · simpa using B8.out.set_ 1 (.slice a8 (t.links.length + 1) q8)
     · simp only [World.size_setCell]
       exact A8.out.setT B8.out (by decide) _ _
     · simp only [World.size_setCell]
       have h9 := O8.out.setT B8.out (by decide) 1 (.slice a8 (t.links.length + 1) q8);unfold LinkSO;rw [List.length_append, List.length_singleton];exact h9
     · simp only [World.size_setCell]; omega
     · have hd2 : D g u (w2.alloc (.cells #[I a, I ((l1.length : Int) + 1), I b, I ((l2.length : Int) + 1), I kind] 125)) := hd.trans (D.of_ext xe (Nat.lt_of_lt_of_le hg hd.size))
       refine D.setNew (D.grown hd2 hg HG.out fun k hk => ?_) hg (by dsimp only; exact hh1) _;have := (H17.out.1.lt k hk).1;omega
   · have i2 : ¬ (l2.length : Int) + 1 ≤ 6 := by omega
     go_wp2_with fail
     exact ⟨by rfl, .tuple #[], by simp [results, Tryz.results109, go_sem, *], rfl, HNO.out⟩
 · have i1 : ¬ (l1.length : Int) + 1 ≤ 6 := by omega
   go_wp2_with fail
   exact ⟨by rfl, .tuple #[], by simp [results, Tryz.results109, go_sem, *], rfl, HNO.out⟩
theorem Fresh1.d {E lo g : Nat} {cs : List Value} {v : Value} {W W' : World} (h : Fresh1 E lo cs v W) (hd : D g W W') (hg : g < lo) : Fresh1 E lo cs v W' := by
 obtain ⟨k, e, hk, hb⟩ := h;exact ⟨k, e, hk, hb.d hd (by omega)⟩
theorem Own.cellAt {E sz lo hi n c : Nat} {w : World} {A : Option Addr} {cs : List Value} (h : Own E sz lo hi w (.slice A n c) n cs) (k : Nat) (hk : k < cs.length) (u : Value) :
 ∃ g, A = some ⟨g, 0, none⟩ ∧ lo ≤ g ∧ g < hi ∧ g < w.heap.size ∧ w.frozen? ⟨g, k, none⟩ = false ∧ w.cell? ⟨g, k, none⟩ = some cs[k] ∧ Own E sz lo hi (w.setCell ⟨g, k, none⟩ u) (.slice A n c) n (cs.set k u) := by
 rcases h.cases with ⟨e, h0, hcs⟩ | ⟨g, cap, rest, e, h1, h2, hb, hl, hn, hm, hs⟩
 · subst hcs; simp at hk
 · simp only [Value.slice.injEq] at e
   obtain ⟨rfl, -, rfl⟩ := e;refine ⟨g, rfl, h1, h2, hb.lt, hb.frozen k, ?_, ?_⟩
   · rw [hb.cell, List.getElem?_append_left hk, List.getElem?_eq_getElem hk]
   · have hb2 := hb.set_ k u
     rw [List.set_append_left _ _ hk] at hb2;exact Own.mk' h1 h2 hb2 (by rw [List.length_set]; exact hl) hn hm (by rw [List.length_append, List.length_set, ← List.length_append]; exact hs)
theorem as_set (l : List DAS) (k : Nat) (hk : k < l.length) (z : Int) : (l.flatMap ASC).set (k * 3) (I z) = (l.set k { l[k] with isd := z }).flatMap ASC := by
 induction l generalizing k with
 | nil => simp at hk
 | cons x l ih =>
   rcases k with _ | k
   · rfl
   · have hk' : k < l.length := by simpa using hk
     have h := ih k hk'
     have e : (k + 1) * 3 = 3 + k * 3 := by omega
     rw [List.flatMap_cons, e]
     have e2 : (ASC x ++ l.flatMap ASC).set (3 + k * 3) (I z) = ASC x ++ (l.flatMap ASC).set (k * 3) (I z) := by
      rw [List.set_append_right _ _ (by rw [ASC.len]; omega), ASC.len, Nat.add_sub_cancel_left]
     rw [e2, h];simp only [List.getElem_cons_succ, List.set_cons_succ, List.flatMap_cons]
def KeyAt (k : Nat) (y : DAS) : Prop := ∃ x : Int, 0 ≤ x ∧ x < 1000000 ∧ y.key = 1 + x * 8 + k
theorem key_val (x : Int) (k : Nat) (h0 : 0 ≤ x) (h1 : x < 1000000) (hk : k ≤ 100) : IntKind.i64.wrap (IntKind.i64.wrap (1 + IntKind.i64.wrap (x * 8)) + (k : Int)) = 1 + x * 8 + k := by
 rw [IntWalk.i64_in (x * 8) (by omega), IntWalk.i64_in (1 + x * 8) (by omega), IntWalk.i64_in _ (by omega)]
def KeysOk (l : List DAS) : Prop := ∀ k (hk : k < l.length), KeyAt k l[k]
theorem KeysOk.snoc {l : List DAS} {y : DAS} (h : KeysOk l) (hy : KeyAt l.length y) : KeysOk (l ++ [y]) := by
 intro k hk
 rcases Nat.lt_or_ge k l.length with h1 | h1
 · rw [List.getElem_append_left h1]; exact h k h1
 · have h2 : k = l.length := by simp at hk; omega
   subst h2
   simpa using hy
theorem KeysOk.isd {l : List DAS} (h : KeysOk l) (b : Nat) (hb : b < l.length) (z : Int) : KeysOk (l.set b { l[b] with isd := z }) := by
 intro k hk
 have hk' : k < l.length := by simpa using hk
 rw [List.getElem_set];split
 · rename_i e; subst e; exact h b hb
 · exact h k hk'
def FreshAS (lo k : Nat) (v : Value) (W : World) : Prop := ∃ y : DAS, KeyAt k y ∧ Fresh1 98 lo (ASC y) v W
theorem FreshAS.d {lo k g : Nat} {v : Value} {W W' : World} (h : FreshAS lo k v W) (hd : D g W W') (hg : g < lo) : FreshAS lo k v W' := by
 obtain ⟨y, hy, hf⟩ := h;exact ⟨y, hy, hf.d hd hg⟩
def DrawnTopo (t : DTopology) : Prop := 1 ≤ t.ases.length ∧ t.ases.length ≤ 8 ∧ t.links.length ≤ 100 ∧ KeysOk t.ases
theorem spec_l5Draw (g : Nat) (w : World) (hc : Cur w g) : Calls Tryz.prog 71 #[.pointer (some ⟨g, 0, none⟩)] w fun e w' => ∃ v', e = .returned v' ∧ (∃ t, TopologyO w.heap.size w'.heap.size w' v' t ∧ DrawnTopo t) ∧ D g w w' := by
 have HC := Lib.hid hc;have hgw := hc.lt;clear hc
 go_enter Tryz.func71, Tryz.ntmps71
 go_wp2_with fail
 refine name_calls (fun W => ∃ wa, D g w wa ∧ wa.heap.size = w.heap.size + 1 ∧ Blk wa w.heap.size 27 [.slice none 0 0, .slice none 0 0] ∧ D g wa W ∧ W.heap.size = w.heap.size + 1 + 1 ∧ Blk W (w.heap.size + 1) 27 [.slice none 0 0, .slice none 0 0]) ⟨_, D.alloc (D.refl _ _) hgw _, by simp only [World.size_alloc], xb, D.alloc (D.refl _ _) (by simp only [World.size_alloc]; omega) _, by simp only [World.size_alloc], xb⟩ ?_;rintro w0 ⟨wa, da, za, br, d0, z0, bt⟩;have BR := Lib.hid br; clear br;have HCA := Lib.hid (da.cur HC.out)
 have hga : g < wa.heap.size := by omega
 have T0 : Hid (Topo w0.heap.size w0 (w.heap.size + 1) ⟨[], []⟩) := ⟨none, 0, none, 0, bt, Own.nil _ _ _ _ _, Own.nil _ _ _ _ _, Nat.le_refl _⟩
 clear bt;refine (spec_l1Below g 3 w0 (d0.cur HCA.out) (by omega)).mono ?_;rintro e w1 ⟨x1, rfl, ⟨x1a, x1b, -⟩, d1⟩;have x1b := x1b (by omega);have z1 := d1.size
 obtain ⟨c1, rfl⟩ : ∃ c1 : Nat, x1 = (c1 : Int) := ⟨x1.toNat, by omega⟩
 go_wp2_with fail
 refine (spec_l1Below g 6 w1 (d1.cur (d0.cur HCA.out)) (by omega)).mono ?_;rintro e w2 ⟨x2, rfl, ⟨x2a, x2b, -⟩, d2⟩;have x2b := x2b (by omega);have z2 := d2.size
 obtain ⟨c2, rfl⟩ : ∃ c2 : Nat, x2 = (c2 : Int) := ⟨x2.toNat, by omega⟩
 go_wp2_with fail
 have hne : w.heap.size + 1 ≠ g := by omega
 have dw2 : D g wa w2 := D.trans (D.trans d0 d1) d2
 go_loopw [6] (fun i wr => ∃ (k : Nat) (t : DTopology), k ≤ c1 + 1 + c2 ∧ i = I k ∧ Topo w0.heap.size wr (w.heap.size + 1) t ∧ t.ases.length = k ∧ t.links.length = 0 ∧ KeysOk t.ases ∧ D g wa wr) (fun i _ => c1 + 1 + c2 - (intOf i).toNat)
 case atStart => exact ⟨0, ⟨[], []⟩, by omega, rfl, T0.out.d (D.trans d1 d2) (by omega) hne, rfl, rfl, fun k hk => by simp at hk, dw2⟩
 case round =>
  obtain ⟨k, t, hk, rfl, ht, hta, htl, hko, hd⟩ := hrel;have HKO := Lib.hid hko; clear hko;subst hta;have zr := hd.size;by_cases hlt : t.ases.length < c1 + 1 + c2
  · have i1 : (t.ases.length : Int) < 1 + (c1 : Int) + (c2 : Int) := by omega
    obtain ⟨A0, q0, A1, q1, hb, h0, h1, hl⟩ := ht;have HB := Lib.hid hb; have H0 := Lib.hid h0; have H1 := Lib.hid h1; clear hb h0 h1
    have hgr : g < wr.heap.size := by omega
    have hcur := hd.cur HCA.out;have HCUR := Lib.hid hcur; clear hcur;have b0 := HB.out.ext (w' := wr) xe;have lb0 := b0.lt;obtain ⟨qb0_0, qb0_1⟩ := blk2 b0;have fb0_0 := b0.frozen 0;have fb0_1 := b0.frozen 1;clear b0;go_wp2_with fail
    refine wp_region_LT 15 (E := D g) (w0 := wr) (G := fun τ => match τ with | 30 => some (fun v W => ∃ x : Int, v = I x ∧ 0 ≤ x ∧ x < 2) | 35 => some (fun v W => ∃ x : Int, v = I x ∧ 0 ≤ x ∧ x < 1000000) | 41 => some (fun v W => FreshAS wr.heap.size t.ases.length v W) | _ => none) (D.refl g) (fun h k => D.trans h k) (by kernel_rfl) (by kernel_rfl) (by kernel_rfl) (by kernel_rfl) (by kernel_rfl) (by kernel_rfl) (by intro t φ hG; split at hG; all_goals first | (cases hG; done) | (cases Option.some.inj hG; intro v W W' hE hv; first | exact hv | exact hv.d hE (by omega) | (obtain ⟨y, hy⟩ := hv; exact ⟨y, Fresh1.d hy hE (by omega)⟩))) (D.drew (by exact D.refl _ _)) ?_;simp only [List.take_succ_cons, List.take_zero]
    repeat' (first
     | ((with_reducible refine wpL_skip ?_ ?_ ?_)
        · rfl
        · rfl
        simp only [putS])
     | ((with_reducible refine wpL_quiet ?_ ?_ ?_ ?_)
        · rfl
        · rfl
        · rfl
        apply Exists.intro
        refine ⟨fun W hW hS => ?_, ?_⟩
        · have hC := (D.facts hW).1
          go_simp
          first | done | (with_reducible rfl) | (rw [if_neg (by omega)]; exact ⟨rfl, rfl⟩) | rfl
        first | (with_reducible refine wpL_boolT ?_) | (with_reducible refine wpL_boolF ?_) | (with_reducible refine wpL_bool (fun hB => ?_) (fun hB => ?_)) | skip
        all_goals simp only [putS])
     | ((refine wpL_grow ?_ rfl rfl ?_ ?_)
        · rfl
        · intro W hW hS
          have hC := (D.facts hW).1;unfold growAt
          go_simp
          simp only [growUpon]
          first | (go_at_call 38; (with_reducible refine Calls.mono (spec_l1Below g _ _ (hW.cur HCUR.out) (by omega)) ?_); rintro e w9 ⟨x, rfl, hx, d9⟩; exact ⟨_, rfl, d9, ⟨x, rfl, hx.1, hx.2.1 (by omega)⟩⟩) | (go_at_call 38; (with_reducible refine Calls.mono (spec_l1Below g _ _ (hW.cur HCUR.out) (by omega)) ?_); rintro e w9 ⟨x, rfl, hx, d9⟩; exact ⟨_, rfl, d9, ⟨x, rfl, hx.1, hx.2.1 (by omega)⟩⟩) | (refine ⟨D.of_ext ((Ext.refl _).alloc _) (by have h5 := D.size hW; omega), ⟨⟨_, _, _⟩, ?_, Fresh1.new _ _ _ _ _ rfl (D.size hW)⟩⟩; exact ⟨x30, x30a, x30b, key_val _ _ x30a x30b (by omega)⟩)
        intro v W' hW' hv
        first | (obtain ⟨x30, rfl, x30a, x30b⟩ := hv) | (obtain ⟨x35, rfl, x35a, x35b⟩ := hv) | (obtain ⟨y41, -, g41, rfl, hg41, hb41⟩ := hv) | (obtain ⟨A5, n5, c5, rfl, -⟩ := id hv; clear hv) | (obtain ⟨A5, n5, c5, rfl⟩ := NO.slice hv) | skip
        all_goals simp only [putS]))
    all_goals
     refine wpL_nil (fun w5 e5 hL => ?_);obtain ⟨y5, hy5, g5, hv5, hg5, hb5⟩ : FreshAS wr.heap.size t.ases.length _ w5 := hL 41;cases hv5;clear hL lb0 qb0_0 qb0_1 fb0_0 fb0_1;have z5 := e5.size;have HB5 := Lib.hid (HB.out.d e5 hne);have H05 := Lib.hid (H0.out.dUp e5 (by omega));have H15 := Lib.hid (H1.out.dUp e5 (by omega));simp only [List.drop_succ_cons, List.drop_zero];go_wp2_with (at_builtin; refine hold ?_)
     refine unhold (wpList_appL w0.heap.size rfl (.tmp 28) (.tmp 41) _ rfl 98 _ 3 24 Tryz.underlying24 info_AS rfl (by omega) (.slice A0 t.ases.length q0) t.ases.length (t.ases.flatMap ASC) rfl _ 1 1 (ASC y5) rfl H05.out (row_blk hb5 rfl) (fun u hu => one_AS [y5] u (by simpa using hu)) (by omega) (by unfold maxLen; omega) (by omega) ?_);intro v8 w8 o8 hg8;obtain ⟨a8, m8, q8, hv8⟩ := o8.slice;subst hv8;obtain ⟨hm8, -⟩ := NO.row o8;subst hm8;have B8 := Lib.hid (Blk.grown HB5.out hg8 (off_type H05.out HB5.out (by decide)));have L8 := Lib.hid ((other_type H15.out H05.out (by decide) hg8).lt_size);have z8 := hg8.size;have dd : D g wa w8 := D.grown (D.trans hd e5) hga hg8 (fun j hj => by have := (H05.out.1.lt j hj).1; omega)
     have o9 : Own 98 3 w0.heap.size w8.heap.size w8 (.slice a8 (t.ases.length + 1) q8) (t.ases.length + 1) ((t.ases ++ [y5]).flatMap ASC) := by rw [List.flatMap_append]; simpa using o8
     have O8 := Lib.hid o9; clear o8 o9 hg8;have b8 := B8.out.ext (w' := w8) xe;have lb8 := b8.lt;obtain ⟨qb8_0, qb8_1⟩ := blk2 b8;have fb8_0 := b8.frozen 0;have fb8_1 := b8.frozen 1;clear b8;go_wp2_with (at_builtin; refine hold ?_)
     go_roundw
     case rel =>
      refine ⟨t.ases.length + 1, ⟨t.ases ++ [y5], t.links⟩, by omega, by go_num, ⟨a8, q8, A1, q1, ?_, ?_, ?_, ?_⟩, by simp, htl, HKO.out.snoc hy5, D.setNew dd hga (by dsimp only; omega) _⟩
      · simpa using B8.out.set_ 0 (.slice a8 (t.ases.length + 1) q8)
      · simp only [World.size_setCell]
        have h9 := O8.out.setT B8.out (by decide) 0 (.slice a8 (t.ases.length + 1) q8);unfold ASSO;rw [List.length_append, List.length_singleton];exact h9
      · simp only [World.size_setCell]
        exact L8.out.setT B8.out (by decide) _ _
      · simp only [World.size_setCell]; omega
     case measure => simp [intOf]; omega
  · have hk2 : t.ases.length = c1 + 1 + c2 := by omega
    have i1 : ¬ (t.ases.length : Int) < 1 + (c1 : Int) + (c2 : Int) := by omega
    go_wp2_with fail
    go_loopw [7] (fun i wr => ∃ (b : Nat) (t : DTopology), 1 ≤ b ∧ b ≤ c1 + 1 ∧ i = I b ∧ Topo w0.heap.size wr (w.heap.size + 1) t ∧ (t.ases.length = c1 + 1 + c2 ∧ KeysOk t.ases) ∧ t.links.length ≤ 2 * b ∧ D g wa wr) (fun i _ => c1 + 1 - (intOf i).toNat)
    case atStart => exact ⟨1, t, by omega, by omega, rfl, ht, ⟨hk2, HKO.out⟩, by omega, hd⟩
    case round =>
     clear i1 hk2 hk hlt ht htl;obtain ⟨b, t2, hb1, hb2, rfl, ht2, hta2, htl2, hd2⟩ := hrel;have zr2 := hd2.size;have dz2 := d2.size;by_cases hlt2 : b < c1 + 1
     · have i1 : (b : Int) < 1 + (c1 : Int) := by omega
       go_wp2_with fail
       refine (spec_l1Below g (b : Int) _ (hd2.cur HCA.out) (by omega)).mono ?_;rintro e w3 ⟨x3, rfl, -, d3⟩;go_wp2_with fail
       refine (spec_l5Add (w.heap.size + 1) x3 b 1 w0.heap.size t2 _ (ht2.d d3 (by omega) hne) (by omega)).mono ?_;rintro e w4 ⟨rfl, ⟨t4, ht4, hta4, htl4⟩, hf4⟩;have d4 : D g wa w4 := hf4 g wa (D.trans hd2 d3) hga (by omega) (by omega);go_wp2_with fail
       refine (spec_l1Once g 2 _ (d4.cur HCA.out) (by omega)).mono ?_;rintro e w5 ⟨y5, rfl, d5⟩;have ht5 := ht4.d d5 (by omega) hne;cases y5
       · go_wp2_with fail
         go_roundw
         case rel => exact ⟨b + 1, t4, by omega, by omega, by go_num, ht5, by rw [hta4]; exact hta2, by omega, D.trans d4 d5⟩
         case measure => simp [intOf]; omega
       · go_wp2_with fail
         refine (spec_l1Below g (b : Int) _ ((D.trans d4 d5).cur HCA.out) (by omega)).mono ?_;rintro e w6 ⟨x6, rfl, -, d6⟩;go_wp2_with fail
         refine (spec_l5Add (w.heap.size + 1) x6 b 1 w0.heap.size t4 _ (ht5.d d6 (by omega) hne) (by omega)).mono ?_;rintro e w7 ⟨rfl, ⟨t7, ht7, hta7, htl7⟩, hf7⟩;have d7 : D g wa w7 := hf7 g wa (D.trans (D.trans d4 d5) d6) hga (by omega) (by omega);go_wp2_with fail
         go_roundw
         case rel => exact ⟨b + 1, t7, by omega, by omega, by go_num, ht7, by rw [hta7, hta4]; exact hta2, by omega, d7⟩
         case measure => simp [intOf]; omega
     · have hb3 : b = c1 + 1 := by omega
       subst hb3
       have i1 : ¬ ((c1 + 1 : Nat) : Int) < 1 + (c1 : Int) := by omega
       go_wp2_with fail
       go_loopw [8] (fun i wr => ∃ (b : Nat) (t : DTopology), c1 + 1 ≤ b ∧ b ≤ c1 + 1 + c2 ∧ i = I b ∧ Topo w0.heap.size wr (w.heap.size + 1) t ∧ (t.ases.length = c1 + 1 + c2 ∧ KeysOk t.ases) ∧ t.links.length ≤ 20 + 3 * b ∧ D g wa wr) (fun i _ => c1 + 1 + c2 - (intOf i).toNat)
       case atStart => exact ⟨c1 + 1, t2, by omega, by omega, by go_num, ht2, hta2, by omega, hd2⟩
       case round =>
        clear i1 hta2 hlt2 ht2 htl2;obtain ⟨b, t3, hb3, hb4, rfl, ht3, hta3, htl3, hd3⟩ := hrel;have zr3 := hd3.size;have HTA3 := Lib.hid hta3;obtain ⟨A0, q0, A1, q1, hb, h0, h1, hl⟩ := id ht3;have HB := Lib.hid hb; have H0 := Lib.hid h0; have H1 := Lib.hid h1; clear hb h0 h1;by_cases hlt3 : b < c1 + 1 + c2
        · have i1 : (b : Int) < (t3.ases.length : Int) := by omega
          clear hta3;have b0 := HB.out.ext (w' := wr) xe;have lb0 := b0.lt;obtain ⟨qb0_0, qb0_1⟩ := blk2 b0;have fb0_0 := b0.frozen 0;have fb0_1 := b0.frozen 1;clear b0;go_wp2_with fail
          clear lb0 qb0_0 qb0_1 fb0_0 fb0_1 HB H0 H1;refine (spec_l1Below g 2 _ (hd3.cur HCA.out) (by omega)).mono ?_;rintro e w4 ⟨x4, rfl, ⟨x4a, x4b, -⟩, d4⟩;have x4b := x4b (by omega)
          obtain ⟨c4, rfl⟩ : ∃ c4 : Nat, x4 = (c4 : Int) := ⟨x4.toNat, by omega⟩
          have z4 := d4.size;go_wp2_with fail
          go_loopw [9] (fun i wr => ∃ (kk : Nat) (t : DTopology), kk ≤ 2 ∧ i = I kk ∧ Topo w0.heap.size wr (w.heap.size + 1) t ∧ (t.ases.length = c1 + 1 + c2 ∧ KeysOk t.ases) ∧ t.links.length + kk ≤ 22 + 3 * b ∧ D g wa wr) (fun i _ => (intOf i).toNat)
          case atStart => exact ⟨c4 + 1, t3, by omega, by go_num, ht3.d d4 (by omega) hne, HTA3.out, by omega, D.trans hd3 d4⟩
          case round =>
           clear ht3 HTA3 htl3 i1;obtain ⟨kk, t5, hk5, rfl, ht5, hta5, htl5, hd5⟩ := hrel;have zr5 := hd5.size;have HTA5 := Lib.hid hta5;by_cases hk0 : 0 < kk
           · obtain ⟨km, rfl⟩ : ∃ km : Nat, kk = km + 1 := ⟨kk - 1, by omega⟩
             have i2 : (0 : Int) < ((km + 1 : Nat) : Int) := by omega
             clear hta5;go_wp2_with fail
             clear i2;refine (spec_l1Below g (b : Int) _ (hd5.cur HCA.out) (by omega)).mono ?_;rintro e w6 ⟨x6, rfl, ⟨x6a, x6b, -⟩, d6⟩;have x6b := x6b (by omega)
             obtain ⟨a, rfl⟩ : ∃ a : Nat, x6 = (a : Int) := ⟨x6.toNat, by omega⟩
             have z6 := d6.size;go_wp2_with fail
             refine (spec_l1Once g 5 _ ((D.trans hd5 d6).cur HCA.out) (by omega)).mono ?_;rintro e w7 ⟨y7, rfl, d7⟩;have ht7 := (ht5.d d6 (by omega) hne).d d7 (by omega) hne;have hd7 : D g wa w7 := D.trans (D.trans hd5 d6) d7;have z7 := d7.size;clear ht5;cases y7
             · obtain ⟨A0, q0, A1, q1, hb, h0, h1, hl⟩ := ht7
               have hal : a < t5.ases.length := by rw [HTA5.out.1]; omega
               have hbl : b < t5.ases.length := by rw [HTA5.out.1]; omega
               obtain ⟨bk, off, hA, hbk, hka, hca, -, -⟩ := (ASSO_rd h0).at_ hal;have hfl : (t5.ases.flatMap ASC).length = t5.ases.length * 3 := flat_len ASC 3 ASC.len t5.ases;obtain ⟨gA, hgA, hg1, hg2, hg3, hfr, hcb, -⟩ := Own.cellAt h0 (b * 3) (by rw [hfl]; omega) (I 0);rw [hgA] at hA;cases hA;subst hgA
               have hca : w7.cell? ⟨bk, a * 3, none⟩ = some (I t5.ases[a].isd) := by simpa only [Nat.zero_add] using hca
               have HB := Lib.hid hb; have H0 := Lib.hid h0; have H1 := Lib.hid h1; clear hb h0 h1
               have a0 : (0 : Int) ≤ (a : Int) := by omega
               have a1 : (a : Int) < (t5.ases.length : Int) := by omega
               have b0 : (0 : Int) ≤ (b : Int) := by omega
               have b1 : (b : Int) < (t5.ases.length : Int) := by omega
               generalize hz : t5.ases[a].isd = z at *
               clear hz;have b0 := HB.out.ext (w' := w7) xe;have lb0 := b0.lt;obtain ⟨qb0_0, qb0_1⟩ := blk2 b0;have fb0_0 := b0.frozen 0;have fb0_1 := b0.frozen 1;clear b0;go_wp2_with fail
               refine wp_region_LT 11 (E := Ext) (w0 := w7) (G := fun τ => match τ with | 0 => none | _ => none) Ext.refl (fun h k => Ext.trans h k) (by kernel_rfl) (by kernel_rfl) (by kernel_rfl) (by kernel_rfl) (by kernel_rfl) (by kernel_rfl) xg (Ext.drew (by exact Ext.refl _)) ?_;simp only [List.take_succ_cons, List.take_zero]
               repeat' (first
                | ((with_reducible refine wpL_skip ?_ ?_ ?_)
                   · rfl
                   · rfl
                   simp only [putS])
                | ((with_reducible refine wpL_quiet ?_ ?_ ?_ ?_)
                   · rfl
                   · rfl
                   · rfl
                   apply Exists.intro
                   refine ⟨fun W hW hS => ?_, ?_⟩
                   · have hC := (Ext.facts hW).1
                     go_simp
                     first | done | (with_reducible rfl) | (rw [if_neg (by omega)]; exact ⟨rfl, rfl⟩) | rfl
                   first | (with_reducible refine wpL_boolT ?_) | (with_reducible refine wpL_boolF ?_) | (with_reducible refine wpL_bool (fun hB => ?_) (fun hB => ?_)) | skip
                   all_goals simp only [putS]))
               refine wpL_nil (fun w8 e8 hL => ?_);clear hL lb0 qb0_0 qb0_1 fb0_0 fb0_1;have z8 := e8.size;obtain ⟨gA', hgA', -, -, hg3', hfr', hcb', hset⟩ := Own.cellAt (H0.out.ext e8 (Nat.le_refl _)) (b * 3) (by rw [hfl]; omega) (I z);cases hgA';have HSET := Lib.hid hset; clear hset hfr hcb hca;have hb8 := HB.out.ext e8
               have hneg : bk ≠ w.heap.size + 1 := fun e => by
                have := off_type (H0.out.ext e8 (Nat.le_refl _)) hb8 (by decide);exact this (by rw [← e]; rfl)
               have HB8 := Lib.hid (Blk.far hb8 (p := ⟨bk, b * 3, none⟩) (fun e => hneg e.symm) (I z))
               have H18 : Hid (LinkSO w0.heap.size (w8.setCell ⟨bk, b * 3, none⟩ (I z)).heap.size (w8.setCell ⟨bk, b * 3, none⟩ (I z)) (.slice A1 t5.links.length q1) t5.links) := by
                unfold Hid;simp only [World.size_setCell]
                obtain ⟨cs9, hblk9⟩ : ∃ cs9, Blk w8 bk 98 cs9 := by
                 rcases (H0.out.ext e8 (Nat.le_refl _)).cases with ⟨e, -⟩ | ⟨gq, cap, rest, e, -, -, hbb, -⟩
                 · cases e
                 · cases e; exact ⟨_, hbb⟩
                exact ((H1.out.ext e8 (Nat.le_refl _)).lt_size).setT hblk9 (by decide) _ _
               clear hb8;simp only [List.drop_succ_cons, List.drop_zero];go_wp2_with (at_builtin; refine hold ?_)
               refine name_wp (fun W => (∃ t', Topo w0.heap.size W (w.heap.size + 1) t' ∧ (t'.ases.length = c1 + 1 + c2 ∧ KeysOk t'.ases) ∧ t'.links.length = t5.links.length) ∧ D g wa W) ⟨⟨⟨t5.ases.set b { t5.ases[b] with isd := z }, t5.links⟩, ⟨some ⟨bk, 0, none⟩, q0, A1, q1, by simpa using HB8.out, ?_, H18.out, by simp only [World.size_setCell]; omega⟩, ⟨by simp [HTA5.out.1], HTA5.out.2.isd b hbl z⟩, rfl⟩, D.setNew (D.trans hd7 (D.of_ext e8 (by omega))) hga (by dsimp only; omega) _⟩ ?_
               · have h9 := HSET.out
                 rw [as_set t5.ases b hbl z] at h9;unfold ASSO;rw [List.length_set];simp only [World.size_setCell];have h10 := h9.lt_size;simp only [World.size_setCell] at h10;exact h10
               clear HB8 HSET H18 HB H0 H1 hfr' hcb';rintro w9 ⟨⟨t9, ht9, hta9, htl9⟩, hd9⟩;have z9 := hd9.size;have HTA9 := Lib.hid hta9;obtain ⟨A0, q0, A1, q1, hb, h0, h1, hl⟩ := id ht9
               have hal : a < t9.ases.length := by omega
               have hbl : b < t9.ases.length := by omega
               obtain ⟨bk, off, hA, hbk, hka, hca, -, -⟩ := (ASSO_rd h0).at_ hal;subst hA;obtain ⟨bk2, off2, hA2, hbk2, hkb, hcb, -, -⟩ := (ASSO_rd h0).at_ hbl;cases hA2
               have a0 : (0 : Int) ≤ (a : Int) := by omega
               have a1 : (a : Int) < (t9.ases.length : Int) := by omega
               have b0 : (0 : Int) ≤ (b : Int) := by omega
               have b1 : (b : Int) < (t9.ases.length : Int) := by omega
               clear hta9;have HB := Lib.hid hb; clear hb h0 h1
               generalize t9.ases[a].isd = za at *
               generalize t9.ases[b].isd = zb at *
               have b0 := HB.out.ext (w' := w9) xe;have lb0 := b0.lt;obtain ⟨qb0_0, qb0_1⟩ := blk2 b0;have fb0_0 := b0.frozen 0;have fb0_1 := b0.frozen 1;clear b0;by_cases he : za = zb
               · have dq : (za == zb) = true := beq_iff_eq.2 he
                 clear he;refine wp_region_L (E := Ext) (w0 := w9) (G := fun τ => match τ with | 0 => none | _ => none) Ext.refl (fun h k => Ext.trans h k) (by kernel_rfl) (by kernel_rfl) xg (Ext.drew (by exact Ext.refl _)) ?_
                 repeat' (first
                  | ((with_reducible refine wpL_skip ?_ ?_ ?_)
                     · rfl
                     · rfl
                     simp only [putS])
                  | ((with_reducible refine wpL_quiet ?_ ?_ ?_ ?_)
                     · rfl
                     · rfl
                     · rfl
                     apply Exists.intro
                     refine ⟨fun W hW hS => ?_, ?_⟩
                     · have hC := (Ext.facts hW).1
                       go_simp
                       first | done | (with_reducible rfl) | (rw [if_neg (by omega)]; exact ⟨rfl, rfl⟩) | rfl
                     first | (with_reducible refine wpL_boolT ?_) | (with_reducible refine wpL_boolF ?_) | (with_reducible refine wpL_bool (fun hB => ?_) (fun hB => ?_)) | skip
                     all_goals simp only [putS]))
                 refine wpL_nil (fun w10 e10 hL => ?_);clear hL lb0 qb0_0 qb0_1 fb0_0 fb0_1 hca hcb dq a0 a1 b0 b1;have d10 : D g wa w10 := D.trans hd9 (D.of_ext e10 (by omega));go_wp2_with fail
                 refine (spec_l5Add (w.heap.size + 1) a b 2 w0.heap.size t9 _ (ht9.ext e10) (by omega)).mono ?_;rintro e w11 ⟨rfl, ⟨t11, ht11, hta11, htl11⟩, hf11⟩;have d11 : D g wa w11 := hf11 g wa d10 hga (by omega) (by omega);go_wp2_with fail
                 go_roundw
                 case rel => exact ⟨km, t11, by omega, by go_num, ht11, by rw [hta11]; exact HTA9.out, by omega, d11⟩
                 case measure => first | (simp [intOf]; done) | (simp [intOf]; omega)
               · have dq : (za == zb) = false := beq_eq_false_iff_ne.2 he
                 clear he;refine wp_region_L (E := Ext) (w0 := w9) (G := fun τ => match τ with | 0 => none | _ => none) Ext.refl (fun h k => Ext.trans h k) (by kernel_rfl) (by kernel_rfl) xg (Ext.drew (by exact Ext.refl _)) ?_
                 repeat' (first
                  | ((with_reducible refine wpL_skip ?_ ?_ ?_)
                     · rfl
                     · rfl
                     simp only [putS])
                  | ((with_reducible refine wpL_quiet ?_ ?_ ?_ ?_)
                     · rfl
                     · rfl
                     · rfl
                     apply Exists.intro
                     refine ⟨fun W hW hS => ?_, ?_⟩
                     · have hC := (Ext.facts hW).1
                       go_simp
                       first | done | (with_reducible rfl) | (rw [if_neg (by omega)]; exact ⟨rfl, rfl⟩) | rfl
                     first | (with_reducible refine wpL_boolT ?_) | (with_reducible refine wpL_boolF ?_) | (with_reducible refine wpL_bool (fun hB => ?_) (fun hB => ?_)) | skip
                     all_goals simp only [putS]))
                 refine wpL_nil (fun w10 e10 hL => ?_);clear hL lb0 qb0_0 qb0_1 fb0_0 fb0_1 hca hcb dq a0 a1 b0 b1;have d10 : D g wa w10 := D.trans hd9 (D.of_ext e10 (by omega));go_wp2_with fail
                 go_roundw
                 case rel => exact ⟨km, t9, by omega, by go_num, ht9.ext e10, HTA9.out, by omega, d10⟩
                 case measure => first | (simp [intOf]; done) | (simp [intOf]; omega)
             · go_wp2_with fail
               refine name_wp (fun W => (∃ t', Topo w0.heap.size W (w.heap.size + 1) t' ∧ (t'.ases.length = c1 + 1 + c2 ∧ KeysOk t'.ases) ∧ t'.links.length = t5.links.length) ∧ D g wa W) ⟨⟨t5, ht7, HTA5.out, rfl⟩, hd7⟩ ?_;rintro w9 ⟨⟨t9, ht9, hta9, htl9⟩, hd9⟩;have z9 := hd9.size;have HTA9 := Lib.hid hta9;obtain ⟨A0, q0, A1, q1, hb, h0, h1, hl⟩ := id ht9
               have hal : a < t9.ases.length := by omega
               have hbl : b < t9.ases.length := by omega
               obtain ⟨bk, off, hA, hbk, hka, hca, -, -⟩ := (ASSO_rd h0).at_ hal;subst hA;obtain ⟨bk2, off2, hA2, hbk2, hkb, hcb, -, -⟩ := (ASSO_rd h0).at_ hbl;cases hA2
               have a0 : (0 : Int) ≤ (a : Int) := by omega
               have a1 : (a : Int) < (t9.ases.length : Int) := by omega
               have b0 : (0 : Int) ≤ (b : Int) := by omega
               have b1 : (b : Int) < (t9.ases.length : Int) := by omega
               clear hta9;have HB := Lib.hid hb; clear hb h0 h1
               generalize t9.ases[a].isd = za at *
               generalize t9.ases[b].isd = zb at *
               have b0 := HB.out.ext (w' := w9) xe;have lb0 := b0.lt;obtain ⟨qb0_0, qb0_1⟩ := blk2 b0;have fb0_0 := b0.frozen 0;have fb0_1 := b0.frozen 1;clear b0;by_cases he : za = zb
               · have dq : (za == zb) = true := beq_iff_eq.2 he
                 clear he;refine wp_region_L (E := Ext) (w0 := w9) (G := fun τ => match τ with | 0 => none | _ => none) Ext.refl (fun h k => Ext.trans h k) (by kernel_rfl) (by kernel_rfl) xg (Ext.drew (by exact Ext.refl _)) ?_
                 repeat' (first
                  | ((with_reducible refine wpL_skip ?_ ?_ ?_)
                     · rfl
                     · rfl
                     simp only [putS])
                  | ((with_reducible refine wpL_quiet ?_ ?_ ?_ ?_)
                     · rfl
                     · rfl
                     · rfl
                     apply Exists.intro
                     refine ⟨fun W hW hS => ?_, ?_⟩
                     · have hC := (Ext.facts hW).1
                       go_simp
                       first | done | (with_reducible rfl) | (rw [if_neg (by omega)]; exact ⟨rfl, rfl⟩) | rfl
                     first | (with_reducible refine wpL_boolT ?_) | (with_reducible refine wpL_boolF ?_) | (with_reducible refine wpL_bool (fun hB => ?_) (fun hB => ?_)) | skip
                     all_goals simp only [putS]))
                 refine wpL_nil (fun w10 e10 hL => ?_);clear hL lb0 qb0_0 qb0_1 fb0_0 fb0_1 hca hcb dq a0 a1 b0 b1;have d10 : D g wa w10 := D.trans hd9 (D.of_ext e10 (by omega));go_wp2_with fail
                 refine (spec_l5Add (w.heap.size + 1) a b 2 w0.heap.size t9 _ (ht9.ext e10) (by omega)).mono ?_;rintro e w11 ⟨rfl, ⟨t11, ht11, hta11, htl11⟩, hf11⟩;have d11 : D g wa w11 := hf11 g wa d10 hga (by omega) (by omega);go_wp2_with fail
                 go_roundw
                 case rel => exact ⟨km, t11, by omega, by go_num, ht11, by rw [hta11]; exact HTA9.out, by omega, d11⟩
                 case measure => first | (simp [intOf]; done) | (simp [intOf]; omega)
               · have dq : (za == zb) = false := beq_eq_false_iff_ne.2 he
                 clear he;refine wp_region_L (E := Ext) (w0 := w9) (G := fun τ => match τ with | 0 => none | _ => none) Ext.refl (fun h k => Ext.trans h k) (by kernel_rfl) (by kernel_rfl) xg (Ext.drew (by exact Ext.refl _)) ?_
                 repeat' (first
                  | ((with_reducible refine wpL_skip ?_ ?_ ?_)
                     · rfl
                     · rfl
                     simp only [putS])
                  | ((with_reducible refine wpL_quiet ?_ ?_ ?_ ?_)
                     · rfl
                     · rfl
                     · rfl
                     apply Exists.intro
                     refine ⟨fun W hW hS => ?_, ?_⟩
                     · have hC := (Ext.facts hW).1
                       go_simp
                       first | done | (with_reducible rfl) | (rw [if_neg (by omega)]; exact ⟨rfl, rfl⟩) | rfl
                     first | (with_reducible refine wpL_boolT ?_) | (with_reducible refine wpL_boolF ?_) | (with_reducible refine wpL_bool (fun hB => ?_) (fun hB => ?_)) | skip
                     all_goals simp only [putS]))
                 refine wpL_nil (fun w10 e10 hL => ?_);clear hL lb0 qb0_0 qb0_1 fb0_0 fb0_1 hca hcb dq a0 a1 b0 b1;have d10 : D g wa w10 := D.trans hd9 (D.of_ext e10 (by omega));go_wp2_with fail
                 go_roundw
                 case rel => exact ⟨km, t9, by omega, by go_num, ht9.ext e10, HTA9.out, by omega, d10⟩
                 case measure => first | (simp [intOf]; done) | (simp [intOf]; omega)
           · obtain rfl : kk = 0 := by omega
             have i2 : ¬ (0 : Int) < ((0 : Nat) : Int) := by omega
             clear hta5;go_wp2_with fail
             clear i2;refine (spec_l1Below g ((b : Int) - (1 + (c1 : Int)) + 1) _ (hd5.cur HCA.out) (by omega)).mono ?_;rintro e w6 ⟨x6, rfl, ⟨x6a, x6b, -⟩, d6⟩;have x6b := x6b (by omega);have ht6 := ht5.d d6 (by omega) hne;have hd6 : D g wa w6 := D.trans hd5 d6;have z6 := d6.size;by_cases ha : 1 + (c1 : Int) + x6 < (b : Int)
             · go_wp2_with fail
               refine (spec_l1Once g 3 _ (hd6.cur HCA.out) (by omega)).mono ?_;rintro e w7 ⟨y7, rfl, d7⟩;have ht7 := ht6.d d7 (by omega) hne;have hd7 : D g wa w7 := D.trans hd6 d7;cases y7
               · go_wp2_with fail
                 go_roundw
                 case rel => exact ⟨b + 1, t5, by omega, by omega, by go_num, ht7, HTA5.out, by omega, hd7⟩
                 case measure => first | (simp [intOf]; done) | (simp [intOf]; omega)
               · go_wp2_with fail
                 refine (spec_l5Add (w.heap.size + 1) (1 + (c1 : Int) + x6) b 3 w0.heap.size t5 _ ht7 (by omega)).mono ?_;rintro e w11 ⟨rfl, ⟨t11, ht11, hta11, htl11⟩, hf11⟩;have d11 : D g wa w11 := hf11 g wa hd7 hga (by omega) (by omega);go_wp2_with fail
                 go_roundw
                 case rel => exact ⟨b + 1, t11, by omega, by omega, by go_num, ht11, by rw [hta11]; exact HTA5.out, by omega, d11⟩
                 case measure => first | (simp [intOf]; done) | (simp [intOf]; omega)
             · go_wp2_with fail
               go_roundw
               case rel => exact ⟨b + 1, t5, by omega, by omega, by go_num, ht6, HTA5.out, by omega, hd6⟩
               case measure => first | (simp [intOf]; done) | (simp [intOf]; omega)
        · have hb5 : b = c1 + 1 + c2 := by omega
          subst hb5
          have i1 : ¬ ((c1 + 1 + c2 : Nat) : Int) < (t3.ases.length : Int) := by omega
          clear hta3
          obtain ⟨w3, hw3⟩ : ∃ w3, w3 = wr := ⟨_, rfl⟩
          subst hw3
          have hg3 : g < w3.heap.size := by omega
          have b0 := HB.out.ext (w' := w3) xe;have lb0 := b0.lt;obtain ⟨qb0_0, qb0_1⟩ := blk2 b0;have fb0_0 := b0.frozen 0;have fb0_1 := b0.frozen 1;clear b0;go_wp2_with fail
          clear lb0 qb0_0 qb0_1 fb0_0 fb0_1 i1;refine name_wp (fun W => Ext w3 W ∧ LinkSO w3.heap.size W.heap.size W (.slice (some ⟨w3.heap.size, 0, none⟩) 0 0) []) ⟨xe, own_zero' _ _ _ _ _ rfl (Nat.le_refl _)⟩ ?_;rintro w5 ⟨e5, hz⟩;have HZ := Lib.hid hz; clear hz
          go_loopw [12, 13] (fun v i wr => ∃ (k : Nat) (l : List DLink), k ≤ t3.links.length ∧ i = I k ∧ LinkSO w3.heap.size wr.heap.size wr v l ∧ l.length ≤ k ∧ Ext w3 wr) (fun _ i _ => t3.links.length - (intOf i).toNat)
          case atStart => exact ⟨0, [], by omega, rfl, HZ.out, by simp, e5⟩
          case round =>
           obtain ⟨k, l, hk, rfl, hl5, hll, he⟩ := hrel;obtain ⟨av, nv, cv, hvv⟩ := hl5.slice;subst hvv;obtain ⟨hnv, -⟩ := NO.row hl5;subst hnv;have HL5 := Lib.hid hl5; clear hl5;have zr5 := he.size;by_cases hlk : k < t3.links.length
           · obtain ⟨bk, off, hA, hbk, hkl, hc⟩ := (LinkSO_rd H1.out).at_ hlk
             generalize t3.links[k] = u at *
             subst hA;obtain ⟨hu_0, hu_1, hu_2, hu_3, hu_4⟩ := hc
             have k0 : (0 : Int) ≤ (k : Int) := by omega
             have k1 : (k : Int) < (t3.links.length : Int) := by omega
             have hbr : bk < wr.heap.size := by omega
             obtain ⟨ku_0, ku_1, ku_2, ku_3, ku_4⟩ := And.intro ((Ext.cell (a := w3) (b := wr) xe hbk).trans hu_0) (And.intro ((Ext.cell (a := w3) (b := wr) xe hbk).trans hu_1) (And.intro ((Ext.cell (a := w3) (b := wr) xe hbk).trans hu_2) (And.intro ((Ext.cell (a := w3) (b := wr) xe hbk).trans hu_3) ((Ext.cell (a := w3) (b := wr) xe hbk).trans hu_4))));have HTV := Lib.hid (topoV H0.out H1.out);have b0 := HB.out.ext (w' := wr) xe;have lb0 := b0.lt;obtain ⟨qb0_0, qb0_1⟩ := blk2 b0;have fb0_0 := b0.frozen 0;have fb0_1 := b0.frozen 1;clear b0;cases hok : linkOk t3 u
             · have HOK := Lib.hid hok; clear hok
               go_wp2_with fail
               refine wp_region_L (E := Ext) (w0 := wr) (G := fun τ => match τ with | 141 => some (fun v W => v = .bool false) | _ => none) Ext.refl (fun h k => Ext.trans h k) (by kernel_rfl) (by kernel_rfl) xg (Ext.drew (by exact Ext.refl _)) ?_
               repeat' (first
                | ((with_reducible refine wpL_skip ?_ ?_ ?_)
                   · rfl
                   · rfl
                   simp only [putS])
                | ((with_reducible refine wpL_quiet ?_ ?_ ?_ ?_)
                   · rfl
                   · rfl
                   · rfl
                   apply Exists.intro
                   refine ⟨fun W hW hS => ?_, ?_⟩
                   · have hC := (Ext.facts hW).1
                     go_simp
                     first | done | (with_reducible rfl) | (rw [if_neg (by omega)]; exact ⟨rfl, rfl⟩) | rfl
                   first | (with_reducible refine wpL_boolT ?_) | (with_reducible refine wpL_boolF ?_) | (with_reducible refine wpL_bool (fun hB => ?_) (fun hB => ?_)) | skip
                   all_goals simp only [putS])
                | ((refine wpL_call ?_ rfl rfl ?_ ?_ ?_)
                   · rfl
                   · rfl
                   · intro W hW hS
                     have hC := (Ext.facts hW).1;unfold growAt
                     go_simp
                     simp only [growUpon]
                     first | (go_at_call 110; (with_reducible refine Calls.mono (spec_l5LinkOk _ u t3 _ (by exact HTV.out.ext xe)) ?_); rintro e w9 ⟨rfl, e9⟩; exact ⟨_, rfl, e9, by rw [HOK.out]⟩)
                   first | (with_reducible refine wpL_boolT ?_) | (with_reducible refine wpL_boolF ?_) | (with_reducible refine wpL_bool (fun hB => ?_) (fun hB => ?_)) | skip
                   all_goals simp only [putS])
                | ((refine wpL_grow ?_ rfl rfl ?_ ?_)
                   · rfl
                   · intro W hW hS
                     have hC := (Ext.facts hW).1;unfold growAt
                     go_simp
                     simp only [growUpon]
                     first | (go_at_call 110; (with_reducible refine Calls.mono (spec_l5LinkOk _ u t3 _ (by exact HTV.out.ext xe)) ?_); rintro e w9 ⟨rfl, e9⟩; exact ⟨_, rfl, e9, by rw [HOK.out]⟩)
                   intro v W' hW' hv
                   first | (subst hv) | (obtain ⟨A5, n5, c5, rfl, -⟩ := id hv; clear hv) | (obtain ⟨A5, n5, c5, rfl⟩ := NO.slice hv) | skip
                   all_goals simp only [putS]))
               refine wpL_nil (fun w6 e6 hL => ?_);clear hL;go_wp2_with fail
               go_roundw
               case rel => exact ⟨k + 1, l, by omega, by go_num, Own.more (Own.ext HL5.out e6 (Nat.le_refl _)) (Nat.le_refl _) e6.size, by omega, xe⟩
               case measure => first | (simp [intOf]; done) | (simp [intOf]; omega)
             · have HOK := Lib.hid hok; clear hok
               go_wp2_with fail
               refine wp_region_L (E := Ext) (w0 := wr) (G := fun τ => match τ with | 141 => some (fun v W => v = .bool true) | _ => none) Ext.refl (fun h k => Ext.trans h k) (by kernel_rfl) (by kernel_rfl) xg (Ext.drew (by exact Ext.refl _)) ?_
               repeat' (first
                | ((with_reducible refine wpL_skip ?_ ?_ ?_)
                   · rfl
                   · rfl
                   simp only [putS])
                | ((with_reducible refine wpL_quiet ?_ ?_ ?_ ?_)
                   · rfl
                   · rfl
                   · rfl
                   apply Exists.intro
                   refine ⟨fun W hW hS => ?_, ?_⟩
                   · have hC := (Ext.facts hW).1
                     go_simp
                     first | done | (with_reducible rfl) | (rw [if_neg (by omega)]; exact ⟨rfl, rfl⟩) | rfl
                   first | (with_reducible refine wpL_boolT ?_) | (with_reducible refine wpL_boolF ?_) | (with_reducible refine wpL_bool (fun hB => ?_) (fun hB => ?_)) | skip
                   all_goals simp only [putS])
                | ((refine wpL_call ?_ rfl rfl ?_ ?_ ?_)
                   · rfl
                   · rfl
                   · intro W hW hS
                     have hC := (Ext.facts hW).1;unfold growAt
                     go_simp
                     simp only [growUpon]
                     first | (go_at_call 110; (with_reducible refine Calls.mono (spec_l5LinkOk _ u t3 _ (by exact HTV.out.ext xe)) ?_); rintro e w9 ⟨rfl, e9⟩; exact ⟨_, rfl, e9, by rw [HOK.out]⟩)
                   first | (with_reducible refine wpL_boolT ?_) | (with_reducible refine wpL_boolF ?_) | (with_reducible refine wpL_bool (fun hB => ?_) (fun hB => ?_)) | skip
                   all_goals simp only [putS])
                | ((refine wpL_grow ?_ rfl rfl ?_ ?_)
                   · rfl
                   · intro W hW hS
                     have hC := (Ext.facts hW).1;unfold growAt
                     go_simp
                     simp only [growUpon]
                     first | (go_at_call 110; (with_reducible refine Calls.mono (spec_l5LinkOk _ u t3 _ (by exact HTV.out.ext xe)) ?_); rintro e w9 ⟨rfl, e9⟩; exact ⟨_, rfl, e9, by rw [HOK.out]⟩)
                   intro v W' hW' hv
                   first | (subst hv) | (obtain ⟨A5, n5, c5, rfl, -⟩ := id hv; clear hv) | (obtain ⟨A5, n5, c5, rfl⟩ := NO.slice hv) | skip
                   all_goals simp only [putS]))
               refine wpL_nil (fun w6 e6 hL => ?_);clear hL ku_0 ku_1 ku_2 ku_3 ku_4 lb0 qb0_0 qb0_1 fb0_0 fb0_1;have z6 := e6.size;obtain ⟨ku_0, ku_1, ku_2, ku_3, ku_4⟩ := And.intro ((Ext.cell (a := w3) (b := w6) xe hbk).trans hu_0) (And.intro ((Ext.cell (a := w3) (b := w6) xe hbk).trans hu_1) (And.intro ((Ext.cell (a := w3) (b := w6) xe hbk).trans hu_2) (And.intro ((Ext.cell (a := w3) (b := w6) xe hbk).trans hu_3) ((Ext.cell (a := w3) (b := w6) xe hbk).trans hu_4))));have b0 := HB.out.ext (w' := w6) xe;have lb0 := b0.lt;obtain ⟨qb0_0, qb0_1⟩ := blk2 b0;have fb0_0 := b0.frozen 0;have fb0_1 := b0.frozen 1;clear b0;go_wp2_with (at_builtin; refine hold ?_)
               refine unhold (wpList_appL w3.heap.size rfl (.tmp 142) (.tmp 148) _ rfl 125 _ 5 40 Tryz.underlying25 info_Link rfl (by omega) (.slice av l.length cv) l.length (l.flatMap LinkC) rfl _ 1 1 _ rfl (by exact (Own.ext HL5.out (w' := w6.alloc _) xe (Nat.le_refl _)).lt_size) (row_one _ _ _ _ _ (by first | rfl | simp) rfl) (one_Link [u]) (by simp only [World.size_alloc]; omega) (by unfold maxLen; omega) (by omega) ?_);intro v8 w8 o8 hg8
               have h57 := (Own.ext HL5.out (w' := w6.alloc (.cells #[I u.a, I u.ai, I u.b, I u.bi, I u.kind] 125)) xe (Nat.le_refl _))
               have E8 := Lib.hid (Ext.grownB (a := w3) (w := w6.alloc (.cells #[I u.a, I u.ai, I u.b, I u.bi, I u.kind] 125)) xe h57 hg8 (Nat.le_refl _))
               have o9 : LinkSO w3.heap.size w8.heap.size w8 v8 (l ++ [u]) := by
                unfold LinkSO;rw [List.length_append, List.length_singleton, List.flatMap_append];exact o8
               have O9 := Lib.hid o9; clear o8 o9 hg8 h57;go_wp2_with (at_builtin; refine hold ?_)
               go_roundw
               case rel => exact ⟨k + 1, l ++ [u], by omega, by go_num, O9.out, by simp; omega, E8.out⟩
               case measure => first | (simp [intOf]; done) | (simp [intOf]; omega)
           · obtain rfl : k = t3.links.length := by omega
             have k1 : ¬ (t3.links.length : Int) < (t3.links.length : Int) := by omega
             have BRr := Lib.hid ((BR.out.d hd3 (by omega)).ext he);have b0 := HB.out.ext (w' := wr) xe;have lb0 := b0.lt;obtain ⟨qb0_0, qb0_1⟩ := blk2 b0;have fb0_0 := b0.frozen 0;have fb0_1 := b0.frozen 1;clear b0;have b9 := BRr.out.ext (w' := wr) xe;have lb9 := b9.lt;obtain ⟨qb9_0, qb9_1⟩ := blk2 b9;have fb9_0 := b9.frozen 0;have fb9_1 := b9.frozen 1;clear b9;go_wp2_with fail
             refine bodyPost_ret (v := .agg #[.slice A0 t3.ases.length q0, .slice av l.length cv]) (by simp [results, Tryz.results71, go_sem, *]) rfl ⟨_, rfl, ⟨⟨t3.ases, l⟩, ⟨_, _, w3.heap.size, rfl, ?_, ?_, by omega, by simp only [World.size_setCell]; omega⟩, ?_⟩, ?_⟩
             · exact Own.more (Own.setCell (Own.setCell (Own.setCell (Own.ext H0.out he (Nat.le_refl _)) (.inl (by dsimp only; omega)) _) (.inl (by dsimp only; omega)) _) (.inl (by dsimp only; omega)) _) (by omega) (Nat.le_refl _)
             · simp only [World.size_setCell]
               exact Own.setCell (Own.setCell (Own.setCell HL5.out (.inl (by dsimp only; omega)) _) (.inl (by dsimp only; omega)) _) (.inl (by dsimp only; omega)) _
             · have h9 := HTA3.out
               exact ⟨by dsimp only; omega, by dsimp only; omega, by dsimp only; omega, h9.2⟩
             · exact D.setNew (D.setNew (D.setNew (D.trans da (D.trans hd3 (D.of_ext he hg3))) hgw (by dsimp only; omega) _) hgw (by dsimp only; omega) _) hgw (by dsimp only; omega) _
end Go.Proofs.YtmopmgaeiokfjaaGreat
