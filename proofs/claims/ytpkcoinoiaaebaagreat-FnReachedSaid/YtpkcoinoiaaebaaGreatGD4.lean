/- Words for draws: a cursor over bytes, which calls turn, and what stays beside it. No conditions. -/
import Derived.Test.YtpkcoinoiaaebaaGreatGCore
import Derived.Test.YtpkcoinoiaaebaaGreatGGrow
import Derived.Laws.BitsAllLaws
import Derived.Laws.Bits128
import Derived.Test.YtpkcoinoiaaebaaGreatGHT
import Derived.Test.YtpkcoinoiaaebaaGreatGL5
namespace Go.Proofs.YtpkcoinoiaaebaaGreat
open Go.RowKit
set_option linter.unusedVariables false
/-- One byte. -/
def ByteAt (_B : Nat) (w : World) (b o : Nat) (x : Nat) : Prop := w.cell? ⟨b, o, none⟩ = some (.int .u8 (x : Int)) ∧ x < 256
theorem ByteAt.keeps : Keeps ByteAt := fun _ _ _ _ _ _ _ _ hs hb h => ⟨(hs.cell hb).trans h.1, h.2⟩
/-- A []byte. -/
abbrev ByteS := Sl ByteAt (fun k => k)
/-- A cursor in block g: bytes in blocks below B, a place among them or behind them, a number. -/
def CurB (B : Nat) (w : World) (g : Nat) : Prop := ∃ (A : Option Addr) (n c i : Nat) (h : Int) (bs : List Nat), Blk w g 74 [.slice A n c, I i, I h] ∧ i ≤ n ∧ n ≤ 1048576 ∧ ByteS B w (.slice A n c) bs ∧ B ≤ g
abbrev Cur (w : World) (g : Nat) : Prop := CurB g w g
theorem CurB.lt {B : Nat} {w : World} {g : Nat} (h : CurB B w g) : g < w.heap.size := by
  obtain ⟨A, n, c, i, h, bs, hb, _⟩ := h
  exact hb.lt
theorem CurB.keep {B : Nat} {w w' : World} {g : Nat} (h : CurB B w g) (hg : w'.heap[g]? = w.heap[g]?) (hs : ∀ k, k < B → w'.heap[k]? = w.heap[k]?) : CurB B w' g := by
  obtain ⟨A, n, c, i, h, bs, hb, h1, h2, h3, h4⟩ := h
  exact ⟨A, n, c, i, h, bs, hg.trans hb, h1, h2, h3.keep ByteAt.keeps (Nat.le_refl _) fun k hk => hs k hk, h4⟩
theorem CurB.all {B : Nat} {w w' : World} {g : Nat} (h : CurB B w g) (hs : ∀ k, k ≤ g → w'.heap[k]? = w.heap[k]?) : CurB B w' g := by
  have hB : B ≤ g := by obtain ⟨A, n, c, i, h, bs, _, _, _, _, h4⟩ := h; exact h4
  exact h.keep (hs g (Nat.le_refl _)) fun k hk => hs k (by omega)
theorem CurB.cur {B : Nat} {w : World} {g : Nat} (h : CurB B w g) : Cur w g := by
  obtain ⟨A, n, c, i, h, bs, hb, h1, h2, h3, h4⟩ := h
  exact ⟨A, n, c, i, h, bs, hb, h1, h2, h3.keep ByteAt.keeps h4 fun k hk => rfl, Nat.le_refl _⟩
theorem CurB.bytes {B : Nat} {w : World} {g : Nat} (x : CurB B w g) {A : Option Addr} {n c i : Nat} {h : Int} (hb : Blk w g 74 [.slice A n c, I i, I h]) : ∃ bs, ByteS B w (.slice A n c) bs ∧ B ≤ g := by
  obtain ⟨A', n', c', i', h', bs, hb', h1, h2, h3, h4⟩ := x
  have e := Option.some.inj (hb'.symm.trans hb)
  have e2 : ([.slice A' n' c', I i', I h'] : List Value).toArray = [.slice A n c, I i, I h].toArray := (Obj.cells.inj e).1
  have e3 := congrArg Array.toList e2
  simp only [List.cons.injEq, Value.slice.injEq] at e3
  obtain ⟨⟨rfl, rfl, rfl⟩, -⟩ := e3
  exact ⟨bs, h3, h4⟩
/-- Only the cursor's block may have turned of what there was; the cursor is one still. -/
structure D (g : Nat) (a b : World) : Prop where
  out : Out g (g + 1) a b
  cur : ∀ {B : Nat}, CurB B a g → CurB B b g
section
variable {g : Nat} {a b c w w' : World}
theorem D.refl (g : Nat) (a : World) : D g a a := ⟨Out.refl _ _ _, fun h => h⟩
theorem D.trans (h : D g a b) (k : D g b c) : D g a c := ⟨h.out.trans k.out, fun x => k.cur (h.cur x)⟩
theorem D.size (h : D g a b) : a.heap.size ≤ b.heap.size := h.out.size
theorem D.block (h : D g a b) {k : Nat} (hk : k < a.heap.size) (hn : k ≠ g) : b.heap[k]? = a.heap[k]? := h.out.block k hk (by omega)
theorem D.cell (h : D g a b) {k o : Nat} (hk : k < a.heap.size) (hn : k ≠ g) : b.cell? ⟨k, o, none⟩ = a.cell? ⟨k, o, none⟩ := World.cell?_of_block (w := a) (a := ⟨k, o, none⟩) (h.block hk hn)
theorem frozen_of_block {w w' : World} {k o : Nat} (h : w'.heap[k]? = w.heap[k]?) : w'.frozen? ⟨k, o, none⟩ = w.frozen? ⟨k, o, none⟩ := by
  simp only [World.frozen?, h]
theorem D.facts (h : D g a b) : (∀ k o, k < a.heap.size → k ≠ g → b.cell? ⟨k, o, none⟩ = a.cell? ⟨k, o, none⟩) ∧ (∀ k o, k < a.heap.size → k ≠ g → b.frozen? ⟨k, o, none⟩ = a.frozen? ⟨k, o, none⟩) ∧ a.heap.size ≤ b.heap.size :=
  ⟨fun _ _ hk hn => h.cell hk hn, fun _ _ hk hn => frozen_of_block (h.block hk hn), h.size⟩
theorem D.of_ext (h : Ext a b) (hg : g < a.heap.size) : D g a b := ⟨Out.of_ext h, fun x => x.all fun k hk => h.same k (by omega)⟩
theorem D.alloc (h : D g a w) (hg : g < a.heap.size) (o : Obj) : D g a (w.alloc o) := h.trans (D.of_ext ((Ext.refl _).alloc o) (Nat.lt_of_lt_of_le hg h.size))
theorem D.drew (h : D g a w) : D g a w.drew := ⟨⟨h.out.os, h.out.tape, h.out.output, h.out.size, h.out.block⟩, fun x => (h.cur x).all fun _ _ => rfl⟩
theorem D.setNew (h : D g a w) (hg : g < a.heap.size) {p : Addr} (hp : a.heap.size ≤ p.block) (u : Value) : D g a (w.setCell p u) := by
  refine ⟨⟨h.out.os, h.out.tape, h.out.output, by simp only [World.size_setCell]; exact h.out.size, fun k hk hn => ?_⟩, fun x => (h.cur x).all fun k hk => Below.heap_setCell _ _ _ _ (by omega)⟩
  rw [Below.heap_setCell _ _ _ _ (by omega)]
  exact h.out.block k hk hn
theorem D.grown {row : Option Nat} (h : D g a w) (hg : g < a.heap.size) (hw : w.grownBy b row) (hr : ∀ k, row = some k → a.heap.size ≤ k) : D g a b := by
  have hb : Below a.heap.size w b := Below.grown (Below.refl _ _) hw h.size hr
  refine ⟨⟨hb.os.trans h.out.os, hb.tape.trans h.out.tape, hb.output.trans h.out.output, Nat.le_trans h.size hb.size, fun k hk hn => (hb.block k hk).trans (h.out.block k hk hn)⟩, fun x => (h.cur x).all fun k hk => hb.block k (by omega)⟩
/-- Where the cursor is new, memory has only grown. -/
theorem D.ext (h : D g b c) (hb : Ext a b) (hg : a.heap.size ≤ g) : Ext a c := by
  have h1 : Below a.heap.size b c := ⟨h.out.os, h.out.tape, h.out.output, h.size, fun k hk => h.block (Nat.lt_of_lt_of_le hk hb.size) (by omega)⟩
  have h2 : Below a.heap.size a b := hb.below
  unfold Ext
  exact Below.trans h2 h1
theorem Blk.d {k : Nat} {t : TypeId} {cs : List Value} (h : Blk w k t cs) (hd : D g w w') (hn : k ≠ g) : Blk w' k t cs := (hd.block h.lt hn).trans h
theorem Own.d {E sz lo hi n : Nat} {v : Value} {cs : List Value} (h : Own E sz lo hi w v n cs) (hd : D g w w') (hg : g < lo) : Own E sz lo hi w' v n cs := h.keep fun k h1 _ h3 => hd.block h3 (by omega)
theorem Own.dUp {E sz lo n : Nat} {v : Value} {cs : List Value} (h : Own E sz lo w.heap.size w v n cs) (hd : D g w w') (hg : g < lo) : Own E sz lo w'.heap.size w' v n cs := (h.d hd hg).more (Nat.le_refl _) hd.size
theorem NO.d {α : Type} {OC : World → List Nat → List Value → α → Prop} {E sz lo hi : Nat} {v : Value} {ds : List α} (hK : OKeeps OC) (h : NO OC E sz lo hi w v ds) (hd : D g w w') (hg : g < lo) : NO OC E sz lo hi w' v ds := NO.keep hK h fun k h1 _ h3 => hd.block h3 (by omega)
end
/-- Found from what lies in the context; g < the first world's size is wanted as a plain fact. -/
theorem xd {g : Nat} {a b : World} (h : D g a b := by repeat (first | (with_reducible exact D.refl _ _) | (with_reducible assumption) | (with_reducible refine D.alloc ?_ (by omega) _) | (with_reducible refine D.drew ?_) | (with_reducible refine D.setNew (p := _) ?_ (by omega) ?ge _; case ge => (dsimp only; omega)) | (with_reducible refine D.trans ?_ (by with_reducible assumption)) | (with_reducible refine D.trans ?_ (D.of_ext (by with_reducible assumption) (by omega))))) : D g a b := h
end Go.Proofs.YtpkcoinoiaaebaaGreat
namespace Go.Proofs.YtpkcoinoiaaebaaGreat
open Go.RowKit
set_option linter.unusedVariables false
theorem i64_and255 (n : Int) : bits .and .i64 n 255 = n % 256 := by
  have h255 : (BitVec.ofInt 64 255).toNat = 2 ^ 8 - 1 := by decide
  have key : (BitVec.ofInt 64 n &&& BitVec.ofInt 64 255).toNat = (n % ((2 ^ 64 : Nat) : Int)).toNat % 2 ^ 8 := by
    rw [BitVec.toNat_and, BitVec.toNat_ofInt, h255, Nat.and_two_pow_sub_one_eq_mod]
  show IntKind.i64.wrap ((BitVec.ofInt 64 n &&& BitVec.ofInt 64 255).toNat : Nat) = n % 256
  rw [key, IntKind.wrap_i64]
  omega
theorem and255_in (n : Int) : 0 ≤ bits .and .i64 n 255 ∧ bits .and .i64 n 255 ≤ 255 := by rw [i64_and255]; omega
theorem tmodIn {x n : Int} (h0 : 0 ≤ x) (hn : 0 < n) : 0 ≤ x.tmod n ∧ (0 < n → x.tmod n < n) ∧ (n ≤ 0 → x.tmod n = 0) := by
  rw [Int.tmod_eq_emod_of_nonneg h0]
  exact ⟨Int.emod_nonneg _ (by omega), fun _ => Int.emod_lt_of_pos _ hn, fun h => by omega⟩
theorem emodIn {x n : Int} (hn : 0 < n) : 0 ≤ x % n ∧ (0 < n → x % n < n) ∧ (n ≤ 0 → x % n = 0) := ⟨Int.emod_nonneg _ (by omega), fun _ => Int.emod_lt_of_pos _ hn, fun h => by omega⟩
set_option maxRecDepth 100000 in
set_option maxHeartbeats 1000000 in
theorem spec_l1Byte (g : Nat) (w : World) (hc : Cur w g) : Calls Tryz.prog 34 #[.pointer (some ⟨g, 0, none⟩)] w fun e w' => ∃ x : Int, e = .returned (I x) ∧ (0 ≤ x ∧ x ≤ 255) ∧ D g w w' := by
  obtain ⟨A, n, c, i, h, bs, hb, hi, hn, hbs, -⟩ := hc
  have HB := Lib.hid hb; have HBS := Lib.hid hbs; clear hb hbs
  have hgw := HB.out.lt
  have b0 := HB.out.ext (w' := w) xe
  have lb0 := b0.lt
  obtain ⟨qb0_0, qb0_1, qb0_2⟩ := blk3 b0
  have fb0_0 := b0.frozen 0
  have fb0_1 := b0.frozen 1
  have fb0_2 := b0.frozen 2
  clear b0
  go_enter Tryz.func34, Tryz.ntmps34
  go_wp2_with fail
  generalize wrap64 (wrap64 (h * 6364136223846793005) + 1442695040888963407) = h2
  refine name_wp (fun W => Out g (g + 1) w W ∧ Blk W g 74 [.slice A n c, I i, I h2] ∧ ByteS g W (.slice A n c) bs) ⟨(Out.refl _ _ _).setCell (p := ⟨g, 2, none⟩) (Nat.le_refl _) (Nat.lt_succ_self _) _, by simpa using HB.out.set_ 2 (I h2), HBS.out.keep ByteAt.keeps (Nat.le_refl _) (fun k hk => Below.heap_setCell _ _ _ _ (by dsimp only; omega))⟩ ?_
  clear lb0 qb0_0 qb0_1 qb0_2 fb0_0 fb0_1 fb0_2
  rintro w1 ⟨ho1, hb1, hbs1⟩
  have HO1 := Lib.hid ho1; have HB1 := Lib.hid hb1; have HBS1 := Lib.hid hbs1; clear ho1 hb1 hbs1
  have hg1 := HB1.out.lt
  have b1 := HB1.out.ext (w' := w1) xe
  have lb1 := b1.lt
  obtain ⟨qb1_0, qb1_1, qb1_2⟩ := blk3 b1
  have fb1_0 := b1.frozen 0
  have fb1_1 := b1.frozen 1
  have fb1_2 := b1.frozen 2
  clear b1
  refine wp_region_L (E := Ext) (w0 := w1) (G := fun τ => match τ with | 0 => none | _ => none) Ext.refl (fun h k => Ext.trans h k) (by kernel_rfl) (by kernel_rfl) xg (Ext.drew (by exact Ext.refl _)) ?_
  repeat' (first
    | ((with_reducible refine wpL_skip ?_ ?_ ?_)
       · rfl
       · rfl
       simp only [Act.put, List.setIfInBounds_toArray, List.set_cons_zero, List.set_cons_succ])
    | ((with_reducible refine wpL_quiet ?_ ?_ ?_ ?_)
       · rfl
       · rfl
       · rfl
       apply Exists.intro
       refine ⟨fun W hW hS => ?_, ?_⟩
       · have hC := (Ext.facts hW).1
         go_simp
         first | done | (with_reducible rfl) | (rw [if_neg (by omega)]; exact ⟨rfl, rfl⟩) | rfl
       first | (with_reducible refine wpL_boolT ?_) | (with_reducible refine wpL_boolF ?_) | (with_reducible refine wpL_bool (fun hB => ?_) (fun hB => ?_)) | skip
       all_goals simp only [Act.put, List.setIfInBounds_toArray, List.set_cons_zero, List.set_cons_succ]))
  refine wpL_nil (fun w2 e2 hL => ?_)
  clear hL lb1 qb1_0 qb1_1 qb1_2 fb1_0 fb1_1 fb1_2
  obtain ⟨x0, x1⟩ := and255_in (bits BinOp.xor IntKind.i64 (h2 / 8589934592) (h2 / 140737488355328))
  generalize bits BinOp.and IntKind.i64 (bits BinOp.xor IntKind.i64 (h2 / 8589934592) (h2 / 140737488355328)) 255 = X at *
  have hg2 : g < w2.heap.size := by have := e2.size; omega
  have b2 := HB1.out.ext (w' := w2) xe
  have lb2 := b2.lt
  obtain ⟨qb2_0, qb2_1, qb2_2⟩ := blk3 b2
  have fb2_0 := b2.frozen 0
  have fb2_1 := b2.frozen 1
  have fb2_2 := b2.frozen 2
  clear b2
  have i0 : (0 : Int) ≤ (i : Int) := by omega
  by_cases hlt : i < n
  · have i1 : (i : Int) < (n : Int) := by omega
    go_wp2_with fail
    refine wp_region_L (E := Ext) (w0 := w2) (G := fun τ => match τ with | 0 => none | _ => none) Ext.refl (fun h k => Ext.trans h k) (by kernel_rfl) (by kernel_rfl) xg (Ext.drew (by exact Ext.refl _)) ?_
    repeat' (first
      | ((with_reducible refine wpL_skip ?_ ?_ ?_)
         · rfl
         · rfl
         simp only [Act.put, List.setIfInBounds_toArray, List.set_cons_zero, List.set_cons_succ])
      | ((with_reducible refine wpL_quiet ?_ ?_ ?_ ?_)
         · rfl
         · rfl
         · rfl
         apply Exists.intro
         refine ⟨fun W hW hS => ?_, ?_⟩
         · have hC := (Ext.facts hW).1
           go_simp
           first | done | (with_reducible rfl) | (rw [if_neg (by omega)]; exact ⟨rfl, rfl⟩) | rfl
         first | (with_reducible refine wpL_boolT ?_) | (with_reducible refine wpL_boolF ?_) | (with_reducible refine wpL_bool (fun hB => ?_) (fun hB => ?_)) | skip
         all_goals simp only [Act.put, List.setIfInBounds_toArray, List.set_cons_zero, List.set_cons_succ]))
    refine wpL_nil (fun w3 e3 hL => ?_)
    clear hL lb2 qb2_0 qb2_1 qb2_2 fb2_0 fb2_1 fb2_2
    have z2 := e2.size; have z3 := e3.size
    have hg3 : g < w3.heap.size := by omega
    obtain ⟨b, off, rfl, hb, hkl, hc1, hc2⟩ := HBS1.out.at_ hlt
    have hb3 : b < w3.heap.size := by omega
    have ku := (Ext.cell (a := w1) (b := w3) xe (by omega : b < w1.heap.size)).trans hc1
    have hbx : (bs[i] : Nat) < 256 := hc2
    generalize bs[i] = y at *
    have b3 := HB1.out.ext (w' := w3) xe
    have lb3 := b3.lt
    obtain ⟨qb3_0, qb3_1, qb3_2⟩ := blk3 b3
    have fb3_0 := b3.frozen 0
    have fb3_1 := b3.frozen 1
    have fb3_2 := b3.frozen 2
    clear b3
    go_wp2_with fail
    refine wp_region_L (E := Ext) (w0 := w3) (G := fun τ => match τ with | 0 => none | _ => none) Ext.refl (fun h k => Ext.trans h k) (by kernel_rfl) (by kernel_rfl) xg (Ext.drew (by exact Ext.refl _)) ?_
    repeat' (first
      | ((with_reducible refine wpL_skip ?_ ?_ ?_)
         · rfl
         · rfl
         simp only [Act.put, List.setIfInBounds_toArray, List.set_cons_zero, List.set_cons_succ])
      | ((with_reducible refine wpL_quiet ?_ ?_ ?_ ?_)
         · rfl
         · rfl
         · rfl
         apply Exists.intro
         refine ⟨fun W hW hS => ?_, ?_⟩
         · have hC := (Ext.facts hW).1
           go_simp
           first | done | (with_reducible rfl) | (rw [if_neg (by omega)]; exact ⟨rfl, rfl⟩) | rfl
         first | (with_reducible refine wpL_boolT ?_) | (with_reducible refine wpL_boolF ?_) | (with_reducible refine wpL_bool (fun hB => ?_) (fun hB => ?_)) | skip
         all_goals simp only [Act.put, List.setIfInBounds_toArray, List.set_cons_zero, List.set_cons_succ]))
    refine wpL_nil (fun w4 e4 hL => ?_)
    clear hL ku lb3 qb3_0 qb3_1 qb3_2 fb3_0 fb3_1 fb3_2
    have z4 := e4.size
    have hg4 : g < w4.heap.size := by omega
    have b4 := HB1.out.ext (w' := w4) xe
    have lb4 := b4.lt
    obtain ⟨qb4_0, qb4_1, qb4_2⟩ := blk3 b4
    have fb4_0 := b4.frozen 0
    have fb4_1 := b4.frozen 1
    have fb4_2 := b4.frozen 2
    clear b4
    go_wp2_with fail
    go_ret
    have hd : Out g (g + 1) w w4 := HO1.out.trans (Out.of_ext xe)
    refine ⟨_, rfl, and255_in _, ⟨hd.setCell (p := ⟨g, 1, none⟩) (Nat.le_refl _) (Nat.lt_succ_self _) _, fun x => ?_⟩⟩
    obtain ⟨bs', hx, hBg⟩ := x.bytes HB.out
    refine ⟨_, n, c, i + 1, h2, bs', ?_, by omega, hn, hx.keep ByteAt.keeps (Nat.le_refl _) (fun k hk => ?_), hBg⟩
    · have h9 := (HB1.out.ext (w' := w4) xe).set_ 1 (I ((i : Int) + 1))
      simpa using h9
    · rw [Below.heap_setCell _ _ _ _ (by dsimp only; omega)]
      exact (hd.block k (by omega) (.inl (by omega)))
  · have i1 : ¬ (i : Int) < (n : Int) := by omega
    go_wp2_with fail
    refine wp_region_L (E := Ext) (w0 := w2) (G := fun τ => match τ with | 0 => none | _ => none) Ext.refl (fun h k => Ext.trans h k) (by kernel_rfl) (by kernel_rfl) xg (Ext.drew (by exact Ext.refl _)) ?_
    repeat' (first
      | ((with_reducible refine wpL_skip ?_ ?_ ?_)
         · rfl
         · rfl
         simp only [Act.put, List.setIfInBounds_toArray, List.set_cons_zero, List.set_cons_succ])
      | ((with_reducible refine wpL_quiet ?_ ?_ ?_ ?_)
         · rfl
         · rfl
         · rfl
         apply Exists.intro
         refine ⟨fun W hW hS => ?_, ?_⟩
         · have hC := (Ext.facts hW).1
           go_simp
           first | done | (with_reducible rfl) | (rw [if_neg (by omega)]; exact ⟨rfl, rfl⟩) | rfl
         first | (with_reducible refine wpL_boolT ?_) | (with_reducible refine wpL_boolF ?_) | (with_reducible refine wpL_bool (fun hB => ?_) (fun hB => ?_)) | skip
         all_goals simp only [Act.put, List.setIfInBounds_toArray, List.set_cons_zero, List.set_cons_succ]))
    refine wpL_nil (fun w3 e3 hL => ?_)
    clear hL
    have z2 := e2.size; have z3 := e3.size
    go_wp2_with fail
    go_ret
    have hd : Out g (g + 1) w w3 := HO1.out.trans (Out.of_ext xe)
    refine ⟨X, rfl, ⟨x0, x1⟩, ⟨hd, fun x => ?_⟩⟩
    obtain ⟨bs', hx, hBg⟩ := x.bytes HB.out
    exact ⟨A, n, c, i, h2, bs', HB1.out.ext xe, hi, hn, hx.keep ByteAt.keeps (Nat.le_refl _) (fun k hk => hd.block k (by omega) (.inl (by omega))), hBg⟩
set_option maxRecDepth 100000 in
set_option maxHeartbeats 1000000 in
theorem spec_l1Below (g : Nat) (n : Int) (w : World) (hc : Cur w g) (hn : n ≤ 16777216) : Calls Tryz.prog 15 #[.pointer (some ⟨g, 0, none⟩), I n] w fun e w' => ∃ x : Int, e = .returned (I x) ∧ (0 ≤ x ∧ (0 < n → x < n) ∧ (n ≤ 0 → x = 0)) ∧ D g w w' := by
  have HC := Lib.hid hc; clear hc
  go_enter Tryz.func15, Tryz.ntmps15
  by_cases h0 : n ≤ 0
  · go_wp2_with fail
    go_ret
    exact ⟨0, rfl, ⟨by omega, fun h => by omega, fun _ => rfl⟩, D.refl _ _⟩
  by_cases h1 : n ≤ 256
  · go_wp2_with fail
    refine (spec_l1Byte g w HC.out).mono ?_
    rintro e w1 ⟨x, rfl, ⟨x0, x1⟩, d1⟩
    go_wp2_with fail
    go_ret
    refine ⟨_, rfl, ?_, xd⟩
    first | exact tmodIn (by omega) (by omega) | exact emodIn (by omega)
  · go_wp2_with fail
    refine (spec_l1Byte g w HC.out).mono ?_
    rintro e w1 ⟨x, rfl, ⟨x0, x1⟩, d1⟩
    go_wp2_with fail
    refine (spec_l1Byte g w1 (d1.cur HC.out)).mono ?_
    rintro e w2 ⟨y, rfl, ⟨y0, y1⟩, d2⟩
    go_wp2_with fail
    refine (spec_l1Byte g w2 (d2.cur (d1.cur HC.out))).mono ?_
    rintro e w3 ⟨z, rfl, ⟨z0, z1⟩, d3⟩
    go_wp2_with fail
    go_ret
    refine ⟨_, rfl, ?_, xd⟩
    first | exact tmodIn (by omega) (by omega) | exact emodIn (by omega)
set_option maxRecDepth 100000 in
set_option maxHeartbeats 1000000 in
theorem spec_l1Once (g : Nat) (n : Int) (w : World) (hc : Cur w g) (hn : n ≤ 16777216) : Calls Tryz.prog 31 #[.pointer (some ⟨g, 0, none⟩), I n] w fun e w' => ∃ x : Bool, e = .returned (.bool x) ∧ D g w w' := by
  go_enter Tryz.func31, Tryz.ntmps31
  go_wp2_with fail
  refine (spec_l1Below g n w hc hn).mono ?_
  rintro e w1 ⟨x, rfl, -, d1⟩
  go_wp2_with fail
  go_ret
  exact ⟨_, rfl, d1⟩
set_option maxRecDepth 100000 in
set_option maxHeartbeats 1000000 in
theorem spec_l1NewB (vb : Value) (bs : List Nat) (B : Nat) (w : World) (hb : ByteS B w vb bs) (hB : B ≤ w.heap.size) (hn : bs.length ≤ 1048576) : Calls Tryz.prog 12 #[vb] w fun e w' => ∃ g : Nat, e = .returned (.pointer (some ⟨g, 0, none⟩)) ∧ w.heap.size ≤ g ∧ CurB B w' g ∧ Ext w w' := by
  obtain ⟨A, n, c, rfl, ln, -, mc, -⟩ := id hb
  subst ln
  unfold maxLen at mc
  have HB := Lib.hid hb; clear hb
  go_enter Tryz.func12, Tryz.ntmps12
  go_wp2_with fail
  go_loopw [3, 4] (fun h i wr => ∃ (k : Nat) (z : Int), k ≤ bs.length ∧ i = I k ∧ h = I z ∧ wr = w) (fun _ i _ => bs.length - (intOf i).toNat)
  case atStart => exact ⟨0, _, by omega, rfl, rfl, rfl⟩
  case round =>
    obtain ⟨k, z, hk, rfl, rfl, rfl⟩ := hrel
    by_cases hlt : k < bs.length
    · obtain ⟨b, off, rfl, hb, hkl, hc1, hc2⟩ := HB.out.at_ hlt
      generalize bs[k] = y at *
      have i0 : (0 : Int) ≤ (k : Int) := by omega
      have i1 : (k : Int) < (bs.length : Int) := by omega
      by_cases h4 : k < 4000
      · have i2 : (k : Int) < 4000 := by omega
        go_wp2_with fail
        go_roundw
        case rel => exact ⟨k + 1, _, by omega, by go_num, rfl, by trivial⟩
        case measure => simp [intOf]; omega
      · have i2 : ¬ (k : Int) < 4000 := by omega
        go_wp2_with fail
        go_ret
        exact ⟨_, rfl, by simp, ⟨_, _, c, 0, z, bs, by simpa using Blk.new _ 74 [.slice (some ⟨b, off, none⟩) bs.length c, I 0, I z], by omega, hn, HB.out.keep ByteAt.keeps (Nat.le_refl _) (fun j hj => Below.heap_alloc _ _ _ (by omega)), by simpa using hB⟩, xe⟩
    · have i1 : ¬ (k : Int) < (bs.length : Int) := by omega
      go_wp2_with fail
      go_ret
      exact ⟨_, rfl, by simp, ⟨_, _, c, 0, z, bs, by simpa using Blk.new _ 74 [.slice A bs.length c, I 0, I z], by omega, hn, HB.out.keep ByteAt.keeps (Nat.le_refl _) (fun j hj => Below.heap_alloc _ _ _ (by omega)), by simpa using hB⟩, xe⟩
end Go.Proofs.YtpkcoinoiaaebaaGreat
namespace Go.Proofs.YtpkcoinoiaaebaaGreat
open Go.RowKit
set_option linter.unusedVariables false
theorem size_int (W : World) : (sizeOf (Tryz.prog.elem 42)).run Tryz.prog W = .ok 1 W := by
  have e : Tryz.prog.elem 42 = 3 := by kernel_rfl
  rw [e]
  have h5 : Tryz.prog.cellsOf 3 = 1 := by kernel_rfl
  first | (simp; done) | simp [h5]
theorem onAt_app {P : Program} {o : Oper} {a : Act} {w : World} {ψ : Value → World → Prop} (lo : Nat) (s x : Operand) (t : TypeId)
    (ho : o.op = .call { callee := .builtin .append, args := #[s, x], argTypes := #[t, t] })
    (E : TypeId) (z : Value) (sz bytes : Nat) (ht : P.underlying t = some (.slice E)) (hinfo : (P.info? E).map (fun i => (i.zero, i.size, i.bytes)) = some (some z, sz, bytes)) (hzs : z.cells.size = sz) (hsz : 0 < sz)
    (v : Value) (n : Nat) (xs : List Value) (hs : a.eval s = v) (A : Option Addr) (m c : Nat) (news : List Value) (hx : a.eval x = .slice A m c)
    (hown : Own E sz lo w.heap.size w v n xs) (hr : Row w sz A m news) (h1 : ∀ u ∈ news, u.oneCell' = true) (hlo : lo ≤ w.heap.size)
    (h63 : n + m ≤ maxLen) (hbytes : (n + m) * bytes ≤ 140737488355328)
    (h : ∀ v' w', Own E sz lo w'.heap.size w' v' (n + m) (xs ++ news) → w.grownBy w' v.ownBlock → ψ v' w') : OnAt P o a ψ w := by
  obtain ⟨i0, hi0, hz0, hz1, hz2⟩ := info_parts hinfo
  obtain ⟨v', w', hrun, h2', hg, _⟩ := run_append_any (P := P) w lo t o.type E i0 z sz bytes ht hi0 hz0 hz1 hz2 hzs hsz v n xs hown.1 A m c news hr h1 h63 hbytes hlo
  refine ⟨v', w', ?_, h v' w' ⟨h2', fun k hk => (h2'.lt k hk).2⟩ hg⟩
  unfold execOp
  simp only [ho, resolve, invoke, builtin, Sem.run_bind, Sem.run_pure, Result.andThen_ok, List.map_toArray, List.map_cons, List.map_nil, hs, hx, hrun]
theorem row_pre {B : Nat} {w : World} {A : Option Addr} {n c : Nat} {l : List Int} (h : IntS B w (.slice A n c) l) (k : Nat) (hk : k ≤ n) : Row w 1 A k ((l.take k).map I) := by
  have hr := row_ints h
  have hl := h.len.1
  refine ⟨by rw [List.length_map, List.length_take]; omega, fun h0 => ?_⟩
  obtain ⟨ad, e, hat⟩ := hr.2 (by omega)
  refine ⟨ad, e, fun j u hu => hat j u ?_⟩
  rw [List.getElem?_map] at hu ⊢
  rw [List.getElem?_take] at hu
  split at hu
  · exact hu
  · simp at hu
theorem row_suf {B : Nat} {w : World} {A : Option Addr} {n c : Nat} {l : List Int} (h : IntS B w (.slice A n c) l) (k : Nat) (hk : k ≤ n) : Row w 1 (if c = k then A else A.map (fun x => x.add (k * 1))) (n - k) ((l.drop k).map I) := by
  obtain ⟨hl, hc, _⟩ := h.len
  refine ⟨by rw [List.length_map, List.length_drop]; omega, fun h0 => ?_⟩
  obtain ⟨b, off, e, _, hj, _⟩ := h.at_ (k := k) (by omega)
  subst e
  refine ⟨⟨b, off + k, none⟩, ?_, fun j u hu => ?_⟩
  · rw [if_neg (by omega), Option.map_some, add_none, Nat.mul_one]
  · rw [List.getElem?_map, List.getElem?_drop] at hu
    have hkj : k + j < l.length := by
      rcases Nat.lt_or_ge (k + j) l.length with h1 | h1
      · exact h1
      · rw [List.getElem?_eq_none h1] at hu; simp at hu
    obtain ⟨b', off', e', _, hj', hcell⟩ := h.at_ (k := k + j) (by omega)
    cases e'
    rw [add_none, Nat.add_assoc]
    rw [List.getElem?_eq_getElem hkj] at hu
    have hu : I l[k + j] = u := by simpa using hu
    rw [← hu]
    exact hcell
theorem row_suf_some {B : Nat} {w : World} {b off n c : Nat} {l : List Int} (h : IntS B w (.slice (some ⟨b, off, none⟩) n c) l) (k : Nat) (hk : k < n) : Row w 1 (some ⟨b, off + k, none⟩) (n - k) ((l.drop k).map I) := by
  have h2 := row_suf h k (by omega)
  obtain ⟨_, hc, _⟩ := h.len
  rw [if_neg (by omega), Option.map_some, add_none, Nat.mul_one] at h2
  exact h2
theorem row_suf_nil {B : Nat} {w : World} {A A' : Option Addr} {n c : Nat} {l : List Int} (h : IntS B w (.slice A n c) l) (k : Nat) (hk : n ≤ k) : Row w 1 A' (n - k) ((l.drop k).map I) := by
  obtain ⟨hl, _, _⟩ := h.len
  exact ⟨by rw [List.length_map, List.length_drop]; omega, fun h0 => by omega⟩
theorem row_nil0 {w : World} {A : Option Addr} (l : List Int) : Row w 1 A 0 ((l.drop l.length).map I) := ⟨by simp, fun h => by omega⟩
end Go.Proofs.YtpkcoinoiaaebaaGreat
namespace Go.Proofs.YtpkcoinoiaaebaaGreat
open Go.RowKit
set_option linter.unusedVariables false
theorem wpList_appL {P : Program} {ops : Array Oper} {rest : List Oper} {o : Oper} {a : Act} {w : World} {Q : Exit → Act → World → Prop} (lo : Nat) (hgd : o.guard = none) (s x : Operand) (t : TypeId)
    (ho : o.op = .call { callee := .builtin .append, args := #[s, x], argTypes := #[t, t] })
    (E : TypeId) (z : Value) (sz bytes : Nat) (ht : P.underlying t = some (.slice E)) (hinfo : (P.info? E).map (fun i => (i.zero, i.size, i.bytes)) = some (some z, sz, bytes)) (hzs : z.cells.size = sz) (hsz : 0 < sz)
    (v : Value) (n : Nat) (xs : List Value) (hs : a.eval s = v) (A : Option Addr) (m c : Nat) (news : List Value) (hx : a.eval x = .slice A m c)
    (hown : Own E sz lo w.heap.size w v n xs) (hr : Row w sz A m news) (h1 : ∀ u ∈ news, u.oneCell' = true) (hlo : lo ≤ w.heap.size)
    (h63 : n + m ≤ maxLen) (hbytes : (n + m) * bytes ≤ 140737488355328)
    (h : ∀ v' w', Own E sz lo w'.heap.size w' v' (n + m) (xs ++ news) → w.grownBy w' v.ownBlock → wpList P ops Q rest (a.put o.dst v') w') : wpList P ops Q (o :: rest) a w := by
  obtain ⟨i0, hi0, hz0, hz1, hz2⟩ := info_parts hinfo
  refine wpList_append_any w hgd s x t ho lo E i0 z sz bytes ht hi0 hz0 hz1 hz2 hzs hsz v n xs hs hown.1 A m c news hx hr h1 h63 hbytes hlo ?_
  intro v' w' h2 h3 _
  exact h v' w' ⟨h2, fun k hk => (h2.lt k hk).2⟩ h3
theorem off_type {T sz lo hi n g T' : Nat} {w : World} {v : Value} {cs cs' : List Value} (hv : Own T sz lo hi w v n cs) (hb : Blk w g T' cs') (hne : T ≠ T') : v.ownBlock ≠ some g := fun e => ownsRow_typed hv.1 hb hne (by simp [e])
theorem other_type {E T sz sz' lo hi lo' hi' n n' : Nat} {w : World} {u v : Value} {cs cs' : List Value} (h : Own E sz lo hi w u n cs) (hv : Own T sz' lo' hi' w v n' cs') (hne : E ≠ T) {w' : World} (hg : w.grownBy w' v.ownBlock) : Own E sz lo hi w' u n cs := by
  refine ⟨ownsRow_keep h.1 (fun b hb hs => hg.block b hs (fun e => ?_)), h.2⟩
  rcases hv.cases with ⟨rfl, _⟩ | ⟨g, cap, rest, rfl, _, _, hbk, _⟩
  · simp [Value.ownBlock] at e
  · have : b = g := by simpa [Value.ownBlock] using e
    subst this
    exact ownsRow_typed h.1 hbk hne hb
/-- A variable that holds a topology whose lists are the walk's own. -/
def Topo (lo : Nat) (W : World) (gt : Nat) (t : DTopology) : Prop := ∃ A0 c0 A1 c1, Blk W gt 27 [.slice A0 t.ases.length c0, .slice A1 t.links.length c1] ∧ ASSO lo W.heap.size W (.slice A0 t.ases.length c0) t.ases ∧ LinkSO lo W.heap.size W (.slice A1 t.links.length c1) t.links ∧ lo ≤ W.heap.size
theorem Topo.ext {lo gt : Nat} {w w' : World} {t : DTopology} (h : Topo lo w gt t) (he : Ext w w') : Topo lo w' gt t := by
  obtain ⟨A0, c0, A1, c1, hb, h0, h1, hl⟩ := h
  exact ⟨A0, c0, A1, c1, hb.ext he, (h0.ext he (Nat.le_refl _)).more (Nat.le_refl _) he.size, (h1.ext he (Nat.le_refl _)).more (Nat.le_refl _) he.size, Nat.le_trans hl he.size⟩
theorem Topo.d {lo gt g : Nat} {w w' : World} {t : DTopology} (h : Topo lo w gt t) (hd : D g w w') (hg : g < lo) (hn : gt ≠ g) : Topo lo w' gt t := by
  obtain ⟨A0, c0, A1, c1, hb, h0, h1, hl⟩ := h
  exact ⟨A0, c0, A1, c1, hb.d hd hn, h0.dUp hd hg, h1.dUp hd hg, Nat.le_trans hl hd.size⟩
theorem topoV {lo : Nat} {w : World} {t : DTopology} {A0 A1 : Option Addr} {c0 c1 : Nat} (h0 : ASSO lo w.heap.size w (.slice A0 t.ases.length c0) t.ases) (h1 : LinkSO lo w.heap.size w (.slice A1 t.links.length c1) t.links) : TopologyV w.heap.size w (.agg #[.slice A0 t.ases.length c0, .slice A1 t.links.length c1]) t := ⟨_, _, _, _, _, _, rfl, ASSO_rd h0, LinkSO_rd h1⟩
end Go.Proofs.YtpkcoinoiaaebaaGreat
namespace Go.Proofs.YtpkcoinoiaaebaaGreat
open Go.RowKit
set_option linter.unusedVariables false
theorem Fresh1.d {E lo g : Nat} {cs : List Value} {v : Value} {W W' : World} (h : Fresh1 E lo cs v W) (hd : D g W W') (hg : g < lo) : Fresh1 E lo cs v W' := by
  obtain ⟨k, e, hk, hb⟩ := h
  exact ⟨k, e, hk, hb.d hd (by omega)⟩
/-- One cell of a row of flat elements is written anew. -/
theorem Own.cellAt {E sz lo hi n c : Nat} {w : World} {A : Option Addr} {cs : List Value} (h : Own E sz lo hi w (.slice A n c) n cs) (k : Nat) (hk : k < cs.length) (u : Value) :
    ∃ g, A = some ⟨g, 0, none⟩ ∧ lo ≤ g ∧ g < hi ∧ g < w.heap.size ∧ w.frozen? ⟨g, k, none⟩ = false ∧ w.cell? ⟨g, k, none⟩ = some cs[k] ∧ Own E sz lo hi (w.setCell ⟨g, k, none⟩ u) (.slice A n c) n (cs.set k u) := by
  rcases h.cases with ⟨e, h0, hcs⟩ | ⟨g, cap, rest, e, h1, h2, hb, hl, hn, hm, hs⟩
  · subst hcs; simp at hk
  · simp only [Value.slice.injEq] at e
    obtain ⟨rfl, -, rfl⟩ := e
    refine ⟨g, rfl, h1, h2, hb.lt, hb.frozen k, ?_, ?_⟩
    · rw [hb.cell, List.getElem?_append_left hk, List.getElem?_eq_getElem hk]
    · have hb2 := hb.set_ k u
      rw [List.set_append_left _ _ hk] at hb2
      exact Own.mk' h1 h2 hb2 (by rw [List.length_set]; exact hl) hn hm (by rw [List.length_append, List.length_set, ← List.length_append]; exact hs)
theorem as_set (l : List DAS) (k : Nat) (hk : k < l.length) (z : Int) : (l.flatMap ASC).set (k * 3) (I z) = (l.set k { l[k] with isd := z }).flatMap ASC := by
  induction l generalizing k with
  | nil => simp at hk
  | cons x l ih =>
    rcases k with _ | k
    · rfl
    · have hk' : k < l.length := by simpa using hk
      have h := ih k hk'
      have e : (k + 1) * 3 = 3 + k * 3 := by omega
      rw [List.flatMap_cons, e]
      have e2 : (ASC x ++ l.flatMap ASC).set (3 + k * 3) (I z) = ASC x ++ (l.flatMap ASC).set (k * 3) (I z) := by
        rw [List.set_append_right _ _ (by rw [ASC.len]; omega), ASC.len, Nat.add_sub_cancel_left]
      rw [e2, h]
      simp only [List.getElem_cons_succ, List.set_cons_succ, List.flatMap_cons]
/-- The key that realm k is drawn with. -/
def KeyAt (k : Nat) (y : DAS) : Prop := ∃ x : Int, 0 ≤ x ∧ x < 1000000 ∧ y.key = 1 + x * 8 + k
theorem key_val (x : Int) (k : Nat) (h0 : 0 ≤ x) (h1 : x < 1000000) (hk : k ≤ 100) : IntKind.i64.wrap (IntKind.i64.wrap (1 + IntKind.i64.wrap (x * 8)) + (k : Int)) = 1 + x * 8 + k := by
  rw [IntWalk.i64_in (x * 8) (by omega), IntWalk.i64_in (1 + x * 8) (by omega), IntWalk.i64_in _ (by omega)]
def KeysOk (l : List DAS) : Prop := ∀ k (hk : k < l.length), KeyAt k l[k]
theorem KeysOk.snoc {l : List DAS} {y : DAS} (h : KeysOk l) (hy : KeyAt l.length y) : KeysOk (l ++ [y]) := by
  intro k hk
  rcases Nat.lt_or_ge k l.length with h1 | h1
  · rw [List.getElem_append_left h1]; exact h k h1
  · have h2 : k = l.length := by simp at hk; omega
    subst h2
    simpa using hy
theorem KeysOk.isd {l : List DAS} (h : KeysOk l) (b : Nat) (hb : b < l.length) (z : Int) : KeysOk (l.set b { l[b] with isd := z }) := by
  intro k hk
  have hk' : k < l.length := by simpa using hk
  rw [List.getElem_set]
  split
  · rename_i e; subst e; exact h b hb
  · exact h k hk'
/-- An AS of realm k, new. -/
def FreshAS (lo k : Nat) (v : Value) (W : World) : Prop := ∃ y : DAS, KeyAt k y ∧ Fresh1 40 lo (ASC y) v W
theorem FreshAS.d {lo k g : Nat} {v : Value} {W W' : World} (h : FreshAS lo k v W) (hd : D g W W') (hg : g < lo) : FreshAS lo k v W' := by
  obtain ⟨y, hy, hf⟩ := h
  exact ⟨y, hy, hf.d hd hg⟩
/-- What l5Draw hands back. -/
def DrawnTopo (t : DTopology) : Prop := 1 ≤ t.ases.length ∧ t.ases.length ≤ 8 ∧ t.links.length ≤ 100 ∧ KeysOk t.ases
end Go.Proofs.YtpkcoinoiaaebaaGreat

