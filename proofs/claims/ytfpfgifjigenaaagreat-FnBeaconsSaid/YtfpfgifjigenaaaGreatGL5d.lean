/- Contracts of the program's functions on topologies: linkOk. -/
import Derived.Deep.Cut
import Derived.Deep.CutRange
import Derived.Test.YtfpfgifjigenaaaGreatGL5
import Derived.Test.YtfpfgifjigenaaaGreatGL9e
namespace Go.Proofs.YtfpfgifjigenaaaGreat
open Go.RowKit
set_option linter.unusedVariables false
set_option maxRecDepth 100000 in
set_option maxHeartbeats 1000000 in
theorem impl_linkOk (vt : Value) (l : DLink) (t : DTopology) (w : World) (ht : TopologyV w.heap.size w vt t) :
 Calls Tryz.prog 63 #[vt, .agg #[I l.a, I l.ai, I l.b, I l.bi, I l.kind]] w fun e w' => e = .returned (.bool (linkOk t l)) ∧ Ext w w' := by
 obtain ⟨At_0, nt_0, ct_0, At_1, nt_1, ct_1, rfl, st_0, st_1⟩ := id ht;obtain ⟨lt_0, kt_0, mt_0⟩ := st_0.len;subst lt_0;unfold maxLen at mt_0;obtain ⟨lt_1, kt_1, mt_1⟩ := st_1.len;subst lt_1;unfold maxLen at mt_1;have Rt := Lib.hid ht; clear ht;have St_0 := Lib.hid st_0; clear st_0;have St_1 := Lib.hid st_1; clear st_1
 go_enter Tryz.func63, Tryz.ntmps63
 go_wp2_with fail
 first | refine name_wp ?_ ?_ ?_ | refine name_calls ?_ ?_ ?_
 exact (fun W => Ext w W ∧ Blk W (w.heap.size) 27 [.slice At_0 t.ases.length ct_0, .slice At_1 t.links.length ct_1] ∧ Blk W (w.heap.size + 1) 104 [I l.a, I l.ai, I l.b, I l.bi, I l.kind]);exact ⟨xe, xb, xb⟩;rintro w0 ⟨ew0, bt, bl⟩;have lt := bt.lt;obtain ⟨pt_0, pt_1⟩ := blk2 bt;have Bt := Lib.hid bt; clear bt;have ll := bl.lt;obtain ⟨pl_0, pl_1, pl_2, pl_3, pl_4⟩ := blk5 bl;have Bl := Lib.hid bl; clear bl;refine (impl_isAS _ _ (t) _ (by exact Rt.out.ext xe)).mono ?_;rintro e w1 ⟨rfl, ew1⟩;have bt := Bt.out.ext (w' := w1) xe;have lt := bt.lt;obtain ⟨pt_0, pt_1⟩ := blk2 bt;clear bt;have bl := Bl.out.ext (w' := w1) xe;have ll := bl.lt;obtain ⟨pl_0, pl_1, pl_2, pl_3, pl_4⟩ := blk5 bl;clear bl;cases h1 : isAs t l.a
 · go_wp2_with fail
   go_ret
   exact ⟨ret_bool (by simp [linkOk, h1]), xe⟩
 go_wp2_with fail
 refine (impl_isAS _ _ (t) _ (by exact Rt.out.ext xe)).mono ?_;rintro e w2 ⟨rfl, ew2⟩;have bt := Bt.out.ext (w' := w2) xe;have lt := bt.lt;obtain ⟨pt_0, pt_1⟩ := blk2 bt;clear bt;have bl := Bl.out.ext (w' := w2) xe;have ll := bl.lt;obtain ⟨pl_0, pl_1, pl_2, pl_3, pl_4⟩ := blk5 bl;clear bl;cases h2 : isAs t l.b
 · go_wp2_with fail
   go_ret
   exact ⟨ret_bool (by simp [linkOk, h2]), xe⟩
 by_cases h3 : l.b ≤ l.a
 · have d3 : decide (l.b ≤ l.a) = true := decide_eq_true h3
   go_wp2_with fail
   go_ret
   exact ⟨ret_bool (by simp [linkOk]; omega), xe⟩
 have d3 : decide (l.b ≤ l.a) = false := decide_eq_false h3;go_wp2_with fail
 refine (impl_InRange _ _ _ _).mono ?_;rintro e w3 ⟨rfl, rfl⟩;cases h4 : inR l.ai 1 6
 · go_wp2_with fail
   go_ret
   exact ⟨ret_bool (by simp [linkOk, h4]), xe⟩
 go_wp2_with fail
 refine (impl_InRange _ _ _ _).mono ?_;rintro e w3 ⟨rfl, rfl⟩;cases h5 : inR l.bi 1 6
 · go_wp2_with fail
   go_ret
   exact ⟨ret_bool (by simp [linkOk, h5]), xe⟩
 have HF : Hid (linkOk t l = kindOk (asAt t l.a) (asAt t l.b) l.kind) := by unfold Hid linkOk; rw [h1, h2, h4, h5, decide_eq_true (by omega)]; rfl
 obtain ⟨ka, ea, hka⟩ := isAs_nat h1;obtain ⟨kb, eb, hkb⟩ := isAs_nat h2;rw [ea, eb, asAt_nat t ka hka, asAt_nat t kb hkb] at HF;clear h1 h2 h3 d3 h4 h5;obtain ⟨b, off, rfl, hb, hk1, hc⟩ := (St_0.out.ext (w' := w2) xe).at_ hka;obtain ⟨b2, off2, hA2, hb2, hk2, hc2⟩ := (St_0.out.ext (w' := w2) xe).at_ hkb;cases hA2
 generalize t.ases[ka] = x at *
 generalize t.ases[kb] = y at *
 obtain ⟨x0, x1, x2⟩ := hc;obtain ⟨y0, y1, y2⟩ := hc2
 have i0 : (0 : Int) ≤ (ka : Int) := by omega
 have i1 : (ka : Int) < (t.ases.length : Int) := by omega
 have i2 : (0 : Int) ≤ (kb : Int) := by omega
 have i3 : (kb : Int) < (t.ases.length : Int) := by omega
 go_upto_region 3 with (fail)
 go_cut [5, 6] from 38 to 49 (fun p q wx => ∃ g h, p = .pointer (some ⟨g, 0, none⟩) ∧ q = .pointer (some ⟨h, 0, none⟩) ∧ Blk wx g 78 [I x.isd, .bool x.core, I x.key] ∧ Blk wx h 78 [I y.isd, .bool y.core, I y.key] ∧ Ext w2 wx)
 case first =>
  go_region
  all_goals
   go_wp2_with fail
   go_meet
   exact ⟨_, _, rfl, rfl, xb, xb, xe⟩
 case rest =>
  obtain ⟨g, h, rfl, rfl, bx, by_, e3⟩ := hcut;obtain ⟨u0, u1, u2⟩ := blk3 bx;obtain ⟨v0, v1, v2⟩ := blk3 by_;clear bx by_;have bl := Bl.out.ext (w' := wc) xe;have ll := bl.lt;obtain ⟨pl_0, pl_1, pl_2, pl_3, pl_4⟩ := blk5 bl;clear bl;by_cases q1 : l.kind = 1
  · have d1 : (l.kind == 1) = true := by simp [q1]
    have HG : Hid (linkOk t l = (x.core && y.core)) := by unfold Hid; rw [HF.out]; simp [kindOk, q1]
    cases hx : x.core
    all_goals
     go_wp2_with fail
     go_ret
     exact ⟨ret_bool (by rw [HG.out, hx]; rfl), xe⟩
  by_cases q2 : l.kind = 2
  · have d1 : (l.kind == 1) = false := beq_eq_false_iff_ne.2 q1
    have d2 : (l.kind == 2) = true := by simp [q2]
    have HG : Hid (linkOk t l = (x.isd == y.isd && !y.core)) := by unfold Hid; rw [HF.out]; simp [kindOk, q2]
    cases hx : x.isd == y.isd
    all_goals
     go_wp2_with fail
     go_ret
     exact ⟨ret_bool (by rw [HG.out, hx]; rfl), xe⟩
  have d1 : (l.kind == 1) = false := beq_eq_false_iff_ne.2 q1;have d2 : (l.kind == 2) = false := beq_eq_false_iff_ne.2 q2;by_cases q3 : l.kind = 3
  · have d3 : (l.kind == 3) = true := by simp [q3]
    have HG : Hid (linkOk t l = (!x.core && !y.core)) := by unfold Hid; rw [HF.out]; simp [kindOk, q3]
    cases hx : x.core
    all_goals
     go_wp2_with fail
     go_ret
     exact ⟨ret_bool (by rw [HG.out, hx]; rfl), xe⟩
  · have d3 : (l.kind == 3) = false := beq_eq_false_iff_ne.2 q3
    have HG : Hid (linkOk t l = false) := by unfold Hid; rw [HF.out]; simp [kindOk, q1, q2, q3]
    go_wp2_with fail
    go_ret
    exact ⟨ret_bool (by rw [HG.out]), xe⟩
end Go.Proofs.YtfpfgifjigenaaaGreat
namespace Go.Proofs.YtfpfgifjigenaaaGreat
open Go.RowKit
set_option linter.unusedVariables false
def validKey (k : Int) : Bool := inR k 1 2147483646
set_option maxRecDepth 100000 in
set_option maxHeartbeats 1000000 in
theorem impl_ValidKey (n : Int) (w : World) : Calls Tryz.prog 62 #[I n] w fun e w' => e = .returned (.bool (validKey n)) ∧ w = w' := by
 go_enter Tryz.func62, Tryz.ntmps62
 go_wp2_with fail
 refine (impl_InRange _ _ _ _).mono ?_;rintro e w' ⟨rfl, rfl⟩;go_wp2
 go_ret
 exact ⟨rfl, rfl⟩
set_option maxRecDepth 100000 in
set_option maxHeartbeats 1000000 in
theorem spec_ValidKey (n : Int) (w : World) : Calls Tryz.prog 84 #[I n] w fun e w' => e = .returned (.bool (validKey n)) ∧ w = w' := by
 go_enter Tryz.func84, Tryz.ntmps84
 go_wp2_with fail
 refine (spec_l1In _ _ _ _).mono ?_;rintro e w' ⟨rfl, rfl⟩;go_wp2
 go_ret
 exact ⟨rfl, rfl⟩
def dAS : DAS := ⟨0, false, 0⟩
def keyDup (l : List DAS) (k : Nat) : Bool := (List.range k).any fun j => (l.getD j dAS).key == (l.getD k dAS).key
def asFine (l : List DAS) (k : Nat) : Bool := inR (l.getD k dAS).isd 0 2 && (validKey (l.getD k dAS).key && !keyDup l k)
def clash (m l : DLink) : Bool := usesIf m l.a l.ai || usesIf m l.b l.bi
def linkDup (l : List DLink) (k : Nat) : Bool := (List.range k).any fun j => clash (l.getD j dLink) (l.getD k dLink)
def linkFine (t : DTopology) (k : Nat) : Bool := linkOk t (t.links.getD k dLink) && !linkDup t.links k
def validTop (t : DTopology) : Bool := inR t.ases.length 1 8 && ((List.range t.ases.length).all (asFine t.ases) && (List.range t.links.length).all (linkFine t))
theorem any_yes {p : Nat → Bool} {k m : Nat} (hm : m < k) (h : p m = true) : (List.range k).any p = true := by
 rw [List.any_eq_true];exact ⟨m, List.mem_range.2 hm, h⟩
theorem any_none {p : Nat → Bool} {k : Nat} (h : ∀ j, j < k → p j = false) : (List.range k).any p = false := by
 rw [List.any_eq_false];exact fun j hj => by simp [h j (List.mem_range.1 hj)]
set_option maxRecDepth 100000 in
set_option maxHeartbeats 1000000 in
theorem impl_ValidTopology (vt : Value) (t : DTopology) (w : World) (ht : TopologyV w.heap.size w vt t) :
 Calls Tryz.prog 25 #[vt] w fun e w' => e = .returned (.bool (validTop t)) ∧ Ext w w' := by
 obtain ⟨At_0, nt_0, ct_0, At_1, nt_1, ct_1, rfl, st_0, st_1⟩ := id ht;obtain ⟨lt_0, kt_0, mt_0⟩ := st_0.len;subst lt_0;unfold maxLen at mt_0;obtain ⟨lt_1, kt_1, mt_1⟩ := st_1.len;subst lt_1;unfold maxLen at mt_1;have Rt := Lib.hid ht; clear ht;have St_0 := Lib.hid st_0; clear st_0;have St_1 := Lib.hid st_1; clear st_1
 go_enter Tryz.func25, Tryz.ntmps25
 go_wp2_with fail
 first | refine name_wp ?_ ?_ ?_ | refine name_calls ?_ ?_ ?_
 exact (fun W => Ext w W ∧ Blk W (w.heap.size) 27 [.slice At_0 t.ases.length ct_0, .slice At_1 t.links.length ct_1]);exact ⟨xe, xb⟩;rintro w0 ⟨ew0, bt⟩;have lt := bt.lt;obtain ⟨pt_0, pt_1⟩ := blk2 bt;have Bt := Lib.hid bt; clear bt;refine (impl_InRange _ _ _ _).mono ?_;rintro e w1 ⟨rfl, rfl⟩;cases hr : inR t.ases.length 1 8
 · go_wp2_with fail
   go_ret
   exact ⟨ret_bool (by simp [validTop, hr]), xe⟩
 have HF : Hid (validTop t = ((List.range t.ases.length).all (asFine t.ases) && (List.range t.links.length).all (linkFine t))) := by unfold Hid validTop; rw [hr]; rfl
 clear hr;go_wp2_with fail
 go_loopw [19] (fun i wr => ∃ k : Nat, k ≤ t.ases.length ∧ i = I k ∧ (∀ j, j < k → asFine t.ases j = true) ∧ Ext w0 wr) (fun i _ => t.ases.length - (intOf i).toNat)
 case atStart => exact ⟨0, by omega, rfl, fun _ h => absurd h (by omega), Ext.refl _⟩
 case round =>
  obtain ⟨k, hk, rfl, hq, he⟩ := hrel;have HQ := Lib.hid hq; clear hq;have bt := Bt.out.ext (w' := wr) xe;have lt := bt.lt;obtain ⟨pt_0, pt_1⟩ := blk2 bt;clear bt;by_cases hlt : k < t.ases.length
  · obtain ⟨b, off, rfl, hb, hkl, hc⟩ := (St_0.out.ext (w' := wr) xe).at_ hlt
    have HG := Lib.hid (getD_is (d := dAS) hkl)
    generalize t.ases[k] = x at *
    have HP : Hid (asFine t.ases k = (inR x.isd 0 2 && (validKey x.key && !keyDup t.ases k))) := by unfold Hid asFine; rw [HG.out]
    obtain ⟨hx_0, hx_1, hx_2⟩ := hc;go_wp2_with fail
    first | refine name_wp ?_ ?_ ?_ | refine name_calls ?_ ?_ ?_
    exact (fun W => Ext wr W ∧ Blk W (wr.heap.size) 78 [I x.isd, .bool x.core, I x.key]);exact ⟨xe, xb⟩;rintro w3 ⟨ew3, bx⟩;have lx := bx.lt;obtain ⟨px_0, px_1, px_2⟩ := blk3 bx;have Bx := Lib.hid bx; clear bx;have bt := Bt.out.ext (w' := w3) xe;have lt := bt.lt;obtain ⟨pt_0, pt_1⟩ := blk2 bt;clear bt;refine (impl_InRange _ _ _ _).mono ?_;rintro e w4 ⟨rfl, rfl⟩;cases h1 : inR x.isd 0 2
    · have HN : Hid (validTop t = false) := by unfold Hid; rw [HF.out, range_no hlt (by rw [HP.out, h1]; rfl)]; rfl
      go_wp2_with fail
      go_ret
      exact ⟨ret_bool HN.out.symm, xe⟩
    go_wp2_with fail
    refine (impl_ValidKey _ _).mono ?_;rintro e w4 ⟨rfl, rfl⟩;cases h2 : validKey x.key
    · have HN : Hid (validTop t = false) := by unfold Hid; rw [HF.out, range_no hlt (by rw [HP.out, h1, h2]; rfl)]; rfl
      go_wp2_with fail
      go_ret
      exact ⟨ret_bool HN.out.symm, xe⟩
    have HP2 : Hid (asFine t.ases k = !keyDup t.ases k) := by unfold Hid; rw [HP.out, h1, h2]; rfl
    clear h1 h2
    have i2 : (k : Int) ≤ (ct_0 : Int) := by omega
    have i3 : (0 : Int) ≤ (k : Int) := by omega
    go_wp2_with fail
    go_loopw [39] (fun i2 wr2 => ∃ m : Nat, m ≤ k ∧ i2 = I m ∧ (∀ j, j < m → ((t.ases.getD j dAS).key == (t.ases.getD k dAS).key) = false) ∧ Ext w3 wr2) (fun i2 _ => k - (intOf i2).toNat)
    case atStart => exact ⟨0, by omega, rfl, fun _ h => absurd h (by omega), Ext.refl _⟩
    case round =>
     obtain ⟨m, hm, rfl, hq2, he2⟩ := hrel;have HQ2 := Lib.hid hq2; clear hq2;have bx := Bx.out.ext (w' := wr) xe;have lx := bx.lt;obtain ⟨px_0, px_1, px_2⟩ := blk3 bx;clear bx;by_cases hlt2 : m < k
     · have hml : m < t.ases.length := by omega
       obtain ⟨b2, off2, hA2, hb2, hkl2, hc2⟩ := (St_0.out.ext (w' := wr) xe).at_ hml;cases hA2;have HG2 := Lib.hid (getD_is (d := dAS) hkl2)
       generalize t.ases[m] = g at *
       obtain ⟨g0, g1, g2⟩ := hc2;by_cases hx : x.key = g.key
       · have HN : Hid (validTop t = false) := by unfold Hid; rw [HF.out, range_no hlt (by rw [HP2.out, keyDup, any_yes hlt2 (by rw [HG2.out, HG.out, hx]; simp)]; rfl)]; rfl
         go_wp2_with fail
         go_ret
         exact ⟨ret_bool HN.out.symm, xe⟩
       · have HN : Hid (((t.ases.getD m dAS).key == (t.ases.getD k dAS).key) = false) := by unfold Hid; rw [HG2.out, HG.out]; exact beq_eq_false_iff_ne.2 (fun e => hx e.symm)
         have dx : (x.key == g.key) = false := beq_eq_false_iff_ne.2 hx;go_wp2_with fail
         go_roundw
         case rel => exact ⟨m + 1, by omega, by go_num, belowF (p := fun j => (t.ases.getD j dAS).key == (t.ases.getD k dAS).key) HQ2.out HN.out, xe⟩
         case measure => simp [intOf]; omega
     · obtain rfl : m = k := by omega
       have HY : Hid (asFine t.ases m = true) := by unfold Hid; rw [HP2.out, keyDup, any_none HQ2.out]; rfl
       go_wp2_with fail
       go_roundw
       case rel => exact ⟨m + 1, by omega, by go_num, belowT HQ.out HY.out, xe⟩
       case measure => simp [intOf]; omega
  · have HF2 : Hid (validTop t = (List.range t.links.length).all (linkFine t)) := by unfold Hid; rw [HF.out, range_yes (fun j hj => HQ.out j (by omega))]; rfl
    go_wp2_with fail
    refine name_wp (fun W => W = wr) rfl ?_;rintro wv rfl;clear HQ HF
    go_loopw [53] (fun i wr => ∃ k : Nat, k ≤ t.links.length ∧ i = I k ∧ (∀ j, j < k → linkFine t j = true) ∧ Ext wv wr) (fun i _ => t.links.length - (intOf i).toNat)
    case atStart => exact ⟨0, by omega, rfl, fun _ h => absurd h (by omega), Ext.refl _⟩
    case round =>
     obtain ⟨k, hk, rfl, hq, he⟩ := hrel;have HQ := Lib.hid hq; clear hq;have bt := Bt.out.ext (w' := wr) xe;have lt := bt.lt;obtain ⟨pt_0, pt_1⟩ := blk2 bt;clear bt;by_cases hlt : k < t.links.length
     · obtain ⟨b, off, rfl, hb, hkl, hc⟩ := (St_1.out.ext (w' := wr) xe).at_ hlt
       have HG := Lib.hid (linkAt hkl)
       generalize t.links[k] = x at *
       have HP : Hid (linkFine t k = (linkOk t x && !linkDup t.links k)) := by unfold Hid linkFine; rw [HG.out]
       obtain ⟨hx_0, hx_1, hx_2, hx_3, hx_4⟩ := hc;go_wp2_with fail
       first | refine name_wp ?_ ?_ ?_ | refine name_calls ?_ ?_ ?_
       exact (fun W => Ext wr W ∧ Blk W (wr.heap.size) 104 [I x.a, I x.ai, I x.b, I x.bi, I x.kind]);exact ⟨xe, xb⟩;rintro w3 ⟨ew3, bx⟩;have lx := bx.lt;obtain ⟨px_0, px_1, px_2, px_3, px_4⟩ := blk5 bx;have Bx := Lib.hid bx; clear bx;have bt := Bt.out.ext (w' := w3) xe;have lt := bt.lt;obtain ⟨pt_0, pt_1⟩ := blk2 bt;clear bt;refine (impl_linkOk _ (x) (t) _ (by exact Rt.out.ext xe)).mono ?_;rintro e w4 ⟨rfl, ew4⟩;have bt := Bt.out.ext (w' := w4) xe;have lt := bt.lt;obtain ⟨pt_0, pt_1⟩ := blk2 bt;clear bt;have bx := Bx.out.ext (w' := w4) xe;have lx := bx.lt;obtain ⟨px_0, px_1, px_2, px_3, px_4⟩ := blk5 bx;clear bx;cases h1 : linkOk t x
       · have HN : Hid (validTop t = false) := by unfold Hid; rw [HF2.out, range_no hlt (by rw [HP.out, h1]; rfl)]
         go_wp2_with fail
         go_ret
         exact ⟨ret_bool HN.out.symm, xe⟩
       have HP2 : Hid (linkFine t k = !linkDup t.links k) := by unfold Hid; rw [HP.out, h1]; rfl
       clear h1
       have i2 : (k : Int) ≤ (ct_1 : Int) := by omega
       have i3 : (0 : Int) ≤ (k : Int) := by omega
       go_wp2_with fail
       go_loopw [67] (fun i2 wr2 => ∃ m : Nat, m ≤ k ∧ i2 = I m ∧ (∀ j, j < m → clash (t.links.getD j dLink) (t.links.getD k dLink) = false) ∧ Ext w4 wr2) (fun i2 _ => k - (intOf i2).toNat)
       case atStart => exact ⟨0, by omega, rfl, fun _ h => absurd h (by omega), Ext.refl _⟩
       case round =>
        obtain ⟨m, hm, rfl, hq2, he2⟩ := hrel;have HQ2 := Lib.hid hq2; clear hq2;have bx := Bx.out.ext (w' := wr) xe;have lx := bx.lt;obtain ⟨px_0, px_1, px_2, px_3, px_4⟩ := blk5 bx;clear bx;by_cases hlt2 : m < k
        · have hml : m < t.links.length := by omega
          obtain ⟨b2, off2, hA2, hb2, hkl2, hc2⟩ := (St_1.out.ext (w' := wr) xe).at_ hml;cases hA2;have HG2 := Lib.hid (linkAt hkl2)
          generalize t.links[m] = g at *
          obtain ⟨hg_0, hg_1, hg_2, hg_3, hg_4⟩ := hc2;go_wp2_with fail
          first | refine name_wp ?_ ?_ ?_ | refine name_calls ?_ ?_ ?_
          exact (fun W => Ext wr W ∧ Blk W (wr.heap.size) 104 [I g.a, I g.ai, I g.b, I g.bi, I g.kind]);exact ⟨xe, xb⟩;rintro w5 ⟨ew5, bg⟩;have lg := bg.lt;obtain ⟨pg_0, pg_1, pg_2, pg_3, pg_4⟩ := blk5 bg;have Bg := Lib.hid bg; clear bg;have bx := Bx.out.ext (w' := w5) xe;have lx := bx.lt;obtain ⟨px_0, px_1, px_2, px_3, px_4⟩ := blk5 bx;clear bx;refine (impl_usesInterface (g) _ _ _).mono ?_;rintro e w6 ⟨rfl, ew6⟩;have bx := Bx.out.ext (w' := w6) xe;have lx := bx.lt;obtain ⟨px_0, px_1, px_2, px_3, px_4⟩ := blk5 bx;clear bx;have bg := Bg.out.ext (w' := w6) xe;have lg := bg.lt;obtain ⟨pg_0, pg_1, pg_2, pg_3, pg_4⟩ := blk5 bg;clear bg;cases h1 : usesIf g x.a x.ai
          · go_wp2_with fail
            refine (impl_usesInterface (g) _ _ _).mono ?_;rintro e w7 ⟨rfl, ew7⟩;cases h2 : usesIf g x.b x.bi
            · have HN : Hid (clash (t.links.getD m dLink) (t.links.getD k dLink) = false) := by unfold Hid; rw [HG2.out, HG.out, clash, h1, h2]; rfl
              go_wp2_with fail
              go_roundw
              case rel => exact ⟨m + 1, by omega, by go_num, belowF (p := fun j => clash (t.links.getD j dLink) (t.links.getD k dLink)) HQ2.out HN.out, xe⟩
              case measure => simp [intOf]; omega
            · have HN : Hid (validTop t = false) := by unfold Hid; rw [HF2.out, range_no hlt (by rw [HP2.out, linkDup, any_yes hlt2 (by rw [HG2.out, HG.out, clash, h1, h2]; rfl)]; rfl)]
              go_wp2_with fail
              go_ret
              exact ⟨ret_bool HN.out.symm, xe⟩
          · have HN : Hid (validTop t = false) := by unfold Hid; rw [HF2.out, range_no hlt (by rw [HP2.out, linkDup, any_yes hlt2 (by rw [HG2.out, HG.out, clash, h1]; rfl)]; rfl)]
            go_wp2_with fail
            go_ret
            exact ⟨ret_bool HN.out.symm, xe⟩
        · obtain rfl : m = k := by omega
          have HY : Hid (linkFine t m = true) := by unfold Hid; rw [HP2.out, linkDup, any_none HQ2.out]; rfl
          go_wp2_with fail
          go_roundw
          case rel => exact ⟨m + 1, by omega, by go_num, belowT HQ.out HY.out, xe⟩
          case measure => simp [intOf]; omega
     · go_wp2_with fail
       go_ret
       exact ⟨ret_bool (by rw [HF2.out, range_yes (fun j hj => HQ.out j (by omega))]), xe⟩
set_option maxRecDepth 100000 in
set_option maxHeartbeats 1000000 in
theorem spec_ValidTopology (vt : Value) (t : DTopology) (w : World) (ht : TopologyV w.heap.size w vt t) :
 Calls Tryz.prog 40 #[vt] w fun e w' => e = .returned (.bool (validTop t)) ∧ Ext w w' := by
 obtain ⟨At_0, nt_0, ct_0, At_1, nt_1, ct_1, rfl, st_0, st_1⟩ := id ht;obtain ⟨lt_0, kt_0, mt_0⟩ := st_0.len;subst lt_0;unfold maxLen at mt_0;obtain ⟨lt_1, kt_1, mt_1⟩ := st_1.len;subst lt_1;unfold maxLen at mt_1;have Rt := Lib.hid ht; clear ht;have St_0 := Lib.hid st_0; clear st_0;have St_1 := Lib.hid st_1; clear st_1
 go_enter Tryz.func40, Tryz.ntmps40
 go_wp2_with fail
 first | refine name_wp ?_ ?_ ?_ | refine name_calls ?_ ?_ ?_
 exact (fun W => Ext w W ∧ Blk W (w.heap.size) 27 [.slice At_0 t.ases.length ct_0, .slice At_1 t.links.length ct_1]);exact ⟨xe, xb⟩;rintro w0 ⟨ew0, bt⟩;have lt := bt.lt;obtain ⟨pt_0, pt_1⟩ := blk2 bt;have Bt := Lib.hid bt; clear bt;refine (spec_l1In _ _ _ _).mono ?_;rintro e w1 ⟨rfl, rfl⟩;cases hr : inR t.ases.length 1 8
 · go_wp2_with fail
   go_ret
   exact ⟨ret_bool (by simp [validTop, hr]), xe⟩
 have HF : Hid (validTop t = ((List.range t.ases.length).all (asFine t.ases) && (List.range t.links.length).all (linkFine t))) := by unfold Hid validTop; rw [hr]; rfl
 clear hr;go_wp2_with fail
 go_loopw [3] (fun i wr => ∃ k : Nat, k ≤ t.ases.length ∧ i = I k ∧ (∀ j, j < k → asFine t.ases j = true) ∧ Ext w0 wr) (fun i _ => t.ases.length - (intOf i).toNat)
 case atStart => exact ⟨0, by omega, rfl, fun _ h => absurd h (by omega), Ext.refl _⟩
 case round =>
  obtain ⟨k, hk, rfl, hq, he⟩ := hrel;have HQ := Lib.hid hq; clear hq;have bt := Bt.out.ext (w' := wr) xe;have lt := bt.lt;obtain ⟨pt_0, pt_1⟩ := blk2 bt;clear bt;by_cases hlt : k < t.ases.length
  · obtain ⟨b, off, rfl, hb, hkl, hc⟩ := (St_0.out.ext (w' := wr) xe).at_ hlt
    have HG := Lib.hid (getD_is (d := dAS) hkl);have HC := Lib.hid hc
    generalize t.ases[k] = x at *
    have HP : Hid (asFine t.ases k = (inR x.isd 0 2 && (validKey x.key && !keyDup t.ases k))) := by unfold Hid asFine; rw [HG.out]
    obtain ⟨hx_0, hx_1, hx_2⟩ := hc
    have i1 : (k : Int) < (t.ases.length : Int) := by omega
    have i3 : (0 : Int) ≤ (k : Int) := by omega
    go_wp2_with fail
    refine (spec_l1In _ _ _ _).mono ?_;rintro e w4 ⟨rfl, rfl⟩;cases h1 : inR x.isd 0 2
    · have HN : Hid (validTop t = false) := by unfold Hid; rw [HF.out, range_no hlt (by rw [HP.out, h1]; rfl)]; rfl
      go_wp2_with fail
      go_ret
      exact ⟨ret_bool HN.out.symm, xe⟩
    go_wp2_with fail
    refine (spec_ValidKey _ _).mono ?_;rintro e w4 ⟨rfl, rfl⟩;cases h2 : validKey x.key
    · have HN : Hid (validTop t = false) := by unfold Hid; rw [HF.out, range_no hlt (by rw [HP.out, h1, h2]; rfl)]; rfl
      go_wp2_with fail
      go_ret
      exact ⟨ret_bool HN.out.symm, xe⟩
    have HP2 : Hid (asFine t.ases k = !keyDup t.ases k) := by unfold Hid; rw [HP.out, h1, h2]; rfl
    clear h1 h2;go_wp2_with fail
    refine name_wp (fun W => W = wr) rfl ?_;rintro w3 rfl
    go_loopw [4] (fun i2 wr2 => ∃ m : Nat, m ≤ k ∧ i2 = I m ∧ (∀ j, j < m → ((t.ases.getD j dAS).key == (t.ases.getD k dAS).key) = false) ∧ Ext w3 wr2) (fun i2 _ => k - (intOf i2).toNat)
    case atStart => exact ⟨0, by omega, rfl, fun _ h => absurd h (by omega), Ext.refl _⟩
    case round =>
     obtain ⟨m, hm, rfl, hq2, he2⟩ := hrel;have HQ2 := Lib.hid hq2; clear hq2;have bt := Bt.out.ext (w' := wr) xe;have lt := bt.lt;obtain ⟨pt_0, pt_1⟩ := blk2 bt;clear bt;by_cases hlt2 : m < k
     · have hml : m < t.ases.length := by omega
       obtain ⟨b2, off2, hA2, hb2, hkl2, hc2⟩ := (St_0.out.ext (w' := wr) xe).at_ hml;cases hA2;have HG2 := Lib.hid (getD_is (d := dAS) hkl2)
       generalize t.ases[m] = g at *
       obtain ⟨g0, g1, g2⟩ := hc2;obtain ⟨e0, e1, e2⟩ := ASAt.keeps _ _ _ _ _ _ _ he2.size he2.same hb HC.out
       have j1 : (m : Int) < (t.ases.length : Int) := by omega
       have j3 : (0 : Int) ≤ (m : Int) := by omega
       have j4 : (m : Int) < (k : Int) := by omega
       by_cases hx : g.key = x.key
       · have HN : Hid (validTop t = false) := by unfold Hid; rw [HF.out, range_no hlt (by rw [HP2.out, keyDup, any_yes hlt2 (by rw [HG2.out, HG.out, hx]; simp)]; rfl)]; rfl
         have dx : (g.key == x.key) = true := by simp [hx]
         go_wp2_with fail
         refine wp_region_L (E := Ext) (w0 := wr) (G := fun τ => match τ with | 0 => none | _ => none) Ext.refl (fun h k => Ext.trans h k) (by kernel_rfl) (by kernel_rfl) xg (Ext.drew (by exact Ext.refl _)) ?_
         repeat' (first
          | ((with_reducible refine wpL_skip ?_ ?_ ?_)
             · rfl
             · rfl
             simp only [Act.put, List.setIfInBounds_toArray, List.set_cons_zero, List.set_cons_succ])
          | ((with_reducible refine wpL_quiet ?_ ?_ ?_ ?_)
             · rfl
             · rfl
             · rfl
             apply Exists.intro
             refine ⟨fun W hW hS => ?_, ?_⟩
             · have hC := (Ext.facts hW).1
               go_simp
               first | done | (with_reducible rfl) | (rw [if_neg (by omega)]; exact ⟨rfl, rfl⟩) | rfl
             first | (with_reducible refine wpL_boolT ?_) | (with_reducible refine wpL_boolF ?_) | (with_reducible refine wpL_bool (fun hB => ?_) (fun hB => ?_)) | skip
             all_goals simp only [Act.put, List.setIfInBounds_toArray, List.set_cons_zero, List.set_cons_succ]))
         refine wpL_nil (fun w5 e5 hL => ?_);go_wp2_with fail
         go_ret
         exact ⟨ret_bool HN.out.symm, xe⟩
       · have HN : Hid (((t.ases.getD m dAS).key == (t.ases.getD k dAS).key) = false) := by unfold Hid; rw [HG2.out, HG.out]; exact beq_eq_false_iff_ne.2 hx
         have dx : (g.key == x.key) = false := beq_eq_false_iff_ne.2 hx;go_wp2_with fail
         refine wp_region_L (E := Ext) (w0 := wr) (G := fun τ => match τ with | 0 => none | _ => none) Ext.refl (fun h k => Ext.trans h k) (by kernel_rfl) (by kernel_rfl) xg (Ext.drew (by exact Ext.refl _)) ?_
         repeat' (first
          | ((with_reducible refine wpL_skip ?_ ?_ ?_)
             · rfl
             · rfl
             simp only [Act.put, List.setIfInBounds_toArray, List.set_cons_zero, List.set_cons_succ])
          | ((with_reducible refine wpL_quiet ?_ ?_ ?_ ?_)
             · rfl
             · rfl
             · rfl
             apply Exists.intro
             refine ⟨fun W hW hS => ?_, ?_⟩
             · have hC := (Ext.facts hW).1
               go_simp
               first | done | (with_reducible rfl) | (rw [if_neg (by omega)]; exact ⟨rfl, rfl⟩) | rfl
             first | (with_reducible refine wpL_boolT ?_) | (with_reducible refine wpL_boolF ?_) | (with_reducible refine wpL_bool (fun hB => ?_) (fun hB => ?_)) | skip
             all_goals simp only [Act.put, List.setIfInBounds_toArray, List.set_cons_zero, List.set_cons_succ]))
         refine wpL_nil (fun w5 e5 hL => ?_);go_wp2_with fail
         go_roundw
         case rel => exact ⟨m + 1, by omega, by go_num, belowF (p := fun j => (t.ases.getD j dAS).key == (t.ases.getD k dAS).key) HQ2.out HN.out, xe⟩
         case measure => simp [intOf]; omega
     · obtain rfl : m = k := by omega
       have HY : Hid (asFine t.ases m = true) := by unfold Hid; rw [HP2.out, keyDup, any_none HQ2.out]; rfl
       go_wp2_with fail
       go_roundw
       case rel => exact ⟨m + 1, by omega, by go_num, belowT HQ.out HY.out, xe⟩
       case measure => simp [intOf]; omega
  · have HF2 : Hid (validTop t = (List.range t.links.length).all (linkFine t)) := by unfold Hid; rw [HF.out, range_yes (fun j hj => HQ.out j (by omega))]; rfl
    go_wp2_with fail
    refine name_wp (fun W => W = wr) rfl ?_;rintro wv rfl;clear HQ HF
    go_loopw [5] (fun i wr => ∃ k : Nat, k ≤ t.links.length ∧ i = I k ∧ (∀ j, j < k → linkFine t j = true) ∧ Ext wv wr) (fun i _ => t.links.length - (intOf i).toNat)
    case atStart => exact ⟨0, by omega, rfl, fun _ h => absurd h (by omega), Ext.refl _⟩
    case round =>
     obtain ⟨k, hk, rfl, hq, he⟩ := hrel;have HQ := Lib.hid hq; clear hq;have bt := Bt.out.ext (w' := wr) xe;have lt := bt.lt;obtain ⟨pt_0, pt_1⟩ := blk2 bt;clear bt;by_cases hlt : k < t.links.length
     · obtain ⟨b, off, rfl, hb, hkl, hc⟩ := (St_1.out.ext (w' := wr) xe).at_ hlt
       have HG := Lib.hid (linkAt hkl);have HC := Lib.hid hc
       generalize t.links[k] = x at *
       have HP : Hid (linkFine t k = (linkOk t x && !linkDup t.links k)) := by unfold Hid linkFine; rw [HG.out]
       obtain ⟨hx_0, hx_1, hx_2, hx_3, hx_4⟩ := hc
       have i1 : (k : Int) < (t.links.length : Int) := by omega
       have i3 : (0 : Int) ≤ (k : Int) := by omega
       cases h1 : linkOk t x
       · have HN : Hid (validTop t = false) := by unfold Hid; rw [HF2.out, range_no hlt (by rw [HP.out, h1]; rfl)]
         go_wp2_with fail
         refine wp_region_L (E := Ext) (w0 := wr) (G := fun τ => match τ with | 68 => some (fun v _ => v = .bool (false)) | _ => none) Ext.refl (fun h k => Ext.trans h k) (by kernel_rfl) (by kernel_rfl) xg (Ext.drew (by exact Ext.refl _)) ?_
         repeat' (first
          | ((with_reducible refine wpL_skip ?_ ?_ ?_)
             · rfl
             · rfl
             simp only [Act.put, List.setIfInBounds_toArray, List.set_cons_zero, List.set_cons_succ])
          | ((with_reducible refine wpL_quiet ?_ ?_ ?_ ?_)
             · rfl
             · rfl
             · rfl
             apply Exists.intro
             refine ⟨fun W hW hS => ?_, ?_⟩
             · have hC := (Ext.facts hW).1
               go_simp
               first | done | (with_reducible rfl) | (rw [if_neg (by omega)]; exact ⟨rfl, rfl⟩) | rfl
             first | (with_reducible refine wpL_boolT ?_) | (with_reducible refine wpL_boolF ?_) | (with_reducible refine wpL_bool (fun hB => ?_) (fun hB => ?_)) | skip
             all_goals simp only [Act.put, List.setIfInBounds_toArray, List.set_cons_zero, List.set_cons_succ])
          | ((refine wpL_call ?_ rfl rfl ?_ ?_ ?_)
             · rfl
             · rfl
             · intro W hW hS
               have hC := (Ext.facts hW).1;unfold growAt
               go_simp
               simp only [growUpon]
               first | (go_at_call 85; ((with_reducible refine Calls.mono (spec_l5LinkOk _ (x) (t) _ (by exact Rt.out.ext xe)) ?_)); rintro e w9 ⟨rfl, e9⟩; exact ⟨_, rfl, e9, by first | rfl | (simp only [*])⟩)
             first | (with_reducible refine wpL_boolT ?_) | (with_reducible refine wpL_boolF ?_) | (with_reducible refine wpL_bool (fun hB => ?_) (fun hB => ?_)) | skip
             all_goals simp only [Act.put, List.setIfInBounds_toArray, List.set_cons_zero, List.set_cons_succ]))
         refine wpL_nil (fun w4 e4 hL => ?_);clear hL;go_wp2_with fail
         go_ret
         exact ⟨ret_bool HN.out.symm, xe⟩
       have HP2 : Hid (linkFine t k = !linkDup t.links k) := by unfold Hid; rw [HP.out, h1]; rfl
       go_wp2_with fail
       refine wp_region_L (E := Ext) (w0 := wr) (G := fun τ => match τ with | 68 => some (fun v _ => v = .bool (true)) | _ => none) Ext.refl (fun h k => Ext.trans h k) (by kernel_rfl) (by kernel_rfl) xg (Ext.drew (by exact Ext.refl _)) ?_
       repeat' (first
        | ((with_reducible refine wpL_skip ?_ ?_ ?_)
           · rfl
           · rfl
           simp only [Act.put, List.setIfInBounds_toArray, List.set_cons_zero, List.set_cons_succ])
        | ((with_reducible refine wpL_quiet ?_ ?_ ?_ ?_)
           · rfl
           · rfl
           · rfl
           apply Exists.intro
           refine ⟨fun W hW hS => ?_, ?_⟩
           · have hC := (Ext.facts hW).1
             go_simp
             first | done | (with_reducible rfl) | (rw [if_neg (by omega)]; exact ⟨rfl, rfl⟩) | rfl
           first | (with_reducible refine wpL_boolT ?_) | (with_reducible refine wpL_boolF ?_) | (with_reducible refine wpL_bool (fun hB => ?_) (fun hB => ?_)) | skip
           all_goals simp only [Act.put, List.setIfInBounds_toArray, List.set_cons_zero, List.set_cons_succ])
        | ((refine wpL_call ?_ rfl rfl ?_ ?_ ?_)
           · rfl
           · rfl
           · intro W hW hS
             have hC := (Ext.facts hW).1;unfold growAt
             go_simp
             simp only [growUpon]
             first | (go_at_call 85; ((with_reducible refine Calls.mono (spec_l5LinkOk _ (x) (t) _ (by exact Rt.out.ext xe)) ?_)); rintro e w9 ⟨rfl, e9⟩; exact ⟨_, rfl, e9, by first | rfl | (simp only [*])⟩)
           first | (with_reducible refine wpL_boolT ?_) | (with_reducible refine wpL_boolF ?_) | (with_reducible refine wpL_bool (fun hB => ?_) (fun hB => ?_)) | skip
           all_goals simp only [Act.put, List.setIfInBounds_toArray, List.set_cons_zero, List.set_cons_succ]))
       refine wpL_nil (fun w4 e4 hL => ?_);clear hL h1;go_wp2_with fail
       go_loopw [6] (fun i2 wr2 => ∃ m : Nat, m ≤ k ∧ i2 = I m ∧ (∀ j, j < m → clash (t.links.getD j dLink) (t.links.getD k dLink) = false) ∧ Ext w4 wr2) (fun i2 _ => k - (intOf i2).toNat)
       case atStart => exact ⟨0, by omega, rfl, fun _ h => absurd h (by omega), Ext.refl _⟩
       case round =>
        obtain ⟨m, hm, rfl, hq2, he2⟩ := hrel;have HQ2 := Lib.hid hq2; clear hq2;clear hx_0 hx_1 hx_2 hx_3 hx_4;have bt := Bt.out.ext (w' := wr) xe;have lt := bt.lt;obtain ⟨pt_0, pt_1⟩ := blk2 bt;clear bt;by_cases hlt2 : m < k
        · have hml : m < t.links.length := by omega
          obtain ⟨b2, off2, hA2, hb2, hkl2, hc2⟩ := (St_1.out.ext (w' := wr) xe).at_ hml;cases hA2;have HG2 := Lib.hid (linkAt hkl2)
          generalize t.links[m] = g at *
          obtain ⟨hg_0, hg_1, hg_2, hg_3, hg_4⟩ := hc2;have hee : Ext _ wr := Ext.trans e4 he2;obtain ⟨k0, k1, k2, k3, k4⟩ := LinkAt.keeps _ _ _ _ _ _ _ hee.size hee.same hb HC.out;clear hee
          have j1 : (m : Int) < (t.links.length : Int) := by omega
          have j3 : (0 : Int) ≤ (m : Int) := by omega
          have j4 : (m : Int) < (k : Int) := by omega
          cases h1 : usesIf g x.a x.ai
          · cases h2 : usesIf g x.b x.bi
            · have HN : Hid (clash (t.links.getD m dLink) (t.links.getD k dLink) = false) := by unfold Hid; rw [HG2.out, HG.out, clash, h1, h2]; rfl
              go_wp2_with fail
              refine wp_region_L (E := Ext) (w0 := wr) (G := fun τ => match τ with | 92 => some (fun v _ => v = .bool (false)) | 111 => some (fun v _ => v = .bool (false)) | _ => none) Ext.refl (fun h k => Ext.trans h k) (by kernel_rfl) (by kernel_rfl) xg (Ext.drew (by exact Ext.refl _)) ?_
              repeat' (first
               | ((with_reducible refine wpL_skip ?_ ?_ ?_)
                  · rfl
                  · rfl
                  simp only [Act.put, List.setIfInBounds_toArray, List.set_cons_zero, List.set_cons_succ])
               | ((with_reducible refine wpL_quiet ?_ ?_ ?_ ?_)
                  · rfl
                  · rfl
                  · rfl
                  apply Exists.intro
                  refine ⟨fun W hW hS => ?_, ?_⟩
                  · have hC := (Ext.facts hW).1
                    go_simp
                    first | done | (with_reducible rfl) | (rw [if_neg (by omega)]; exact ⟨rfl, rfl⟩) | rfl
                  first | (with_reducible refine wpL_boolT ?_) | (with_reducible refine wpL_boolF ?_) | (with_reducible refine wpL_bool (fun hB => ?_) (fun hB => ?_)) | skip
                  all_goals simp only [Act.put, List.setIfInBounds_toArray, List.set_cons_zero, List.set_cons_succ])
               | ((refine wpL_call ?_ rfl rfl ?_ ?_ ?_)
                  · rfl
                  · rfl
                  · intro W hW hS
                    have hC := (Ext.facts hW).1;unfold growAt
                    go_simp
                    simp only [growUpon]
                    first | (go_at_call 86; ((with_reducible refine Calls.mono (spec_l5Ends (g) _ _ _) ?_)); rintro e w9 ⟨rfl, e9⟩; exact ⟨_, rfl, e9, by first | rfl | (simp only [*])⟩) | (go_at_call 86; ((with_reducible refine Calls.mono (spec_l5Ends (g) _ _ _) ?_)); rintro e w9 ⟨rfl, e9⟩; exact ⟨_, rfl, e9, by first | rfl | (simp only [*])⟩)
                  first | (with_reducible refine wpL_boolT ?_) | (with_reducible refine wpL_boolF ?_) | (with_reducible refine wpL_bool (fun hB => ?_) (fun hB => ?_)) | skip
                  all_goals simp only [Act.put, List.setIfInBounds_toArray, List.set_cons_zero, List.set_cons_succ]))
              refine wpL_nil (fun w5 e5 hL => ?_);go_wp2_with fail
              go_roundw
              case rel => exact ⟨m + 1, by omega, by go_num, belowF (p := fun j => clash (t.links.getD j dLink) (t.links.getD k dLink)) HQ2.out HN.out, xe⟩
              case measure => simp [intOf]; omega
            · have HN : Hid (validTop t = false) := by unfold Hid; rw [HF2.out, range_no hlt (by rw [HP2.out, linkDup, any_yes hlt2 (by rw [HG2.out, HG.out, clash, h1, h2]; rfl)]; rfl)]
              go_wp2_with fail
              refine wp_region_L (E := Ext) (w0 := wr) (G := fun τ => match τ with | 92 => some (fun v _ => v = .bool (false)) | 111 => some (fun v _ => v = .bool (true)) | _ => none) Ext.refl (fun h k => Ext.trans h k) (by kernel_rfl) (by kernel_rfl) xg (Ext.drew (by exact Ext.refl _)) ?_
              repeat' (first
               | ((with_reducible refine wpL_skip ?_ ?_ ?_)
                  · rfl
                  · rfl
                  simp only [Act.put, List.setIfInBounds_toArray, List.set_cons_zero, List.set_cons_succ])
               | ((with_reducible refine wpL_quiet ?_ ?_ ?_ ?_)
                  · rfl
                  · rfl
                  · rfl
                  apply Exists.intro
                  refine ⟨fun W hW hS => ?_, ?_⟩
                  · have hC := (Ext.facts hW).1
                    go_simp
                    first | done | (with_reducible rfl) | (rw [if_neg (by omega)]; exact ⟨rfl, rfl⟩) | rfl
                  first | (with_reducible refine wpL_boolT ?_) | (with_reducible refine wpL_boolF ?_) | (with_reducible refine wpL_bool (fun hB => ?_) (fun hB => ?_)) | skip
                  all_goals simp only [Act.put, List.setIfInBounds_toArray, List.set_cons_zero, List.set_cons_succ])
               | ((refine wpL_call ?_ rfl rfl ?_ ?_ ?_)
                  · rfl
                  · rfl
                  · intro W hW hS
                    have hC := (Ext.facts hW).1;unfold growAt
                    go_simp
                    simp only [growUpon]
                    first | (go_at_call 86; ((with_reducible refine Calls.mono (spec_l5Ends (g) _ _ _) ?_)); rintro e w9 ⟨rfl, e9⟩; exact ⟨_, rfl, e9, by first | rfl | (simp only [*])⟩) | (go_at_call 86; ((with_reducible refine Calls.mono (spec_l5Ends (g) _ _ _) ?_)); rintro e w9 ⟨rfl, e9⟩; exact ⟨_, rfl, e9, by first | rfl | (simp only [*])⟩)
                  first | (with_reducible refine wpL_boolT ?_) | (with_reducible refine wpL_boolF ?_) | (with_reducible refine wpL_bool (fun hB => ?_) (fun hB => ?_)) | skip
                  all_goals simp only [Act.put, List.setIfInBounds_toArray, List.set_cons_zero, List.set_cons_succ]))
              refine wpL_nil (fun w5 e5 hL => ?_);go_wp2_with fail
              go_ret
              exact ⟨ret_bool HN.out.symm, xe⟩
          · have HN : Hid (validTop t = false) := by unfold Hid; rw [HF2.out, range_no hlt (by rw [HP2.out, linkDup, any_yes hlt2 (by rw [HG2.out, HG.out, clash, h1]; rfl)]; rfl)]
            go_wp2_with fail
            refine wp_region_L (E := Ext) (w0 := wr) (G := fun τ => match τ with | 92 => some (fun v _ => v = .bool (true)) | _ => none) Ext.refl (fun h k => Ext.trans h k) (by kernel_rfl) (by kernel_rfl) xg (Ext.drew (by exact Ext.refl _)) ?_
            repeat' (first
             | ((with_reducible refine wpL_skip ?_ ?_ ?_)
                · rfl
                · rfl
                simp only [Act.put, List.setIfInBounds_toArray, List.set_cons_zero, List.set_cons_succ])
             | ((with_reducible refine wpL_quiet ?_ ?_ ?_ ?_)
                · rfl
                · rfl
                · rfl
                apply Exists.intro
                refine ⟨fun W hW hS => ?_, ?_⟩
                · have hC := (Ext.facts hW).1
                  go_simp
                  first | done | (with_reducible rfl) | (rw [if_neg (by omega)]; exact ⟨rfl, rfl⟩) | rfl
                first | (with_reducible refine wpL_boolT ?_) | (with_reducible refine wpL_boolF ?_) | (with_reducible refine wpL_bool (fun hB => ?_) (fun hB => ?_)) | skip
                all_goals simp only [Act.put, List.setIfInBounds_toArray, List.set_cons_zero, List.set_cons_succ])
             | ((refine wpL_call ?_ rfl rfl ?_ ?_ ?_)
                · rfl
                · rfl
                · intro W hW hS
                  have hC := (Ext.facts hW).1;unfold growAt
                  go_simp
                  simp only [growUpon]
                  first | (go_at_call 86; ((with_reducible refine Calls.mono (spec_l5Ends (g) _ _ _) ?_)); rintro e w9 ⟨rfl, e9⟩; exact ⟨_, rfl, e9, by first | rfl | (simp only [*])⟩)
                first | (with_reducible refine wpL_boolT ?_) | (with_reducible refine wpL_boolF ?_) | (with_reducible refine wpL_bool (fun hB => ?_) (fun hB => ?_)) | skip
                all_goals simp only [Act.put, List.setIfInBounds_toArray, List.set_cons_zero, List.set_cons_succ]))
            refine wpL_nil (fun w5 e5 hL => ?_);go_wp2_with fail
            go_ret
            exact ⟨ret_bool HN.out.symm, xe⟩
        · obtain rfl : m = k := by omega
          have HY : Hid (linkFine t m = true) := by unfold Hid; rw [HP2.out, linkDup, any_none HQ2.out]; rfl
          go_wp2_with fail
          go_roundw
          case rel => exact ⟨m + 1, by omega, by go_num, belowT HQ.out HY.out, xe⟩
          case measure => simp [intOf]; omega
     · go_wp2_with fail
       go_ret
       exact ⟨ret_bool (by rw [HF2.out, range_yes (fun j hj => HQ.out j (by omega))]), xe⟩
end Go.Proofs.YtfpfgifjigenaaaGreat
