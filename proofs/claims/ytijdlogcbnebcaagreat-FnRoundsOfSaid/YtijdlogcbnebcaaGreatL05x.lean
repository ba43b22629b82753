/- Contracts of the program's functions on topologies: linkOk. -/
import Derived.Deep.Cut
import Derived.Deep.CutRange
import Derived.Test.YtijdlogcbnebcaaGreatGL5
namespace Go.Proofs.YtijdlogcbnebcaaGreat
open Go.RowKit
set_option linter.unusedVariables false
theorem name_exit {K : Act → World → Prop} {Q : Exit → Act → World → Prop} {x : Exit} {a : Act} {W : World} (p : World → Prop) (hp : p W) (h : ∀ w, p w → Exit.then K Q x a w) : Exit.then K Q x a W := h W hp
set_option maxRecDepth 100000 in
set_option maxHeartbeats 1000000 in
theorem impl_linkOk (vt : Value) (l : DLink) (t : DTopology) (w : World) (ht : TopologyV w.heap.size w vt t) :
    Calls Tryz.prog 28 #[vt, .agg #[I l.a, I l.ai, I l.b, I l.bi, I l.kind]] w fun e w' => e = .returned (.bool (linkOk t l)) ∧ Ext w w' := by
  obtain ⟨At_0, nt_0, ct_0, At_1, nt_1, ct_1, rfl, st_0, st_1⟩ := id ht
  obtain ⟨lt_0, kt_0, mt_0⟩ := st_0.len
  subst lt_0
  unfold maxLen at mt_0
  obtain ⟨lt_1, kt_1, mt_1⟩ := st_1.len
  subst lt_1
  unfold maxLen at mt_1
  have Rt := Lib.hid ht; clear ht
  have St_0 := Lib.hid st_0; clear st_0
  have St_1 := Lib.hid st_1; clear st_1
  go_enter Tryz.func28, Tryz.ntmps28
  go_wp2_with fail
  first | refine name_wp ?_ ?_ ?_ | refine name_calls ?_ ?_ ?_
  exact (fun W => Ext w W ∧ Blk W (w.heap.size) 27 [.slice At_0 t.ases.length ct_0, .slice At_1 t.links.length ct_1] ∧ Blk W (w.heap.size + 1) 58 [I l.a, I l.ai, I l.b, I l.bi, I l.kind])
  exact ⟨xe, xb, xb⟩
  rintro w0 ⟨ew0, bt, bl⟩
  have lt := bt.lt
  obtain ⟨pt_0, pt_1⟩ := blk2 bt
  have Bt := Lib.hid bt; clear bt
  have ll := bl.lt
  obtain ⟨pl_0, pl_1, pl_2, pl_3, pl_4⟩ := blk5 bl
  have Bl := Lib.hid bl; clear bl
  refine (impl_isAS _ _ (t) _ (by exact Rt.out.ext xe)).mono ?_
  rintro e w1 ⟨rfl, ew1⟩
  have bt := Bt.out.ext (w' := w1) xe
  have lt := bt.lt
  obtain ⟨pt_0, pt_1⟩ := blk2 bt
  clear bt
  have bl := Bl.out.ext (w' := w1) xe
  have ll := bl.lt
  obtain ⟨pl_0, pl_1, pl_2, pl_3, pl_4⟩ := blk5 bl
  clear bl
  cases h1 : isAs t l.a
  · go_wp2_with fail
    go_ret
    exact ⟨ret_bool (by simp [linkOk, h1]), xe⟩
  go_wp2_with fail
  refine (impl_isAS _ _ (t) _ (by exact Rt.out.ext xe)).mono ?_
  rintro e w2 ⟨rfl, ew2⟩
  have bt := Bt.out.ext (w' := w2) xe
  have lt := bt.lt
  obtain ⟨pt_0, pt_1⟩ := blk2 bt
  clear bt
  have bl := Bl.out.ext (w' := w2) xe
  have ll := bl.lt
  obtain ⟨pl_0, pl_1, pl_2, pl_3, pl_4⟩ := blk5 bl
  clear bl
  cases h2 : isAs t l.b
  · go_wp2_with fail
    go_ret
    exact ⟨ret_bool (by simp [linkOk, h2]), xe⟩
  by_cases h3 : l.b ≤ l.a
  · have d3 : decide (l.b ≤ l.a) = true := decide_eq_true h3
    go_wp2_with fail
    go_ret
    exact ⟨ret_bool (by simp [linkOk]; omega), xe⟩
  have d3 : decide (l.b ≤ l.a) = false := decide_eq_false h3
  go_wp2_with fail
  refine (impl_InRange _ _ _ _).mono ?_
  rintro e w3 ⟨rfl, rfl⟩
  cases h4 : inR l.ai 1 6
  · go_wp2_with fail
    go_ret
    exact ⟨ret_bool (by simp [linkOk, h4]), xe⟩
  go_wp2_with fail
  refine (impl_InRange _ _ _ _).mono ?_
  rintro e w3 ⟨rfl, rfl⟩
  cases h5 : inR l.bi 1 6
  · go_wp2_with fail
    go_ret
    exact ⟨ret_bool (by simp [linkOk, h5]), xe⟩
  have HF : Hid (linkOk t l = kindOk (asAt t l.a) (asAt t l.b) l.kind) := by unfold Hid linkOk; rw [h1, h2, h4, h5, decide_eq_true (by omega)]; rfl
  obtain ⟨ka, ea, hka⟩ := isAs_nat h1
  obtain ⟨kb, eb, hkb⟩ := isAs_nat h2
  rw [ea, eb, asAt_nat t ka hka, asAt_nat t kb hkb] at HF
  clear h1 h2 h3 d3 h4 h5
  obtain ⟨b, off, rfl, hb, hk1, hc⟩ := (St_0.out.ext (w' := w2) xe).at_ hka
  obtain ⟨b2, off2, hA2, hb2, hk2, hc2⟩ := (St_0.out.ext (w' := w2) xe).at_ hkb
  cases hA2
  generalize t.ases[ka] = x at *
  generalize t.ases[kb] = y at *
  obtain ⟨x0, x1, x2⟩ := hc
  obtain ⟨y0, y1, y2⟩ := hc2
  have i0 : (0 : Int) ≤ (ka : Int) := by omega
  have i1 : (ka : Int) < (t.ases.length : Int) := by omega
  have i2 : (0 : Int) ≤ (kb : Int) := by omega
  have i3 : (kb : Int) < (t.ases.length : Int) := by omega
  go_upto_region 3 with (fail)
  go_cut [5, 6] from 38 to 49 (fun p q wx => ∃ g h, p = .pointer (some ⟨g, 0, none⟩) ∧ q = .pointer (some ⟨h, 0, none⟩) ∧ Blk wx g 55 [I x.isd, .bool x.core, I x.key] ∧ Blk wx h 55 [I y.isd, .bool y.core, I y.key] ∧ Ext w2 wx)
  case first =>
    go_region
    all_goals
      go_wp2_with fail
      go_meet
      exact ⟨_, _, rfl, rfl, xb, xb, xe⟩
  case rest =>
    obtain ⟨g, h, rfl, rfl, bx, by_, e3⟩ := hcut
    obtain ⟨u0, u1, u2⟩ := blk3 bx
    obtain ⟨v0, v1, v2⟩ := blk3 by_
    clear bx by_
    have bl := Bl.out.ext (w' := wc) xe
    have ll := bl.lt
    obtain ⟨pl_0, pl_1, pl_2, pl_3, pl_4⟩ := blk5 bl
    clear bl
    by_cases q1 : l.kind = 1
    · have d1 : (l.kind == 1) = true := by simp [q1]
      have HG : Hid (linkOk t l = (x.core && y.core)) := by unfold Hid; rw [HF.out]; simp [kindOk, q1]
      cases hx : x.core
      all_goals
        go_wp2_with fail
        go_ret
        exact ⟨ret_bool (by rw [HG.out, hx]; rfl), xe⟩
    by_cases q2 : l.kind = 2
    · have d1 : (l.kind == 1) = false := beq_eq_false_iff_ne.2 q1
      have d2 : (l.kind == 2) = true := by simp [q2]
      have HG : Hid (linkOk t l = (x.isd == y.isd && !y.core)) := by unfold Hid; rw [HF.out]; simp [kindOk, q2]
      cases hx : x.isd == y.isd
      all_goals
        go_wp2_with fail
        go_ret
        exact ⟨ret_bool (by rw [HG.out, hx]; rfl), xe⟩
    have d1 : (l.kind == 1) = false := beq_eq_false_iff_ne.2 q1
    have d2 : (l.kind == 2) = false := beq_eq_false_iff_ne.2 q2
    by_cases q3 : l.kind = 3
    · have d3 : (l.kind == 3) = true := by simp [q3]
      have HG : Hid (linkOk t l = (!x.core && !y.core)) := by unfold Hid; rw [HF.out]; simp [kindOk, q3]
      cases hx : x.core
      all_goals
        go_wp2_with fail
        go_ret
        exact ⟨ret_bool (by rw [HG.out, hx]; rfl), xe⟩
    · have d3 : (l.kind == 3) = false := beq_eq_false_iff_ne.2 q3
      have HG : Hid (linkOk t l = false) := by unfold Hid; rw [HF.out]; simp [kindOk, q1, q2, q3]
      go_wp2_with fail
      go_ret
      exact ⟨ret_bool (by rw [HG.out]), xe⟩
end Go.Proofs.YtijdlogcbnebcaaGreat
