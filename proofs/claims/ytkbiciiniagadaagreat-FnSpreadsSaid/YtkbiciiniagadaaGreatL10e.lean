/- Contracts of the program's and the reference's functions on segments: SegmentUsable. -/
import Derived.Test.YtkbiciiniagadaaGreatGL10c
namespace Go.Proofs.YtkbiciiniagadaaGreat
open Go.RowKit
set_option linter.unusedVariables false
def segUsable (t : DTopology) (s : DSegment) (now : Int) : Bool := validSeg t s && (isTerm s && (decide (s.ts ≤ now) && decide (now ≤ segExp s)))
set_option maxRecDepth 100000 in
set_option maxHeartbeats 1000000 in
theorem impl_SegmentUsable (vt vs : Value) (now : Int) (t : DTopology) (s : DSegment) (w : World) (ht : TopologyV w.heap.size w vt t) (hs : SegmentV w.heap.size w vs s) (hn : s.hops.length ≤ 100000000) :
    Calls Tryz.prog 70 #[vt, vs, I now] w fun e w' => e = .returned (.bool (segUsable t s now)) ∧ Ext w w' := by
  obtain ⟨At_0, nt_0, ct_0, At_1, nt_1, ct_1, rfl, st_0, st_1⟩ := id ht
  obtain ⟨lt_0, kt_0, mt_0⟩ := st_0.len
  subst lt_0
  unfold maxLen at mt_0
  obtain ⟨lt_1, kt_1, mt_1⟩ := st_1.len
  subst lt_1
  unfold maxLen at mt_1
  have Rt := Lib.hid ht; clear ht
  have St_0 := Lib.hid st_0; clear st_0
  have St_1 := Lib.hid st_1; clear st_1
  obtain ⟨As_2, ns_2, cs_2, rfl, ss_2⟩ := id hs
  obtain ⟨ls_2, ks_2, ms_2⟩ := ss_2.len
  subst ls_2
  unfold maxLen at ms_2
  have Rs := Lib.hid hs; clear hs
  have Ss_2 := Lib.hid ss_2; clear ss_2
  cases h0 : validSeg t s
  · have HF : Hid (segUsable t s now = false) := by unfold Hid segUsable; rw [h0]; rfl
    have H0 := Lib.hid h0; clear h0
    go_enter Tryz.func70, Tryz.ntmps70
    go_wp2_with fail
    first | refine name_wp ?_ ?_ ?_ | refine name_calls ?_ ?_ ?_
    exact (fun W => Ext w W ∧ Blk W (w.heap.size) 27 [.slice At_0 t.ases.length ct_0, .slice At_1 t.links.length ct_1] ∧ Blk W (w.heap.size + 1) 43 [I s.ts, I s.beta, .slice As_2 s.hops.length cs_2])
    exact ⟨xe, xb, xb⟩
    rintro w0 ⟨ew0, bt, bs⟩
    have lt := bt.lt
    obtain ⟨pt_0, pt_1⟩ := blk2 bt
    have Bt := Lib.hid bt; clear bt
    have ls := bs.lt
    obtain ⟨ps_0, ps_1, ps_2⟩ := blk3 bs
    have Bs := Lib.hid bs; clear bs
    refine (impl_ValidSegment _ _ (t) (s) _ (by exact Rt.out.ext xe) (by exact Rs.out.ext xe) (by first | omega | (simp [rootData]; done) | (simp [certData]; done) | (simp only [List.length_cons, List.length_nil]; omega))).mono ?_
    rintro e w1 ⟨rfl, ew1⟩
    have bt := Bt.out.ext (w' := w1) xe
    have lt := bt.lt
    obtain ⟨pt_0, pt_1⟩ := blk2 bt
    clear bt
    have bs := Bs.out.ext (w' := w1) xe
    have ls := bs.lt
    obtain ⟨ps_0, ps_1, ps_2⟩ := blk3 bs
    clear bs
    rw [H0.out]
    go_wp2_with fail
    go_ret
    exact ⟨ret_bool HF.out.symm, xe⟩
  · cases h1 : isTerm s
    · have HF : Hid (segUsable t s now = false) := by unfold Hid segUsable; rw [h0, h1]; rfl
      have H0 := Lib.hid h0; clear h0; have H1 := Lib.hid h1; clear h1
      go_enter Tryz.func70, Tryz.ntmps70
      go_wp2_with fail
      first | refine name_wp ?_ ?_ ?_ | refine name_calls ?_ ?_ ?_
      exact (fun W => Ext w W ∧ Blk W (w.heap.size) 27 [.slice At_0 t.ases.length ct_0, .slice At_1 t.links.length ct_1] ∧ Blk W (w.heap.size + 1) 43 [I s.ts, I s.beta, .slice As_2 s.hops.length cs_2])
      exact ⟨xe, xb, xb⟩
      rintro w0 ⟨ew0, bt, bs⟩
      have lt := bt.lt
      obtain ⟨pt_0, pt_1⟩ := blk2 bt
      have Bt := Lib.hid bt; clear bt
      have ls := bs.lt
      obtain ⟨ps_0, ps_1, ps_2⟩ := blk3 bs
      have Bs := Lib.hid bs; clear bs
      refine (impl_ValidSegment _ _ (t) (s) _ (by exact Rt.out.ext xe) (by exact Rs.out.ext xe) (by first | omega | (simp [rootData]; done) | (simp [certData]; done) | (simp only [List.length_cons, List.length_nil]; omega))).mono ?_
      rintro e w1 ⟨rfl, ew1⟩
      have bt := Bt.out.ext (w' := w1) xe
      have lt := bt.lt
      obtain ⟨pt_0, pt_1⟩ := blk2 bt
      clear bt
      have bs := Bs.out.ext (w' := w1) xe
      have ls := bs.lt
      obtain ⟨ps_0, ps_1, ps_2⟩ := blk3 bs
      clear bs
      rw [H0.out]
      go_wp2_with fail
      refine (impl_IsTerminated _ (s) _ (by exact Rs.out.ext xe)).mono ?_
      rintro e w2 ⟨rfl, ew2⟩
      have bt := Bt.out.ext (w' := w2) xe
      have lt := bt.lt
      obtain ⟨pt_0, pt_1⟩ := blk2 bt
      clear bt
      have bs := Bs.out.ext (w' := w2) xe
      have ls := bs.lt
      obtain ⟨ps_0, ps_1, ps_2⟩ := blk3 bs
      clear bs
      rw [H1.out]
      go_wp2_with fail
      go_ret
      exact ⟨ret_bool HF.out.symm, xe⟩
    · by_cases h2 : s.ts ≤ now
      · by_cases h3 : now ≤ segExp s
        · have HF : Hid (segUsable t s now = true) := by unfold Hid segUsable; rw [h0, h1, decide_eq_true h2, decide_eq_true h3]; rfl
          have H0 := Lib.hid h0; clear h0; have H1 := Lib.hid h1; clear h1; have H2 := Lib.hid h2; clear h2; have H3 := Lib.hid h3; clear h3
          go_enter Tryz.func70, Tryz.ntmps70
          go_wp2_with fail
          first | refine name_wp ?_ ?_ ?_ | refine name_calls ?_ ?_ ?_
          exact (fun W => Ext w W ∧ Blk W (w.heap.size) 27 [.slice At_0 t.ases.length ct_0, .slice At_1 t.links.length ct_1] ∧ Blk W (w.heap.size + 1) 43 [I s.ts, I s.beta, .slice As_2 s.hops.length cs_2])
          exact ⟨xe, xb, xb⟩
          rintro w0 ⟨ew0, bt, bs⟩
          have lt := bt.lt
          obtain ⟨pt_0, pt_1⟩ := blk2 bt
          have Bt := Lib.hid bt; clear bt
          have ls := bs.lt
          obtain ⟨ps_0, ps_1, ps_2⟩ := blk3 bs
          have Bs := Lib.hid bs; clear bs
          refine (impl_ValidSegment _ _ (t) (s) _ (by exact Rt.out.ext xe) (by exact Rs.out.ext xe) (by first | omega | (simp [rootData]; done) | (simp [certData]; done) | (simp only [List.length_cons, List.length_nil]; omega))).mono ?_
          rintro e w1 ⟨rfl, ew1⟩
          have bt := Bt.out.ext (w' := w1) xe
          have lt := bt.lt
          obtain ⟨pt_0, pt_1⟩ := blk2 bt
          clear bt
          have bs := Bs.out.ext (w' := w1) xe
          have ls := bs.lt
          obtain ⟨ps_0, ps_1, ps_2⟩ := blk3 bs
          clear bs
          rw [H0.out]
          go_wp2_with fail
          refine (impl_IsTerminated _ (s) _ (by exact Rs.out.ext xe)).mono ?_
          rintro e w2 ⟨rfl, ew2⟩
          have bt := Bt.out.ext (w' := w2) xe
          have lt := bt.lt
          obtain ⟨pt_0, pt_1⟩ := blk2 bt
          clear bt
          have bs := Bs.out.ext (w' := w2) xe
          have ls := bs.lt
          obtain ⟨ps_0, ps_1, ps_2⟩ := blk3 bs
          clear bs
          rw [H1.out]
          have h2 := H2.out
          have d2 : decide (s.ts ≤ now) = true := decide_eq_true h2
          go_wp2_with fail
          refine (impl_SegmentExpiry _ (s) _ (by exact Rs.out.ext xe)).mono ?_
          rintro e w3 ⟨rfl, ew3⟩
          have bt := Bt.out.ext (w' := w3) xe
          have lt := bt.lt
          obtain ⟨pt_0, pt_1⟩ := blk2 bt
          clear bt
          have bs := Bs.out.ext (w' := w3) xe
          have ls := bs.lt
          obtain ⟨ps_0, ps_1, ps_2⟩ := blk3 bs
          clear bs
          generalize segExp s = se at *
          have h3 := H3.out
          go_wp2_with fail
          go_ret
          exact ⟨ret_bool HF.out.symm, xe⟩
        · have HF : Hid (segUsable t s now = false) := by unfold Hid segUsable; rw [h0, h1, decide_eq_true h2, decide_eq_false h3]; rfl
          have H0 := Lib.hid h0; clear h0; have H1 := Lib.hid h1; clear h1; have H2 := Lib.hid h2; clear h2; have H3 := Lib.hid h3; clear h3
          go_enter Tryz.func70, Tryz.ntmps70
          go_wp2_with fail
          first | refine name_wp ?_ ?_ ?_ | refine name_calls ?_ ?_ ?_
          exact (fun W => Ext w W ∧ Blk W (w.heap.size) 27 [.slice At_0 t.ases.length ct_0, .slice At_1 t.links.length ct_1] ∧ Blk W (w.heap.size + 1) 43 [I s.ts, I s.beta, .slice As_2 s.hops.length cs_2])
          exact ⟨xe, xb, xb⟩
          rintro w0 ⟨ew0, bt, bs⟩
          have lt := bt.lt
          obtain ⟨pt_0, pt_1⟩ := blk2 bt
          have Bt := Lib.hid bt; clear bt
          have ls := bs.lt
          obtain ⟨ps_0, ps_1, ps_2⟩ := blk3 bs
          have Bs := Lib.hid bs; clear bs
          refine (impl_ValidSegment _ _ (t) (s) _ (by exact Rt.out.ext xe) (by exact Rs.out.ext xe) (by first | omega | (simp [rootData]; done) | (simp [certData]; done) | (simp only [List.length_cons, List.length_nil]; omega))).mono ?_
          rintro e w1 ⟨rfl, ew1⟩
          have bt := Bt.out.ext (w' := w1) xe
          have lt := bt.lt
          obtain ⟨pt_0, pt_1⟩ := blk2 bt
          clear bt
          have bs := Bs.out.ext (w' := w1) xe
          have ls := bs.lt
          obtain ⟨ps_0, ps_1, ps_2⟩ := blk3 bs
          clear bs
          rw [H0.out]
          go_wp2_with fail
          refine (impl_IsTerminated _ (s) _ (by exact Rs.out.ext xe)).mono ?_
          rintro e w2 ⟨rfl, ew2⟩
          have bt := Bt.out.ext (w' := w2) xe
          have lt := bt.lt
          obtain ⟨pt_0, pt_1⟩ := blk2 bt
          clear bt
          have bs := Bs.out.ext (w' := w2) xe
          have ls := bs.lt
          obtain ⟨ps_0, ps_1, ps_2⟩ := blk3 bs
          clear bs
          rw [H1.out]
          have h2 := H2.out
          have d2 : decide (s.ts ≤ now) = true := decide_eq_true h2
          go_wp2_with fail
          refine (impl_SegmentExpiry _ (s) _ (by exact Rs.out.ext xe)).mono ?_
          rintro e w3 ⟨rfl, ew3⟩
          have bt := Bt.out.ext (w' := w3) xe
          have lt := bt.lt
          obtain ⟨pt_0, pt_1⟩ := blk2 bt
          clear bt
          have bs := Bs.out.ext (w' := w3) xe
          have ls := bs.lt
          obtain ⟨ps_0, ps_1, ps_2⟩ := blk3 bs
          clear bs
          generalize segExp s = se at *
          have h3 := H3.out
          have d3 : decide (now ≤ se) = false := decide_eq_false (by omega)
          go_wp2_with fail
          go_ret
          exact ⟨ret_bool HF.out.symm, xe⟩
      · have HF : Hid (segUsable t s now = false) := by unfold Hid segUsable; rw [h0, h1, decide_eq_false h2]; rfl
        have H0 := Lib.hid h0; clear h0; have H1 := Lib.hid h1; clear h1; have H2 := Lib.hid h2; clear h2
        go_enter Tryz.func70, Tryz.ntmps70
        go_wp2_with fail
        first | refine name_wp ?_ ?_ ?_ | refine name_calls ?_ ?_ ?_
        exact (fun W => Ext w W ∧ Blk W (w.heap.size) 27 [.slice At_0 t.ases.length ct_0, .slice At_1 t.links.length ct_1] ∧ Blk W (w.heap.size + 1) 43 [I s.ts, I s.beta, .slice As_2 s.hops.length cs_2])
        exact ⟨xe, xb, xb⟩
        rintro w0 ⟨ew0, bt, bs⟩
        have lt := bt.lt
        obtain ⟨pt_0, pt_1⟩ := blk2 bt
        have Bt := Lib.hid bt; clear bt
        have ls := bs.lt
        obtain ⟨ps_0, ps_1, ps_2⟩ := blk3 bs
        have Bs := Lib.hid bs; clear bs
        refine (impl_ValidSegment _ _ (t) (s) _ (by exact Rt.out.ext xe) (by exact Rs.out.ext xe) (by first | omega | (simp [rootData]; done) | (simp [certData]; done) | (simp only [List.length_cons, List.length_nil]; omega))).mono ?_
        rintro e w1 ⟨rfl, ew1⟩
        have bt := Bt.out.ext (w' := w1) xe
        have lt := bt.lt
        obtain ⟨pt_0, pt_1⟩ := blk2 bt
        clear bt
        have bs := Bs.out.ext (w' := w1) xe
        have ls := bs.lt
        obtain ⟨ps_0, ps_1, ps_2⟩ := blk3 bs
        clear bs
        rw [H0.out]
        go_wp2_with fail
        refine (impl_IsTerminated _ (s) _ (by exact Rs.out.ext xe)).mono ?_
        rintro e w2 ⟨rfl, ew2⟩
        have bt := Bt.out.ext (w' := w2) xe
        have lt := bt.lt
        obtain ⟨pt_0, pt_1⟩ := blk2 bt
        clear bt
        have bs := Bs.out.ext (w' := w2) xe
        have ls := bs.lt
        obtain ⟨ps_0, ps_1, ps_2⟩ := blk3 bs
        clear bs
        rw [H1.out]
        have h2 := H2.out
        have d2 : decide (s.ts ≤ now) = false := decide_eq_false (by omega)
        go_wp2_with fail
        go_ret
        exact ⟨ret_bool HF.out.symm, xe⟩
end Go.Proofs.YtkbiciiniagadaaGreat
