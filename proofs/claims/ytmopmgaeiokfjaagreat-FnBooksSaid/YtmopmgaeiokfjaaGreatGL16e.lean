/- Contracts of the program's and the reference's functions on segments: SegmentUsable. -/
import Derived.Test.YtmopmgaeiokfjaaGreatGL10c
import Derived.Test.YtmopmgaeiokfjaaGreatGL16
import Derived.Test.YtmopmgaeiokfjaaGreatGGrow
import Derived.Test.YtmopmgaeiokfjaaGreatGHS
import Derived.Test.YtmopmgaeiokfjaaGreatGL9
import Derived.Test.YtmopmgaeiokfjaaGreatGHD
set_option maxRecDepth 100000
set_option maxHeartbeats 1000000
namespace Go.Proofs.YtmopmgaeiokfjaaGreat
open Go.RowKit
set_option linter.unusedVariables false
def segUsable (t : DTopology) (s : DSegment) (now : Int) : Bool := validSeg t s && (isTerm s && (decide (s.ts ≤ now) && decide (now ≤ segExp s)))
theorem impl_SegmentUsable (vt vs : Value) (now : Int) (t : DTopology) (s : DSegment) (w : World) (ht : TopologyV w.heap.size w vt t) (hs : SegmentV w.heap.size w vs s) (hn : s.hops.length ≤ 100000000) :
 Calls Tryz.prog 103 #[vt, vs, I now] w fun e w' => e = .returned (.bool (segUsable t s now)) ∧ Ext w w' := by
 obtain ⟨At_0, nt_0, ct_0, At_1, nt_1, ct_1, rfl, st_0, st_1⟩ := id ht;obtain ⟨lt_0, kt_0, mt_0⟩ := st_0.len;subst lt_0;unfold maxLen at mt_0;obtain ⟨lt_1, kt_1, mt_1⟩ := st_1.len;subst lt_1;unfold maxLen at mt_1;have Rt := Lib.hid ht; clear ht;have St_0 := Lib.hid st_0; clear st_0;have St_1 := Lib.hid st_1; clear st_1;obtain ⟨As_2, ns_2, cs_2, rfl, ss_2⟩ := id hs;obtain ⟨ls_2, ks_2, ms_2⟩ := ss_2.len;subst ls_2;unfold maxLen at ms_2;have Rs := Lib.hid hs; clear hs;have Ss_2 := Lib.hid ss_2; clear ss_2;cases h0 : validSeg t s
 · have HF : Hid (segUsable t s now = false) := by unfold Hid segUsable; rw [h0]; rfl
   have H0 := Lib.hid h0; clear h0
   go_enter Tryz.func103, Tryz.ntmps103
   go_wp2_with fail
   first | refine name_wp ?_ ?_ ?_ | refine name_calls ?_ ?_ ?_
   exact (fun W => Ext w W ∧ Blk W (w.heap.size) 27 [.slice At_0 t.ases.length ct_0, .slice At_1 t.links.length ct_1] ∧ Blk W (w.heap.size + 1) 33 [I s.ts, I s.beta, .slice As_2 s.hops.length cs_2]);exact ⟨xe, xb, xb⟩;rintro w0 ⟨ew0, bt, bs⟩;have lt := bt.lt;obtain ⟨pt_0, pt_1⟩ := blk2 bt;have Bt := Lib.hid bt; clear bt;have ls := bs.lt;obtain ⟨ps_0, ps_1, ps_2⟩ := blk3 bs;have Bs := Lib.hid bs; clear bs;refine (impl_ValidSegment _ _ (t) (s) _ (by exact Rt.out.ext xe) (by exact Rs.out.ext xe) xo).mono ?_;rintro e w1 ⟨rfl, ew1⟩;have bt := Bt.out.ext (w' := w1) xe;have lt := bt.lt;obtain ⟨pt_0, pt_1⟩ := blk2 bt;clear bt;have bs := Bs.out.ext (w' := w1) xe;have ls := bs.lt;obtain ⟨ps_0, ps_1, ps_2⟩ := blk3 bs;clear bs;rw [H0.out];go_wp2_with fail
   go_ret
   exact ⟨ret_bool HF.out.symm, xe⟩
 · cases h1 : isTerm s
   · have HF : Hid (segUsable t s now = false) := by unfold Hid segUsable; rw [h0, h1]; rfl
     have H0 := Lib.hid h0; clear h0; have H1 := Lib.hid h1; clear h1
     go_enter Tryz.func103, Tryz.ntmps103
     go_wp2_with fail
     first | refine name_wp ?_ ?_ ?_ | refine name_calls ?_ ?_ ?_
     exact (fun W => Ext w W ∧ Blk W (w.heap.size) 27 [.slice At_0 t.ases.length ct_0, .slice At_1 t.links.length ct_1] ∧ Blk W (w.heap.size + 1) 33 [I s.ts, I s.beta, .slice As_2 s.hops.length cs_2]);exact ⟨xe, xb, xb⟩;rintro w0 ⟨ew0, bt, bs⟩;have lt := bt.lt;obtain ⟨pt_0, pt_1⟩ := blk2 bt;have Bt := Lib.hid bt; clear bt;have ls := bs.lt;obtain ⟨ps_0, ps_1, ps_2⟩ := blk3 bs;have Bs := Lib.hid bs; clear bs;refine (impl_ValidSegment _ _ (t) (s) _ (by exact Rt.out.ext xe) (by exact Rs.out.ext xe) xo).mono ?_;rintro e w1 ⟨rfl, ew1⟩;have bt := Bt.out.ext (w' := w1) xe;have lt := bt.lt;obtain ⟨pt_0, pt_1⟩ := blk2 bt;clear bt;have bs := Bs.out.ext (w' := w1) xe;have ls := bs.lt;obtain ⟨ps_0, ps_1, ps_2⟩ := blk3 bs;clear bs;rw [H0.out];go_wp2_with fail
     refine (impl_IsTerminated _ (s) _ (by exact Rs.out.ext xe)).mono ?_;rintro e w2 ⟨rfl, ew2⟩;have bt := Bt.out.ext (w' := w2) xe;have lt := bt.lt;obtain ⟨pt_0, pt_1⟩ := blk2 bt;clear bt;have bs := Bs.out.ext (w' := w2) xe;have ls := bs.lt;obtain ⟨ps_0, ps_1, ps_2⟩ := blk3 bs;clear bs;rw [H1.out];go_wp2_with fail
     go_ret
     exact ⟨ret_bool HF.out.symm, xe⟩
   · by_cases h2 : s.ts ≤ now
     · by_cases h3 : now ≤ segExp s
       · have HF : Hid (segUsable t s now = true) := by unfold Hid segUsable; rw [h0, h1, decide_eq_true h2, decide_eq_true h3]; rfl
         have H0 := Lib.hid h0; clear h0; have H1 := Lib.hid h1; clear h1; have H2 := Lib.hid h2; clear h2; have H3 := Lib.hid h3; clear h3
         go_enter Tryz.func103, Tryz.ntmps103
         go_wp2_with fail
         first | refine name_wp ?_ ?_ ?_ | refine name_calls ?_ ?_ ?_
         exact (fun W => Ext w W ∧ Blk W (w.heap.size) 27 [.slice At_0 t.ases.length ct_0, .slice At_1 t.links.length ct_1] ∧ Blk W (w.heap.size + 1) 33 [I s.ts, I s.beta, .slice As_2 s.hops.length cs_2]);exact ⟨xe, xb, xb⟩;rintro w0 ⟨ew0, bt, bs⟩;have lt := bt.lt;obtain ⟨pt_0, pt_1⟩ := blk2 bt;have Bt := Lib.hid bt; clear bt;have ls := bs.lt;obtain ⟨ps_0, ps_1, ps_2⟩ := blk3 bs;have Bs := Lib.hid bs; clear bs;refine (impl_ValidSegment _ _ (t) (s) _ (by exact Rt.out.ext xe) (by exact Rs.out.ext xe) xo).mono ?_;rintro e w1 ⟨rfl, ew1⟩;have bt := Bt.out.ext (w' := w1) xe;have lt := bt.lt;obtain ⟨pt_0, pt_1⟩ := blk2 bt;clear bt;have bs := Bs.out.ext (w' := w1) xe;have ls := bs.lt;obtain ⟨ps_0, ps_1, ps_2⟩ := blk3 bs;clear bs;rw [H0.out];go_wp2_with fail
         refine (impl_IsTerminated _ (s) _ (by exact Rs.out.ext xe)).mono ?_;rintro e w2 ⟨rfl, ew2⟩;have bt := Bt.out.ext (w' := w2) xe;have lt := bt.lt;obtain ⟨pt_0, pt_1⟩ := blk2 bt;clear bt;have bs := Bs.out.ext (w' := w2) xe;have ls := bs.lt;obtain ⟨ps_0, ps_1, ps_2⟩ := blk3 bs;clear bs;rw [H1.out];have h2 := H2.out;have d2 : decide (s.ts ≤ now) = true := decide_eq_true h2;go_wp2_with fail
         refine (impl_SegmentExpiry _ (s) _ (by exact Rs.out.ext xe)).mono ?_;rintro e w3 ⟨rfl, ew3⟩;have bt := Bt.out.ext (w' := w3) xe;have lt := bt.lt;obtain ⟨pt_0, pt_1⟩ := blk2 bt;clear bt;have bs := Bs.out.ext (w' := w3) xe;have ls := bs.lt;obtain ⟨ps_0, ps_1, ps_2⟩ := blk3 bs;clear bs
         generalize segExp s = se at *
         have h3 := H3.out;go_wp2_with fail
         go_ret
         exact ⟨ret_bool HF.out.symm, xe⟩
       · have HF : Hid (segUsable t s now = false) := by unfold Hid segUsable; rw [h0, h1, decide_eq_true h2, decide_eq_false h3]; rfl
         have H0 := Lib.hid h0; clear h0; have H1 := Lib.hid h1; clear h1; have H2 := Lib.hid h2; clear h2; have H3 := Lib.hid h3; clear h3
         go_enter Tryz.func103, Tryz.ntmps103
         go_wp2_with fail
         first | refine name_wp ?_ ?_ ?_ | refine name_calls ?_ ?_ ?_
         exact (fun W => Ext w W ∧ Blk W (w.heap.size) 27 [.slice At_0 t.ases.length ct_0, .slice At_1 t.links.length ct_1] ∧ Blk W (w.heap.size + 1) 33 [I s.ts, I s.beta, .slice As_2 s.hops.length cs_2]);exact ⟨xe, xb, xb⟩;rintro w0 ⟨ew0, bt, bs⟩;have lt := bt.lt;obtain ⟨pt_0, pt_1⟩ := blk2 bt;have Bt := Lib.hid bt; clear bt;have ls := bs.lt;obtain ⟨ps_0, ps_1, ps_2⟩ := blk3 bs;have Bs := Lib.hid bs; clear bs;refine (impl_ValidSegment _ _ (t) (s) _ (by exact Rt.out.ext xe) (by exact Rs.out.ext xe) xo).mono ?_;rintro e w1 ⟨rfl, ew1⟩;have bt := Bt.out.ext (w' := w1) xe;have lt := bt.lt;obtain ⟨pt_0, pt_1⟩ := blk2 bt;clear bt;have bs := Bs.out.ext (w' := w1) xe;have ls := bs.lt;obtain ⟨ps_0, ps_1, ps_2⟩ := blk3 bs;clear bs;rw [H0.out];go_wp2_with fail
         refine (impl_IsTerminated _ (s) _ (by exact Rs.out.ext xe)).mono ?_;rintro e w2 ⟨rfl, ew2⟩;have bt := Bt.out.ext (w' := w2) xe;have lt := bt.lt;obtain ⟨pt_0, pt_1⟩ := blk2 bt;clear bt;have bs := Bs.out.ext (w' := w2) xe;have ls := bs.lt;obtain ⟨ps_0, ps_1, ps_2⟩ := blk3 bs;clear bs;rw [H1.out];have h2 := H2.out;have d2 : decide (s.ts ≤ now) = true := decide_eq_true h2;go_wp2_with fail
         refine (impl_SegmentExpiry _ (s) _ (by exact Rs.out.ext xe)).mono ?_;rintro e w3 ⟨rfl, ew3⟩;have bt := Bt.out.ext (w' := w3) xe;have lt := bt.lt;obtain ⟨pt_0, pt_1⟩ := blk2 bt;clear bt;have bs := Bs.out.ext (w' := w3) xe;have ls := bs.lt;obtain ⟨ps_0, ps_1, ps_2⟩ := blk3 bs;clear bs
         generalize segExp s = se at *
         have h3 := H3.out;have d3 : decide (now ≤ se) = false := decide_eq_false (by omega);go_wp2_with fail
         go_ret
         exact ⟨ret_bool HF.out.symm, xe⟩
     · have HF : Hid (segUsable t s now = false) := by unfold Hid segUsable; rw [h0, h1, decide_eq_false h2]; rfl
       have H0 := Lib.hid h0; clear h0; have H1 := Lib.hid h1; clear h1; have H2 := Lib.hid h2; clear h2
       go_enter Tryz.func103, Tryz.ntmps103
       go_wp2_with fail
       first | refine name_wp ?_ ?_ ?_ | refine name_calls ?_ ?_ ?_
       exact (fun W => Ext w W ∧ Blk W (w.heap.size) 27 [.slice At_0 t.ases.length ct_0, .slice At_1 t.links.length ct_1] ∧ Blk W (w.heap.size + 1) 33 [I s.ts, I s.beta, .slice As_2 s.hops.length cs_2]);exact ⟨xe, xb, xb⟩;rintro w0 ⟨ew0, bt, bs⟩;have lt := bt.lt;obtain ⟨pt_0, pt_1⟩ := blk2 bt;have Bt := Lib.hid bt; clear bt;have ls := bs.lt;obtain ⟨ps_0, ps_1, ps_2⟩ := blk3 bs;have Bs := Lib.hid bs; clear bs;refine (impl_ValidSegment _ _ (t) (s) _ (by exact Rt.out.ext xe) (by exact Rs.out.ext xe) xo).mono ?_;rintro e w1 ⟨rfl, ew1⟩;have bt := Bt.out.ext (w' := w1) xe;have lt := bt.lt;obtain ⟨pt_0, pt_1⟩ := blk2 bt;clear bt;have bs := Bs.out.ext (w' := w1) xe;have ls := bs.lt;obtain ⟨ps_0, ps_1, ps_2⟩ := blk3 bs;clear bs;rw [H0.out];go_wp2_with fail
       refine (impl_IsTerminated _ (s) _ (by exact Rs.out.ext xe)).mono ?_;rintro e w2 ⟨rfl, ew2⟩;have bt := Bt.out.ext (w' := w2) xe;have lt := bt.lt;obtain ⟨pt_0, pt_1⟩ := blk2 bt;clear bt;have bs := Bs.out.ext (w' := w2) xe;have ls := bs.lt;obtain ⟨ps_0, ps_1, ps_2⟩ := blk3 bs;clear bs;rw [H1.out];have h2 := H2.out;have d2 : decide (s.ts ≤ now) = false := decide_eq_false (by omega);go_wp2_with fail
       go_ret
       exact ⟨ret_bool HF.out.symm, xe⟩
theorem spec_SegmentUsable (vt vs : Value) (now : Int) (t : DTopology) (s : DSegment) (w : World) (ht : TopologyV w.heap.size w vt t) (hs : SegmentV w.heap.size w vs s) (hn : s.hops.length ≤ 100000000) :
 Calls Tryz.prog 53 #[vt, vs, I now] w fun e w' => e = .returned (.bool (segUsable t s now)) ∧ Ext w w' := by
 obtain ⟨At_0, nt_0, ct_0, At_1, nt_1, ct_1, rfl, st_0, st_1⟩ := id ht;obtain ⟨lt_0, kt_0, mt_0⟩ := st_0.len;subst lt_0;unfold maxLen at mt_0;obtain ⟨lt_1, kt_1, mt_1⟩ := st_1.len;subst lt_1;unfold maxLen at mt_1;have Rt := Lib.hid ht; clear ht;have St_0 := Lib.hid st_0; clear st_0;have St_1 := Lib.hid st_1; clear st_1;obtain ⟨As_2, ns_2, cs_2, rfl, ss_2⟩ := id hs;obtain ⟨ls_2, ks_2, ms_2⟩ := ss_2.len;subst ls_2;unfold maxLen at ms_2;have Rs := Lib.hid hs; clear hs;have Ss_2 := Lib.hid ss_2; clear ss_2;cases h0 : validSeg t s
 · have HF : Hid (segUsable t s now = false) := by unfold Hid segUsable; rw [h0]; rfl
   have H0 := Lib.hid h0; clear h0
   go_enter Tryz.func53, Tryz.ntmps53
   go_wp2_with fail
   first | refine name_wp ?_ ?_ ?_ | refine name_calls ?_ ?_ ?_
   exact (fun W => Ext w W ∧ Blk W (w.heap.size) 27 [.slice At_0 t.ases.length ct_0, .slice At_1 t.links.length ct_1] ∧ Blk W (w.heap.size + 1) 33 [I s.ts, I s.beta, .slice As_2 s.hops.length cs_2]);exact ⟨xe, xb, xb⟩;rintro w0 ⟨ew0, bt, bs⟩;have lt := bt.lt;obtain ⟨pt_0, pt_1⟩ := blk2 bt;have Bt := Lib.hid bt; clear bt;have ls := bs.lt;obtain ⟨ps_0, ps_1, ps_2⟩ := blk3 bs;have Bs := Lib.hid bs; clear bs;refine (spec_ValidSegment _ _ (t) (s) _ (by exact Rt.out.ext xe) (by exact Rs.out.ext xe) xo).mono ?_;rintro e w1 ⟨rfl, ew1⟩;have bt := Bt.out.ext (w' := w1) xe;have lt := bt.lt;obtain ⟨pt_0, pt_1⟩ := blk2 bt;clear bt;have bs := Bs.out.ext (w' := w1) xe;have ls := bs.lt;obtain ⟨ps_0, ps_1, ps_2⟩ := blk3 bs;clear bs;rw [H0.out];go_wp2_with fail
   go_ret
   exact ⟨ret_bool HF.out.symm, xe⟩
 · cases h1 : isTerm s
   · have HF : Hid (segUsable t s now = false) := by unfold Hid segUsable; rw [h0, h1]; rfl
     have H0 := Lib.hid h0; clear h0; have H1 := Lib.hid h1; clear h1
     go_enter Tryz.func53, Tryz.ntmps53
     go_wp2_with fail
     first | refine name_wp ?_ ?_ ?_ | refine name_calls ?_ ?_ ?_
     exact (fun W => Ext w W ∧ Blk W (w.heap.size) 27 [.slice At_0 t.ases.length ct_0, .slice At_1 t.links.length ct_1] ∧ Blk W (w.heap.size + 1) 33 [I s.ts, I s.beta, .slice As_2 s.hops.length cs_2]);exact ⟨xe, xb, xb⟩;rintro w0 ⟨ew0, bt, bs⟩;have lt := bt.lt;obtain ⟨pt_0, pt_1⟩ := blk2 bt;have Bt := Lib.hid bt; clear bt;have ls := bs.lt;obtain ⟨ps_0, ps_1, ps_2⟩ := blk3 bs;have Bs := Lib.hid bs; clear bs;refine (spec_ValidSegment _ _ (t) (s) _ (by exact Rt.out.ext xe) (by exact Rs.out.ext xe) xo).mono ?_;rintro e w1 ⟨rfl, ew1⟩;have bt := Bt.out.ext (w' := w1) xe;have lt := bt.lt;obtain ⟨pt_0, pt_1⟩ := blk2 bt;clear bt;have bs := Bs.out.ext (w' := w1) xe;have ls := bs.lt;obtain ⟨ps_0, ps_1, ps_2⟩ := blk3 bs;clear bs;rw [H0.out];go_wp2_with fail
     refine (spec_IsTerminated _ (s) _ (by exact Rs.out.ext xe)).mono ?_;rintro e w2 ⟨rfl, ew2⟩;have bt := Bt.out.ext (w' := w2) xe;have lt := bt.lt;obtain ⟨pt_0, pt_1⟩ := blk2 bt;clear bt;have bs := Bs.out.ext (w' := w2) xe;have ls := bs.lt;obtain ⟨ps_0, ps_1, ps_2⟩ := blk3 bs;clear bs;rw [H1.out];go_wp2_with fail
     go_ret
     exact ⟨ret_bool HF.out.symm, xe⟩
   · by_cases h2 : s.ts ≤ now
     · by_cases h3 : now ≤ segExp s
       · have HF : Hid (segUsable t s now = true) := by unfold Hid segUsable; rw [h0, h1, decide_eq_true h2, decide_eq_true h3]; rfl
         have H0 := Lib.hid h0; clear h0; have H1 := Lib.hid h1; clear h1; have H2 := Lib.hid h2; clear h2; have H3 := Lib.hid h3; clear h3
         go_enter Tryz.func53, Tryz.ntmps53
         go_wp2_with fail
         first | refine name_wp ?_ ?_ ?_ | refine name_calls ?_ ?_ ?_
         exact (fun W => Ext w W ∧ Blk W (w.heap.size) 27 [.slice At_0 t.ases.length ct_0, .slice At_1 t.links.length ct_1] ∧ Blk W (w.heap.size + 1) 33 [I s.ts, I s.beta, .slice As_2 s.hops.length cs_2]);exact ⟨xe, xb, xb⟩;rintro w0 ⟨ew0, bt, bs⟩;have lt := bt.lt;obtain ⟨pt_0, pt_1⟩ := blk2 bt;have Bt := Lib.hid bt; clear bt;have ls := bs.lt;obtain ⟨ps_0, ps_1, ps_2⟩ := blk3 bs;have Bs := Lib.hid bs; clear bs;refine (spec_ValidSegment _ _ (t) (s) _ (by exact Rt.out.ext xe) (by exact Rs.out.ext xe) xo).mono ?_;rintro e w1 ⟨rfl, ew1⟩;have bt := Bt.out.ext (w' := w1) xe;have lt := bt.lt;obtain ⟨pt_0, pt_1⟩ := blk2 bt;clear bt;have bs := Bs.out.ext (w' := w1) xe;have ls := bs.lt;obtain ⟨ps_0, ps_1, ps_2⟩ := blk3 bs;clear bs;rw [H0.out];go_wp2_with fail
         refine (spec_IsTerminated _ (s) _ (by exact Rs.out.ext xe)).mono ?_;rintro e w2 ⟨rfl, ew2⟩;have bt := Bt.out.ext (w' := w2) xe;have lt := bt.lt;obtain ⟨pt_0, pt_1⟩ := blk2 bt;clear bt;have bs := Bs.out.ext (w' := w2) xe;have ls := bs.lt;obtain ⟨ps_0, ps_1, ps_2⟩ := blk3 bs;clear bs;rw [H1.out];have h2 := H2.out;have d2 : decide (s.ts ≤ now) = true := decide_eq_true h2;go_wp2_with fail
         refine (spec_SegmentExpiry _ (s) _ (by exact Rs.out.ext xe)).mono ?_;rintro e w3 ⟨rfl, ew3⟩;have bt := Bt.out.ext (w' := w3) xe;have lt := bt.lt;obtain ⟨pt_0, pt_1⟩ := blk2 bt;clear bt;have bs := Bs.out.ext (w' := w3) xe;have ls := bs.lt;obtain ⟨ps_0, ps_1, ps_2⟩ := blk3 bs;clear bs
         generalize segExp s = se at *
         have h3 := H3.out;go_wp2_with fail
         go_ret
         exact ⟨ret_bool HF.out.symm, xe⟩
       · have HF : Hid (segUsable t s now = false) := by unfold Hid segUsable; rw [h0, h1, decide_eq_true h2, decide_eq_false h3]; rfl
         have H0 := Lib.hid h0; clear h0; have H1 := Lib.hid h1; clear h1; have H2 := Lib.hid h2; clear h2; have H3 := Lib.hid h3; clear h3
         go_enter Tryz.func53, Tryz.ntmps53
         go_wp2_with fail
         first | refine name_wp ?_ ?_ ?_ | refine name_calls ?_ ?_ ?_
         exact (fun W => Ext w W ∧ Blk W (w.heap.size) 27 [.slice At_0 t.ases.length ct_0, .slice At_1 t.links.length ct_1] ∧ Blk W (w.heap.size + 1) 33 [I s.ts, I s.beta, .slice As_2 s.hops.length cs_2]);exact ⟨xe, xb, xb⟩;rintro w0 ⟨ew0, bt, bs⟩;have lt := bt.lt;obtain ⟨pt_0, pt_1⟩ := blk2 bt;have Bt := Lib.hid bt; clear bt;have ls := bs.lt;obtain ⟨ps_0, ps_1, ps_2⟩ := blk3 bs;have Bs := Lib.hid bs; clear bs;refine (spec_ValidSegment _ _ (t) (s) _ (by exact Rt.out.ext xe) (by exact Rs.out.ext xe) xo).mono ?_;rintro e w1 ⟨rfl, ew1⟩;have bt := Bt.out.ext (w' := w1) xe;have lt := bt.lt;obtain ⟨pt_0, pt_1⟩ := blk2 bt;clear bt;have bs := Bs.out.ext (w' := w1) xe;have ls := bs.lt;obtain ⟨ps_0, ps_1, ps_2⟩ := blk3 bs;clear bs;rw [H0.out];go_wp2_with fail
         refine (spec_IsTerminated _ (s) _ (by exact Rs.out.ext xe)).mono ?_;rintro e w2 ⟨rfl, ew2⟩;have bt := Bt.out.ext (w' := w2) xe;have lt := bt.lt;obtain ⟨pt_0, pt_1⟩ := blk2 bt;clear bt;have bs := Bs.out.ext (w' := w2) xe;have ls := bs.lt;obtain ⟨ps_0, ps_1, ps_2⟩ := blk3 bs;clear bs;rw [H1.out];have h2 := H2.out;have d2 : decide (s.ts ≤ now) = true := decide_eq_true h2;go_wp2_with fail
         refine (spec_SegmentExpiry _ (s) _ (by exact Rs.out.ext xe)).mono ?_;rintro e w3 ⟨rfl, ew3⟩;have bt := Bt.out.ext (w' := w3) xe;have lt := bt.lt;obtain ⟨pt_0, pt_1⟩ := blk2 bt;clear bt;have bs := Bs.out.ext (w' := w3) xe;have ls := bs.lt;obtain ⟨ps_0, ps_1, ps_2⟩ := blk3 bs;clear bs
         generalize segExp s = se at *
         have h3 := H3.out;have d3 : decide (now ≤ se) = false := decide_eq_false (by omega);go_wp2_with fail
         go_ret
         exact ⟨ret_bool HF.out.symm, xe⟩
     · have HF : Hid (segUsable t s now = false) := by unfold Hid segUsable; rw [h0, h1, decide_eq_false h2]; rfl
       have H0 := Lib.hid h0; clear h0; have H1 := Lib.hid h1; clear h1; have H2 := Lib.hid h2; clear h2
       go_enter Tryz.func53, Tryz.ntmps53
       go_wp2_with fail
       first | refine name_wp ?_ ?_ ?_ | refine name_calls ?_ ?_ ?_
       exact (fun W => Ext w W ∧ Blk W (w.heap.size) 27 [.slice At_0 t.ases.length ct_0, .slice At_1 t.links.length ct_1] ∧ Blk W (w.heap.size + 1) 33 [I s.ts, I s.beta, .slice As_2 s.hops.length cs_2]);exact ⟨xe, xb, xb⟩;rintro w0 ⟨ew0, bt, bs⟩;have lt := bt.lt;obtain ⟨pt_0, pt_1⟩ := blk2 bt;have Bt := Lib.hid bt; clear bt;have ls := bs.lt;obtain ⟨ps_0, ps_1, ps_2⟩ := blk3 bs;have Bs := Lib.hid bs; clear bs;refine (spec_ValidSegment _ _ (t) (s) _ (by exact Rt.out.ext xe) (by exact Rs.out.ext xe) xo).mono ?_;rintro e w1 ⟨rfl, ew1⟩;have bt := Bt.out.ext (w' := w1) xe;have lt := bt.lt;obtain ⟨pt_0, pt_1⟩ := blk2 bt;clear bt;have bs := Bs.out.ext (w' := w1) xe;have ls := bs.lt;obtain ⟨ps_0, ps_1, ps_2⟩ := blk3 bs;clear bs;rw [H0.out];go_wp2_with fail
       refine (spec_IsTerminated _ (s) _ (by exact Rs.out.ext xe)).mono ?_;rintro e w2 ⟨rfl, ew2⟩;have bt := Bt.out.ext (w' := w2) xe;have lt := bt.lt;obtain ⟨pt_0, pt_1⟩ := blk2 bt;clear bt;have bs := Bs.out.ext (w' := w2) xe;have ls := bs.lt;obtain ⟨ps_0, ps_1, ps_2⟩ := blk3 bs;clear bs;rw [H1.out];have h2 := H2.out;have d2 : decide (s.ts ≤ now) = false := decide_eq_false (by omega);go_wp2_with fail
       go_ret
       exact ⟨ret_bool HF.out.symm, xe⟩
theorem keepE {w0 w2 : World} (h : Ext w0 w2) : w0.heap.size ≤ w2.heap.size ∧ ∀ b o, b < w0.heap.size → w2.cell? ⟨b, o, none⟩ = w0.cell? ⟨b, o, none⟩ := ⟨h.size, fun _ _ hb => h.cell hb⟩
theorem impl_CoreSegments (vx : Value) (a c : Int) (x : DSegmentDatabase) (w : World) (hx : SegmentDatabaseV w.heap.size w vx x) (hn : segTot x.down + segTot x.core ≤ 1048576) :
 Calls Tryz.prog 19 #[vx, I a, I c] w fun e w' => ∃ v', e = .returned v' ∧ SegmentSO w.heap.size w'.heap.size w' v' (coreSegs x a c) ∧ Ext w w' := by
 obtain ⟨Ax_0, nx_0, cx_0, Ax_1, nx_1, cx_1, rfl, sx_0, sx_1⟩ := id hx;obtain ⟨lx_0, kx_0, mx_0⟩ := sx_0.len;subst lx_0;unfold maxLen at mx_0;obtain ⟨lx_1, kx_1, mx_1⟩ := sx_1.len;subst lx_1;unfold maxLen at mx_1;have Rx := Lib.hid hx; clear hx;have Sx_0 := Lib.hid sx_0; clear sx_0;have Sx_1 := Lib.hid sx_1; clear sx_1;have hcl := totS_len (fun u : DSegment => u.hops.length) x.core;have hn' : totS (fun u : DSegment => u.hops.length) x.down + totS (fun u : DSegment => u.hops.length) x.core ≤ 1048576 := hn;have hl1 : (coreFrom x a c).length ≤ x.core.length := List.length_filter_le _ _;have hl2 : (coreFrom x c a).length ≤ x.core.length := List.length_filter_le _ _
 go_enter Tryz.func19, Tryz.ntmps19
 go_wp2_with fail
 first | refine name_wp ?_ ?_ ?_ | refine name_calls ?_ ?_ ?_
 exact (fun W => Ext w W ∧ Blk W (w.heap.size) 30 [.slice Ax_0 x.down.length cx_0, .slice Ax_1 x.core.length cx_1]);exact ⟨xe, xb⟩;rintro w0 ⟨ew0, bx⟩;have lx := bx.lt;obtain ⟨px_0, px_1⟩ := blk2 bx;have Bx := Lib.hid bx; clear bx
 go_region_held3 (fun W => w0.heap.size ≤ W.heap.size ∧ ∀ b o, b < w0.heap.size → W.cell? ⟨b, o, none⟩ = w0.cell? ⟨b, o, none⟩)
  (first | exact ⟨Nat.le_refl _, fun _ _ _ => rfl⟩ | exact keepC (by assumption) e5 | exact keepE e6)
  (first | (go_at_call 51; refine (impl_coreFrom _ _ _ x _ (by exact Rx.out.ext xe) hn).mono ?_; rintro e w5 ⟨v5, rfl, o5, e5⟩; obtain ⟨A5, k5, c5, hv5⟩ := NO.slice o5; subst hv5; have z5 := e5.size; (try simp only [World.size_drew] at o5 z5)) | (refine step_pushD (OC := SegmentOC) (by rfl) w0 SegmentOC.keeps SegmentOC.one (.tmp 10) (.tmp 14) _ (by rfl) 33 _ 3 40 Tryz.underlying28 info_Segment rfl (by omega) _ (coreFrom x a c) (coreFrom x c a) _ _ _ _ (by rfl) _ _ _ (by rfl) (by first | exact o5 | exact NO.at' SegmentOC.keeps (by assumption) e5) (by first | exact o5 | exact NO.at' SegmentOC.keeps (by assumption) e5) (by first | (left; omega) | (right; omega)) (by omega) (by omega) (by omega) (by omega) xe (by omega) (by omega) ?_; intro v6 w6 no6 e6))
 all_goals
  go_wp2_with fail
  go_ret
  exact ⟨_, rfl, NO.more no6 (by have := ew0.size; omega) (Nat.le_refl _), xe⟩
theorem spec_CoreSegments (vx : Value) (a c : Int) (x : DSegmentDatabase) (w : World) (hx : SegmentDatabaseV w.heap.size w vx x) (hn : segTot x.down + segTot x.core ≤ 1048576) :
 Calls Tryz.prog 20 #[vx, I a, I c] w fun e w' => ∃ v', e = .returned v' ∧ SegmentSO w.heap.size w'.heap.size w' v' (coreSegs x a c) ∧ Ext w w' := by
 obtain ⟨Ax_0, nx_0, cx_0, Ax_1, nx_1, cx_1, rfl, sx_0, sx_1⟩ := id hx;obtain ⟨lx_0, kx_0, mx_0⟩ := sx_0.len;subst lx_0;unfold maxLen at mx_0;obtain ⟨lx_1, kx_1, mx_1⟩ := sx_1.len;subst lx_1;unfold maxLen at mx_1;have Rx := Lib.hid hx; clear hx;have Sx_0 := Lib.hid sx_0; clear sx_0;have Sx_1 := Lib.hid sx_1; clear sx_1;have hcl := totS_len (fun u : DSegment => u.hops.length) x.core;have hn' : totS (fun u : DSegment => u.hops.length) x.down + totS (fun u : DSegment => u.hops.length) x.core ≤ 1048576 := hn;have hl1 : (coreFrom x a c).length ≤ x.core.length := List.length_filter_le _ _;have hl2 : (coreFrom x c a).length ≤ x.core.length := List.length_filter_le _ _
 go_enter Tryz.func20, Tryz.ntmps20
 go_wp2_with fail
 first | refine name_wp ?_ ?_ ?_ | refine name_calls ?_ ?_ ?_
 exact (fun W => Ext w W ∧ Blk W (w.heap.size) 30 [.slice Ax_0 x.down.length cx_0, .slice Ax_1 x.core.length cx_1]);exact ⟨xe, xb⟩;rintro w0 ⟨ew0, bx⟩;have lx := bx.lt;obtain ⟨px_0, px_1⟩ := blk2 bx;have Bx := Lib.hid bx; clear bx
 go_region_held3 (fun W => w0.heap.size ≤ W.heap.size ∧ ∀ b o, b < w0.heap.size → W.cell? ⟨b, o, none⟩ = w0.cell? ⟨b, o, none⟩)
  (first | exact ⟨Nat.le_refl _, fun _ _ _ => rfl⟩ | exact keepC (by assumption) e5 | exact keepE e6)
  (first | (go_at_call 52; refine (spec_l16Between _ _ _ x _ (by exact Rx.out.ext xe) hn).mono ?_; rintro e w5 ⟨v5, rfl, o5, e5⟩; obtain ⟨A5, k5, c5, hv5⟩ := NO.slice o5; subst hv5; have z5 := e5.size; (try simp only [World.size_drew] at o5 z5)) | (refine step_pushD (OC := SegmentOC) (by rfl) w0 SegmentOC.keeps SegmentOC.one (.tmp 10) (.tmp 14) _ (by rfl) 33 _ 3 40 Tryz.underlying28 info_Segment rfl (by omega) _ (coreFrom x a c) (coreFrom x c a) _ _ _ _ (by rfl) _ _ _ (by rfl) (by first | exact o5 | exact NO.at' SegmentOC.keeps (by assumption) e5) (by first | exact o5 | exact NO.at' SegmentOC.keeps (by assumption) e5) (by first | (left; omega) | (right; omega)) (by omega) (by omega) (by omega) (by omega) xe (by omega) (by omega) ?_; intro v6 w6 no6 e6))
 all_goals
  go_wp2_with fail
  go_ret
  exact ⟨_, rfl, NO.more no6 (by have := ew0.size; omega) (Nat.le_refl _), xe⟩
def useB (t : DTopology) (kind now : Int) (s : DSegment) : Bool := segUsable t s now && segKind t s == kind
def usableOf (t : DTopology) (l : List DSegment) (kind now : Int) : List DSegment := l.filter (useB t kind now)
theorem impl_usable (vt vl : Value) (kind now : Int) (t : DTopology) (l : List DSegment) (w : World) (ht : TopologyV w.heap.size w vt t) (hl : SegmentS w.heap.size w vl l) (hn : segTot l ≤ 1048576) :
 Calls Tryz.prog 61 #[vt, vl, I kind, I now] w fun e w' => ∃ v', e = .returned v' ∧ SegmentSO w.heap.size w'.heap.size w' v' (usableOf t l kind now) ∧ Ext w w' := by
 obtain ⟨At_0, nt_0, ct_0, At_1, nt_1, ct_1, rfl, st_0, st_1⟩ := id ht;obtain ⟨lt_0, kt_0, mt_0⟩ := st_0.len;subst lt_0;unfold maxLen at mt_0;obtain ⟨lt_1, kt_1, mt_1⟩ := st_1.len;subst lt_1;unfold maxLen at mt_1;have Rt := Lib.hid ht; clear ht;have St_0 := Lib.hid st_0; clear st_0;have St_1 := Lib.hid st_1; clear st_1;obtain ⟨Al, nl, cl, rfl, ll, kl, ml, -⟩ := id hl;subst ll;unfold maxLen at ml;have Rl := Lib.hid hl; clear hl;have hn : totS (fun u : DSegment => u.hops.length) l ≤ 1048576 := hn;have hdl := totS_len (fun u : DSegment => u.hops.length) l
 go_enter Tryz.func61, Tryz.ntmps61
 go_wp2_with fail
 first | refine name_wp ?_ ?_ ?_ | refine name_calls ?_ ?_ ?_
 exact (fun W => Ext w W ∧ Blk W (w.heap.size) 27 [.slice At_0 t.ases.length ct_0, .slice At_1 t.links.length ct_1]);exact ⟨xe, xb⟩;rintro w0 ⟨ew0, bt⟩;have lt := bt.lt;obtain ⟨pt_0, pt_1⟩ := blk2 bt;have Bt := Lib.hid bt; clear bt
 go_loopw [9, 14] (fun v i wr => ∃ k : Nat, k ≤ l.length ∧ i = I k ∧ SegmentSO w0.heap.size wr.heap.size wr v ((l.take k).filter (useB t kind now)) ∧ Ext w0 wr) (fun _ i _ => l.length - (intOf i).toNat)
 case atStart => exact ⟨0, by omega, rfl, NO.nil _ _ _ _ _ _, xe⟩
 case round =>
  obtain ⟨k, hk, rfl, hno, he⟩ := hrel;have HNO := Lib.hid hno; clear hno;have zr := he.size;have bt := Bt.out.ext (w' := wr) xe;have lt := bt.lt;obtain ⟨pt_0, pt_1⟩ := blk2 bt;clear bt;by_cases hlt : k < l.length
  · obtain ⟨b, off, rfl, hb, hkl, hc⟩ := (Rl.out.ext (w' := wr) xe).at_ hlt
    have hyl : l[k].hops.length ≤ totS (fun u : DSegment => u.hops.length) l := totS_get (fun u : DSegment => u.hops.length) l k hkl;have HX := Lib.hid (filter_snoc (useB t kind now) l k hkl);have hfl := filter_take_len (useB t kind now) l k
    generalize l[k] = u at *
    generalize hds : (l.take k).filter (useB t kind now) = ds at *
    have HDS := Lib.hid hds; clear hds;obtain ⟨Au_2, nu_2, cu_2, hu_0, hu_1, hu_2, su_2⟩ := hc;obtain ⟨lu_2, ku_2, mu_2⟩ := su_2.len;subst lu_2;unfold maxLen at mu_2
    have Ru : Hid (SegmentV wr.heap.size wr (.agg #[I u.ts, I u.beta, .slice Au_2 u.hops.length cu_2]) u) := ⟨_, _, _, rfl, su_2⟩
    have Su_2 := Lib.hid su_2; clear su_2;cases h0 : segUsable t u now
    · have HS : Hid ((l.take (k + 1)).filter (useB t kind now) = ds) := by unfold Hid; rw [HX.out]; simp [useB, h0]
      have H0 := Lib.hid h0; clear h0;go_wp2_with fail
      first | refine name_wp ?_ ?_ ?_ | refine name_calls ?_ ?_ ?_
      exact (fun W => Ext wr W ∧ Blk W (wr.heap.size) 33 [I u.ts, I u.beta, .slice Au_2 u.hops.length cu_2]);exact ⟨xe, xb⟩;rintro w3 ⟨ew3, bu⟩;have lu := bu.lt;obtain ⟨pu_0, pu_1, pu_2⟩ := blk3 bu;have Bu := Lib.hid bu; clear bu;have bt := Bt.out.ext (w' := w3) xe;have lt := bt.lt;obtain ⟨pt_0, pt_1⟩ := blk2 bt;clear bt;refine (impl_SegmentUsable _ _ _ (t) (u) _ (by exact Rt.out.ext xe) (by exact Ru.out.ext xe) xo).mono ?_;rintro e w4 ⟨rfl, ew4⟩;rw [H0.out];go_wp2_with fail
      go_roundw
      case rel => exact ⟨k + 1, by omega, by go_num, by rw [HS.out]; exact NO.up SegmentOC.keeps HNO.out xe (Nat.le_refl _), xe⟩
      case measure => simp [intOf]; omega
    by_cases h1 : segKind t u = kind
    · have HS : Hid ((l.take (k + 1)).filter (useB t kind now) = ds ++ [u]) := by unfold Hid; rw [HX.out]; simp [useB, h0, h1]
      have H0 := Lib.hid h0; clear h0;have H1 := Lib.hid h1; clear h1;go_wp2_with fail
      first | refine name_wp ?_ ?_ ?_ | refine name_calls ?_ ?_ ?_
      exact (fun W => Ext wr W ∧ Blk W (wr.heap.size) 33 [I u.ts, I u.beta, .slice Au_2 u.hops.length cu_2]);exact ⟨xe, xb⟩;rintro w3 ⟨ew3, bu⟩;have lu := bu.lt;obtain ⟨pu_0, pu_1, pu_2⟩ := blk3 bu;have Bu := Lib.hid bu; clear bu;have bt := Bt.out.ext (w' := w3) xe;have lt := bt.lt;obtain ⟨pt_0, pt_1⟩ := blk2 bt;clear bt;refine (impl_SegmentUsable _ _ _ (t) (u) _ (by exact Rt.out.ext xe) (by exact Ru.out.ext xe) xo).mono ?_;rintro e w4 ⟨rfl, ew4⟩;have bt := Bt.out.ext (w' := w4) xe;have lt := bt.lt;obtain ⟨pt_0, pt_1⟩ := blk2 bt;clear bt;have bu := Bu.out.ext (w' := w4) xe;have lu := bu.lt;obtain ⟨pu_0, pu_1, pu_2⟩ := blk3 bu;clear bu;rw [H0.out];go_wp2_with fail
      refine (impl_SegmentKind _ _ (t) (u) _ (by exact Rt.out.ext xe) (by exact Ru.out.ext xe)).mono ?_;rintro e w4b ⟨rfl, ew4b⟩;have bu := Bu.out.ext (w' := w4b) xe;have lu := bu.lt;obtain ⟨pu_0, pu_1, pu_2⟩ := blk3 bu;clear bu;rw [H1.out];go_wp2_with fail
      refine (impl_copySegment _ u _ (by exact Ru.out.ext xe) (by omega)).mono ?_;rintro e w5 ⟨v5, rfl, o5, ew5⟩;have z4 : wr.heap.size ≤ w4b.heap.size := Ext.size xe;obtain ⟨a5, k5, q5, fp5, hv5, hoc5, hn5, hb5⟩ := o5.to_oc;subst hv5;have HOC5 := Lib.hid hoc5; have HN5 := Lib.hid hn5; have HB5 := Lib.hid hb5; clear o5 hoc5 hn5 hb5;have z5 := ew5.size;go_wp2_with (at_builtin; refine hold ?_)
      refine unhold (wpList_push (OC := SegmentOC) w0 SegmentOC.keeps SegmentOC.one rfl (.tmp 29) (.tmp 32) _ rfl 33 _ 3 40 Tryz.underlying28 info_Segment rfl (by omega) _ (ds) [u] wr.heap.size rfl _ 1 1 _ fp5 rfl
       (by exact NO.at' SegmentOC.keeps HNO.out xe) (by simp only [World.size_alloc]; omega) (row_one _ _ _ _ _ (by first | rfl | simp) rfl) (OL.one (SegmentOC.keeps _ _ _ _ _ (fun b hb hs => Ext.same (a := w5) xe b hs) HOC5.out) rfl) HN5.out (fun b hb => ⟨(by have := HB5.out b hb; omega), (by have := HB5.out b hb; simp only [World.size_alloc]; omega)⟩) (by omega) xe (by simp only [List.length_singleton]; omega) (by omega) ?_)
      intro v6 w6 no6 e6;have NO6 := Lib.hid no6; clear no6;go_wp2_with (at_builtin; refine hold ?_)
      go_roundw
      case rel => exact ⟨k + 1, by omega, by go_num, by rw [HS.out]; exact NO6.out, e6⟩
      case measure => simp [intOf]; omega
    · have HS : Hid ((l.take (k + 1)).filter (useB t kind now) = ds) := by unfold Hid; rw [HX.out]; simp [useB, h1]
      have H0 := Lib.hid h0; clear h0;have d1 : (segKind t u == kind) = false := beq_eq_false_iff_ne.2 h1;have D1 := Lib.hid d1; clear d1 h1;go_wp2_with fail
      first | refine name_wp ?_ ?_ ?_ | refine name_calls ?_ ?_ ?_
      exact (fun W => Ext wr W ∧ Blk W (wr.heap.size) 33 [I u.ts, I u.beta, .slice Au_2 u.hops.length cu_2]);exact ⟨xe, xb⟩;rintro w3 ⟨ew3, bu⟩;have lu := bu.lt;obtain ⟨pu_0, pu_1, pu_2⟩ := blk3 bu;have Bu := Lib.hid bu; clear bu;have bt := Bt.out.ext (w' := w3) xe;have lt := bt.lt;obtain ⟨pt_0, pt_1⟩ := blk2 bt;clear bt;refine (impl_SegmentUsable _ _ _ (t) (u) _ (by exact Rt.out.ext xe) (by exact Ru.out.ext xe) xo).mono ?_;rintro e w4 ⟨rfl, ew4⟩;have bt := Bt.out.ext (w' := w4) xe;have lt := bt.lt;obtain ⟨pt_0, pt_1⟩ := blk2 bt;clear bt;have bu := Bu.out.ext (w' := w4) xe;have lu := bu.lt;obtain ⟨pu_0, pu_1, pu_2⟩ := blk3 bu;clear bu;rw [H0.out];go_wp2_with fail
      refine (impl_SegmentKind _ _ (t) (u) _ (by exact Rt.out.ext xe) (by exact Ru.out.ext xe)).mono ?_;rintro e w4b ⟨rfl, ew4b⟩;have bu := Bu.out.ext (w' := w4b) xe;have lu := bu.lt;obtain ⟨pu_0, pu_1, pu_2⟩ := blk3 bu;clear bu;have d1 := D1.out
      generalize segKind t u = sk at *
      go_wp2_with fail
      go_roundw
      case rel => exact ⟨k + 1, by omega, by go_num, by rw [HS.out]; exact NO.up SegmentOC.keeps HNO.out xe (Nat.le_refl _), xe⟩
      case measure => simp [intOf]; omega
  · obtain rfl : k = l.length := by omega
    go_wp2_with fail
    go_ret
    refine ⟨_, rfl, ?_, xe⟩;have h := HNO.out;rw [List.take_length] at h;exact NO.more h (by have := ew0.size; omega) (Nat.le_refl _)
def usableDb (t : DTopology) (x : DSegmentDatabase) (now : Int) : DSegmentDatabase := ⟨usableOf t x.down 2 now, usableOf t x.core 1 now⟩
theorem impl_UsableSegments (vt vx : Value) (now : Int) (t : DTopology) (x : DSegmentDatabase) (w : World) (ht : TopologyV w.heap.size w vt t) (hx : SegmentDatabaseV w.heap.size w vx x) (hn : segTot x.down + segTot x.core ≤ 1048576) :
 Calls Tryz.prog 28 #[vt, vx, I now] w fun e w' => ∃ v', e = .returned v' ∧ SegmentDatabaseO w.heap.size w'.heap.size w' v' (usableDb t x now) ∧ Ext w w' := by
 obtain ⟨At_0, nt_0, ct_0, At_1, nt_1, ct_1, rfl, st_0, st_1⟩ := id ht;obtain ⟨lt_0, kt_0, mt_0⟩ := st_0.len;subst lt_0;unfold maxLen at mt_0;obtain ⟨lt_1, kt_1, mt_1⟩ := st_1.len;subst lt_1;unfold maxLen at mt_1;have Rt := Lib.hid ht; clear ht;have St_0 := Lib.hid st_0; clear st_0;have St_1 := Lib.hid st_1; clear st_1;obtain ⟨Ax_0, nx_0, cx_0, Ax_1, nx_1, cx_1, rfl, sx_0, sx_1⟩ := id hx;obtain ⟨lx_0, kx_0, mx_0⟩ := sx_0.len;subst lx_0;unfold maxLen at mx_0;obtain ⟨lx_1, kx_1, mx_1⟩ := sx_1.len;subst lx_1;unfold maxLen at mx_1;have Rx := Lib.hid hx; clear hx;have Sx_0 := Lib.hid sx_0; clear sx_0;have Sx_1 := Lib.hid sx_1; clear sx_1
 have hn1 : segTot x.down ≤ 1048576 := by omega
 have hn2 : segTot x.core ≤ 1048576 := by omega
 go_enter Tryz.func28, Tryz.ntmps28
 go_wp2_with fail
 refine name_wp (fun W => Ext w W ∧ Blk W w.heap.size 27 [.slice At_0 t.ases.length ct_0, .slice At_1 t.links.length ct_1] ∧ Blk W (w.heap.size + 1) 30 [.slice Ax_0 x.down.length cx_0, .slice Ax_1 x.core.length cx_1] ∧ Blk W (w.heap.size + 1 + 1) 30 [.slice none 0 0, .slice none 0 0]) ⟨xe, xb, xb, xb⟩ ?_;rintro w0 ⟨ew0, bt, bx, br⟩;have lt := bt.lt;have lx := bx.lt;have lr := br.lt;obtain ⟨pt0, pt1⟩ := blk2 bt;obtain ⟨px0, px1⟩ := blk2 bx;have BR := Lib.hid br; clear bt bx br
 refine wp_region_CT 11 (E := Ext) (w0 := w0) (G := fun τ => match τ with | 0 => none | _ => none) (C := fun τ => match τ with | 11 => some (fun v W W' => SegmentSO W.heap.size W'.heap.size W' v (usableOf t x.down 2 now)) | 16 => some (fun v W W' => SegmentSO W.heap.size W'.heap.size W' v (usableOf t x.core 1 now)) | _ => none) Ext.refl (fun h k => Ext.trans h k) (by kernel_rfl) (by kernel_rfl) (by kernel_rfl) (by kernel_rfl) (by kernel_rfl) (by kernel_rfl) (by kernel_rfl) (by
  intro t φ hG;split at hG
  all_goals first | (cases hG; done) | (cases Option.some.inj hG; intro v W W' hE hv; first | exact hv | exact IntS.ext hv hE | exact hv.ext hE | exact Own.up hv hE | exact hv.up hE | exact NO.up (by first | exact SegmentOC.keeps | exact TrustRootOC.keeps | exact BeaconOC.keeps | exact BeaconMessageOC.keeps | exact BeaconStoreOC.keeps) hv hE (Nat.le_refl _) | exact ObjUp.up hv hE)) (Ext.drew (by exact Ext.refl _)) ?_
 simp only [List.take_succ_cons, List.take_zero]
 repeat' (first
  | ((with_reducible refine wpM_skip (fun h k => Ext.trans h k) xe ?_ ?_ ?_)
     · rfl
     · rfl
     simp only [putS])
  | ((with_reducible refine wpM_quiet (fun h k => Ext.trans h k) xe ?_ ?_ ?_ ?_ ?_)
     · rfl
     · rfl
     · rfl
     · rfl
     apply Exists.intro
     refine ⟨fun W hW hS => ?_, ?_⟩
     · have hC := (Ext.facts hW).1
       go_simp
       first | done | (with_reducible rfl) | rfl
     first | (with_reducible refine wpM_bool (fun hB => ?_) (fun hB => ?_)) | skip
     all_goals simp only [putS])
  | ((refine wpM_chain (d := 11) (fun h k => Ext.trans h k) xe ?_ rfl rfl ?_ ?_ ?_)
     · rfl
     · rfl
     · intro W hW hS
       have hC := (Ext.facts (a := w0) (b := W) xe).1;unfold growAt
       go_simp
       simp only [growUpon]
       (go_at_call 61; (with_reducible refine Calls.mono (impl_usable _ _ 2 _ t x.down _ (by exact Rt.out.ext xe) (by exact Sx_0.out.ext xe) hn1) ?_); rintro e w9 ⟨v9, rfl, o9, e9⟩; exact ⟨_, rfl, e9, o9⟩)
     intro v wa wb ewa ewb hv;obtain ⟨A5, n5, c5, rfl⟩ := NO.slice hv; have O5 := Lib.hid hv; clear hv
     all_goals simp only [putS])
  | ((refine wpM_chain (d := 16) (fun h k => Ext.trans h k) xe ?_ rfl rfl ?_ ?_ ?_)
     · rfl
     · rfl
     · intro W hW hS
       have hC := (Ext.facts (a := w0) (b := W) xe).1;unfold growAt
       go_simp
       simp only [growUpon]
       (go_at_call 61; (with_reducible refine Calls.mono (impl_usable _ _ 1 _ t x.core _ (by exact Rt.out.ext xe) (by exact Sx_1.out.ext xe) hn2) ?_); rintro e w9 ⟨v9, rfl, o9, e9⟩; exact ⟨_, rfl, e9, o9⟩)
     intro v wc wd ewc ewd hv;obtain ⟨A7, n7, c7, rfl⟩ := NO.slice hv; have O7 := Lib.hid hv; clear hv
     all_goals simp only [putS])
  | ((refine wpM_grow (fun h k => Ext.trans h k) xe ?_ rfl rfl rfl ?_ ?_)
     · rfl
     · intro W hW hS
       have hC := (Ext.facts hW).1;unfold growAt
       go_simp
       simp only [growUpon]
       first | fail
     intro v W' hW' hv
     first  | (obtain ⟨A5, n5, c5, rfl, -⟩ := id hv; clear hv) | (obtain ⟨A5, n5, c5, rfl⟩ := NO.slice hv) | skip
     all_goals simp only [putS]))
 refine wpM_nil (fun w1 e1 hL => ?_);clear hL;have za := ewa.size; have zb := ewb.size; have zc := ewc.size; have zd := ewd.size; have z1 := e1.size;have br := BR.out.ext (w' := w1) xe;have lbr := br.lt;obtain ⟨qbr_0, qbr_1⟩ := blk2 br;have fbr_0 := br.frozen 0;have fbr_1 := br.frozen 1;clear br;simp only [List.drop_succ_cons, List.drop_zero];go_wp2_with fail
 refine bodyPost_ret (v := .agg #[.slice A5 n5 c5, .slice A7 n7 c7]) (by simp [results, Tryz.results28, go_sem, *]) rfl ⟨_, rfl, ?_, ?_⟩
 · simp only [World.size_setCell]
   refine ⟨_, _, wc.heap.size, rfl, NO.more (NO.keep SegmentOC.keeps O5.out ?_) (by omega) (by omega), NO.more (NO.keep SegmentOC.keeps O7.out ?_) (by omega) (by omega), by omega, by omega⟩
   · intro k h1 h2 h3
     rw [Below.heap_setCell _ _ _ _ (by dsimp only; omega), Below.heap_setCell _ _ _ _ (by dsimp only; omega)];exact (Ext.same (a := wb) (b := w1) xe) k h3
   · intro k h1 h2 h3
     rw [Below.heap_setCell _ _ _ _ (by dsimp only; omega), Below.heap_setCell _ _ _ _ (by dsimp only; omega)];exact (Ext.same (a := wd) (b := w1) xe) k h3
 · exact xe
theorem spec_UsableSegments (vt vx : Value) (now : Int) (t : DTopology) (x : DSegmentDatabase) (w : World) (ht : TopologyV w.heap.size w vt t) (hx : SegmentDatabaseV w.heap.size w vx x) (hn : segTot x.down + segTot x.core ≤ 1048576) :
 Calls Tryz.prog 29 #[vt, vx, I now] w fun e w' => ∃ v', e = .returned v' ∧ SegmentDatabaseO w.heap.size w'.heap.size w' v' (usableDb t x now) ∧ Ext w w' := by
 obtain ⟨At_0, nt_0, ct_0, At_1, nt_1, ct_1, rfl, st_0, st_1⟩ := id ht;obtain ⟨lt_0, kt_0, mt_0⟩ := st_0.len;subst lt_0;unfold maxLen at mt_0;obtain ⟨lt_1, kt_1, mt_1⟩ := st_1.len;subst lt_1;unfold maxLen at mt_1;have Rt := Lib.hid ht; clear ht;have St_0 := Lib.hid st_0; clear st_0;have St_1 := Lib.hid st_1; clear st_1;obtain ⟨Ax_0, nx_0, cx_0, Ax_1, nx_1, cx_1, rfl, sx_0, sx_1⟩ := id hx;obtain ⟨lx_0, kx_0, mx_0⟩ := sx_0.len;subst lx_0;unfold maxLen at mx_0;obtain ⟨lx_1, kx_1, mx_1⟩ := sx_1.len;subst lx_1;unfold maxLen at mx_1;have Rx := Lib.hid hx; clear hx;have Sx_0 := Lib.hid sx_0; clear sx_0;have Sx_1 := Lib.hid sx_1; clear sx_1;have hn : totS (fun u : DSegment => u.hops.length) x.down + totS (fun u : DSegment => u.hops.length) x.core ≤ 1048576 := hn;have hdl := totS_len (fun u : DSegment => u.hops.length) x.down;have hcl := totS_len (fun u : DSegment => u.hops.length) x.core
 go_enter Tryz.func29, Tryz.ntmps29
 go_wp2_with fail
 refine name_wp (fun W => ∃ wb, wb.heap.size = w.heap.size + 1 + 1 + 1 ∧ Ext w wb ∧ Blk wb w.heap.size 27 [.slice At_0 t.ases.length ct_0, .slice At_1 t.links.length ct_1] ∧ Blk wb (w.heap.size + 1) 30 [.slice Ax_0 x.down.length cx_0, .slice Ax_1 x.core.length cx_1] ∧ Blk wb (w.heap.size + 1 + 1) 30 [.slice none 0 0, .slice none 0 0] ∧ Ext wb W ∧ Blk W (w.heap.size + 1 + 1 + 1) 30 [.slice none 0 0, .slice none 0 0]) ⟨_, (by simp only [World.size_alloc]), xe, xb, xb, xb, (Ext.refl _).alloc _, xb⟩ ?_;rintro w0 ⟨wb, zb, ewb, bt, bx, br, ew0, b0⟩;have Bt := Lib.hid bt; have Bx := Lib.hid bx; have BR := Lib.hid br; have Bw0 := Lib.hid b0; clear bt bx br b0;have l0 := Bw0.out.lt
 go_loopw [8] (fun i wr => ∃ (k : Nat) (u : Value), k ≤ x.down.length ∧ i = I k ∧ w0.heap.size ≤ wr.heap.size ∧ Blk wr (w.heap.size + 1 + 1 + 1) 30 [u, .slice none 0 0] ∧ SegmentSO w0.heap.size wr.heap.size wr u ((x.down.take k).filter (useB t 2 now)) ∧ Ext wb wr) (fun i _ => x.down.length - (intOf i).toNat)
 case atStart => exact ⟨0, _, by omega, rfl, Nat.le_refl _, Bw0.out, NO.nil _ _ _ _ _ _, xe⟩
 case round =>
  obtain ⟨k, v, hk, rfl, hz, hb5, ho, he⟩ := hrel;have HB5 := Lib.hid hb5; have HO := Lib.hid ho; clear hb5 ho;obtain ⟨av, nv, cv, hv⟩ := NO.slice HO.out;subst hv;have l5 := HB5.out.lt;have zr := he.size;have bt := Bt.out.ext (w' := wr) xe;have lt := bt.lt;obtain ⟨pt_0, pt_1⟩ := blk2 bt;clear bt;have bx := Bx.out.ext (w' := wr) xe;have lx := bx.lt;obtain ⟨px_0, px_1⟩ := blk2 bx;clear bx;by_cases hlt : k < x.down.length
  · obtain ⟨b, off, rfl, hb, hkl, hc⟩ := (Sx_0.out.ext (w' := wr) xe).at_ hlt
    have hyl : x.down[k].hops.length ≤ totS (fun u : DSegment => u.hops.length) x.down := totS_get (fun u : DSegment => u.hops.length) x.down k hkl;have HX := Lib.hid (filter_snoc (useB t 2 now) x.down k hkl);have hfl := filter_take_len (useB t 2 now) x.down k
    generalize x.down[k] = u at *
    generalize hds : (x.down.take k).filter (useB t 2 now) = ds at *
    have HDS := Lib.hid hds; clear hds;obtain ⟨Au_2, nu_2, cu_2, hu_0, hu_1, hu_2, su_2⟩ := hc;obtain ⟨lu_2, ku_2, mu_2⟩ := su_2.len;subst lu_2;unfold maxLen at mu_2
    have Ru : Hid (SegmentV wr.heap.size wr (.agg #[I u.ts, I u.beta, .slice Au_2 u.hops.length cu_2]) u) := ⟨_, _, _, rfl, su_2⟩
    have Su_2 := Lib.hid su_2; clear su_2
    have i0 : (0 : Int) ≤ (k : Int) := by omega
    have i1 : (k : Int) < (x.down.length : Int) := by omega
    cases h0 : segUsable t u now
    · have HS : Hid ((x.down.take (k + 1)).filter (useB t 2 now) = ds) := by unfold Hid; rw [HX.out]; simp [useB, h0]
      go_wp2_with fail
      refine wp_region_L (E := Ext) (w0 := wr) (G := fun τ => match τ with | 25 => some (fun v _ => v = .bool (false)) | _ => none) Ext.refl (fun h k => Ext.trans h k) (by kernel_rfl) (by kernel_rfl) xg (Ext.drew (by exact Ext.refl _)) ?_
      repeat' (first
       | ((with_reducible refine wpL_skip ?_ ?_ ?_)
          · rfl
          · rfl
          simp only [putS])
       | ((with_reducible refine wpL_quiet ?_ ?_ ?_ ?_)
          · rfl
          · rfl
          · rfl
          apply Exists.intro
          refine ⟨fun W hW hS => ?_, ?_⟩
          · have hC := (Ext.facts hW).1
            go_simp
            first | done | (with_reducible rfl) | (rw [if_neg (by omega)]; exact ⟨rfl, rfl⟩) | rfl
          first | (with_reducible refine wpL_boolT ?_) | (with_reducible refine wpL_boolF ?_) | (with_reducible refine wpL_bool (fun hB => ?_) (fun hB => ?_)) | skip
          all_goals simp only [putS])
       | ((refine wpL_call ?_ rfl rfl ?_ ?_ ?_)
          · rfl
          · rfl
          · intro W hW hS
            have hC := (Ext.facts hW).1;unfold growAt
            go_simp
            simp only [growUpon]
            first | (go_at_call 53; ((with_reducible refine Calls.mono (spec_SegmentUsable _ _ _ (t) (u) _ (by exact Rt.out.ext xe) (by exact Ru.out.ext xe) xo) ?_)); rintro e w9 ⟨rfl, e9⟩; exact ⟨_, rfl, e9, by first | rfl | (simp only [*])⟩)
          first | (with_reducible refine wpL_boolT ?_) | (with_reducible refine wpL_boolF ?_) | (with_reducible refine wpL_bool (fun hB => ?_) (fun hB => ?_)) | skip
          all_goals simp only [putS]))
      refine wpL_nil (fun w4 e4 hL => ?_);clear hL;have z4 := e4.size;go_wp2_with fail
      go_roundw
      case rel => exact ⟨k + 1, _, by omega, by go_num, by omega, HB5.out.ext e4, by rw [HS.out]; exact NO.up SegmentOC.keeps HO.out e4 (Nat.le_refl _), xe⟩
      case measure => simp [intOf]; omega
    by_cases h1 : segKind t u = 2
    · have HS : Hid ((x.down.take (k + 1)).filter (useB t 2 now) = ds ++ [u]) := by unfold Hid; rw [HX.out]; simp [useB, h0, h1]
      go_wp2_with fail
      refine wp_region_L (E := Ext) (w0 := wr) (G := fun τ => match τ with | 25 => some (fun v _ => v = .bool (true)) | 33 => some (fun v _ => v = I (2)) | _ => none) Ext.refl (fun h k => Ext.trans h k) (by kernel_rfl) (by kernel_rfl) xg (Ext.drew (by exact Ext.refl _)) ?_
      repeat' (first
       | ((with_reducible refine wpL_skip ?_ ?_ ?_)
          · rfl
          · rfl
          simp only [putS])
       | ((with_reducible refine wpL_quiet ?_ ?_ ?_ ?_)
          · rfl
          · rfl
          · rfl
          apply Exists.intro
          refine ⟨fun W hW hS => ?_, ?_⟩
          · have hC := (Ext.facts hW).1
            go_simp
            first | done | (with_reducible rfl) | (rw [if_neg (by omega)]; exact ⟨rfl, rfl⟩) | rfl
          first | (with_reducible refine wpL_boolT ?_) | (with_reducible refine wpL_boolF ?_) | (with_reducible refine wpL_bool (fun hB => ?_) (fun hB => ?_)) | skip
          all_goals simp only [putS])
       | ((refine wpL_call ?_ rfl rfl ?_ ?_ ?_)
          · rfl
          · rfl
          · intro W hW hS
            have hC := (Ext.facts hW).1;unfold growAt
            go_simp
            simp only [growUpon]
            first | (go_at_call 53; ((with_reducible refine Calls.mono (spec_SegmentUsable _ _ _ (t) (u) _ (by exact Rt.out.ext xe) (by exact Ru.out.ext xe) xo) ?_)); rintro e w9 ⟨rfl, e9⟩; exact ⟨_, rfl, e9, by first | rfl | (simp only [*])⟩) | (go_at_call 42; ((with_reducible refine Calls.mono (spec_SegmentKind _ _ (t) (u) _ (by exact Rt.out.ext xe) (by exact Ru.out.ext xe) xo) ?_)); rintro e w9 ⟨rfl, e9⟩; exact ⟨_, rfl, e9, by first | rfl | (simp only [*])⟩)
          first | (with_reducible refine wpL_boolT ?_) | (with_reducible refine wpL_boolF ?_) | (with_reducible refine wpL_bool (fun hB => ?_) (fun hB => ?_)) | skip
          all_goals simp only [putS]))
      refine wpL_nil (fun w4 e4 hL => ?_);clear hL h0 h1;have z4 := e4.size;have bx := Bx.out.ext (w' := w4) xe;have lx := bx.lt;obtain ⟨px_0, px_1⟩ := blk2 bx;clear bx
      obtain ⟨ku_0, ku_1, ku_2⟩ : w4.cell? ⟨b, off + k * 3, none⟩ = some (I u.ts) ∧ w4.cell? ⟨b, off + k * 3 + 1, none⟩ = some (I u.beta) ∧ w4.cell? ⟨b, off + k * 3 + 2, none⟩ = some (.slice Au_2 u.hops.length cu_2) := ⟨(e4.cell hb).trans hu_0, (e4.cell hb).trans hu_1, (e4.cell hb).trans hu_2⟩
      have b5 := HB5.out.ext (w' := w4) xe;have lb5 := b5.lt;obtain ⟨qb5_0, qb5_1⟩ := blk2 b5;have fb5_0 := b5.frozen 0;have fb5_1 := b5.frozen 1;clear b5
      have hb4 : b < w4.heap.size := by omega
      go_wp2_with fail
      refine wp_region_LT 9 (E := Ext) (w0 := w4) (G := fun τ => match τ with | 43 => some (fun v W => SegmentO w4.heap.size W.heap.size W v u) | 44 => some (fun v W => SegmentSO w4.heap.size W.heap.size W v [u]) | _ => none) Ext.refl (fun h k => Ext.trans h k) (by kernel_rfl) (by kernel_rfl) (by kernel_rfl) (by kernel_rfl) (by kernel_rfl) (by kernel_rfl) xg (Ext.drew (by exact Ext.refl _)) ?_;simp only [List.take_succ_cons, List.take_zero]
      repeat' (first
       | ((with_reducible refine wpL_skip ?_ ?_ ?_)
          · rfl
          · rfl
          simp only [putS])
       | ((with_reducible refine wpL_quiet ?_ ?_ ?_ ?_)
          · rfl
          · rfl
          · rfl
          apply Exists.intro
          refine ⟨fun W hW hS => ?_, ?_⟩
          · have hC := (Ext.facts hW).1
            go_simp
            first | done | (with_reducible rfl) | (rw [if_neg (by omega)]; exact ⟨rfl, rfl⟩) | rfl
          first | (with_reducible refine wpL_boolT ?_) | (with_reducible refine wpL_boolF ?_) | (with_reducible refine wpL_bool (fun hB => ?_) (fun hB => ?_)) | skip
          all_goals simp only [putS])
       | ((refine wpL_grow ?_ rfl rfl ?_ ?_)
          · rfl
          · intro W hW hS
            have hC := (Ext.facts hW).1;unfold growAt
            go_simp
            simp only [growUpon]
            first | (go_at_call 43; (with_reducible refine Calls.mono (spec_l9Copy _ u _ (by exact Ru.out.ext xe) (by omega)) ?_); rintro e w9 ⟨v9, rfl, o9, e9⟩; exact ⟨_, rfl, e9, SegmentO.more o9 (Ext.size hW) (Nat.le_refl _)⟩) | (exact ⟨xe, SegmentO.single (hS 43 (by decide)) (Ext.size hW) rfl⟩)
          intro v W' hW' hv
          first | (obtain ⟨A5, n5, c5, rfl⟩ := SegmentO.shape hv) | (obtain ⟨A6, n6, c6, rfl⟩ := NO.slice hv) | (obtain ⟨A5, n5, c5, rfl, -⟩ := id hv; clear hv) | (obtain ⟨A5, n5, c5, rfl⟩ := NO.slice hv) | skip
          all_goals simp only [putS]))
      refine wpL_nil (fun w5 e5 hL => ?_);have n5_ : SegmentSO w4.heap.size w5.heap.size w5 _ [u] := hL 44;have N5 := Lib.hid n5_; clear hL n5_;have z5 := e5.size;clear lb5 qb5_0 qb5_1 fb5_0 fb5_1 ku_0 ku_1 ku_2;simp only [List.drop_succ_cons, List.drop_zero];go_wp2_with (at_builtin; refine hold ?_)
      refine unhold (wpList_pushN rfl w0.heap.size SegmentOC.keeps SegmentOC.one (.tmp 37) (.tmp 44) _ rfl 33 _ 3 40 Tryz.underlying28 info_Segment rfl (by omega) _ ds [u] wr.heap.size w4.heap.size w5.heap.size rfl _ _ _ rfl (by exact NO.at' SegmentOC.keeps HO.out xe) (by exact N5.out) (by omega) (by omega) (by omega) (Nat.le_refl _) (by omega) (by simp only [List.length_singleton]; omega) (by omega) ?_);intro v7 w7 no7 hg7;obtain ⟨a7, m7, c7, hv7⟩ := NO.slice no7;subst hv7;have hnb : (Value.slice av nv cv).ownBlock ≠ some (w.heap.size + 1 + 1 + 1) := NO.not_block HO.out (by omega);have B7 := Lib.hid (Blk.grown (w := w5) (HB5.out.ext xe) hg7 hnb);have E7 := Lib.hid (Ext.grownN (a := wb) (w := w5) xe (NO.at' SegmentOC.keeps HO.out (w' := w5) xe) hg7 (by omega));have z7 : w5.heap.size ≤ w7.heap.size := hg7.size;have O7 := Lib.hid no7; clear no7 hg7 hnb;have b7 := B7.out.ext (w' := w7) xe;have lb7 := b7.lt;obtain ⟨qb7_0, qb7_1⟩ := blk2 b7;have fb7_0 := b7.frozen 0;have fb7_1 := b7.frozen 1;clear b7;go_wp2_with (at_builtin; refine hold ?_)
      go_roundw
      case rel => exact ⟨k + 1, _, by omega, by go_num, by simp only [World.size_setCell]; omega, by simpa using B7.out.set_ 0 (.slice a7 m7 c7), by rw [HS.out]; simp only [World.size_setCell]; exact SegmentSO_setCell O7.out (.inl (by dsimp only; omega)) _, Ext.setCell E7.out (by dsimp only; omega) _⟩
      case measure => simp [intOf]; omega
    · have HS : Hid ((x.down.take (k + 1)).filter (useB t 2 now) = ds) := by unfold Hid; rw [HX.out]; simp [useB, h1]
      have d1 : (segKind t u == 2) = false := beq_eq_false_iff_ne.2 h1;clear h1;go_wp2_with fail
      refine wp_region_L (E := Ext) (w0 := wr) (G := fun τ => match τ with | 25 => some (fun v _ => v = .bool (true)) | 33 => some (fun v _ => v = I (segKind t u)) | _ => none) Ext.refl (fun h k => Ext.trans h k) (by kernel_rfl) (by kernel_rfl) xg (Ext.drew (by exact Ext.refl _)) ?_
      repeat' (first
       | ((with_reducible refine wpL_skip ?_ ?_ ?_)
          · rfl
          · rfl
          simp only [putS])
       | ((with_reducible refine wpL_quiet ?_ ?_ ?_ ?_)
          · rfl
          · rfl
          · rfl
          apply Exists.intro
          refine ⟨fun W hW hS => ?_, ?_⟩
          · have hC := (Ext.facts hW).1
            go_simp
            first | done | (with_reducible rfl) | (rw [if_neg (by omega)]; exact ⟨rfl, rfl⟩) | rfl
          first | (with_reducible refine wpL_boolT ?_) | (with_reducible refine wpL_boolF ?_) | (with_reducible refine wpL_bool (fun hB => ?_) (fun hB => ?_)) | skip
          all_goals simp only [putS])
       | ((refine wpL_call ?_ rfl rfl ?_ ?_ ?_)
          · rfl
          · rfl
          · intro W hW hS
            have hC := (Ext.facts hW).1;unfold growAt
            go_simp
            simp only [growUpon]
            first | (go_at_call 53; ((with_reducible refine Calls.mono (spec_SegmentUsable _ _ _ (t) (u) _ (by exact Rt.out.ext xe) (by exact Ru.out.ext xe) xo) ?_)); rintro e w9 ⟨rfl, e9⟩; exact ⟨_, rfl, e9, by first | rfl | (simp only [*])⟩) | (go_at_call 42; ((with_reducible refine Calls.mono (spec_SegmentKind _ _ (t) (u) _ (by exact Rt.out.ext xe) (by exact Ru.out.ext xe) xo) ?_)); rintro e w9 ⟨rfl, e9⟩; exact ⟨_, rfl, e9, by first | rfl | (simp only [*])⟩)
          first | (with_reducible refine wpL_boolT ?_) | (with_reducible refine wpL_boolF ?_) | (with_reducible refine wpL_bool (fun hB => ?_) (fun hB => ?_)) | skip
          all_goals simp only [putS]))
      refine wpL_nil (fun w4 e4 hL => ?_);clear hL;have z4 := e4.size;go_wp2_with fail
      go_roundw
      case rel => exact ⟨k + 1, _, by omega, by go_num, by omega, HB5.out.ext e4, by rw [HS.out]; exact NO.up SegmentOC.keeps HO.out e4 (Nat.le_refl _), xe⟩
      case measure => simp [intOf]; omega
  · obtain rfl : k = x.down.length := by omega
    rw [List.take_length] at HO;go_wp2_with fail
    refine name_wp (fun W => W = wr) rfl ?_;rintro w3 rfl;have Bw3 := HB5; have HD : Hid (SegmentSO w0.heap.size w3.heap.size w3 (.slice av nv cv) (usableOf t x.down 2 now)) := HO;clear HO HB5
    generalize av = a1 at *
    generalize nv = n1 at *
    generalize cv = c1 at *
    go_loopw [9] (fun i wr => ∃ (k : Nat) (u : Value), k ≤ x.core.length ∧ i = I k ∧ w3.heap.size ≤ wr.heap.size ∧ Blk wr (w.heap.size + 1 + 1 + 1) 30 [.slice a1 n1 c1, u] ∧ SegmentSO w3.heap.size wr.heap.size wr u ((x.core.take k).filter (useB t 1 now)) ∧ Ext wb wr ∧ SegmentSO w0.heap.size w3.heap.size wr (.slice a1 n1 c1) (usableOf t x.down 2 now)) (fun i _ => x.core.length - (intOf i).toNat)
    case atStart => exact ⟨0, _, by omega, rfl, Nat.le_refl _, Bw3.out, NO.nil _ _ _ _ _ _, xe, HD.out⟩
    case round =>
     obtain ⟨k, v, hk, rfl, hz, hb5, ho, he, hd⟩ := hrel;have HB5 := Lib.hid hb5; have HO := Lib.hid ho; clear hb5 ho;have HD2 := Lib.hid hd; clear hd;obtain ⟨av, nv, cv, hv⟩ := NO.slice HO.out;subst hv;have l5 := HB5.out.lt;have zr := he.size;have bt := Bt.out.ext (w' := wr) xe;have lt := bt.lt;obtain ⟨pt_0, pt_1⟩ := blk2 bt;clear bt;have bx := Bx.out.ext (w' := wr) xe;have lx := bx.lt;obtain ⟨px_0, px_1⟩ := blk2 bx;clear bx;by_cases hlt : k < x.core.length
     · obtain ⟨b, off, rfl, hb, hkl, hc⟩ := (Sx_1.out.ext (w' := wr) xe).at_ hlt
       have hyl : x.core[k].hops.length ≤ totS (fun u : DSegment => u.hops.length) x.core := totS_get (fun u : DSegment => u.hops.length) x.core k hkl;have HX := Lib.hid (filter_snoc (useB t 1 now) x.core k hkl);have hfl := filter_take_len (useB t 1 now) x.core k
       generalize x.core[k] = u at *
       generalize hds : (x.core.take k).filter (useB t 1 now) = ds at *
       have HDS := Lib.hid hds; clear hds;obtain ⟨Au_2, nu_2, cu_2, hu_0, hu_1, hu_2, su_2⟩ := hc;obtain ⟨lu_2, ku_2, mu_2⟩ := su_2.len;subst lu_2;unfold maxLen at mu_2
       have Ru : Hid (SegmentV wr.heap.size wr (.agg #[I u.ts, I u.beta, .slice Au_2 u.hops.length cu_2]) u) := ⟨_, _, _, rfl, su_2⟩
       have Su_2 := Lib.hid su_2; clear su_2
       have i0 : (0 : Int) ≤ (k : Int) := by omega
       have i1 : (k : Int) < (x.core.length : Int) := by omega
       cases h0 : segUsable t u now
       · have HS : Hid ((x.core.take (k + 1)).filter (useB t 1 now) = ds) := by unfold Hid; rw [HX.out]; simp [useB, h0]
         go_wp2_with fail
         refine wp_region_L (E := Ext) (w0 := wr) (G := fun τ => match τ with | 61 => some (fun v _ => v = .bool (false)) | _ => none) Ext.refl (fun h k => Ext.trans h k) (by kernel_rfl) (by kernel_rfl) xg (Ext.drew (by exact Ext.refl _)) ?_
         repeat' (first
          | ((with_reducible refine wpL_skip ?_ ?_ ?_)
             · rfl
             · rfl
             simp only [putS])
          | ((with_reducible refine wpL_quiet ?_ ?_ ?_ ?_)
             · rfl
             · rfl
             · rfl
             apply Exists.intro
             refine ⟨fun W hW hS => ?_, ?_⟩
             · have hC := (Ext.facts hW).1
               go_simp
               first | done | (with_reducible rfl) | (rw [if_neg (by omega)]; exact ⟨rfl, rfl⟩) | rfl
             first | (with_reducible refine wpL_boolT ?_) | (with_reducible refine wpL_boolF ?_) | (with_reducible refine wpL_bool (fun hB => ?_) (fun hB => ?_)) | skip
             all_goals simp only [putS])
          | ((refine wpL_call ?_ rfl rfl ?_ ?_ ?_)
             · rfl
             · rfl
             · intro W hW hS
               have hC := (Ext.facts hW).1;unfold growAt
               go_simp
               simp only [growUpon]
               first | (go_at_call 53; ((with_reducible refine Calls.mono (spec_SegmentUsable _ _ _ (t) (u) _ (by exact Rt.out.ext xe) (by exact Ru.out.ext xe) xo) ?_)); rintro e w9 ⟨rfl, e9⟩; exact ⟨_, rfl, e9, by first | rfl | (simp only [*])⟩)
             first | (with_reducible refine wpL_boolT ?_) | (with_reducible refine wpL_boolF ?_) | (with_reducible refine wpL_bool (fun hB => ?_) (fun hB => ?_)) | skip
             all_goals simp only [putS]))
         refine wpL_nil (fun w4 e4 hL => ?_);clear hL;have z4 := e4.size;go_wp2_with fail
         go_roundw
         case rel => exact ⟨k + 1, _, by omega, by go_num, by omega, HB5.out.ext e4, by rw [HS.out]; exact NO.up SegmentOC.keeps HO.out e4 (Nat.le_refl _), xe, NO.at' SegmentOC.keeps HD2.out e4⟩
         case measure => simp [intOf]; omega
       by_cases h1 : segKind t u = 1
       · have HS : Hid ((x.core.take (k + 1)).filter (useB t 1 now) = ds ++ [u]) := by unfold Hid; rw [HX.out]; simp [useB, h0, h1]
         go_wp2_with fail
         refine wp_region_L (E := Ext) (w0 := wr) (G := fun τ => match τ with | 61 => some (fun v _ => v = .bool (true)) | 69 => some (fun v _ => v = I (1)) | _ => none) Ext.refl (fun h k => Ext.trans h k) (by kernel_rfl) (by kernel_rfl) xg (Ext.drew (by exact Ext.refl _)) ?_
         repeat' (first
          | ((with_reducible refine wpL_skip ?_ ?_ ?_)
             · rfl
             · rfl
             simp only [putS])
          | ((with_reducible refine wpL_quiet ?_ ?_ ?_ ?_)
             · rfl
             · rfl
             · rfl
             apply Exists.intro
             refine ⟨fun W hW hS => ?_, ?_⟩
             · have hC := (Ext.facts hW).1
               go_simp
               first | done | (with_reducible rfl) | (rw [if_neg (by omega)]; exact ⟨rfl, rfl⟩) | rfl
             first | (with_reducible refine wpL_boolT ?_) | (with_reducible refine wpL_boolF ?_) | (with_reducible refine wpL_bool (fun hB => ?_) (fun hB => ?_)) | skip
             all_goals simp only [putS])
          | ((refine wpL_call ?_ rfl rfl ?_ ?_ ?_)
             · rfl
             · rfl
             · intro W hW hS
               have hC := (Ext.facts hW).1;unfold growAt
               go_simp
               simp only [growUpon]
               first | (go_at_call 53; ((with_reducible refine Calls.mono (spec_SegmentUsable _ _ _ (t) (u) _ (by exact Rt.out.ext xe) (by exact Ru.out.ext xe) xo) ?_)); rintro e w9 ⟨rfl, e9⟩; exact ⟨_, rfl, e9, by first | rfl | (simp only [*])⟩) | (go_at_call 42; ((with_reducible refine Calls.mono (spec_SegmentKind _ _ (t) (u) _ (by exact Rt.out.ext xe) (by exact Ru.out.ext xe) xo) ?_)); rintro e w9 ⟨rfl, e9⟩; exact ⟨_, rfl, e9, by first | rfl | (simp only [*])⟩)
             first | (with_reducible refine wpL_boolT ?_) | (with_reducible refine wpL_boolF ?_) | (with_reducible refine wpL_bool (fun hB => ?_) (fun hB => ?_)) | skip
             all_goals simp only [putS]))
         refine wpL_nil (fun w4 e4 hL => ?_);clear hL h0 h1;have z4 := e4.size;have bx := Bx.out.ext (w' := w4) xe;have lx := bx.lt;obtain ⟨px_0, px_1⟩ := blk2 bx;clear bx
         obtain ⟨ku_0, ku_1, ku_2⟩ : w4.cell? ⟨b, off + k * 3, none⟩ = some (I u.ts) ∧ w4.cell? ⟨b, off + k * 3 + 1, none⟩ = some (I u.beta) ∧ w4.cell? ⟨b, off + k * 3 + 2, none⟩ = some (.slice Au_2 u.hops.length cu_2) := ⟨(e4.cell hb).trans hu_0, (e4.cell hb).trans hu_1, (e4.cell hb).trans hu_2⟩
         have b5 := HB5.out.ext (w' := w4) xe;have lb5 := b5.lt;obtain ⟨qb5_0, qb5_1⟩ := blk2 b5;have fb5_0 := b5.frozen 0;have fb5_1 := b5.frozen 1;clear b5
         have hb4 : b < w4.heap.size := by omega
         go_wp2_with fail
         refine wp_region_LT 9 (E := Ext) (w0 := w4) (G := fun τ => match τ with | 79 => some (fun v W => SegmentO w4.heap.size W.heap.size W v u) | 80 => some (fun v W => SegmentSO w4.heap.size W.heap.size W v [u]) | _ => none) Ext.refl (fun h k => Ext.trans h k) (by kernel_rfl) (by kernel_rfl) (by kernel_rfl) (by kernel_rfl) (by kernel_rfl) (by kernel_rfl) xg (Ext.drew (by exact Ext.refl _)) ?_;simp only [List.take_succ_cons, List.take_zero]
         repeat' (first
          | ((with_reducible refine wpL_skip ?_ ?_ ?_)
             · rfl
             · rfl
             simp only [putS])
          | ((with_reducible refine wpL_quiet ?_ ?_ ?_ ?_)
             · rfl
             · rfl
             · rfl
             apply Exists.intro
             refine ⟨fun W hW hS => ?_, ?_⟩
             · have hC := (Ext.facts hW).1
               go_simp
               first | done | (with_reducible rfl) | (rw [if_neg (by omega)]; exact ⟨rfl, rfl⟩) | rfl
             first | (with_reducible refine wpL_boolT ?_) | (with_reducible refine wpL_boolF ?_) | (with_reducible refine wpL_bool (fun hB => ?_) (fun hB => ?_)) | skip
             all_goals simp only [putS])
          | ((refine wpL_grow ?_ rfl rfl ?_ ?_)
             · rfl
             · intro W hW hS
               have hC := (Ext.facts hW).1;unfold growAt
               go_simp
               simp only [growUpon]
               first | (go_at_call 43; (with_reducible refine Calls.mono (spec_l9Copy _ u _ (by exact Ru.out.ext xe) (by omega)) ?_); rintro e w9 ⟨v9, rfl, o9, e9⟩; exact ⟨_, rfl, e9, SegmentO.more o9 (Ext.size hW) (Nat.le_refl _)⟩) | (exact ⟨xe, SegmentO.single (hS 79 (by decide)) (Ext.size hW) rfl⟩)
             intro v W' hW' hv
             first | (obtain ⟨A5, n5, c5, rfl⟩ := SegmentO.shape hv) | (obtain ⟨A6, n6, c6, rfl⟩ := NO.slice hv) | (obtain ⟨A5, n5, c5, rfl, -⟩ := id hv; clear hv) | (obtain ⟨A5, n5, c5, rfl⟩ := NO.slice hv) | skip
             all_goals simp only [putS]))
         refine wpL_nil (fun w5 e5 hL => ?_);have n5_ : SegmentSO w4.heap.size w5.heap.size w5 _ [u] := hL 80;have N5 := Lib.hid n5_; clear hL n5_;have z5 := e5.size;clear lb5 qb5_0 qb5_1 fb5_0 fb5_1 ku_0 ku_1 ku_2;simp only [List.drop_succ_cons, List.drop_zero];go_wp2_with (at_builtin; refine hold ?_)
         refine unhold (wpList_pushN rfl w3.heap.size SegmentOC.keeps SegmentOC.one (.tmp 73) (.tmp 80) _ rfl 33 _ 3 40 Tryz.underlying28 info_Segment rfl (by omega) _ ds [u] wr.heap.size w4.heap.size w5.heap.size rfl _ _ _ rfl (by exact NO.at' SegmentOC.keeps HO.out xe) (by exact N5.out) (by omega) (by omega) (by omega) (Nat.le_refl _) (by omega) (by simp only [List.length_singleton]; omega) (by omega) ?_);intro v7 w7 no7 hg7;obtain ⟨a7, m7, c7, hv7⟩ := NO.slice no7;subst hv7;have hnb : (Value.slice av nv cv).ownBlock ≠ some (w.heap.size + 1 + 1 + 1) := NO.not_block HO.out (by omega);have B7 := Lib.hid (Blk.grown (w := w5) (HB5.out.ext xe) hg7 hnb);have E7 := Lib.hid (Ext.grownN (a := wb) (w := w5) xe (NO.at' SegmentOC.keeps HO.out (w' := w5) xe) hg7 (by omega));have D7 := Lib.hid (NO.keep (w' := w7) SegmentOC.keeps (NO.at' SegmentOC.keeps HD2.out (w' := w5) xe) (fun j j1 j2 j3 => hg7.block j j3 (fun e => NO.not_block HO.out (g := j) (by omega) e.symm)));have z7 : w5.heap.size ≤ w7.heap.size := hg7.size;have O7 := Lib.hid no7; clear no7 hg7 hnb;have b7 := B7.out.ext (w' := w7) xe;have lb7 := b7.lt;obtain ⟨qb7_0, qb7_1⟩ := blk2 b7;have fb7_0 := b7.frozen 0;have fb7_1 := b7.frozen 1;clear b7;go_wp2_with (at_builtin; refine hold ?_)
         go_roundw
         case rel => exact ⟨k + 1, _, by omega, by go_num, by simp only [World.size_setCell]; omega, by simpa using B7.out.set_ 1 (.slice a7 m7 c7), by rw [HS.out]; simp only [World.size_setCell]; exact SegmentSO_setCell O7.out (.inl (by dsimp only; omega)) _, Ext.setCell E7.out (by dsimp only; omega) _, SegmentSO_setCell D7.out (.inl (by dsimp only; omega)) _⟩
         case measure => simp [intOf]; omega
       · have HS : Hid ((x.core.take (k + 1)).filter (useB t 1 now) = ds) := by unfold Hid; rw [HX.out]; simp [useB, h1]
         have d1 : (segKind t u == 1) = false := beq_eq_false_iff_ne.2 h1;clear h1;go_wp2_with fail
         refine wp_region_L (E := Ext) (w0 := wr) (G := fun τ => match τ with | 61 => some (fun v _ => v = .bool (true)) | 69 => some (fun v _ => v = I (segKind t u)) | _ => none) Ext.refl (fun h k => Ext.trans h k) (by kernel_rfl) (by kernel_rfl) xg (Ext.drew (by exact Ext.refl _)) ?_
         repeat' (first
          | ((with_reducible refine wpL_skip ?_ ?_ ?_)
             · rfl
             · rfl
             simp only [putS])
          | ((with_reducible refine wpL_quiet ?_ ?_ ?_ ?_)
             · rfl
             · rfl
             · rfl
             apply Exists.intro
             refine ⟨fun W hW hS => ?_, ?_⟩
             · have hC := (Ext.facts hW).1
               go_simp
               first | done | (with_reducible rfl) | (rw [if_neg (by omega)]; exact ⟨rfl, rfl⟩) | rfl
             first | (with_reducible refine wpL_boolT ?_) | (with_reducible refine wpL_boolF ?_) | (with_reducible refine wpL_bool (fun hB => ?_) (fun hB => ?_)) | skip
             all_goals simp only [putS])
          | ((refine wpL_call ?_ rfl rfl ?_ ?_ ?_)
             · rfl
             · rfl
             · intro W hW hS
               have hC := (Ext.facts hW).1;unfold growAt
               go_simp
               simp only [growUpon]
               first | (go_at_call 53; ((with_reducible refine Calls.mono (spec_SegmentUsable _ _ _ (t) (u) _ (by exact Rt.out.ext xe) (by exact Ru.out.ext xe) xo) ?_)); rintro e w9 ⟨rfl, e9⟩; exact ⟨_, rfl, e9, by first | rfl | (simp only [*])⟩) | (go_at_call 42; ((with_reducible refine Calls.mono (spec_SegmentKind _ _ (t) (u) _ (by exact Rt.out.ext xe) (by exact Ru.out.ext xe) xo) ?_)); rintro e w9 ⟨rfl, e9⟩; exact ⟨_, rfl, e9, by first | rfl | (simp only [*])⟩)
             first | (with_reducible refine wpL_boolT ?_) | (with_reducible refine wpL_boolF ?_) | (with_reducible refine wpL_bool (fun hB => ?_) (fun hB => ?_)) | skip
             all_goals simp only [putS]))
         refine wpL_nil (fun w4 e4 hL => ?_);clear hL;have z4 := e4.size;go_wp2_with fail
         go_roundw
         case rel => exact ⟨k + 1, _, by omega, by go_num, by omega, HB5.out.ext e4, by rw [HS.out]; exact NO.up SegmentOC.keeps HO.out e4 (Nat.le_refl _), xe, NO.at' SegmentOC.keeps HD2.out e4⟩
         case measure => simp [intOf]; omega
     · obtain rfl : k = x.core.length := by omega
       rw [List.take_length] at HO;have b5 := HB5.out.ext (w' := wr) xe;have lb5 := b5.lt;obtain ⟨qb5_0, qb5_1⟩ := blk2 b5;have fb5_0 := b5.frozen 0;have fb5_1 := b5.frozen 1;clear b5;have br := BR.out.ext (w' := wr) xe;have lbr := br.lt;obtain ⟨qbr_0, qbr_1⟩ := blk2 br;have fbr_0 := br.frozen 0;have fbr_1 := br.frozen 1;clear br;go_wp2_with fail
       have z1 := ew0.size;refine bodyPost_ret (v := .agg #[.slice a1 n1 c1, .slice av nv cv]) (by simp [results, Tryz.results29, go_sem, *]) rfl ⟨_, rfl, ?_, ?_⟩
       · simp only [World.size_setCell]
         refine ⟨_, _, w3.heap.size, rfl, NO.more (NO.keep SegmentOC.keeps HD2.out ?_) (by omega) (by omega), NO.more (NO.keep SegmentOC.keeps HO.out ?_) (by omega) (by omega), by omega, by omega⟩
         · intro k h1 h2 h3
           rw [Below.heap_setCell _ _ _ _ (by dsimp only; omega), Below.heap_setCell _ _ _ _ (by dsimp only; omega)]
         · intro k h1 h2 h3
           rw [Below.heap_setCell _ _ _ _ (by dsimp only; omega), Below.heap_setCell _ _ _ _ (by dsimp only; omega)]
       · exact xe
def segCount (x : DSegmentDatabase) : Int := x.down.length + x.core.length
theorem impl_SegmentCount (v : Value) (x : DSegmentDatabase) (w : World) (h : SegmentDatabaseV w.heap.size w v x) (hn : x.down.length + x.core.length ≤ 1000000000) :
 Calls Tryz.prog 25 #[v] w fun e w' => e = .returned (I (segCount x)) ∧ Ext w w' := by
 obtain ⟨A0, n0, c0, A1, n1, c1, rfl, s0, s1⟩ := h;obtain ⟨hl0, _, _⟩ := s0.len;obtain ⟨hl1, _, _⟩ := s1.len;subst hl0;subst hl1;clear s0 s1
 go_enter Tryz.func25, Tryz.ntmps25
 go_wp2
 go_ret
 exact ⟨rfl, xe⟩
def dbUsable (t : DTopology) (x : DSegmentDatabase) (now : Int) : Bool := x.down.all (useB t 2 now) && x.core.all (useB t 1 now)
theorem filter_len_eq {α : Type} (p : α → Bool) : ∀ (l : List α), (l.filter p).length = l.length ↔ l.all p = true
 | [] => by simp
 | a :: l => by
   have h := filter_len_eq p l;have h2 : (l.filter p).length ≤ l.length := List.length_filter_le _ _;cases ha : p a
   · simp only [List.filter_cons, ha, Bool.false_eq_true, if_false, List.length_cons, List.all_cons, Bool.false_and, iff_false]; omega
   · simp only [List.filter_cons, ha, if_true, List.length_cons, List.all_cons, Bool.true_and, Nat.add_right_cancel_iff, h]
theorem dbUsable_count (t : DTopology) (x : DSegmentDatabase) (now : Int) : (segCount (usableDb t x now) == segCount x) = dbUsable t x now := by
 have h1 : (x.down.filter (useB t 2 now)).length ≤ x.down.length := List.length_filter_le _ _;have h2 : (x.core.filter (useB t 1 now)).length ≤ x.core.length := List.length_filter_le _ _;have h3 := filter_len_eq (useB t 2 now) x.down;have h4 := filter_len_eq (useB t 1 now) x.core;unfold segCount usableDb usableOf dbUsable;rw [Bool.eq_iff_iff, beq_iff_eq, Bool.and_eq_true, ← h3, ← h4];dsimp only;omega
theorem all_snoc {α : Type} (p : α → Bool) (l : List α) (k : Nat) (h : k < l.length) : (l.take (k + 1)).all p = ((l.take k).all p && p l[k]) := by
 rw [take_snoc l k h, List.all_append];simp
theorem all_no {α : Type} (p : α → Bool) (l : List α) (k : Nat) (h : k < l.length) (hp : p l[k] = false) : l.all p = false := by
 rw [List.all_eq_false];exact ⟨l[k], List.getElem_mem h, by simp [hp]⟩
theorem impl_DatabaseUsable (vt vx : Value) (now : Int) (t : DTopology) (x : DSegmentDatabase) (w : World) (ht : TopologyV w.heap.size w vt t) (hx : SegmentDatabaseV w.heap.size w vx x) (hn : segTot x.down + segTot x.core ≤ 1048576) :
 Calls Tryz.prog 21 #[vt, vx, I now] w fun e w' => e = .returned (.bool (dbUsable t x now)) ∧ Ext w w' := by
 obtain ⟨At_0, nt_0, ct_0, At_1, nt_1, ct_1, rfl, st_0, st_1⟩ := id ht;obtain ⟨lt_0, kt_0, mt_0⟩ := st_0.len;subst lt_0;unfold maxLen at mt_0;obtain ⟨lt_1, kt_1, mt_1⟩ := st_1.len;subst lt_1;unfold maxLen at mt_1;have Rt := Lib.hid ht; clear ht;have St_0 := Lib.hid st_0; clear st_0;have St_1 := Lib.hid st_1; clear st_1;obtain ⟨Ax_0, nx_0, cx_0, Ax_1, nx_1, cx_1, rfl, sx_0, sx_1⟩ := id hx;obtain ⟨lx_0, kx_0, mx_0⟩ := sx_0.len;subst lx_0;unfold maxLen at mx_0;obtain ⟨lx_1, kx_1, mx_1⟩ := sx_1.len;subst lx_1;unfold maxLen at mx_1;have Rx := Lib.hid hx; clear hx;have Sx_0 := Lib.hid sx_0; clear sx_0;have Sx_1 := Lib.hid sx_1; clear sx_1;have hdl := totS_len (fun u : DSegment => u.hops.length) x.down;have hcl := totS_len (fun u : DSegment => u.hops.length) x.core;have hn' : totS (fun u : DSegment => u.hops.length) x.down + totS (fun u : DSegment => u.hops.length) x.core ≤ 1048576 := hn;have h1 : (usableDb t x now).down.length ≤ x.down.length := List.length_filter_le _ _;have h2 : (usableDb t x now).core.length ≤ x.core.length := List.length_filter_le _ _;have HF := Lib.hid (dbUsable_count t x now);have HU := Lib.hid (fun vt vx W a b => impl_UsableSegments vt vx now t x W a b hn)
 go_enter Tryz.func21, Tryz.ntmps21
 go_wp2_with fail
 first | refine name_wp ?_ ?_ ?_ | refine name_calls ?_ ?_ ?_
 exact (fun W => Ext w W ∧ Blk W (w.heap.size) 27 [.slice At_0 t.ases.length ct_0, .slice At_1 t.links.length ct_1] ∧ Blk W (w.heap.size + 1) 30 [.slice Ax_0 x.down.length cx_0, .slice Ax_1 x.core.length cx_1]);exact ⟨xe, xb, xb⟩;rintro w0 ⟨ew0, bt, bx⟩;have lt := bt.lt;obtain ⟨pt_0, pt_1⟩ := blk2 bt;have Bt := Lib.hid bt; clear bt;have lx := bx.lt;obtain ⟨px_0, px_1⟩ := blk2 bx;have Bx := Lib.hid bx; clear bx
 generalize usableDb t x now = y at *
 generalize hcy : segCount y = cy at *
 generalize hcx : segCount x = cx at *
 refine wp_region_L (E := Ext) (w0 := w0) (G := fun τ => match τ with | 10 => some (fun v W => SegmentDatabaseV W.heap.size W v y) | 11 => some (fun v W => v = I cy) | 13 => some (fun v W => v = I cx) | _ => none) Ext.refl (fun h k => Ext.trans h k) (by kernel_rfl) (by kernel_rfl) xg (Ext.drew (by exact Ext.refl _)) ?_
 repeat' (first
  | ((with_reducible refine wpL_skip ?_ ?_ ?_)
     · rfl
     · rfl
     simp only [putS])
  | ((with_reducible refine wpL_quiet ?_ ?_ ?_ ?_)
     · rfl
     · rfl
     · rfl
     apply Exists.intro
     refine ⟨fun W hW hS => ?_, ?_⟩
     · have hC := (Ext.facts hW).1
       go_simp
       first | done | (with_reducible rfl) | (rw [if_neg (by omega)]; exact ⟨rfl, rfl⟩) | rfl
     first | (with_reducible refine wpL_boolT ?_) | (with_reducible refine wpL_boolF ?_) | (with_reducible refine wpL_bool (fun hB => ?_) (fun hB => ?_)) | skip
     all_goals simp only [putS])
  | ((refine wpL_call ?_ rfl rfl ?_ ?_ ?_)
     · rfl
     · rfl
     · intro W hW hS
       have hC := (Ext.facts hW).1;unfold growAt
       go_simp
       simp only [growUpon]
       first | (go_at_call 28; (with_reducible refine Calls.mono (HU.out _ _ _ (by exact Rt.out.ext xe) (by exact Rx.out.ext xe)) ?_); rintro e w9 ⟨v9, rfl, o9, e9⟩; exact ⟨_, rfl, e9, SegmentDatabaseO_rd o9 (Nat.le_refl _)⟩) | (go_at_call 25; have hs10 : SegmentDatabaseV W.heap.size W _ y := hS 10 (by decide); (with_reducible refine Calls.mono (impl_SegmentCount _ y _ hs10 (by omega)) ?_); rintro e w9 ⟨rfl, e9⟩; exact ⟨_, rfl, e9, by rw [hcy]⟩) | (go_at_call 25; (with_reducible refine Calls.mono (impl_SegmentCount _ x _ (by exact Rx.out.ext xe) (by omega)) ?_); rintro e w9 ⟨rfl, e9⟩; exact ⟨_, rfl, e9, by rw [hcx]⟩)
     first | (with_reducible refine wpL_boolT ?_) | (with_reducible refine wpL_boolF ?_) | (with_reducible refine wpL_bool (fun hB => ?_) (fun hB => ?_)) | skip
     all_goals simp only [putS])
  | ((refine wpL_grow ?_ rfl rfl ?_ ?_)
     · rfl
     · intro W hW hS
       have hC := (Ext.facts hW).1;unfold growAt
       go_simp
       simp only [growUpon]
       first | (go_at_call 28; (with_reducible refine Calls.mono (HU.out _ _ _ (by exact Rt.out.ext xe) (by exact Rx.out.ext xe)) ?_); rintro e w9 ⟨v9, rfl, o9, e9⟩; exact ⟨_, rfl, e9, SegmentDatabaseO_rd o9 (Nat.le_refl _)⟩) | (go_at_call 25; have hs10 : SegmentDatabaseV W.heap.size W _ y := hS 10 (by decide); (with_reducible refine Calls.mono (impl_SegmentCount _ y _ hs10 (by omega)) ?_); rintro e w9 ⟨rfl, e9⟩; exact ⟨_, rfl, e9, by rw [hcy]⟩) | (go_at_call 25; (with_reducible refine Calls.mono (impl_SegmentCount _ x _ (by exact Rx.out.ext xe) (by omega)) ?_); rintro e w9 ⟨rfl, e9⟩; exact ⟨_, rfl, e9, by rw [hcx]⟩)
     intro v W' hW' hv
     first | (subst hv) | (subst hv) | (obtain ⟨A5, n5, c5, rfl, -⟩ := id hv; clear hv) | (obtain ⟨A5, n5, c5, rfl⟩ := NO.slice hv) | skip
     all_goals simp only [putS]))
 all_goals
  refine wpL_nil (fun w1 e1 hL => ?_);clear hL;go_wp2_with fail
  go_ret
  exact ⟨ret_bool (by rw [← HF.out]; first | exact hB | exact hB.symm), xe⟩
theorem spec_DatabaseUsable (vt vx : Value) (now : Int) (t : DTopology) (x : DSegmentDatabase) (w : World) (ht : TopologyV w.heap.size w vt t) (hx : SegmentDatabaseV w.heap.size w vx x) (hn : segTot x.down + segTot x.core ≤ 1048576) :
 Calls Tryz.prog 22 #[vt, vx, I now] w fun e w' => e = .returned (.bool (dbUsable t x now)) ∧ Ext w w' := by
 obtain ⟨At_0, nt_0, ct_0, At_1, nt_1, ct_1, rfl, st_0, st_1⟩ := id ht;obtain ⟨lt_0, kt_0, mt_0⟩ := st_0.len;subst lt_0;unfold maxLen at mt_0;obtain ⟨lt_1, kt_1, mt_1⟩ := st_1.len;subst lt_1;unfold maxLen at mt_1;have Rt := Lib.hid ht; clear ht;have St_0 := Lib.hid st_0; clear st_0;have St_1 := Lib.hid st_1; clear st_1;obtain ⟨Ax_0, nx_0, cx_0, Ax_1, nx_1, cx_1, rfl, sx_0, sx_1⟩ := id hx;obtain ⟨lx_0, kx_0, mx_0⟩ := sx_0.len;subst lx_0;unfold maxLen at mx_0;obtain ⟨lx_1, kx_1, mx_1⟩ := sx_1.len;subst lx_1;unfold maxLen at mx_1;have Rx := Lib.hid hx; clear hx;have Sx_0 := Lib.hid sx_0; clear sx_0;have Sx_1 := Lib.hid sx_1; clear sx_1;have hdl := totS_len (fun u : DSegment => u.hops.length) x.down;have hcl := totS_len (fun u : DSegment => u.hops.length) x.core;have hn' : totS (fun u : DSegment => u.hops.length) x.down + totS (fun u : DSegment => u.hops.length) x.core ≤ 1048576 := hn
 go_enter Tryz.func22, Tryz.ntmps22
 go_wp2_with fail
 first | refine name_wp ?_ ?_ ?_ | refine name_calls ?_ ?_ ?_
 exact (fun W => Ext w W ∧ Blk W (w.heap.size) 27 [.slice At_0 t.ases.length ct_0, .slice At_1 t.links.length ct_1] ∧ Blk W (w.heap.size + 1) 30 [.slice Ax_0 x.down.length cx_0, .slice Ax_1 x.core.length cx_1]);exact ⟨xe, xb, xb⟩;rintro w0 ⟨ew0, bt, bx⟩;have lt := bt.lt;obtain ⟨pt_0, pt_1⟩ := blk2 bt;have Bt := Lib.hid bt; clear bt;have lx := bx.lt;obtain ⟨px_0, px_1⟩ := blk2 bx;have Bx := Lib.hid bx; clear bx
 go_loopw [7] (fun i wr => ∃ k : Nat, k ≤ x.down.length ∧ i = I k ∧ (x.down.take k).all (useB t 2 now) = true ∧ Ext w0 wr) (fun i _ => x.down.length - (intOf i).toNat)
 case atStart => exact ⟨0, by omega, rfl, by simp, Ext.refl _⟩
 case round =>
  obtain ⟨k, hk, rfl, hq, he⟩ := hrel;have HQ := Lib.hid hq; clear hq;have bt := Bt.out.ext (w' := wr) xe;have lt := bt.lt;obtain ⟨pt_0, pt_1⟩ := blk2 bt;clear bt;have bx := Bx.out.ext (w' := wr) xe;have lx := bx.lt;obtain ⟨px_0, px_1⟩ := blk2 bx;clear bx;by_cases hlt : k < x.down.length
  · obtain ⟨b, off, rfl, hb, hkl, hc⟩ := (Sx_0.out.ext (w' := wr) xe).at_ hlt
    have hyl : x.down[k].hops.length ≤ totS (fun u : DSegment => u.hops.length) x.down := totS_get (fun u : DSegment => u.hops.length) x.down k hkl;have HX := Lib.hid (all_snoc (useB t 2 now) x.down k hkl);have HN := Lib.hid (all_no (useB t 2 now) x.down k hkl)
    generalize x.down[k] = u at *
    obtain ⟨Au_2, nu_2, cu_2, hu_0, hu_1, hu_2, su_2⟩ := hc;obtain ⟨lu_2, ku_2, mu_2⟩ := su_2.len;subst lu_2;unfold maxLen at mu_2
    have Ru : Hid (SegmentV wr.heap.size wr (.agg #[I u.ts, I u.beta, .slice Au_2 u.hops.length cu_2]) u) := ⟨_, _, _, rfl, su_2⟩
    have Su_2 := Lib.hid su_2; clear su_2
    have i0 : (0 : Int) ≤ (k : Int) := by omega
    have i1 : (k : Int) < (x.down.length : Int) := by omega
    cases h0 : segUsable t u now
    · have HF : Hid (dbUsable t x now = false) := by unfold Hid dbUsable; rw [HN.out (by simp [useB, h0])]; simp
      go_wp2_with fail
      refine wp_region_L (E := Ext) (w0 := wr) (G := fun τ => match τ with | 23 => some (fun v _ => v = .bool (false)) | _ => none) Ext.refl (fun h k => Ext.trans h k) (by kernel_rfl) (by kernel_rfl) xg (Ext.drew (by exact Ext.refl _)) ?_
      repeat' (first
       | ((with_reducible refine wpL_skip ?_ ?_ ?_)
          · rfl
          · rfl
          simp only [putS])
       | ((with_reducible refine wpL_quiet ?_ ?_ ?_ ?_)
          · rfl
          · rfl
          · rfl
          apply Exists.intro
          refine ⟨fun W hW hS => ?_, ?_⟩
          · have hC := (Ext.facts hW).1
            go_simp
            first | done | (with_reducible rfl) | (rw [if_neg (by omega)]; exact ⟨rfl, rfl⟩) | rfl
          first | (with_reducible refine wpL_boolT ?_) | (with_reducible refine wpL_boolF ?_) | (with_reducible refine wpL_bool (fun hB => ?_) (fun hB => ?_)) | skip
          all_goals simp only [putS])
       | ((refine wpL_call ?_ rfl rfl ?_ ?_ ?_)
          · rfl
          · rfl
          · intro W hW hS
            have hC := (Ext.facts hW).1;unfold growAt
            go_simp
            simp only [growUpon]
            first | (go_at_call 53; ((with_reducible refine Calls.mono (spec_SegmentUsable _ _ _ (t) (u) _ (by exact Rt.out.ext xe) (by exact Ru.out.ext xe) xo) ?_)); rintro e w9 ⟨rfl, e9⟩; exact ⟨_, rfl, e9, by first | rfl | (simp only [*])⟩)
          first | (with_reducible refine wpL_boolT ?_) | (with_reducible refine wpL_boolF ?_) | (with_reducible refine wpL_bool (fun hB => ?_) (fun hB => ?_)) | skip
          all_goals simp only [putS]))
      refine wpL_nil (fun w4 e4 hL => ?_);clear hL;go_wp2_with fail
      go_ret
      exact ⟨ret_bool HF.out.symm, xe⟩
    by_cases h1 : segKind t u = 2
    · have HS : Hid ((x.down.take (k + 1)).all (useB t 2 now) = true) := by unfold Hid; rw [HX.out, HQ.out]; simp [useB, h0, h1]
      go_wp2_with fail
      refine wp_region_L (E := Ext) (w0 := wr) (G := fun τ => match τ with | 23 => some (fun v _ => v = .bool (true)) | 32 => some (fun v _ => v = I (2)) | _ => none) Ext.refl (fun h k => Ext.trans h k) (by kernel_rfl) (by kernel_rfl) xg (Ext.drew (by exact Ext.refl _)) ?_
      repeat' (first
       | ((with_reducible refine wpL_skip ?_ ?_ ?_)
          · rfl
          · rfl
          simp only [putS])
       | ((with_reducible refine wpL_quiet ?_ ?_ ?_ ?_)
          · rfl
          · rfl
          · rfl
          apply Exists.intro
          refine ⟨fun W hW hS => ?_, ?_⟩
          · have hC := (Ext.facts hW).1
            go_simp
            first | done | (with_reducible rfl) | (rw [if_neg (by omega)]; exact ⟨rfl, rfl⟩) | rfl
          first | (with_reducible refine wpL_boolT ?_) | (with_reducible refine wpL_boolF ?_) | (with_reducible refine wpL_bool (fun hB => ?_) (fun hB => ?_)) | skip
          all_goals simp only [putS])
       | ((refine wpL_call ?_ rfl rfl ?_ ?_ ?_)
          · rfl
          · rfl
          · intro W hW hS
            have hC := (Ext.facts hW).1;unfold growAt
            go_simp
            simp only [growUpon]
            first | (go_at_call 53; ((with_reducible refine Calls.mono (spec_SegmentUsable _ _ _ (t) (u) _ (by exact Rt.out.ext xe) (by exact Ru.out.ext xe) xo) ?_)); rintro e w9 ⟨rfl, e9⟩; exact ⟨_, rfl, e9, by first | rfl | (simp only [*])⟩) | (go_at_call 42; ((with_reducible refine Calls.mono (spec_SegmentKind _ _ (t) (u) _ (by exact Rt.out.ext xe) (by exact Ru.out.ext xe) xo) ?_)); rintro e w9 ⟨rfl, e9⟩; exact ⟨_, rfl, e9, by first | rfl | (simp only [*])⟩)
          first | (with_reducible refine wpL_boolT ?_) | (with_reducible refine wpL_boolF ?_) | (with_reducible refine wpL_bool (fun hB => ?_) (fun hB => ?_)) | skip
          all_goals simp only [putS]))
      refine wpL_nil (fun w4 e4 hL => ?_);clear hL;go_wp2_with fail
      go_roundw
      case rel => exact ⟨k + 1, by omega, by go_num, HS.out, xe⟩
      case measure => simp [intOf]; omega
    · have HF : Hid (dbUsable t x now = false) := by unfold Hid dbUsable; rw [HN.out (by simp [useB, h1])]; simp
      have d1 : (segKind t u != 2) = true := bne_iff_ne.2 h1;clear h1;go_wp2_with fail
      refine wp_region_L (E := Ext) (w0 := wr) (G := fun τ => match τ with | 23 => some (fun v _ => v = .bool (true)) | 32 => some (fun v _ => v = I (segKind t u)) | _ => none) Ext.refl (fun h k => Ext.trans h k) (by kernel_rfl) (by kernel_rfl) xg (Ext.drew (by exact Ext.refl _)) ?_
      repeat' (first
       | ((with_reducible refine wpL_skip ?_ ?_ ?_)
          · rfl
          · rfl
          simp only [putS])
       | ((with_reducible refine wpL_quiet ?_ ?_ ?_ ?_)
          · rfl
          · rfl
          · rfl
          apply Exists.intro
          refine ⟨fun W hW hS => ?_, ?_⟩
          · have hC := (Ext.facts hW).1
            go_simp
            first | done | (with_reducible rfl) | (rw [if_neg (by omega)]; exact ⟨rfl, rfl⟩) | rfl
          first | (with_reducible refine wpL_boolT ?_) | (with_reducible refine wpL_boolF ?_) | (with_reducible refine wpL_bool (fun hB => ?_) (fun hB => ?_)) | skip
          all_goals simp only [putS])
       | ((refine wpL_call ?_ rfl rfl ?_ ?_ ?_)
          · rfl
          · rfl
          · intro W hW hS
            have hC := (Ext.facts hW).1;unfold growAt
            go_simp
            simp only [growUpon]
            first | (go_at_call 53; ((with_reducible refine Calls.mono (spec_SegmentUsable _ _ _ (t) (u) _ (by exact Rt.out.ext xe) (by exact Ru.out.ext xe) xo) ?_)); rintro e w9 ⟨rfl, e9⟩; exact ⟨_, rfl, e9, by first | rfl | (simp only [*])⟩) | (go_at_call 42; ((with_reducible refine Calls.mono (spec_SegmentKind _ _ (t) (u) _ (by exact Rt.out.ext xe) (by exact Ru.out.ext xe) xo) ?_)); rintro e w9 ⟨rfl, e9⟩; exact ⟨_, rfl, e9, by first | rfl | (simp only [*])⟩)
          first | (with_reducible refine wpL_boolT ?_) | (with_reducible refine wpL_boolF ?_) | (with_reducible refine wpL_bool (fun hB => ?_) (fun hB => ?_)) | skip
          all_goals simp only [putS]))
      refine wpL_nil (fun w4 e4 hL => ?_);clear hL;go_wp2_with fail
      go_ret
      exact ⟨ret_bool HF.out.symm, xe⟩
  · obtain rfl : k = x.down.length := by omega
    rw [List.take_length] at HQ;go_wp2_with fail
    refine name_wp (fun W => W = wr) rfl ?_;rintro w3 rfl;have H1 := HQ; clear HQ
    go_loopw [8] (fun i wr => ∃ k : Nat, k ≤ x.core.length ∧ i = I k ∧ (x.core.take k).all (useB t 1 now) = true ∧ Ext w3 wr) (fun i _ => x.core.length - (intOf i).toNat)
    case atStart => exact ⟨0, by omega, rfl, by simp, Ext.refl _⟩
    case round =>
     obtain ⟨k, hk, rfl, hq, he⟩ := hrel;have HQ := Lib.hid hq; clear hq;have bt := Bt.out.ext (w' := wr) xe;have lt := bt.lt;obtain ⟨pt_0, pt_1⟩ := blk2 bt;clear bt;have bx := Bx.out.ext (w' := wr) xe;have lx := bx.lt;obtain ⟨px_0, px_1⟩ := blk2 bx;clear bx;by_cases hlt : k < x.core.length
     · obtain ⟨b, off, rfl, hb, hkl, hc⟩ := (Sx_1.out.ext (w' := wr) xe).at_ hlt
       have hyl : x.core[k].hops.length ≤ totS (fun u : DSegment => u.hops.length) x.core := totS_get (fun u : DSegment => u.hops.length) x.core k hkl;have HX := Lib.hid (all_snoc (useB t 1 now) x.core k hkl);have HN := Lib.hid (all_no (useB t 1 now) x.core k hkl)
       generalize x.core[k] = u at *
       obtain ⟨Au_2, nu_2, cu_2, hu_0, hu_1, hu_2, su_2⟩ := hc;obtain ⟨lu_2, ku_2, mu_2⟩ := su_2.len;subst lu_2;unfold maxLen at mu_2
       have Ru : Hid (SegmentV wr.heap.size wr (.agg #[I u.ts, I u.beta, .slice Au_2 u.hops.length cu_2]) u) := ⟨_, _, _, rfl, su_2⟩
       have Su_2 := Lib.hid su_2; clear su_2
       have i0 : (0 : Int) ≤ (k : Int) := by omega
       have i1 : (k : Int) < (x.core.length : Int) := by omega
       cases h0 : segUsable t u now
       · have HF : Hid (dbUsable t x now = false) := by unfold Hid dbUsable; rw [HN.out (by simp [useB, h0])]; simp
         go_wp2_with fail
         refine wp_region_L (E := Ext) (w0 := wr) (G := fun τ => match τ with | 49 => some (fun v _ => v = .bool (false)) | _ => none) Ext.refl (fun h k => Ext.trans h k) (by kernel_rfl) (by kernel_rfl) xg (Ext.drew (by exact Ext.refl _)) ?_
         repeat' (first
          | ((with_reducible refine wpL_skip ?_ ?_ ?_)
             · rfl
             · rfl
             simp only [putS])
          | ((with_reducible refine wpL_quiet ?_ ?_ ?_ ?_)
             · rfl
             · rfl
             · rfl
             apply Exists.intro
             refine ⟨fun W hW hS => ?_, ?_⟩
             · have hC := (Ext.facts hW).1
               go_simp
               first | done | (with_reducible rfl) | (rw [if_neg (by omega)]; exact ⟨rfl, rfl⟩) | rfl
             first | (with_reducible refine wpL_boolT ?_) | (with_reducible refine wpL_boolF ?_) | (with_reducible refine wpL_bool (fun hB => ?_) (fun hB => ?_)) | skip
             all_goals simp only [putS])
          | ((refine wpL_call ?_ rfl rfl ?_ ?_ ?_)
             · rfl
             · rfl
             · intro W hW hS
               have hC := (Ext.facts hW).1;unfold growAt
               go_simp
               simp only [growUpon]
               first | (go_at_call 53; ((with_reducible refine Calls.mono (spec_SegmentUsable _ _ _ (t) (u) _ (by exact Rt.out.ext xe) (by exact Ru.out.ext xe) xo) ?_)); rintro e w9 ⟨rfl, e9⟩; exact ⟨_, rfl, e9, by first | rfl | (simp only [*])⟩)
             first | (with_reducible refine wpL_boolT ?_) | (with_reducible refine wpL_boolF ?_) | (with_reducible refine wpL_bool (fun hB => ?_) (fun hB => ?_)) | skip
             all_goals simp only [putS]))
         refine wpL_nil (fun w4 e4 hL => ?_);clear hL;go_wp2_with fail
         go_ret
         exact ⟨ret_bool HF.out.symm, xe⟩
       by_cases h1 : segKind t u = 1
       · have HS : Hid ((x.core.take (k + 1)).all (useB t 1 now) = true) := by unfold Hid; rw [HX.out, HQ.out]; simp [useB, h0, h1]
         go_wp2_with fail
         refine wp_region_L (E := Ext) (w0 := wr) (G := fun τ => match τ with | 49 => some (fun v _ => v = .bool (true)) | 58 => some (fun v _ => v = I (1)) | _ => none) Ext.refl (fun h k => Ext.trans h k) (by kernel_rfl) (by kernel_rfl) xg (Ext.drew (by exact Ext.refl _)) ?_
         repeat' (first
          | ((with_reducible refine wpL_skip ?_ ?_ ?_)
             · rfl
             · rfl
             simp only [putS])
          | ((with_reducible refine wpL_quiet ?_ ?_ ?_ ?_)
             · rfl
             · rfl
             · rfl
             apply Exists.intro
             refine ⟨fun W hW hS => ?_, ?_⟩
             · have hC := (Ext.facts hW).1
               go_simp
               first | done | (with_reducible rfl) | (rw [if_neg (by omega)]; exact ⟨rfl, rfl⟩) | rfl
             first | (with_reducible refine wpL_boolT ?_) | (with_reducible refine wpL_boolF ?_) | (with_reducible refine wpL_bool (fun hB => ?_) (fun hB => ?_)) | skip
             all_goals simp only [putS])
          | ((refine wpL_call ?_ rfl rfl ?_ ?_ ?_)
             · rfl
             · rfl
             · intro W hW hS
               have hC := (Ext.facts hW).1;unfold growAt
               go_simp
               simp only [growUpon]
               first | (go_at_call 53; ((with_reducible refine Calls.mono (spec_SegmentUsable _ _ _ (t) (u) _ (by exact Rt.out.ext xe) (by exact Ru.out.ext xe) xo) ?_)); rintro e w9 ⟨rfl, e9⟩; exact ⟨_, rfl, e9, by first | rfl | (simp only [*])⟩) | (go_at_call 42; ((with_reducible refine Calls.mono (spec_SegmentKind _ _ (t) (u) _ (by exact Rt.out.ext xe) (by exact Ru.out.ext xe) xo) ?_)); rintro e w9 ⟨rfl, e9⟩; exact ⟨_, rfl, e9, by first | rfl | (simp only [*])⟩)
             first | (with_reducible refine wpL_boolT ?_) | (with_reducible refine wpL_boolF ?_) | (with_reducible refine wpL_bool (fun hB => ?_) (fun hB => ?_)) | skip
             all_goals simp only [putS]))
         refine wpL_nil (fun w4 e4 hL => ?_);clear hL;go_wp2_with fail
         go_roundw
         case rel => exact ⟨k + 1, by omega, by go_num, HS.out, xe⟩
         case measure => simp [intOf]; omega
       · have HF : Hid (dbUsable t x now = false) := by unfold Hid dbUsable; rw [HN.out (by simp [useB, h1])]; simp
         have d1 : (segKind t u != 1) = true := bne_iff_ne.2 h1;clear h1;go_wp2_with fail
         refine wp_region_L (E := Ext) (w0 := wr) (G := fun τ => match τ with | 49 => some (fun v _ => v = .bool (true)) | 58 => some (fun v _ => v = I (segKind t u)) | _ => none) Ext.refl (fun h k => Ext.trans h k) (by kernel_rfl) (by kernel_rfl) xg (Ext.drew (by exact Ext.refl _)) ?_
         repeat' (first
          | ((with_reducible refine wpL_skip ?_ ?_ ?_)
             · rfl
             · rfl
             simp only [putS])
          | ((with_reducible refine wpL_quiet ?_ ?_ ?_ ?_)
             · rfl
             · rfl
             · rfl
             apply Exists.intro
             refine ⟨fun W hW hS => ?_, ?_⟩
             · have hC := (Ext.facts hW).1
               go_simp
               first | done | (with_reducible rfl) | (rw [if_neg (by omega)]; exact ⟨rfl, rfl⟩) | rfl
             first | (with_reducible refine wpL_boolT ?_) | (with_reducible refine wpL_boolF ?_) | (with_reducible refine wpL_bool (fun hB => ?_) (fun hB => ?_)) | skip
             all_goals simp only [putS])
          | ((refine wpL_call ?_ rfl rfl ?_ ?_ ?_)
             · rfl
             · rfl
             · intro W hW hS
               have hC := (Ext.facts hW).1;unfold growAt
               go_simp
               simp only [growUpon]
               first | (go_at_call 53; ((with_reducible refine Calls.mono (spec_SegmentUsable _ _ _ (t) (u) _ (by exact Rt.out.ext xe) (by exact Ru.out.ext xe) xo) ?_)); rintro e w9 ⟨rfl, e9⟩; exact ⟨_, rfl, e9, by first | rfl | (simp only [*])⟩) | (go_at_call 42; ((with_reducible refine Calls.mono (spec_SegmentKind _ _ (t) (u) _ (by exact Rt.out.ext xe) (by exact Ru.out.ext xe) xo) ?_)); rintro e w9 ⟨rfl, e9⟩; exact ⟨_, rfl, e9, by first | rfl | (simp only [*])⟩)
             first | (with_reducible refine wpL_boolT ?_) | (with_reducible refine wpL_boolF ?_) | (with_reducible refine wpL_bool (fun hB => ?_) (fun hB => ?_)) | skip
             all_goals simp only [putS]))
         refine wpL_nil (fun w4 e4 hL => ?_);clear hL;go_wp2_with fail
         go_ret
         exact ⟨ret_bool HF.out.symm, xe⟩
     · obtain rfl : k = x.core.length := by omega
       rw [List.take_length] at HQ
       have HF : Hid (dbUsable t x now = true) := by unfold Hid dbUsable; rw [H1.out, HQ.out]; rfl
       go_wp2_with fail
       go_ret
       exact ⟨ret_bool HF.out.symm, xe⟩
end Go.Proofs.YtmopmgaeiokfjaaGreat
