/- Contracts of the program's and the reference's functions on beacons: Preferred. -/
import Derived.Deep.Cut
import Derived.Deep.CutRange
import Derived.Test.YtmopmgaeiokfjaaGreatGL14b
set_option maxRecDepth 100000
set_option maxHeartbeats 1000000
namespace Go.Proofs.YtmopmgaeiokfjaaGreat
open Go.RowKit
set_option linter.unusedVariables false
theorem pref1 {a b : DBeacon} (h : a.seg.hops.length ≠ b.seg.hops.length) : pref a b = decide (a.seg.hops.length < b.seg.hops.length) := by unfold pref; rw [if_pos h]
theorem pref2 {a b : DBeacon} (h : a.seg.hops.length = b.seg.hops.length) (h2 : a.seg.ts ≠ b.seg.ts) : pref a b = decide (b.seg.ts < a.seg.ts) := by unfold pref; rw [if_neg (fun q => q h), if_pos h2]
theorem pref3 {a b : DBeacon} (h : a.seg.hops.length = b.seg.hops.length) (h2 : a.seg.ts = b.seg.ts) (h3 : segId a.seg ≠ segId b.seg) : pref a b = decide (segId a.seg < segId b.seg) := by unfold pref; rw [if_neg (fun q => q h), if_neg (fun q => q h2), if_pos h3]
theorem pref4 {a b : DBeacon} (h : a.seg.hops.length = b.seg.hops.length) (h2 : a.seg.ts = b.seg.ts) (h3 : segId a.seg = segId b.seg) : pref a b = decide (a.ing < b.ing) := by unfold pref; rw [if_neg (fun q => q h), if_neg (fun q => q h2), if_neg (fun q => q h3)]
theorem spec_Preferred (va vb : Value) (a b : DBeacon) (w : World) (ha : BeaconV w.heap.size w va a) (hb : BeaconV w.heap.size w vb b) (hna : a.seg.hops.length ≤ 10000000) (hnb : b.seg.hops.length ≤ 10000000) :
 Calls Tryz.prog 159 #[va, vb] w fun e w' => e = .returned (.bool (pref a b)) ∧ Ext w w' := by
 obtain ⟨Aa_3, na_3, ca_3, rfl, sa_3⟩ := id ha;obtain ⟨la_3, ka_3, ma_3⟩ := sa_3.len;subst la_3;unfold maxLen at ma_3;have Ra := Lib.hid ha; clear ha;have Sa_3 := Lib.hid sa_3; clear sa_3;obtain ⟨Ab_3, nb_3, cb_3, rfl, sb_3⟩ := id hb;obtain ⟨lb_3, kb_3, mb_3⟩ := sb_3.len;subst lb_3;unfold maxLen at mb_3;have Rb := Lib.hid hb; clear hb;have Sb_3 := Lib.hid sb_3; clear sb_3;have P1 := Lib.hid (pref1 (a := a) (b := b)); have P2 := Lib.hid (pref2 (a := a) (b := b)); have P3 := Lib.hid (pref3 (a := a) (b := b)); have P4 := Lib.hid (pref4 (a := a) (b := b))
 go_enter Tryz.func159, Tryz.ntmps159
 go_wp2_with fail
 first | refine name_wp ?_ ?_ ?_ | refine name_calls ?_ ?_ ?_
 exact (fun W => Ext w W ∧ Blk W (w.heap.size) 78 [I a.ing, I a.seg.ts, I a.seg.beta, .slice Aa_3 a.seg.hops.length ca_3] ∧ Blk W (w.heap.size + 1) 78 [I b.ing, I b.seg.ts, I b.seg.beta, .slice Ab_3 b.seg.hops.length cb_3]);exact ⟨xe, xb, xb⟩;rintro w0 ⟨ew0, ba, bb⟩;have la := ba.lt;obtain ⟨pa_0, pa_1, pa_2, pa_3⟩ := blk4 ba;have Ba := Lib.hid ba; clear ba;have lb := bb.lt;obtain ⟨pb_0, pb_1, pb_2, pb_3⟩ := blk4 bb;have Bb := Lib.hid bb; clear bb;refine (spec_SegmentID _ a.seg _ (by exact segV (Sa_3.out.ext xe)) hna).mono ?_;rintro e w1 ⟨rfl, e1⟩;have ba := Ba.out.ext (w' := w1) xe;have la := ba.lt;obtain ⟨pa_0, pa_1, pa_2, pa_3⟩ := blk4 ba;clear ba;have bb := Bb.out.ext (w' := w1) xe;have lb := bb.lt;obtain ⟨pb_0, pb_1, pb_2, pb_3⟩ := blk4 bb;clear bb;go_wp2_with fail
 refine (spec_SegmentID _ b.seg _ (by exact segV (Sb_3.out.ext xe)) hnb).mono ?_;rintro e w2 ⟨rfl, e2⟩;have ba := Ba.out.ext (w' := w2) xe;have la := ba.lt;obtain ⟨pa_0, pa_1, pa_2, pa_3⟩ := blk4 ba;clear ba;have bb := Bb.out.ext (w' := w2) xe;have lb := bb.lt;obtain ⟨pb_0, pb_1, pb_2, pb_3⟩ := blk4 bb;clear bb
 generalize segId a.seg = ia at *
 generalize segId b.seg = ib at *
 by_cases q1 : a.seg.hops.length = b.seg.hops.length
 case neg =>
  have HG := Lib.hid (P1.out q1);have d1 : ((a.seg.hops.length : Int) != (b.seg.hops.length : Int)) = true := bne_iff_ne.2 (by omega);clear q1;go_wp2_with fail
  go_ret
  exact ⟨ret_bool HG.out.symm, xe⟩
 have P2' := Lib.hid (P2.out q1); have P3' := Lib.hid (P3.out q1); have P4' := Lib.hid (P4.out q1)
 have d1 : ((a.seg.hops.length : Int) != (b.seg.hops.length : Int)) = false := by rw [q1]; simp
 clear q1;by_cases q2 : a.seg.ts = b.seg.ts
 case neg =>
  have HG := Lib.hid (P2'.out q2);have d2 : (a.seg.ts != b.seg.ts) = true := bne_iff_ne.2 q2;clear q2;go_wp2_with fail
  go_ret
  exact ⟨ret_bool HG.out.symm, xe⟩
 have P3'' := Lib.hid (P3'.out q2); have P4'' := Lib.hid (P4'.out q2)
 have d2 : (a.seg.ts != b.seg.ts) = false := by rw [q2]; simp
 clear q2;by_cases q3 : ia = ib
 case neg =>
  have HG := Lib.hid (P3''.out q3);have d3 : (ia != ib) = true := bne_iff_ne.2 q3;clear q3;go_wp2_with fail
  go_ret
  exact ⟨ret_bool HG.out.symm, xe⟩
 have HG := Lib.hid (P4''.out q3)
 have d3 : (ia != ib) = false := by rw [q3]; simp
 clear q3;go_wp2_with fail
 go_ret
 exact ⟨ret_bool HG.out.symm, xe⟩
end Go.Proofs.YtmopmgaeiokfjaaGreat
