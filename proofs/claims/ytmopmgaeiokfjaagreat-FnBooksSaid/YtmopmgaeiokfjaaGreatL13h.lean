/- Contracts of the program's and the reference's functions that hand segments on: EgressCandidates. -/
import Derived.Test.YtmopmgaeiokfjaaGreatL13f
import Derived.Test.YtmopmgaeiokfjaaGreatGL14b
set_option maxRecDepth 100000
set_option maxHeartbeats 1000000
namespace Go.Proofs.YtmopmgaeiokfjaaGreat
open Go.RowKit
set_option linter.unusedVariables false
theorem spec_EgressCandidates (vt : Value) (p : DPolicy) (vs : Value) (r inn : Int) (t : DTopology) (s : DSegment) (w : World) (ht : TopologyV w.heap.size w vt t) (hs : SegmentV w.heap.size w vs s) (hn : s.hops.length ≤ 10000000) :
 Calls Tryz.prog 145 #[vt, .agg #[I p.maxLen, I p.denied, I p.closed, I p.life], vs, I r, I inn] w fun e w' => ∃ v', e = .returned v' ∧ IntSO w.heap.size w'.heap.size w' v' (egrIfs t p s r inn) ∧ Ext w w' := by
 obtain ⟨At_0, nt_0, ct_0, At_1, nt_1, ct_1, rfl, st_0, st_1⟩ := id ht;obtain ⟨lt_0, kt_0, mt_0⟩ := st_0.len;subst lt_0;unfold maxLen at mt_0;obtain ⟨lt_1, kt_1, mt_1⟩ := st_1.len;subst lt_1;unfold maxLen at mt_1;have Rt := Lib.hid ht; clear ht;have St_0 := Lib.hid st_0; clear st_0;have St_1 := Lib.hid st_1; clear st_1;obtain ⟨As_2, ns_2, cs_2, rfl, ss_2⟩ := id hs;obtain ⟨ls_2, ks_2, ms_2⟩ := ss_2.len;subst ls_2;unfold maxLen at ms_2;have Rs := Lib.hid hs; clear hs;have Ss_2 := Lib.hid ss_2; clear ss_2
 go_enter Tryz.func145, Tryz.ntmps145
 go_wp2_with fail
 refine name_wp (fun W => ∃ wb, Ext w wb ∧ Blk wb w.heap.size 27 [.slice At_0 t.ases.length ct_0, .slice At_1 t.links.length ct_1] ∧ Blk wb (w.heap.size + 1) 82 [I p.maxLen, I p.denied, I p.closed, I p.life] ∧ Blk wb (w.heap.size + 1 + 1) 33 [I s.ts, I s.beta, .slice As_2 s.hops.length cs_2] ∧ Ext wb W ∧ IntSO wb.heap.size W.heap.size W (.slice (some ⟨w.heap.size + 1 + 1 + 1, 0, none⟩) 0 0) []) ⟨_, xe, xb, xb, xb, (Ext.refl _).alloc _, own_zero' _ _ _ _ _ (by simp) (Nat.le_refl _)⟩ ?_;rintro wz ⟨w0, ew0, bt, bp, bs, ez, hz⟩;have Bt := Lib.hid bt; have Bp := Lib.hid bp; have Bs := Lib.hid bs; have HZ := Lib.hid hz; clear bt bp bs hz
 go_loopw [11, 12] (fun v i wr => ∃ k : Nat, k ≤ 6 ∧ i = I ((k : Int) + 1) ∧ IntSO w0.heap.size wr.heap.size wr v (egrTo t p s r inn k) ∧ Ext w0 wr) (fun _ i _ => 7 - (intOf i).toNat)
 case atStart => exact ⟨0, by omega, rfl, HZ.out, ez⟩
 case round =>
  obtain ⟨k, hk, rfl, ho, he⟩ := hrel;have HO := Lib.hid ho; clear ho;have bt := Bt.out.ext (w' := wr) xe;have lt := bt.lt;obtain ⟨pt_0, pt_1⟩ := blk2 bt;clear bt;have bp := Bp.out.ext (w' := wr) xe;have lp := bp.lt;obtain ⟨pp_0, pp_1, pp_2, pp_3⟩ := blk4 bp;clear bp;have bs := Bs.out.ext (w' := wr) xe;have ls := bs.lt;obtain ⟨ps_0, ps_1, ps_2⟩ := blk3 bs;clear bs;by_cases hlt : k < 6
  · have j1 : (k : Int) + 1 ≤ 6 := by omega
    go_wp2_with fail
    refine (spec_Extend _ p _ r inn ((k : Int) + 1) t s _ (by exact Rt.out.ext xe) (by exact Rs.out.ext xe) hn).mono ?_;rintro e w1 ⟨v1, rfl, o1, e1⟩;obtain ⟨a1, m1, q1, rfl, -⟩ := SegmentO.vals o1;clear o1;generalize (extSeg t p s r inn ((k : Int) + 1)).ts = ts1;generalize (extSeg t p s r inn ((k : Int) + 1)).beta = be1;generalize (extSeg t p s r inn ((k : Int) + 1)).hops.length = ln1;have bt := Bt.out.ext (w' := w1) xe;have lt := bt.lt;obtain ⟨pt_0, pt_1⟩ := blk2 bt;clear bt;have bp := Bp.out.ext (w' := w1) xe;have lp := bp.lt;obtain ⟨pp_0, pp_1, pp_2, pp_3⟩ := blk4 bp;clear bp;have bs := Bs.out.ext (w' := w1) xe;have ls := bs.lt;obtain ⟨ps_0, ps_1, ps_2⟩ := blk3 bs;clear bs
    generalize hok : extOk t p s r inn ((k : Int) + 1) = ok at *
    have HK := Lib.hid hok; clear hok;go_wp2_with fail
    refine name_calls (fun W => Ext w1 W) xe ?_;rintro w2 ew2;refine (spec_RemoteEnd _ r ((k : Int) + 1) t _ (by exact Rt.out.ext xe)).mono ?_;rintro e w3 ⟨rfl, e3⟩;have HR : Hid (egrOk t p s r inn k = (extOk t p s r inn ((k : Int) + 1) && ((remEnd t r ((k : Int) + 1)).1 != r && !hasI (ases s.hops) (remEnd t r ((k : Int) + 1)).1))) := rfl
    generalize (remEnd t r ((k : Int) + 1)).1 = far at *
    generalize (remEnd t r ((k : Int) + 1)).2 = door at *
    rw [HK.out] at HR;have bt := Bt.out.ext (w' := w3) xe;have lt := bt.lt;obtain ⟨pt_0, pt_1⟩ := blk2 bt;clear bt;have bp := Bp.out.ext (w' := w3) xe;have lp := bp.lt;obtain ⟨pp_0, pp_1, pp_2, pp_3⟩ := blk4 bp;clear bp;have bs := Bs.out.ext (w' := w3) xe;have ls := bs.lt;obtain ⟨ps_0, ps_1, ps_2⟩ := blk3 bs;clear bs;cases ok
    · have HS := Lib.hid (egrTo_no (t := t) (p := p) (s := s) (r := r) (inn := inn) (k := k) (by rw [HR.out]; rfl))
      go_wp2_with fail
      go_roundw
      case rel => exact ⟨k + 1, by omega, by first | go_num | (congr 1; omega), by rw [HS.out]; exact Own.up HO.out xe, xe⟩
      case measure => simp [intOf]; omega
    by_cases hq : far = r
    · have HS := Lib.hid (egrTo_no (t := t) (p := p) (s := s) (r := r) (inn := inn) (k := k) (by rw [HR.out, hq]; simp))
      have dq : (far != r) = false := by rw [hq]; simp
      clear hq;go_wp2_with fail
      go_roundw
      case rel => exact ⟨k + 1, by omega, by first | go_num | (congr 1; omega), by rw [HS.out]; exact Own.up HO.out xe, xe⟩
      case measure => simp [intOf]; omega
    have dq : (far != r) = true := bne_iff_ne.2 hq;clear hq
    have HR2 : Hid (egrOk t p s r inn k = !hasI (ases s.hops) far) := by unfold Hid; rw [HR.out, dq]; rfl
    go_wp2_with fail
    clear dq;refine (spec_SegmentASes _ s _ (by exact Rs.out.ext xe) (by omega)).mono ?_;rintro e w4 ⟨v4, rfl, o4, ew4⟩;have R4 := Lib.hid (IntSO_rd o4); clear o4;go_wp2_with fail
    refine (spec_l9Has _ far (ases s.hops) _ R4.out).mono ?_;rintro e w4b ⟨rfl, e4b⟩;subst e4b;cases hh : hasI (ases s.hops) far
    rotate_left
    · have HS := Lib.hid (egrTo_no (t := t) (p := p) (s := s) (r := r) (inn := inn) (k := k) (by rw [HR2.out, hh]; rfl))
      clear hh;go_wp2_with fail
      go_roundw
      case rel => exact ⟨k + 1, by omega, by first | go_num | (congr 1; omega), by rw [HS.out]; exact Own.up HO.out xe, xe⟩
      case measure => simp [intOf]; omega
    have HS := Lib.hid (egrTo_yes (t := t) (p := p) (s := s) (r := r) (inn := inn) (k := k) (by rw [HR2.out, hh]; rfl));clear hh;have hml := egrTo_len t p s r inn k
    generalize egrTo t p s r inn k = sl at *
    go_wp2_with (at_builtin; refine hold ?_)
    refine unhold (wpList_app w0 rfl (.tmp 52) (.tmp 54) _ rfl 3 (.int .i64 0) 1 8 Tryz.underlying96 info_int rfl (by omega) _ sl.length (sl.map I) rfl _ 1 1 [I ((k : Int) + 1)] rfl
     (by exact Own.up HO.out xe) (row_newN _ _ _ _ _ _ (by first | rfl | simp) rfl) (one_ints [(k : Int) + 1]) xe (by unfold maxLen; omega) (by omega) ?_)
    intro v5 w5 ho5 he5 _ _;have O5 := Lib.hid ho5; clear ho5;go_wp2_with (at_builtin; refine hold ?_)
    go_roundw
    case rel => exact ⟨k + 1, by omega, by first | go_num | (congr 1; omega), by rw [HS.out]; unfold IntSO; simpa using O5.out, he5⟩
    case measure => simp [intOf]; omega
  · obtain rfl : k = 6 := by omega
    go_wp2_with fail
    go_ret
    exact ⟨_, rfl, Own.more HO.out (Ext.size ew0) (Nat.le_refl _), xe⟩
end Go.Proofs.YtmopmgaeiokfjaaGreat
