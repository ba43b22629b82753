/- Contracts of the program's and the reference's functions that hand segments on: CanExtend, Extend, Terminate. Printed by scripts/g13f.py. -/
import Derived.Test.YtmopmgaeiokfjaaGreatGL14
import Derived.Test.YtmopmgaeiokfjaaGreatGL13b
set_option maxRecDepth 100000
set_option maxHeartbeats 1000000
namespace Go.Proofs.YtmopmgaeiokfjaaGreat
open Go.RowKit
set_option linter.unusedVariables false
theorem impl_hasInt (v : Value) (n : Int) (l : List Int) (w : World) (h : IntS w.heap.size w v l) : Calls Tryz.prog 120 #[v, I n] w fun e w' => e = .returned (.bool (hasI l n)) ∧ w = w' := by
 obtain ⟨A, m, c, rfl, hl, hn, hm, -⟩ := id h;have H := Lib.hid h; have HL := Lib.hid hl; clear h hl;unfold maxLen at hm
 go_enter Tryz.func120, Tryz.ntmps120
 go_wp2
 go_loop [9] (fun i => ∃ k : Nat, k ≤ m ∧ i = I k ∧ hasI (l.take k) n = false) (fun i => m - (intOf i).toNat)
 case atStart => exact ⟨0, by omega, rfl, by simp [hasI]⟩
 case round =>
  obtain ⟨k, hk, rfl, hq⟩ := hrel;have HQ := Lib.hid hq; clear hq;by_cases hlt : k < m
  · obtain ⟨b, off, rfl, hb, hkl, hc⟩ := H.out.at_ hlt
    have hc : w.cell? ⟨b, off + k, none⟩ = some (I l[k]) := hc
    have HY : Hid (l[k] = n → hasI l n = true) := fun he => by unfold hasI; rw [List.any_eq_true]; exact ⟨l[k], List.getElem_mem hkl, beq_iff_eq.2 he⟩
    have HX : Hid (¬ l[k] = n → hasI (l.take (k + 1)) n = false) := fun he => by
     have h1 := HQ.out;unfold hasI at h1 ⊢;rw [take_snoc l k hkl, List.any_append, h1];simp [he]
    generalize l[k] = x at *
    by_cases hx : x = n
    · have HZ := Lib.hid (HY.out hx)
      subst hx;go_wp2
      go_ret
      exact ⟨ret_bool HZ.out.symm, rfl⟩
    · have HZ := Lib.hid (HX.out hx)
      have dx : (x == n) = false := beq_eq_false_iff_ne.2 hx;go_wp2
      go_round
      case rel => exact ⟨k + 1, by omega, by go_num, HZ.out⟩
      case measure => simp [intOf]; omega
  · go_wp2
    go_ret
    have h1 := HQ.out;rw [List.take_of_length_le (by rw [HL.out]; omega)] at h1;exact ⟨ret_bool h1.symm, rfl⟩
theorem impl_CanExtend (vt vs : Value) (r inn : Int) (t : DTopology) (s : DSegment) (w : World) (ht : TopologyV w.heap.size w vt t) (hs : SegmentV w.heap.size w vs s) (hn : s.hops.length ≤ 10000000) :
 Calls Tryz.prog 82 #[vt, vs, I r, I inn] w fun e w' => e = .returned (.bool (canExt t s r inn)) ∧ Ext w w' := by
 obtain ⟨At_0, nt_0, ct_0, At_1, nt_1, ct_1, rfl, st_0, st_1⟩ := id ht;obtain ⟨lt_0, kt_0, mt_0⟩ := st_0.len;subst lt_0;unfold maxLen at mt_0;obtain ⟨lt_1, kt_1, mt_1⟩ := st_1.len;subst lt_1;unfold maxLen at mt_1;have Rt := Lib.hid ht; clear ht;have St_0 := Lib.hid st_0; clear st_0;have St_1 := Lib.hid st_1; clear st_1;obtain ⟨As_2, ns_2, cs_2, rfl, ss_2⟩ := id hs;obtain ⟨ls_2, ks_2, ms_2⟩ := ss_2.len;subst ls_2;unfold maxLen at ms_2;have Rs := Lib.hid hs; clear hs;have Ss_2 := Lib.hid ss_2; clear ss_2
 go_enter Tryz.func82, Tryz.ntmps82
 go_wp2_with fail
 first | refine name_wp ?_ ?_ ?_ | refine name_calls ?_ ?_ ?_
 exact (fun W => Ext w W ∧ Blk W (w.heap.size) 27 [.slice At_0 t.ases.length ct_0, .slice At_1 t.links.length ct_1] ∧ Blk W (w.heap.size + 1) 33 [I s.ts, I s.beta, .slice As_2 s.hops.length cs_2]);exact ⟨xe, xb, xb⟩;rintro w0 ⟨ew0, bt, bs⟩;have lt := bt.lt;obtain ⟨pt_0, pt_1⟩ := blk2 bt;have Bt := Lib.hid bt; clear bt;have ls := bs.lt;obtain ⟨ps_0, ps_1, ps_2⟩ := blk3 bs;have Bs := Lib.hid bs; clear bs;refine (impl_isAS _ _ (t) _ (by exact Rt.out.ext xe)).mono ?_;rintro e w1 ⟨rfl, ew1⟩;have bt := Bt.out.ext (w' := w1) xe;have lt := bt.lt;obtain ⟨pt_0, pt_1⟩ := blk2 bt;clear bt;have bs := Bs.out.ext (w' := w1) xe;have ls := bs.lt;obtain ⟨ps_0, ps_1, ps_2⟩ := blk3 bs;clear bs;cases h1 : isAs t r
 · have HF : Hid (canExt t s r inn = false) := by unfold Hid canExt; rw [h1]; rfl
   go_wp2_with fail
   go_ret
   exact ⟨ret_bool HF.out.symm, xe⟩
 have H1 := Lib.hid h1; clear h1;go_wp2_with fail
 refine (impl_ValidSegment _ _ (t) (s) _ (by exact Rt.out.ext xe) (by exact Rs.out.ext xe) xo).mono ?_;rintro e w2 ⟨rfl, ew2⟩;have bt := Bt.out.ext (w' := w2) xe;have lt := bt.lt;obtain ⟨pt_0, pt_1⟩ := blk2 bt;clear bt;have bs := Bs.out.ext (w' := w2) xe;have ls := bs.lt;obtain ⟨ps_0, ps_1, ps_2⟩ := blk3 bs;clear bs;cases h2 : validSeg t s
 · have HF : Hid (canExt t s r inn = false) := by unfold Hid canExt; rw [H1.out, h2]; rfl
   go_wp2_with fail
   go_ret
   exact ⟨ret_bool HF.out.symm, xe⟩
 obtain ⟨hl0, hl8⟩ := validSeg_len h2;have H2 := Lib.hid h2; clear h2;go_wp2_with fail
 refine (impl_IsTerminated _ (s) _ (by exact Rs.out.ext xe)).mono ?_;rintro e w3 ⟨rfl, ew3⟩;have bt := Bt.out.ext (w' := w3) xe;have lt := bt.lt;obtain ⟨pt_0, pt_1⟩ := blk2 bt;clear bt;have bs := Bs.out.ext (w' := w3) xe;have ls := bs.lt;obtain ⟨ps_0, ps_1, ps_2⟩ := blk3 bs;clear bs;cases h3 : isTerm s
 rotate_left
 · have HF : Hid (canExt t s r inn = false) := by unfold Hid canExt; rw [H1.out, H2.out, h3]; rfl
   go_wp2_with fail
   go_ret
   exact ⟨ret_bool HF.out.symm, xe⟩
 have H3 := Lib.hid h3; clear h3;go_wp2_with fail
 refine (impl_SegmentASes _ s _ (by exact Rs.out.ext xe) (by omega)).mono ?_;rintro e w4 ⟨v4, rfl, o4, ew4⟩;have R4 := Lib.hid (IntSO_rd o4); clear o4;have bt := Bt.out.ext (w' := w4) xe;have lt := bt.lt;obtain ⟨pt_0, pt_1⟩ := blk2 bt;clear bt;have bs := Bs.out.ext (w' := w4) xe;have ls := bs.lt;obtain ⟨ps_0, ps_1, ps_2⟩ := blk3 bs;clear bs;go_wp2_with fail
 refine (impl_hasInt _ r (ases s.hops) _ R4.out).mono ?_;rintro e w4b ⟨rfl, e4b⟩;subst e4b;cases h4 : hasI (ases s.hops) r
 rotate_left
 · have HF : Hid (canExt t s r inn = false) := by unfold Hid canExt; rw [H1.out, H2.out, H3.out, h4]; rfl
   go_wp2_with fail
   go_ret
   exact ⟨ret_bool HF.out.symm, xe⟩
 have H4 := Lib.hid h4; clear h4
 obtain ⟨m, hm⟩ : ∃ m, s.hops.length = m + 1 := ⟨s.hops.length - 1, by omega⟩
 have hml : m < s.hops.length := by omega
 obtain ⟨b, off, rfl, hb, hkl, hc⟩ := (Ss_2.out.ext (w' := w4) xe).at_ hml
 have HF : Hid (canExt t s r inn = ((remEnd t s.hops[m].asn s.hops[m].egr).1 == r && (remEnd t s.hops[m].asn s.hops[m].egr).2 == inn)) := by
  unfold Hid canExt lastHop;rw [H1.out, H2.out, H3.out, H4.out, show s.hops.length - 1 = m by omega, getD_is hml];rfl
 generalize s.hops[m] = x at *
 obtain ⟨hx_0, hx_1, hx_2, hx_3, hx_4⟩ := hc
 have e1 : (s.hops.length : Int) - 1 = (m : Int) := by omega
 have HM := Lib.hid hm; clear hm;go_wp2_with fail
 refine name_calls (fun W => Ext w4 W ∧ Blk W w4.heap.size 91 [I x.asn, I x.ing, I x.egr, I x.exp, I x.mac]) ⟨xe, xb⟩ ?_;rintro w5 ⟨ew5, bh⟩;refine (impl_RemoteEnd _ x.asn x.egr t _ (by exact Rt.out.ext xe)).mono ?_;rintro e w6 ⟨rfl, e6⟩
 generalize (remEnd t x.asn x.egr).1 = m1 at *
 generalize (remEnd t x.asn x.egr).2 = m2 at *
 by_cases hq : m1 = r
 · have d1 : (m1 == r) = true := beq_iff_eq.2 hq
   have HG : Hid (canExt t s r inn = (m2 == inn)) := by unfold Hid; rw [HF.out, d1]; rfl
   clear hq;go_wp2_with fail
   go_ret
   exact ⟨ret_bool HG.out.symm, xe⟩
 · have d1 : (m1 == r) = false := beq_eq_false_iff_ne.2 hq
   have HG : Hid (canExt t s r inn = false) := by unfold Hid; rw [HF.out, d1]; rfl
   clear hq;go_wp2_with fail
   go_ret
   exact ⟨ret_bool HG.out.symm, xe⟩
theorem spec_CanExtend (vt vs : Value) (r inn : Int) (t : DTopology) (s : DSegment) (w : World) (ht : TopologyV w.heap.size w vt t) (hs : SegmentV w.heap.size w vs s) (hn : s.hops.length ≤ 10000000) :
 Calls Tryz.prog 87 #[vt, vs, I r, I inn] w fun e w' => e = .returned (.bool (canExt t s r inn)) ∧ Ext w w' := by
 obtain ⟨At_0, nt_0, ct_0, At_1, nt_1, ct_1, rfl, st_0, st_1⟩ := id ht;obtain ⟨lt_0, kt_0, mt_0⟩ := st_0.len;subst lt_0;unfold maxLen at mt_0;obtain ⟨lt_1, kt_1, mt_1⟩ := st_1.len;subst lt_1;unfold maxLen at mt_1;have Rt := Lib.hid ht; clear ht;have St_0 := Lib.hid st_0; clear st_0;have St_1 := Lib.hid st_1; clear st_1;obtain ⟨As_2, ns_2, cs_2, rfl, ss_2⟩ := id hs;obtain ⟨ls_2, ks_2, ms_2⟩ := ss_2.len;subst ls_2;unfold maxLen at ms_2;have Rs := Lib.hid hs; clear hs;have Ss_2 := Lib.hid ss_2; clear ss_2
 go_enter Tryz.func87, Tryz.ntmps87
 go_wp2_with fail
 first | refine name_wp ?_ ?_ ?_ | refine name_calls ?_ ?_ ?_
 exact (fun W => Ext w W ∧ Blk W (w.heap.size) 27 [.slice At_0 t.ases.length ct_0, .slice At_1 t.links.length ct_1] ∧ Blk W (w.heap.size + 1) 33 [I s.ts, I s.beta, .slice As_2 s.hops.length cs_2]);exact ⟨xe, xb, xb⟩;rintro w0 ⟨ew0, bt, bs⟩;have lt := bt.lt;obtain ⟨pt_0, pt_1⟩ := blk2 bt;have Bt := Lib.hid bt; clear bt;have ls := bs.lt;obtain ⟨ps_0, ps_1, ps_2⟩ := blk3 bs;have Bs := Lib.hid bs; clear bs;refine (spec_l5Realm _ _ (t) _ (by exact Rt.out.ext xe)).mono ?_;rintro e w1 ⟨rfl, ew1⟩;have bt := Bt.out.ext (w' := w1) xe;have lt := bt.lt;obtain ⟨pt_0, pt_1⟩ := blk2 bt;clear bt;have bs := Bs.out.ext (w' := w1) xe;have ls := bs.lt;obtain ⟨ps_0, ps_1, ps_2⟩ := blk3 bs;clear bs;cases h1 : isAs t r
 · have HF : Hid (canExt t s r inn = false) := by unfold Hid canExt; rw [h1]; rfl
   go_wp2_with fail
   go_ret
   exact ⟨ret_bool HF.out.symm, xe⟩
 have H1 := Lib.hid h1; clear h1;go_wp2_with fail
 refine (spec_ValidSegment _ _ (t) (s) _ (by exact Rt.out.ext xe) (by exact Rs.out.ext xe) xo).mono ?_;rintro e w2 ⟨rfl, ew2⟩;have bt := Bt.out.ext (w' := w2) xe;have lt := bt.lt;obtain ⟨pt_0, pt_1⟩ := blk2 bt;clear bt;have bs := Bs.out.ext (w' := w2) xe;have ls := bs.lt;obtain ⟨ps_0, ps_1, ps_2⟩ := blk3 bs;clear bs;cases h2 : validSeg t s
 · have HF : Hid (canExt t s r inn = false) := by unfold Hid canExt; rw [H1.out, h2]; rfl
   go_wp2_with fail
   go_ret
   exact ⟨ret_bool HF.out.symm, xe⟩
 obtain ⟨hl0, hl8⟩ := validSeg_len h2;have H2 := Lib.hid h2; clear h2;go_wp2_with fail
 refine (spec_IsTerminated _ (s) _ (by exact Rs.out.ext xe)).mono ?_;rintro e w3 ⟨rfl, ew3⟩;have bt := Bt.out.ext (w' := w3) xe;have lt := bt.lt;obtain ⟨pt_0, pt_1⟩ := blk2 bt;clear bt;have bs := Bs.out.ext (w' := w3) xe;have ls := bs.lt;obtain ⟨ps_0, ps_1, ps_2⟩ := blk3 bs;clear bs;cases h3 : isTerm s
 rotate_left
 · have HF : Hid (canExt t s r inn = false) := by unfold Hid canExt; rw [H1.out, H2.out, h3]; rfl
   go_wp2_with fail
   go_ret
   exact ⟨ret_bool HF.out.symm, xe⟩
 have H3 := Lib.hid h3; clear h3;go_wp2_with fail
 refine (spec_SegmentASes _ s _ (by exact Rs.out.ext xe) (by omega)).mono ?_;rintro e w4 ⟨v4, rfl, o4, ew4⟩;have R4 := Lib.hid (IntSO_rd o4); clear o4;have bt := Bt.out.ext (w' := w4) xe;have lt := bt.lt;obtain ⟨pt_0, pt_1⟩ := blk2 bt;clear bt;have bs := Bs.out.ext (w' := w4) xe;have ls := bs.lt;obtain ⟨ps_0, ps_1, ps_2⟩ := blk3 bs;clear bs;go_wp2_with fail
 refine (spec_l9Has _ r (ases s.hops) _ R4.out).mono ?_;rintro e w4b ⟨rfl, e4b⟩;subst e4b;cases h4 : hasI (ases s.hops) r
 rotate_left
 · have HF : Hid (canExt t s r inn = false) := by unfold Hid canExt; rw [H1.out, H2.out, H3.out, h4]; rfl
   go_wp2_with fail
   go_ret
   exact ⟨ret_bool HF.out.symm, xe⟩
 have H4 := Lib.hid h4; clear h4
 obtain ⟨m, hm⟩ : ∃ m, s.hops.length = m + 1 := ⟨s.hops.length - 1, by omega⟩
 have hml : m < s.hops.length := by omega
 obtain ⟨b, off, rfl, hb, hkl, hc⟩ := (Ss_2.out.ext (w' := w4) xe).at_ hml
 have HF : Hid (canExt t s r inn = ((remEnd t s.hops[m].asn s.hops[m].egr).1 == r && (remEnd t s.hops[m].asn s.hops[m].egr).2 == inn)) := by
  unfold Hid canExt lastHop;rw [H1.out, H2.out, H3.out, H4.out, show s.hops.length - 1 = m by omega, getD_is hml];rfl
 generalize s.hops[m] = x at *
 obtain ⟨hx_0, hx_1, hx_2, hx_3, hx_4⟩ := hc
 have e1 : (s.hops.length : Int) - 1 = (m : Int) := by omega
 have HM := Lib.hid hm; clear hm;go_wp2_with fail
 refine name_calls (fun W => Ext w4 W ∧ Blk W w4.heap.size 91 [I x.asn, I x.ing, I x.egr, I x.exp, I x.mac]) ⟨xe, xb⟩ ?_;rintro w5 ⟨ew5, bh⟩;refine (spec_RemoteEnd _ x.asn x.egr t _ (by exact Rt.out.ext xe)).mono ?_;rintro e w6 ⟨rfl, e6⟩
 generalize (remEnd t x.asn x.egr).1 = m1 at *
 generalize (remEnd t x.asn x.egr).2 = m2 at *
 by_cases hq : m1 = r
 · have d1 : (m1 == r) = true := beq_iff_eq.2 hq
   have HG : Hid (canExt t s r inn = (m2 == inn)) := by unfold Hid; rw [HF.out, d1]; rfl
   clear hq;go_wp2_with fail
   go_ret
   exact ⟨ret_bool HG.out.symm, xe⟩
 · have d1 : (m1 == r) = false := beq_eq_false_iff_ne.2 hq
   have HG : Hid (canExt t s r inn = false) := by unfold Hid; rw [HF.out, d1]; rfl
   clear hq;go_wp2_with fail
   go_ret
   exact ⟨ret_bool HG.out.symm, xe⟩
theorem impl_Terminate (vt : Value) (p : DPolicy) (vs : Value) (r inn : Int) (t : DTopology) (s : DSegment) (w : World) (ht : TopologyV w.heap.size w vt t) (hs : SegmentV w.heap.size w vs s) (hn : s.hops.length ≤ 10000000) :
 Calls Tryz.prog 44 #[vt, .agg #[I p.maxLen, I p.denied, I p.closed, I p.life], vs, I r, I inn] w fun e w' => ∃ v', e = .returned (.tuple #[v', .bool (termOk t p s r inn)]) ∧ SegmentO w.heap.size w'.heap.size w' v' (termSeg t p s r inn) ∧ Ext w w' := by
 obtain ⟨At_0, nt_0, ct_0, At_1, nt_1, ct_1, rfl, st_0, st_1⟩ := id ht;obtain ⟨lt_0, kt_0, mt_0⟩ := st_0.len;subst lt_0;unfold maxLen at mt_0;obtain ⟨lt_1, kt_1, mt_1⟩ := st_1.len;subst lt_1;unfold maxLen at mt_1;have Rt := Lib.hid ht; clear ht;have St_0 := Lib.hid st_0; clear st_0;have St_1 := Lib.hid st_1; clear st_1;obtain ⟨As_2, ns_2, cs_2, rfl, ss_2⟩ := id hs;obtain ⟨ls_2, ks_2, ms_2⟩ := ss_2.len;subst ls_2;unfold maxLen at ms_2;have Rs := Lib.hid hs; clear hs;have Ss_2 := Lib.hid ss_2; clear ss_2
 go_enter Tryz.func44, Tryz.ntmps44
 go_wp2_with fail
 refine name_calls (fun W => Ext w W ∧ Blk W w.heap.size 27 [.slice At_0 t.ases.length ct_0, .slice At_1 t.links.length ct_1] ∧ Blk W (w.heap.size + 1) 82 [I p.maxLen, I p.denied, I p.closed, I p.life] ∧ Blk W (w.heap.size + 1 + 1) 33 [I s.ts, I s.beta, .slice As_2 s.hops.length cs_2] ∧ Blk W (w.heap.size + 1 + 1 + 1) 33 [I 0, I 0, .slice none 0 0]) ⟨xe, xb, xb, xb, xb⟩ ?_;rintro w0 ⟨ew0, bt, bp, bs, br⟩;have Bt := Lib.hid bt; have Bp := Lib.hid bp; have Bs := Lib.hid bs; have BR := Lib.hid br; clear bt bp bs br;have zr := BR.out.lt;refine (impl_CanExtend _ _ _ _ (t) (s) _ (by exact Rt.out.ext xe) (by exact Rs.out.ext xe) xo).mono ?_;rintro e w1 ⟨rfl, ew1⟩;have bt := Bt.out.ext (w' := w1) xe;have lt := bt.lt;obtain ⟨pt_0, pt_1⟩ := blk2 bt;clear bt;have bp := Bp.out.ext (w' := w1) xe;have lp := bp.lt;obtain ⟨pp_0, pp_1, pp_2, pp_3⟩ := blk4 bp;clear bp;have bs := Bs.out.ext (w' := w1) xe;have ls := bs.lt;obtain ⟨ps_0, ps_1, ps_2⟩ := blk3 bs;clear bs;cases h1 : canExt t s r inn
 · have HF : Hid (termOk t p s r inn = false) := by unfold Hid termOk; rw [h1]; rfl
   clear h1;go_wp2_with fail
   refine (impl_copySegment _ s _ (by exact Rs.out.ext xe) (by omega)).mono ?_;rintro e w8 ⟨v8, rfl, o8, e8⟩;obtain ⟨u8, hv8, oh8, -⟩ := o8;subst hv8;obtain ⟨a8, m8, q8, rfl⟩ := Own.slice oh8;have OH := Lib.hid oh8; clear oh8;have z8 := e8.size;have br := BR.out.ext (w' := w8) xe;have lbr := br.lt;obtain ⟨qbr_0, qbr_1, qbr_2⟩ := blk3 br;have fbr_0 := br.frozen 0;have fbr_1 := br.frozen 1;have fbr_2 := br.frozen 2;clear br;go_wp2_with fail
   have h9 : w.heap.size ≤ w1.heap.size := Ext.size xe;have h8 : w0.heap.size ≤ w1.heap.size := Ext.size xe;refine bodyPost_ret (v := .tuple #[.agg #[I s.ts, I s.beta, .slice a8 m8 q8], .bool false]) (by simp [results, Tryz.results44, go_sem, *]) rfl ⟨_, by rw [HF.out], ?_, xe⟩;unfold termSeg;rw [HF.out, if_neg (by decide)]
   (try simp only [World.size_setCell])
   exact ⟨_, rfl, Own.more (lo := w1.heap.size) (hi := w8.heap.size) (xw OH.out) (by omega) (by omega), by omega⟩
 have HAS := Lib.hid (canExt_as h1);have H1 := Lib.hid h1; clear h1;go_wp2_with fail
 refine (impl_Allows (p) _ _ (s) _ (by exact Rs.out.ext xe) xo).mono ?_;rintro e w2 ⟨rfl, ew2⟩;have bt := Bt.out.ext (w' := w2) xe;have lt := bt.lt;obtain ⟨pt_0, pt_1⟩ := blk2 bt;clear bt;have bp := Bp.out.ext (w' := w2) xe;have lp := bp.lt;obtain ⟨pp_0, pp_1, pp_2, pp_3⟩ := blk4 bp;clear bp;have bs := Bs.out.ext (w' := w2) xe;have ls := bs.lt;obtain ⟨ps_0, ps_1, ps_2⟩ := blk3 bs;clear bs;cases h2 : allows p s 0
 · have HF : Hid (termOk t p s r inn = false) := by unfold Hid termOk; rw [H1.out, h2]; rfl
   clear h2;go_wp2_with fail
   refine (impl_copySegment _ s _ (by exact Rs.out.ext xe) (by omega)).mono ?_;rintro e w8 ⟨v8, rfl, o8, e8⟩;obtain ⟨u8, hv8, oh8, -⟩ := o8;subst hv8;obtain ⟨a8, m8, q8, rfl⟩ := Own.slice oh8;have OH := Lib.hid oh8; clear oh8;have z8 := e8.size;have br := BR.out.ext (w' := w8) xe;have lbr := br.lt;obtain ⟨qbr_0, qbr_1, qbr_2⟩ := blk3 br;have fbr_0 := br.frozen 0;have fbr_1 := br.frozen 1;have fbr_2 := br.frozen 2;clear br;go_wp2_with fail
   have h9 : w.heap.size ≤ w2.heap.size := Ext.size xe;have h8 : w0.heap.size ≤ w2.heap.size := Ext.size xe;refine bodyPost_ret (v := .tuple #[.agg #[I s.ts, I s.beta, .slice a8 m8 q8], .bool false]) (by simp [results, Tryz.results44, go_sem, *]) rfl ⟨_, by rw [HF.out], ?_, xe⟩;unfold termSeg;rw [HF.out, if_neg (by decide)]
   (try simp only [World.size_setCell])
   exact ⟨_, rfl, Own.more (lo := w2.heap.size) (hi := w8.heap.size) (xw OH.out) (by omega) (by omega), by omega⟩
 have HF : Hid (termOk t p s r inn = true) := by unfold Hid termOk; rw [H1.out, h2]; rfl
 clear h2;go_wp2_with fail
 refine (impl_grown _ p _ r inn 0 t s _ (by exact Rt.out.ext xe) (by exact Rs.out.ext xe) HAS.out (by omega)).mono ?_;rintro e w8 ⟨v8, rfl, o8, e8⟩;obtain ⟨u8, hv8, oh8, -⟩ := o8;have hv8 : v8 = .agg #[I s.ts, I s.beta, u8] := hv8;subst hv8;obtain ⟨a8, m8, q8, rfl⟩ := Own.slice oh8;have OH := Lib.hid oh8; clear oh8;have z8 := e8.size;have br := BR.out.ext (w' := w8) xe;have lbr := br.lt;obtain ⟨qbr_0, qbr_1, qbr_2⟩ := blk3 br;have fbr_0 := br.frozen 0;have fbr_1 := br.frozen 1;have fbr_2 := br.frozen 2;clear br;go_wp2_with fail
 have h9 : w.heap.size ≤ w2.heap.size := Ext.size xe;have h8 : w0.heap.size ≤ w2.heap.size := Ext.size xe;refine bodyPost_ret (v := .tuple #[.agg #[I s.ts, I s.beta, .slice a8 m8 q8], .bool true]) (by simp [results, Tryz.results44, go_sem, *]) rfl ⟨_, by rw [HF.out], ?_, xe⟩;unfold termSeg;rw [HF.out, if_pos rfl]
 (try simp only [World.size_setCell])
 exact ⟨_, rfl, Own.more (lo := w2.heap.size) (hi := w8.heap.size) (xw OH.out) (by omega) (by omega), by omega⟩
theorem spec_Terminate (vt : Value) (p : DPolicy) (vs : Value) (r inn : Int) (t : DTopology) (s : DSegment) (w : World) (ht : TopologyV w.heap.size w vt t) (hs : SegmentV w.heap.size w vs s) (hn : s.hops.length ≤ 10000000) :
 Calls Tryz.prog 46 #[vt, .agg #[I p.maxLen, I p.denied, I p.closed, I p.life], vs, I r, I inn] w fun e w' => ∃ v', e = .returned (.tuple #[v', .bool (termOk t p s r inn)]) ∧ SegmentO w.heap.size w'.heap.size w' v' (termSeg t p s r inn) ∧ Ext w w' := by
 obtain ⟨At_0, nt_0, ct_0, At_1, nt_1, ct_1, rfl, st_0, st_1⟩ := id ht;obtain ⟨lt_0, kt_0, mt_0⟩ := st_0.len;subst lt_0;unfold maxLen at mt_0;obtain ⟨lt_1, kt_1, mt_1⟩ := st_1.len;subst lt_1;unfold maxLen at mt_1;have Rt := Lib.hid ht; clear ht;have St_0 := Lib.hid st_0; clear st_0;have St_1 := Lib.hid st_1; clear st_1;obtain ⟨As_2, ns_2, cs_2, rfl, ss_2⟩ := id hs;obtain ⟨ls_2, ks_2, ms_2⟩ := ss_2.len;subst ls_2;unfold maxLen at ms_2;have Rs := Lib.hid hs; clear hs;have Ss_2 := Lib.hid ss_2; clear ss_2
 go_enter Tryz.func46, Tryz.ntmps46
 go_wp2_with fail
 refine name_calls (fun W => Ext w W ∧ Blk W w.heap.size 27 [.slice At_0 t.ases.length ct_0, .slice At_1 t.links.length ct_1] ∧ Blk W (w.heap.size + 1) 82 [I p.maxLen, I p.denied, I p.closed, I p.life] ∧ Blk W (w.heap.size + 1 + 1) 33 [I s.ts, I s.beta, .slice As_2 s.hops.length cs_2] ∧ Blk W (w.heap.size + 1 + 1 + 1) 33 [I 0, I 0, .slice none 0 0]) ⟨xe, xb, xb, xb, xb⟩ ?_;rintro w0 ⟨ew0, bt, bp, bs, br⟩;have Bt := Lib.hid bt; have Bp := Lib.hid bp; have Bs := Lib.hid bs; have BR := Lib.hid br; clear bt bp bs br;have zr := BR.out.lt;refine (spec_CanExtend _ _ _ _ (t) (s) _ (by exact Rt.out.ext xe) (by exact Rs.out.ext xe) xo).mono ?_;rintro e w1 ⟨rfl, ew1⟩;have bt := Bt.out.ext (w' := w1) xe;have lt := bt.lt;obtain ⟨pt_0, pt_1⟩ := blk2 bt;clear bt;have bp := Bp.out.ext (w' := w1) xe;have lp := bp.lt;obtain ⟨pp_0, pp_1, pp_2, pp_3⟩ := blk4 bp;clear bp;have bs := Bs.out.ext (w' := w1) xe;have ls := bs.lt;obtain ⟨ps_0, ps_1, ps_2⟩ := blk3 bs;clear bs;cases h1 : canExt t s r inn
 · have HF : Hid (termOk t p s r inn = false) := by unfold Hid termOk; rw [h1]; rfl
   clear h1;go_wp2_with fail
   refine (spec_l9Copy _ s _ (by exact Rs.out.ext xe) (by omega)).mono ?_;rintro e w8 ⟨v8, rfl, o8, e8⟩;obtain ⟨u8, hv8, oh8, -⟩ := o8;subst hv8;obtain ⟨a8, m8, q8, rfl⟩ := Own.slice oh8;have OH := Lib.hid oh8; clear oh8;have z8 := e8.size;have br := BR.out.ext (w' := w8) xe;have lbr := br.lt;obtain ⟨qbr_0, qbr_1, qbr_2⟩ := blk3 br;have fbr_0 := br.frozen 0;have fbr_1 := br.frozen 1;have fbr_2 := br.frozen 2;clear br;go_wp2_with fail
   have h9 : w.heap.size ≤ w1.heap.size := Ext.size xe;have h8 : w0.heap.size ≤ w1.heap.size := Ext.size xe;refine bodyPost_ret (v := .tuple #[.agg #[I s.ts, I s.beta, .slice a8 m8 q8], .bool false]) (by simp [results, Tryz.results46, go_sem, *]) rfl ⟨_, by rw [HF.out], ?_, xe⟩;unfold termSeg;rw [HF.out, if_neg (by decide)]
   (try simp only [World.size_setCell])
   exact ⟨_, rfl, Own.more (lo := w1.heap.size) (hi := w8.heap.size) (xw OH.out) (by omega) (by omega), by omega⟩
 have HAS := Lib.hid (canExt_as h1);have H1 := Lib.hid h1; clear h1;go_wp2_with fail
 refine (spec_Allows (p) _ _ (s) _ (by exact Rs.out.ext xe) xo).mono ?_;rintro e w2 ⟨rfl, ew2⟩;have bt := Bt.out.ext (w' := w2) xe;have lt := bt.lt;obtain ⟨pt_0, pt_1⟩ := blk2 bt;clear bt;have bp := Bp.out.ext (w' := w2) xe;have lp := bp.lt;obtain ⟨pp_0, pp_1, pp_2, pp_3⟩ := blk4 bp;clear bp;have bs := Bs.out.ext (w' := w2) xe;have ls := bs.lt;obtain ⟨ps_0, ps_1, ps_2⟩ := blk3 bs;clear bs;cases h2 : allows p s 0
 · have HF : Hid (termOk t p s r inn = false) := by unfold Hid termOk; rw [H1.out, h2]; rfl
   clear h2;go_wp2_with fail
   refine (spec_l9Copy _ s _ (by exact Rs.out.ext xe) (by omega)).mono ?_;rintro e w8 ⟨v8, rfl, o8, e8⟩;obtain ⟨u8, hv8, oh8, -⟩ := o8;subst hv8;obtain ⟨a8, m8, q8, rfl⟩ := Own.slice oh8;have OH := Lib.hid oh8; clear oh8;have z8 := e8.size;have br := BR.out.ext (w' := w8) xe;have lbr := br.lt;obtain ⟨qbr_0, qbr_1, qbr_2⟩ := blk3 br;have fbr_0 := br.frozen 0;have fbr_1 := br.frozen 1;have fbr_2 := br.frozen 2;clear br;go_wp2_with fail
   have h9 : w.heap.size ≤ w2.heap.size := Ext.size xe;have h8 : w0.heap.size ≤ w2.heap.size := Ext.size xe;refine bodyPost_ret (v := .tuple #[.agg #[I s.ts, I s.beta, .slice a8 m8 q8], .bool false]) (by simp [results, Tryz.results46, go_sem, *]) rfl ⟨_, by rw [HF.out], ?_, xe⟩;unfold termSeg;rw [HF.out, if_neg (by decide)]
   (try simp only [World.size_setCell])
   exact ⟨_, rfl, Own.more (lo := w2.heap.size) (hi := w8.heap.size) (xw OH.out) (by omega) (by omega), by omega⟩
 have HF : Hid (termOk t p s r inn = true) := by unfold Hid termOk; rw [H1.out, h2]; rfl
 clear h2;go_wp2_with fail
 refine (spec_l13Add _ p _ r inn 0 t s _ (by exact Rt.out.ext xe) (by exact Rs.out.ext xe) HAS.out (by omega)).mono ?_;rintro e w8 ⟨v8, rfl, o8, e8⟩;obtain ⟨u8, hv8, oh8, -⟩ := o8;have hv8 : v8 = .agg #[I s.ts, I s.beta, u8] := hv8;subst hv8;obtain ⟨a8, m8, q8, rfl⟩ := Own.slice oh8;have OH := Lib.hid oh8; clear oh8;have z8 := e8.size;have br := BR.out.ext (w' := w8) xe;have lbr := br.lt;obtain ⟨qbr_0, qbr_1, qbr_2⟩ := blk3 br;have fbr_0 := br.frozen 0;have fbr_1 := br.frozen 1;have fbr_2 := br.frozen 2;clear br;go_wp2_with fail
 have h9 : w.heap.size ≤ w2.heap.size := Ext.size xe;have h8 : w0.heap.size ≤ w2.heap.size := Ext.size xe;refine bodyPost_ret (v := .tuple #[.agg #[I s.ts, I s.beta, .slice a8 m8 q8], .bool true]) (by simp [results, Tryz.results46, go_sem, *]) rfl ⟨_, by rw [HF.out], ?_, xe⟩;unfold termSeg;rw [HF.out, if_pos rfl]
 (try simp only [World.size_setCell])
 exact ⟨_, rfl, Own.more (lo := w2.heap.size) (hi := w8.heap.size) (xw OH.out) (by omega) (by omega), by omega⟩
theorem spec_Extend (vt : Value) (p : DPolicy) (vs : Value) (r inn out : Int) (t : DTopology) (s : DSegment) (w : World) (ht : TopologyV w.heap.size w vt t) (hs : SegmentV w.heap.size w vs s) (hn : s.hops.length ≤ 10000000) :
 Calls Tryz.prog 146 #[vt, .agg #[I p.maxLen, I p.denied, I p.closed, I p.life], vs, I r, I inn, I out] w fun e w' => ∃ v', e = .returned (.tuple #[v', .bool (extOk t p s r inn out)]) ∧ SegmentO w.heap.size w'.heap.size w' v' (extSeg t p s r inn out) ∧ Ext w w' := by
 obtain ⟨At_0, nt_0, ct_0, At_1, nt_1, ct_1, rfl, st_0, st_1⟩ := id ht;obtain ⟨lt_0, kt_0, mt_0⟩ := st_0.len;subst lt_0;unfold maxLen at mt_0;obtain ⟨lt_1, kt_1, mt_1⟩ := st_1.len;subst lt_1;unfold maxLen at mt_1;have Rt := Lib.hid ht; clear ht;have St_0 := Lib.hid st_0; clear st_0;have St_1 := Lib.hid st_1; clear st_1;obtain ⟨As_2, ns_2, cs_2, rfl, ss_2⟩ := id hs;obtain ⟨ls_2, ks_2, ms_2⟩ := ss_2.len;subst ls_2;unfold maxLen at ms_2;have Rs := Lib.hid hs; clear hs;have Ss_2 := Lib.hid ss_2; clear ss_2
 go_enter Tryz.func146, Tryz.ntmps146
 go_wp2_with fail
 refine name_calls (fun W => Ext w W ∧ Blk W w.heap.size 27 [.slice At_0 t.ases.length ct_0, .slice At_1 t.links.length ct_1] ∧ Blk W (w.heap.size + 1) 82 [I p.maxLen, I p.denied, I p.closed, I p.life] ∧ Blk W (w.heap.size + 1 + 1) 33 [I s.ts, I s.beta, .slice As_2 s.hops.length cs_2] ∧ Blk W (w.heap.size + 1 + 1 + 1) 33 [I 0, I 0, .slice none 0 0]) ⟨xe, xb, xb, xb, xb⟩ ?_;rintro w0 ⟨ew0, bt, bp, bs, br⟩;have Bt := Lib.hid bt; have Bp := Lib.hid bp; have Bs := Lib.hid bs; have BR := Lib.hid br; clear bt bp bs br;have zr := BR.out.lt;refine (spec_CanExtend _ _ _ _ (t) (s) _ (by exact Rt.out.ext xe) (by exact Rs.out.ext xe) xo).mono ?_;rintro e w1 ⟨rfl, ew1⟩;have bt := Bt.out.ext (w' := w1) xe;have lt := bt.lt;obtain ⟨pt_0, pt_1⟩ := blk2 bt;clear bt;have bp := Bp.out.ext (w' := w1) xe;have lp := bp.lt;obtain ⟨pp_0, pp_1, pp_2, pp_3⟩ := blk4 bp;clear bp;have bs := Bs.out.ext (w' := w1) xe;have ls := bs.lt;obtain ⟨ps_0, ps_1, ps_2⟩ := blk3 bs;clear bs;cases h1 : canExt t s r inn
 · have HF : Hid (extOk t p s r inn out = false) := by unfold Hid extOk; rw [h1]; rfl
   clear h1;go_wp2_with fail
   refine (spec_l9Copy _ s _ (by exact Rs.out.ext xe) (by omega)).mono ?_;rintro e w8 ⟨v8, rfl, o8, e8⟩;obtain ⟨u8, hv8, oh8, -⟩ := o8;subst hv8;obtain ⟨a8, m8, q8, rfl⟩ := Own.slice oh8;have OH := Lib.hid oh8; clear oh8;have z8 := e8.size;have br := BR.out.ext (w' := w8) xe;have lbr := br.lt;obtain ⟨qbr_0, qbr_1, qbr_2⟩ := blk3 br;have fbr_0 := br.frozen 0;have fbr_1 := br.frozen 1;have fbr_2 := br.frozen 2;clear br;go_wp2_with fail
   have h9 : w.heap.size ≤ w1.heap.size := Ext.size xe;have h8 : w0.heap.size ≤ w1.heap.size := Ext.size xe;refine bodyPost_ret (v := .tuple #[.agg #[I s.ts, I s.beta, .slice a8 m8 q8], .bool false]) (by simp [results, Tryz.results146, go_sem, *]) rfl ⟨_, by rw [HF.out], ?_, xe⟩;unfold extSeg;rw [HF.out, if_neg (by decide)]
   (try simp only [World.size_setCell])
   exact ⟨_, rfl, Own.more (lo := w1.heap.size) (hi := w8.heap.size) (xw OH.out) (by omega) (by omega), by omega⟩
 have HAS := Lib.hid (canExt_as h1);have HKD := Lib.hid (validSeg_kind (canExt_valid h1));have H1 := Lib.hid h1; clear h1;go_wp2_with fail
 refine (spec_l1In _ _ _ _).mono ?_;rintro e w1b ⟨rfl, rfl⟩;cases h2 : inR out 1 6
 · have HF : Hid (extOk t p s r inn out = false) := by unfold Hid extOk; rw [H1.out, h2]; rfl
   clear h2;go_wp2_with fail
   refine (spec_l9Copy _ s _ (by exact Rs.out.ext xe) (by omega)).mono ?_;rintro e w8 ⟨v8, rfl, o8, e8⟩;obtain ⟨u8, hv8, oh8, -⟩ := o8;subst hv8;obtain ⟨a8, m8, q8, rfl⟩ := Own.slice oh8;have OH := Lib.hid oh8; clear oh8;have z8 := e8.size;have br := BR.out.ext (w' := w8) xe;have lbr := br.lt;obtain ⟨qbr_0, qbr_1, qbr_2⟩ := blk3 br;have fbr_0 := br.frozen 0;have fbr_1 := br.frozen 1;have fbr_2 := br.frozen 2;clear br;go_wp2_with fail
   have h9 : w.heap.size ≤ w1.heap.size := Ext.size xe;have h8 : w0.heap.size ≤ w1.heap.size := Ext.size xe;refine bodyPost_ret (v := .tuple #[.agg #[I s.ts, I s.beta, .slice a8 m8 q8], .bool false]) (by simp [results, Tryz.results146, go_sem, *]) rfl ⟨_, by rw [HF.out], ?_, xe⟩;unfold extSeg;rw [HF.out, if_neg (by decide)]
   (try simp only [World.size_setCell])
   exact ⟨_, rfl, Own.more (lo := w1.heap.size) (hi := w8.heap.size) (xw OH.out) (by omega) (by omega), by omega⟩
 have H2 := Lib.hid h2; clear h2;by_cases h3 : out = inn
 · have HF : Hid (extOk t p s r inn out = false) := by unfold Hid extOk; rw [H1.out, H2.out, show (out != inn) = false from by simp [h3]]; rfl
   have d3 : (out == inn) = true := beq_iff_eq.2 h3;clear h3;go_wp2_with fail
   refine (spec_l9Copy _ s _ (by exact Rs.out.ext xe) (by omega)).mono ?_;rintro e w8 ⟨v8, rfl, o8, e8⟩;obtain ⟨u8, hv8, oh8, -⟩ := o8;subst hv8;obtain ⟨a8, m8, q8, rfl⟩ := Own.slice oh8;have OH := Lib.hid oh8; clear oh8;have z8 := e8.size;have br := BR.out.ext (w' := w8) xe;have lbr := br.lt;obtain ⟨qbr_0, qbr_1, qbr_2⟩ := blk3 br;have fbr_0 := br.frozen 0;have fbr_1 := br.frozen 1;have fbr_2 := br.frozen 2;clear br;go_wp2_with fail
   have h9 : w.heap.size ≤ w1.heap.size := Ext.size xe;have h8 : w0.heap.size ≤ w1.heap.size := Ext.size xe;refine bodyPost_ret (v := .tuple #[.agg #[I s.ts, I s.beta, .slice a8 m8 q8], .bool false]) (by simp [results, Tryz.results146, go_sem, *]) rfl ⟨_, by rw [HF.out], ?_, xe⟩;unfold extSeg;rw [HF.out, if_neg (by decide)]
   (try simp only [World.size_setCell])
   exact ⟨_, rfl, Own.more (lo := w1.heap.size) (hi := w8.heap.size) (xw OH.out) (by omega) (by omega), by omega⟩
 have H3 : Hid ((out != inn) = true) := bne_iff_ne.2 h3;have d3 : (out == inn) = false := beq_eq_false_iff_ne.2 h3;clear h3;go_wp2_with fail
 clear d3;refine (spec_Allows (p) _ _ (s) _ (by exact Rs.out.ext xe) xo).mono ?_;rintro e w2 ⟨rfl, ew2⟩;have bt := Bt.out.ext (w' := w2) xe;have lt := bt.lt;obtain ⟨pt_0, pt_1⟩ := blk2 bt;clear bt;have bp := Bp.out.ext (w' := w2) xe;have lp := bp.lt;obtain ⟨pp_0, pp_1, pp_2, pp_3⟩ := blk4 bp;clear bp;have bs := Bs.out.ext (w' := w2) xe;have ls := bs.lt;obtain ⟨ps_0, ps_1, ps_2⟩ := blk3 bs;clear bs;cases h4 : allows p s out
 · have HF : Hid (extOk t p s r inn out = false) := by unfold Hid extOk; rw [H1.out, H2.out, H3.out, h4]; rfl
   clear h4;go_wp2_with fail
   refine (spec_l9Copy _ s _ (by exact Rs.out.ext xe) (by omega)).mono ?_;rintro e w8 ⟨v8, rfl, o8, e8⟩;obtain ⟨u8, hv8, oh8, -⟩ := o8;subst hv8;obtain ⟨a8, m8, q8, rfl⟩ := Own.slice oh8;have OH := Lib.hid oh8; clear oh8;have z8 := e8.size;have br := BR.out.ext (w' := w8) xe;have lbr := br.lt;obtain ⟨qbr_0, qbr_1, qbr_2⟩ := blk3 br;have fbr_0 := br.frozen 0;have fbr_1 := br.frozen 1;have fbr_2 := br.frozen 2;clear br;go_wp2_with fail
   have h9 : w.heap.size ≤ w2.heap.size := Ext.size xe;have h8 : w0.heap.size ≤ w2.heap.size := Ext.size xe;refine bodyPost_ret (v := .tuple #[.agg #[I s.ts, I s.beta, .slice a8 m8 q8], .bool false]) (by simp [results, Tryz.results146, go_sem, *]) rfl ⟨_, by rw [HF.out], ?_, xe⟩;unfold extSeg;rw [HF.out, if_neg (by decide)]
   (try simp only [World.size_setCell])
   exact ⟨_, rfl, Own.more (lo := w2.heap.size) (hi := w8.heap.size) (xw OH.out) (by omega) (by omega), by omega⟩
 have HF4 : Hid (extOk t p s r inn out = (ifKind t r out == extWant t s)) := by unfold Hid extOk; rw [H1.out, H2.out, H3.out, h4]; rfl
 clear h4;go_wp2_with fail
 refine (spec_SegmentKind _ _ (t) (s) _ (by exact Rt.out.ext xe) (by exact Rs.out.ext xe) xo).mono ?_;rintro e w3 ⟨rfl, ew3⟩;have bt := Bt.out.ext (w' := w3) xe;have lt := bt.lt;obtain ⟨pt_0, pt_1⟩ := blk2 bt;clear bt;have bp := Bp.out.ext (w' := w3) xe;have lp := bp.lt;obtain ⟨pp_0, pp_1, pp_2, pp_3⟩ := blk4 bp;clear bp;have bs := Bs.out.ext (w' := w3) xe;have ls := bs.lt;obtain ⟨ps_0, ps_1, ps_2⟩ := blk3 bs;clear bs
 rcases HKD.out with hk | hk
 · have HF5 : Hid (extOk t p s r inn out = (ifKind t r out == 1)) := by unfold Hid; rw [HF4.out]; unfold extWant; rw [hk]; rfl
   rw [hk];clear hk;go_wp2_with fail
   refine (spec_InterfaceKind _ _ _ (t) _ (by exact Rt.out.ext xe)).mono ?_;rintro e w4 ⟨rfl, ew4⟩;have bt := Bt.out.ext (w' := w4) xe;have lt := bt.lt;obtain ⟨pt_0, pt_1⟩ := blk2 bt;clear bt;have bp := Bp.out.ext (w' := w4) xe;have lp := bp.lt;obtain ⟨pp_0, pp_1, pp_2, pp_3⟩ := blk4 bp;clear bp;have bs := Bs.out.ext (w' := w4) xe;have ls := bs.lt;obtain ⟨ps_0, ps_1, ps_2⟩ := blk3 bs;clear bs
   generalize ifKind t r out = kd at *
   by_cases hq : kd = 1
   · have HF : Hid (extOk t p s r inn out = true) := by unfold Hid; rw [HF5.out, hq]; rfl
     subst hq;go_wp2_with fail
     refine (spec_l13Add _ p _ r inn out t s _ (by exact Rt.out.ext xe) (by exact Rs.out.ext xe) HAS.out (by omega)).mono ?_;rintro e w8 ⟨v8, rfl, o8, e8⟩;obtain ⟨u8, hv8, oh8, -⟩ := o8;have hv8 : v8 = .agg #[I s.ts, I s.beta, u8] := hv8;subst hv8;obtain ⟨a8, m8, q8, rfl⟩ := Own.slice oh8;have OH := Lib.hid oh8; clear oh8;have z8 := e8.size;have br := BR.out.ext (w' := w8) xe;have lbr := br.lt;obtain ⟨qbr_0, qbr_1, qbr_2⟩ := blk3 br;have fbr_0 := br.frozen 0;have fbr_1 := br.frozen 1;have fbr_2 := br.frozen 2;clear br;go_wp2_with fail
     have h9 : w.heap.size ≤ w4.heap.size := Ext.size xe;have h8 : w0.heap.size ≤ w4.heap.size := Ext.size xe;refine bodyPost_ret (v := .tuple #[.agg #[I s.ts, I s.beta, .slice a8 m8 q8], .bool true]) (by simp [results, Tryz.results146, go_sem, *]) rfl ⟨_, by rw [HF.out], ?_, xe⟩;unfold extSeg;rw [HF.out, if_pos rfl]
     (try simp only [World.size_setCell])
     exact ⟨_, rfl, Own.more (lo := w4.heap.size) (hi := w8.heap.size) (xw OH.out) (by omega) (by omega), by omega⟩
   · have HF : Hid (extOk t p s r inn out = false) := by unfold Hid; rw [HF5.out]; exact beq_eq_false_iff_ne.2 hq
     have dq : (kd != 1) = true := bne_iff_ne.2 hq;clear hq;go_wp2_with fail
     refine (spec_l9Copy _ s _ (by exact Rs.out.ext xe) (by omega)).mono ?_;rintro e w8 ⟨v8, rfl, o8, e8⟩;obtain ⟨u8, hv8, oh8, -⟩ := o8;subst hv8;obtain ⟨a8, m8, q8, rfl⟩ := Own.slice oh8;have OH := Lib.hid oh8; clear oh8;have z8 := e8.size;have br := BR.out.ext (w' := w8) xe;have lbr := br.lt;obtain ⟨qbr_0, qbr_1, qbr_2⟩ := blk3 br;have fbr_0 := br.frozen 0;have fbr_1 := br.frozen 1;have fbr_2 := br.frozen 2;clear br;go_wp2_with fail
     have h9 : w.heap.size ≤ w4.heap.size := Ext.size xe;have h8 : w0.heap.size ≤ w4.heap.size := Ext.size xe;refine bodyPost_ret (v := .tuple #[.agg #[I s.ts, I s.beta, .slice a8 m8 q8], .bool false]) (by simp [results, Tryz.results146, go_sem, *]) rfl ⟨_, by rw [HF.out], ?_, xe⟩;unfold extSeg;rw [HF.out, if_neg (by decide)]
     (try simp only [World.size_setCell])
     exact ⟨_, rfl, Own.more (lo := w4.heap.size) (hi := w8.heap.size) (xw OH.out) (by omega) (by omega), by omega⟩
 · have HF5 : Hid (extOk t p s r inn out = (ifKind t r out == 2)) := by unfold Hid; rw [HF4.out]; unfold extWant; rw [hk]; rfl
   rw [hk];clear hk;go_wp2_with fail
   refine (spec_InterfaceKind _ _ _ (t) _ (by exact Rt.out.ext xe)).mono ?_;rintro e w4 ⟨rfl, ew4⟩;have bt := Bt.out.ext (w' := w4) xe;have lt := bt.lt;obtain ⟨pt_0, pt_1⟩ := blk2 bt;clear bt;have bp := Bp.out.ext (w' := w4) xe;have lp := bp.lt;obtain ⟨pp_0, pp_1, pp_2, pp_3⟩ := blk4 bp;clear bp;have bs := Bs.out.ext (w' := w4) xe;have ls := bs.lt;obtain ⟨ps_0, ps_1, ps_2⟩ := blk3 bs;clear bs
   generalize ifKind t r out = kd at *
   by_cases hq : kd = 2
   · have HF : Hid (extOk t p s r inn out = true) := by unfold Hid; rw [HF5.out, hq]; rfl
     subst hq;go_wp2_with fail
     refine (spec_l13Add _ p _ r inn out t s _ (by exact Rt.out.ext xe) (by exact Rs.out.ext xe) HAS.out (by omega)).mono ?_;rintro e w8 ⟨v8, rfl, o8, e8⟩;obtain ⟨u8, hv8, oh8, -⟩ := o8;have hv8 : v8 = .agg #[I s.ts, I s.beta, u8] := hv8;subst hv8;obtain ⟨a8, m8, q8, rfl⟩ := Own.slice oh8;have OH := Lib.hid oh8; clear oh8;have z8 := e8.size;have br := BR.out.ext (w' := w8) xe;have lbr := br.lt;obtain ⟨qbr_0, qbr_1, qbr_2⟩ := blk3 br;have fbr_0 := br.frozen 0;have fbr_1 := br.frozen 1;have fbr_2 := br.frozen 2;clear br;go_wp2_with fail
     have h9 : w.heap.size ≤ w4.heap.size := Ext.size xe;have h8 : w0.heap.size ≤ w4.heap.size := Ext.size xe;refine bodyPost_ret (v := .tuple #[.agg #[I s.ts, I s.beta, .slice a8 m8 q8], .bool true]) (by simp [results, Tryz.results146, go_sem, *]) rfl ⟨_, by rw [HF.out], ?_, xe⟩;unfold extSeg;rw [HF.out, if_pos rfl]
     (try simp only [World.size_setCell])
     exact ⟨_, rfl, Own.more (lo := w4.heap.size) (hi := w8.heap.size) (xw OH.out) (by omega) (by omega), by omega⟩
   · have HF : Hid (extOk t p s r inn out = false) := by unfold Hid; rw [HF5.out]; exact beq_eq_false_iff_ne.2 hq
     have dq : (kd != 2) = true := bne_iff_ne.2 hq;clear hq;go_wp2_with fail
     refine (spec_l9Copy _ s _ (by exact Rs.out.ext xe) (by omega)).mono ?_;rintro e w8 ⟨v8, rfl, o8, e8⟩;obtain ⟨u8, hv8, oh8, -⟩ := o8;subst hv8;obtain ⟨a8, m8, q8, rfl⟩ := Own.slice oh8;have OH := Lib.hid oh8; clear oh8;have z8 := e8.size;have br := BR.out.ext (w' := w8) xe;have lbr := br.lt;obtain ⟨qbr_0, qbr_1, qbr_2⟩ := blk3 br;have fbr_0 := br.frozen 0;have fbr_1 := br.frozen 1;have fbr_2 := br.frozen 2;clear br;go_wp2_with fail
     have h9 : w.heap.size ≤ w4.heap.size := Ext.size xe;have h8 : w0.heap.size ≤ w4.heap.size := Ext.size xe;refine bodyPost_ret (v := .tuple #[.agg #[I s.ts, I s.beta, .slice a8 m8 q8], .bool false]) (by simp [results, Tryz.results146, go_sem, *]) rfl ⟨_, by rw [HF.out], ?_, xe⟩;unfold extSeg;rw [HF.out, if_neg (by decide)]
     (try simp only [World.size_setCell])
     exact ⟨_, rfl, Own.more (lo := w4.heap.size) (hi := w8.heap.size) (xw OH.out) (by omega) (by omega), by omega⟩
end Go.Proofs.YtmopmgaeiokfjaaGreat
