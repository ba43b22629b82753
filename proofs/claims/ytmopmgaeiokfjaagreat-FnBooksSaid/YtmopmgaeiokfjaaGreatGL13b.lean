/- Contracts of the program's and the reference's functions that make segments: grown, Originate. -/
import Derived.Test.YtmopmgaeiokfjaaGreatGL13
import Derived.Test.YtmopmgaeiokfjaaGreatGHS
import Derived.Test.YtmopmgaeiokfjaaGreatGGrow
set_option maxRecDepth 100000
set_option maxHeartbeats 1000000
namespace Go.Proofs.YtmopmgaeiokfjaaGreat
open Go.RowKit
set_option linter.unusedVariables false
def newHop (t : DTopology) (p : DPolicy) (s : DSegment) (r inn out : Int) : DHop := authHop (asAt t r).key s.ts (betaAt s s.hops.length) ⟨r, inn, out, expFor p s.ts, 0⟩
def grownSeg (t : DTopology) (p : DPolicy) (s : DSegment) (r inn out : Int) : DSegment := ⟨s.ts, s.beta, s.hops ++ [newHop t p s r inn out]⟩
theorem impl_grown (vt : Value) (p : DPolicy) (vs : Value) (r inn out : Int) (t : DTopology) (s : DSegment) (w : World) (ht : TopologyV w.heap.size w vt t) (hs : SegmentV w.heap.size w vs s) (hr : isAs t r = true) (hn : s.hops.length ≤ 10000000) :
 Calls Tryz.prog 84 #[vt, .agg #[I p.maxLen, I p.denied, I p.closed, I p.life], vs, I r, I inn, I out] w fun e w' => ∃ v', e = .returned v' ∧ SegmentO w.heap.size w'.heap.size w' v' (grownSeg t p s r inn out) ∧ Ext w w' := by
 obtain ⟨k, rfl, hka⟩ := isAs_nat hr;clear hr;obtain ⟨At_0, nt_0, ct_0, At_1, nt_1, ct_1, rfl, st_0, st_1⟩ := id ht;obtain ⟨lt_0, kt_0, mt_0⟩ := st_0.len;subst lt_0;unfold maxLen at mt_0;obtain ⟨lt_1, kt_1, mt_1⟩ := st_1.len;subst lt_1;unfold maxLen at mt_1;have Rt := Lib.hid ht; clear ht;have St_0 := Lib.hid st_0; clear st_0;have St_1 := Lib.hid st_1; clear st_1;obtain ⟨As_2, ns_2, cs_2, rfl, ss_2⟩ := id hs;obtain ⟨ls_2, ks_2, ms_2⟩ := ss_2.len;subst ls_2;unfold maxLen at ms_2;have Rs := Lib.hid hs; clear hs;have Ss_2 := Lib.hid ss_2; clear ss_2
 have HF : Hid (grownSeg t p s k inn out = ⟨s.ts, s.beta, s.hops ++ [⟨k, inn, out, expFor p s.ts, hopMac t.ases[k].key s.ts (betaAt s s.hops.length) ⟨k, inn, out, expFor p s.ts, 0⟩⟩]⟩) := by unfold Hid grownSeg newHop authHop; rw [asAt_nat t k hka]
 generalize hex : expFor p s.ts = ex at *
 have HE := Lib.hid hex; clear hex
 go_enter Tryz.func84, Tryz.ntmps84
 go_wp2_with fail
 refine name_calls (fun W => Ext w W ∧ Blk W w.heap.size 27 [.slice At_0 t.ases.length ct_0, .slice At_1 t.links.length ct_1] ∧ Blk W (w.heap.size + 1 + 1) 33 [I s.ts, I s.beta, .slice As_2 s.hops.length cs_2] ∧ Blk W (w.heap.size + 1 + 1 + 1) 33 [I 0, I 0, .slice none 0 0]) ⟨xe, xb, xb, xb⟩ ?_;rintro w0 ⟨ew0, bt, bs, br⟩;have Bt := Lib.hid bt; have Bs := Lib.hid bs; have BR := Lib.hid br; clear bt bs br;have zr := BR.out.lt;refine (impl_ExpiryFor p s.ts _).mono ?_;rintro e w1 ⟨rfl, e1⟩;rw [HE.out];have bs := Bs.out.ext (w' := w1) xe;have ls := bs.lt;obtain ⟨ps_0, ps_1, ps_2⟩ := blk3 bs;clear bs;go_wp2_with fail
 refine name_calls (fun W => Ext w1 W ∧ Blk W w1.heap.size 91 [I k, I inn, I out, I ex, I 0]) ⟨xe, xb⟩ ?_;rintro w2 ⟨ew2, bh⟩;have Bh := Lib.hid bh; clear bh;refine (impl_copySegment _ s _ (by exact Rs.out.ext xe) (by omega)).mono ?_;rintro e w3 ⟨v3, rfl, o3, e3⟩;obtain ⟨u3, rfl, oh3, -⟩ := o3;obtain ⟨a1, m1, q1, rfl⟩ := Own.slice oh3;have OH := Lib.hid oh3; clear oh3;have z1 := e1.size; have z2 := ew2.size; have z3 := e3.size;go_wp2_with fail
 refine name_wp (fun W => Ext w3 W ∧ Blk W w3.heap.size 33 [I s.ts, I s.beta, .slice a1 m1 q1]) ⟨xe, xb⟩ ?_;rintro w4 ⟨ew4, b4⟩;have B4 := Lib.hid b4; clear b4;have z4 := ew4.size;have bt := Bt.out.ext (w' := w4) xe;have lt := bt.lt;obtain ⟨pt_0, pt_1⟩ := blk2 bt;clear bt;have bs := Bs.out.ext (w' := w4) xe;have ls := bs.lt;obtain ⟨ps_0, ps_1, ps_2⟩ := blk3 bs;clear bs;have bh := Bh.out.ext (w' := w4) xe;have lbh := bh.lt;obtain ⟨qbh_0, qbh_1, qbh_2, qbh_3, qbh_4⟩ := blk5 bh;have fbh_0 := bh.frozen 0;have fbh_1 := bh.frozen 1;have fbh_2 := bh.frozen 2;have fbh_3 := bh.frozen 3;have fbh_4 := bh.frozen 4;clear bh;have b4 := B4.out.ext (w' := w4) xe;have lb4 := b4.lt;obtain ⟨qb4_0, qb4_1, qb4_2⟩ := blk3 b4;have fb4_0 := b4.frozen 0;have fb4_1 := b4.frozen 1;have fb4_2 := b4.frozen 2;clear b4;obtain ⟨b, off, rfl, hb, hkl, hc⟩ := (St_0.out.ext (w' := w4) xe).at_ hka
 generalize t.ases[k] = x at *
 obtain ⟨x0, x1, x2⟩ := hc
 have i0 : (0 : Int) ≤ (k : Int) := by omega
 have i1 : (k : Int) < (t.ases.length : Int) := by omega
 generalize hbe : betaAt s s.hops.length = be at *
 generalize hmc : hopMac x.key s.ts be ⟨k, inn, out, ex, 0⟩ = mc at *
 have HBE := Lib.hid hbe; have HMC := Lib.hid hmc; clear hbe hmc;refine wp_region_LT 18 (E := Ext) (w0 := w4) (G := fun τ => match τ with | 39 => some (fun v W => v = I be) | 41 => some (fun v W => v = .agg #[I k, I inn, I out, I ex, I mc]) | 42 => some (fun v W => Fresh1 91 w4.heap.size [I k, I inn, I out, I ex, I mc] v W) | _ => none) Ext.refl (fun h k => Ext.trans h k) (by kernel_rfl) (by kernel_rfl) (by kernel_rfl) (by kernel_rfl) (by kernel_rfl) (by kernel_rfl) xg (Ext.drew (by exact Ext.refl _)) ?_;simp only [List.take_succ_cons, List.take_zero]
 repeat' (first
  | ((with_reducible refine wpL_skip ?_ ?_ ?_)
     · rfl
     · rfl
     simp only [putS])
  | ((with_reducible refine wpL_quiet ?_ ?_ ?_ ?_)
     · rfl
     · rfl
     · rfl
     apply Exists.intro
     refine ⟨fun W hW hS => ?_, ?_⟩
     · have hC := (Ext.facts hW).1
       go_simp
       first | done | (with_reducible rfl) | (rw [if_neg (by omega)]; exact ⟨rfl, rfl⟩) | rfl
     first | (with_reducible refine wpL_boolT ?_) | (with_reducible refine wpL_boolF ?_) | (with_reducible refine wpL_bool (fun hB => ?_) (fun hB => ?_)) | skip
     all_goals simp only [putS])
  | ((refine wpL_call ?_ rfl rfl ?_ ?_ ?_)
     · rfl
     · rfl
     · intro W hW hS
       have hC := (Ext.facts hW).1;unfold growAt
       go_simp
       simp only [growUpon]
       first | (go_at_call 100; (with_reducible refine Calls.mono (impl_BetaAt _ _ s _ (by exact Rs.out.ext xe) (by omega)) ?_); rintro e w9 ⟨rfl, e9⟩; exact ⟨_, rfl, e9, by rw [HBE.out]⟩) | (go_at_call 124; (with_reducible refine Calls.mono (impl_AuthenticateHop _ _ _ ⟨k, inn, out, ex, 0⟩ _) ?_); rintro e w9 ⟨rfl, e9⟩; exact ⟨_, rfl, e9, by rw [HMC.out]⟩) | (exact ⟨xe, Fresh1.new _ 91 _ _ _ rfl (Ext.size (by assumption))⟩)
     first | (with_reducible refine wpL_boolT ?_) | (with_reducible refine wpL_boolF ?_) | (with_reducible refine wpL_bool (fun hB => ?_) (fun hB => ?_)) | skip
     all_goals simp only [putS])
  | ((refine wpL_grow ?_ rfl rfl ?_ ?_)
     · rfl
     · intro W hW hS
       have hC := (Ext.facts hW).1;unfold growAt
       go_simp
       simp only [growUpon]
       first | (go_at_call 100; (with_reducible refine Calls.mono (impl_BetaAt _ _ s _ (by exact Rs.out.ext xe) (by omega)) ?_); rintro e w9 ⟨rfl, e9⟩; exact ⟨_, rfl, e9, by rw [HBE.out]⟩) | (go_at_call 124; (with_reducible refine Calls.mono (impl_AuthenticateHop _ _ _ ⟨k, inn, out, ex, 0⟩ _) ?_); rintro e w9 ⟨rfl, e9⟩; exact ⟨_, rfl, e9, by rw [HMC.out]⟩) | (exact ⟨xe, Fresh1.new _ 91 _ _ _ rfl (Ext.size (by assumption))⟩)
     intro v W' hW' hv
     first | (subst hv) | (subst hv) | (obtain ⟨g5, rfl, -⟩ := hv) | (obtain ⟨A5, n5, c5, rfl, -⟩ := id hv; clear hv) | (obtain ⟨A5, n5, c5, rfl⟩ := NO.slice hv) | skip
     all_goals simp only [putS]))
 refine wpL_nil (fun w5 e5 hL => ?_);have f5 : Fresh1 91 w4.heap.size [I k, I inn, I out, I ex, I mc] _ w5 := hL 42;clear hL;obtain ⟨g6, hg6, hgl6, hb6⟩ := f5;cases hg6;have z5 := e5.size;clear lb4 qb4_0 qb4_1 qb4_2 fb4_0 fb4_1 fb4_2;simp only [List.drop_succ_cons, List.drop_zero];go_wp2_with (at_builtin; refine hold ?_)
 refine unhold (wpList_appB w2.heap.size rfl (.tmp 26) (.tmp 42) _ rfl 91 _ 5 40 Tryz.underlying31 info_Hop rfl (by omega) (.slice a1 m1 q1) s.hops.length (s.hops.flatMap HopC) rfl _ 1 1 [I k, I inn, I out, I ex, I mc] rfl
  (by exact Own.up (Own.up OH.out ew4) e5) (by exact row_blk hb6 rfl) (by intro u hu; simp only [List.mem_cons, List.not_mem_nil, or_false] at hu; rcases hu with rfl | rfl | rfl | rfl | rfl <;> rfl) (by omega) (by unfold maxLen; omega) (by omega) ?_)
 intro v6 w6 ho6 hg6;obtain ⟨a7, m7, c7, hv7⟩ := ho6.slice;subst hv7
 have hnb : (Value.slice a1 m1 q1).ownBlock ≠ some w3.heap.size := fun e => by have := OH.out.2 _ e; omega
 have B6 := Lib.hid (Blk.grown (B4.out.ext e5) hg6 hnb);have E6 := Lib.hid (Ext.grownB (a := w2) (w := w5) xe (Own.up (Own.up OH.out ew4) e5) hg6 (Nat.le_refl _));have z6 : w5.heap.size ≤ w6.heap.size := hg6.size;have O6 := Lib.hid ho6; clear ho6 hg6 hnb;have e6 := E6.out;have b6 := B6.out.ext (w' := w6) xe;have lb6 := b6.lt;obtain ⟨qb6_0, qb6_1, qb6_2⟩ := blk3 b6;have fb6_0 := b6.frozen 0;have fb6_1 := b6.frozen 1;have fb6_2 := b6.frozen 2;clear b6;have br := BR.out.ext (w' := w6) xe;have lbr := br.lt;obtain ⟨qbr_0, qbr_1, qbr_2⟩ := blk3 br;have fbr_0 := br.frozen 0;have fbr_1 := br.frozen 1;have fbr_2 := br.frozen 2;clear br;go_wp2_with (at_builtin; refine hold ?_)
 refine bodyPost_ret (v := .agg #[I s.ts, I s.beta, .slice a7 m7 c7]) (by simp [results, Tryz.results84, go_sem, *]) rfl ⟨_, rfl, ?_, ?_⟩
 · rw [HF.out]
   simp only [World.size_setCell];have h := Own.setT O6.out B6.out (by decide) 2 (.slice a7 m7 c7);refine ⟨_, rfl, Own.more (lo := w2.heap.size) (hi := w6.heap.size) (by dsimp only; rw [List.length_append, List.flatMap_append]; simp only [List.length_singleton, List.flatMap_cons, List.flatMap_nil, List.append_nil, HopC]; exact (xw h)) (by have := ew0.size; omega) (by omega), by have := ew0.size; omega⟩
 · exact xe
theorem spec_l13Add (vt : Value) (p : DPolicy) (vs : Value) (r inn out : Int) (t : DTopology) (s : DSegment) (w : World) (ht : TopologyV w.heap.size w vt t) (hs : SegmentV w.heap.size w vs s) (hr : isAs t r = true) (hn : s.hops.length ≤ 10000000) :
 Calls Tryz.prog 89 #[vt, .agg #[I p.maxLen, I p.denied, I p.closed, I p.life], vs, I r, I inn, I out] w fun e w' => ∃ v', e = .returned v' ∧ SegmentO w.heap.size w'.heap.size w' v' (grownSeg t p s r inn out) ∧ Ext w w' := by
 obtain ⟨k, rfl, hka⟩ := isAs_nat hr;clear hr;obtain ⟨At_0, nt_0, ct_0, At_1, nt_1, ct_1, rfl, st_0, st_1⟩ := id ht;obtain ⟨lt_0, kt_0, mt_0⟩ := st_0.len;subst lt_0;unfold maxLen at mt_0;obtain ⟨lt_1, kt_1, mt_1⟩ := st_1.len;subst lt_1;unfold maxLen at mt_1;have Rt := Lib.hid ht; clear ht;have St_0 := Lib.hid st_0; clear st_0;have St_1 := Lib.hid st_1; clear st_1;obtain ⟨As_2, ns_2, cs_2, rfl, ss_2⟩ := id hs;obtain ⟨ls_2, ks_2, ms_2⟩ := ss_2.len;subst ls_2;unfold maxLen at ms_2;have Rs := Lib.hid hs; clear hs;have Ss_2 := Lib.hid ss_2; clear ss_2
 have HF : Hid (grownSeg t p s k inn out = ⟨s.ts, s.beta, s.hops ++ [⟨k, inn, out, expFor p s.ts, hopMac t.ases[k].key s.ts (betaAt s s.hops.length) ⟨k, inn, out, expFor p s.ts, 0⟩⟩]⟩) := by unfold Hid grownSeg newHop authHop; rw [asAt_nat t k hka]
 generalize hex : expFor p s.ts = ex at *
 have HE := Lib.hid hex; clear hex
 go_enter Tryz.func89, Tryz.ntmps89
 go_wp2_with fail
 refine name_calls (fun W => Ext w W ∧ Blk W w.heap.size 27 [.slice At_0 t.ases.length ct_0, .slice At_1 t.links.length ct_1] ∧ Blk W (w.heap.size + 1) 82 [I p.maxLen, I p.denied, I p.closed, I p.life] ∧ Blk W (w.heap.size + 1 + 1) 33 [I s.ts, I s.beta, .slice As_2 s.hops.length cs_2] ∧ Blk W (w.heap.size + 1 + 1 + 1) 33 [I 0, I 0, .slice none 0 0]) ⟨xe, xb, xb, xb, xb⟩ ?_;rintro w0 ⟨ew0, bt, bp, bs, br⟩;have Bt := Lib.hid bt; have Bp := Lib.hid bp; have Bs := Lib.hid bs; have BR := Lib.hid br; clear bt bp bs br;have zr := BR.out.lt;refine (spec_l9Copy _ s _ (by exact Rs.out.ext xe) (by omega)).mono ?_;rintro e w1 ⟨v1, rfl, o1, e1⟩;obtain ⟨u1, rfl, oh1, -⟩ := o1;obtain ⟨a1, m1, q1, rfl⟩ := Own.slice oh1;have OH := Lib.hid oh1; clear oh1;have bp := Bp.out.ext (w' := w1) xe;have lp := bp.lt;obtain ⟨pp_0, pp_1, pp_2, pp_3⟩ := blk4 bp;clear bp;have bs := Bs.out.ext (w' := w1) xe;have ls := bs.lt;obtain ⟨ps_0, ps_1, ps_2⟩ := blk3 bs;clear bs;go_wp2_with fail
 refine name_calls (fun W => Ext w1 W ∧ Blk W w1.heap.size 33 [I s.ts, I s.beta, .slice a1 m1 q1]) ⟨xe, xb⟩ ?_;rintro w2 ⟨ew2, b4⟩;have B4 := Lib.hid b4; clear b4;refine (spec_ExpiryFor p s.ts _).mono ?_;rintro e w3 ⟨rfl, e3⟩;rw [HE.out];have z1 := e1.size; have z2 := ew2.size; have z3 := e3.size;go_wp2_with fail
 refine name_wp (fun W => Ext w3 W ∧ Blk W w3.heap.size 91 [I k, I inn, I out, I ex, I 0]) ⟨xe, xb⟩ ?_;rintro w4 ⟨ew4, bh⟩;have Bh := Lib.hid bh; clear bh;have z4 := ew4.size;have bt := Bt.out.ext (w' := w4) xe;have lt := bt.lt;obtain ⟨pt_0, pt_1⟩ := blk2 bt;clear bt;have bs := Bs.out.ext (w' := w4) xe;have ls := bs.lt;obtain ⟨ps_0, ps_1, ps_2⟩ := blk3 bs;clear bs;have bh := Bh.out.ext (w' := w4) xe;have lbh := bh.lt;obtain ⟨qbh_0, qbh_1, qbh_2, qbh_3, qbh_4⟩ := blk5 bh;have fbh_0 := bh.frozen 0;have fbh_1 := bh.frozen 1;have fbh_2 := bh.frozen 2;have fbh_3 := bh.frozen 3;have fbh_4 := bh.frozen 4;clear bh;have b4 := B4.out.ext (w' := w4) xe;have lb4 := b4.lt;obtain ⟨qb4_0, qb4_1, qb4_2⟩ := blk3 b4;have fb4_0 := b4.frozen 0;have fb4_1 := b4.frozen 1;have fb4_2 := b4.frozen 2;clear b4;obtain ⟨b, off, rfl, hb, hkl, hc⟩ := (St_0.out.ext (w' := w4) xe).at_ hka
 generalize t.ases[k] = x at *
 obtain ⟨x0, x1, x2⟩ := hc
 have i0 : (0 : Int) ≤ (k : Int) := by omega
 have i1 : (k : Int) < (t.ases.length : Int) := by omega
 generalize hbe : betaAt s s.hops.length = be at *
 generalize hmc : hopMac x.key s.ts be ⟨k, inn, out, ex, 0⟩ = mc at *
 have HBE := Lib.hid hbe; have HMC := Lib.hid hmc; clear hbe hmc;refine wp_region_LT 18 (E := Ext) (w0 := w4) (G := fun τ => match τ with | 39 => some (fun v W => v = I be) | 41 => some (fun v W => v = .agg #[I k, I inn, I out, I ex, I mc]) | 42 => some (fun v W => Fresh1 91 w4.heap.size [I k, I inn, I out, I ex, I mc] v W) | _ => none) Ext.refl (fun h k => Ext.trans h k) (by kernel_rfl) (by kernel_rfl) (by kernel_rfl) (by kernel_rfl) (by kernel_rfl) (by kernel_rfl) xg (Ext.drew (by exact Ext.refl _)) ?_;simp only [List.take_succ_cons, List.take_zero]
 repeat' (first
  | ((with_reducible refine wpL_skip ?_ ?_ ?_)
     · rfl
     · rfl
     simp only [putS])
  | ((with_reducible refine wpL_quiet ?_ ?_ ?_ ?_)
     · rfl
     · rfl
     · rfl
     apply Exists.intro
     refine ⟨fun W hW hS => ?_, ?_⟩
     · have hC := (Ext.facts hW).1
       go_simp
       first | done | (with_reducible rfl) | (rw [if_neg (by omega)]; exact ⟨rfl, rfl⟩) | rfl
     first | (with_reducible refine wpL_boolT ?_) | (with_reducible refine wpL_boolF ?_) | (with_reducible refine wpL_bool (fun hB => ?_) (fun hB => ?_)) | skip
     all_goals simp only [putS])
  | ((refine wpL_call ?_ rfl rfl ?_ ?_ ?_)
     · rfl
     · rfl
     · intro W hW hS
       have hC := (Ext.facts hW).1;unfold growAt
       go_simp
       simp only [growUpon]
       first | (go_at_call 69; (with_reducible refine Calls.mono (spec_BetaAt _ _ s _ (by exact Rs.out.ext xe) (by omega)) ?_); rintro e w9 ⟨rfl, e9⟩; exact ⟨_, rfl, e9, by rw [HBE.out]⟩) | (go_at_call 68; (with_reducible refine Calls.mono (spec_AuthenticateHop _ _ _ ⟨k, inn, out, ex, 0⟩ _) ?_); rintro e w9 ⟨rfl, e9⟩; exact ⟨_, rfl, e9, by rw [HMC.out]⟩) | (exact ⟨xe, Fresh1.new _ 91 _ _ _ rfl (Ext.size (by assumption))⟩)
     first | (with_reducible refine wpL_boolT ?_) | (with_reducible refine wpL_boolF ?_) | (with_reducible refine wpL_bool (fun hB => ?_) (fun hB => ?_)) | skip
     all_goals simp only [putS])
  | ((refine wpL_grow ?_ rfl rfl ?_ ?_)
     · rfl
     · intro W hW hS
       have hC := (Ext.facts hW).1;unfold growAt
       go_simp
       simp only [growUpon]
       first | (go_at_call 69; (with_reducible refine Calls.mono (spec_BetaAt _ _ s _ (by exact Rs.out.ext xe) (by omega)) ?_); rintro e w9 ⟨rfl, e9⟩; exact ⟨_, rfl, e9, by rw [HBE.out]⟩) | (go_at_call 68; (with_reducible refine Calls.mono (spec_AuthenticateHop _ _ _ ⟨k, inn, out, ex, 0⟩ _) ?_); rintro e w9 ⟨rfl, e9⟩; exact ⟨_, rfl, e9, by rw [HMC.out]⟩) | (exact ⟨xe, Fresh1.new _ 91 _ _ _ rfl (Ext.size (by assumption))⟩)
     intro v W' hW' hv
     first | (subst hv) | (subst hv) | (obtain ⟨g5, rfl, -⟩ := hv) | (obtain ⟨A5, n5, c5, rfl, -⟩ := id hv; clear hv) | (obtain ⟨A5, n5, c5, rfl⟩ := NO.slice hv) | skip
     all_goals simp only [putS]))
 refine wpL_nil (fun w5 e5 hL => ?_);have f5 : Fresh1 91 w4.heap.size [I k, I inn, I out, I ex, I mc] _ w5 := hL 42;clear hL;obtain ⟨g6, hg6, hgl6, hb6⟩ := f5;cases hg6;have z5 := e5.size;clear lb4 qb4_0 qb4_1 qb4_2 fb4_0 fb4_1 fb4_2;simp only [List.drop_succ_cons, List.drop_zero];go_wp2_with (at_builtin; refine hold ?_)
 refine unhold (wpList_appB w0.heap.size rfl (.tmp 26) (.tmp 42) _ rfl 91 _ 5 40 Tryz.underlying31 info_Hop rfl (by omega) (.slice a1 m1 q1) s.hops.length (s.hops.flatMap HopC) rfl _ 1 1 [I k, I inn, I out, I ex, I mc] rfl
  (by exact Own.up OH.out xe) (by exact row_blk hb6 rfl) (by intro u hu; simp only [List.mem_cons, List.not_mem_nil, or_false] at hu; rcases hu with rfl | rfl | rfl | rfl | rfl <;> rfl) (by omega) (by unfold maxLen; omega) (by omega) ?_)
 intro v6 w6 ho6 hg6;obtain ⟨a7, m7, c7, hv7⟩ := ho6.slice;subst hv7
 have hnb : (Value.slice a1 m1 q1).ownBlock ≠ some w1.heap.size := fun e => by have := OH.out.2 _ e; omega
 have B6 := Lib.hid (Blk.grown (B4.out.ext (w' := w5) xe) hg6 hnb);have E6 := Lib.hid (Ext.grownB (a := w0) (w := w5) xe (Own.up OH.out (w' := w5) xe) hg6 (Nat.le_refl _));have z6 : w5.heap.size ≤ w6.heap.size := hg6.size;have O6 := Lib.hid ho6; clear ho6 hg6 hnb;have e6 := E6.out;have b6 := B6.out.ext (w' := w6) xe;have lb6 := b6.lt;obtain ⟨qb6_0, qb6_1, qb6_2⟩ := blk3 b6;have fb6_0 := b6.frozen 0;have fb6_1 := b6.frozen 1;have fb6_2 := b6.frozen 2;clear b6;have br := BR.out.ext (w' := w6) xe;have lbr := br.lt;obtain ⟨qbr_0, qbr_1, qbr_2⟩ := blk3 br;have fbr_0 := br.frozen 0;have fbr_1 := br.frozen 1;have fbr_2 := br.frozen 2;clear br;go_wp2_with (at_builtin; refine hold ?_)
 refine bodyPost_ret (v := .agg #[I s.ts, I s.beta, .slice a7 m7 c7]) (by simp [results, Tryz.results89, go_sem, *]) rfl ⟨_, rfl, ?_, ?_⟩
 · rw [HF.out]
   simp only [World.size_setCell];have h := Own.setT O6.out B6.out (by decide) 2 (.slice a7 m7 c7);refine ⟨_, rfl, Own.more (lo := w0.heap.size) (hi := w6.heap.size) (by dsimp only; rw [List.length_append, List.flatMap_append]; simp only [List.length_singleton, List.flatMap_cons, List.flatMap_nil, List.append_nil, HopC]; exact (xw h)) (by have := ew0.size; omega) (by omega), by have := ew0.size; omega⟩
 · exact xe
end Go.Proofs.YtmopmgaeiokfjaaGreat
