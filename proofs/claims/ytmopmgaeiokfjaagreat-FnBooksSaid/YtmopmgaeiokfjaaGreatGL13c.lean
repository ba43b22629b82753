/- Contracts of the program's and the reference's functions that make segments: Originate. Printed by scripts/g13c.py. -/
import Derived.Test.YtmopmgaeiokfjaaGreatGL13b
set_option maxRecDepth 100000
set_option maxHeartbeats 1000000
namespace Go.Proofs.YtmopmgaeiokfjaaGreat
open Go.RowKit
set_option linter.unusedVariables false
def origOk (t : DTopology) (p : DPolicy) (r out ts beta : Int) : Bool := isCore t r && (inR out 1 6 && ((ifKind t r out == 1 || ifKind t r out == 2) && (allows p ⟨0, 0, []⟩ out && (inR ts 0 1000000 && isRes beta))))
def origSeg (t : DTopology) (p : DPolicy) (r out ts beta : Int) : DSegment := if origOk t p r out ts beta then grownSeg t p ⟨ts, beta, []⟩ r 0 out else ⟨0, 0, []⟩
theorem isCore_as {t : DTopology} {r : Int} (h : isCore t r = true) : isAs t r = true := by
 unfold isCore at h;rw [Bool.and_eq_true] at h;exact h.1
theorem origOk_kind {t : DTopology} {p : DPolicy} {r out ts beta : Int} (h : origOk t p r out ts beta = true) : ifKind t r out = 1 ∨ ifKind t r out = 2 := by
 unfold origOk at h;simp only [Bool.and_eq_true, Bool.or_eq_true, beq_iff_eq] at h;exact h.2.2.1
theorem nilSeg2 (B : Nat) (w : World) (ts beta : Int) : SegmentV B w (.agg #[I ts, I beta, .slice none 0 0]) ⟨ts, beta, []⟩ := ⟨_, _, _, rfl, none, 0, 0, rfl, rfl, Nat.le_refl _, Nat.zero_le _, fun h => absurd h (by omega)⟩
theorem betaAt_nil (ts beta : Int) : betaAt ⟨ts, beta, []⟩ ((0 : Nat) : Int) = beta := by simp [betaAt, inR, macs, chainAdd]
theorem spec_Originate (vt : Value) (p : DPolicy) (r out ts beta : Int) (t : DTopology) (w : World) (ht : TopologyV w.heap.size w vt t) :
 Calls Tryz.prog 144 #[vt, .agg #[I p.maxLen, I p.denied, I p.closed, I p.life], I r, I out, I ts, I beta] w fun e w' => ∃ v', e = .returned (.tuple #[v', .bool (origOk t p r out ts beta)]) ∧ SegmentO w.heap.size w'.heap.size w' v' (origSeg t p r out ts beta) ∧ Ext w w' := by
 obtain ⟨At_0, nt_0, ct_0, At_1, nt_1, ct_1, rfl, st_0, st_1⟩ := id ht;obtain ⟨lt_0, kt_0, mt_0⟩ := st_0.len;subst lt_0;unfold maxLen at mt_0;obtain ⟨lt_1, kt_1, mt_1⟩ := st_1.len;subst lt_1;unfold maxLen at mt_1;have Rt := Lib.hid ht; clear ht;have St_0 := Lib.hid st_0; clear st_0;have St_1 := Lib.hid st_1; clear st_1
 go_enter Tryz.func144, Tryz.ntmps144
 go_wp2_with fail
 refine name_calls (fun W => Ext w W ∧ Blk W w.heap.size 27 [.slice At_0 t.ases.length ct_0, .slice At_1 t.links.length ct_1] ∧ Blk W (w.heap.size + 1) 82 [I p.maxLen, I p.denied, I p.closed, I p.life] ∧ Blk W (w.heap.size + 1 + 1) 33 [I 0, I 0, .slice none 0 0]) ⟨xe, xb, xb, xb⟩ ?_;rintro w0 ⟨ew0, bt, bp, br⟩;have Bt := Lib.hid bt; have Bp := Lib.hid bp; have BR := Lib.hid br; clear bt bp br;have zr := BR.out.lt;refine (spec_l5Realm _ _ (t) _ (by exact Rt.out.ext xe)).mono ?_;rintro e w1 ⟨rfl, ew1⟩;have bt := Bt.out.ext (w' := w1) xe;have lt := bt.lt;obtain ⟨pt_0, pt_1⟩ := blk2 bt;clear bt;have bp := Bp.out.ext (w' := w1) xe;have lp := bp.lt;obtain ⟨pp_0, pp_1, pp_2, pp_3⟩ := blk4 bp;clear bp;cases h1 : isAs t r
 · have HF : Hid (origOk t p r out ts beta = false) := by unfold Hid origOk; simp [isCore, h1]
   have br := BR.out.ext (w' := w1) xe;have lbr := br.lt;obtain ⟨qbr_0, qbr_1, qbr_2⟩ := blk3 br;have fbr_0 := br.frozen 0;have fbr_1 := br.frozen 1;have fbr_2 := br.frozen 2;clear br;go_wp2_with fail
   refine bodyPost_ret (v := .tuple #[.agg #[I 0, I 0, .slice none 0 0], .bool false]) (by simp [results, Tryz.results144, go_sem, *]) rfl ⟨_, by rw [HF.out], ?_, xe⟩;unfold origSeg;rw [HF.out];exact ⟨_, rfl, Own.nil _ _ _ _ _, by have h9 : w.heap.size ≤ w1.heap.size := Ext.size xe; first | exact h9 | (simp only [World.size_setCell]; exact h9)⟩
 obtain ⟨k, rfl, hka⟩ := isAs_nat h1
 have HC : Hid (isCore t k = t.ases[k].core) := by unfold Hid isCore; rw [h1, asAt_nat t k hka]; rfl
 have HAS := Lib.hid (asAt_nat t k hka);have H3 := Lib.hid h1; clear h1;obtain ⟨b, off, rfl, hb, hkk, hc⟩ := (St_0.out.ext (w' := w1) xe).at_ hka;have HCC := Lib.hid hc
 generalize t.ases[k] = x at *
 obtain ⟨x0, x1, x2⟩ := hc
 have i0 : (0 : Int) ≤ (k : Int) := by omega
 have i1 : (k : Int) < (t.ases.length : Int) := by omega
 cases hco : x.core
 · have HF : Hid (origOk t p k out ts beta = false) := by unfold Hid origOk; simp [HC.out, hco]
   have br := BR.out.ext (w' := w1) xe;have lbr := br.lt;obtain ⟨qbr_0, qbr_1, qbr_2⟩ := blk3 br;have fbr_0 := br.frozen 0;have fbr_1 := br.frozen 1;have fbr_2 := br.frozen 2;clear br;go_wp2_with fail
   refine bodyPost_ret (v := .tuple #[.agg #[I 0, I 0, .slice none 0 0], .bool false]) (by simp [results, Tryz.results144, go_sem, *]) rfl ⟨_, by rw [HF.out], ?_, xe⟩;unfold origSeg;rw [HF.out];exact ⟨_, rfl, Own.nil _ _ _ _ _, by have h9 : w.heap.size ≤ w1.heap.size := Ext.size xe; first | exact h9 | (simp only [World.size_setCell]; exact h9)⟩
 go_wp2_with fail
 refine (spec_l1In _ _ _ _).mono ?_;rintro e w1b ⟨rfl, rfl⟩;cases h2 : inR out 1 6
 · have HF : Hid (origOk t p k out ts beta = false) := by unfold Hid origOk; simp [h2]
   have br := BR.out.ext (w' := w1) xe;have lbr := br.lt;obtain ⟨qbr_0, qbr_1, qbr_2⟩ := blk3 br;have fbr_0 := br.frozen 0;have fbr_1 := br.frozen 1;have fbr_2 := br.frozen 2;clear br;go_wp2_with fail
   refine bodyPost_ret (v := .tuple #[.agg #[I 0, I 0, .slice none 0 0], .bool false]) (by simp [results, Tryz.results144, go_sem, *]) rfl ⟨_, by rw [HF.out], ?_, xe⟩;unfold origSeg;rw [HF.out];exact ⟨_, rfl, Own.nil _ _ _ _ _, by have h9 : w.heap.size ≤ w1.heap.size := Ext.size xe; first | exact h9 | (simp only [World.size_setCell]; exact h9)⟩
 go_wp2_with fail
 refine (spec_l1In _ _ _ _).mono ?_;rintro e w1b ⟨rfl, rfl⟩;cases h5 : inR ts 0 1000000
 · have HF : Hid (origOk t p k out ts beta = false) := by unfold Hid origOk; simp [h5]
   have br := BR.out.ext (w' := w1) xe;have lbr := br.lt;obtain ⟨qbr_0, qbr_1, qbr_2⟩ := blk3 br;have fbr_0 := br.frozen 0;have fbr_1 := br.frozen 1;have fbr_2 := br.frozen 2;clear br;go_wp2_with fail
   refine bodyPost_ret (v := .tuple #[.agg #[I 0, I 0, .slice none 0 0], .bool false]) (by simp [results, Tryz.results144, go_sem, *]) rfl ⟨_, by rw [HF.out], ?_, xe⟩;unfold origSeg;rw [HF.out];exact ⟨_, rfl, Own.nil _ _ _ _ _, by have h9 : w.heap.size ≤ w1.heap.size := Ext.size xe; first | exact h9 | (simp only [World.size_setCell]; exact h9)⟩
 go_wp2_with fail
 refine (spec_l3Ok _ _).mono ?_;rintro e w1b ⟨rfl, rfl⟩;cases h6 : isRes beta
 · have HF : Hid (origOk t p k out ts beta = false) := by unfold Hid origOk; simp [h6]
   have br := BR.out.ext (w' := w1) xe;have lbr := br.lt;obtain ⟨qbr_0, qbr_1, qbr_2⟩ := blk3 br;have fbr_0 := br.frozen 0;have fbr_1 := br.frozen 1;have fbr_2 := br.frozen 2;clear br;go_wp2_with fail
   refine bodyPost_ret (v := .tuple #[.agg #[I 0, I 0, .slice none 0 0], .bool false]) (by simp [results, Tryz.results144, go_sem, *]) rfl ⟨_, by rw [HF.out], ?_, xe⟩;unfold origSeg;rw [HF.out];exact ⟨_, rfl, Own.nil _ _ _ _ _, by have h9 : w.heap.size ≤ w1.heap.size := Ext.size xe; first | exact h9 | (simp only [World.size_setCell]; exact h9)⟩
 have H1 : Hid (isCore t k = true) := by unfold Hid; rw [HC.out, hco]
 have H2 := Lib.hid h2; have H5 := Lib.hid h5; have H6 := Lib.hid h6; clear h2 h5 h6 hco x0 x1 x2;go_wp2_with fail
 refine name_calls (fun W => Ext w1 W ∧ Blk W w1.heap.size 33 [I ts, I beta, .slice none 0 0]) ⟨xe, xb⟩ ?_;rintro w1c ⟨ew1c, bz⟩;have BZ := Lib.hid bz; clear bz;have zc := ew1c.size;refine (spec_InterfaceKind _ _ _ (t) _ (by exact Rt.out.ext xe)).mono ?_;rintro e w2 ⟨rfl, ew2⟩;have bp := Bp.out.ext (w' := w2) xe;have lp := bp.lt;obtain ⟨pp_0, pp_1, pp_2, pp_3⟩ := blk4 bp;clear bp;have bz := BZ.out.ext (w' := w2) xe;have lbz := bz.lt;obtain ⟨qbz_0, qbz_1, qbz_2⟩ := blk3 bz;have fbz_0 := bz.frozen 0;have fbz_1 := bz.frozen 1;have fbz_2 := bz.frozen 2;clear bz;have hkd : origOk t p k out ts beta = true → ifKind t k out = 1 ∨ ifKind t k out = 2 := origOk_kind
 generalize hk9 : ifKind t k out = kd at *
 have HK := Lib.hid hk9; clear hk9;have HKD := Lib.hid hkd; clear hkd;by_cases q : kd = 1 ∨ kd = 2
 case neg =>
  have HF : Hid (origOk t p k out ts beta = false) := by unfold Hid; cases hh : origOk t p k out ts beta; rfl; exact absurd (HKD.out hh) q
  have d1 : (kd != 1) = true := bne_iff_ne.2 (fun e => q (.inl e));have d2 : (kd != 2) = true := bne_iff_ne.2 (fun e => q (.inr e));have br := BR.out.ext (w' := w2) xe;have lbr := br.lt;obtain ⟨qbr_0, qbr_1, qbr_2⟩ := blk3 br;have fbr_0 := br.frozen 0;have fbr_1 := br.frozen 1;have fbr_2 := br.frozen 2;clear br;go_wp2_with fail
  refine bodyPost_ret (v := .tuple #[.agg #[I 0, I 0, .slice none 0 0], .bool false]) (by simp [results, Tryz.results144, go_sem, *]) rfl ⟨_, by rw [HF.out], ?_, xe⟩;unfold origSeg;rw [HF.out];exact ⟨_, rfl, Own.nil _ _ _ _ _, by have h9 : w.heap.size ≤ w2.heap.size := Ext.size xe; first | exact h9 | (simp only [World.size_setCell]; exact h9)⟩
 case pos =>
  have d12 : (kd != 1) = false ∨ ((kd != 1) = true ∧ (kd != 2) = false) := by
   by_cases e1 : kd = 1
   · exact .inl (by simp [e1])
   · exact .inr ⟨by simp [e1], by rcases q with q | q; exact absurd q e1; simp [q]⟩
  rcases d12 with d1 | ⟨d1, d2⟩
  all_goals
   go_wp2_with fail
   refine (spec_Allows p _ out ⟨ts, beta, []⟩ _ (by exact nilSeg2 _ _ ts beta) (by simp)).mono ?_;rintro e w3 ⟨rfl, e3⟩;have hal : allows p ⟨ts, beta, []⟩ out = allows p ⟨0, 0, []⟩ out := rfl;rw [hal];clear hal;cases h4 : allows p ⟨0, 0, []⟩ out
   · have HF : Hid (origOk t p k out ts beta = false) := by unfold Hid origOk; simp [h4]
     have br := BR.out.ext (w' := w3) xe;have lbr := br.lt;obtain ⟨qbr_0, qbr_1, qbr_2⟩ := blk3 br;have fbr_0 := br.frozen 0;have fbr_1 := br.frozen 1;have fbr_2 := br.frozen 2;clear br;go_wp2_with fail
     refine bodyPost_ret (v := .tuple #[.agg #[I 0, I 0, .slice none 0 0], .bool false]) (by simp [results, Tryz.results144, go_sem, *]) rfl ⟨_, by rw [HF.out], ?_, xe⟩;unfold origSeg;rw [HF.out];exact ⟨_, rfl, Own.nil _ _ _ _ _, by have h9 : w.heap.size ≤ w3.heap.size := Ext.size xe; first | exact h9 | (simp only [World.size_setCell]; exact h9)⟩
   have HF : Hid (origOk t p k out ts beta = true) := by unfold Hid origOk; rw [H1.out, H2.out, h4, H5.out, H6.out, HK.out]; rcases q with q | q <;> simp [q]
   clear h4;generalize hex : expFor p ts = ex;have HEX := Lib.hid hex; clear hex;have bp := Bp.out.ext (w' := w3) xe;have lp := bp.lt;obtain ⟨pp_0, pp_1, pp_2, pp_3⟩ := blk4 bp;clear bp;go_wp2_with fail
   refine (spec_ExpiryFor p ts _).mono ?_;rintro e w4 ⟨rfl, e4⟩;rw [HEX.out];go_wp2_with fail
   refine name_wp (fun W => Ext w4 W ∧ Blk W w4.heap.size 91 [I k, I 0, I out, I ex, I 0]) ⟨xe, xb⟩ ?_;rintro w5 ⟨ew5, bh⟩;have Bh := Lib.hid bh; clear bh;have bt := Bt.out.ext (w' := w5) xe;have lt := bt.lt;obtain ⟨pt_0, pt_1⟩ := blk2 bt;clear bt;clear lbz qbz_0 qbz_1 qbz_2 fbz_0 fbz_1 fbz_2;have bz := BZ.out.ext (w' := w5) xe;have lbz := bz.lt;obtain ⟨qbz_0, qbz_1, qbz_2⟩ := blk3 bz;have fbz_0 := bz.frozen 0;have fbz_1 := bz.frozen 1;have fbz_2 := bz.frozen 2;clear bz;have bh := Bh.out.ext (w' := w5) xe;have lbh := bh.lt;obtain ⟨qbh_0, qbh_1, qbh_2, qbh_3, qbh_4⟩ := blk5 bh;have fbh_0 := bh.frozen 0;have fbh_1 := bh.frozen 1;have fbh_2 := bh.frozen 2;have fbh_3 := bh.frozen 3;have fbh_4 := bh.frozen 4;clear bh;have z3 := e3.size; have z4 := e4.size; have z5 := ew5.size; have z2 := ew2.size
   have hb5 : b < w5.heap.size := by omega
   have hE5 : Ext w1 w5 := xe;obtain ⟨y0, y1, y2⟩ := ASAt.keeps _ _ _ _ _ _ _ hE5.size hE5.same hb HCC.out;clear hE5;generalize hmc : hopMac x.key ts beta ⟨k, 0, out, ex, 0⟩ = mc;have HMC := Lib.hid hmc; clear hmc;refine wp_region_LT 13 (E := Ext) (w0 := w5) (G := fun τ => match τ with | 84 => some (fun v W => v = .agg #[I k, I 0, I out, I ex, I mc]) | 85 => some (fun v W => Fresh1 91 w5.heap.size [I k, I 0, I out, I ex, I mc] v W) | _ => none) Ext.refl (fun h k => Ext.trans h k) (by kernel_rfl) (by kernel_rfl) (by kernel_rfl) (by kernel_rfl) (by kernel_rfl) (by kernel_rfl) xg (Ext.drew (by exact Ext.refl _)) ?_;simp only [List.take_succ_cons, List.take_zero]
   repeat' (first
    | ((with_reducible refine wpL_skip ?_ ?_ ?_)
       · rfl
       · rfl
       simp only [putS])
    | ((with_reducible refine wpL_quiet ?_ ?_ ?_ ?_)
       · rfl
       · rfl
       · rfl
       apply Exists.intro
       refine ⟨fun W hW hS => ?_, ?_⟩
       · have hC := (Ext.facts hW).1
         go_simp
         first | done | (with_reducible rfl) | (rw [if_neg (by omega)]; exact ⟨rfl, rfl⟩) | rfl
       first | (with_reducible refine wpL_boolT ?_) | (with_reducible refine wpL_boolF ?_) | (with_reducible refine wpL_bool (fun hB => ?_) (fun hB => ?_)) | skip
       all_goals simp only [putS])
    | ((refine wpL_call ?_ rfl rfl ?_ ?_ ?_)
       · rfl
       · rfl
       · intro W hW hS
         have hC := (Ext.facts hW).1;unfold growAt
         go_simp
         simp only [growUpon]
         first | (go_at_call 68; (with_reducible refine Calls.mono (spec_AuthenticateHop _ _ _ ⟨k, 0, out, ex, 0⟩ _) ?_); rintro e w9 ⟨rfl, e9⟩; exact ⟨_, rfl, e9, by rw [HMC.out]⟩) | (exact ⟨xe, Fresh1.new _ 91 _ _ _ rfl (Ext.size (by assumption))⟩)
       first | (with_reducible refine wpL_boolT ?_) | (with_reducible refine wpL_boolF ?_) | (with_reducible refine wpL_bool (fun hB => ?_) (fun hB => ?_)) | skip
       all_goals simp only [putS])
    | ((refine wpL_grow ?_ rfl rfl ?_ ?_)
       · rfl
       · intro W hW hS
         have hC := (Ext.facts hW).1;unfold growAt
         go_simp
         simp only [growUpon]
         first | (go_at_call 68; (with_reducible refine Calls.mono (spec_AuthenticateHop _ _ _ ⟨k, 0, out, ex, 0⟩ _) ?_); rintro e w9 ⟨rfl, e9⟩; exact ⟨_, rfl, e9, by rw [HMC.out]⟩) | (exact ⟨xe, Fresh1.new _ 91 _ _ _ rfl (Ext.size (by assumption))⟩)
       intro v W' hW' hv
       first | (subst hv) | (obtain ⟨g5, rfl, -⟩ := hv) | (obtain ⟨A5, n5, c5, rfl, -⟩ := id hv; clear hv) | (obtain ⟨A5, n5, c5, rfl⟩ := NO.slice hv) | skip
       all_goals simp only [putS]))
   refine wpL_nil (fun w6 e6 hL => ?_);have f5 : Fresh1 91 w5.heap.size [I k, I 0, I out, I ex, I mc] _ w6 := hL 85;clear hL;obtain ⟨g6, hg6, hgl6, hb6⟩ := f5;cases hg6;have z6 := e6.size;clear lbz qbz_0 qbz_1 qbz_2 fbz_0 fbz_1 fbz_2;simp only [List.drop_succ_cons, List.drop_zero];go_wp2_with (at_builtin; refine hold ?_)
   refine unhold (wpList_appB w6.heap.size rfl (.tmp 74) (.tmp 85) _ rfl 91 _ 5 40 Tryz.underlying31 info_Hop rfl (by omega) (.slice none 0 0) 0 [] rfl _ 1 1 [I k, I 0, I out, I ex, I mc] rfl
    (Own.nil _ _ _ _ _) (by exact row_blk hb6 rfl) (by intro u hu; simp only [List.mem_cons, List.not_mem_nil, or_false] at hu; rcases hu with rfl | rfl | rfl | rfl | rfl <;> rfl) (by omega) (by unfold maxLen; omega) (by omega) ?_)
   intro v7 w7 ho7 hg7;obtain ⟨a7, m7, c7, hv7⟩ := ho7.slice;subst hv7;have E7 : Ext w6 w7 := ext_of_grown (by simpa [Value.ownBlock] using hg7);have z7 := E7.size;have O7 := Lib.hid ho7; clear ho7 hg7;have bz := BZ.out.ext (w' := w7) xe;have lbz := bz.lt;obtain ⟨qbz_0, qbz_1, qbz_2⟩ := blk3 bz;have fbz_0 := bz.frozen 0;have fbz_1 := bz.frozen 1;have fbz_2 := bz.frozen 2;clear bz;have br := BR.out.ext (w' := w7) xe;have lbr := br.lt;obtain ⟨qbr_0, qbr_1, qbr_2⟩ := blk3 br;have fbr_0 := br.frozen 0;have fbr_1 := br.frozen 1;have fbr_2 := br.frozen 2;clear br;have h9 : w.heap.size ≤ w1.heap.size := Ext.size xe;have h8 : w0.heap.size ≤ w1.heap.size := Ext.size xe;go_wp2_with fail
   refine bodyPost_ret (v := .tuple #[.agg #[I ts, I beta, .slice a7 m7 c7], .bool true]) (by simp [results, Tryz.results144, go_sem, *]) rfl ⟨_, by rw [HF.out], ?_, xe⟩;unfold origSeg;rw [HF.out, if_pos rfl]
   have HG : grownSeg t p ⟨ts, beta, []⟩ k 0 out = ⟨ts, beta, [⟨k, 0, out, ex, mc⟩]⟩ := by unfold grownSeg newHop authHop; rw [HAS.out]; dsimp only; rw [HEX.out, List.length_nil, betaAt_nil, HMC.out]; rfl
   rw [HG]
   (try simp only [World.size_setCell])
   exact ⟨_, rfl, Own.more (lo := w6.heap.size) (hi := w7.heap.size) (by have h := O7.out; simp only [Nat.zero_add, List.nil_append] at h; simp only [List.length_singleton, List.flatMap_cons, List.flatMap_nil, List.append_nil, HopC]; exact (xw h)) (by omega) (by omega), by omega⟩
def origTo (t : DTopology) (p : DPolicy) (r : Int) (k : Nat) : List Int := ((List.range k).filter fun i : Nat => origOk t p r ((i : Int) + 1) 0 0).map fun i : Nat => (i : Int) + 1
def origIfs (t : DTopology) (p : DPolicy) (r : Int) : List Int := origTo t p r 6
theorem origTo_yes {t : DTopology} {p : DPolicy} {r : Int} {k : Nat} (h : origOk t p r ((k : Int) + 1) 0 0 = true) : origTo t p r (k + 1) = origTo t p r k ++ [(k : Int) + 1] := by simp [origTo, List.range_succ, List.filter_append, h]
theorem origTo_no {t : DTopology} {p : DPolicy} {r : Int} {k : Nat} (h : origOk t p r ((k : Int) + 1) 0 0 = false) : origTo t p r (k + 1) = origTo t p r k := by simp [origTo, List.range_succ, List.filter_append, h]
theorem origTo_len (t : DTopology) (p : DPolicy) (r : Int) (k : Nat) : (origTo t p r k).length ≤ k := by
 unfold origTo;rw [List.length_map];have := List.length_filter_le (fun i : Nat => origOk t p r ((i : Int) + 1) 0 0) (List.range k);rw [List.length_range] at this;exact this
theorem spec_OriginInterfaces (vt : Value) (p : DPolicy) (r : Int) (t : DTopology) (w : World) (ht : TopologyV w.heap.size w vt t) :
 Calls Tryz.prog 143 #[vt, .agg #[I p.maxLen, I p.denied, I p.closed, I p.life], I r] w fun e w' => ∃ v', e = .returned v' ∧ IntSO w.heap.size w'.heap.size w' v' (origIfs t p r) ∧ Ext w w' := by
 obtain ⟨At_0, nt_0, ct_0, At_1, nt_1, ct_1, rfl, st_0, st_1⟩ := id ht;obtain ⟨lt_0, kt_0, mt_0⟩ := st_0.len;subst lt_0;unfold maxLen at mt_0;obtain ⟨lt_1, kt_1, mt_1⟩ := st_1.len;subst lt_1;unfold maxLen at mt_1;have Rt := Lib.hid ht; clear ht;have St_0 := Lib.hid st_0; clear st_0;have St_1 := Lib.hid st_1; clear st_1
 go_enter Tryz.func143, Tryz.ntmps143
 go_wp2_with fail
 refine name_wp (fun W => ∃ wb, Ext w wb ∧ Blk wb w.heap.size 27 [.slice At_0 t.ases.length ct_0, .slice At_1 t.links.length ct_1] ∧ Blk wb (w.heap.size + 1) 82 [I p.maxLen, I p.denied, I p.closed, I p.life] ∧ Ext wb W ∧ IntSO wb.heap.size W.heap.size W (.slice (some ⟨w.heap.size + 1 + 1, 0, none⟩) 0 0) []) ⟨_, xe, xb, xb, (Ext.refl _).alloc _, own_zero' _ _ _ _ _ (by simp) (Nat.le_refl _)⟩ ?_;rintro wz ⟨w0, ew0, bt, bp, ez, hz⟩;have Bt := Lib.hid bt; have Bp := Lib.hid bp; have HZ := Lib.hid hz; clear bt bp hz
 go_loopw [7, 8] (fun v i wr => ∃ k : Nat, k ≤ 6 ∧ i = I ((k : Int) + 1) ∧ IntSO w0.heap.size wr.heap.size wr v (origTo t p r k) ∧ Ext w0 wr) (fun _ i _ => 7 - (intOf i).toNat)
 case atStart => exact ⟨0, by omega, rfl, HZ.out, ez⟩
 case round =>
  obtain ⟨k, hk, rfl, ho, he⟩ := hrel;have HO := Lib.hid ho; clear ho;have bt := Bt.out.ext (w' := wr) xe;have lt := bt.lt;obtain ⟨pt_0, pt_1⟩ := blk2 bt;clear bt;have bp := Bp.out.ext (w' := wr) xe;have lp := bp.lt;obtain ⟨pp_0, pp_1, pp_2, pp_3⟩ := blk4 bp;clear bp;by_cases hlt : k < 6
  · have j1 : (k : Int) + 1 ≤ 6 := by omega
    go_wp2_with fail
    refine (spec_Originate _ p r ((k : Int) + 1) 0 0 t _ (by exact Rt.out.ext xe)).mono ?_;rintro e w1 ⟨v1, rfl, o1, e1⟩;obtain ⟨u1, rfl, oh1, -⟩ := o1;obtain ⟨a1, m1, q1, rfl⟩ := Own.slice oh1;clear oh1;generalize (origSeg t p r ((k : Int) + 1) 0 0).ts = ts1;generalize (origSeg t p r ((k : Int) + 1) 0 0).beta = be1;cases hv : origOk t p r ((k : Int) + 1) 0 0
    · have HS := Lib.hid (origTo_no hv)
      clear hv;go_wp2_with fail
      go_roundw
      case rel => exact ⟨k + 1, by omega, by first | go_num | (congr 1; omega), by rw [HS.out]; exact Own.up (Own.up HO.out e1) xe, xe⟩
      case measure => simp [intOf]; omega
    · have HS := Lib.hid (origTo_yes hv)
      clear hv;have hml := origTo_len t p r k
      generalize origTo t p r k = sl at *
      go_wp2_with (at_builtin; refine hold ?_)
      refine unhold (wpList_app w0 rfl (.tmp 25) (.tmp 27) _ rfl 3 (.int .i64 0) 1 8 Tryz.underlying96 info_int rfl (by omega) _ sl.length (sl.map I) rfl _ 1 1 [I ((k : Int) + 1)] rfl
       (by exact Own.up HO.out xe) (row_newN _ _ _ _ _ _ (by first | rfl | simp) rfl) (one_ints [(k : Int) + 1]) xe (by unfold maxLen; omega) (by omega) ?_)
      intro v2 w2 ho2 he2 _ _;have O2 := Lib.hid ho2; clear ho2;go_wp2_with (at_builtin; refine hold ?_)
      go_roundw
      case rel => exact ⟨k + 1, by omega, by first | go_num | (congr 1; omega), by rw [HS.out]; unfold IntSO; simpa using O2.out, he2⟩
      case measure => simp [intOf]; omega
  · obtain rfl : k = 6 := by omega
    go_wp2_with fail
    go_ret
    exact ⟨_, rfl, Own.more HO.out (Ext.size ew0) (Nat.le_refl _), xe⟩
end Go.Proofs.YtmopmgaeiokfjaaGreat
