/- Contracts of the program's and the reference's functions on hop lists. -/
import Derived.Test.YtmopmgaeiokfjaaGreatGL0
import Derived.Test.YtmopmgaeiokfjaaGreatGHS
import Derived.Test.YtmopmgaeiokfjaaGreatGGrow
set_option maxRecDepth 100000
set_option maxHeartbeats 1000000
namespace Go.Proofs.YtmopmgaeiokfjaaGreat
open Go.RowKit
set_option linter.unusedVariables false
theorem impl_equalHopLists (v1 v2 : Value) (xs ys : List DHop) (w : World) (h1 : HopS w.heap.size w v1 xs) (h2 : HopS w.heap.size w v2 ys) :
 Calls Tryz.prog 130 #[v1, v2] w fun e w' => e = .returned (.bool (decide (xs = ys))) ∧ Ext w w' := by
 obtain ⟨A1, n1, c1, rfl, hl1, hn1, hm1, -⟩ := id h1;obtain ⟨A2, n2, c2, rfl, hl2, hn2, hm2, -⟩ := id h2;unfold maxLen at hm1 hm2;have H1 := Lib.hid h1; have H2 := Lib.hid h2; have E1 := Lib.hid hl1; have E2 := Lib.hid hl2; clear h1 h2 hl1 hl2;by_cases hn : n1 = n2
 · subst hn
   go_enter Tryz.func130, Tryz.ntmps130
   go_wp2
   go_loopw [13] (fun i wr => ∃ k : Nat, k ≤ n1 ∧ i = I k ∧ xs.take k = ys.take k ∧ Ext w wr) (fun i _ => n1 - (intOf i).toNat)
   case atStart => exact ⟨0, by omega, rfl, by simp, Ext.refl _⟩
   case round =>
    obtain ⟨k, hk, rfl, hq, he⟩ := hrel;have HQ := Lib.hid hq; clear hq;have HE := Lib.hid he; clear he;by_cases hlt : k < n1
    · obtain ⟨b1, o1, rfl, hb1, hk1, hc1⟩ := (H1.out.ext HE.out).at_ hlt
      obtain ⟨b2, o2, rfl, hb2, hk2, hc2⟩ := (H2.out.ext HE.out).at_ hlt
      have i0 : (0 : Int) ≤ (k : Int) := by omega
      have i1 : (k : Int) < (n1 : Int) := by omega
      have X1 := Lib.hid (take_snoc xs k hk1);have X2 := Lib.hid (take_snoc ys k hk2);have hne : ¬ xs[k] = ys[k] → xs ≠ ys := fun hne h => hne (by subst h; rfl);have HN := Lib.hid hne; clear hne
      generalize xs[k] = x at *
      generalize ys[k] = y at *
      obtain ⟨h10, h11, h12, h13, h14⟩ := hc1;obtain ⟨h20, h21, h22, h23, h24⟩ := hc2;have hqn := fun W => neq_Hop x y W;have hgd := guard_Hop;have hdd : decide (x = y) = true ↔ x = y := decide_eq_true_iff;have HD := Lib.hid hdd; clear hdd
      generalize decide (x = y) = bb at *
      cases bb
      · have hxy : ¬ x = y := fun h => by have := HD.out.2 h; cases this
        have HXY := Lib.hid hxy; clear hxy;go_wp2
        go_quiet (fail)
        go_wp2
        go_ret
        exact ⟨ret_bool (by simp [HN.out HXY.out]), HE.out.drewN _⟩
      · have HXY := Lib.hid (HD.out.1 rfl)
        go_wp2
        go_quiet (fail)
        go_wp2
        go_roundw
        case rel => exact ⟨k + 1, by omega, by go_num, by rw [X1.out, X2.out, HQ.out, HXY.out], HE.out.drewN _⟩
        case measure => simp [intOf]; omega
    · go_wp2
      go_ret
      have h := HQ.out;rw [List.take_of_length_le (by rw [E1.out]; omega), List.take_of_length_le (by rw [E2.out]; omega)] at h;exact ⟨ret_bool (by simp [h]), HE.out⟩
 · have hb : ((n1 : Int) == (n2 : Int)) = false := by simp; omega
   have hb' : ((n1 : Int) != (n2 : Int)) = true := by simp; omega
   have HN := Lib.hid hn; clear hn
   go_enter Tryz.func130, Tryz.ntmps130
   go_wp2
   go_ret
   have : xs ≠ ys := fun h => HN.out (by rw [← E1.out, ← E2.out, h]);exact ⟨ret_bool (by simp [this]), Ext.refl _⟩
theorem spec_l9SameHops (v1 v2 : Value) (xs ys : List DHop) (w : World) (h1 : HopS w.heap.size w v1 xs) (h2 : HopS w.heap.size w v2 ys) :
 Calls Tryz.prog 131 #[v1, v2] w fun e w' => e = .returned (.bool (decide (xs = ys))) ∧ Ext w w' := by
 obtain ⟨A1, n1, c1, rfl, hl1, hn1, hm1, -⟩ := id h1;obtain ⟨A2, n2, c2, rfl, hl2, hn2, hm2, -⟩ := id h2;unfold maxLen at hm1 hm2;have H1 := Lib.hid h1; have H2 := Lib.hid h2; have E1 := Lib.hid hl1; have E2 := Lib.hid hl2; clear h1 h2 hl1 hl2;by_cases hn : n1 = n2
 · subst hn
   go_enter Tryz.func131, Tryz.ntmps131
   go_wp2
   go_loopw [5] (fun i wr => ∃ k : Nat, k ≤ n1 ∧ i = I k ∧ xs.take k = ys.take k ∧ Ext w wr) (fun i _ => n1 - (intOf i).toNat)
   case atStart => exact ⟨0, by omega, rfl, by simp, Ext.refl _⟩
   case round =>
    obtain ⟨k, hk, rfl, hq, he⟩ := hrel;have HQ := Lib.hid hq; clear hq;have HE := Lib.hid he; clear he;by_cases hlt : k < n1
    · obtain ⟨b1, o1, rfl, hb1, hk1, hc1⟩ := (H1.out.ext HE.out).at_ hlt
      obtain ⟨b2, o2, rfl, hb2, hk2, hc2⟩ := (H2.out.ext HE.out).at_ hlt
      have i0 : (0 : Int) ≤ (k : Int) := by omega
      have i1 : (k : Int) < (n1 : Int) := by omega
      have X1 := Lib.hid (take_snoc xs k hk1);have X2 := Lib.hid (take_snoc ys k hk2);have hne : ¬ xs[k] = ys[k] → xs ≠ ys := fun hne h => hne (by subst h; rfl);have HN := Lib.hid hne; clear hne
      generalize xs[k] = x at *
      generalize ys[k] = y at *
      obtain ⟨h10, h11, h12, h13, h14⟩ := hc1;obtain ⟨h20, h21, h22, h23, h24⟩ := hc2;have hqn := fun W => neq_Hop x y W;have hgd := guard_Hop;have hdd : decide (x = y) = true ↔ x = y := decide_eq_true_iff;have HD := Lib.hid hdd; clear hdd
      generalize decide (x = y) = bb at *
      cases bb
      · have hxy : ¬ x = y := fun h => by have := HD.out.2 h; cases this
        have HXY := Lib.hid hxy; clear hxy;go_wp2
        go_quiet (fail)
        go_wp2
        go_ret
        exact ⟨ret_bool (by simp [HN.out HXY.out]), HE.out.drewN _⟩
      · have HXY := Lib.hid (HD.out.1 rfl)
        go_wp2
        go_quiet (fail)
        go_wp2
        go_roundw
        case rel => exact ⟨k + 1, by omega, by go_num, by rw [X1.out, X2.out, HQ.out, HXY.out], HE.out.drewN _⟩
        case measure => simp [intOf]; omega
    · go_wp2
      go_ret
      have h := HQ.out;rw [List.take_of_length_le (by rw [E1.out]; omega), List.take_of_length_le (by rw [E2.out]; omega)] at h;exact ⟨ret_bool (by simp [h]), HE.out⟩
 · have hb : ((n1 : Int) == (n2 : Int)) = false := by simp; omega
   have hb' : ((n1 : Int) != (n2 : Int)) = true := by simp; omega
   have HN := Lib.hid hn; clear hn
   go_enter Tryz.func131, Tryz.ntmps131
   go_wp2
   go_ret
   have : xs ≠ ys := fun h => HN.out (by rw [← E1.out, ← E2.out, h]);exact ⟨ret_bool (by simp [this]), Ext.refl _⟩
theorem impl_EqualSegments (v1 v2 : Value) (x y : DSegment) (w : World) (g1 : SegmentV w.heap.size w v1 x) (g2 : SegmentV w.heap.size w v2 y) :
 Calls Tryz.prog 95 #[v1, v2] w fun e w' => e = .returned (.bool (decide (x = y))) ∧ Ext w w' := by
 obtain ⟨A1, n1, c1, rfl, s1⟩ := g1;obtain ⟨A2, n2, c2, rfl, s2⟩ := g2;have S1 := Lib.hid s1; clear s1;have S2 := Lib.hid s2; clear s2;have HQ : Hid (x = y ↔ x.ts = y.ts ∧ x.beta = y.beta ∧ x.hops = y.hops) := DSegment.eq_iff;by_cases h2 : x.ts = y.ts
 · have b2 : (x.ts == y.ts) = true := by simp [h2]
   by_cases h3 : x.beta = y.beta
   · have b3 : (x.beta == y.beta) = true := by simp [h3]
     have HF : Hid (decide (x = y) = decide (x.hops = y.hops)) := by unfold Hid; simp [HQ.out, h2, h3]
     clear h2 h3 HQ
     go_enter Tryz.func95, Tryz.ntmps95
     go_wp2_with fail
     refine (impl_equalHopLists _ _ x.hops y.hops _ (by exact S1.out.ext xe) (by exact S2.out.ext xe)).mono ?_;rintro e w1 ⟨rfl, he⟩;go_wp2_with fail
     go_ret
     exact ⟨ret_bool HF.out.symm, xe⟩
   · have b3 : (x.beta == y.beta) = false := by simp [h3]
     have HF : Hid (decide (x = y) = false) := by unfold Hid; simp [HQ.out, h3]
     clear h2 h3 HQ
     go_enter Tryz.func95, Tryz.ntmps95
     go_wp2_with fail
     go_ret
     exact ⟨ret_bool HF.out.symm, xe⟩
 · have b2 : (x.ts == y.ts) = false := by simp [h2]
   have HF : Hid (decide (x = y) = false) := by unfold Hid; simp [HQ.out, h2]
   clear h2 HQ
   go_enter Tryz.func95, Tryz.ntmps95
   go_wp2_with fail
   go_ret
   exact ⟨ret_bool HF.out.symm, xe⟩
theorem spec_EqualSegments (v1 v2 : Value) (x y : DSegment) (w : World) (g1 : SegmentV w.heap.size w v1 x) (g2 : SegmentV w.heap.size w v2 y) :
 Calls Tryz.prog 96 #[v1, v2] w fun e w' => e = .returned (.bool (decide (x = y))) ∧ Ext w w' := by
 obtain ⟨A1, n1, c1, rfl, s1⟩ := g1;obtain ⟨A2, n2, c2, rfl, s2⟩ := g2;have S1 := Lib.hid s1; clear s1;have S2 := Lib.hid s2; clear s2;have HQ : Hid (x = y ↔ x.ts = y.ts ∧ x.beta = y.beta ∧ x.hops = y.hops) := DSegment.eq_iff;by_cases h2 : x.ts = y.ts
 · have b2 : (x.ts == y.ts) = true := by simp [h2]
   by_cases h3 : x.beta = y.beta
   · have b3 : (x.beta == y.beta) = true := by simp [h3]
     have HF : Hid (decide (x = y) = decide (x.hops = y.hops)) := by unfold Hid; simp [HQ.out, h2, h3]
     clear h2 h3 HQ
     go_enter Tryz.func96, Tryz.ntmps96
     go_wp2_with fail
     refine (spec_l9SameHops _ _ x.hops y.hops _ (by exact S1.out.ext xe) (by exact S2.out.ext xe)).mono ?_;rintro e w1 ⟨rfl, he⟩;go_wp2_with fail
     go_ret
     exact ⟨ret_bool HF.out.symm, xe⟩
   · have b3 : (x.beta == y.beta) = false := by simp [h3]
     have HF : Hid (decide (x = y) = false) := by unfold Hid; simp [HQ.out, h3]
     clear h2 h3 HQ
     go_enter Tryz.func96, Tryz.ntmps96
     go_wp2_with fail
     go_ret
     exact ⟨ret_bool HF.out.symm, xe⟩
 · have b2 : (x.ts == y.ts) = false := by simp [h2]
   have HF : Hid (decide (x = y) = false) := by unfold Hid; simp [HQ.out, h2]
   clear h2 HQ
   go_enter Tryz.func96, Tryz.ntmps96
   go_wp2_with fail
   go_ret
   exact ⟨ret_bool HF.out.symm, xe⟩
theorem impl_copyHops (v : Value) (xs : List DHop) (w : World) (h : HopS w.heap.size w v xs) (hl : xs.length ≤ 100000000) :
 Calls Tryz.prog 70 #[v] w fun e w' => ∃ v', e = .returned v' ∧ HopSO w.heap.size w'.heap.size w' v' xs ∧ Ext w w' := by
 obtain ⟨A, n, c, rfl, hl1, hn, hm, -⟩ := id h;subst hl1;have H := Lib.hid h; clear h
 go_enter Tryz.func70, Tryz.ntmps70
 go_wp2_with (at_builtin; refine hold ?_)
 refine unhold (wpList_app w rfl (.tmp 3) (.tmp 4) _ rfl 91 _ 5 40 Tryz.underlying31 info_Hop rfl (by omega) _ 0 [] rfl A xs.length c (xs.flatMap HopC) rfl
  (own_zero w _ 5 _ (Nat.le_refl _)) (by exact row_Hop (H.out.ext xe)) (one_Hop xs) xe (by unfold maxLen; omega) (by omega) ?_)
 intro v1 w1 ho1 he1 _ _;have O1 := Lib.hid ho1; clear ho1;go_wp2_with (at_builtin; refine hold ?_)
 go_ret
 exact ⟨_, rfl, by simpa using O1.out, he1⟩
theorem impl_copySegment (vs : Value) (s : DSegment) (w : World) (hs : SegmentV w.heap.size w vs s) (hn : s.hops.length ≤ 100000000) :
 Calls Tryz.prog 36 #[vs] w fun e w' => ∃ v', e = .returned v' ∧ SegmentO w.heap.size w'.heap.size w' v' s ∧ Ext w w' := by
 obtain ⟨As_2, ns_2, cs_2, rfl, ss_2⟩ := id hs;obtain ⟨ls_2, ks_2, ms_2⟩ := ss_2.len;subst ls_2;unfold maxLen at ms_2;have Rs := Lib.hid hs; clear hs;have Ss_2 := Lib.hid ss_2; clear ss_2
 go_enter Tryz.func36, Tryz.ntmps36
 go_wp2_with fail
 refine name_calls (fun W => Ext w W ∧ Blk W w.heap.size 33 [I s.ts, I s.beta, .slice As_2 s.hops.length cs_2] ∧ Blk W (w.heap.size + 1) 33 [I 0, I 0, .slice none 0 0]) ⟨xe, xb, xb⟩ ?_;rintro w0 ⟨ew0, bs, br⟩;have ls := bs.lt;have lr := br.lt;have BR := Lib.hid br; have BS := Lib.hid bs; clear br bs;refine (impl_copyHops _ s.hops _ (by exact Ss_2.out.ext xe) (by omega)).mono ?_;rintro e w1 ⟨v1, rfl, o1, e1⟩;have O1 := Lib.hid o1; clear o1;obtain ⟨a1, m1, q1, hv1⟩ : ∃ a n c, v1 = .slice a n c := O1.out.slice;subst hv1;have bs := BS.out.ext (e1);have lbs := bs.lt;obtain ⟨qbs_0, qbs_1, qbs_2⟩ := blk3 bs;have fbs_0 := bs.frozen 0;have fbs_1 := bs.frozen 1;have fbs_2 := bs.frozen 2;clear bs;have br := BR.out.ext (e1);have lbr := br.lt;obtain ⟨qbr_0, qbr_1, qbr_2⟩ := blk3 br;have fbr_0 := br.frozen 0;have fbr_1 := br.frozen 1;have fbr_2 := br.frozen 2;clear br;have z1 := e1.size;go_wp2_with fail
 refine bodyPost_ret (v := .agg #[I s.ts, I s.beta, .slice a1 m1 q1]) (by simp [results, Tryz.results36, go_sem, *]) rfl ⟨_, rfl, ?_, ?_⟩
 · simp only [World.size_setCell]
   refine ⟨_, rfl, Own.more (lo := w0.heap.size) (hi := w1.heap.size) (xw O1.out) (by omega) (by omega), by omega⟩
 · exact xe
theorem spec_l9Copy (vs : Value) (s : DSegment) (w : World) (hs : SegmentV w.heap.size w vs s) (hn : s.hops.length ≤ 100000000) :
 Calls Tryz.prog 43 #[vs] w fun e w' => ∃ v', e = .returned v' ∧ SegmentO w.heap.size w'.heap.size w' v' s ∧ Ext w w' := by
 obtain ⟨As_2, ns_2, cs_2, rfl, ss_2⟩ := id hs;obtain ⟨ls_2, ks_2, ms_2⟩ := ss_2.len;subst ls_2;unfold maxLen at ms_2;have Rs := Lib.hid hs; clear hs;have Ss_2 := Lib.hid ss_2; clear ss_2
 go_enter Tryz.func43, Tryz.ntmps43
 go_wp2_with fail
 refine name_wp (fun W => Ext w W ∧ Blk W w.heap.size 33 [I s.ts, I s.beta, .slice As_2 s.hops.length cs_2] ∧ Blk W (w.heap.size + 1) 33 [I 0, I 0, .slice none 0 0]) ⟨xe, xb, xb⟩ ?_;rintro w0 ⟨ew0, bs, br⟩;have ls := bs.lt;have lr := br.lt;obtain ⟨p0, p1, p2⟩ := blk3 bs;have BR := Lib.hid br; clear br bs;refine wp_region_LT 9 (E := Ext) (w0 := w0) (G := fun τ => match τ with | 7 => some (fun v W => Fresh0 91 w0.heap.size v W) | 10 => some (fun v W => HopSO w0.heap.size W.heap.size W v (s.hops)) | _ => none) Ext.refl (fun h k => Ext.trans h k) (by kernel_rfl) (by kernel_rfl) (by kernel_rfl) (by kernel_rfl) (by kernel_rfl) (by kernel_rfl) xg (Ext.drew (by exact Ext.refl _)) ?_;simp only [List.take_succ_cons, List.take_zero]
 repeat' (first
  | ((with_reducible refine wpL_skip ?_ ?_ ?_)
     · rfl
     · rfl
     simp only [putS])
  | ((with_reducible refine wpL_quiet ?_ ?_ ?_ ?_)
     · rfl
     · rfl
     · rfl
     apply Exists.intro
     refine ⟨fun W hW hS => ?_, ?_⟩
     · have hC := (Ext.facts hW).1
       go_simp
       first | done | (with_reducible rfl) | (rw [if_neg (by omega)]; exact ⟨rfl, rfl⟩) | rfl
     first | (with_reducible refine wpL_boolT ?_) | (with_reducible refine wpL_boolF ?_) | (with_reducible refine wpL_bool (fun hB => ?_) (fun hB => ?_)) | skip
     all_goals simp only [putS])
  | ((refine wpL_grow ?_ rfl rfl ?_ ?_)
     · rfl
     · intro W hW hS
       first | (exact grow_app0 (.tmp 7) (.tmp 9) _ rfl 91 _ 5 40 Tryz.underlying31 info_Hop rfl (by omega) w0.heap.size _ rfl (hS 7 (by decide)) _ _ _ _ rfl (by exact row_Hop (Ss_2.out.ext (Ext.trans (by assumption) hW))) (one_Hop _) (by unfold maxLen; omega) (by omega) (fun v1 w1 o1 => o1)) | skip
       all_goals have hC := (Ext.facts hW).1
       all_goals unfold growAt
       all_goals go_simp
       all_goals simp only [growUpon]
       all_goals first | (exact ⟨xe, Fresh0.new _ 91 _ _ rfl (Ext.size (by assumption))⟩)
     intro v W' hW' hv
     first | (obtain ⟨g5, rfl, -⟩ := hv) | (obtain ⟨A5, n5, c5, rfl⟩ := Own.slice hv) | (obtain ⟨A5, n5, c5, rfl, -⟩ := id hv; clear hv) | (obtain ⟨A5, n5, c5, rfl⟩ := NO.slice hv) | skip
     all_goals simp only [putS]))
 refine wpL_nil (fun w1 e1 hL => ?_);have o1 : HopSO w0.heap.size w1.heap.size w1 _ s.hops := hL 10;have O1 := Lib.hid o1; clear o1 hL;have br := BR.out.ext (e1);have lbr := br.lt;obtain ⟨qbr_0, qbr_1, qbr_2⟩ := blk3 br;have fbr_0 := br.frozen 0;have fbr_1 := br.frozen 1;have fbr_2 := br.frozen 2;clear br;have z1 := e1.size;simp only [List.drop_succ_cons, List.drop_zero];go_wp2_with fail
 refine bodyPost_ret (v := .agg #[I s.ts, I s.beta, _]) (by simp [results, Tryz.results43, go_sem, *]; rfl) rfl ⟨_, rfl, ?_, ?_⟩
 · simp only [World.size_setCell]
   refine ⟨_, rfl, Own.more (lo := w0.heap.size) (hi := w1.heap.size) (xw O1.out) (by omega) (by omega), by omega⟩
 · exact xe
def dHop : DHop := ⟨0, 0, 0, 0, 0⟩
def lastAS (s : DSegment) : Int := if s.hops.length = 0 then -1 else (s.hops.getD (s.hops.length - 1) dHop).asn
def firstAS (s : DSegment) : Int := if s.hops.length = 0 then -1 else (s.hops.getD 0 dHop).asn
theorem getD_is {α : Type} {l : List α} {k : Nat} {d : α} (h : k < l.length) : l.getD k d = l[k] := by simp [List.getD_eq_getElem?_getD, h]
theorem impl_LastAS (vs : Value) (s : DSegment) (w : World) (hs : SegmentV w.heap.size w vs s) :
 Calls Tryz.prog 49 #[vs] w fun e w' => e = .returned (I (lastAS s)) ∧ Ext w w' := by
 obtain ⟨As_2, ns_2, cs_2, rfl, ss_2⟩ := id hs;obtain ⟨ls_2, ks_2, ms_2⟩ := ss_2.len;subst ls_2;unfold maxLen at ms_2;have Rs := Lib.hid hs; clear hs;have Ss_2 := Lib.hid ss_2; clear ss_2;by_cases h0 : s.hops.length = 0
 · have HF : Hid (lastAS s = -1) := by unfold Hid lastAS; rw [if_pos h0]
   go_enter Tryz.func49, Tryz.ntmps49
   go_wp2_with fail
   go_ret
   exact ⟨ret_int HF.out.symm, xe⟩
 · obtain ⟨m, hm⟩ : ∃ m, s.hops.length = m + 1 := ⟨s.hops.length - 1, by omega⟩
   have hml : m < s.hops.length := by omega
   obtain ⟨b, off, rfl, hb, hkl, hc⟩ := Ss_2.out.at_ hml
   have HF : Hid (lastAS s = s.hops[m].asn) := by unfold Hid lastAS; rw [if_neg h0, show s.hops.length - 1 = m by omega, getD_is hml]
   generalize s.hops[m] = x at *
   obtain ⟨h0_, h1_, h2_, h3_, h4_⟩ := hc
   have e1 : (s.hops.length : Int) - 1 = (m : Int) := by omega
   have d0 : ((s.hops.length : Int) == 0) = false := beq_eq_false_iff_ne.2 (by omega);have HM := Lib.hid hm; clear hm
   go_enter Tryz.func49, Tryz.ntmps49
   go_wp2_with fail
   go_ret
   exact ⟨ret_int HF.out.symm, xe⟩
theorem spec_LastAS (vs : Value) (s : DSegment) (w : World) (hs : SegmentV w.heap.size w vs s) :
 Calls Tryz.prog 50 #[vs] w fun e w' => e = .returned (I (lastAS s)) ∧ Ext w w' := by
 obtain ⟨As_2, ns_2, cs_2, rfl, ss_2⟩ := id hs;obtain ⟨ls_2, ks_2, ms_2⟩ := ss_2.len;subst ls_2;unfold maxLen at ms_2;have Rs := Lib.hid hs; clear hs;have Ss_2 := Lib.hid ss_2; clear ss_2;by_cases h0 : s.hops.length = 0
 · have HF : Hid (lastAS s = -1) := by unfold Hid lastAS; rw [if_pos h0]
   go_enter Tryz.func50, Tryz.ntmps50
   go_wp2_with fail
   go_ret
   exact ⟨ret_int HF.out.symm, xe⟩
 · obtain ⟨m, hm⟩ : ∃ m, s.hops.length = m + 1 := ⟨s.hops.length - 1, by omega⟩
   have hml : m < s.hops.length := by omega
   obtain ⟨b, off, rfl, hb, hkl, hc⟩ := Ss_2.out.at_ hml
   have HF : Hid (lastAS s = s.hops[m].asn) := by unfold Hid lastAS; rw [if_neg h0, show s.hops.length - 1 = m by omega, getD_is hml]
   generalize s.hops[m] = x at *
   obtain ⟨h0_, h1_, h2_, h3_, h4_⟩ := hc
   have e1 : (s.hops.length : Int) - 1 = (m : Int) := by omega
   have d0 : ((s.hops.length : Int) == 0) = false := beq_eq_false_iff_ne.2 (by omega);have HM := Lib.hid hm; clear hm
   go_enter Tryz.func50, Tryz.ntmps50
   go_wp2_with fail
   go_ret
   exact ⟨ret_int HF.out.symm, xe⟩
theorem impl_FirstAS (vs : Value) (s : DSegment) (w : World) (hs : SegmentV w.heap.size w vs s) :
 Calls Tryz.prog 93 #[vs] w fun e w' => e = .returned (I (firstAS s)) ∧ Ext w w' := by
 obtain ⟨As_2, ns_2, cs_2, rfl, ss_2⟩ := id hs;obtain ⟨ls_2, ks_2, ms_2⟩ := ss_2.len;subst ls_2;unfold maxLen at ms_2;have Rs := Lib.hid hs; clear hs;have Ss_2 := Lib.hid ss_2; clear ss_2;by_cases h0 : s.hops.length = 0
 · have HF : Hid (firstAS s = -1) := by unfold Hid firstAS; rw [if_pos h0]
   go_enter Tryz.func93, Tryz.ntmps93
   go_wp2_with fail
   go_ret
   exact ⟨ret_int HF.out.symm, xe⟩
 · have hml : 0 < s.hops.length := by omega
   obtain ⟨b, off, rfl, hb, hkl, hc⟩ := Ss_2.out.at_ hml
   have HF : Hid (firstAS s = s.hops[0].asn) := by unfold Hid firstAS; rw [if_neg h0, getD_is hml]
   generalize s.hops[0] = x at *
   simp only [HopAt, Nat.zero_mul, Nat.add_zero] at hc;obtain ⟨h0_, h1_, h2_, h3_, h4_⟩ := hc;have d0 : ((s.hops.length : Int) == 0) = false := beq_eq_false_iff_ne.2 (by omega)
   have d1 : (0 : Int) < (s.hops.length : Int) := by omega
   go_enter Tryz.func93, Tryz.ntmps93
   go_wp2_with fail
   go_ret
   exact ⟨ret_int HF.out.symm, xe⟩
theorem spec_FirstAS (vs : Value) (s : DSegment) (w : World) (hs : SegmentV w.heap.size w vs s) :
 Calls Tryz.prog 80 #[vs] w fun e w' => e = .returned (I (firstAS s)) ∧ Ext w w' := by
 obtain ⟨As_2, ns_2, cs_2, rfl, ss_2⟩ := id hs;obtain ⟨ls_2, ks_2, ms_2⟩ := ss_2.len;subst ls_2;unfold maxLen at ms_2;have Rs := Lib.hid hs; clear hs;have Ss_2 := Lib.hid ss_2; clear ss_2;by_cases h0 : s.hops.length = 0
 · have HF : Hid (firstAS s = -1) := by unfold Hid firstAS; rw [if_pos h0]
   go_enter Tryz.func80, Tryz.ntmps80
   go_wp2_with fail
   go_ret
   exact ⟨ret_int HF.out.symm, xe⟩
 · have hml : 0 < s.hops.length := by omega
   obtain ⟨b, off, rfl, hb, hkl, hc⟩ := Ss_2.out.at_ hml
   have HF : Hid (firstAS s = s.hops[0].asn) := by unfold Hid firstAS; rw [if_neg h0, getD_is hml]
   generalize s.hops[0] = x at *
   simp only [HopAt, Nat.zero_mul, Nat.add_zero] at hc;obtain ⟨h0_, h1_, h2_, h3_, h4_⟩ := hc;have d0 : ((s.hops.length : Int) == 0) = false := beq_eq_false_iff_ne.2 (by omega)
   have d1 : (0 : Int) < (s.hops.length : Int) := by omega
   go_enter Tryz.func80, Tryz.ntmps80
   go_wp2_with fail
   go_ret
   exact ⟨ret_int HF.out.symm, xe⟩
end Go.Proofs.YtmopmgaeiokfjaaGreat
