/- Contracts of the program's and the reference's functions on beacons: equality, HasBeacon, copies. -/
import Derived.Test.YtmopmgaeiokfjaaGreatGL14
import Derived.Test.YtmopmgaeiokfjaaGreatGL9
import Derived.Test.YtmopmgaeiokfjaaGreatGGrow
import Derived.Test.YtmopmgaeiokfjaaGreatGHS
import Derived.Test.YtmopmgaeiokfjaaGreatGL0
set_option maxRecDepth 100000
set_option maxHeartbeats 1000000
namespace Go.Proofs.YtmopmgaeiokfjaaGreat
open Go.RowKit
set_option linter.unusedVariables false
theorem spec_l14Same (va vb : Value) (a b : DBeacon) (w : World) (ha : BeaconV w.heap.size w va a) (hb : BeaconV w.heap.size w vb b) :
 Calls Tryz.prog 162 #[va, vb] w fun e w' => e = .returned (.bool (decide (a = b))) ∧ Ext w w' := by
 obtain ⟨Aa_3, na_3, ca_3, rfl, sa_3⟩ := id ha;obtain ⟨la_3, ka_3, ma_3⟩ := sa_3.len;subst la_3;unfold maxLen at ma_3;have Ra := Lib.hid ha; clear ha;have Sa_3 := Lib.hid sa_3; clear sa_3;obtain ⟨Ab_3, nb_3, cb_3, rfl, sb_3⟩ := id hb;obtain ⟨lb_3, kb_3, mb_3⟩ := sb_3.len;subst lb_3;unfold maxLen at mb_3;have Rb := Lib.hid hb; clear hb;have Sb_3 := Lib.hid sb_3; clear sb_3;by_cases h0 : a.ing = b.ing
 · have d0 : (a.ing == b.ing) = true := beq_iff_eq.2 h0
   have HF : Hid (decide (a = b) = decide (a.seg = b.seg)) := by unfold Hid; rw [decide_eq_decide, DBeacon.eq_iff]; exact ⟨fun h => h.2, fun h => ⟨h0, h⟩⟩
   clear h0
   go_enter Tryz.func162, Tryz.ntmps162
   go_wp2_with fail
   first | refine name_wp ?_ ?_ ?_ | refine name_calls ?_ ?_ ?_
   exact (fun W => Ext w W ∧ Blk W (w.heap.size) 78 [I a.ing, I a.seg.ts, I a.seg.beta, .slice Aa_3 a.seg.hops.length ca_3] ∧ Blk W (w.heap.size + 1) 78 [I b.ing, I b.seg.ts, I b.seg.beta, .slice Ab_3 b.seg.hops.length cb_3]);exact ⟨xe, xb, xb⟩;rintro w0 ⟨ew0, ba, bb⟩;have la := ba.lt;obtain ⟨pa_0, pa_1, pa_2, pa_3⟩ := blk4 ba;have Ba := Lib.hid ba; clear ba;have lb := bb.lt;obtain ⟨pb_0, pb_1, pb_2, pb_3⟩ := blk4 bb;have Bb := Lib.hid bb; clear bb;refine (spec_EqualSegments _ _ a.seg b.seg _ (by exact segV (Sa_3.out.ext xe)) (by exact segV (Sb_3.out.ext xe))).mono ?_;rintro e w1 ⟨rfl, e1⟩;go_wp2_with fail
   go_ret
   exact ⟨ret_bool HF.out.symm, xe⟩
 · have d0 : (a.ing == b.ing) = false := beq_eq_false_iff_ne.2 h0
   have HF : Hid (decide (a = b) = false) := decide_eq_false (fun h => h0 (by rw [h]));clear h0
   go_enter Tryz.func162, Tryz.ntmps162
   go_wp2_with fail
   go_ret
   exact ⟨ret_bool HF.out.symm, xe⟩
theorem spec_HasBeacon (vl vg : Value) (l : List DBeacon) (g : DBeacon) (w : World) (hl : BeaconS w.heap.size w vl l) (hg : BeaconV w.heap.size w vg g) :
 Calls Tryz.prog 158 #[vl, vg] w fun e w' => e = .returned (.bool (hasBcn l g)) ∧ Ext w w' := by
 obtain ⟨Al, nl, cl, rfl, ll, kl, ml, -⟩ := id hl;subst ll;unfold maxLen at ml;have Rl := Lib.hid hl; clear hl;obtain ⟨Ag_3, ng_3, cg_3, rfl, sg_3⟩ := id hg;obtain ⟨lg_3, kg_3, mg_3⟩ := sg_3.len;subst lg_3;unfold maxLen at mg_3;have Rg := Lib.hid hg; clear hg;have Sg_3 := Lib.hid sg_3; clear sg_3
 go_enter Tryz.func158, Tryz.ntmps158
 go_wp2_with fail
 first | refine name_wp ?_ ?_ ?_ | refine name_calls ?_ ?_ ?_
 exact (fun W => Ext w W ∧ Blk W (w.heap.size) 78 [I g.ing, I g.seg.ts, I g.seg.beta, .slice Ag_3 g.seg.hops.length cg_3]);exact ⟨xe, xb⟩;rintro w0 ⟨ew0, bg⟩;have lg := bg.lt;obtain ⟨pg_0, pg_1, pg_2, pg_3⟩ := blk4 bg;have Bg := Lib.hid bg; clear bg
 go_loopw [5] (fun i wr => ∃ k : Nat, k ≤ l.length ∧ i = I k ∧ hasBcn (l.take k) g = false ∧ Ext w0 wr) (fun i _ => l.length - (intOf i).toNat)
 case atStart => exact ⟨0, by omega, rfl, by simp [hasBcn], Ext.refl _⟩
 case round =>
  obtain ⟨k, hk, rfl, hq, he⟩ := hrel;have HQ := Lib.hid hq; clear hq;have bg := Bg.out.ext (w' := wr) xe;have lg := bg.lt;obtain ⟨pg_0, pg_1, pg_2, pg_3⟩ := blk4 bg;clear bg;by_cases hlt : k < l.length
  · obtain ⟨b, off, rfl, hb, hkl, hc⟩ := (Rl.out.ext (w' := wr) xe).at_ hlt
    have HN := Lib.hid (hasBcn_snoc l g k hkl);have HO := Lib.hid (hasBcn_of l g k hkl)
    generalize l[k] = u at *
    have i0 : (0 : Int) ≤ (k : Int) := by omega
    have i1 : (k : Int) < (l.length : Int) := by omega
    obtain ⟨Au_3, nu_3, cu_3, hu_0, hu_1, hu_2, hu_3, su_3⟩ := hc;obtain ⟨lu_3, ku_3, mu_3⟩ := su_3.len;subst lu_3;unfold maxLen at mu_3
    have Ru : Hid (BeaconV wr.heap.size wr (.agg #[I u.ing, I u.seg.ts, I u.seg.beta, .slice Au_3 u.seg.hops.length cu_3]) u) := ⟨_, _, _, rfl, su_3⟩
    have Su_3 := Lib.hid su_3; clear su_3
    generalize hbb : decide (u = g) = bb at *
    have HBB := Lib.hid hbb; clear hbb;cases bb
    · have HM : Hid (hasBcn (l.take (k + 1)) g = false) := by unfold Hid; rw [HN.out, HQ.out]; rfl
      go_wp2_with fail
      refine wp_region_L (E := Ext) (w0 := wr) (G := fun τ => match τ with | 17 => some (fun v W => v = .bool false) | _ => none) Ext.refl (fun h k => Ext.trans h k) (by kernel_rfl) (by kernel_rfl) xg (Ext.drew (by exact Ext.refl _)) ?_
      repeat' (first
       | ((with_reducible refine wpL_skip ?_ ?_ ?_)
          · rfl
          · rfl
          simp only [putS])
       | ((with_reducible refine wpL_quiet ?_ ?_ ?_ ?_)
          · rfl
          · rfl
          · rfl
          apply Exists.intro
          refine ⟨fun W hW hS => ?_, ?_⟩
          · have hC := (Ext.facts hW).1
            go_simp
            first | done | (with_reducible rfl) | (rw [if_neg (by omega)]; exact ⟨rfl, rfl⟩) | rfl
          first | (with_reducible refine wpL_boolT ?_) | (with_reducible refine wpL_boolF ?_) | (with_reducible refine wpL_bool (fun hB => ?_) (fun hB => ?_)) | skip
          all_goals simp only [putS])
       | ((refine wpL_call ?_ rfl rfl ?_ ?_ ?_)
          · rfl
          · rfl
          · intro W hW hS
            have hC := (Ext.facts hW).1;unfold growAt
            go_simp
            simp only [growUpon]
            first | (go_at_call 162; (with_reducible refine Calls.mono (spec_l14Same _ _ u g _ (by exact Ru.out.ext xe) (by exact Rg.out.ext xe)) ?_); rintro e w9 ⟨rfl, e9⟩; exact ⟨_, rfl, e9, by rw [HBB.out]⟩)
          first | (with_reducible refine wpL_boolT ?_) | (with_reducible refine wpL_boolF ?_) | (with_reducible refine wpL_bool (fun hB => ?_) (fun hB => ?_)) | skip
          all_goals simp only [putS])
       | ((refine wpL_grow ?_ rfl rfl ?_ ?_)
          · rfl
          · intro W hW hS
            have hC := (Ext.facts hW).1;unfold growAt
            go_simp
            simp only [growUpon]
            first | (go_at_call 162; (with_reducible refine Calls.mono (spec_l14Same _ _ u g _ (by exact Ru.out.ext xe) (by exact Rg.out.ext xe)) ?_); rintro e w9 ⟨rfl, e9⟩; exact ⟨_, rfl, e9, by rw [HBB.out]⟩)
          intro v W' hW' hv
          first | (subst hv) | (obtain ⟨A5, n5, c5, rfl, -⟩ := id hv; clear hv) | (obtain ⟨A5, n5, c5, rfl⟩ := NO.slice hv) | skip
          all_goals simp only [putS]))
      refine wpL_nil (fun w4 e4 hL => ?_);clear hL;go_wp2_with fail
      go_roundw
      case rel => exact ⟨k + 1, by omega, by go_num, HM.out, xe⟩
      case measure => simp [intOf]; omega
    · go_wp2_with fail
      refine wp_region_L (E := Ext) (w0 := wr) (G := fun τ => match τ with | 17 => some (fun v W => v = .bool true) | _ => none) Ext.refl (fun h k => Ext.trans h k) (by kernel_rfl) (by kernel_rfl) xg (Ext.drew (by exact Ext.refl _)) ?_
      repeat' (first
       | ((with_reducible refine wpL_skip ?_ ?_ ?_)
          · rfl
          · rfl
          simp only [putS])
       | ((with_reducible refine wpL_quiet ?_ ?_ ?_ ?_)
          · rfl
          · rfl
          · rfl
          apply Exists.intro
          refine ⟨fun W hW hS => ?_, ?_⟩
          · have hC := (Ext.facts hW).1
            go_simp
            first | done | (with_reducible rfl) | (rw [if_neg (by omega)]; exact ⟨rfl, rfl⟩) | rfl
          first | (with_reducible refine wpL_boolT ?_) | (with_reducible refine wpL_boolF ?_) | (with_reducible refine wpL_bool (fun hB => ?_) (fun hB => ?_)) | skip
          all_goals simp only [putS])
       | ((refine wpL_call ?_ rfl rfl ?_ ?_ ?_)
          · rfl
          · rfl
          · intro W hW hS
            have hC := (Ext.facts hW).1;unfold growAt
            go_simp
            simp only [growUpon]
            first | (go_at_call 162; (with_reducible refine Calls.mono (spec_l14Same _ _ u g _ (by exact Ru.out.ext xe) (by exact Rg.out.ext xe)) ?_); rintro e w9 ⟨rfl, e9⟩; exact ⟨_, rfl, e9, by rw [HBB.out]⟩)
          first | (with_reducible refine wpL_boolT ?_) | (with_reducible refine wpL_boolF ?_) | (with_reducible refine wpL_bool (fun hB => ?_) (fun hB => ?_)) | skip
          all_goals simp only [putS])
       | ((refine wpL_grow ?_ rfl rfl ?_ ?_)
          · rfl
          · intro W hW hS
            have hC := (Ext.facts hW).1;unfold growAt
            go_simp
            simp only [growUpon]
            first | (go_at_call 162; (with_reducible refine Calls.mono (spec_l14Same _ _ u g _ (by exact Ru.out.ext xe) (by exact Rg.out.ext xe)) ?_); rintro e w9 ⟨rfl, e9⟩; exact ⟨_, rfl, e9, by rw [HBB.out]⟩)
          intro v W' hW' hv
          first | (subst hv) | (obtain ⟨A5, n5, c5, rfl, -⟩ := id hv; clear hv) | (obtain ⟨A5, n5, c5, rfl⟩ := NO.slice hv) | skip
          all_goals simp only [putS]))
      refine wpL_nil (fun w4 e4 hL => ?_);clear hL;go_wp2_with fail
      go_ret
      exact ⟨ret_bool (HO.out (by simp)).symm, xe⟩
  · obtain rfl : k = l.length := by omega
    go_wp2_with fail
    go_ret
    have h := HQ.out;rw [List.take_length] at h;exact ⟨ret_bool h.symm, xe⟩
theorem BeaconOC.of_seg {W : World} {fp : List Nat} {ing ts be : Int} {v : Value} {x : DSegment} (h : SegmentOC W fp [I ts, I be, v] x) : BeaconOC W fp [I ing, I ts, I be, v] ⟨ing, x⟩ := by
 obtain ⟨u, e, r, f⟩ := h;simp only [List.cons.injEq, and_true] at e;obtain ⟨e1, e2, rfl⟩ := e;exact ⟨_, by rw [e1, e2], r, f⟩
theorem BeaconO.of_seg {W : World} {lo hi : Nat} {ing ts be : Int} {v : Value} {x : DSegment} (h : SegmentO lo hi W (.agg #[I ts, I be, v]) x) : BeaconO lo hi W (.agg #[I ing, I ts, I be, v]) ⟨ing, x⟩ := by
 obtain ⟨u, e, oh, hl⟩ := h;have e2 := congrArg Array.toList (Value.agg.inj e);simp only [List.cons.injEq, and_true] at e2;obtain ⟨e3, e4, e5⟩ := e2;exact ⟨v, by rw [e3, e4], by rw [e5]; exact oh, hl⟩
theorem SegmentO.vals {W : World} {lo hi : Nat} {v : Value} {x : DSegment} (h : SegmentO lo hi W v x) : ∃ A n c, v = .agg #[I x.ts, I x.beta, .slice A n c] ∧ Own 91 5 lo hi W (.slice A n c) x.hops.length (x.hops.flatMap HopC) := by
 obtain ⟨u, e, oh, hl⟩ := h;obtain ⟨a, m, c, rfl⟩ := oh.slice;exact ⟨a, m, c, e, oh⟩
theorem spec_l14Copy (vl : Value) (l : List DBeacon) (w : World) (hl : BeaconS w.heap.size w vl l) (hn : bcnTot l ≤ 10000000) :
 Calls Tryz.prog 157 #[vl] w fun e w' => ∃ v', e = .returned v' ∧ BeaconSO w.heap.size w'.heap.size w' v' l ∧ Ext w w' := by
 obtain ⟨Al, nl, cl, rfl, ll, kl, ml, -⟩ := id hl;subst ll;unfold maxLen at ml;have Rl := Lib.hid hl; clear hl;have hn : totS (fun u : DBeacon => u.seg.hops.length) l ≤ 10000000 := hn;have hdl := totS_len (fun u : DBeacon => u.seg.hops.length) l
 go_enter Tryz.func157, Tryz.ntmps157
 go_wp2_with fail
 go_loopw [3, 4] (fun v i wr => ∃ k : Nat, k ≤ l.length ∧ i = I k ∧ BeaconSO w.heap.size wr.heap.size wr v (l.take k) ∧ Ext w wr) (fun _ i _ => l.length - (intOf i).toNat)
 case atStart => exact ⟨0, by omega, rfl, NO.zero _ _ _ _ _ _ rfl (Nat.le_refl _), xe⟩
 case round =>
  obtain ⟨k, hk, rfl, hno, he⟩ := hrel;have HNO := Lib.hid hno; clear hno;obtain ⟨av, nv, cv, hvv⟩ := NO.slice HNO.out;subst hvv;have zr := he.size;by_cases hlt : k < l.length
  · obtain ⟨b, off, rfl, hb, hkl, hc⟩ := (Rl.out.ext (w' := wr) xe).at_ hlt
    have hyl : l[k].seg.hops.length ≤ totS (fun u : DBeacon => u.seg.hops.length) l := totS_get (fun u : DBeacon => u.seg.hops.length) l k hkl;have HX := Lib.hid (take_snoc l k hkl);have hfl := List.length_take_le k l;have HCC := Lib.hid hc
    generalize l[k] = u at *
    generalize l.take k = ds at *
    have i0 : (0 : Int) ≤ (k : Int) := by omega
    have i1 : (k : Int) < (l.length : Int) := by omega
    obtain ⟨Au_3, nu_3, cu_3, hu_0, hu_1, hu_2, hu_3, su_3⟩ := hc;obtain ⟨lu_3, ku_3, mu_3⟩ := su_3.len;subst lu_3;unfold maxLen at mu_3
    have Ru : Hid (BeaconV wr.heap.size wr (.agg #[I u.ing, I u.seg.ts, I u.seg.beta, .slice Au_3 u.seg.hops.length cu_3]) u) := ⟨_, _, _, rfl, su_3⟩
    have Su_3 := Lib.hid su_3; clear su_3;go_wp2_with fail
    refine (spec_l9Copy _ u.seg _ (by exact segV (Su_3.out.ext xe)) (by omega)).mono ?_;rintro e w5 ⟨v5, rfl, o5, ew5⟩;have z5 := ew5.size;obtain ⟨a5, k5, q5, fp5, hv5, hoc5, hn5, hb5⟩ := o5.to_oc;subst hv5;have HOC5 := Lib.hid hoc5; have HN5 := Lib.hid hn5; have HB5 := Lib.hid hb5; clear o5 hoc5 hn5 hb5
    have hcell : w5.cell? ⟨b, off + k * 4, none⟩ = some (I u.ing) := by
     obtain ⟨_, _, _, c0, -⟩ := HCC.out;rw [ew5.cell (by omega)];exact c0
    go_wp2_with fail
    refine name_wp (fun W => Ext w5 W ∧ Blk W w5.heap.size 33 [I u.seg.ts, I u.seg.beta, .slice a5 k5 q5]) ⟨xe, xb⟩ ?_;rintro w6 ⟨ew6, bs⟩;have z6 := ew6.size
    have hcell6 : w6.cell? ⟨b, off + k * 4, none⟩ = some (I u.ing) := by rw [ew6.cell (by omega)]; exact hcell
    have hb6 : b < w6.heap.size := by omega
    have ls := bs.lt;obtain ⟨qs_0, qs_1, qs_2⟩ := blk3 bs;clear bs hcell;refine wp_region_LT 9 (E := Ext) (w0 := w6) (G := fun τ => match τ with | 27 => some (fun v W => Fresh1 78 w6.heap.size [I u.ing, I u.seg.ts, I u.seg.beta, .slice a5 k5 q5] v W) | _ => none) Ext.refl (fun h k => Ext.trans h k) (by kernel_rfl) (by kernel_rfl) (by kernel_rfl) (by kernel_rfl) (by kernel_rfl) (by kernel_rfl) xg (Ext.drew (by exact Ext.refl _)) ?_;simp only [List.take_succ_cons, List.take_zero]
    repeat' (first
     | ((with_reducible refine wpL_skip ?_ ?_ ?_)
        · rfl
        · rfl
        simp only [putS])
     | ((with_reducible refine wpL_quiet ?_ ?_ ?_ ?_)
        · rfl
        · rfl
        · rfl
        apply Exists.intro
        refine ⟨fun W hW hS => ?_, ?_⟩
        · have hC := (Ext.facts hW).1
          go_simp
          first | done | (with_reducible rfl) | (rw [if_neg (by omega)]; exact ⟨rfl, rfl⟩) | rfl
        first | (with_reducible refine wpL_boolT ?_) | (with_reducible refine wpL_boolF ?_) | (with_reducible refine wpL_bool (fun hB => ?_) (fun hB => ?_)) | skip
        all_goals simp only [putS])
     | ((refine wpL_grow ?_ rfl rfl ?_ ?_)
        · rfl
        · intro W hW hS
          have hC := (Ext.facts hW).1;unfold growAt
          go_simp
          simp only [growUpon]
          first | (exact ⟨xe, Fresh1.new _ 78 _ _ _ rfl (Ext.size (by assumption))⟩)
        intro v W' hW' hv
        first | (obtain ⟨g5, rfl, -⟩ := hv) | (obtain ⟨A5, n5, c5, rfl, -⟩ := id hv; clear hv) | (obtain ⟨A5, n5, c5, rfl⟩ := NO.slice hv) | skip
        all_goals simp only [putS]))
    refine wpL_nil (fun w7 e7 hL => ?_);have f7 : Fresh1 78 w6.heap.size [I u.ing, I u.seg.ts, I u.seg.beta, .slice a5 k5 q5] _ w7 := hL 27;clear hL;obtain ⟨g7, hg7, hgl7, hb7⟩ := f7;cases hg7;have z7 := e7.size;have H7 := Lib.hid hb7; clear hb7;simp only [List.drop_succ_cons, List.drop_zero];go_wp2_with (at_builtin; refine hold ?_)
    refine unhold (wpList_push (OC := BeaconOC) w BeaconOC.keeps BeaconOC.one rfl (.tmp 19) (.tmp 27) _ rfl 78 _ 4 48 Tryz.underlying74 info_Beacon rfl (by omega) _ ds [u] wr.heap.size rfl _ 1 1 _ fp5 rfl
     (by exact NO.at' BeaconOC.keeps HNO.out (w' := w7) xe) (by omega) (by exact row_blk H7.out rfl) (OL.one (BeaconOC.keeps _ _ _ _ _ (fun b hb hs => Ext.same (a := w5) (b := w7) xe b hs) (BeaconOC.of_seg HOC5.out)) rfl) HN5.out (fun b hb => ⟨(by have := HB5.out b hb; omega), (by have := HB5.out b hb; omega)⟩) (by omega) xe (by simp only [List.length_singleton]; omega) (by omega) ?_)
    intro v8 w8 no8 e8;have NO8 := Lib.hid no8; clear no8;go_wp2_with (at_builtin; refine hold ?_)
    go_roundw
    case rel => exact ⟨k + 1, by omega, by go_num, by rw [HX.out]; exact NO8.out, e8⟩
    case measure => simp [intOf]; omega
  · obtain rfl : k = l.length := by omega
    go_wp2_with fail
    go_ret
    refine ⟨_, rfl, ?_, xe⟩;have h := HNO.out;rw [List.take_length] at h;exact h
theorem segIdList_snoc (l : List DHop) (k : Nat) (h : k < l.length) : (l.take (k + 1)).flatMap idInts = (l.take k).flatMap idInts ++ idInts l[k] := by
 rw [take_snoc l k h, List.flatMap_append];simp
theorem idInts_len (l : List DHop) : (l.flatMap idInts).length = l.length * 4 := by
 induction l with
 | nil => rfl
 | cons h l ih => rw [List.flatMap_cons, List.length_append, ih, List.length_cons]; simp only [idInts, List.length_cons, List.length_nil]; omega
theorem spec_SegmentID (vs : Value) (s : DSegment) (w : World) (hs : SegmentV w.heap.size w vs s) (hn : s.hops.length ≤ 10000000) :
 Calls Tryz.prog 163 #[vs] w fun e w' => e = .returned (I (segId s)) ∧ Ext w w' := by
 obtain ⟨As_2, ns_2, cs_2, rfl, ss_2⟩ := id hs;obtain ⟨ls_2, ks_2, ms_2⟩ := ss_2.len;subst ls_2;unfold maxLen at ms_2;have Rs := Lib.hid hs; clear hs;have Ss_2 := Lib.hid ss_2; clear ss_2;have HF : Hid (segId s = digest (segIdList s)) := rfl
 go_enter Tryz.func163, Tryz.ntmps163
 go_wp2_with fail
 refine name_wp (fun W => ∃ wb, Ext w wb ∧ Blk wb w.heap.size 33 [I s.ts, I s.beta, .slice As_2 s.hops.length cs_2] ∧ Ext wb W ∧ IntSO wb.heap.size W.heap.size W (.slice (some ⟨w.heap.size + 1, 0, none⟩) 2 2) [s.ts, s.beta]) ⟨_, xe, xb, (Ext.refl _).alloc _, own_newN _ _ _ _ _ _ _ (by simp) (by simp) (by unfold maxLen; omega) (Nat.le_refl _)⟩ ?_;rintro wz ⟨w0, ew0, bs, ez, hz⟩;have Bs := Lib.hid bs; have HZ := Lib.hid hz; clear bs hz;have bs := Bs.out.ext (w' := wz) xe;have ls := bs.lt;obtain ⟨ps_0, ps_1, ps_2⟩ := blk3 bs;clear bs
 go_loopw [3, 4] (fun v i wr => ∃ k : Nat, k ≤ s.hops.length ∧ i = I k ∧ IntSO w0.heap.size wr.heap.size wr v ([s.ts, s.beta] ++ (s.hops.take k).flatMap idInts) ∧ Ext w0 wr) (fun _ i _ => s.hops.length - (intOf i).toNat)
 case atStart => exact ⟨0, by omega, rfl, HZ.out, ez⟩
 case round =>
  obtain ⟨k, hk, rfl, ho, he⟩ := hrel;have HO := Lib.hid ho; clear ho;clear ps_0 ps_1 ps_2 ls;have bs := Bs.out.ext (w' := wr) xe;have ls := bs.lt;obtain ⟨ps_0, ps_1, ps_2⟩ := blk3 bs;clear bs;by_cases hlt : k < s.hops.length
  · obtain ⟨b, off, rfl, hb, hkl, hc⟩ := (Ss_2.out.ext (w' := wr) xe).at_ hlt
    have HX := Lib.hid (segIdList_snoc s.hops k hkl)
    have hml : ([s.ts, s.beta] ++ (s.hops.take k).flatMap idInts).length ≤ 2 + 4 * k := by rw [List.length_append, idInts_len, List.length_take]; simp only [List.length_cons, List.length_nil]; omega
    generalize s.hops[k] = x at *
    generalize hsl : [s.ts, s.beta] ++ (s.hops.take k).flatMap idInts = sl at *
    have HSL := Lib.hid hsl; clear hsl;obtain ⟨hx_0, hx_1, hx_2, hx_3, hx_4⟩ := hc
    have i0 : (0 : Int) ≤ (k : Int) := by omega
    have i1 : (k : Int) < (s.hops.length : Int) := by omega
    go_wp2_with (at_builtin; refine hold ?_)
    refine unhold (wpList_app w0 rfl (.tmp 23) (.tmp 32) _ rfl 3 (.int .i64 0) 1 8 Tryz.underlying96 info_int rfl (by omega) _ sl.length (sl.map I) rfl _ 4 4 [I x.asn, I x.ing, I x.egr, I x.exp] rfl
     (by exact Own.up HO.out xe) (row_newN _ _ _ _ _ _ (by first | rfl | simp) rfl) (one_ints [x.asn, x.ing, x.egr, x.exp]) xe (by unfold maxLen; omega) (by omega) ?_)
    intro v1 w1 ho1 he1 _ _;have O1 := Lib.hid ho1; clear ho1;go_wp2_with (at_builtin; refine hold ?_)
    go_roundw
    case rel => exact ⟨k + 1, by omega, by go_num, by rw [HX.out, ← List.append_assoc, HSL.out]; unfold IntSO; rw [List.length_append, List.map_append]; exact O1.out, he1⟩
    case measure => simp [intOf]; omega
  · obtain rfl : k = s.hops.length := by omega
    go_wp2_with fail
    have hml : ([s.ts, s.beta] ++ s.hops.flatMap idInts).length = 2 + 4 * s.hops.length := by rw [List.length_append, idInts_len]; simp only [List.length_cons, List.length_nil]; omega
    have h := HO.out;rw [List.take_length] at h;refine (spec_Digest _ (segIdList s) _ (by exact IntSO_rd h)).mono ?_;rintro e w3 ⟨rfl, rfl⟩;go_wp2_with fail
    go_ret
    exact ⟨ret_int HF.out.symm, xe⟩
end Go.Proofs.YtmopmgaeiokfjaaGreat
