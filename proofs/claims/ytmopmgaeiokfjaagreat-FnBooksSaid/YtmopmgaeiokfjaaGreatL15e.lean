/- Contracts of the program's and the reference's functions on beaconing: Propagated. NOT BUILT YET. -/
import Derived.Test.YtmopmgaeiokfjaaGreatL15d
import Derived.Test.YtmopmgaeiokfjaaGreatL13h
set_option maxRecDepth 100000
set_option maxHeartbeats 1000000
namespace Go.Proofs.YtmopmgaeiokfjaaGreat
open Go.RowKit
set_option linter.unusedVariables false
theorem propOne_snoc (t : DTopology) (p : DPolicy) (r : Int) (g : DBeacon) (al : List Int) (j : Nat) (h : j < al.length) : (al.take (j + 1)).map (propMsg t p r g) = (al.take j).map (propMsg t p r g) ++ [propMsg t p r g al[j]] := map_snoc _ al j h
theorem extSeg_yes {t : DTopology} {p : DPolicy} {s : DSegment} {r inn out : Int} (h : extOk t p s r inn out = true) : extSeg t p s r inn out = grownSeg t p s r inn out := by unfold extSeg; rw [h]; rfl
theorem propFlat_len (t : DTopology) (p : DPolicy) (r : Int) (l : List DBeacon) (k : Nat) : ((l.take k).flatMap (propOne t p r)).length ≤ 6 * k := by
 have h : ∀ m : List DBeacon, (m.flatMap (propOne t p r)).length ≤ 6 * m.length := by
  intro m
  induction m with
  | nil => simp
  | cons a m ih =>
    have h1 : (propOne t p r a).length ≤ 6 := by unfold propOne; rw [List.length_map]; exact egrTo_len t p a.seg r a.ing 6
    rw [List.flatMap_cons, List.length_append, List.length_cons];omega
 have h2 := h (l.take k);rw [List.length_take] at h2;omega
theorem spec_Propagated (vt vl : Value) (r : Int) (vg : Value) (t : DTopology) (l : List DPolicy) (got : List DBeacon) (w : World) (ht : TopologyV w.heap.size w vt t) (hl : PolicyS w.heap.size w vl l) (hgot : BeaconS w.heap.size w vg got) (hn : bcnTot got ≤ 1048576) :
 Calls Tryz.prog 114 #[vt, vl, I r, vg] w fun e w' => ∃ v', e = .returned v' ∧ BeaconMessageSO w.heap.size w'.heap.size w' v' (propMsgs t l r got) ∧ Ext w w' := by
 obtain ⟨At_0, nt_0, ct_0, At_1, nt_1, ct_1, rfl, st_0, st_1⟩ := id ht;obtain ⟨lt_0, kt_0, mt_0⟩ := st_0.len;subst lt_0;unfold maxLen at mt_0;obtain ⟨lt_1, kt_1, mt_1⟩ := st_1.len;subst lt_1;unfold maxLen at mt_1;have Rt := Lib.hid ht; clear ht;have St_0 := Lib.hid st_0; clear st_0;have St_1 := Lib.hid st_1; clear st_1;obtain ⟨Al, nl, cl, rfl, ll, kl, ml, -⟩ := id hl;subst ll;unfold maxLen at ml;have Rl := Lib.hid hl; clear hl;obtain ⟨Agot, ngot, cgot, rfl, lgot, kgot, mgot, -⟩ := id hgot;subst lgot;unfold maxLen at mgot;have Rgot := Lib.hid hgot; clear hgot;have hdl : got.length ≤ bcnTot got := totS_len (fun u : DBeacon => u.seg.hops.length) got
 go_enter Tryz.func114, Tryz.ntmps114
 go_wp2_with fail
 refine name_calls (fun W => ∃ wb, wb.heap.size = w.heap.size + 1 ∧ Ext w wb ∧ Blk wb w.heap.size 27 [.slice At_0 t.ases.length ct_0, .slice At_1 t.links.length ct_1] ∧ Ext wb W ∧ BeaconMessageSO wb.heap.size W.heap.size W (.slice (some ⟨w.heap.size + 1, 0, none⟩) 0 0) []) ⟨_, (by simp only [World.size_alloc]), xe, xb, (Ext.refl _).alloc _, NO.zero _ _ _ _ _ _ (by simp) (Nat.le_refl _)⟩ ?_;rintro w0 ⟨wb, zb, ewb, bt, ew0, hz0⟩;have Bt := Lib.hid bt; have HZ0 := Lib.hid hz0; clear bt hz0
 have lt : w.heap.size < wb.heap.size := by omega
 refine (spec_PolicyFor _ r l _ (by exact Rl.out.ext xe)).mono ?_;rintro e w2 ⟨rfl, e2⟩;have HF : Hid (propMsgs t l r got = if validTop t then got.flatMap (propOne t (polFor l r) r) else []) := rfl
 generalize polFor l r = p at *
 have bt := Bt.out.ext (w' := w2) xe;have lt := bt.lt;obtain ⟨pt_0, pt_1⟩ := blk2 bt;clear bt;go_wp2_with fail
 refine name_wp (fun W => Ext w2 W ∧ Blk W w2.heap.size 82 [I p.maxLen, I p.denied, I p.closed, I p.life]) ⟨xe, xb⟩ ?_;rintro w3 ⟨e3, bp⟩;have Bp := Lib.hid bp; clear bp;have z2 := e2.size; have z3 := e3.size; have zz0 := ew0.size; have lp3 := Bp.out.lt;clear pt_0 pt_1;cases hv : validTop t
 · have HV := Lib.hid hv; clear hv
   have HF := Lib.hid (HF.out.trans (by rw [HV.out]; rfl : (if validTop t then got.flatMap (propOne t p r) else []) = []))
   go_loopw [9, 11] (fun v i wr => i = I 0 ∧ BeaconMessageSO wb.heap.size wr.heap.size wr v [] ∧ Ext wb wr) (fun _ i _ => got.length - (intOf i).toNat)
   case atStart => exact ⟨rfl, NO.up BeaconMessageOC.keeps HZ0.out xe (Nat.le_refl _), xe⟩
   case round =>
    obtain ⟨rfl, hno, he⟩ := hrel;have HNO := Lib.hid hno; clear hno;obtain ⟨av, nv, cv, hvv⟩ := NO.slice HNO.out;subst hvv;have bt := Bt.out.ext (w' := wr) xe;have lt := bt.lt;obtain ⟨pt_0, pt_1⟩ := blk2 bt;clear bt;by_cases hlt : 0 < got.length
    · have i1 : (0 : Int) < (got.length : Int) := by omega
      go_wp2_with fail
      refine (spec_ValidTopology _ (t) _ (by exact Rt.out.ext xe)).mono ?_;rintro e w4 ⟨rfl, ew4⟩;rw [HV.out];go_wp2_with fail
      go_ret
      exact ⟨_, rfl, by rw [HF.out]; exact NO.more (NO.up BeaconMessageOC.keeps HNO.out ew4 (Nat.le_refl _)) (by omega) (Nat.le_refl _), xe⟩
    · have i1 : ¬ (0 : Int) < (got.length : Int) := by omega
      go_wp2_with fail
      go_ret
      exact ⟨_, rfl, by rw [HF.out]; exact NO.more HNO.out (by omega) (Nat.le_refl _), xe⟩
 have HV := Lib.hid hv; clear hv;have HF := Lib.hid (HF.out.trans (by rw [HV.out]; rfl : (if validTop t then got.flatMap (propOne t p r) else []) = got.flatMap (propOne t p r)))
 go_loopw [9, 11] (fun v i wr => ∃ k : Nat, k ≤ got.length ∧ i = I k ∧ w3.heap.size ≤ wr.heap.size ∧ BeaconMessageSO wb.heap.size wr.heap.size wr v ((got.take k).flatMap (propOne t p r)) ∧ Blk wr w2.heap.size 82 [I p.maxLen, I p.denied, I p.closed, I p.life] ∧ Ext wb wr) (fun _ i _ => got.length - (intOf i).toNat)
 case atStart => exact ⟨0, by omega, rfl, Nat.le_refl _, NO.up BeaconMessageOC.keeps HZ0.out xe (Nat.le_refl _), Bp.out, xe⟩
 case round =>
  obtain ⟨k, hk, rfl, zr3, hno, hbp, he⟩ := hrel;have HNO := Lib.hid hno; have HBP := Lib.hid hbp; clear hno hbp;obtain ⟨av, nv, cv, hvv⟩ := NO.slice HNO.out;subst hvv;have zr := he.size;have bt := Bt.out.ext (w' := wr) xe;have lt := bt.lt;obtain ⟨pt_0, pt_1⟩ := blk2 bt;clear bt;by_cases hlt : k < got.length
  · have i0 : (0 : Int) ≤ (k : Int) := by omega
    have i1 : (k : Int) < (got.length : Int) := by omega
    go_wp2_with fail
    refine (spec_ValidTopology _ (t) _ (by exact Rt.out.ext xe)).mono ?_;rintro e w4 ⟨rfl, ew4⟩;have bt := Bt.out.ext (w' := w4) xe;have lt := bt.lt;obtain ⟨pt_0, pt_1⟩ := blk2 bt;clear bt;rw [HV.out];obtain ⟨b, off, hA, hb, hkl, hc⟩ := Rgot.out.at_ hlt;have hyl : got[k].seg.hops.length ≤ bcnTot got := totS_get (fun u : DBeacon => u.seg.hops.length) got k hkl;have HX := Lib.hid (flatMap_snoc (propOne t p r) got k hkl);have hfl := propFlat_len t p r got k
    generalize got[k] = u at *
    generalize (got.take k).flatMap (propOne t p r) = ds at *
    subst hA;obtain ⟨Au_3, nu_3, cu_3, hu_0, hu_1, hu_2, hu_3, su_3⟩ := hc;obtain ⟨lu_3, ku_3, mu_3⟩ := su_3.len;subst lu_3;unfold maxLen at mu_3
    have Ru : Hid (BeaconV w.heap.size w (.agg #[I u.ing, I u.seg.ts, I u.seg.beta, .slice Au_3 u.seg.hops.length cu_3]) u) := ⟨_, _, _, rfl, su_3⟩
    have Su_3 := Lib.hid su_3; clear su_3;have z4 := ew4.size; have zwb := ewb.size
    have hb4 : b < w4.heap.size := by omega
    have bp4 := HBP.out.ext ew4;have lp := bp4.lt;obtain ⟨pp_0, pp_1, pp_2, pp_3⟩ := blk4 bp4;clear bp4;obtain ⟨ku_0, ku_1, ku_2, ku_3⟩ := And.intro ((Ext.cell (a := w) (b := w4) xe hb).trans hu_0) (And.intro ((Ext.cell (a := w) (b := w4) xe hb).trans hu_1) (And.intro ((Ext.cell (a := w) (b := w4) xe hb).trans hu_2) ((Ext.cell (a := w) (b := w4) xe hb).trans hu_3)));go_wp2_with fail
    refine wp_region_L (E := Ext) (w0 := w4) (G := fun τ => match τ with | 45 => some (fun v W => IntSO w4.heap.size W.heap.size W v (egrIfs t p u.seg r u.ing)) | _ => none) Ext.refl (fun h k => Ext.trans h k) (by kernel_rfl) (by kernel_rfl) xg (Ext.drew (by exact Ext.refl _)) ?_
    repeat' (first
     | ((with_reducible refine wpL_skip ?_ ?_ ?_)
        · rfl
        · rfl
        simp only [putS])
     | ((with_reducible refine wpL_quiet ?_ ?_ ?_ ?_)
        · rfl
        · rfl
        · rfl
        apply Exists.intro
        refine ⟨fun W hW hS => ?_, ?_⟩
        · have hC := (Ext.facts hW).1
          go_simp
          first | done | (with_reducible rfl) | (rw [if_neg (by omega)]; exact ⟨rfl, rfl⟩) | rfl
        first | (with_reducible refine wpL_boolT ?_) | (with_reducible refine wpL_boolF ?_) | (with_reducible refine wpL_bool (fun hB => ?_) (fun hB => ?_)) | skip
        all_goals simp only [putS])
     | ((refine wpL_grow ?_ rfl rfl ?_ ?_)
        · rfl
        · intro W hW hS
          have hC := (Ext.facts hW).1;unfold growAt
          go_simp
          simp only [growUpon]
          first | (go_at_call 145; (with_reducible refine Calls.mono (spec_EgressCandidates _ p _ r u.ing t u.seg _ (by exact Rt.out.ext xe) (by exact segV (Su_3.out.ext xe)) (by omega)) ?_); rintro e w9 ⟨v9, rfl, o9, e9⟩; exact ⟨_, rfl, e9, Own.more o9 (Ext.size hW) (Nat.le_refl _)⟩)
        intro v W' hW' hv
        first | (obtain ⟨A1, n1, c1, rfl⟩ := Own.slice hv) | (obtain ⟨A5, n5, c5, rfl, -⟩ := id hv; clear hv) | (obtain ⟨A5, n5, c5, rfl⟩ := NO.slice hv) | skip
        all_goals simp only [putS]))
    refine wpL_nil (fun w5 e5 hL => ?_);have o5 : IntSO w4.heap.size w5.heap.size w5 (.slice A1 n1 c1) (egrIfs t p u.seg r u.ing) := hL 45;clear hL ku_0 ku_1 ku_2 ku_3 pp_0 pp_1 pp_2 pp_3 lp;have HPO : Hid (propOne t p r u = (egrIfs t p u.seg r u.ing).map (propMsg t p r u)) := rfl;have hal : (egrIfs t p u.seg r u.ing).length ≤ 6 := egrTo_len t p u.seg r u.ing 6;have HOK : Hid (∀ o ∈ egrIfs t p u.seg r u.ing, extOk t p u.seg r u.ing o = true) := fun o ho => egrIfs_ok ho
    generalize egrIfs t p u.seg r u.ing = al at *
    obtain ⟨A1', n1', c1', hv5, ln1, -, -, -⟩ := id (IntSO_rd o5);cases hv5;subst ln1;have O5 := Lib.hid o5; clear o5;have z5 := e5.size;have bt := Bt.out.ext (w' := w5) xe;have lt := bt.lt;obtain ⟨pt_0, pt_1⟩ := blk2 bt;clear bt;go_wp2_with fail
    go_loopw [9, 13] (fun v i wr => ∃ j : Nat, j ≤ al.length ∧ i = I j ∧ w5.heap.size ≤ wr.heap.size ∧ BeaconMessageSO wb.heap.size wr.heap.size wr v (ds ++ (al.take j).map (propMsg t p r u)) ∧ Blk wr w2.heap.size 82 [I p.maxLen, I p.denied, I p.closed, I p.life] ∧ IntSO w4.heap.size w5.heap.size wr (.slice A1 al.length c1) al ∧ Ext wb wr) (fun _ i _ => al.length - (intOf i).toNat)
    case atStart => exact ⟨0, by omega, rfl, Nat.le_refl _, by simpa using NO.up BeaconMessageOC.keeps HNO.out (w' := w5) xe (Nat.le_refl _), HBP.out.ext xe, O5.out, xe⟩
    case round =>
     obtain ⟨j, hj, rfl, zr5, hno2, hbp2, hal2, he2⟩ := hrel;have HN2 := Lib.hid hno2; have HBP2 := Lib.hid hbp2; have HAL := Lib.hid hal2; clear hno2 hbp2 hal2;obtain ⟨av2, nv2, cv2, hvv2⟩ := NO.slice HN2.out;subst hvv2;have zi := he2.size;clear pt_0 pt_1 lt;have bt := Bt.out.ext (w' := wr) xe;have lt := bt.lt;obtain ⟨pt_0, pt_1⟩ := blk2 bt;clear bt;by_cases hlt2 : j < al.length
     · obtain ⟨b2, off2, rfl, hb2, hkl2, hc2⟩ := (IntSO_rd HAL.out).at_ hlt2
       have HS := Lib.hid (propOne_snoc t p r u al j hkl2);have hok := HOK.out al[j] (List.getElem_mem hkl2);have hc2 : wr.cell? ⟨b2, off2 + j, none⟩ = some (I al[j]) := hc2
       generalize hok9 : al[j] = o at *
       have HOK9 := Lib.hid hok9; clear hok9;have hms : propMsg t p r u o = ⟨(remEnd t r o).1, ⟨(remEnd t r o).2, grownSeg t p u.seg r u.ing o⟩⟩ := rfl;have HES := Lib.hid (extSeg_yes hok);have HMS := Lib.hid hms; clear hms
       have hml : (ds ++ (al.take j).map (propMsg t p r u)).length ≤ 6 * k + 6 := by rw [List.length_append, List.length_map, List.length_take]; omega
       generalize hd2 : ds ++ (al.take j).map (propMsg t p r u) = d2 at *
       have HD2 := Lib.hid hd2; clear hd2;have HVO := Lib.hid hok; clear hok
       have j2 : (0 : Int) ≤ (j : Int) := by omega
       have j3 : (j : Int) < (al.length : Int) := by omega
       have bp6 := HBP2.out;have lp := bp6.lt;obtain ⟨pp_0, pp_1, pp_2, pp_3⟩ := blk4 bp6;clear bp6
       have hb6 : b < wr.heap.size := by omega
       obtain ⟨ku_0, ku_1, ku_2, ku_3⟩ := And.intro ((Ext.cell (a := w) (b := wr) xe hb).trans hu_0) (And.intro ((Ext.cell (a := w) (b := wr) xe hb).trans hu_1) (And.intro ((Ext.cell (a := w) (b := wr) xe hb).trans hu_2) ((Ext.cell (a := w) (b := wr) xe hb).trans hu_3)))
       generalize hsg : grownSeg t p u.seg r u.ing o = sg at *
       have HSG := Lib.hid hsg; clear hsg;go_wp2_with fail
       refine wp_region_LQ 22 20 _ _ _ rfl (E := Ext) (w0 := wr) (G := fun τ => match τ with | 70 => some (fun v W => PairO wr.heap.size true sg v W) | 14 => some (fun v W => Zero1 33 wr.heap.size [I 0, I 0, .slice none 0 0] v W) | _ => none)  Ext.refl (fun h k => Ext.trans h k) (by kernel_rfl) (by kernel_rfl) (by kernel_rfl) (by kernel_rfl) rfl rfl rfl rfl rfl rfl (by kernel_rfl) (pure_extract rfl) (by kernel_rfl) (by kernel_rfl) (by kernel_rfl) (by kernel_rfl) (by kernel_rfl) (by kernel_rfl) xg (Ext.drew (by exact Ext.refl _)) ?_;simp only [List.take_succ_cons, List.take_zero]
       repeat' (first
        | ((with_reducible refine wpL_skip ?_ ?_ ?_)
           · rfl
           · rfl
           simp only [putS])
        | ((with_reducible refine wpL_quiet ?_ ?_ ?_ ?_)
           · rfl
           · rfl
           · rfl
           apply Exists.intro
           refine ⟨fun W hW hS => ?_, ?_⟩
           · have hC := (Ext.facts hW).1
             go_simp
             first | done | (with_reducible rfl) | (rw [if_neg (by omega)]; exact ⟨rfl, rfl⟩) | rfl
           first | (with_reducible refine wpL_boolT ?_) | (with_reducible refine wpL_boolF ?_) | (with_reducible refine wpL_bool (fun hB => ?_) (fun hB => ?_)) | skip
           all_goals simp only [putS])
        | ((refine wpL_grow ?_ rfl rfl ?_ ?_)
           · rfl
           · intro W hW hS
             have hC := (Ext.facts hW).1;unfold growAt
             go_simp
             simp only [growUpon]
             first | (go_at_call 146; (with_reducible refine Calls.mono (spec_Extend _ p _ r u.ing o t u.seg _ (by exact Rt.out.ext xe) (by exact segV (Su_3.out.ext xe)) (by omega)) ?_); rintro e w9 ⟨v9, rfl, o9, e9⟩; exact ⟨_, rfl, e9, v9, by rw [HVO.out], by rw [← HES.out]; exact SegmentO.more o9 (Ext.size hW) (Nat.le_refl _)⟩) | (exact ⟨xe, _, rfl, Ext.size (by assumption), Blk.new _ _ _⟩)
           intro v W' hW' hv
           first | (obtain ⟨v8, rfl, hv8⟩ := hv; obtain ⟨A8, n8, c8, rfl⟩ := SegmentO.shape hv8) | (obtain ⟨g5, rfl, -⟩ := hv) | (obtain ⟨A5, n5, c5, rfl, -⟩ := id hv; clear hv) | (obtain ⟨A5, n5, c5, rfl⟩ := NO.slice hv) | skip
           all_goals simp only [putS]))
       refine wpL_nil (fun w6 ew6 hL => ?_);have o1 : SegmentO wr.heap.size w6.heap.size w6 (.agg #[I sg.ts, I sg.beta, .slice A8 n8 c8]) sg := PairO.seg (hL 70);have hal : IntSO w4.heap.size w5.heap.size w6 (.slice (some ⟨b2, off2, none⟩) al.length c1) al := Own.ext HAL.out ew6 (by omega);have hno : BeaconMessageSO wb.heap.size wr.heap.size w6 (.slice av2 nv2 cv2) d2 := NO.at' BeaconMessageOC.keeps HN2.out ew6;have hbp : Blk w6 w2.heap.size 82 [I p.maxLen, I p.denied, I p.closed, I p.life] := Blk.ext HBP2.out ew6;have pz : Zero1 33 wr.heap.size [I 0, I 0, .slice none 0 0] _ w6 := hL 14;obtain ⟨gz, hgz, hgl, hbz⟩ := pz
       have hge : gz = g5 := by injection hgz with h; injection h with h; injection h with h1; exact h1.symm
       subst hge;clear hgz hL;have zw6 := ew6.size;have lz := hbz.lt;obtain ⟨yz_0, yz_1, yz_2⟩ := blk3 hbz;have fz_0 := hbz.frozen 0;have fz_1 := hbz.frozen 1;have fz_2 := hbz.frozen 2;have Zo1 := Lib.hid (SegmentO.setT (SegmentO.setT (SegmentO.setT o1 hbz 0 (I sg.ts)) (Blk.set_ hbz 0 (I sg.ts)) 1 (I sg.beta)) (Blk.set_ (Blk.set_ hbz 0 (I sg.ts)) 1 (I sg.beta)) 2 (.slice A8 n8 c8));have Zhal := Lib.hid (Own.setT (Own.setT (Own.setT hal hbz (by decide) 0 (I sg.ts)) (Blk.set_ hbz 0 (I sg.ts)) (by decide) 1 (I sg.beta)) (Blk.set_ (Blk.set_ hbz 0 (I sg.ts)) 1 (I sg.beta)) (by decide) 2 (.slice A8 n8 c8));have Zhno := Lib.hid (BeaconMessageSO_setCell (BeaconMessageSO_setCell (BeaconMessageSO_setCell hno (p := ⟨gz, 0, none⟩) (.inr hgl) (I sg.ts)) (p := ⟨gz, 1, none⟩) (.inr hgl) (I sg.beta)) (p := ⟨gz, 2, none⟩) (.inr hgl) (.slice A8 n8 c8));have Zhbp := Lib.hid (Blk.far (Blk.far (Blk.far hbp (p := ⟨gz, 0, none⟩) (by dsimp only; omega) (I sg.ts)) (p := ⟨gz, 1, none⟩) (by dsimp only; omega) (I sg.beta)) (p := ⟨gz, 2, none⟩) (by dsimp only; omega) (.slice A8 n8 c8));have BW := Lib.hid (Blk.set_ (Blk.set_ (Blk.set_ hbz 0 (I sg.ts)) 1 (I sg.beta)) 2 (.slice A8 n8 c8));clear hbz o1 hal hno hbp
       apply Exists.intro
       refine ⟨⟨_, ?run, .inl rfl⟩, ?_⟩
       case run =>
        go_simp
        first | done | rfl
       go_wp2_with fail
       clear yz_0 fz_0 yz_1 fz_1 yz_2 fz_2
       first | refine name_wp ?_ ?_ ?_ | refine name_calls ?_ ?_ ?_
       exact (fun W => Ext wr W ∧ w6.heap.size = W.heap.size ∧ Blk W gz 33 [I sg.ts, I sg.beta, .slice A8 n8 c8] ∧ SegmentO wr.heap.size W.heap.size W (.agg #[I sg.ts, I sg.beta, .slice A8 n8 c8]) sg ∧ IntSO w4.heap.size w5.heap.size W (.slice (some ⟨b2, off2, none⟩) al.length c1) al ∧ BeaconMessageSO wb.heap.size wr.heap.size W (.slice av2 nv2 cv2) d2 ∧ Blk W w2.heap.size 82 [I p.maxLen, I p.denied, I p.closed, I p.life]);exact ⟨xe, (by simp only [World.size_setCell]), (by simpa using BW.out), (by (try simp only [World.size_setCell]); exact Zo1.out), (by (try simp only [World.size_setCell]); exact Zhal.out), (by (try simp only [World.size_setCell]); exact Zhno.out), (by (try simp only [World.size_setCell]); exact Zhbp.out)⟩;clear BW Zo1 Zhal Zhno Zhbp;rintro w7 ⟨ew7, zw7, bz, o1, hal, hno, hbp⟩;have BZ := Lib.hid bz; clear bz;have Ho1 := Lib.hid o1; clear o1;have Hhal := Lib.hid hal; clear hal;have Hhno := Lib.hid hno; clear hno;have Hhbp := Lib.hid hbp; clear hbp;have z67 := zw6
       have hb7 : b2 < w7.heap.size := by omega
       have hal7 : IntSO w4.heap.size w5.heap.size w7 (.slice (some ⟨b2, off2, none⟩) al.length c1) al := Hhal.out;obtain ⟨b9, off9, hA9, hb9, hkl9, hc9⟩ := (IntSO_rd hal7).at_ hlt2;cases hA9;have hc9 : w7.cell? ⟨b2, off2 + j, none⟩ = some (I o) := hc9.trans (by rw [HOK9.out]);clear ku_0 ku_1 ku_2 ku_3 pp_0 pp_1 pp_2 pp_3 lp pt_0 pt_1 lt;have bt := Bt.out.ext (w' := w7) xe;have lt := bt.lt;obtain ⟨pt_0, pt_1⟩ := blk2 bt;clear bt;refine wp_region_L (E := Ext) (w0 := w7) (G := fun τ => match τ with | 80 => some (fun v W => v = .tuple #[I (remEnd t r o).1, I (remEnd t r o).2]) | _ => none) Ext.refl (fun h k => Ext.trans h k) (by kernel_rfl) (by kernel_rfl) xg (Ext.drew (by exact Ext.refl _)) ?_
       repeat' (first
        | ((with_reducible refine wpL_skip ?_ ?_ ?_)
           · rfl
           · rfl
           simp only [putS])
        | ((with_reducible refine wpL_quiet ?_ ?_ ?_ ?_)
           · rfl
           · rfl
           · rfl
           apply Exists.intro
           refine ⟨fun W hW hS => ?_, ?_⟩
           · have hC := (Ext.facts hW).1
             go_simp
             first | done | (with_reducible rfl) | (rw [if_neg (by omega)]; exact ⟨rfl, rfl⟩) | rfl
           first | (with_reducible refine wpL_boolT ?_) | (with_reducible refine wpL_boolF ?_) | (with_reducible refine wpL_bool (fun hB => ?_) (fun hB => ?_)) | skip
           all_goals simp only [putS])
        | ((refine wpL_call ?_ rfl rfl ?_ ?_ ?_)
           · rfl
           · rfl
           · intro W hW hS
             have hC := (Ext.facts hW).1;unfold growAt
             go_simp
             simp only [growUpon]
             first | (go_at_call 65; (with_reducible refine Calls.mono (spec_RemoteEnd _ _ _ t _ (by exact Rt.out.ext xe)) ?_); rintro e w9 ⟨rfl, e9⟩; exact ⟨_, rfl, e9, rfl⟩)
           first | (with_reducible refine wpL_boolT ?_) | (with_reducible refine wpL_boolF ?_) | (with_reducible refine wpL_bool (fun hB => ?_) (fun hB => ?_)) | skip
           all_goals simp only [putS])
        | ((refine wpL_grow ?_ rfl rfl ?_ ?_)
           · rfl
           · intro W hW hS
             have hC := (Ext.facts hW).1;unfold growAt
             go_simp
             simp only [growUpon]
             first | (go_at_call 65; (with_reducible refine Calls.mono (spec_RemoteEnd _ _ _ t _ (by exact Rt.out.ext xe)) ?_); rintro e w9 ⟨rfl, e9⟩; exact ⟨_, rfl, e9, rfl⟩)
           intro v W' hW' hv
           first | (subst hv) | (obtain ⟨A5, n5, c5, rfl, -⟩ := id hv; clear hv) | (obtain ⟨A5, n5, c5, rfl⟩ := NO.slice hv) | skip
           all_goals simp only [putS]))
       refine wpL_nil (fun w8 e8 hL => ?_);clear hL
       generalize (remEnd t r o).1 = m1 at *
       generalize (remEnd t r o).2 = m2 at *
       have z8 := e8.size;have bz := BZ.out.ext (w' := w8) xe;have lbz := bz.lt;obtain ⟨qbz_0, qbz_1, qbz_2⟩ := blk3 bz;have fbz_0 := bz.frozen 0;have fbz_1 := bz.frozen 1;have fbz_2 := bz.frozen 2;clear bz;go_wp2_with (at_builtin; refine hold ?_)
       refine unhold (wpList_pushN rfl wb.heap.size BeaconMessageOC.keeps BeaconMessageOC.one (.tmp 84) (.tmp 90) _ rfl 149 _ 5 56 Tryz.underlying134 info_BeaconMessage rfl (by omega) _ d2 [⟨m1, ⟨m2, sg⟩⟩] wr.heap.size wr.heap.size _ rfl _ 1 1 rfl (by exact NO.at' BeaconMessageOC.keeps Hhno.out xe) (by exact msgSingle (SegmentO.up Ho1.out e8) (by omega) (by first | rfl | simp)) (Nat.le_refl _) (by omega) (by simp only [World.size_alloc]; omega) (Nat.le_refl _) (by simp only [World.size_alloc]; omega) (by simp only [List.length_singleton]; omega) (by omega) ?_);intro v9 w9 no9 hg9;have E9 := Lib.hid (Ext.grownN (a := wb) (w := w8.alloc _) xe (NO.at' BeaconMessageOC.keeps Hhno.out (w' := w8.alloc _) xe) hg9 (Nat.le_refl _));have hn8 := NO.at' BeaconMessageOC.keeps Hhno.out (w' := w8.alloc (.cells #[I m1, I m2, I sg.ts, I sg.beta, .slice A8 n8 c8] 149)) xe;obtain ⟨cs8, fp8, hown8, -⟩ := hn8;have B9 := Lib.hid (Blk.grown (Hhbp.out.ext (w' := w8.alloc _) xe) hg9 (Own.off hown8 (Hhbp.out.ext (w' := w8.alloc _) xe) (by decide)));have A9_ := Lib.hid (Own.other (Own.ext Hhal.out (w' := w8.alloc _) xe (by omega)) hown8 (by decide) hg9);have z9 : (w8.alloc _).heap.size ≤ w9.heap.size := hg9.size;simp only [World.size_alloc] at z9;have N9 := Lib.hid no9; clear no9 hg9 hown8;go_wp2_with (at_builtin; refine hold ?_)
       go_roundw
       case rel => exact ⟨j + 1, by omega, by go_num, by omega, by rw [HS.out, ← List.append_assoc, HD2.out, HMS.out]; exact N9.out, B9.out, A9_.out, E9.out⟩
       case measure => simp [intOf]; omega
     · obtain rfl : j = al.length := by omega
       have h := HN2.out;rw [List.take_length, ← HPO.out, ← HX.out] at h;have H := Lib.hid h; clear h;go_wp2_with fail
       go_roundw
       case rel => exact ⟨k + 1, by omega, by go_num, by omega, H.out, HBP2.out, xe⟩
       case measure => simp [intOf]; omega
  · obtain rfl : k = got.length := by omega
    go_wp2_with fail
    go_ret
    refine ⟨_, rfl, ?_, xe⟩;have h := HNO.out;rw [List.take_length] at h;rw [HF.out];exact NO.more h (by omega) (Nat.le_refl _)
end Go.Proofs.YtmopmgaeiokfjaaGreat
