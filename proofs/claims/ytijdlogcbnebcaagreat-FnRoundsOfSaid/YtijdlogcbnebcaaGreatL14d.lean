/- The contract of the program's ValidStore. No conditions. -/
import Derived.Test.YtijdlogcbnebcaaGreatP31
import Derived.Test.YtijdlogcbnebcaaGreatGL14b
import Derived.Test.YtijdlogcbnebcaaGreatL13f
import Derived.Test.YtijdlogcbnebcaaGreatGL10a
namespace Go.Proofs.YtijdlogcbnebcaaGreat
open Go.RowKit
set_option linter.unusedVariables false
/-- v is u. -/
inductive IsU (u : Value) : Value → Prop where
  | mk : IsU u u
theorem bcnFine_at {t : DTopology} {r : Int} {l : List DBeacon} {k : Nat} (h : k < l.length) : bcnFine t r l k = (!hasBcn (l.take k) l[k] && canExt t l[k].seg r l[k].ing) := by
  unfold bcnFine
  have e : l.getD k dBcn = l[k] := by simp [List.getD_eq_getElem?_getD, h]
  rw [e]
theorem validStore_no {t : DTopology} {r : Int} {l : List DBeacon} {k : Nat} (h : k < l.length) (hf : bcnFine t r l k = false) : validStore t r l = false := by
  cases hc : validStore t r l
  · rfl
  · unfold validStore at hc
    rw [Bool.and_eq_true, List.all_eq_true] at hc
    rw [hc.2 k (List.mem_range.2 h)] at hf
    cases hf
theorem validStore_long {t : DTopology} {r : Int} {l : List DBeacon} (h : 12 < l.length) : validStore t r l = false := by
  unfold validStore
  rw [decide_eq_false (by omega)]
  rfl
theorem validStore_yes {t : DTopology} {r : Int} {l : List DBeacon} (h : l.length ≤ 12) (hf : ∀ k, k < l.length → bcnFine t r l k = true) : validStore t r l = true := by
  unfold validStore
  rw [Bool.and_eq_true, List.all_eq_true, decide_eq_true_eq]
  exact ⟨h, fun k hk => hf k (List.mem_range.1 hk)⟩
set_option maxRecDepth 100000 in
set_option maxHeartbeats 1000000 in
theorem impl_ValidStore (vt : Value) (r : Int) (vl : Value) (t : DTopology) (l : List DBeacon) (w : World) (ht : TopologyV w.heap.size w vt t) (hl : BeaconS w.heap.size w vl l) (hn : bcnTot l ≤ 1000000) :
    Calls Tryz.prog 13 #[vt, I r, vl] w fun e w' => e = .returned (.bool (validStore t r l)) ∧ Ext w w' := by
  obtain ⟨At_0, nt_0, ct_0, At_1, nt_1, ct_1, rfl, st_0, st_1⟩ := id ht
  obtain ⟨lt_0, kt_0, mt_0⟩ := st_0.len
  subst lt_0
  unfold maxLen at mt_0
  obtain ⟨lt_1, kt_1, mt_1⟩ := st_1.len
  subst lt_1
  unfold maxLen at mt_1
  have Rt := Lib.hid ht; clear ht
  have St_0 := Lib.hid st_0; clear st_0
  have St_1 := Lib.hid st_1; clear st_1
  obtain ⟨Al, nl, cl, rfl, ll, kl, ml, -⟩ := id hl
  subst ll
  unfold maxLen at ml
  have Rl := Lib.hid hl; clear hl
  have hn : totS (fun u : DBeacon => u.seg.hops.length) l ≤ 1000000 := hn
  by_cases h12 : 12 < l.length
  · have HF := Lib.hid (validStore_long (t := t) (r := r) h12)
    have d12 : (12 : Int) < (l.length : Int) := by omega
    go_enter Tryz.func13, Tryz.ntmps13
    go_wp2_with fail
    go_ret
    exact ⟨ret_bool HF.out.symm, xe⟩
  have d12 : ¬ (12 : Int) < (l.length : Int) := by omega
  go_enter Tryz.func13, Tryz.ntmps13
  go_wp2_with fail
  first | refine name_wp ?_ ?_ ?_ | refine name_calls ?_ ?_ ?_
  exact (fun W => Ext w W ∧ Blk W (w.heap.size) 27 [.slice At_0 t.ases.length ct_0, .slice At_1 t.links.length ct_1])
  exact ⟨xe, xb⟩
  rintro w0 ⟨ew0, bt⟩
  have lt := bt.lt
  obtain ⟨pt_0, pt_1⟩ := blk2 bt
  have Bt := Lib.hid bt; clear bt
  go_loopw [14] (fun i wr => ∃ k : Nat, k ≤ l.length ∧ i = I k ∧ (∀ j, j < k → bcnFine t r l j = true) ∧ Ext w0 wr) (fun i _ => l.length - (intOf i).toNat)
  case atStart => exact ⟨0, by omega, rfl, fun j hj => by omega, Ext.refl _⟩
  case round =>
    obtain ⟨k, hk, rfl, hq, he⟩ := hrel
    have HQ := Lib.hid hq; clear hq
    have bt := Bt.out.ext (w' := wr) xe
    have lt := bt.lt
    obtain ⟨pt_0, pt_1⟩ := blk2 bt
    clear bt
    by_cases hlt : k < l.length
    · obtain ⟨b, off, hA, hb, hkl, hc⟩ := (Rl.out.ext (w' := wr) xe).at_ hlt
      have hul : l[k].seg.hops.length ≤ totS (fun u : DBeacon => u.seg.hops.length) l := totS_get (fun u : DBeacon => u.seg.hops.length) l k hkl
      have HAT := Lib.hid (bcnFine_at (t := t) (r := r) hkl)
      have HNO := Lib.hid (validStore_no (t := t) (r := r) hkl)
      have i0 : (0 : Int) ≤ (k : Int) := by omega
      have i1 : (k : Int) < (l.length : Int) := by omega
      have i2 : (k : Int) ≤ (cl : Int) := by have := Rl.out.len; omega
      generalize l[k] = u at *
      subst hA
      obtain ⟨Au_3, nu_3, cu_3, hu_0, hu_1, hu_2, hu_3, su_3⟩ := hc
      obtain ⟨lu_3, ku_3, mu_3⟩ := su_3.len
      subst lu_3
      unfold maxLen at mu_3
      have Ru : Hid (BeaconV wr.heap.size wr (.agg #[I u.ing, I u.seg.ts, I u.seg.beta, .slice Au_3 u.seg.hops.length cu_3]) u) := ⟨_, _, _, rfl, su_3⟩
      have Su_3 := Lib.hid su_3; clear su_3
      go_wp2_with fail
      first | refine name_wp ?_ ?_ ?_ | refine name_calls ?_ ?_ ?_
      exact (fun W => Ext wr W ∧ Blk W (wr.heap.size) 65 [I u.ing, I u.seg.ts, I u.seg.beta, .slice Au_3 u.seg.hops.length cu_3])
      exact ⟨xe, xb⟩
      rintro w3 ⟨ew3, bu⟩
      have lu := bu.lt
      obtain ⟨pu_0, pu_1, pu_2, pu_3⟩ := blk4 bu
      have Bu := Lib.hid bu; clear bu
      have bt := Bt.out.ext (w' := w3) xe
      have lt := bt.lt
      obtain ⟨pt_0, pt_1⟩ := blk2 bt
      clear bt
      have RT := Lib.hid (Sl.take (k := k) (Rl.out.ext (w' := w3) xe) (by omega))
      generalize hhb : hasBcn (l.take k) u = hb9 at *
      generalize hce : canExt t u.seg r u.ing = ce at *
      have HHB := Lib.hid hhb; have HCE := Lib.hid hce; clear hhb hce
      cases hb9
      · cases ce
        · skip
          refine wp_region_L (E := Ext) (w0 := w3) (G := fun τ => match τ with | 23 => some (fun v W => IsU (.bool false) v) | 31 => some (fun v W => IsU (.bool false) v) | _ => none) Ext.refl (fun h k => Ext.trans h k) (by kernel_rfl) (by kernel_rfl) xg (Ext.drew (by exact Ext.refl _)) ?_
          repeat' (first
            | ((with_reducible refine wpL_skip ?_ ?_ ?_)
               · rfl
               · rfl
               simp only [Act.put, List.setIfInBounds_toArray, List.set_cons_zero, List.set_cons_succ])
            | ((with_reducible refine wpL_quiet ?_ ?_ ?_ ?_)
               · rfl
               · rfl
               · rfl
               apply Exists.intro
               refine ⟨fun W hW hS => ?_, ?_⟩
               · have hC := (Ext.facts hW).1
                 go_simp
                 first | done | (with_reducible rfl) | (rw [if_neg (by omega)]; exact ⟨rfl, rfl⟩) | rfl
               first | (with_reducible refine wpL_boolT ?_) | (with_reducible refine wpL_boolF ?_) | (with_reducible refine wpL_bool (fun hB => ?_) (fun hB => ?_)) | skip
               all_goals simp only [Act.put, List.setIfInBounds_toArray, List.set_cons_zero, List.set_cons_succ])
            | ((refine wpL_grow ?_ rfl rfl ?_ ?_)
               · rfl
               · intro W hW hS
                 have hC := (Ext.facts hW).1
                 unfold growAt
                 go_simp
                 simp only [growUpon]
                 first | (go_at_call 30; (with_reducible refine Calls.mono (impl_HasBeacon _ _ (l.take k) u _ (by exact BeaconS.ext RT.out xe) (by exact Ru.out.ext xe)) ?_); rintro e w9 ⟨rfl, e9⟩; exact ⟨_, rfl, e9, by rw [HHB.out]; exact IsU.mk⟩) | (go_at_call 31; (with_reducible refine Calls.mono (impl_CanExtend _ _ r u.ing t u.seg _ (by exact Rt.out.ext xe) (by exact segV (Su_3.out.ext xe)) (by omega)) ?_); rintro e w9 ⟨rfl, e9⟩; exact ⟨_, rfl, e9, by rw [HCE.out]; exact IsU.mk⟩)
               intro v W' hW' hv
               first | ((with_reducible refine intro_at 23 _ ?_); cases hv) | ((with_reducible refine intro_at 31 _ ?_); cases hv) | (obtain ⟨A5, n5, c5, rfl, -⟩ := id hv; clear hv) | (obtain ⟨A5, n5, c5, rfl⟩ := NO.slice hv) | skip
               all_goals simp only [Act.put, List.setIfInBounds_toArray, List.set_cons_zero, List.set_cons_succ]))
          refine wpL_nil (fun w4 e4 hL => ?_)
          clear hL
          go_wp2_with fail
          go_ret
          exact ⟨ret_bool (HNO.out (by rw [HAT.out]; rfl)).symm, xe⟩
        · skip
          refine wp_region_L (E := Ext) (w0 := w3) (G := fun τ => match τ with | 23 => some (fun v W => IsU (.bool false) v) | 31 => some (fun v W => IsU (.bool true) v) | _ => none) Ext.refl (fun h k => Ext.trans h k) (by kernel_rfl) (by kernel_rfl) xg (Ext.drew (by exact Ext.refl _)) ?_
          repeat' (first
            | ((with_reducible refine wpL_skip ?_ ?_ ?_)
               · rfl
               · rfl
               simp only [Act.put, List.setIfInBounds_toArray, List.set_cons_zero, List.set_cons_succ])
            | ((with_reducible refine wpL_quiet ?_ ?_ ?_ ?_)
               · rfl
               · rfl
               · rfl
               apply Exists.intro
               refine ⟨fun W hW hS => ?_, ?_⟩
               · have hC := (Ext.facts hW).1
                 go_simp
                 first | done | (with_reducible rfl) | (rw [if_neg (by omega)]; exact ⟨rfl, rfl⟩) | rfl
               first | (with_reducible refine wpL_boolT ?_) | (with_reducible refine wpL_boolF ?_) | (with_reducible refine wpL_bool (fun hB => ?_) (fun hB => ?_)) | skip
               all_goals simp only [Act.put, List.setIfInBounds_toArray, List.set_cons_zero, List.set_cons_succ])
            | ((refine wpL_grow ?_ rfl rfl ?_ ?_)
               · rfl
               · intro W hW hS
                 have hC := (Ext.facts hW).1
                 unfold growAt
                 go_simp
                 simp only [growUpon]
                 first | (go_at_call 30; (with_reducible refine Calls.mono (impl_HasBeacon _ _ (l.take k) u _ (by exact BeaconS.ext RT.out xe) (by exact Ru.out.ext xe)) ?_); rintro e w9 ⟨rfl, e9⟩; exact ⟨_, rfl, e9, by rw [HHB.out]; exact IsU.mk⟩) | (go_at_call 31; (with_reducible refine Calls.mono (impl_CanExtend _ _ r u.ing t u.seg _ (by exact Rt.out.ext xe) (by exact segV (Su_3.out.ext xe)) (by omega)) ?_); rintro e w9 ⟨rfl, e9⟩; exact ⟨_, rfl, e9, by rw [HCE.out]; exact IsU.mk⟩)
               intro v W' hW' hv
               first | ((with_reducible refine intro_at 23 _ ?_); cases hv) | ((with_reducible refine intro_at 31 _ ?_); cases hv) | (obtain ⟨A5, n5, c5, rfl, -⟩ := id hv; clear hv) | (obtain ⟨A5, n5, c5, rfl⟩ := NO.slice hv) | skip
               all_goals simp only [Act.put, List.setIfInBounds_toArray, List.set_cons_zero, List.set_cons_succ]))
          refine wpL_nil (fun w4 e4 hL => ?_)
          clear hL
          have HM : Hid (bcnFine t r l k = true) := by unfold Hid; rw [HAT.out]; rfl
          go_wp2_with fail
          go_roundw
          case rel => exact ⟨k + 1, by omega, by go_num, fun j hj => by rcases Nat.lt_or_ge j k with h9 | h9; exact HQ.out j h9; (obtain rfl : j = k := by omega); exact HM.out, xe⟩
          case measure => simp [intOf]; omega
      · skip
        refine wp_region_L (E := Ext) (w0 := w3) (G := fun τ => match τ with | 23 => some (fun v W => IsU (.bool true) v) | _ => none) Ext.refl (fun h k => Ext.trans h k) (by kernel_rfl) (by kernel_rfl) xg (Ext.drew (by exact Ext.refl _)) ?_
        repeat' (first
          | ((with_reducible refine wpL_skip ?_ ?_ ?_)
             · rfl
             · rfl
             simp only [Act.put, List.setIfInBounds_toArray, List.set_cons_zero, List.set_cons_succ])
          | ((with_reducible refine wpL_quiet ?_ ?_ ?_ ?_)
             · rfl
             · rfl
             · rfl
             apply Exists.intro
             refine ⟨fun W hW hS => ?_, ?_⟩
             · have hC := (Ext.facts hW).1
               go_simp
               first | done | (with_reducible rfl) | (rw [if_neg (by omega)]; exact ⟨rfl, rfl⟩) | rfl
             first | (with_reducible refine wpL_boolT ?_) | (with_reducible refine wpL_boolF ?_) | (with_reducible refine wpL_bool (fun hB => ?_) (fun hB => ?_)) | skip
             all_goals simp only [Act.put, List.setIfInBounds_toArray, List.set_cons_zero, List.set_cons_succ])
          | ((refine wpL_grow ?_ rfl rfl ?_ ?_)
             · rfl
             · intro W hW hS
               have hC := (Ext.facts hW).1
               unfold growAt
               go_simp
               simp only [growUpon]
               first | (go_at_call 30; (with_reducible refine Calls.mono (impl_HasBeacon _ _ (l.take k) u _ (by exact BeaconS.ext RT.out xe) (by exact Ru.out.ext xe)) ?_); rintro e w9 ⟨rfl, e9⟩; exact ⟨_, rfl, e9, by rw [HHB.out]; exact IsU.mk⟩)
             intro v W' hW' hv
             first | ((with_reducible refine intro_at 23 _ ?_); cases hv) | (obtain ⟨A5, n5, c5, rfl, -⟩ := id hv; clear hv) | (obtain ⟨A5, n5, c5, rfl⟩ := NO.slice hv) | skip
             all_goals simp only [Act.put, List.setIfInBounds_toArray, List.set_cons_zero, List.set_cons_succ]))
        refine wpL_nil (fun w4 e4 hL => ?_)
        clear hL
        go_wp2_with fail
        go_ret
        exact ⟨ret_bool (HNO.out (by rw [HAT.out]; rfl)).symm, xe⟩
    · obtain rfl : k = l.length := by omega
      have i1 : ¬ (l.length : Int) < (l.length : Int) := by omega
      go_wp2_with fail
      go_ret
      exact ⟨ret_bool (validStore_yes (by omega) HQ.out).symm, xe⟩
end Go.Proofs.YtijdlogcbnebcaaGreat
