/- The contract of the program's AuthenticatedBy. No conditions. -/
import Derived.Test.YtkbiciiniagadaaGreatGL10a
import Derived.Test.YtkbiciiniagadaaGreatGL5d
namespace Go.Proofs.YtkbiciiniagadaaGreat
open Go.RowKit
set_option linter.unusedVariables false
/-- v is u. -/
inductive IsA (u : Value) : Value → Prop where
  | mk : IsA u u
def authAt (t : DTopology) (s : DSegment) (r : Int) (k : Nat) : Bool := (s.hops.getD k dHop).asn == r && verifyHop t s.ts (betaAt s k) (s.hops.getD k dHop)
def authBy (t : DTopology) (s : DSegment) (r : Int) : Bool := (List.range s.hops.length).any (authAt t s r)
theorem authAt_get {t : DTopology} {s : DSegment} {r : Int} {k : Nat} (h : k < s.hops.length) : authAt t s r k = (s.hops[k].asn == r && verifyHop t s.ts (betaAt s k) s.hops[k]) := by
  unfold authAt
  rw [getD_is h]
set_option maxRecDepth 100000 in
set_option maxHeartbeats 1000000 in
theorem impl_AuthenticatedBy (vt vs : Value) (r : Int) (t : DTopology) (s : DSegment) (w : World) (ht : TopologyV w.heap.size w vt t) (hs : SegmentV w.heap.size w vs s) (hn : s.hops.length ≤ 10000000) :
    Calls Tryz.prog 12 #[vt, vs, I r] w fun e w' => e = .returned (.bool (authBy t s r)) ∧ Ext w w' := by
  obtain ⟨At_0, nt_0, ct_0, At_1, nt_1, ct_1, rfl, st_0, st_1⟩ := id ht
  obtain ⟨lt_0, kt_0, mt_0⟩ := st_0.len
  subst lt_0
  unfold maxLen at mt_0
  obtain ⟨lt_1, kt_1, mt_1⟩ := st_1.len
  subst lt_1
  unfold maxLen at mt_1
  have Rt := Lib.hid ht; clear ht
  have St_0 := Lib.hid st_0; clear st_0
  have St_1 := Lib.hid st_1; clear st_1
  obtain ⟨As_2, ns_2, cs_2, rfl, ss_2⟩ := id hs
  obtain ⟨ls_2, ks_2, ms_2⟩ := ss_2.len
  subst ls_2
  unfold maxLen at ms_2
  have Rs := Lib.hid hs; clear hs
  have Ss_2 := Lib.hid ss_2; clear ss_2
  go_enter Tryz.func12, Tryz.ntmps12
  go_wp2_with fail
  first | refine name_wp ?_ ?_ ?_ | refine name_calls ?_ ?_ ?_
  exact (fun W => Ext w W ∧ Blk W (w.heap.size) 27 [.slice At_0 t.ases.length ct_0, .slice At_1 t.links.length ct_1] ∧ Blk W (w.heap.size + 1) 43 [I s.ts, I s.beta, .slice As_2 s.hops.length cs_2])
  exact ⟨xe, xb, xb⟩
  rintro w0 ⟨ew0, bt, bs⟩
  have lt := bt.lt
  obtain ⟨pt_0, pt_1⟩ := blk2 bt
  have Bt := Lib.hid bt; clear bt
  have ls := bs.lt
  obtain ⟨ps_0, ps_1, ps_2⟩ := blk3 bs
  have Bs := Lib.hid bs; clear bs
  go_wp2_with fail
  go_loopw [12] (fun i wr => ∃ k : Nat, k ≤ s.hops.length ∧ i = I k ∧ (∀ j, j < k → authAt t s r j = false) ∧ Ext w0 wr) (fun i _ => s.hops.length - (intOf i).toNat)
  case atStart => exact ⟨0, by omega, rfl, fun j hj => by omega, Ext.refl _⟩
  case round =>
    obtain ⟨k, hk, rfl, hq, he⟩ := hrel
    have HQ := Lib.hid hq; clear hq
    have bt := Bt.out.ext (w' := wr) xe
    have lt := bt.lt
    obtain ⟨pt_0, pt_1⟩ := blk2 bt
    clear bt
    have bs := Bs.out.ext (w' := wr) xe
    have ls := bs.lt
    obtain ⟨ps_0, ps_1, ps_2⟩ := blk3 bs
    clear bs
    by_cases hlt : k < s.hops.length
    · obtain ⟨b, off, hA, hb, hkl, hc⟩ := (Ss_2.out.ext (w' := wr) xe).at_ hlt
      have HAT := Lib.hid (authAt_get (t := t) (s := s) (r := r) hkl)
      have HYES : Hid (authAt t s r k = true → authBy t s r = true) := fun h => any_yes hkl h
      have i0 : (0 : Int) ≤ (k : Int) := by omega
      have i1 : (k : Int) < (s.hops.length : Int) := by omega
      generalize s.hops[k] = u at *
      subst hA
      obtain ⟨hu_0, hu_1, hu_2, hu_3, hu_4⟩ := hc
      go_wp2_with fail
      refine name_wp (fun W => Ext wr W ∧ Blk W wr.heap.size 53 [I u.asn, I u.ing, I u.egr, I u.exp, I u.mac]) ⟨xe, xb⟩ ?_
      rintro w3 ⟨ew3, bu⟩
      have Bu := Lib.hid bu; clear bu hu_0 hu_1 hu_2 hu_3 hu_4
      clear pt_0 pt_1 lt ps_0 ps_1 ps_2 ls
      have bt := Bt.out.ext (w' := w3) xe
      have lt := bt.lt
      obtain ⟨pt_0, pt_1⟩ := blk2 bt
      clear bt
      have bs := Bs.out.ext (w' := w3) xe
      have ls := bs.lt
      obtain ⟨ps_0, ps_1, ps_2⟩ := blk3 bs
      clear bs
      have bu := Bu.out.ext (w' := w3) xe
      have lbu := bu.lt
      obtain ⟨qbu_0, qbu_1, qbu_2, qbu_3, qbu_4⟩ := blk5 bu
      have fbu_0 := bu.frozen 0
      have fbu_1 := bu.frozen 1
      have fbu_2 := bu.frozen 2
      have fbu_3 := bu.frozen 3
      have fbu_4 := bu.frozen 4
      clear bu
      have HNX : Hid (authAt t s r k = false → ∀ j, j < k + 1 → authAt t s r j = false) := fun h j hj => by
        rcases Nat.lt_or_ge j k with h9 | h9
        · exact HQ.out j h9
        · obtain rfl : j = k := by omega
          exact h
      by_cases hr : u.asn = r
      · have dq : (u.asn == r) = true := beq_iff_eq.2 hr
        have HDQ := Lib.hid dq
        clear hr
        generalize hv : verifyHop t s.ts (betaAt s k) u = vh at *
        have HV := Lib.hid hv; clear hv
        cases vh
        · skip
          refine wp_region_L (E := Ext) (w0 := w3) (G := fun τ => match τ with | 27 => some (fun v W => IsA (I (betaAt s k)) v) | 29 => some (fun v W => IsA (.bool false) v) | _ => none) Ext.refl (fun h k => Ext.trans h k) (by kernel_rfl) (by kernel_rfl) xg (Ext.drew (by exact Ext.refl _)) ?_
          repeat' (first
            | ((with_reducible refine wpL_skip ?_ ?_ ?_)
               · rfl
               · rfl
               simp only [Act.put, List.setIfInBounds_toArray, List.set_cons_zero, List.set_cons_succ])
            | ((with_reducible refine wpL_quiet ?_ ?_ ?_ ?_)
               · rfl
               · rfl
               · rfl
               apply Exists.intro
               refine ⟨fun W hW hS => ?_, ?_⟩
               · have hC := (Ext.facts hW).1
                 go_simp
                 first | done | (with_reducible rfl) | (rw [if_neg (by omega)]; exact ⟨rfl, rfl⟩) | rfl
               first | (with_reducible refine wpL_boolT ?_) | (with_reducible refine wpL_boolF ?_) | (with_reducible refine wpL_bool (fun hB => ?_) (fun hB => ?_)) | skip
               all_goals simp only [Act.put, List.setIfInBounds_toArray, List.set_cons_zero, List.set_cons_succ])
            | ((refine wpL_grow ?_ rfl rfl ?_ ?_)
               · rfl
               · intro W hW hS
                 have hC := (Ext.facts hW).1
                 unfold growAt
                 go_simp
                 simp only [growUpon]
                 first | (go_at_call 28; (with_reducible refine Calls.mono (impl_BetaAt _ (k : Int) s _ (by exact Rs.out.ext xe) (by omega)) ?_); rintro e w9 ⟨rfl, e9⟩; exact ⟨_, rfl, e9, IsA.mk⟩) | (go_at_call 27; (with_reducible refine Calls.mono (impl_VerifyHop _ s.ts (betaAt s k) u t _ (by exact Rt.out.ext xe)) ?_); rintro e w9 ⟨rfl, e9⟩; exact ⟨_, rfl, e9, by rw [HV.out]; exact IsA.mk⟩)
               intro v W' hW' hv
               first | ((with_reducible refine intro_at 27 _ ?_); cases hv) | ((with_reducible refine intro_at 29 _ ?_); cases hv) | (obtain ⟨A5, n5, c5, rfl, -⟩ := id hv; clear hv) | (obtain ⟨A5, n5, c5, rfl⟩ := NO.slice hv) | skip
               all_goals simp only [Act.put, List.setIfInBounds_toArray, List.set_cons_zero, List.set_cons_succ]))
          refine wpL_nil (fun w4 e4 hL => ?_)
          clear hL
          go_wp2_with fail
          go_roundw
          case rel => exact ⟨k + 1, by omega, by go_num, HNX.out (by rw [HAT.out]; simp), xe⟩
          case measure => simp [intOf]; omega
        · skip
          refine wp_region_L (E := Ext) (w0 := w3) (G := fun τ => match τ with | 27 => some (fun v W => IsA (I (betaAt s k)) v) | 29 => some (fun v W => IsA (.bool true) v) | _ => none) Ext.refl (fun h k => Ext.trans h k) (by kernel_rfl) (by kernel_rfl) xg (Ext.drew (by exact Ext.refl _)) ?_
          repeat' (first
            | ((with_reducible refine wpL_skip ?_ ?_ ?_)
               · rfl
               · rfl
               simp only [Act.put, List.setIfInBounds_toArray, List.set_cons_zero, List.set_cons_succ])
            | ((with_reducible refine wpL_quiet ?_ ?_ ?_ ?_)
               · rfl
               · rfl
               · rfl
               apply Exists.intro
               refine ⟨fun W hW hS => ?_, ?_⟩
               · have hC := (Ext.facts hW).1
                 go_simp
                 first | done | (with_reducible rfl) | (rw [if_neg (by omega)]; exact ⟨rfl, rfl⟩) | rfl
               first | (with_reducible refine wpL_boolT ?_) | (with_reducible refine wpL_boolF ?_) | (with_reducible refine wpL_bool (fun hB => ?_) (fun hB => ?_)) | skip
               all_goals simp only [Act.put, List.setIfInBounds_toArray, List.set_cons_zero, List.set_cons_succ])
            | ((refine wpL_grow ?_ rfl rfl ?_ ?_)
               · rfl
               · intro W hW hS
                 have hC := (Ext.facts hW).1
                 unfold growAt
                 go_simp
                 simp only [growUpon]
                 first | (go_at_call 28; (with_reducible refine Calls.mono (impl_BetaAt _ (k : Int) s _ (by exact Rs.out.ext xe) (by omega)) ?_); rintro e w9 ⟨rfl, e9⟩; exact ⟨_, rfl, e9, IsA.mk⟩) | (go_at_call 27; (with_reducible refine Calls.mono (impl_VerifyHop _ s.ts (betaAt s k) u t _ (by exact Rt.out.ext xe)) ?_); rintro e w9 ⟨rfl, e9⟩; exact ⟨_, rfl, e9, by rw [HV.out]; exact IsA.mk⟩)
               intro v W' hW' hv
               first | ((with_reducible refine intro_at 27 _ ?_); cases hv) | ((with_reducible refine intro_at 29 _ ?_); cases hv) | (obtain ⟨A5, n5, c5, rfl, -⟩ := id hv; clear hv) | (obtain ⟨A5, n5, c5, rfl⟩ := NO.slice hv) | skip
               all_goals simp only [Act.put, List.setIfInBounds_toArray, List.set_cons_zero, List.set_cons_succ]))
          refine wpL_nil (fun w4 e4 hL => ?_)
          clear hL
          go_wp2_with fail
          go_ret
          exact ⟨ret_bool (HYES.out (by rw [HAT.out, HDQ.out]; rfl)).symm, xe⟩
      · have dq : (u.asn == r) = false := beq_eq_false_iff_ne.2 hr
        have HDQ := Lib.hid dq
        clear hr
        refine wp_region_L (E := Ext) (w0 := w3) (G := fun τ => match τ with | 0 => none | _ => none) Ext.refl (fun h k => Ext.trans h k) (by kernel_rfl) (by kernel_rfl) xg (Ext.drew (by exact Ext.refl _)) ?_
        repeat' (first
          | ((with_reducible refine wpL_skip ?_ ?_ ?_)
             · rfl
             · rfl
             simp only [Act.put, List.setIfInBounds_toArray, List.set_cons_zero, List.set_cons_succ])
          | ((with_reducible refine wpL_quiet ?_ ?_ ?_ ?_)
             · rfl
             · rfl
             · rfl
             apply Exists.intro
             refine ⟨fun W hW hS => ?_, ?_⟩
             · have hC := (Ext.facts hW).1
               go_simp
               first | done | (with_reducible rfl) | (rw [if_neg (by omega)]; exact ⟨rfl, rfl⟩) | rfl
             first | (with_reducible refine wpL_boolT ?_) | (with_reducible refine wpL_boolF ?_) | (with_reducible refine wpL_bool (fun hB => ?_) (fun hB => ?_)) | skip
             all_goals simp only [Act.put, List.setIfInBounds_toArray, List.set_cons_zero, List.set_cons_succ]))
        refine wpL_nil (fun w4 e4 hL => ?_)
        clear hL
        go_wp2_with fail
        go_roundw
        case rel => exact ⟨k + 1, by omega, by go_num, HNX.out (by rw [HAT.out, HDQ.out]; rfl), xe⟩
        case measure => simp [intOf]; omega
    · obtain rfl : k = s.hops.length := by omega
      have i1 : ¬ (s.hops.length : Int) < (s.hops.length : Int) := by omega
      go_wp2_with fail
      go_ret
      exact ⟨ret_bool (any_none HQ.out).symm, xe⟩
end Go.Proofs.YtkbiciiniagadaaGreat
