/- Contracts of the program's interfaces of a realm and of what is above it: insertInt, Interfaces, InterfacesOfKind, neighbours, Union, reached, Ancestors, ReachableCores. No conditions. -/
import Derived.Test.YtpkcoinoiaaebaaGreatGP36
import Derived.Test.YtpkcoinoiaaebaaGreatGL04m
import Derived.Test.YtpkcoinoiaaebaaGreatGL10a
import Derived.Test.YtpkcoinoiaaebaaGreatGGrow
namespace Go.Proofs.YtpkcoinoiaaebaaGreat
open Go.RowKit
set_option linter.unusedVariables false
/-- v is u. -/
inductive IsL (u : Value) : Value → Prop where
  | mk : IsL u u
theorem ints_nil (w : World) : IntS w.heap.size w (.slice none 0 0) [] := ⟨_, 0, 0, rfl, rfl, Nat.le_refl _, Nat.zero_le _, fun h => absurd h (by omega)⟩
set_option maxRecDepth 100000 in
set_option maxHeartbeats 1000000 in
theorem impl_copyInts7 (v : Value) (xs : List Int) (w : World) (h : IntS w.heap.size w v xs) (hl : xs.length ≤ 100000000) :
    Calls Tryz.prog 137 #[v] w fun e w' => ∃ v', e = .returned v' ∧ IntSO w.heap.size w'.heap.size w' v' xs ∧ Ext w w' := by
  obtain ⟨A, n, c, rfl, hl1, hn, hm, -⟩ := id h
  subst hl1
  have H := Lib.hid h; clear h
  go_enter Tryz.func137, Tryz.ntmps137
  go_wp2_with (at_builtin; refine hold ?_)
  refine unhold (wpList_app w rfl (.tmp 3) (.tmp 4) _ rfl 3 _ 1 8 Tryz.underlying42 info_int rfl (by omega) _ 0 [] rfl A xs.length c (xs.map I) rfl
    (own_zero w _ 1 _ (Nat.le_refl _)) (by exact row_ints (H.out.ext xe)) (one_ints xs) xe (by unfold maxLen; omega) (by omega) ?_)
  intro v1 w1 ho1 he1 _ _
  have O1 := Lib.hid ho1; clear ho1
  go_wp2_with (at_builtin; refine hold ?_)
  go_ret
  exact ⟨_, rfl, by simpa using O1.out, he1⟩
set_option maxRecDepth 100000 in
set_option maxHeartbeats 1000000 in
theorem impl_insertInt (vl : Value) (n : Int) (l : List Int) (w : World) (hl : IntS w.heap.size w vl l) (hn : l.length ≤ 100000) : Calls Tryz.prog 112 #[vl, I n] w fun e w' => ∃ v', e = .returned v' ∧ IntS w'.heap.size w' v' (putI l n) ∧ Ext w w' := by
  obtain ⟨Al, nl, cl, rfl, ll, kl, ml, -⟩ := id hl
  subst ll
  unfold maxLen at ml
  have Rl := Lib.hid hl; clear hl
  go_enter Tryz.func112, Tryz.ntmps112
  go_wp2_with fail
  go_loopw [5] (fun i wr => ∃ k : Nat, k ≤ l.length ∧ i = I k ∧ wr = w ∧ ∀ x ∈ l.take k, x < n) (fun i _ => l.length - (intOf i).toNat)
  case atStart => exact ⟨0, by omega, rfl, rfl, by simp⟩
  case round =>
    obtain ⟨k, hk, rfl, rfl, htk⟩ := hrel
    have HTK := Lib.hid htk; clear htk
    have i0 : (0 : Int) ≤ (k : Int) := by omega
    by_cases hlt : k < l.length
    · obtain ⟨b, off, hA, hb, hkl, hc⟩ := Rl.out.at_ hlt
      have hc : wr.cell? ⟨b, off + k, none⟩ = some (I l[k]) := hc
      generalize hyk : l[k] = y at *
      have HYK := Lib.hid hyk; clear hyk
      subst hA
      have i1 : (k : Int) < (l.length : Int) := by omega
      have i2 : (k : Int) ≤ (cl : Int) := by omega
      have i3 : (k : Int) ≤ (l.length : Int) := by omega
      by_cases hy : y < n
      · go_wp2_with fail
        go_roundw
        case rel => exact ⟨k + 1, by omega, by go_num, by trivial, fun x hx => by (rw [List.take_succ_eq_append_getElem hlt] at hx; rcases List.mem_append.1 hx with hx | hx; exact HTK.out x hx; (have e : x = y := (by have := List.mem_singleton.1 hx; rw [this]; exact HYK.out)); subst e; exact hy)⟩
        case measure => simp [intOf]; omega
      by_cases hq : y = n
      · subst hq
        go_wp2_with fail
        go_ret
        exact ⟨_, rfl, by rw [putI_has l k hlt HTK.out HYK.out]; exact Rl.out, xe⟩
      · have d1 : (y == n) = false := beq_eq_false_iff_ne.2 hq
        go_wp2_with fail
        clear d1
        refine wp_region_LS 6 10 _ (E := Ext) (w0 := wr) (G := fun τ => match τ with | 38 => some (fun v W => Fresh1 3 wr.heap.size [I n] v W) | 36 => some (fun v W => IntSO wr.heap.size W.heap.size W v (l.take k)) | _ => none)  Ext.refl (fun h k => Ext.trans h k) (by kernel_rfl) (by kernel_rfl) rfl rfl (by kernel_rfl) (by kernel_rfl) (by kernel_rfl) (by kernel_rfl) (by kernel_rfl) (by kernel_rfl) (by kernel_rfl) (by kernel_rfl) (by intro oi hoi; simp only [List.take_succ_cons, List.take_zero, List.drop_succ_cons, List.drop_zero, List.mem_cons, List.not_mem_nil, or_false] at hoi; rcases hoi with rfl | rfl | rfl; (· exact ⟨rfl, rfl, by kernel_rfl, pure_move rfl⟩); (· exact ⟨rfl, rfl, by kernel_rfl, pure_move rfl⟩); (· exact ⟨rfl, rfl, by kernel_rfl, pure_slice rfl (by kernel_rfl) 1 size_int⟩)) xg (Ext.drew (by exact Ext.refl _)) ?_
        simp only [List.take_succ_cons, List.take_zero, List.drop_succ_cons, List.drop_zero, List.cons_append, List.nil_append]
        repeat' (first
          | ((with_reducible refine wpL_skip ?_ ?_ ?_)
             · rfl
             · rfl
             simp only [Act.put, List.setIfInBounds_toArray, List.set_cons_zero, List.set_cons_succ])
          | ((with_reducible refine wpL_quiet ?_ ?_ ?_ ?_)
             · rfl
             · rfl
             · rfl
             apply Exists.intro
             refine ⟨fun W hW hS => ?_, ?_⟩
             · have hC := (Ext.facts hW).1
               go_simp
               first | done | (with_reducible rfl) | (rw [if_neg (by omega)]; exact ⟨rfl, rfl⟩) | rfl
             first | (with_reducible refine wpL_boolT ?_) | (with_reducible refine wpL_boolF ?_) | (with_reducible refine wpL_bool (fun hB => ?_) (fun hB => ?_)) | skip
             all_goals simp only [Act.put, List.setIfInBounds_toArray, List.set_cons_zero, List.set_cons_succ])
          | ((refine wpL_grow ?_ rfl rfl ?_ ?_)
             · rfl
             · intro W hW hS
               have hC := (Ext.facts hW).1
               unfold growAt
               go_simp
               simp only [growUpon]
               first | (exact ⟨xe, Fresh1.new _ 3 _ _ _ rfl (Ext.size (by assumption))⟩) | (go_at_call 137; (with_reducible refine Calls.mono (impl_copyInts7 _ (l.take k) _ (by exact (Rl.out.ext (w' := _) xe).take (by omega)) (by rw [List.length_take]; omega)) ?_); rintro e w9 ⟨v9, rfl, o9, e9⟩; exact ⟨_, rfl, e9, Own.more o9 (Ext.size hW) (Nat.le_refl _)⟩)
             intro v W' hW' hv
             first | (obtain ⟨g5, rfl, -⟩ := hv) | (obtain ⟨A5, n5, c5, rfl⟩ := Own.slice hv) | (obtain ⟨A5, n5, c5, rfl, -⟩ := id hv; clear hv) | (obtain ⟨A5, n5, c5, rfl⟩ := NO.slice hv) | skip
             all_goals simp only [Act.put, List.setIfInBounds_toArray, List.set_cons_zero, List.set_cons_succ]))
        refine wpL_nil (fun w7 e7 hL => ?_)
        have o36 : IntSO wr.heap.size w7.heap.size w7 (.slice A5 n5 c5) (l.take k) := hL 36
        have f38 : Fresh1 3 wr.heap.size [I n] _ w7 := hL 38
        clear hL
        unfold IntSO at o36
        rw [List.length_take, Nat.min_eq_left hk] at o36
        obtain ⟨g9, hv9, hg9, hb9⟩ := f38
        have z7 := e7.size
        try dsimp only
        refine onAt_app wr.heap.size (.tmp 36) (.tmp 38) _ rfl 3 _ 1 8 Tryz.underlying42 info_int rfl (by omega) _ k _ rfl _ 1 1 [I n] hv9 o36 (row_blk hb9 rfl) (one_ints [n]) (by omega) (by unfold maxLen; omega) (by omega) ?_
        intro v8 w8 o8 hg8
        have E8 := Ext.app (w0 := wr) e7 o36 hg8
        have z8 : w7.heap.size ≤ w8.heap.size := hg8.size
        obtain ⟨a8, m8, q8, hv8⟩ := o8.slice
        subst hv8
        have hRS := Rl.out.ext (w' := w8) E8
        go_wp2_with (at_builtin; refine hold ?_)
        refine unhold (wpList_app wr rfl (.tmp 39) (.tmp 42) _ rfl 3 (.int .i64 0) 1 8 Tryz.underlying42 info_int rfl (by omega) _ (k + 1) _ rfl _ _ _ ((l.drop k).map I) rfl o8 (by first | exact row_suf_some hRS k (by omega) | exact row_suf_nil hRS k (by omega) | exact row_suf hRS k (by omega)) (one_ints _) E8 (by unfold maxLen; omega) (by omega) ?_)
        intro v9 w9 o9 e9 _ _
        have hlen : (((l.take k).map I ++ [I n]) ++ (l.drop k).map I) = ((l.take k ++ [n]) ++ l.drop k).map I := by simp
        rw [hlen] at o9
        have H9 := Lib.hid (IntSO_rd (lo := 0) (hi := w9.heap.size) (xs := (l.take k ++ [n]) ++ l.drop k) (by have h := o9.more (Nat.zero_le _) (Nat.le_refl _); have hl9 : ((l.take k ++ [n]) ++ l.drop k).length = k + 1 + (l.length - k) := (by simp [hk]; try omega); unfold IntSO; rw [hl9]; exact h))
        clear o9
        go_wp2_with (at_builtin; refine hold ?_)
        go_ret
        exact ⟨_, rfl, by (rw [putI_at l k (by omega) HTK.out (fun h => by have e := HYK.out; rw [e]; omega)]; exact H9.out), e9⟩
    · obtain rfl : k = l.length := by omega
      have i1 : ¬ (l.length : Int) < (l.length : Int) := by omega
      have i2 : (l.length : Int) ≤ (cl : Int) := by omega
      have i3 : (l.length : Int) ≤ (l.length : Int) := by omega
      go_wp2_with fail
      refine wp_region_LS 6 10 _ (E := Ext) (w0 := wr) (G := fun τ => match τ with | 38 => some (fun v W => Fresh1 3 wr.heap.size [I n] v W) | 36 => some (fun v W => IntSO wr.heap.size W.heap.size W v l) | _ => none)  Ext.refl (fun h k => Ext.trans h k) (by kernel_rfl) (by kernel_rfl) rfl rfl (by kernel_rfl) (by kernel_rfl) (by kernel_rfl) (by kernel_rfl) (by kernel_rfl) (by kernel_rfl) (by kernel_rfl) (by kernel_rfl) (by intro oi hoi; simp only [List.take_succ_cons, List.take_zero, List.drop_succ_cons, List.drop_zero, List.mem_cons, List.not_mem_nil, or_false] at hoi; rcases hoi with rfl | rfl | rfl; (· exact ⟨rfl, rfl, by kernel_rfl, pure_move rfl⟩); (· exact ⟨rfl, rfl, by kernel_rfl, pure_move rfl⟩); (· exact ⟨rfl, rfl, by kernel_rfl, pure_slice rfl (by kernel_rfl) 1 size_int⟩)) xg (Ext.drew (by exact Ext.refl _)) ?_
      simp only [List.take_succ_cons, List.take_zero, List.drop_succ_cons, List.drop_zero, List.cons_append, List.nil_append]
      repeat' (first
        | ((with_reducible refine wpL_skip ?_ ?_ ?_)
           · rfl
           · rfl
           simp only [Act.put, List.setIfInBounds_toArray, List.set_cons_zero, List.set_cons_succ])
        | ((with_reducible refine wpL_quiet ?_ ?_ ?_ ?_)
           · rfl
           · rfl
           · rfl
           apply Exists.intro
           refine ⟨fun W hW hS => ?_, ?_⟩
           · have hC := (Ext.facts hW).1
             go_simp
             first | done | (with_reducible rfl) | (rw [if_neg (by omega)]; exact ⟨rfl, rfl⟩) | rfl
           first | (with_reducible refine wpL_boolT ?_) | (with_reducible refine wpL_boolF ?_) | (with_reducible refine wpL_bool (fun hB => ?_) (fun hB => ?_)) | skip
           all_goals simp only [Act.put, List.setIfInBounds_toArray, List.set_cons_zero, List.set_cons_succ])
        | ((refine wpL_grow ?_ rfl rfl ?_ ?_)
           · rfl
           · intro W hW hS
             have hC := (Ext.facts hW).1
             unfold growAt
             go_simp
             simp only [growUpon]
             first | (exact ⟨xe, Fresh1.new _ 3 _ _ _ rfl (Ext.size (by assumption))⟩) | (go_at_call 137; (with_reducible refine Calls.mono (impl_copyInts7 _ l _ (by exact Rl.out.ext xe) (by omega)) ?_); rintro e w9 ⟨v9, rfl, o9, e9⟩; exact ⟨_, rfl, e9, Own.more o9 (Ext.size hW) (Nat.le_refl _)⟩)
           intro v W' hW' hv
           first | (obtain ⟨g5, rfl, -⟩ := hv) | (obtain ⟨A5, n5, c5, rfl⟩ := Own.slice hv) | (obtain ⟨A5, n5, c5, rfl, -⟩ := id hv; clear hv) | (obtain ⟨A5, n5, c5, rfl⟩ := NO.slice hv) | skip
           all_goals simp only [Act.put, List.setIfInBounds_toArray, List.set_cons_zero, List.set_cons_succ]))
      refine wpL_nil (fun w7 e7 hL => ?_)
      have o36_ : IntSO wr.heap.size w7.heap.size w7 (.slice A5 n5 c5) l := hL 36
      have o36 : Own 3 1 wr.heap.size w7.heap.size w7 (.slice A5 n5 c5) l.length ((l.take l.length).map I) := by rw [List.take_length]; exact o36_
      clear o36_
      have f38 : Fresh1 3 wr.heap.size [I n] _ w7 := hL 38
      clear hL
      obtain ⟨g9, hv9, hg9, hb9⟩ := f38
      have z7 := e7.size
      try dsimp only
      refine onAt_app wr.heap.size (.tmp 36) (.tmp 38) _ rfl 3 _ 1 8 Tryz.underlying42 info_int rfl (by omega) _ l.length _ rfl _ 1 1 [I n] hv9 o36 (row_blk hb9 rfl) (one_ints [n]) (by omega) (by unfold maxLen; omega) (by omega) ?_
      intro v8 w8 o8 hg8
      have E8 := Ext.app (w0 := wr) e7 o36 hg8
      have z8 : w7.heap.size ≤ w8.heap.size := hg8.size
      obtain ⟨a8, m8, q8, hv8⟩ := o8.slice
      subst hv8
      have hRS := Rl.out.ext (w' := w8) E8
      go_wp2_with (at_builtin; refine hold ?_)
      all_goals
        refine unhold (wpList_app wr rfl (.tmp 39) (.tmp 42) _ rfl 3 (.int .i64 0) 1 8 Tryz.underlying42 info_int rfl (by omega) _ (l.length + 1) _ rfl _ _ _ ((l.drop l.length).map I) rfl o8 (row_nil0 l) (one_ints _) E8 (by unfold maxLen; omega) (by omega) ?_)
        intro v9 w9 o9 e9 _ _
        have hlen : (((l.take l.length).map I ++ [I n]) ++ (l.drop l.length).map I) = ((l.take l.length ++ [n]) ++ l.drop l.length).map I := by simp
        rw [hlen] at o9
        have H9 := Lib.hid (IntSO_rd (lo := 0) (hi := w9.heap.size) (xs := (l.take l.length ++ [n]) ++ l.drop l.length) (by have h := o9.more (Nat.zero_le _) (Nat.le_refl _); have hl9 : ((l.take l.length ++ [n]) ++ l.drop l.length).length = l.length + 1 + 0 := (by simp); unfold IntSO; rw [hl9]; exact h))
        clear o9
        go_wp2_with (at_builtin; refine hold ?_)
        go_ret
        exact ⟨_, rfl, by (rw [putI_at l l.length (by omega) HTK.out (fun h => by omega)]; exact H9.out), e9⟩
set_option maxRecDepth 100000 in
set_option maxHeartbeats 1000000 in
theorem impl_Interfaces (vt : Value) (r : Int) (t : DTopology) (w : World) (ht : TopologyV w.heap.size w vt t) (hn : t.links.length ≤ 10000) : Calls Tryz.prog 136 #[vt, I r] w fun e w' => ∃ v', e = .returned v' ∧ IntS w'.heap.size w' v' (ifaces t.links r) ∧ Ext w w' := by
  obtain ⟨At_0, nt_0, ct_0, At_1, nt_1, ct_1, rfl, st_0, st_1⟩ := id ht
  obtain ⟨lt_0, kt_0, mt_0⟩ := st_0.len
  subst lt_0
  unfold maxLen at mt_0
  obtain ⟨lt_1, kt_1, mt_1⟩ := st_1.len
  subst lt_1
  unfold maxLen at mt_1
  have Rt := Lib.hid ht; clear ht
  have St_0 := Lib.hid st_0; clear st_0
  have St_1 := Lib.hid st_1; clear st_1
  go_enter Tryz.func136, Tryz.ntmps136
  go_wp2_with fail
  first | refine name_wp ?_ ?_ ?_ | refine name_calls ?_ ?_ ?_
  exact (fun W => Ext w W ∧ Blk W (w.heap.size) 27 [.slice At_0 t.ases.length ct_0, .slice At_1 t.links.length ct_1])
  exact ⟨xe, xb⟩
  rintro w0 ⟨ew0, bt⟩
  have lt := bt.lt
  obtain ⟨pt_0, pt_1⟩ := blk2 bt
  have Bt := Lib.hid bt; clear bt
  go_wp2_with fail
  go_loopw [5, 11] (fun v i wr => ∃ (k : Nat) (l : List Int), k ≤ t.links.length ∧ i = I k ∧ IntS wr.heap.size wr v l ∧ (l.length ≤ 2 * k ∧ l = ifaces (t.links.take k) r) ∧ Ext w0 wr) (fun _ i _ => t.links.length - (intOf i).toNat)
  case atStart => exact ⟨0, [], by omega, rfl, ints_nil _, ⟨by simp, rfl⟩, Ext.refl _⟩
  case round =>
    obtain ⟨k, l, hk, rfl, hl, ⟨hll, hlf⟩, he⟩ := hrel
    have HLF := Lib.hid hlf; clear hlf
    obtain ⟨av, nv, cv, rfl, -⟩ := id hl
    have HL := Lib.hid hl; clear hl
    have zr := he.size; have z0 := ew0.size
    by_cases hlt : k < t.links.length
    · obtain ⟨b, off, hA, hb, hkl, hc⟩ := (LinkS.ext St_1.out (w' := wr) xe).at_ hlt
      have HST := Lib.hid (ifaces_take t.links k hlt r)
      generalize t.links[k] = u at *
      rw [← HLF.out] at HST
      subst hA
      obtain ⟨hu_0, hu_1, hu_2, hu_3, hu_4⟩ := hc
      have i0 : (0 : Int) ≤ (k : Int) := by omega
      have i1 : (k : Int) < (t.links.length : Int) := by omega
      by_cases h1 : u.a = r
      · have d1 : (u.a == r) = true := beq_iff_eq.2 h1
        clear h1
        go_wp2_with fail
        refine name_calls (fun W => Ext wr W ∧ Blk W wr.heap.size 80 [I u.a, I u.ai, I u.b, I u.bi, I u.kind]) ⟨xe, xb⟩ ?_
        rintro w3 ⟨ew3, bu⟩
        have Bu := Lib.hid bu; clear bu hu_0 hu_1 hu_2 hu_3 hu_4
        refine (impl_insertInt _ u.ai l _ (by exact HL.out.ext xe) (by omega)).mono ?_
        rintro e w1 ⟨v1, rfl, hl1, e1⟩
        have hn1 := putI_len u.ai l
        generalize hpl : putI l u.ai = l1 at *
        have HPL := Lib.hid hpl; clear hpl
        obtain ⟨a1, n1, c1, rfl, -⟩ := id hl1
        clear HL
        have HL := Lib.hid hl1; clear hl1
        have bu := Bu.out.ext (w' := w1) xe
        have lbu := bu.lt
        obtain ⟨qbu_0, qbu_1, qbu_2, qbu_3, qbu_4⟩ := blk5 bu
        have fbu_0 := bu.frozen 0
        have fbu_1 := bu.frozen 1
        have fbu_2 := bu.frozen 2
        have fbu_3 := bu.frozen 3
        have fbu_4 := bu.frozen 4
        clear bu
        by_cases h2 : u.b = r
        · have d2 : (u.b == r) = true := beq_iff_eq.2 h2
          clear h2
          go_wp2_with fail
          refine (impl_insertInt _ u.bi l1 _ (by exact HL.out.ext xe) (by omega)).mono ?_
          rintro e w9 ⟨v9, rfl, hl9, e9⟩
          go_wp2_with fail
          go_roundw
          case rel => exact ⟨k + 1, putI l1 u.bi, by omega, by go_num, hl9, ⟨by have := putI_len u.bi l1; omega, by rw [HST.out]; unfold ifStep; rw [if_pos (beq_iff_eq.1 d1), if_pos (beq_iff_eq.1 d2), HPL.out]⟩, xe⟩
          case measure => simp [intOf]; omega
        · have d2 : (u.b == r) = false := beq_eq_false_iff_ne.2 h2
          clear h2
          go_wp2_with fail
          go_roundw
          case rel => exact ⟨k + 1, l1, by omega, by go_num, HL.out.ext xe, ⟨by omega, by rw [HST.out]; unfold ifStep; rw [if_pos (beq_iff_eq.1 d1), if_neg (beq_eq_false_iff_ne.1 d2), HPL.out]⟩, xe⟩
          case measure => simp [intOf]; omega
      · have d1 : (u.a == r) = false := beq_eq_false_iff_ne.2 h1
        clear h1
        by_cases h2 : u.b = r
        · have d2 : (u.b == r) = true := beq_iff_eq.2 h2
          clear h2
          go_wp2_with fail
          refine (impl_insertInt _ u.bi l _ (by exact HL.out.ext xe) (by omega)).mono ?_
          rintro e w9 ⟨v9, rfl, hl9, e9⟩
          go_wp2_with fail
          go_roundw
          case rel => exact ⟨k + 1, putI l u.bi, by omega, by go_num, hl9, ⟨by have := putI_len u.bi l; omega, by rw [HST.out]; unfold ifStep; rw [if_neg (beq_eq_false_iff_ne.1 d1), if_pos (beq_iff_eq.1 d2)]⟩, xe⟩
          case measure => simp [intOf]; omega
        · have d2 : (u.b == r) = false := beq_eq_false_iff_ne.2 h2
          clear h2
          go_wp2_with fail
          go_roundw
          case rel => exact ⟨k + 1, l, by omega, by go_num, HL.out.ext xe, ⟨by omega, by rw [HST.out]; unfold ifStep; rw [if_neg (beq_eq_false_iff_ne.1 d1), if_neg (beq_eq_false_iff_ne.1 d2)]⟩, xe⟩
          case measure => simp [intOf]; omega
    · obtain rfl : k = t.links.length := by omega
      have i1 : ¬ (t.links.length : Int) < (t.links.length : Int) := by omega
      go_wp2_with fail
      go_ret
      have e9 : l = ifaces t.links r := by rw [HLF.out, List.take_length]
      exact ⟨_, rfl, by rw [← e9]; exact HL.out, xe⟩
theorem filt_snoc (p : Int → Bool) (L : List Int) (k : Nat) (h : k < L.length) : (L.take (k + 1)).filter p = (L.take k).filter p ++ (if p L[k] then [L[k]] else []) := by
  rw [List.take_succ_eq_append_getElem h, List.filter_append]
  cases hq : p L[k] <;> simp [hq]
set_option maxRecDepth 100000 in
set_option maxHeartbeats 1000000 in
theorem impl_InterfacesOfKind (vt : Value) (r kind : Int) (t : DTopology) (w : World) (ht : TopologyV w.heap.size w vt t) (hn : t.links.length ≤ 10000) : Calls Tryz.prog 111 #[vt, I r, I kind] w fun e w' => ∃ v', e = .returned v' ∧ IntSO w.heap.size w'.heap.size w' v' (ifsOf t r kind) ∧ Ext w w' := by
  obtain ⟨At_0, nt_0, ct_0, At_1, nt_1, ct_1, rfl, st_0, st_1⟩ := id ht
  obtain ⟨lt_0, kt_0, mt_0⟩ := st_0.len
  subst lt_0
  unfold maxLen at mt_0
  obtain ⟨lt_1, kt_1, mt_1⟩ := st_1.len
  subst lt_1
  unfold maxLen at mt_1
  have Rt := Lib.hid ht; clear ht
  have St_0 := Lib.hid st_0; clear st_0
  have St_1 := Lib.hid st_1; clear st_1
  go_enter Tryz.func111, Tryz.ntmps111
  go_wp2_with fail
  first | refine name_wp ?_ ?_ ?_ | refine name_calls ?_ ?_ ?_
  exact (fun W => Ext w W ∧ Blk W (w.heap.size) 27 [.slice At_0 t.ases.length ct_0, .slice At_1 t.links.length ct_1])
  exact ⟨xe, xb⟩
  rintro w0 ⟨ew0, bt⟩
  have lt := bt.lt
  obtain ⟨pt_0, pt_1⟩ := blk2 bt
  have Bt := Lib.hid bt; clear bt
  go_wp2_with fail
  refine (impl_Interfaces _ r t _ (by exact Rt.out.ext xe) hn).mono ?_
  rintro e w1 ⟨v1, rfl, hl, e1⟩
  have z1 := e1.size; have z0 := ew0.size
  have hll := ifaces_len r t.links
  obtain ⟨L, hLe⟩ : ∃ L, L = ifaces t.links r := ⟨_, rfl⟩
  have HF : Hid (ifsOf t r kind = L.filter (fun d => ifKind t r d == kind)) := by unfold Hid ifsOf; rw [hLe]
  rw [← hLe] at hl hll
  clear hLe
  obtain ⟨A', n', c', rfl, ln', -, mn', -⟩ := id hl
  subst ln'
  unfold maxLen at mn'
  have HL := Lib.hid hl; clear hl
  clear pt_0 pt_1 lt
  go_wp2_with fail
  go_loopw [7, 14] (fun v i wr => ∃ k : Nat, k ≤ L.length ∧ i = I k ∧ IntSO w1.heap.size wr.heap.size wr v ((L.take k).filter (fun d => ifKind t r d == kind)) ∧ Ext w1 wr) (fun _ i _ => L.length - (intOf i).toNat)
  case atStart => exact ⟨0, by omega, rfl, Own.nil _ _ _ _ _, Ext.refl _⟩
  case round =>
    obtain ⟨k, hk, rfl, ho, he⟩ := hrel
    have HO := Lib.hid ho; clear ho
    have zr := he.size
    have bt := Bt.out.ext (w' := wr) xe
    have lt := bt.lt
    obtain ⟨pt_0, pt_1⟩ := blk2 bt
    clear bt
    have hfl : ((L.take k).filter (fun d => ifKind t r d == kind)).length ≤ k := Nat.le_trans (List.length_filter_le _ _) (by simp; omega)
    by_cases hlt : k < L.length
    · obtain ⟨b, off, hA, hb, hkl, hc⟩ := (HL.out.ext (w' := wr) he).at_ hlt
      have hc : wr.cell? ⟨b, off + k, none⟩ = some (I L[k]) := hc
      have HX := Lib.hid (filt_snoc (fun d => ifKind t r d == kind) L k hlt)
      generalize L[k] = y at *
      generalize (L.take k).filter (fun d => ifKind t r d == kind) = sl at *
      subst hA
      have i0 : (0 : Int) ≤ (k : Int) := by omega
      have i1 : (k : Int) < (L.length : Int) := by omega
      go_wp2_with fail
      refine (impl_InterfaceKind _ r y t _ (by exact Rt.out.ext xe)).mono ?_
      rintro e w5 ⟨rfl, e5⟩
      have z5 := e5.size
      by_cases hq : ifKind t r y = kind
      · have dq : (ifKind t r y == kind) = true := beq_iff_eq.2 hq
        rw [dq, if_pos rfl] at HX
        clear hq
        go_wp2_with (at_builtin; refine hold ?_)
        refine unhold (wpList_app w1 rfl (.tmp 24) (.tmp 26) _ rfl 3 (.int .i64 0) 1 8 Tryz.underlying42 info_int rfl (by omega) _ sl.length (sl.map I) rfl _ 1 1 [I y] rfl
          (by exact ((Own.ext HO.out e5 (Nat.le_refl _)).alloc _).lt_size) (row_newN _ _ _ _ _ _ (by first | rfl | simp) rfl) (one_ints [y]) xe (by unfold maxLen; omega) (by omega) ?_)
        intro v1 w8 ho1 he1 _ _
        have O1 := Lib.hid ho1; clear ho1
        go_wp2_with (at_builtin; refine hold ?_)
        go_roundw
        case rel => exact ⟨k + 1, by omega, by go_num, by rw [HX.out]; unfold IntSO; simpa using O1.out, he1⟩
        case measure => simp [intOf]; omega
      · have dq : (ifKind t r y == kind) = false := beq_eq_false_iff_ne.2 hq
        rw [dq, if_neg (by decide), List.append_nil] at HX
        clear hq
        go_wp2_with fail
        go_roundw
        case rel => exact ⟨k + 1, by omega, by go_num, by rw [HX.out]; exact Own.more (Own.ext HO.out e5 (Nat.le_refl _)) (Nat.le_refl _) e5.size, xe⟩
        case measure => simp [intOf]; omega
    · obtain rfl : k = L.length := by omega
      have i1 : ¬ (L.length : Int) < (L.length : Int) := by omega
      go_wp2_with fail
      go_ret
      exact ⟨_, rfl, by have h := HO.out; rw [List.take_length] at h; rw [HF.out]; exact Own.more h (by omega) (Nat.le_refl _), xe⟩
theorem nbs_len (t : DTopology) (r : Int) : ∀ (l l0 : List Int), (l.foldl (nbStep t r) l0).length ≤ l0.length + l.length
  | [], _ => by simp
  | i :: l, l0 => by
    have h := nbs_len t r l (nbStep t r l0 i)
    have h2 : (nbStep t r l0 i).length ≤ l0.length + 1 := by
      unfold nbStep
      split
      · exact putI_len _ _
      · omega
    rw [List.foldl_cons, List.length_cons]
    omega
set_option maxRecDepth 100000 in
set_option maxHeartbeats 1000000 in
theorem impl_neighbours (vt : Value) (r kind : Int) (t : DTopology) (w : World) (ht : TopologyV w.heap.size w vt t) (hn : t.links.length ≤ 10000) : Calls Tryz.prog 83 #[vt, I r, I kind] w fun e w' => ∃ v', e = .returned v' ∧ IntS w'.heap.size w' v' (nbs t r kind) ∧ Ext w w' := by
  obtain ⟨At_0, nt_0, ct_0, At_1, nt_1, ct_1, rfl, st_0, st_1⟩ := id ht
  obtain ⟨lt_0, kt_0, mt_0⟩ := st_0.len
  subst lt_0
  unfold maxLen at mt_0
  obtain ⟨lt_1, kt_1, mt_1⟩ := st_1.len
  subst lt_1
  unfold maxLen at mt_1
  have Rt := Lib.hid ht; clear ht
  have St_0 := Lib.hid st_0; clear st_0
  have St_1 := Lib.hid st_1; clear st_1
  go_enter Tryz.func83, Tryz.ntmps83
  go_wp2_with fail
  first | refine name_wp ?_ ?_ ?_ | refine name_calls ?_ ?_ ?_
  exact (fun W => Ext w W ∧ Blk W (w.heap.size) 27 [.slice At_0 t.ases.length ct_0, .slice At_1 t.links.length ct_1])
  exact ⟨xe, xb⟩
  rintro w0 ⟨ew0, bt⟩
  have lt := bt.lt
  obtain ⟨pt_0, pt_1⟩ := blk2 bt
  have Bt := Lib.hid bt; clear bt
  go_wp2_with fail
  refine (impl_InterfacesOfKind _ r kind t _ (by exact Rt.out.ext xe) hn).mono ?_
  rintro e w1 ⟨v1, rfl, ol, e1⟩
  have z1 := e1.size; have z0 := ew0.size
  have hll : (ifsOf t r kind).length ≤ 20000 := by
    have h1 := ifaces_len r t.links
    have h2 : (ifsOf t r kind).length ≤ (ifaces t.links r).length := List.length_filter_le _ _
    omega
  have hl := IntSO_rd ol
  clear ol
  obtain ⟨L, hLe⟩ : ∃ L, L = ifsOf t r kind := ⟨_, rfl⟩
  have HF : Hid (nbs t r kind = L.foldl (nbStep t r) []) := by unfold Hid nbs; rw [hLe]; rfl
  rw [← hLe] at hl hll
  clear hLe
  obtain ⟨A', n', c', rfl, ln', -, mn', -⟩ := id hl
  subst ln'
  unfold maxLen at mn'
  have HL := Lib.hid hl; clear hl
  clear pt_0 pt_1 lt
  go_wp2_with fail
  go_loopw [7, 17] (fun v i wr => ∃ k : Nat, k ≤ L.length ∧ i = I k ∧ IntS wr.heap.size wr v ((L.take k).foldl (nbStep t r) []) ∧ Ext w1 wr) (fun _ i _ => L.length - (intOf i).toNat)
  case atStart => exact ⟨0, by omega, rfl, ints_nil _, Ext.refl _⟩
  case round =>
    obtain ⟨k, hk, rfl, ho, he⟩ := hrel
    have HO := Lib.hid ho; clear ho
    have zr := he.size
    have bt := Bt.out.ext (w' := wr) xe
    have lt := bt.lt
    obtain ⟨pt_0, pt_1⟩ := blk2 bt
    clear bt
    have hfl := nbs_len t r (L.take k) []
    rw [List.length_take, Nat.min_eq_left hk, List.length_nil] at hfl
    by_cases hlt : k < L.length
    · obtain ⟨b, off, hA, hb, hkl, hc⟩ := (HL.out.ext (w' := wr) he).at_ hlt
      have hc : wr.cell? ⟨b, off + k, none⟩ = some (I L[k]) := hc
      have HX : Hid ((L.take (k + 1)).foldl (nbStep t r) [] = nbStep t r ((L.take k).foldl (nbStep t r) []) L[k]) := by unfold Hid; rw [List.take_succ_eq_append_getElem hlt, List.foldl_append]; rfl
      generalize L[k] = y at *
      generalize (L.take k).foldl (nbStep t r) [] = sl at *
      subst hA
      have i0 : (0 : Int) ≤ (k : Int) := by omega
      have i1 : (k : Int) < (L.length : Int) := by omega
      go_wp2_with fail
      refine (impl_RemoteEnd _ r y t _ (by exact Rt.out.ext xe)).mono ?_
      rintro e w5 ⟨rfl, e5⟩
      have z5 := e5.size
      obtain ⟨x, hx⟩ : ∃ x, (remEnd t r y).1 = x := ⟨_, rfl⟩
      have HR := Lib.hid hx
      rw [hx]
      generalize (remEnd t r y).2 = x2
      clear hx
      go_wp2_with fail
      refine (impl_InRange x 0 15 w5).mono ?_
      rintro e w6 ⟨rfl, rfl⟩
      cases hq : inR x 0 15
      · have HN : Hid (nbStep t r sl y = sl) := by unfold Hid nbStep; rw [HR.out, hq]; rfl
        rw [HN.out] at HX
        go_wp2_with fail
        go_roundw
        case rel => exact ⟨k + 1, by omega, by go_num, by rw [HX.out]; exact HO.out.ext e5, xe⟩
        case measure => simp [intOf]; omega
      · have HN : Hid (nbStep t r sl y = putI sl x) := by unfold Hid nbStep; rw [HR.out, hq]; rfl
        rw [HN.out] at HX
        go_wp2_with fail
        refine (impl_insertInt _ x sl w5 (by exact HO.out.ext e5) (by omega)).mono ?_
        rintro e w7 ⟨v7, rfl, h7, e7⟩
        go_wp2_with fail
        go_roundw
        case rel => exact ⟨k + 1, by omega, by go_num, by rw [HX.out]; exact h7, xe⟩
        case measure => simp [intOf]; omega
    · obtain rfl : k = L.length := by omega
      have i1 : ¬ (L.length : Int) < (L.length : Int) := by omega
      go_wp2_with fail
      go_ret
      exact ⟨_, rfl, by have h := HO.out; rw [List.take_length] at h; rw [HF.out]; exact h, xe⟩
theorem bit_or2 (a b : Int) (ha : validSet a = true) (hb : validSet b = true) : bits BinOp.or IntKind.i64 a b = ((a.toNat ||| b.toNat : Nat) : Int) := by
  obtain ⟨a0, a1⟩ := inR_iff.1 ha
  obtain ⟨b0, b1⟩ := inR_iff.1 hb
  obtain ⟨n, rfl⟩ := Int.eq_ofNat_of_zero_le a0
  obtain ⟨m, rfl⟩ := Int.eq_ofNat_of_zero_le b0
  exact (bits_nat .i64 63 (by decide) wraps_i64_63 n m (by omega) (by omega)).2
set_option maxRecDepth 100000 in
set_option maxHeartbeats 1000000 in
theorem impl_Union (a b : Int) (w : World) : Calls Tryz.prog 81 #[I a, I b] w fun e w' => e = .returned (I (uniS a b)) ∧ w = w' := by
  go_enter Tryz.func81, Tryz.ntmps81
  go_wp2_with fail
  refine (impl_ValidSet a w).mono ?_
  rintro e w1 ⟨rfl, rfl⟩
  cases h1 : validSet a
  · have HF : Hid (uniS a b = 0) := by unfold Hid uniS; rw [h1]; rfl
    go_wp2_with fail
    go_ret
    exact ⟨ret_int HF.out.symm, rfl⟩
  go_wp2_with fail
  refine (impl_ValidSet b w).mono ?_
  rintro e w1 ⟨rfl, rfl⟩
  cases h2 : validSet b
  · have HF : Hid (uniS a b = 0) := by unfold Hid uniS; rw [h1, h2]; rfl
    go_wp2_with fail
    go_ret
    exact ⟨ret_int HF.out.symm, rfl⟩
  have HF : Hid (bits BinOp.or IntKind.i64 a b = uniS a b) := by unfold Hid uniS; rw [bit_or2 a b h1 h2, h1, h2]; rfl
  go_wp2_with fail
  go_ret
  exact ⟨ret_int HF.out, rfl⟩
theorem next_snoc (t : DTopology) (kind : Int) (L : List Int) (k : Nat) (h : k < L.length) : nextOf t kind (L.take (k + 1)) = uniS (nextOf t kind (L.take k)) (nbSet t L[k] kind) := by
  unfold nextOf
  rw [List.take_succ_eq_append_getElem h, List.foldl_append]
  rfl
theorem elements_len (s : Int) : (elements s).length ≤ 16 := elemsTo_len s 16
set_option maxRecDepth 100000 in
set_option maxHeartbeats 1000000 in
theorem impl_reached (vt vl : Value) (kind : Int) (steps : Nat) (t : DTopology) (l0 : List Int) (w : World) (ht : TopologyV w.heap.size w vt t) (hl : IntS w.heap.size w vl l0) (hn : t.links.length ≤ 10000) (hs : steps ≤ 100) (hl0 : l0.length ≤ 100) :
    Calls Tryz.prog 49 #[vt, vl, I kind, I (steps : Int)] w fun e w' => e = .returned (I (reachTo t kind l0 steps).1) ∧ Ext w w' := by
  obtain ⟨At_0, nt_0, ct_0, At_1, nt_1, ct_1, rfl, st_0, st_1⟩ := id ht
  obtain ⟨lt_0, kt_0, mt_0⟩ := st_0.len
  subst lt_0
  unfold maxLen at mt_0
  obtain ⟨lt_1, kt_1, mt_1⟩ := st_1.len
  subst lt_1
  unfold maxLen at mt_1
  have Rt := Lib.hid ht; clear ht
  have St_0 := Lib.hid st_0; clear st_0
  have St_1 := Lib.hid st_1; clear st_1
  have HL0 := Lib.hid hl; clear hl
  go_enter Tryz.func49, Tryz.ntmps49
  go_wp2_with fail
  first | refine name_wp ?_ ?_ ?_ | refine name_calls ?_ ?_ ?_
  exact (fun W => Ext w W ∧ Blk W (w.heap.size) 27 [.slice At_0 t.ases.length ct_0, .slice At_1 t.links.length ct_1])
  exact ⟨xe, xb⟩
  rintro w0 ⟨ew0, bt⟩
  have lt := bt.lt
  obtain ⟨pt_0, pt_1⟩ := blk2 bt
  have Bt := Lib.hid bt; clear bt
  go_wp2_with fail
  clear pt_0 pt_1 lt
  go_loopw [1, 9, 10] (fun v s i wr => ∃ k : Nat, k ≤ steps ∧ i = I k ∧ s = I (reachTo t kind l0 k).1 ∧ IntS wr.heap.size wr v (reachTo t kind l0 k).2 ∧ (reachTo t kind l0 k).2.length ≤ 100 ∧ Ext w0 wr) (fun _ _ i _ => steps - (intOf i).toNat)
  case atStart => exact ⟨0, by omega, rfl, rfl, HL0.out.ext xe, hl0, Ext.refl _⟩
  case round =>
    obtain ⟨k, hk, rfl, rfl, hl, hlen, he⟩ := hrel
    have zr := he.size
    by_cases hlt : k < steps
    · have HX1 : Hid ((reachTo t kind l0 (k + 1)).1 = uniS (reachTo t kind l0 k).1 (nextOf t kind (reachTo t kind l0 k).2)) := rfl
      have HX2 : Hid ((reachTo t kind l0 (k + 1)).2 = elements (nextOf t kind (reachTo t kind l0 k).2)) := rfl
      generalize (reachTo t kind l0 k).1 = s at *
      generalize (reachTo t kind l0 k).2 = L at *
      obtain ⟨A', n', c', rfl, ln', -, mn', -⟩ := id hl
      subst ln'
      unfold maxLen at mn'
      have HL := Lib.hid hl; clear hl
      have i0 : (0 : Int) ≤ (k : Int) := by omega
      have i1 : (k : Int) < (steps : Int) := by omega
      go_wp2_with fail
      obtain ⟨w20, hw20⟩ : ∃ w20, w20 = wr := ⟨_, rfl⟩
      subst hw20
      go_loopw [11, 21] (fun x i wq => ∃ m : Nat, m ≤ L.length ∧ i = I m ∧ x = I (nextOf t kind (L.take m)) ∧ Ext w20 wq) (fun _ i _ => L.length - (intOf i).toNat)
      case atStart => exact ⟨0, by omega, rfl, rfl, Ext.refl _⟩
      case round =>
        obtain ⟨m, hm, rfl, rfl, hq⟩ := hrel
        have zq := hq.size
        have bt := Bt.out.ext (w' := wr) xe
        have lt := bt.lt
        obtain ⟨pt_0, pt_1⟩ := blk2 bt
        clear bt
        by_cases hlt2 : m < L.length
        · obtain ⟨b, off, hA, hb, hkl, hc⟩ := (HL.out.ext (w' := wr) hq).at_ hlt2
          have hc : wr.cell? ⟨b, off + m, none⟩ = some (I L[m]) := hc
          have HY := Lib.hid (next_snoc t kind L m hlt2)
          have HB : Hid (nbSet t L[m] kind = (nbs t L[m] kind).foldl addElem 0) := rfl
          generalize L[m] = y at *
          generalize nextOf t kind (L.take m) = x at *
          subst hA
          have j0 : (0 : Int) ≤ (m : Int) := by omega
          have j1 : (m : Int) < (L.length : Int) := by omega
          go_wp2_with fail
          refine (impl_neighbours _ y kind t _ (by exact Rt.out.ext xe) hn).mono ?_
          rintro e w5 ⟨v5, rfl, h5, e5⟩
          have z5 := e5.size
          obtain ⟨a5, n5, c5, rfl, -⟩ := id h5
          have H5 := Lib.hid h5; clear h5
          go_wp2_with fail
          refine (impl_MakeSet _ (nbs t y kind) w5 (by exact H5.out)).mono ?_
          rintro e w6 ⟨rfl, e6⟩
          rw [← HB.out]
          generalize nbSet t y kind = q at *
          go_wp2_with fail
          refine (impl_Union x q w6).mono ?_
          rintro e w7 ⟨rfl, rfl⟩
          go_wp2_with fail
          go_roundw
          case rel => exact ⟨m + 1, by omega, by go_num, by rw [HY.out], xe⟩
          case measure => simp [intOf]; omega
        · obtain rfl : m = L.length := by omega
          have j1 : ¬ (L.length : Int) < (L.length : Int) := by omega
          rw [List.take_length]
          generalize nextOf t kind L = x at *
          go_wp2_with fail
          refine (impl_Union s x wr).mono ?_
          rintro e w7 ⟨rfl, rfl⟩
          go_wp2_with fail
          refine (impl_Elements x wr).mono ?_
          rintro e w8 ⟨v8, rfl, o8, e8⟩
          have h8 := IntSO_rd o8
          clear o8
          have hel := elements_len x
          go_wp2_with fail
          go_roundw
          case rel => exact ⟨k + 1, by omega, by go_num, by rw [HX1.out], by rw [HX2.out]; exact h8, by rw [HX2.out]; omega, xe⟩
          case measure => simp [intOf]; omega
    · obtain rfl : k = steps := by omega
      have i1 : ¬ (k : Int) < (k : Int) := by omega
      go_wp2_with fail
      go_ret
      exact ⟨rfl, xe⟩
set_option maxRecDepth 100000 in
set_option maxHeartbeats 1000000 in
theorem impl_Ancestors (vt : Value) (r : Int) (t : DTopology) (w : World) (ht : TopologyV w.heap.size w vt t) (hn : t.links.length ≤ 10000) :
    Calls Tryz.prog 25 #[vt, I r] w fun e w' => e = .returned (I (reachTo t 3 [r] 10).1) ∧ Ext w w' := by
  obtain ⟨At_0, nt_0, ct_0, At_1, nt_1, ct_1, rfl, st_0, st_1⟩ := id ht
  obtain ⟨lt_0, kt_0, mt_0⟩ := st_0.len
  subst lt_0
  unfold maxLen at mt_0
  obtain ⟨lt_1, kt_1, mt_1⟩ := st_1.len
  subst lt_1
  unfold maxLen at mt_1
  have Rt := Lib.hid ht; clear ht
  have St_0 := Lib.hid st_0; clear st_0
  have St_1 := Lib.hid st_1; clear st_1
  go_enter Tryz.func25, Tryz.ntmps25
  go_wp2_with fail
  refine name_calls (fun W => Ext w W ∧ IntS W.heap.size W (.slice (some ⟨w.heap.size + 1, 0, none⟩) 1 1) [r]) ⟨xe, IntSO_rd (lo := 0) (own_newN _ _ 1 1 0 _ [I r] (by simp only [World.size_alloc]) rfl (by unfold maxLen; omega) (Nat.zero_le _))⟩ ?_
  rintro w0 ⟨ew0, hr0⟩
  refine (impl_reached _ _ 3 10 t [r] _ (by exact Rt.out.ext xe) hr0 hn (by omega) (by simp)).mono ?_
  rintro e w5 ⟨rfl, e5⟩
  go_wp2_with fail
  go_ret
  exact ⟨rfl, xe⟩
set_option maxRecDepth 100000 in
set_option maxHeartbeats 1000000 in
theorem impl_ReachableCores (vt : Value) (r : Int) (t : DTopology) (w : World) (ht : TopologyV w.heap.size w vt t) (hn : t.links.length ≤ 10000) :
    Calls Tryz.prog 9 #[vt, I r] w fun e w' => ∃ v', e = .returned v' ∧ IntSO w.heap.size w'.heap.size w' v' (coresOf t r) ∧ Ext w w' := by
  obtain ⟨At_0, nt_0, ct_0, At_1, nt_1, ct_1, rfl, st_0, st_1⟩ := id ht
  obtain ⟨lt_0, kt_0, mt_0⟩ := st_0.len
  subst lt_0
  unfold maxLen at mt_0
  obtain ⟨lt_1, kt_1, mt_1⟩ := st_1.len
  subst lt_1
  unfold maxLen at mt_1
  have Rt := Lib.hid ht; clear ht
  have St_0 := Lib.hid st_0; clear st_0
  have St_1 := Lib.hid st_1; clear st_1
  go_enter Tryz.func9, Tryz.ntmps9
  go_wp2_with fail
  first | refine name_wp ?_ ?_ ?_ | refine name_calls ?_ ?_ ?_
  exact (fun W => Ext w W ∧ Blk W (w.heap.size) 27 [.slice At_0 t.ases.length ct_0, .slice At_1 t.links.length ct_1])
  exact ⟨xe, xb⟩
  rintro w0 ⟨ew0, bt⟩
  have lt := bt.lt
  obtain ⟨pt_0, pt_1⟩ := blk2 bt
  have Bt := Lib.hid bt; clear bt
  go_wp2_with fail
  refine (impl_Ancestors _ r t _ (by exact Rt.out.ext xe) hn).mono ?_
  rintro e w1 ⟨rfl, e1⟩
  have HF : Hid (coresOf t r = (elements (addElem (reachTo t 3 [r] 10).1 r)).filter (isCore t)) := rfl
  generalize (reachTo t 3 [r] 10).1 = s at *
  go_wp2_with fail
  refine (impl_AddElement s r w1).mono ?_
  rintro e w2 ⟨rfl, rfl⟩
  generalize addElem s r = s2 at *
  go_wp2_with fail
  refine (impl_Elements s2 w1).mono ?_
  rintro e w3 ⟨v3, rfl, o3, e3⟩
  have hl := IntSO_rd o3
  clear o3
  have z1 := e1.size; have z0 := ew0.size; have z3 := e3.size
  have hll := elements_len s2
  generalize elements s2 = L at *
  obtain ⟨A', n', c', rfl, ln', -, mn', -⟩ := id hl
  subst ln'
  unfold maxLen at mn'
  have HL := Lib.hid hl; clear hl
  clear pt_0 pt_1 lt
  go_wp2_with fail
  go_loopw [5, 15] (fun v i wr => ∃ k : Nat, k ≤ L.length ∧ i = I k ∧ IntSO w3.heap.size wr.heap.size wr v ((L.take k).filter (isCore t)) ∧ Ext w3 wr) (fun _ i _ => L.length - (intOf i).toNat)
  case atStart => exact ⟨0, by omega, rfl, Own.nil _ _ _ _ _, Ext.refl _⟩
  case round =>
    obtain ⟨k, hk, rfl, ho, he⟩ := hrel
    have HO := Lib.hid ho; clear ho
    have zr := he.size
    have bt := Bt.out.ext (w' := wr) xe
    have lt := bt.lt
    obtain ⟨pt_0, pt_1⟩ := blk2 bt
    clear bt
    have hfl : ((L.take k).filter (isCore t)).length ≤ k := Nat.le_trans (List.length_filter_le _ _) (by simp; omega)
    by_cases hlt : k < L.length
    · obtain ⟨b, off, hA, hb, hkl, hc⟩ := (HL.out.ext (w' := wr) he).at_ hlt
      have hc : wr.cell? ⟨b, off + k, none⟩ = some (I L[k]) := hc
      have HX := Lib.hid (filt_snoc (isCore t) L k hlt)
      generalize L[k] = y at *
      generalize (L.take k).filter (isCore t) = sl at *
      subst hA
      have i0 : (0 : Int) ≤ (k : Int) := by omega
      have i1 : (k : Int) < (L.length : Int) := by omega
      go_wp2_with fail
      refine (impl_isCore _ y t _ (by exact Rt.out.ext xe)).mono ?_
      rintro e w5 ⟨rfl, e5⟩
      have z5 := e5.size
      cases hq : isCore t y
      · rw [hq, if_neg (by decide), List.append_nil] at HX
        go_wp2_with fail
        go_roundw
        case rel => exact ⟨k + 1, by omega, by go_num, by rw [HX.out]; exact Own.more (Own.ext HO.out e5 (Nat.le_refl _)) (Nat.le_refl _) e5.size, xe⟩
        case measure => simp [intOf]; omega
      · rw [hq, if_pos rfl] at HX
        go_wp2_with (at_builtin; refine hold ?_)
        refine unhold (wpList_app w3 rfl (.tmp 22) (.tmp 24) _ rfl 3 (.int .i64 0) 1 8 Tryz.underlying42 info_int rfl (by omega) _ sl.length (sl.map I) rfl _ 1 1 [I y] rfl
          (by exact ((Own.ext HO.out e5 (Nat.le_refl _)).alloc _).lt_size) (row_newN _ _ _ _ _ _ (by first | rfl | simp) rfl) (one_ints [y]) xe (by unfold maxLen; omega) (by omega) ?_)
        intro v1 w8 ho1 he1 _ _
        have O1 := Lib.hid ho1; clear ho1
        go_wp2_with (at_builtin; refine hold ?_)
        go_roundw
        case rel => exact ⟨k + 1, by omega, by go_num, by rw [HX.out]; unfold IntSO; simpa using O1.out, he1⟩
        case measure => simp [intOf]; omega
    · obtain rfl : k = L.length := by omega
      have i1 : ¬ (L.length : Int) < (L.length : Int) := by omega
      go_wp2_with fail
      go_ret
      exact ⟨_, rfl, by have h := HO.out; rw [List.take_length] at h; rw [HF.out]; exact Own.more h (by omega) (Nat.le_refl _), xe⟩
end Go.Proofs.YtpkcoinoiaaebaaGreat

