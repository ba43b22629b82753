/- Exact contracts of the reference's l5Put, Interfaces and InterfacesOfKind. No conditions. -/
import Derived.Test.YtpkcoinoiaaebaaGreatGD4
import Derived.Test.YtpkcoinoiaaebaaGreatGL5
import Derived.Test.YtpkcoinoiaaebaaGreatGGrow
namespace Go.Proofs.YtpkcoinoiaaebaaGreat
open Go.RowKit
set_option linter.unusedVariables false
/-- n in its place among ascending numbers, once. -/
def putI : List Int → Int → List Int
  | [], n => [n]
  | x :: l, n => if x < n then x :: putI l n else if x = n then x :: l else n :: x :: l
theorem putI_at {n : Int} : ∀ (l : List Int) (k : Nat), k ≤ l.length → (∀ x ∈ l.take k, x < n) → (∀ h : k < l.length, n < l[k]) → putI l n = l.take k ++ [n] ++ l.drop k
  | [], k, hk, _, _ => by
    have e : k = 0 := by simpa using hk
    subst e; rfl
  | x :: l, 0, _, _, h => by
    have h1 : n < x := h (by simp)
    simp only [putI, List.take_zero, List.drop_zero, List.nil_append, List.cons_append]
    rw [if_neg (by omega), if_neg (by omega)]
  | x :: l, k + 1, hk, ht, h => by
    have hx : x < n := ht x (by simp)
    have h2 := putI_at l k (by simpa using hk) (fun y hy => ht y (by simp [hy])) (fun h3 => by have := h (by simpa using h3); simpa using this)
    simp only [putI, List.take_succ_cons, List.drop_succ_cons, List.cons_append]
    rw [if_pos hx, h2]
theorem putI_has {n : Int} : ∀ (l : List Int) (k : Nat) (hk : k < l.length), (∀ x ∈ l.take k, x < n) → l[k] = n → putI l n = l
  | [], k, hk, _, _ => by simp at hk
  | x :: l, 0, _, _, h => by
    have h1 : x = n := h
    simp only [putI]
    rw [if_neg (by omega), if_pos h1]
  | x :: l, k + 1, hk, ht, h => by
    have hx : x < n := ht x (by simp)
    have h2 := putI_has l k (by simpa using hk) (fun y hy => ht y (by simp [hy])) (by simpa using h)
    simp only [putI]
    rw [if_pos hx, h2]
theorem putI_mem {n x : Int} : ∀ {l : List Int}, x ∈ putI l n ↔ x = n ∨ x ∈ l
  | [] => by simp [putI]
  | y :: l => by
    simp only [putI]
    split
    · simp only [List.mem_cons, putI_mem (l := l)]
      constructor
      · rintro (h | h | h) <;> simp [h]
      · rintro (h | h | h) <;> simp [h]
    · split
      · rename_i h; subst h; simp
      · simp
theorem putI_len (n : Int) : ∀ l : List Int, (putI l n).length ≤ l.length + 1
  | [] => by simp [putI]
  | y :: l => by
    simp only [putI]
    have := putI_len n l
    split
    · simp; omega
    · split <;> simp
def ifStep (r : Int) (l : List Int) (u : DLink) : List Int := if u.b = r then putI (if u.a = r then putI l u.ai else l) u.bi else (if u.a = r then putI l u.ai else l)
/-- The interfaces of r in these links. -/
def ifaces (ls : List DLink) (r : Int) : List Int := ls.foldl (ifStep r) []
theorem ifaces_snoc (ls : List DLink) (u : DLink) (r : Int) : ifaces (ls ++ [u]) r = ifStep r (ifaces ls r) u := by simp [ifaces]
theorem ifaces_take (ls : List DLink) (k : Nat) (hk : k < ls.length) (r : Int) : ifaces (ls.take (k + 1)) r = ifStep r (ifaces (ls.take k) r) ls[k] := by
  rw [List.take_succ_eq_append_getElem hk, ifaces_snoc]
theorem ifaces_mem {r d : Int} (ls : List DLink) : d ∈ ifaces ls r ↔ ∃ u ∈ ls, (u.a = r ∧ u.ai = d) ∨ (u.b = r ∧ u.bi = d) := by
  suffices h : ∀ l0 : List Int, d ∈ ls.foldl (ifStep r) l0 ↔ d ∈ l0 ∨ ∃ u ∈ ls, (u.a = r ∧ u.ai = d) ∨ (u.b = r ∧ u.bi = d) by
    have := h []
    simpa [ifaces] using this
  induction ls with
  | nil => simp
  | cons u ls ih =>
    intro l0
    rw [List.foldl_cons, ih]
    have e : d ∈ ifStep r l0 u ↔ d ∈ l0 ∨ (u.a = r ∧ u.ai = d) ∨ (u.b = r ∧ u.bi = d) := by
      by_cases h1 : u.a = r <;> by_cases h2 : u.b = r <;> simp only [ifStep, h1, h2, if_true, if_false, putI_mem, true_and, false_and, or_false, false_or]
      · constructor
        · rintro (h | h | h) <;> simp [h]
        · rintro (h | h | h) <;> simp [h]
      · constructor
        · rintro (h | h) <;> simp [h]
        · rintro (h | h) <;> simp [h]
      · constructor
        · rintro (h | h) <;> simp [h]
        · rintro (h | h) <;> simp [h]
    rw [e]
    simp only [List.mem_cons, exists_eq_or_imp]
    constructor
    · rintro ((h | h) | h)
      · exact .inl h
      · exact .inr (.inl h)
      · exact .inr (.inr h)
    · rintro (h | h | h)
      · exact .inl (.inl h)
      · exact .inl (.inr h)
      · exact .inr h
theorem ifaces_len (r : Int) (ls : List DLink) : (ifaces ls r).length ≤ 2 * ls.length := by
  suffices h : ∀ l0 : List Int, (ls.foldl (ifStep r) l0).length ≤ l0.length + 2 * ls.length by simpa [ifaces] using h []
  induction ls with
  | nil => simp
  | cons u ls ih =>
    intro l0
    rw [List.foldl_cons]
    have h1 := ih (ifStep r l0 u)
    have h2 : (ifStep r l0 u).length ≤ l0.length + 2 := by
      unfold ifStep
      split <;> split
      · have a := putI_len u.bi (putI l0 u.ai); have b := putI_len u.ai l0; omega
      · have a := putI_len u.bi l0; omega
      · have a := putI_len u.ai l0; omega
      · omega
    rw [List.length_cons]
    omega
set_option maxRecDepth 100000 in
set_option maxHeartbeats 1000000 in
theorem spec_l5PutX (vl : Value) (n : Int) (l : List Int) (w : World) (hl : IntS w.heap.size w vl l) (hn : l.length ≤ 100000) : Calls Tryz.prog 96 #[vl, I n] w fun e w' => ∃ v', e = .returned v' ∧ IntS w'.heap.size w' v' (putI l n) ∧ Ext w w' := by
  obtain ⟨Al, nl, cl, rfl, ll, kl, ml, -⟩ := id hl
  subst ll
  unfold maxLen at ml
  have Rl := Lib.hid hl; clear hl
  go_enter Tryz.func96, Tryz.ntmps96
  go_wp2_with fail
  go_loopw [5] (fun i wr => ∃ k : Nat, k ≤ l.length ∧ i = I k ∧ wr = w ∧ ∀ x ∈ l.take k, x < n) (fun i _ => l.length - (intOf i).toNat)
  case atStart => exact ⟨0, by omega, rfl, rfl, by simp⟩
  case round =>
    obtain ⟨k, hk, rfl, rfl, htk⟩ := hrel
    have HTK := Lib.hid htk; clear htk
    have i0 : (0 : Int) ≤ (k : Int) := by omega
    by_cases hlt : k < l.length
    · obtain ⟨b, off, hA, hb, hkl, hc⟩ := Rl.out.at_ hlt
      have hc : wr.cell? ⟨b, off + k, none⟩ = some (I l[k]) := hc
      generalize hyk : l[k] = y at *
      have HYK := Lib.hid hyk; clear hyk
      subst hA
      have i1 : (k : Int) < (l.length : Int) := by omega
      have i2 : (k : Int) ≤ (cl : Int) := by omega
      have i3 : (k : Int) ≤ (l.length : Int) := by omega
      by_cases hy : y < n
      · go_wp2_with fail
        go_roundw
        case rel => exact ⟨k + 1, by omega, by go_num, by trivial, fun x hx => by (rw [List.take_succ_eq_append_getElem hlt] at hx; rcases List.mem_append.1 hx with hx | hx; exact HTK.out x hx; (have e : x = y := (by have := List.mem_singleton.1 hx; rw [this]; exact HYK.out)); subst e; exact hy)⟩
        case measure => simp [intOf]; omega
      by_cases hq : y = n
      · subst hq
        go_wp2_with fail
        go_ret
        exact ⟨_, rfl, by rw [putI_has l k hlt HTK.out HYK.out]; exact Rl.out, xe⟩
      · have d1 : (y == n) = false := beq_eq_false_iff_ne.2 hq
        go_wp2_with fail
        clear d1
        refine wp_region_LS 7 11 _ (E := Ext) (w0 := wr) (G := fun τ => match τ with | 39 => some (fun v W => Fresh1 3 wr.heap.size [I n] v W) | 37 => some (fun v W => Own 3 1 wr.heap.size W.heap.size W v k ((l.take k).map I)) | 33 => some (fun v W => Fresh0 3 wr.heap.size v W) | _ => none)  Ext.refl (fun h k => Ext.trans h k) (by kernel_rfl) (by kernel_rfl) rfl rfl (by kernel_rfl) (by kernel_rfl) (by kernel_rfl) (by kernel_rfl) (by kernel_rfl) (by kernel_rfl) (by kernel_rfl) (by kernel_rfl) (by intro oi hoi; simp only [List.take_succ_cons, List.take_zero, List.drop_succ_cons, List.drop_zero, List.mem_cons, List.not_mem_nil, or_false] at hoi; rcases hoi with rfl | rfl | rfl; (· exact ⟨rfl, rfl, by kernel_rfl, pure_move rfl⟩); (· exact ⟨rfl, rfl, by kernel_rfl, pure_move rfl⟩); (· exact ⟨rfl, rfl, by kernel_rfl, pure_slice rfl (by kernel_rfl) 1 size_int⟩)) xg (Ext.drew (by exact Ext.refl _)) ?_
        simp only [List.take_succ_cons, List.take_zero, List.drop_succ_cons, List.drop_zero, List.cons_append, List.nil_append]
        repeat' (first
          | ((with_reducible refine wpL_skip ?_ ?_ ?_)
             · rfl
             · rfl
             simp only [Act.put, List.setIfInBounds_toArray, List.set_cons_zero, List.set_cons_succ])
          | ((with_reducible refine wpL_quiet ?_ ?_ ?_ ?_)
             · rfl
             · rfl
             · rfl
             apply Exists.intro
             refine ⟨fun W hW hS => ?_, ?_⟩
             · have hC := (Ext.facts hW).1
               go_simp
               first | done | (with_reducible rfl) | (rw [if_neg (by omega)]; exact ⟨rfl, rfl⟩) | rfl
             first | (with_reducible refine wpL_boolT ?_) | (with_reducible refine wpL_boolF ?_) | (with_reducible refine wpL_bool (fun hB => ?_) (fun hB => ?_)) | skip
             all_goals simp only [Act.put, List.setIfInBounds_toArray, List.set_cons_zero, List.set_cons_succ])
          | ((refine wpL_grow ?_ rfl rfl ?_ ?_)
             · rfl
             · intro W hW hS
               first | (exact grow_app0 (.tmp 33) (.tmp 36) _ rfl 3 _ 1 8 Tryz.underlying42 info_int rfl (by omega) wr.heap.size _ rfl (hS 33 (by decide)) _ _ _ ((l.take k).map I) rfl (by exact row_pre (Rl.out.ext (w' := W) xe) k (by omega)) (one_ints _) (by unfold maxLen; omega) (by omega) (fun v1 w1 o1 => o1)) | skip
               all_goals have hC := (Ext.facts hW).1
               all_goals unfold growAt
               all_goals go_simp
               all_goals simp only [growUpon]
               all_goals first | (exact ⟨xe, Fresh1.new _ 3 _ _ _ rfl (Ext.size (by assumption))⟩) | (exact ⟨xe, Fresh0.new _ 3 _ _ rfl (Ext.size (by assumption))⟩)
             intro v W' hW' hv
             first | (obtain ⟨g5, rfl, -⟩ := hv) | (obtain ⟨A5, n5, c5, rfl⟩ := Own.slice hv) | (obtain ⟨g5, rfl, -⟩ := hv) | (obtain ⟨A5, n5, c5, rfl, -⟩ := id hv; clear hv) | (obtain ⟨A5, n5, c5, rfl⟩ := NO.slice hv) | skip
             all_goals simp only [Act.put, List.setIfInBounds_toArray, List.set_cons_zero, List.set_cons_succ]))
        refine wpL_nil (fun w7 e7 hL => ?_)
        have o37 : Own 3 1 wr.heap.size w7.heap.size w7 (.slice A5 n5 c5) k ((l.take k).map I) := hL 37
        have f39 : Fresh1 3 wr.heap.size [I n] _ w7 := hL 39
        clear hL
        obtain ⟨g9, hv9, hg9, hb9⟩ := f39
        have z7 := e7.size
        try dsimp only
        refine onAt_app wr.heap.size (.tmp 37) (.tmp 39) _ rfl 3 _ 1 8 Tryz.underlying42 info_int rfl (by omega) _ k _ rfl _ 1 1 [I n] hv9 o37 (row_blk hb9 rfl) (one_ints [n]) (by omega) (by unfold maxLen; omega) (by omega) ?_
        intro v8 w8 o8 hg8
        have E8 := Ext.app (w0 := wr) e7 o37 hg8
        have z8 : w7.heap.size ≤ w8.heap.size := hg8.size
        obtain ⟨a8, m8, q8, hv8⟩ := o8.slice
        subst hv8
        have hRS := Rl.out.ext (w' := w8) E8
        go_wp2_with (at_builtin; refine hold ?_)
        refine unhold (wpList_app wr rfl (.tmp 40) (.tmp 43) _ rfl 3 (.int .i64 0) 1 8 Tryz.underlying42 info_int rfl (by omega) _ (k + 1) _ rfl _ _ _ ((l.drop k).map I) rfl o8 (by first | exact row_suf_some hRS k (by omega) | exact row_suf_nil hRS k (by omega) | exact row_suf hRS k (by omega)) (one_ints _) E8 (by unfold maxLen; omega) (by omega) ?_)
        intro v9 w9 o9 e9 _ _
        have hlen : (((l.take k).map I ++ [I n]) ++ (l.drop k).map I) = ((l.take k ++ [n]) ++ l.drop k).map I := by simp
        rw [hlen] at o9
        have H9 := Lib.hid (IntSO_rd (lo := 0) (hi := w9.heap.size) (xs := (l.take k ++ [n]) ++ l.drop k) (by have h := o9.more (Nat.zero_le _) (Nat.le_refl _); have hl9 : ((l.take k ++ [n]) ++ l.drop k).length = k + 1 + (l.length - k) := (by simp [hk]; try omega); unfold IntSO; rw [hl9]; exact h))
        clear o9
        go_wp2_with (at_builtin; refine hold ?_)
        go_ret
        exact ⟨_, rfl, by (rw [putI_at l k (by omega) HTK.out (fun h => by have e := HYK.out; rw [e]; omega)]; exact H9.out), e9⟩
    · obtain rfl : k = l.length := by omega
      have i1 : ¬ (l.length : Int) < (l.length : Int) := by omega
      have i2 : (l.length : Int) ≤ (cl : Int) := by omega
      have i3 : (l.length : Int) ≤ (l.length : Int) := by omega
      go_wp2_with fail
      refine wp_region_LS 7 11 _ (E := Ext) (w0 := wr) (G := fun τ => match τ with | 39 => some (fun v W => Fresh1 3 wr.heap.size [I n] v W) | 37 => some (fun v W => Own 3 1 wr.heap.size W.heap.size W v l.length ((l.take l.length).map I)) | 33 => some (fun v W => Fresh0 3 wr.heap.size v W) | _ => none)  Ext.refl (fun h k => Ext.trans h k) (by kernel_rfl) (by kernel_rfl) rfl rfl (by kernel_rfl) (by kernel_rfl) (by kernel_rfl) (by kernel_rfl) (by kernel_rfl) (by kernel_rfl) (by kernel_rfl) (by kernel_rfl) (by intro oi hoi; simp only [List.take_succ_cons, List.take_zero, List.drop_succ_cons, List.drop_zero, List.mem_cons, List.not_mem_nil, or_false] at hoi; rcases hoi with rfl | rfl | rfl; (· exact ⟨rfl, rfl, by kernel_rfl, pure_move rfl⟩); (· exact ⟨rfl, rfl, by kernel_rfl, pure_move rfl⟩); (· exact ⟨rfl, rfl, by kernel_rfl, pure_slice rfl (by kernel_rfl) 1 size_int⟩)) xg (Ext.drew (by exact Ext.refl _)) ?_
      simp only [List.take_succ_cons, List.take_zero, List.drop_succ_cons, List.drop_zero, List.cons_append, List.nil_append]
      repeat' (first
        | ((with_reducible refine wpL_skip ?_ ?_ ?_)
           · rfl
           · rfl
           simp only [Act.put, List.setIfInBounds_toArray, List.set_cons_zero, List.set_cons_succ])
        | ((with_reducible refine wpL_quiet ?_ ?_ ?_ ?_)
           · rfl
           · rfl
           · rfl
           apply Exists.intro
           refine ⟨fun W hW hS => ?_, ?_⟩
           · have hC := (Ext.facts hW).1
             go_simp
             first | done | (with_reducible rfl) | (rw [if_neg (by omega)]; exact ⟨rfl, rfl⟩) | rfl
           first | (with_reducible refine wpL_boolT ?_) | (with_reducible refine wpL_boolF ?_) | (with_reducible refine wpL_bool (fun hB => ?_) (fun hB => ?_)) | skip
           all_goals simp only [Act.put, List.setIfInBounds_toArray, List.set_cons_zero, List.set_cons_succ])
        | ((refine wpL_grow ?_ rfl rfl ?_ ?_)
           · rfl
           · intro W hW hS
             first | (exact grow_app0 (.tmp 33) (.tmp 36) _ rfl 3 _ 1 8 Tryz.underlying42 info_int rfl (by omega) wr.heap.size _ rfl (hS 33 (by decide)) _ _ _ ((l.take l.length).map I) rfl (by exact row_pre (Rl.out.ext (w' := W) xe) l.length (by omega)) (one_ints _) (by unfold maxLen; omega) (by omega) (fun v1 w1 o1 => o1)) | skip
             all_goals have hC := (Ext.facts hW).1
             all_goals unfold growAt
             all_goals go_simp
             all_goals simp only [growUpon]
             all_goals first | (exact ⟨xe, Fresh1.new _ 3 _ _ _ rfl (Ext.size (by assumption))⟩) | (exact ⟨xe, Fresh0.new _ 3 _ _ rfl (Ext.size (by assumption))⟩)
           intro v W' hW' hv
           first | (obtain ⟨g5, rfl, -⟩ := hv) | (obtain ⟨A5, n5, c5, rfl⟩ := Own.slice hv) | (obtain ⟨g5, rfl, -⟩ := hv) | (obtain ⟨A5, n5, c5, rfl, -⟩ := id hv; clear hv) | (obtain ⟨A5, n5, c5, rfl⟩ := NO.slice hv) | skip
           all_goals simp only [Act.put, List.setIfInBounds_toArray, List.set_cons_zero, List.set_cons_succ]))
      refine wpL_nil (fun w7 e7 hL => ?_)
      have o37 : Own 3 1 wr.heap.size w7.heap.size w7 (.slice A5 n5 c5) l.length ((l.take l.length).map I) := hL 37
      have f39 : Fresh1 3 wr.heap.size [I n] _ w7 := hL 39
      clear hL
      obtain ⟨g9, hv9, hg9, hb9⟩ := f39
      have z7 := e7.size
      try dsimp only
      refine onAt_app wr.heap.size (.tmp 37) (.tmp 39) _ rfl 3 _ 1 8 Tryz.underlying42 info_int rfl (by omega) _ l.length _ rfl _ 1 1 [I n] hv9 o37 (row_blk hb9 rfl) (one_ints [n]) (by omega) (by unfold maxLen; omega) (by omega) ?_
      intro v8 w8 o8 hg8
      have E8 := Ext.app (w0 := wr) e7 o37 hg8
      have z8 : w7.heap.size ≤ w8.heap.size := hg8.size
      obtain ⟨a8, m8, q8, hv8⟩ := o8.slice
      subst hv8
      have hRS := Rl.out.ext (w' := w8) E8
      go_wp2_with (at_builtin; refine hold ?_)
      all_goals
        refine unhold (wpList_app wr rfl (.tmp 40) (.tmp 43) _ rfl 3 (.int .i64 0) 1 8 Tryz.underlying42 info_int rfl (by omega) _ (l.length + 1) _ rfl _ _ _ ((l.drop l.length).map I) rfl o8 (row_nil0 l) (one_ints _) E8 (by unfold maxLen; omega) (by omega) ?_)
        intro v9 w9 o9 e9 _ _
        have hlen : (((l.take l.length).map I ++ [I n]) ++ (l.drop l.length).map I) = ((l.take l.length ++ [n]) ++ l.drop l.length).map I := by simp
        rw [hlen] at o9
        have H9 := Lib.hid (IntSO_rd (lo := 0) (hi := w9.heap.size) (xs := (l.take l.length ++ [n]) ++ l.drop l.length) (by have h := o9.more (Nat.zero_le _) (Nat.le_refl _); have hl9 : ((l.take l.length ++ [n]) ++ l.drop l.length).length = l.length + 1 + 0 := (by simp); unfold IntSO; rw [hl9]; exact h))
        clear o9
        go_wp2_with (at_builtin; refine hold ?_)
        go_ret
        exact ⟨_, rfl, by (rw [putI_at l l.length (by omega) HTK.out (fun h => by omega)]; exact H9.out), e9⟩
set_option maxRecDepth 100000 in
set_option maxHeartbeats 1000000 in
theorem spec_InterfacesX (vt : Value) (r : Int) (t : DTopology) (w : World) (ht : TopologyV w.heap.size w vt t) (hn : t.links.length ≤ 10000) : Calls Tryz.prog 56 #[vt, I r] w fun e w' => ∃ v', e = .returned v' ∧ IntS w'.heap.size w' v' (ifaces t.links r) ∧ Ext w w' := by
  obtain ⟨At_0, nt_0, ct_0, At_1, nt_1, ct_1, rfl, st_0, st_1⟩ := id ht
  obtain ⟨lt_0, kt_0, mt_0⟩ := st_0.len
  subst lt_0
  unfold maxLen at mt_0
  obtain ⟨lt_1, kt_1, mt_1⟩ := st_1.len
  subst lt_1
  unfold maxLen at mt_1
  have Rt := Lib.hid ht; clear ht
  have St_0 := Lib.hid st_0; clear st_0
  have St_1 := Lib.hid st_1; clear st_1
  go_enter Tryz.func56, Tryz.ntmps56
  go_wp2_with fail
  refine name_wp (fun W => Ext w W ∧ Blk W w.heap.size 27 [.slice At_0 t.ases.length ct_0, .slice At_1 t.links.length ct_1] ∧ IntS W.heap.size W (.slice (some ⟨w.heap.size + 1, 0, none⟩) 0 0) []) ⟨xe, xb, ⟨_, 0, 0, rfl, rfl, Nat.le_refl _, Nat.zero_le _, fun h => absurd h (by omega)⟩⟩ ?_
  rintro w0 ⟨ew0, bt, hz⟩
  have Bt := Lib.hid bt; have HZ := Lib.hid hz; clear bt hz
  go_loopw [5, 6] (fun v i wr => ∃ (k : Nat) (l : List Int), k ≤ t.links.length ∧ i = I k ∧ IntS wr.heap.size wr v l ∧ (l.length ≤ 2 * k ∧ l = ifaces (t.links.take k) r) ∧ Ext w0 wr) (fun _ i _ => t.links.length - (intOf i).toNat)
  case atStart => exact ⟨0, [], by omega, rfl, HZ.out, ⟨by simp, rfl⟩, Ext.refl _⟩
  case round =>
    obtain ⟨k, l, hk, rfl, hl, ⟨hll, hlf⟩, he⟩ := hrel
    have HLF := Lib.hid hlf; clear hlf
    obtain ⟨av, nv, cv, rfl, -⟩ := id hl
    have HL := Lib.hid hl; clear hl
    have zr := he.size; have z0 := ew0.size
    have bt := Bt.out.ext (w' := wr) xe
    have lt := bt.lt
    obtain ⟨pt_0, pt_1⟩ := blk2 bt
    clear bt
    by_cases hlt : k < t.links.length
    · obtain ⟨b, off, hA, hb, hkl, hc⟩ := St_1.out.at_ hlt
      have HST := Lib.hid (ifaces_take t.links k hlt r)
      generalize t.links[k] = u at *
      rw [← HLF.out] at HST
      subst hA
      obtain ⟨hu_0, hu_1, hu_2, hu_3, hu_4⟩ := hc
      have i0 : (0 : Int) ≤ (k : Int) := by omega
      have i1 : (k : Int) < (t.links.length : Int) := by omega
      obtain ⟨ku_0, ku_1, ku_2, ku_3⟩ := And.intro ((Ext.cell (a := w) (b := wr) xe hb).trans hu_0) (And.intro ((Ext.cell (a := w) (b := wr) xe hb).trans hu_1) (And.intro ((Ext.cell (a := w) (b := wr) xe hb).trans hu_2) ((Ext.cell (a := w) (b := wr) xe hb).trans hu_3)))
      by_cases h1 : u.a = r
      · have d1 : (u.a == r) = true := beq_iff_eq.2 h1
        clear h1
        go_wp2_with fail
        refine (spec_l5PutX _ u.ai l _ (by exact HL.out) (by omega)).mono ?_
        rintro e w1 ⟨v1, rfl, hl1, e1⟩
        have hn1 := putI_len u.ai l
        generalize hpl : putI l u.ai = l1 at *
        have HPL := Lib.hid hpl; clear hpl
        obtain ⟨a1, n1, c1, rfl, -⟩ := id hl1
        clear HL
        have HL := Lib.hid hl1; clear hl1 ku_0 ku_1 ku_2 ku_3 pt_0 pt_1 lt
        have bt := Bt.out.ext (w' := w1) xe
        have lt := bt.lt
        obtain ⟨pt_0, pt_1⟩ := blk2 bt
        clear bt
        obtain ⟨ku_0, ku_1, ku_2, ku_3⟩ := And.intro ((Ext.cell (a := w) (b := w1) xe hb).trans hu_0) (And.intro ((Ext.cell (a := w) (b := w1) xe hb).trans hu_1) (And.intro ((Ext.cell (a := w) (b := w1) xe hb).trans hu_2) ((Ext.cell (a := w) (b := w1) xe hb).trans hu_3)))
        by_cases h2 : u.b = r
        · have d2 : (u.b == r) = true := beq_iff_eq.2 h2
          clear h2
          go_wp2_with fail
          refine (spec_l5PutX _ u.bi l1 _ (by exact HL.out.ext xe) (by omega)).mono ?_
          rintro e w9 ⟨v9, rfl, hl9, e9⟩
          go_wp2_with fail
          go_roundw
          case rel => exact ⟨k + 1, putI l1 u.bi, by omega, by go_num, hl9, ⟨by have := putI_len u.bi l1; omega, by rw [HST.out]; unfold ifStep; rw [if_pos (beq_iff_eq.1 d1), if_pos (beq_iff_eq.1 d2), HPL.out]⟩, xe⟩
          case measure => simp [intOf]; omega
        · have d2 : (u.b == r) = false := beq_eq_false_iff_ne.2 h2
          clear h2
          go_wp2_with fail
          go_roundw
          case rel => exact ⟨k + 1, l1, by omega, by go_num, HL.out.ext xe, ⟨by omega, by rw [HST.out]; unfold ifStep; rw [if_pos (beq_iff_eq.1 d1), if_neg (beq_eq_false_iff_ne.1 d2), HPL.out]⟩, xe⟩
          case measure => simp [intOf]; omega
      · have d1 : (u.a == r) = false := beq_eq_false_iff_ne.2 h1
        clear h1
        by_cases h2 : u.b = r
        · have d2 : (u.b == r) = true := beq_iff_eq.2 h2
          clear h2
          go_wp2_with fail
          refine (spec_l5PutX _ u.bi l _ (by exact HL.out.ext xe) (by omega)).mono ?_
          rintro e w9 ⟨v9, rfl, hl9, e9⟩
          go_wp2_with fail
          go_roundw
          case rel => exact ⟨k + 1, putI l u.bi, by omega, by go_num, hl9, ⟨by have := putI_len u.bi l; omega, by rw [HST.out]; unfold ifStep; rw [if_neg (beq_eq_false_iff_ne.1 d1), if_pos (beq_iff_eq.1 d2)]⟩, xe⟩
          case measure => simp [intOf]; omega
        · have d2 : (u.b == r) = false := beq_eq_false_iff_ne.2 h2
          clear h2
          go_wp2_with fail
          go_roundw
          case rel => exact ⟨k + 1, l, by omega, by go_num, HL.out.ext xe, ⟨by omega, by rw [HST.out]; unfold ifStep; rw [if_neg (beq_eq_false_iff_ne.1 d1), if_neg (beq_eq_false_iff_ne.1 d2)]⟩, xe⟩
          case measure => simp [intOf]; omega
    · obtain rfl : k = t.links.length := by omega
      have i1 : ¬ (t.links.length : Int) < (t.links.length : Int) := by omega
      go_wp2_with fail
      go_ret
      have e9 : l = ifaces t.links r := by rw [HLF.out, List.take_length]
      exact ⟨_, rfl, by rw [← e9]; exact HL.out, xe⟩
/-- The interfaces of r of a kind. -/
def ifsOf (t : DTopology) (r kind : Int) : List Int := (ifaces t.links r).filter (fun d => ifKind t r d == kind)
end Go.Proofs.YtpkcoinoiaaebaaGreat
namespace Go.Proofs.YtpkcoinoiaaebaaGreat
open Go.RowKit
set_option linter.unusedVariables false
/-- All links are right. -/
def LinksOk (t : DTopology) : Prop := ∀ u ∈ t.links, linkOk t u = true
end Go.Proofs.YtpkcoinoiaaebaaGreat

