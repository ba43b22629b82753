/- Contracts of the reference's functions that draws use on topologies: l5Put, Interfaces. Some value in range. No conditions. -/
import Derived.Test.YtkbiciiniagadaaGreatD1
import Derived.Test.YtkbiciiniagadaaGreatGGrow
import Derived.Test.YtkbiciiniagadaaGreatGHT
namespace Go.Proofs.YtkbiciiniagadaaGreat
open Go.RowKit
set_option linter.unusedVariables false
theorem size_int (W : World) : (sizeOf (Tryz.prog.elem 46)).run Tryz.prog W = .ok 1 W := by
  have e : Tryz.prog.elem 46 = 3 := by kernel_rfl
  rw [e]
  have h5 : Tryz.prog.cellsOf 3 = 1 := by kernel_rfl
  first | (simp; done) | simp [h5]
theorem onAt_app {P : Program} {o : Oper} {a : Act} {w : World} {ψ : Value → World → Prop} (lo : Nat) (s x : Operand) (t : TypeId)
    (ho : o.op = .call { callee := .builtin .append, args := #[s, x], argTypes := #[t, t] })
    (E : TypeId) (z : Value) (sz bytes : Nat) (ht : P.underlying t = some (.slice E)) (hinfo : (P.info? E).map (fun i => (i.zero, i.size, i.bytes)) = some (some z, sz, bytes)) (hzs : z.cells.size = sz) (hsz : 0 < sz)
    (v : Value) (n : Nat) (xs : List Value) (hs : a.eval s = v) (A : Option Addr) (m c : Nat) (news : List Value) (hx : a.eval x = .slice A m c)
    (hown : Own E sz lo w.heap.size w v n xs) (hr : Row w sz A m news) (h1 : ∀ u ∈ news, u.oneCell' = true) (hlo : lo ≤ w.heap.size)
    (h63 : n + m ≤ maxLen) (hbytes : (n + m) * bytes ≤ 140737488355328)
    (h : ∀ v' w', Own E sz lo w'.heap.size w' v' (n + m) (xs ++ news) → w.grownBy w' v.ownBlock → ψ v' w') : OnAt P o a ψ w := by
  obtain ⟨i0, hi0, hz0, hz1, hz2⟩ := info_parts hinfo
  obtain ⟨v', w', hrun, h2', hg, _⟩ := run_append_any (P := P) w lo t o.type E i0 z sz bytes ht hi0 hz0 hz1 hz2 hzs hsz v n xs hown.1 A m c news hr h1 h63 hbytes hlo
  refine ⟨v', w', ?_, h v' w' ⟨h2', fun k hk => (h2'.lt k hk).2⟩ hg⟩
  unfold execOp
  simp only [ho, resolve, invoke, builtin, Sem.run_bind, Sem.run_pure, Result.andThen_ok, List.map_toArray, List.map_cons, List.map_nil, hs, hx, hrun]
theorem row_pre {B : Nat} {w : World} {A : Option Addr} {n c : Nat} {l : List Int} (h : IntS B w (.slice A n c) l) (k : Nat) (hk : k ≤ n) : Row w 1 A k ((l.take k).map I) := by
  have hr := row_ints h
  have hl := h.len.1
  refine ⟨by rw [List.length_map, List.length_take]; omega, fun h0 => ?_⟩
  obtain ⟨ad, e, hat⟩ := hr.2 (by omega)
  refine ⟨ad, e, fun j u hu => hat j u ?_⟩
  rw [List.getElem?_map] at hu ⊢
  rw [List.getElem?_take] at hu
  split at hu
  · exact hu
  · simp at hu
theorem row_suf {B : Nat} {w : World} {A : Option Addr} {n c : Nat} {l : List Int} (h : IntS B w (.slice A n c) l) (k : Nat) (hk : k ≤ n) : Row w 1 (if c = k then A else A.map (fun x => x.add (k * 1))) (n - k) ((l.drop k).map I) := by
  obtain ⟨hl, hc, _⟩ := h.len
  refine ⟨by rw [List.length_map, List.length_drop]; omega, fun h0 => ?_⟩
  obtain ⟨b, off, e, _, hj, _⟩ := h.at_ (k := k) (by omega)
  subst e
  refine ⟨⟨b, off + k, none⟩, ?_, fun j u hu => ?_⟩
  · rw [if_neg (by omega), Option.map_some, add_none, Nat.mul_one]
  · rw [List.getElem?_map, List.getElem?_drop] at hu
    have hkj : k + j < l.length := by
      rcases Nat.lt_or_ge (k + j) l.length with h1 | h1
      · exact h1
      · rw [List.getElem?_eq_none h1] at hu; simp at hu
    obtain ⟨b', off', e', _, hj', hcell⟩ := h.at_ (k := k + j) (by omega)
    cases e'
    rw [add_none, Nat.add_assoc]
    rw [List.getElem?_eq_getElem hkj] at hu
    have hu : I l[k + j] = u := by simpa using hu
    rw [← hu]
    exact hcell
theorem row_suf_some {B : Nat} {w : World} {b off n c : Nat} {l : List Int} (h : IntS B w (.slice (some ⟨b, off, none⟩) n c) l) (k : Nat) (hk : k < n) : Row w 1 (some ⟨b, off + k, none⟩) (n - k) ((l.drop k).map I) := by
  have h2 := row_suf h k (by omega)
  obtain ⟨_, hc, _⟩ := h.len
  rw [if_neg (by omega), Option.map_some, add_none, Nat.mul_one] at h2
  exact h2
theorem row_suf_nil {B : Nat} {w : World} {A A' : Option Addr} {n c : Nat} {l : List Int} (h : IntS B w (.slice A n c) l) (k : Nat) (hk : n ≤ k) : Row w 1 A' (n - k) ((l.drop k).map I) := by
  obtain ⟨hl, _, _⟩ := h.len
  exact ⟨by rw [List.length_map, List.length_drop]; omega, fun h0 => by omega⟩
theorem row_nil0 {w : World} {A : Option Addr} (l : List Int) : Row w 1 A 0 ((l.drop l.length).map I) := ⟨by simp, fun h => by omega⟩
set_option maxRecDepth 100000 in
set_option maxHeartbeats 1000000 in
theorem spec_l5Put (vl : Value) (n : Int) (l : List Int) (w : World) (hl : IntS w.heap.size w vl l) (hn : l.length ≤ 100000) : Calls Tryz.prog 71 #[vl, I n] w fun e w' => ∃ v', e = .returned v' ∧ (∃ l' : List Int, IntS w'.heap.size w' v' l' ∧ l'.length ≤ l.length + 1) ∧ Ext w w' := by
  obtain ⟨Al, nl, cl, rfl, ll, kl, ml, -⟩ := id hl
  subst ll
  unfold maxLen at ml
  have Rl := Lib.hid hl; clear hl
  go_enter Tryz.func71, Tryz.ntmps71
  go_wp2_with fail
  go_loopw [5] (fun i wr => ∃ k : Nat, k ≤ l.length ∧ i = I k ∧ wr = w) (fun i _ => l.length - (intOf i).toNat)
  case atStart => exact ⟨0, by omega, rfl, rfl⟩
  case round =>
    obtain ⟨k, hk, rfl, rfl⟩ := hrel
    have i0 : (0 : Int) ≤ (k : Int) := by omega
    by_cases hlt : k < l.length
    · obtain ⟨b, off, hA, hb, hkl, hc⟩ := Rl.out.at_ hlt
      have hc : wr.cell? ⟨b, off + k, none⟩ = some (I l[k]) := hc
      generalize l[k] = y at *
      subst hA
      have i1 : (k : Int) < (l.length : Int) := by omega
      have i2 : (k : Int) ≤ (cl : Int) := by omega
      have i3 : (k : Int) ≤ (l.length : Int) := by omega
      by_cases hy : y < n
      · go_wp2_with fail
        go_roundw
        case rel => exact ⟨k + 1, by omega, by go_num, by trivial⟩
        case measure => simp [intOf]; omega
      by_cases hq : y = n
      · subst hq
        go_wp2_with fail
        go_ret
        exact ⟨_, rfl, ⟨l, Rl.out, by omega⟩, xe⟩
      · have d1 : (y == n) = false := beq_eq_false_iff_ne.2 hq
        go_wp2_with fail
        clear d1
        refine wp_region_LS 7 11 _ (E := Ext) (w0 := wr) (G := fun τ => match τ with | 39 => some (fun v W => Fresh1 3 wr.heap.size [I n] v W) | 37 => some (fun v W => Own 3 1 wr.heap.size W.heap.size W v k ((l.take k).map I)) | 33 => some (fun v W => Fresh0 3 wr.heap.size v W) | _ => none)  Ext.refl (fun h k => Ext.trans h k) (by kernel_rfl) (by kernel_rfl) rfl rfl (by kernel_rfl) (by kernel_rfl) (by kernel_rfl) (by kernel_rfl) (by kernel_rfl) (by kernel_rfl) (by kernel_rfl) (by kernel_rfl) (by intro oi hoi; simp only [List.take_succ_cons, List.take_zero, List.drop_succ_cons, List.drop_zero, List.mem_cons, List.not_mem_nil, or_false] at hoi; rcases hoi with rfl | rfl | rfl; (· exact ⟨rfl, rfl, by kernel_rfl, pure_move rfl⟩); (· exact ⟨rfl, rfl, by kernel_rfl, pure_move rfl⟩); (· exact ⟨rfl, rfl, by kernel_rfl, pure_slice rfl (by kernel_rfl) 1 size_int⟩)) xg (Ext.drew (by exact Ext.refl _)) ?_
        simp only [List.take_succ_cons, List.take_zero, List.drop_succ_cons, List.drop_zero, List.cons_append, List.nil_append]
        repeat' (first
          | ((with_reducible refine wpL_skip ?_ ?_ ?_)
             · rfl
             · rfl
             simp only [Act.put, List.setIfInBounds_toArray, List.set_cons_zero, List.set_cons_succ])
          | ((with_reducible refine wpL_quiet ?_ ?_ ?_ ?_)
             · rfl
             · rfl
             · rfl
             apply Exists.intro
             refine ⟨fun W hW hS => ?_, ?_⟩
             · have hC := (Ext.facts hW).1
               go_simp
               first | done | (with_reducible rfl) | (rw [if_neg (by omega)]; exact ⟨rfl, rfl⟩) | rfl
             first | (with_reducible refine wpL_boolT ?_) | (with_reducible refine wpL_boolF ?_) | (with_reducible refine wpL_bool (fun hB => ?_) (fun hB => ?_)) | skip
             all_goals simp only [Act.put, List.setIfInBounds_toArray, List.set_cons_zero, List.set_cons_succ])
          | ((refine wpL_grow ?_ rfl rfl ?_ ?_)
             · rfl
             · intro W hW hS
               first | (exact grow_app0 (.tmp 33) (.tmp 36) _ rfl 3 _ 1 8 Tryz.underlying46 info_int rfl (by omega) wr.heap.size _ rfl (hS 33 (by decide)) _ _ _ ((l.take k).map I) rfl (by exact row_pre (Rl.out.ext (w' := W) xe) k (by omega)) (one_ints _) (by unfold maxLen; omega) (by omega) (fun v1 w1 o1 => o1)) | skip
               all_goals have hC := (Ext.facts hW).1
               all_goals unfold growAt
               all_goals go_simp
               all_goals simp only [growUpon]
               all_goals first | (exact ⟨xe, Fresh1.new _ 3 _ _ _ rfl (Ext.size (by assumption))⟩) | (exact ⟨xe, Fresh0.new _ 3 _ _ rfl (Ext.size (by assumption))⟩)
             intro v W' hW' hv
             first | (obtain ⟨g5, rfl, -⟩ := hv) | (obtain ⟨A5, n5, c5, rfl⟩ := Own.slice hv) | (obtain ⟨g5, rfl, -⟩ := hv) | (obtain ⟨A5, n5, c5, rfl, -⟩ := id hv; clear hv) | (obtain ⟨A5, n5, c5, rfl⟩ := NO.slice hv) | skip
             all_goals simp only [Act.put, List.setIfInBounds_toArray, List.set_cons_zero, List.set_cons_succ]))
        refine wpL_nil (fun w7 e7 hL => ?_)
        have o37 : Own 3 1 wr.heap.size w7.heap.size w7 (.slice A5 n5 c5) k ((l.take k).map I) := hL 37
        have f39 : Fresh1 3 wr.heap.size [I n] _ w7 := hL 39
        clear hL
        obtain ⟨g9, hv9, hg9, hb9⟩ := f39
        have z7 := e7.size
        try dsimp only
        refine onAt_app wr.heap.size (.tmp 37) (.tmp 39) _ rfl 3 _ 1 8 Tryz.underlying46 info_int rfl (by omega) _ k _ rfl _ 1 1 [I n] hv9 o37 (row_blk hb9 rfl) (one_ints [n]) (by omega) (by unfold maxLen; omega) (by omega) ?_
        intro v8 w8 o8 hg8
        have E8 := Ext.app (w0 := wr) e7 o37 hg8
        have z8 : w7.heap.size ≤ w8.heap.size := hg8.size
        obtain ⟨a8, m8, q8, hv8⟩ := o8.slice
        subst hv8
        have hRS := Rl.out.ext (w' := w8) E8
        go_wp2_with (at_builtin; refine hold ?_)
        refine unhold (wpList_app wr rfl (.tmp 40) (.tmp 43) _ rfl 3 (.int .i64 0) 1 8 Tryz.underlying46 info_int rfl (by omega) _ (k + 1) _ rfl _ _ _ ((l.drop k).map I) rfl o8 (by first | exact row_suf_some hRS k (by omega) | exact row_suf_nil hRS k (by omega) | exact row_suf hRS k (by omega)) (one_ints _) E8 (by unfold maxLen; omega) (by omega) ?_)
        intro v9 w9 o9 e9 _ _
        have hlen : (((l.take k).map I ++ [I n]) ++ (l.drop k).map I) = ((l.take k ++ [n]) ++ l.drop k).map I := by simp
        rw [hlen] at o9
        have H9 := Lib.hid (IntSO_rd (lo := 0) (hi := w9.heap.size) (xs := (l.take k ++ [n]) ++ l.drop k) (by have h := o9.more (Nat.zero_le _) (Nat.le_refl _); have hl9 : ((l.take k ++ [n]) ++ l.drop k).length = k + 1 + (l.length - k) := (by simp [hk]; try omega); unfold IntSO; rw [hl9]; exact h))
        clear o9
        go_wp2_with (at_builtin; refine hold ?_)
        go_ret
        exact ⟨_, rfl, ⟨_, H9.out, by simp only [List.length_append, List.length_take, List.length_drop, List.length_singleton]; omega⟩, e9⟩
    · obtain rfl : k = l.length := by omega
      have i1 : ¬ (l.length : Int) < (l.length : Int) := by omega
      have i2 : (l.length : Int) ≤ (cl : Int) := by omega
      have i3 : (l.length : Int) ≤ (l.length : Int) := by omega
      go_wp2_with fail
      refine wp_region_LS 7 11 _ (E := Ext) (w0 := wr) (G := fun τ => match τ with | 39 => some (fun v W => Fresh1 3 wr.heap.size [I n] v W) | 37 => some (fun v W => Own 3 1 wr.heap.size W.heap.size W v l.length ((l.take l.length).map I)) | 33 => some (fun v W => Fresh0 3 wr.heap.size v W) | _ => none)  Ext.refl (fun h k => Ext.trans h k) (by kernel_rfl) (by kernel_rfl) rfl rfl (by kernel_rfl) (by kernel_rfl) (by kernel_rfl) (by kernel_rfl) (by kernel_rfl) (by kernel_rfl) (by kernel_rfl) (by kernel_rfl) (by intro oi hoi; simp only [List.take_succ_cons, List.take_zero, List.drop_succ_cons, List.drop_zero, List.mem_cons, List.not_mem_nil, or_false] at hoi; rcases hoi with rfl | rfl | rfl; (· exact ⟨rfl, rfl, by kernel_rfl, pure_move rfl⟩); (· exact ⟨rfl, rfl, by kernel_rfl, pure_move rfl⟩); (· exact ⟨rfl, rfl, by kernel_rfl, pure_slice rfl (by kernel_rfl) 1 size_int⟩)) xg (Ext.drew (by exact Ext.refl _)) ?_
      simp only [List.take_succ_cons, List.take_zero, List.drop_succ_cons, List.drop_zero, List.cons_append, List.nil_append]
      repeat' (first
        | ((with_reducible refine wpL_skip ?_ ?_ ?_)
           · rfl
           · rfl
           simp only [Act.put, List.setIfInBounds_toArray, List.set_cons_zero, List.set_cons_succ])
        | ((with_reducible refine wpL_quiet ?_ ?_ ?_ ?_)
           · rfl
           · rfl
           · rfl
           apply Exists.intro
           refine ⟨fun W hW hS => ?_, ?_⟩
           · have hC := (Ext.facts hW).1
             go_simp
             first | done | (with_reducible rfl) | (rw [if_neg (by omega)]; exact ⟨rfl, rfl⟩) | rfl
           first | (with_reducible refine wpL_boolT ?_) | (with_reducible refine wpL_boolF ?_) | (with_reducible refine wpL_bool (fun hB => ?_) (fun hB => ?_)) | skip
           all_goals simp only [Act.put, List.setIfInBounds_toArray, List.set_cons_zero, List.set_cons_succ])
        | ((refine wpL_grow ?_ rfl rfl ?_ ?_)
           · rfl
           · intro W hW hS
             first | (exact grow_app0 (.tmp 33) (.tmp 36) _ rfl 3 _ 1 8 Tryz.underlying46 info_int rfl (by omega) wr.heap.size _ rfl (hS 33 (by decide)) _ _ _ ((l.take l.length).map I) rfl (by exact row_pre (Rl.out.ext (w' := W) xe) l.length (by omega)) (one_ints _) (by unfold maxLen; omega) (by omega) (fun v1 w1 o1 => o1)) | skip
             all_goals have hC := (Ext.facts hW).1
             all_goals unfold growAt
             all_goals go_simp
             all_goals simp only [growUpon]
             all_goals first | (exact ⟨xe, Fresh1.new _ 3 _ _ _ rfl (Ext.size (by assumption))⟩) | (exact ⟨xe, Fresh0.new _ 3 _ _ rfl (Ext.size (by assumption))⟩)
           intro v W' hW' hv
           first | (obtain ⟨g5, rfl, -⟩ := hv) | (obtain ⟨A5, n5, c5, rfl⟩ := Own.slice hv) | (obtain ⟨g5, rfl, -⟩ := hv) | (obtain ⟨A5, n5, c5, rfl, -⟩ := id hv; clear hv) | (obtain ⟨A5, n5, c5, rfl⟩ := NO.slice hv) | skip
           all_goals simp only [Act.put, List.setIfInBounds_toArray, List.set_cons_zero, List.set_cons_succ]))
      refine wpL_nil (fun w7 e7 hL => ?_)
      have o37 : Own 3 1 wr.heap.size w7.heap.size w7 (.slice A5 n5 c5) l.length ((l.take l.length).map I) := hL 37
      have f39 : Fresh1 3 wr.heap.size [I n] _ w7 := hL 39
      clear hL
      obtain ⟨g9, hv9, hg9, hb9⟩ := f39
      have z7 := e7.size
      try dsimp only
      refine onAt_app wr.heap.size (.tmp 37) (.tmp 39) _ rfl 3 _ 1 8 Tryz.underlying46 info_int rfl (by omega) _ l.length _ rfl _ 1 1 [I n] hv9 o37 (row_blk hb9 rfl) (one_ints [n]) (by omega) (by unfold maxLen; omega) (by omega) ?_
      intro v8 w8 o8 hg8
      have E8 := Ext.app (w0 := wr) e7 o37 hg8
      have z8 : w7.heap.size ≤ w8.heap.size := hg8.size
      obtain ⟨a8, m8, q8, hv8⟩ := o8.slice
      subst hv8
      have hRS := Rl.out.ext (w' := w8) E8
      go_wp2_with (at_builtin; refine hold ?_)
      all_goals
        refine unhold (wpList_app wr rfl (.tmp 40) (.tmp 43) _ rfl 3 (.int .i64 0) 1 8 Tryz.underlying46 info_int rfl (by omega) _ (l.length + 1) _ rfl _ _ _ ((l.drop l.length).map I) rfl o8 (row_nil0 l) (one_ints _) E8 (by unfold maxLen; omega) (by omega) ?_)
        intro v9 w9 o9 e9 _ _
        have hlen : (((l.take l.length).map I ++ [I n]) ++ (l.drop l.length).map I) = ((l.take l.length ++ [n]) ++ l.drop l.length).map I := by simp
        rw [hlen] at o9
        have H9 := Lib.hid (IntSO_rd (lo := 0) (hi := w9.heap.size) (xs := (l.take l.length ++ [n]) ++ l.drop l.length) (by have h := o9.more (Nat.zero_le _) (Nat.le_refl _); have hl9 : ((l.take l.length ++ [n]) ++ l.drop l.length).length = l.length + 1 + 0 := (by simp); unfold IntSO; rw [hl9]; exact h))
        clear o9
        go_wp2_with (at_builtin; refine hold ?_)
        go_ret
        exact ⟨_, rfl, ⟨_, H9.out, by simp only [List.length_append, List.length_take, List.length_drop, List.length_singleton]; omega⟩, e9⟩
set_option maxRecDepth 100000 in
set_option maxHeartbeats 1000000 in
theorem spec_Interfaces (vt : Value) (r : Int) (t : DTopology) (w : World) (ht : TopologyV w.heap.size w vt t) (hn : t.links.length ≤ 10000) : Calls Tryz.prog 49 #[vt, I r] w fun e w' => ∃ v', e = .returned v' ∧ (∃ l : List Int, IntS w'.heap.size w' v' l ∧ l.length ≤ 2 * t.links.length) ∧ Ext w w' := by
  obtain ⟨At_0, nt_0, ct_0, At_1, nt_1, ct_1, rfl, st_0, st_1⟩ := id ht
  obtain ⟨lt_0, kt_0, mt_0⟩ := st_0.len
  subst lt_0
  unfold maxLen at mt_0
  obtain ⟨lt_1, kt_1, mt_1⟩ := st_1.len
  subst lt_1
  unfold maxLen at mt_1
  have Rt := Lib.hid ht; clear ht
  have St_0 := Lib.hid st_0; clear st_0
  have St_1 := Lib.hid st_1; clear st_1
  go_enter Tryz.func49, Tryz.ntmps49
  go_wp2_with fail
  refine name_wp (fun W => Ext w W ∧ Blk W w.heap.size 27 [.slice At_0 t.ases.length ct_0, .slice At_1 t.links.length ct_1] ∧ IntS W.heap.size W (.slice (some ⟨w.heap.size + 1, 0, none⟩) 0 0) []) ⟨xe, xb, ⟨_, 0, 0, rfl, rfl, Nat.le_refl _, Nat.zero_le _, fun h => absurd h (by omega)⟩⟩ ?_
  rintro w0 ⟨ew0, bt, hz⟩
  have Bt := Lib.hid bt; have HZ := Lib.hid hz; clear bt hz
  go_loopw [5, 6] (fun v i wr => ∃ (k : Nat) (l : List Int), k ≤ t.links.length ∧ i = I k ∧ IntS wr.heap.size wr v l ∧ l.length ≤ 2 * k ∧ Ext w0 wr) (fun _ i _ => t.links.length - (intOf i).toNat)
  case atStart => exact ⟨0, [], by omega, rfl, HZ.out, by simp, Ext.refl _⟩
  case round =>
    obtain ⟨k, l, hk, rfl, hl, hll, he⟩ := hrel
    obtain ⟨av, nv, cv, rfl, -⟩ := id hl
    have HL := Lib.hid hl; clear hl
    have zr := he.size; have z0 := ew0.size
    have bt := Bt.out.ext (w' := wr) xe
    have lt := bt.lt
    obtain ⟨pt_0, pt_1⟩ := blk2 bt
    clear bt
    by_cases hlt : k < t.links.length
    · obtain ⟨b, off, hA, hb, hkl, hc⟩ := St_1.out.at_ hlt
      generalize t.links[k] = u at *
      subst hA
      obtain ⟨hu_0, hu_1, hu_2, hu_3, hu_4⟩ := hc
      have i0 : (0 : Int) ≤ (k : Int) := by omega
      have i1 : (k : Int) < (t.links.length : Int) := by omega
      obtain ⟨ku_0, ku_1, ku_2, ku_3⟩ := And.intro ((Ext.cell (a := w) (b := wr) xe hb).trans hu_0) (And.intro ((Ext.cell (a := w) (b := wr) xe hb).trans hu_1) (And.intro ((Ext.cell (a := w) (b := wr) xe hb).trans hu_2) ((Ext.cell (a := w) (b := wr) xe hb).trans hu_3)))
      by_cases h1 : u.a = r
      · have d1 : (u.a == r) = true := beq_iff_eq.2 h1
        clear h1
        go_wp2_with fail
        refine (spec_l5Put _ u.ai l _ (by exact HL.out) (by omega)).mono ?_
        rintro e w1 ⟨v1, rfl, ⟨l1, hl1, hn1⟩, e1⟩
        obtain ⟨a1, n1, c1, rfl, -⟩ := id hl1
        clear HL
        have HL := Lib.hid hl1; clear hl1 ku_0 ku_1 ku_2 ku_3 pt_0 pt_1 lt
        have bt := Bt.out.ext (w' := w1) xe
        have lt := bt.lt
        obtain ⟨pt_0, pt_1⟩ := blk2 bt
        clear bt
        obtain ⟨ku_0, ku_1, ku_2, ku_3⟩ := And.intro ((Ext.cell (a := w) (b := w1) xe hb).trans hu_0) (And.intro ((Ext.cell (a := w) (b := w1) xe hb).trans hu_1) (And.intro ((Ext.cell (a := w) (b := w1) xe hb).trans hu_2) ((Ext.cell (a := w) (b := w1) xe hb).trans hu_3)))
        by_cases h2 : u.b = r
        · have d2 : (u.b == r) = true := beq_iff_eq.2 h2
          clear h2
          go_wp2_with fail
          refine (spec_l5Put _ u.bi l1 _ (by exact HL.out.ext xe) (by omega)).mono ?_
          rintro e w9 ⟨v9, rfl, ⟨l9, hl9, hn9⟩, e9⟩
          go_wp2_with fail
          go_roundw
          case rel => exact ⟨k + 1, l9, by omega, by go_num, hl9, by omega, xe⟩
          case measure => simp [intOf]; omega
        · have d2 : (u.b == r) = false := beq_eq_false_iff_ne.2 h2
          clear h2
          go_wp2_with fail
          go_roundw
          case rel => exact ⟨k + 1, l1, by omega, by go_num, HL.out.ext xe, by omega, xe⟩
          case measure => simp [intOf]; omega
      · have d1 : (u.a == r) = false := beq_eq_false_iff_ne.2 h1
        clear h1
        by_cases h2 : u.b = r
        · have d2 : (u.b == r) = true := beq_iff_eq.2 h2
          clear h2
          go_wp2_with fail
          refine (spec_l5Put _ u.bi l _ (by exact HL.out.ext xe) (by omega)).mono ?_
          rintro e w9 ⟨v9, rfl, ⟨l9, hl9, hn9⟩, e9⟩
          go_wp2_with fail
          go_roundw
          case rel => exact ⟨k + 1, l9, by omega, by go_num, hl9, by omega, xe⟩
          case measure => simp [intOf]; omega
        · have d2 : (u.b == r) = false := beq_eq_false_iff_ne.2 h2
          clear h2
          go_wp2_with fail
          go_roundw
          case rel => exact ⟨k + 1, l, by omega, by go_num, HL.out.ext xe, by omega, xe⟩
          case measure => simp [intOf]; omega
    · obtain rfl : k = t.links.length := by omega
      have i1 : ¬ (t.links.length : Int) < (t.links.length : Int) := by omega
      go_wp2_with fail
      go_ret
      exact ⟨_, rfl, ⟨l, HL.out, by omega⟩, xe⟩
end Go.Proofs.YtkbiciiniagadaaGreat
