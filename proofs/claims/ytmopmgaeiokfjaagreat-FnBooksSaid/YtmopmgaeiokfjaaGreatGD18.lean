/- Exact contracts of the reference's l5Put, Interfaces and InterfacesOfKind. No conditions. -/
import Derived.Test.YtmopmgaeiokfjaaGreatGD4
import Derived.Test.YtmopmgaeiokfjaaGreatGL5
import Derived.Test.YtmopmgaeiokfjaaGreatGGrow
set_option maxRecDepth 100000
set_option maxHeartbeats 1000000
namespace Go.Proofs.YtmopmgaeiokfjaaGreat
open Go.RowKit
set_option linter.unusedVariables false
def putI : List Int → Int → List Int
 | [], n => [n]
 | x :: l, n => if x < n then x :: putI l n else if x = n then x :: l else n :: x :: l
theorem putI_at {n : Int} : ∀ (l : List Int) (k : Nat), k ≤ l.length → (∀ x ∈ l.take k, x < n) → (∀ h : k < l.length, n < l[k]) → putI l n = l.take k ++ [n] ++ l.drop k
 | [], k, hk, _, _ => by
   have e : k = 0 := by simpa using hk
   subst e; rfl
 | x :: l, 0, _, _, h => by
   have h1 : n < x := h (by simp);simp only [putI, List.take_zero, List.drop_zero, List.nil_append, List.cons_append];rw [if_neg (by omega), if_neg (by omega)]
 | x :: l, k + 1, hk, ht, h => by
   have hx : x < n := ht x (by simp);have h2 := putI_at l k (by simpa using hk) (fun y hy => ht y (by simp [hy])) (fun h3 => by have := h (by simpa using h3); simpa using this);simp only [putI, List.take_succ_cons, List.drop_succ_cons, List.cons_append];rw [if_pos hx, h2]
theorem putI_has {n : Int} : ∀ (l : List Int) (k : Nat) (hk : k < l.length), (∀ x ∈ l.take k, x < n) → l[k] = n → putI l n = l
 | [], k, hk, _, _ => by simp at hk
 | x :: l, 0, _, _, h => by
   have h1 : x = n := h;simp only [putI];rw [if_neg (by omega), if_pos h1]
 | x :: l, k + 1, hk, ht, h => by
   have hx : x < n := ht x (by simp);have h2 := putI_has l k (by simpa using hk) (fun y hy => ht y (by simp [hy])) (by simpa using h);simp only [putI];rw [if_pos hx, h2]
theorem putI_mem {n x : Int} : ∀ {l : List Int}, x ∈ putI l n ↔ x = n ∨ x ∈ l
 | [] => by simp [putI]
 | y :: l => by
   simp only [putI];split
   · simp only [List.mem_cons, putI_mem (l := l)]
     constructor
     · rintro (h | h | h) <;> simp [h]
     · rintro (h | h | h) <;> simp [h]
   · split
     · rename_i h; subst h; simp
     · simp
theorem putI_len (n : Int) : ∀ l : List Int, (putI l n).length ≤ l.length + 1
 | [] => by simp [putI]
 | y :: l => by
   simp only [putI];have := putI_len n l;split
   · simp; omega
   · split <;> simp
def ifStep (r : Int) (l : List Int) (u : DLink) : List Int := if u.b = r then putI (if u.a = r then putI l u.ai else l) u.bi else (if u.a = r then putI l u.ai else l)
def ifaces (ls : List DLink) (r : Int) : List Int := ls.foldl (ifStep r) []
theorem ifaces_snoc (ls : List DLink) (u : DLink) (r : Int) : ifaces (ls ++ [u]) r = ifStep r (ifaces ls r) u := by simp [ifaces]
theorem ifaces_take (ls : List DLink) (k : Nat) (hk : k < ls.length) (r : Int) : ifaces (ls.take (k + 1)) r = ifStep r (ifaces (ls.take k) r) ls[k] := by
 rw [List.take_succ_eq_append_getElem hk, ifaces_snoc]
theorem ifaces_mem {r d : Int} (ls : List DLink) : d ∈ ifaces ls r ↔ ∃ u ∈ ls, (u.a = r ∧ u.ai = d) ∨ (u.b = r ∧ u.bi = d) := by
 suffices h : ∀ l0 : List Int, d ∈ ls.foldl (ifStep r) l0 ↔ d ∈ l0 ∨ ∃ u ∈ ls, (u.a = r ∧ u.ai = d) ∨ (u.b = r ∧ u.bi = d) by
  have := h []
  simpa [ifaces] using this
 induction ls with
 | nil => simp
 | cons u ls ih =>
   intro l0;rw [List.foldl_cons, ih]
   have e : d ∈ ifStep r l0 u ↔ d ∈ l0 ∨ (u.a = r ∧ u.ai = d) ∨ (u.b = r ∧ u.bi = d) := by
    by_cases h1 : u.a = r <;> by_cases h2 : u.b = r <;> simp only [ifStep, h1, h2, if_true, if_false, putI_mem, true_and, false_and, or_false, false_or]
    · constructor
      · rintro (h | h | h) <;> simp [h]
      · rintro (h | h | h) <;> simp [h]
    · constructor
      · rintro (h | h) <;> simp [h]
      · rintro (h | h) <;> simp [h]
    · constructor
      · rintro (h | h) <;> simp [h]
      · rintro (h | h) <;> simp [h]
   rw [e];simp only [List.mem_cons, exists_eq_or_imp];constructor
   · rintro ((h | h) | h)
     · exact .inl h
     · exact .inr (.inl h)
     · exact .inr (.inr h)
   · rintro (h | h | h)
     · exact .inl (.inl h)
     · exact .inl (.inr h)
     · exact .inr h
theorem ifaces_len (r : Int) (ls : List DLink) : (ifaces ls r).length ≤ 2 * ls.length := by
 suffices h : ∀ l0 : List Int, (ls.foldl (ifStep r) l0).length ≤ l0.length + 2 * ls.length by simpa [ifaces] using h []
 induction ls with
 | nil => simp
 | cons u ls ih =>
   intro l0;rw [List.foldl_cons];have h1 := ih (ifStep r l0 u)
   have h2 : (ifStep r l0 u).length ≤ l0.length + 2 := by
    unfold ifStep;split <;> split
    · have a := putI_len u.bi (putI l0 u.ai); have b := putI_len u.ai l0; omega
    · have a := putI_len u.bi l0; omega
    · have a := putI_len u.ai l0; omega
    · omega
   rw [List.length_cons];omega
theorem spec_l5PutX (vl : Value) (n : Int) (l : List Int) (w : World) (hl : IntS w.heap.size w vl l) (hn : l.length ≤ 100000) : Calls Tryz.prog 138 #[vl, I n] w fun e w' => ∃ v', e = .returned v' ∧ IntS w'.heap.size w' v' (putI l n) ∧ Ext w w' := by
 obtain ⟨Al, nl, cl, rfl, ll, kl, ml, -⟩ := id hl;subst ll;unfold maxLen at ml;have Rl := Lib.hid hl; clear hl
 go_enter Tryz.func138, Tryz.ntmps138
 go_wp2_with fail
 go_loopw [5] (fun i wr => ∃ k : Nat, k ≤ l.length ∧ i = I k ∧ wr = w ∧ ∀ x ∈ l.take k, x < n) (fun i _ => l.length - (intOf i).toNat)
 case atStart => exact ⟨0, by omega, rfl, rfl, by simp⟩
 case round =>
  obtain ⟨k, hk, rfl, rfl, htk⟩ := hrel;have HTK := Lib.hid htk; clear htk
  have i0 : (0 : Int) ≤ (k : Int) := by omega
  by_cases hlt : k < l.length
  · obtain ⟨b, off, hA, hb, hkl, hc⟩ := Rl.out.at_ hlt
    have hc : wr.cell? ⟨b, off + k, none⟩ = some (I l[k]) := hc
    generalize hyk : l[k] = y at *
    have HYK := Lib.hid hyk; clear hyk;subst hA
    have i1 : (k : Int) < (l.length : Int) := by omega
    have i2 : (k : Int) ≤ (cl : Int) := by omega
    have i3 : (k : Int) ≤ (l.length : Int) := by omega
    by_cases hy : y < n
    · go_wp2_with fail
      go_roundw
      case rel => exact ⟨k + 1, by omega, by go_num, by trivial, fun x hx => by (rw [List.take_succ_eq_append_getElem hlt] at hx; rcases List.mem_append.1 hx with hx | hx; exact HTK.out x hx; (have e : x = y := (by have := List.mem_singleton.1 hx; rw [this]; exact HYK.out)); subst e; exact hy)⟩
      case measure => simp [intOf]; omega
    by_cases hq : y = n
    · subst hq
      go_wp2_with fail
      go_ret
      exact ⟨_, rfl, by rw [putI_has l k hlt HTK.out HYK.out]; exact Rl.out, xe⟩
    · have d1 : (y == n) = false := beq_eq_false_iff_ne.2 hq
      go_wp2_with fail
      clear d1;refine wp_region_LS 7 11 _ (E := Ext) (w0 := wr) (G := fun τ => match τ with | 39 => some (fun v W => Fresh1 3 wr.heap.size [I n] v W) | 37 => some (fun v W => Own 3 1 wr.heap.size W.heap.size W v k ((l.take k).map I)) | 33 => some (fun v W => Fresh0 3 wr.heap.size v W) | _ => none)  Ext.refl (fun h k => Ext.trans h k) (by kernel_rfl) (by kernel_rfl) rfl rfl (by kernel_rfl) (by kernel_rfl) (by kernel_rfl) (by kernel_rfl) (by kernel_rfl) (by kernel_rfl) (by kernel_rfl) (by kernel_rfl) (by intro oi hoi; simp only [List.take_succ_cons, List.take_zero, List.drop_succ_cons, List.drop_zero, List.mem_cons, List.not_mem_nil, or_false] at hoi; rcases hoi with rfl | rfl | rfl; (· exact ⟨rfl, rfl, by kernel_rfl, pure_move rfl⟩); (· exact ⟨rfl, rfl, by kernel_rfl, pure_move rfl⟩); (· exact ⟨rfl, rfl, by kernel_rfl, pure_slice rfl (by kernel_rfl) 1 size_int⟩)) xg (Ext.drew (by exact Ext.refl _)) ?_;simp only [List.take_succ_cons, List.take_zero, List.drop_succ_cons, List.drop_zero, List.cons_append, List.nil_append]
      repeat' (first
       | ((with_reducible refine wpL_skip ?_ ?_ ?_)
          · rfl
          · rfl
          simp only [putS])
       | ((with_reducible refine wpL_quiet ?_ ?_ ?_ ?_)
          · rfl
          · rfl
          · rfl
          apply Exists.intro
          refine ⟨fun W hW hS => ?_, ?_⟩
          · have hC := (Ext.facts hW).1
            go_simp
            first | done | (with_reducible rfl) | (rw [if_neg (by omega)]; exact ⟨rfl, rfl⟩) | rfl
          first | (with_reducible refine wpL_boolT ?_) | (with_reducible refine wpL_boolF ?_) | (with_reducible refine wpL_bool (fun hB => ?_) (fun hB => ?_)) | skip
          all_goals simp only [putS])
       | ((refine wpL_grow ?_ rfl rfl ?_ ?_)
          · rfl
          · intro W hW hS
            first | (exact grow_app0 (.tmp 33) (.tmp 36) _ rfl 3 _ 1 8 Tryz.underlying96 info_int rfl (by omega) wr.heap.size _ rfl (hS 33 (by decide)) _ _ _ ((l.take k).map I) rfl (by exact row_pre (Rl.out.ext (w' := W) xe) k (by omega)) (one_ints _) (by unfold maxLen; omega) (by omega) (fun v1 w1 o1 => o1)) | skip
            all_goals have hC := (Ext.facts hW).1
            all_goals unfold growAt
            all_goals go_simp
            all_goals simp only [growUpon]
            all_goals first | (exact ⟨xe, Fresh1.new _ 3 _ _ _ rfl (Ext.size (by assumption))⟩) | (exact ⟨xe, Fresh0.new _ 3 _ _ rfl (Ext.size (by assumption))⟩)
          intro v W' hW' hv
          first | (obtain ⟨g5, rfl, -⟩ := hv) | (obtain ⟨A5, n5, c5, rfl⟩ := Own.slice hv) | (obtain ⟨g5, rfl, -⟩ := hv) | (obtain ⟨A5, n5, c5, rfl, -⟩ := id hv; clear hv) | (obtain ⟨A5, n5, c5, rfl⟩ := NO.slice hv) | skip
          all_goals simp only [putS]))
      refine wpL_nil (fun w7 e7 hL => ?_);have o37 : Own 3 1 wr.heap.size w7.heap.size w7 (.slice A5 n5 c5) k ((l.take k).map I) := hL 37;have f39 : Fresh1 3 wr.heap.size [I n] _ w7 := hL 39;clear hL;obtain ⟨g9, hv9, hg9, hb9⟩ := f39;have z7 := e7.size
      try dsimp only
      refine onAt_app wr.heap.size (.tmp 37) (.tmp 39) _ rfl 3 _ 1 8 Tryz.underlying96 info_int rfl (by omega) _ k _ rfl _ 1 1 [I n] hv9 o37 (row_blk hb9 rfl) (one_ints [n]) (by omega) (by unfold maxLen; omega) (by omega) ?_;intro v8 w8 o8 hg8;have E8 := Ext.app (w0 := wr) e7 o37 hg8;have z8 : w7.heap.size ≤ w8.heap.size := hg8.size;obtain ⟨a8, m8, q8, hv8⟩ := o8.slice;subst hv8;have hRS := Rl.out.ext (w' := w8) E8;go_wp2_with (at_builtin; refine hold ?_)
      refine unhold (wpList_app wr rfl (.tmp 40) (.tmp 43) _ rfl 3 (.int .i64 0) 1 8 Tryz.underlying96 info_int rfl (by omega) _ (k + 1) _ rfl _ _ _ ((l.drop k).map I) rfl o8 (by first | exact row_suf_some hRS k (by omega) | exact row_suf_nil hRS k (by omega) | exact row_suf hRS k (by omega)) (one_ints _) E8 (by unfold maxLen; omega) (by omega) ?_);intro v9 w9 o9 e9 _ _
      have hlen : (((l.take k).map I ++ [I n]) ++ (l.drop k).map I) = ((l.take k ++ [n]) ++ l.drop k).map I := by simp
      rw [hlen] at o9;have H9 := Lib.hid (IntSO_rd (lo := 0) (hi := w9.heap.size) (xs := (l.take k ++ [n]) ++ l.drop k) (by have h := o9.more (Nat.zero_le _) (Nat.le_refl _); have hl9 : ((l.take k ++ [n]) ++ l.drop k).length = k + 1 + (l.length - k) := (by simp [hk]; try omega); unfold IntSO; rw [hl9]; exact h));clear o9;go_wp2_with (at_builtin; refine hold ?_)
      go_ret
      exact ⟨_, rfl, by (rw [putI_at l k (by omega) HTK.out (fun h => by have e := HYK.out; rw [e]; omega)]; exact H9.out), e9⟩
  · obtain rfl : k = l.length := by omega
    have i1 : ¬ (l.length : Int) < (l.length : Int) := by omega
    have i2 : (l.length : Int) ≤ (cl : Int) := by omega
    have i3 : (l.length : Int) ≤ (l.length : Int) := by omega
    go_wp2_with fail
    refine wp_region_LS 7 11 _ (E := Ext) (w0 := wr) (G := fun τ => match τ with | 39 => some (fun v W => Fresh1 3 wr.heap.size [I n] v W) | 37 => some (fun v W => Own 3 1 wr.heap.size W.heap.size W v l.length ((l.take l.length).map I)) | 33 => some (fun v W => Fresh0 3 wr.heap.size v W) | _ => none)  Ext.refl (fun h k => Ext.trans h k) (by kernel_rfl) (by kernel_rfl) rfl rfl (by kernel_rfl) (by kernel_rfl) (by kernel_rfl) (by kernel_rfl) (by kernel_rfl) (by kernel_rfl) (by kernel_rfl) (by kernel_rfl) (by intro oi hoi; simp only [List.take_succ_cons, List.take_zero, List.drop_succ_cons, List.drop_zero, List.mem_cons, List.not_mem_nil, or_false] at hoi; rcases hoi with rfl | rfl | rfl; (· exact ⟨rfl, rfl, by kernel_rfl, pure_move rfl⟩); (· exact ⟨rfl, rfl, by kernel_rfl, pure_move rfl⟩); (· exact ⟨rfl, rfl, by kernel_rfl, pure_slice rfl (by kernel_rfl) 1 size_int⟩)) xg (Ext.drew (by exact Ext.refl _)) ?_;simp only [List.take_succ_cons, List.take_zero, List.drop_succ_cons, List.drop_zero, List.cons_append, List.nil_append]
    repeat' (first
     | ((with_reducible refine wpL_skip ?_ ?_ ?_)
        · rfl
        · rfl
        simp only [putS])
     | ((with_reducible refine wpL_quiet ?_ ?_ ?_ ?_)
        · rfl
        · rfl
        · rfl
        apply Exists.intro
        refine ⟨fun W hW hS => ?_, ?_⟩
        · have hC := (Ext.facts hW).1
          go_simp
          first | done | (with_reducible rfl) | (rw [if_neg (by omega)]; exact ⟨rfl, rfl⟩) | rfl
        first | (with_reducible refine wpL_boolT ?_) | (with_reducible refine wpL_boolF ?_) | (with_reducible refine wpL_bool (fun hB => ?_) (fun hB => ?_)) | skip
        all_goals simp only [putS])
     | ((refine wpL_grow ?_ rfl rfl ?_ ?_)
        · rfl
        · intro W hW hS
          first | (exact grow_app0 (.tmp 33) (.tmp 36) _ rfl 3 _ 1 8 Tryz.underlying96 info_int rfl (by omega) wr.heap.size _ rfl (hS 33 (by decide)) _ _ _ ((l.take l.length).map I) rfl (by exact row_pre (Rl.out.ext (w' := W) xe) l.length (by omega)) (one_ints _) (by unfold maxLen; omega) (by omega) (fun v1 w1 o1 => o1)) | skip
          all_goals have hC := (Ext.facts hW).1
          all_goals unfold growAt
          all_goals go_simp
          all_goals simp only [growUpon]
          all_goals first | (exact ⟨xe, Fresh1.new _ 3 _ _ _ rfl (Ext.size (by assumption))⟩) | (exact ⟨xe, Fresh0.new _ 3 _ _ rfl (Ext.size (by assumption))⟩)
        intro v W' hW' hv
        first | (obtain ⟨g5, rfl, -⟩ := hv) | (obtain ⟨A5, n5, c5, rfl⟩ := Own.slice hv) | (obtain ⟨g5, rfl, -⟩ := hv) | (obtain ⟨A5, n5, c5, rfl, -⟩ := id hv; clear hv) | (obtain ⟨A5, n5, c5, rfl⟩ := NO.slice hv) | skip
        all_goals simp only [putS]))
    refine wpL_nil (fun w7 e7 hL => ?_);have o37 : Own 3 1 wr.heap.size w7.heap.size w7 (.slice A5 n5 c5) l.length ((l.take l.length).map I) := hL 37;have f39 : Fresh1 3 wr.heap.size [I n] _ w7 := hL 39;clear hL;obtain ⟨g9, hv9, hg9, hb9⟩ := f39;have z7 := e7.size
    try dsimp only
    refine onAt_app wr.heap.size (.tmp 37) (.tmp 39) _ rfl 3 _ 1 8 Tryz.underlying96 info_int rfl (by omega) _ l.length _ rfl _ 1 1 [I n] hv9 o37 (row_blk hb9 rfl) (one_ints [n]) (by omega) (by unfold maxLen; omega) (by omega) ?_;intro v8 w8 o8 hg8;have E8 := Ext.app (w0 := wr) e7 o37 hg8;have z8 : w7.heap.size ≤ w8.heap.size := hg8.size;obtain ⟨a8, m8, q8, hv8⟩ := o8.slice;subst hv8;have hRS := Rl.out.ext (w' := w8) E8;go_wp2_with (at_builtin; refine hold ?_)
    all_goals
     refine unhold (wpList_app wr rfl (.tmp 40) (.tmp 43) _ rfl 3 (.int .i64 0) 1 8 Tryz.underlying96 info_int rfl (by omega) _ (l.length + 1) _ rfl _ _ _ ((l.drop l.length).map I) rfl o8 (row_nil0 l) (one_ints _) E8 (by unfold maxLen; omega) (by omega) ?_);intro v9 w9 o9 e9 _ _
     have hlen : (((l.take l.length).map I ++ [I n]) ++ (l.drop l.length).map I) = ((l.take l.length ++ [n]) ++ l.drop l.length).map I := by simp
     rw [hlen] at o9;have H9 := Lib.hid (IntSO_rd (lo := 0) (hi := w9.heap.size) (xs := (l.take l.length ++ [n]) ++ l.drop l.length) (by have h := o9.more (Nat.zero_le _) (Nat.le_refl _); have hl9 : ((l.take l.length ++ [n]) ++ l.drop l.length).length = l.length + 1 + 0 := (by simp); unfold IntSO; rw [hl9]; exact h));clear o9;go_wp2_with (at_builtin; refine hold ?_)
     go_ret
     exact ⟨_, rfl, by (rw [putI_at l l.length (by omega) HTK.out (fun h => by omega)]; exact H9.out), e9⟩
theorem spec_InterfacesX (vt : Value) (r : Int) (t : DTopology) (w : World) (ht : TopologyV w.heap.size w vt t) (hn : t.links.length ≤ 10000) : Calls Tryz.prog 104 #[vt, I r] w fun e w' => ∃ v', e = .returned v' ∧ IntS w'.heap.size w' v' (ifaces t.links r) ∧ Ext w w' := by
 obtain ⟨At_0, nt_0, ct_0, At_1, nt_1, ct_1, rfl, st_0, st_1⟩ := id ht;obtain ⟨lt_0, kt_0, mt_0⟩ := st_0.len;subst lt_0;unfold maxLen at mt_0;obtain ⟨lt_1, kt_1, mt_1⟩ := st_1.len;subst lt_1;unfold maxLen at mt_1;have Rt := Lib.hid ht; clear ht;have St_0 := Lib.hid st_0; clear st_0;have St_1 := Lib.hid st_1; clear st_1
 go_enter Tryz.func104, Tryz.ntmps104
 go_wp2_with fail
 refine name_wp (fun W => Ext w W ∧ Blk W w.heap.size 27 [.slice At_0 t.ases.length ct_0, .slice At_1 t.links.length ct_1] ∧ IntS W.heap.size W (.slice (some ⟨w.heap.size + 1, 0, none⟩) 0 0) []) ⟨xe, xb, ⟨_, 0, 0, rfl, rfl, Nat.le_refl _, Nat.zero_le _, fun h => absurd h (by omega)⟩⟩ ?_;rintro w0 ⟨ew0, bt, hz⟩;have Bt := Lib.hid bt; have HZ := Lib.hid hz; clear bt hz
 go_loopw [5, 6] (fun v i wr => ∃ (k : Nat) (l : List Int), k ≤ t.links.length ∧ i = I k ∧ IntS wr.heap.size wr v l ∧ (l.length ≤ 2 * k ∧ l = ifaces (t.links.take k) r) ∧ Ext w0 wr) (fun _ i _ => t.links.length - (intOf i).toNat)
 case atStart => exact ⟨0, [], by omega, rfl, HZ.out, ⟨by simp, rfl⟩, Ext.refl _⟩
 case round =>
  obtain ⟨k, l, hk, rfl, hl, ⟨hll, hlf⟩, he⟩ := hrel;have HLF := Lib.hid hlf; clear hlf;obtain ⟨av, nv, cv, rfl, -⟩ := id hl;have HL := Lib.hid hl; clear hl;have zr := he.size; have z0 := ew0.size;have bt := Bt.out.ext (w' := wr) xe;have lt := bt.lt;obtain ⟨pt_0, pt_1⟩ := blk2 bt;clear bt;by_cases hlt : k < t.links.length
  · obtain ⟨b, off, hA, hb, hkl, hc⟩ := St_1.out.at_ hlt
    have HST := Lib.hid (ifaces_take t.links k hlt r)
    generalize t.links[k] = u at *
    rw [← HLF.out] at HST;subst hA;obtain ⟨hu_0, hu_1, hu_2, hu_3, hu_4⟩ := hc
    have i0 : (0 : Int) ≤ (k : Int) := by omega
    have i1 : (k : Int) < (t.links.length : Int) := by omega
    obtain ⟨ku_0, ku_1, ku_2, ku_3⟩ := And.intro ((Ext.cell (a := w) (b := wr) xe hb).trans hu_0) (And.intro ((Ext.cell (a := w) (b := wr) xe hb).trans hu_1) (And.intro ((Ext.cell (a := w) (b := wr) xe hb).trans hu_2) ((Ext.cell (a := w) (b := wr) xe hb).trans hu_3)));by_cases h1 : u.a = r
    · have d1 : (u.a == r) = true := beq_iff_eq.2 h1
      clear h1;go_wp2_with fail
      refine (spec_l5PutX _ u.ai l _ (by exact HL.out) (by omega)).mono ?_;rintro e w1 ⟨v1, rfl, hl1, e1⟩;have hn1 := putI_len u.ai l
      generalize hpl : putI l u.ai = l1 at *
      have HPL := Lib.hid hpl; clear hpl;obtain ⟨a1, n1, c1, rfl, -⟩ := id hl1;clear HL;have HL := Lib.hid hl1; clear hl1 ku_0 ku_1 ku_2 ku_3 pt_0 pt_1 lt;have bt := Bt.out.ext (w' := w1) xe;have lt := bt.lt;obtain ⟨pt_0, pt_1⟩ := blk2 bt;clear bt;obtain ⟨ku_0, ku_1, ku_2, ku_3⟩ := And.intro ((Ext.cell (a := w) (b := w1) xe hb).trans hu_0) (And.intro ((Ext.cell (a := w) (b := w1) xe hb).trans hu_1) (And.intro ((Ext.cell (a := w) (b := w1) xe hb).trans hu_2) ((Ext.cell (a := w) (b := w1) xe hb).trans hu_3)));by_cases h2 : u.b = r
      · have d2 : (u.b == r) = true := beq_iff_eq.2 h2
        clear h2;go_wp2_with fail
        refine (spec_l5PutX _ u.bi l1 _ (by exact HL.out.ext xe) (by omega)).mono ?_;rintro e w9 ⟨v9, rfl, hl9, e9⟩;go_wp2_with fail
        go_roundw
        case rel => exact ⟨k + 1, putI l1 u.bi, by omega, by go_num, hl9, ⟨by have := putI_len u.bi l1; omega, by rw [HST.out]; unfold ifStep; rw [if_pos (beq_iff_eq.1 d1), if_pos (beq_iff_eq.1 d2), HPL.out]⟩, xe⟩
        case measure => simp [intOf]; omega
      · have d2 : (u.b == r) = false := beq_eq_false_iff_ne.2 h2
        clear h2;go_wp2_with fail
        go_roundw
        case rel => exact ⟨k + 1, l1, by omega, by go_num, HL.out.ext xe, ⟨by omega, by rw [HST.out]; unfold ifStep; rw [if_pos (beq_iff_eq.1 d1), if_neg (beq_eq_false_iff_ne.1 d2), HPL.out]⟩, xe⟩
        case measure => simp [intOf]; omega
    · have d1 : (u.a == r) = false := beq_eq_false_iff_ne.2 h1
      clear h1;by_cases h2 : u.b = r
      · have d2 : (u.b == r) = true := beq_iff_eq.2 h2
        clear h2;go_wp2_with fail
        refine (spec_l5PutX _ u.bi l _ (by exact HL.out.ext xe) (by omega)).mono ?_;rintro e w9 ⟨v9, rfl, hl9, e9⟩;go_wp2_with fail
        go_roundw
        case rel => exact ⟨k + 1, putI l u.bi, by omega, by go_num, hl9, ⟨by have := putI_len u.bi l; omega, by rw [HST.out]; unfold ifStep; rw [if_neg (beq_eq_false_iff_ne.1 d1), if_pos (beq_iff_eq.1 d2)]⟩, xe⟩
        case measure => simp [intOf]; omega
      · have d2 : (u.b == r) = false := beq_eq_false_iff_ne.2 h2
        clear h2;go_wp2_with fail
        go_roundw
        case rel => exact ⟨k + 1, l, by omega, by go_num, HL.out.ext xe, ⟨by omega, by rw [HST.out]; unfold ifStep; rw [if_neg (beq_eq_false_iff_ne.1 d1), if_neg (beq_eq_false_iff_ne.1 d2)]⟩, xe⟩
        case measure => simp [intOf]; omega
  · obtain rfl : k = t.links.length := by omega
    have i1 : ¬ (t.links.length : Int) < (t.links.length : Int) := by omega
    go_wp2_with fail
    go_ret
    have e9 : l = ifaces t.links r := by rw [HLF.out, List.take_length]
    exact ⟨_, rfl, by rw [← e9]; exact HL.out, xe⟩
theorem wpList_app01 {P : Program} {ops : Array Oper} {rest : List Oper} {o : Oper} {a : Act} {w : World} {Q : Exit → Act → World → Prop} (hgd : o.guard = none) (s x : Operand) (t : TypeId)
 (ho : o.op = .call { callee := .builtin .append, args := #[s, x], argTypes := #[t, t] })
 (E : TypeId) (z : Value) (sz bytes : Nat) (ht : P.underlying t = some (.slice E)) (hinfo : (P.info? E).map (fun i => (i.zero, i.size, i.bytes)) = some (some z, sz, bytes)) (hzs : z.cells.size = sz) (hsz : 0 < sz)
 (g : Nat) (hs : a.eval s = .slice (some ⟨g, 0, none⟩) 0 0) (A : Option Addr) (m c : Nat) (news : List Value) (hx : a.eval x = .slice A m c)
 (hr : Row w sz A m news) (h1 : ∀ u ∈ news, u.oneCell' = true) (h0 : 0 < m) (h63 : m ≤ maxLen) (hbytes : m * bytes ≤ 140737488355328)
 (h : ∀ v' w', Own E sz w.heap.size w'.heap.size w' v' m news → Ext w w' → wpList P ops Q rest (a.put o.dst v') w') : wpList P ops Q (o :: rest) a w := by
 obtain ⟨i, hi, hz, hz1, hz2⟩ := info_parts hinfo;obtain ⟨ad, rfl, hc⟩ := hr.2 h0;obtain ⟨v', w', hrun, h2, h3⟩ := run_append_arg_grows (P := P) w t o.type E i z sz bytes ht hi hz hz1 hz2 hzs hsz ⟨g, 0, none⟩ 0 0 [] (by simp) (by simp) ad m c news hr.1 hc (by omega) (by omega) (by simpa using hbytes)
 have hw : w'.ownsRow w.heap.size E sz v' m news := by simpa using h2
 refine wpList_plain hgd fun K hK => ?_;unfold Oper.wp execOp;simp only [ho, resolve, invoke, builtin, Sem.run_bind, Sem.run_pure, Result.andThen_ok, List.map_toArray, List.map_cons, List.map_nil, hs, hx, hrun];exact hK _ _ (h v' w' ⟨hw, fun k hk => (hw.lt k hk).2⟩ (ext_of_grown h3))
def ifsOf (t : DTopology) (r kind : Int) : List Int := (ifaces t.links r).filter (fun d => ifKind t r d == kind)
theorem spec_InterfacesOfKind (vt : Value) (r kind : Int) (t : DTopology) (w : World) (ht : TopologyV w.heap.size w vt t) (hn : t.links.length ≤ 10000) : Calls Tryz.prog 64 #[vt, I r, I kind] w fun e w' => ∃ v', e = .returned v' ∧ IntSO w.heap.size w'.heap.size w' v' (ifsOf t r kind) ∧ Ext w w' := by
 obtain ⟨At_0, nt_0, ct_0, At_1, nt_1, ct_1, rfl, st_0, st_1⟩ := id ht;obtain ⟨lt_0, kt_0, mt_0⟩ := st_0.len;subst lt_0;unfold maxLen at mt_0;obtain ⟨lt_1, kt_1, mt_1⟩ := st_1.len;subst lt_1;unfold maxLen at mt_1;have Rt := Lib.hid ht; clear ht;have St_0 := Lib.hid st_0; clear st_0;have St_1 := Lib.hid st_1; clear st_1
 go_enter Tryz.func64, Tryz.ntmps64
 go_wp2_with fail
 refine name_calls (fun W => ∃ wb, Ext w wb ∧ wb.heap.size = w.heap.size + 1 ∧ Blk wb w.heap.size 27 [.slice At_0 t.ases.length ct_0, .slice At_1 t.links.length ct_1] ∧ Ext wb W ∧ IntSO wb.heap.size W.heap.size W (.slice (some ⟨w.heap.size + 1, 0, none⟩) 0 0) []) ⟨_, xe, by simp only [World.size_alloc], xb, (Ext.refl _).alloc _, own_zero' _ _ _ _ _ (by simp) (Nat.le_refl _)⟩ ?_;rintro w0 ⟨wb, eb, zb, bt, e0, hz⟩;have Bt := Lib.hid bt; have HZ := Lib.hid hz; clear bt hz;have z0 := e0.size;refine (spec_InterfacesX _ r t _ (by exact Rt.out.ext xe) hn).mono ?_;rintro e w1 ⟨v1, rfl, hl, e1⟩;have z1 := e1.size;have hll := ifaces_len r t.links
 obtain ⟨L, hLe⟩ : ∃ L, L = ifaces t.links r := ⟨_, rfl⟩
 have HF : Hid (ifsOf t r kind = L.filter (fun d => ifKind t r d == kind)) := by unfold Hid ifsOf; rw [hLe]
 rw [← hLe] at hl hll;clear hLe;obtain ⟨A', n', c', rfl, ln', -, mn', -⟩ := id hl;subst ln';unfold maxLen at mn';have HL := Lib.hid hl; clear hl;go_wp2_with fail
 go_loopw [7, 9] (fun v i wr => ∃ (k : Nat), k ≤ L.length ∧ i = I k ∧ (((L.take k).filter (fun d => ifKind t r d == kind) = [] ∧ v = .slice (some ⟨w.heap.size + 1, 0, none⟩) 0 0) ∨ IntSO w1.heap.size wr.heap.size wr v ((L.take k).filter (fun d => ifKind t r d == kind))) ∧ Ext w1 wr) (fun _ i _ => L.length - (intOf i).toNat)
 case atStart => exact ⟨0, by omega, rfl, .inl ⟨by simp, rfl⟩, Ext.refl _⟩
 case round =>
  obtain ⟨k, hk, rfl, hno, he⟩ := hrel;have heb : Ext wb wr := Ext.trans (Ext.trans e0 e1) he;have hfl : ((L.take k).filter (fun d => ifKind t r d == kind)).length ≤ k := Nat.le_trans (List.length_filter_le _ _) (by simp; omega)
  obtain ⟨xs, hxs⟩ : ∃ xs, xs = (L.take k).filter (fun d => ifKind t r d == kind) := ⟨_, rfl⟩
  rw [← hxs] at hno hfl;have HXS := Lib.hid hxs; clear hxs;have HNO := Lib.hid hno; clear hno;have zr := he.size; have zrb := heb.size
  have i0 : (0 : Int) ≤ (k : Int) := by omega
  have BTr := Lib.hid (Bt.out.ext heb);by_cases hlt : k < L.length
  · have hst : (L.take (k + 1)).filter (fun d => ifKind t r d == kind) = xs ++ (if ifKind t r L[k] == kind then [L[k]] else []) := by
     rw [List.take_succ_eq_append_getElem hlt, List.filter_append, ← HXS.out]
     cases hq : (ifKind t r L[k] == kind) <;> simp [hq]
    obtain ⟨b, off, hA, hb, hkl, hc⟩ := HL.out.at_ hlt;have hc : w1.cell? ⟨b, off + k, none⟩ = some (I L[k]) := hc;have HST := Lib.hid hst; clear hst
    generalize L[k] = y at *
    subst hA;have hcr := (Ext.cell (a := w1) (b := wr) he hb).trans hc
    have hbr : b < wr.heap.size := by omega
    have i1 : (k : Int) < (L.length : Int) := by omega
    obtain ⟨q, hq⟩ : ∃ q, q = ifKind t r y := ⟨_, rfl⟩
    rw [← hq] at HST;have HQ := Lib.hid hq; clear hq hc;by_cases hqk : q = kind
    · have dq : (q == kind) = true := beq_iff_eq.2 hqk
      rw [dq, if_pos rfl] at HST;clear hqk;have b0 := BTr.out.ext (w' := wr) xe;have lb0 := b0.lt;obtain ⟨qb0_0, qb0_1⟩ := blk2 b0;have fb0_0 := b0.frozen 0;have fb0_1 := b0.frozen 1;clear b0;go_wp2_with fail
      refine wp_region_L (E := Ext) (w0 := wr) (G := fun τ => match τ with | 26 => some (fun v W => v = I q) | _ => none) Ext.refl (fun h k => Ext.trans h k) (by kernel_rfl) (by kernel_rfl) xg (Ext.drew (by exact Ext.refl _)) ?_
      repeat' (first
       | ((with_reducible refine wpL_skip ?_ ?_ ?_)
          · rfl
          · rfl
          simp only [putS])
       | ((with_reducible refine wpL_quiet ?_ ?_ ?_ ?_)
          · rfl
          · rfl
          · rfl
          apply Exists.intro
          refine ⟨fun W hW hS => ?_, ?_⟩
          · have hC := (Ext.facts hW).1
            go_simp
            first | done | (with_reducible rfl) | (rw [if_neg (by omega)]; exact ⟨rfl, rfl⟩) | rfl
          first | (with_reducible refine wpL_boolT ?_) | (with_reducible refine wpL_boolF ?_) | (with_reducible refine wpL_bool (fun hB => ?_) (fun hB => ?_)) | skip
          all_goals simp only [putS])
       | ((refine wpL_call ?_ rfl rfl ?_ ?_ ?_)
          · rfl
          · rfl
          · intro W hW hS
            have hC := (Ext.facts hW).1;unfold growAt
            go_simp
            simp only [growUpon]
            first | (go_at_call 81; (with_reducible refine Calls.mono (spec_InterfaceKind _ r y t _ (by exact Rt.out.ext xe)) ?_); rintro e w9 ⟨rfl, e9⟩; exact ⟨_, rfl, e9, by rw [← HQ.out]⟩)
          first | (with_reducible refine wpL_boolT ?_) | (with_reducible refine wpL_boolF ?_) | (with_reducible refine wpL_bool (fun hB => ?_) (fun hB => ?_)) | skip
          all_goals simp only [putS])
       | ((refine wpL_grow ?_ rfl rfl ?_ ?_)
          · rfl
          · intro W hW hS
            have hC := (Ext.facts hW).1;unfold growAt
            go_simp
            simp only [growUpon]
            first | (go_at_call 81; (with_reducible refine Calls.mono (spec_InterfaceKind _ r y t _ (by exact Rt.out.ext xe)) ?_); rintro e w9 ⟨rfl, e9⟩; exact ⟨_, rfl, e9, by rw [← HQ.out]⟩)
          intro v W' hW' hv
          first | (subst hv) | (obtain ⟨A5, n5, c5, rfl, -⟩ := id hv; clear hv) | (obtain ⟨A5, n5, c5, rfl⟩ := NO.slice hv) | skip
          all_goals simp only [putS]))
      refine wpL_nil (fun w5 e5 hL => ?_);clear hL lb0 qb0_0 qb0_1 fb0_0 fb0_1;have hc5 := (Ext.cell (a := wr) (b := w5) e5 (by omega)).trans hcr;clear hcr
      rcases HNO.out with ⟨hx0, hv0⟩ | hno
      · subst hv0
        go_wp2_with (at_builtin; refine hold ?_)
        refine unhold (wpList_app01 rfl (.tmp 29) (.tmp 34) _ rfl 3 (.int .i64 0) 1 8 Tryz.underlying96 info_int rfl (by omega) (w.heap.size + 1) rfl _ 1 1 [I y] rfl (row_one _ _ _ _ _ (by first | rfl | simp) rfl) (one_ints [y]) (by omega) (by unfold maxLen; omega) (by omega) ?_);intro v8 w8 o8 e8;have z5 := e5.size;have h9 : Ext w5 w8 := Ext.trans ((Ext.refl _).alloc _) e8
        have o9 : IntSO w1.heap.size w8.heap.size w8 v8 (xs ++ [y]) := by
         rw [hx0];exact Own.more (lo := (w5.alloc (.cells #[I y] 3)).heap.size) o8 (by simp only [World.size_alloc]; omega) (Nat.le_refl _)
        have O9 := Lib.hid o9; clear o8 o9 e8;go_wp2_with (at_builtin; refine hold ?_)
        go_roundw
        case rel => exact ⟨k + 1, by omega, by go_num, .inr (by rw [HST.out]; exact O9.out), Ext.trans he (Ext.trans e5 h9)⟩
        case measure => first | (simp [intOf]; done) | (simp [intOf]; omega)
      · obtain ⟨av, nv, cv, hvv⟩ := hno.slice
        subst hvv;obtain ⟨hnv, -⟩ := NO.row hno;subst hnv;have HNO2 := Lib.hid hno; clear hno;have z5 := e5.size;go_wp2_with (at_builtin; refine hold ?_)
        refine unhold (wpList_appL w1.heap.size rfl (.tmp 29) (.tmp 34) _ rfl 3 (.int .i64 0) 1 8 Tryz.underlying96 info_int rfl (by omega) (.slice av xs.length cv) xs.length (xs.map I) rfl _ 1 1 [I y] rfl (by exact (Own.ext HNO2.out (w' := w5.alloc _) xe (Nat.le_refl _)).lt_size) (row_one _ _ _ _ _ (by first | rfl | simp) rfl) (one_ints [y]) (by simp only [World.size_alloc]; omega) (by unfold maxLen; omega) (by omega) ?_);intro v8 w8 o8 hg8
        have h57 := (Own.ext HNO2.out (w' := w5.alloc (.cells #[I y] 3)) xe (Nat.le_refl _))
        have E8 := Lib.hid (Ext.grownB (a := w1) (w := w5.alloc (.cells #[I y] 3)) xe h57 hg8 (Nat.le_refl _))
        have o9 : IntSO w1.heap.size w8.heap.size w8 v8 (xs ++ [y]) := by
         unfold IntSO;rw [List.length_append, List.length_singleton, List.map_append];exact o8
        have O9 := Lib.hid o9; clear o8 o9 hg8 h57;go_wp2_with (at_builtin; refine hold ?_)
        go_roundw
        case rel => exact ⟨k + 1, by omega, by go_num, .inr (by rw [HST.out]; exact O9.out), E8.out⟩
        case measure => first | (simp [intOf]; done) | (simp [intOf]; omega)
    · have dq : (q == kind) = false := beq_eq_false_iff_ne.2 hqk
      rw [dq, if_neg (by decide), List.append_nil] at HST;clear hqk;have b0 := BTr.out.ext (w' := wr) xe;have lb0 := b0.lt;obtain ⟨qb0_0, qb0_1⟩ := blk2 b0;have fb0_0 := b0.frozen 0;have fb0_1 := b0.frozen 1;clear b0;go_wp2_with fail
      refine wp_region_L (E := Ext) (w0 := wr) (G := fun τ => match τ with | 26 => some (fun v W => v = I q) | _ => none) Ext.refl (fun h k => Ext.trans h k) (by kernel_rfl) (by kernel_rfl) xg (Ext.drew (by exact Ext.refl _)) ?_
      repeat' (first
       | ((with_reducible refine wpL_skip ?_ ?_ ?_)
          · rfl
          · rfl
          simp only [putS])
       | ((with_reducible refine wpL_quiet ?_ ?_ ?_ ?_)
          · rfl
          · rfl
          · rfl
          apply Exists.intro
          refine ⟨fun W hW hS => ?_, ?_⟩
          · have hC := (Ext.facts hW).1
            go_simp
            first | done | (with_reducible rfl) | (rw [if_neg (by omega)]; exact ⟨rfl, rfl⟩) | rfl
          first | (with_reducible refine wpL_boolT ?_) | (with_reducible refine wpL_boolF ?_) | (with_reducible refine wpL_bool (fun hB => ?_) (fun hB => ?_)) | skip
          all_goals simp only [putS])
       | ((refine wpL_call ?_ rfl rfl ?_ ?_ ?_)
          · rfl
          · rfl
          · intro W hW hS
            have hC := (Ext.facts hW).1;unfold growAt
            go_simp
            simp only [growUpon]
            first | (go_at_call 81; (with_reducible refine Calls.mono (spec_InterfaceKind _ r y t _ (by exact Rt.out.ext xe)) ?_); rintro e w9 ⟨rfl, e9⟩; exact ⟨_, rfl, e9, by rw [← HQ.out]⟩)
          first | (with_reducible refine wpL_boolT ?_) | (with_reducible refine wpL_boolF ?_) | (with_reducible refine wpL_bool (fun hB => ?_) (fun hB => ?_)) | skip
          all_goals simp only [putS])
       | ((refine wpL_grow ?_ rfl rfl ?_ ?_)
          · rfl
          · intro W hW hS
            have hC := (Ext.facts hW).1;unfold growAt
            go_simp
            simp only [growUpon]
            first | (go_at_call 81; (with_reducible refine Calls.mono (spec_InterfaceKind _ r y t _ (by exact Rt.out.ext xe)) ?_); rintro e w9 ⟨rfl, e9⟩; exact ⟨_, rfl, e9, by rw [← HQ.out]⟩)
          intro v W' hW' hv
          first | (subst hv) | (obtain ⟨A5, n5, c5, rfl, -⟩ := id hv; clear hv) | (obtain ⟨A5, n5, c5, rfl⟩ := NO.slice hv) | skip
          all_goals simp only [putS]))
      refine wpL_nil (fun w5 e5 hL => ?_);clear hL;go_wp2_with fail
      go_roundw
      case rel => exact ⟨k + 1, by omega, by go_num, by rw [HST.out]; exact HNO.out.imp id (fun h => Own.more (Own.ext h e5 (Nat.le_refl _)) (Nat.le_refl _) e5.size), Ext.trans he e5⟩
      case measure => first | (simp [intOf]; done) | (simp [intOf]; omega)
  · obtain rfl : k = L.length := by omega
    have i1 : ¬ (L.length : Int) < (L.length : Int) := by omega
    go_wp2_with fail
    go_ret
    have hx9 : xs = L.filter (fun d => ifKind t r d == kind) := by rw [HXS.out, List.take_length]
    refine ⟨_, rfl, ?_, Ext.trans eb heb⟩;rw [HF.out, ← hx9]
    rcases HNO.out with ⟨hx0, hv0⟩ | hno
    · rw [hx0, hv0]
      exact Own.more (Own.ext HZ.out (Ext.trans e1 he) (by omega)) (by omega) (by omega)
    · exact Own.more hno (by omega) (Nat.le_refl _)
def LinksOk (t : DTopology) : Prop := ∀ u ∈ t.links, linkOk t u = true
theorem spec_l5DrawL (g : Nat) (w : World) (hc : Cur w g) : Calls Tryz.prog 71 #[.pointer (some ⟨g, 0, none⟩)] w fun e w' => ∃ v', e = .returned v' ∧ (∃ t, TopologyO w.heap.size w'.heap.size w' v' t ∧ DrawnTopo t ∧ LinksOk t) ∧ D g w w' := by
 have HC := Lib.hid hc;have hgw := hc.lt;clear hc
 go_enter Tryz.func71, Tryz.ntmps71
 go_wp2_with fail
 refine name_calls (fun W => ∃ wa, D g w wa ∧ wa.heap.size = w.heap.size + 1 ∧ Blk wa w.heap.size 27 [.slice none 0 0, .slice none 0 0] ∧ D g wa W ∧ W.heap.size = w.heap.size + 1 + 1 ∧ Blk W (w.heap.size + 1) 27 [.slice none 0 0, .slice none 0 0]) ⟨_, D.alloc (D.refl _ _) hgw _, by simp only [World.size_alloc], xb, D.alloc (D.refl _ _) (by simp only [World.size_alloc]; omega) _, by simp only [World.size_alloc], xb⟩ ?_;rintro w0 ⟨wa, da, za, br, d0, z0, bt⟩;have BR := Lib.hid br; clear br;have HCA := Lib.hid (da.cur HC.out)
 have hga : g < wa.heap.size := by omega
 have T0 : Hid (Topo w0.heap.size w0 (w.heap.size + 1) ⟨[], []⟩) := ⟨none, 0, none, 0, bt, Own.nil _ _ _ _ _, Own.nil _ _ _ _ _, Nat.le_refl _⟩
 clear bt;refine (spec_l1Below g 3 w0 (d0.cur HCA.out) (by omega)).mono ?_;rintro e w1 ⟨x1, rfl, ⟨x1a, x1b, -⟩, d1⟩;have x1b := x1b (by omega);have z1 := d1.size
 obtain ⟨c1, rfl⟩ : ∃ c1 : Nat, x1 = (c1 : Int) := ⟨x1.toNat, by omega⟩
 go_wp2_with fail
 refine (spec_l1Below g 6 w1 (d1.cur (d0.cur HCA.out)) (by omega)).mono ?_;rintro e w2 ⟨x2, rfl, ⟨x2a, x2b, -⟩, d2⟩;have x2b := x2b (by omega);have z2 := d2.size
 obtain ⟨c2, rfl⟩ : ∃ c2 : Nat, x2 = (c2 : Int) := ⟨x2.toNat, by omega⟩
 go_wp2_with fail
 have hne : w.heap.size + 1 ≠ g := by omega
 have dw2 : D g wa w2 := D.trans (D.trans d0 d1) d2
 go_loopw [6] (fun i wr => ∃ (k : Nat) (t : DTopology), k ≤ c1 + 1 + c2 ∧ i = I k ∧ Topo w0.heap.size wr (w.heap.size + 1) t ∧ t.ases.length = k ∧ t.links.length = 0 ∧ KeysOk t.ases ∧ D g wa wr) (fun i _ => c1 + 1 + c2 - (intOf i).toNat)
 case atStart => exact ⟨0, ⟨[], []⟩, by omega, rfl, T0.out.d (D.trans d1 d2) (by omega) hne, rfl, rfl, fun k hk => by simp at hk, dw2⟩
 case round =>
  obtain ⟨k, t, hk, rfl, ht, hta, htl, hko, hd⟩ := hrel;have HKO := Lib.hid hko; clear hko;subst hta;have zr := hd.size;by_cases hlt : t.ases.length < c1 + 1 + c2
  · have i1 : (t.ases.length : Int) < 1 + (c1 : Int) + (c2 : Int) := by omega
    obtain ⟨A0, q0, A1, q1, hb, h0, h1, hl⟩ := ht;have HB := Lib.hid hb; have H0 := Lib.hid h0; have H1 := Lib.hid h1; clear hb h0 h1
    have hgr : g < wr.heap.size := by omega
    have hcur := hd.cur HCA.out;have HCUR := Lib.hid hcur; clear hcur;have b0 := HB.out.ext (w' := wr) xe;have lb0 := b0.lt;obtain ⟨qb0_0, qb0_1⟩ := blk2 b0;have fb0_0 := b0.frozen 0;have fb0_1 := b0.frozen 1;clear b0;go_wp2_with fail
    refine wp_region_LT 15 (E := D g) (w0 := wr) (G := fun τ => match τ with | 30 => some (fun v W => ∃ x : Int, v = I x ∧ 0 ≤ x ∧ x < 2) | 35 => some (fun v W => ∃ x : Int, v = I x ∧ 0 ≤ x ∧ x < 1000000) | 41 => some (fun v W => FreshAS wr.heap.size t.ases.length v W) | _ => none) (D.refl g) (fun h k => D.trans h k) (by kernel_rfl) (by kernel_rfl) (by kernel_rfl) (by kernel_rfl) (by kernel_rfl) (by kernel_rfl) (by intro t φ hG; split at hG; all_goals first | (cases hG; done) | (cases Option.some.inj hG; intro v W W' hE hv; first | exact hv | exact hv.d hE (by omega) | (obtain ⟨y, hy⟩ := hv; exact ⟨y, Fresh1.d hy hE (by omega)⟩))) (D.drew (by exact D.refl _ _)) ?_;simp only [List.take_succ_cons, List.take_zero]
    repeat' (first
     | ((with_reducible refine wpL_skip ?_ ?_ ?_)
        · rfl
        · rfl
        simp only [putS])
     | ((with_reducible refine wpL_quiet ?_ ?_ ?_ ?_)
        · rfl
        · rfl
        · rfl
        apply Exists.intro
        refine ⟨fun W hW hS => ?_, ?_⟩
        · have hC := (D.facts hW).1
          go_simp
          first | done | (with_reducible rfl) | (rw [if_neg (by omega)]; exact ⟨rfl, rfl⟩) | rfl
        first | (with_reducible refine wpL_boolT ?_) | (with_reducible refine wpL_boolF ?_) | (with_reducible refine wpL_bool (fun hB => ?_) (fun hB => ?_)) | skip
        all_goals simp only [putS])
     | ((refine wpL_grow ?_ rfl rfl ?_ ?_)
        · rfl
        · intro W hW hS
          have hC := (D.facts hW).1;unfold growAt
          go_simp
          simp only [growUpon]
          first | (go_at_call 38; (with_reducible refine Calls.mono (spec_l1Below g _ _ (hW.cur HCUR.out) (by omega)) ?_); rintro e w9 ⟨x, rfl, hx, d9⟩; exact ⟨_, rfl, d9, ⟨x, rfl, hx.1, hx.2.1 (by omega)⟩⟩) | (go_at_call 38; (with_reducible refine Calls.mono (spec_l1Below g _ _ (hW.cur HCUR.out) (by omega)) ?_); rintro e w9 ⟨x, rfl, hx, d9⟩; exact ⟨_, rfl, d9, ⟨x, rfl, hx.1, hx.2.1 (by omega)⟩⟩) | (refine ⟨D.of_ext ((Ext.refl _).alloc _) (by have h5 := D.size hW; omega), ⟨⟨_, _, _⟩, ?_, Fresh1.new _ _ _ _ _ rfl (D.size hW)⟩⟩; exact ⟨x30, x30a, x30b, key_val _ _ x30a x30b (by omega)⟩)
        intro v W' hW' hv
        first | (obtain ⟨x30, rfl, x30a, x30b⟩ := hv) | (obtain ⟨x35, rfl, x35a, x35b⟩ := hv) | (obtain ⟨y41, -, g41, rfl, hg41, hb41⟩ := hv) | (obtain ⟨A5, n5, c5, rfl, -⟩ := id hv; clear hv) | (obtain ⟨A5, n5, c5, rfl⟩ := NO.slice hv) | skip
        all_goals simp only [putS]))
    all_goals
     refine wpL_nil (fun w5 e5 hL => ?_);obtain ⟨y5, hy5, g5, hv5, hg5, hb5⟩ : FreshAS wr.heap.size t.ases.length _ w5 := hL 41;cases hv5;clear hL lb0 qb0_0 qb0_1 fb0_0 fb0_1;have z5 := e5.size;have HB5 := Lib.hid (HB.out.d e5 hne);have H05 := Lib.hid (H0.out.dUp e5 (by omega));have H15 := Lib.hid (H1.out.dUp e5 (by omega));simp only [List.drop_succ_cons, List.drop_zero];go_wp2_with (at_builtin; refine hold ?_)
     refine unhold (wpList_appL w0.heap.size rfl (.tmp 28) (.tmp 41) _ rfl 98 _ 3 24 Tryz.underlying24 info_AS rfl (by omega) (.slice A0 t.ases.length q0) t.ases.length (t.ases.flatMap ASC) rfl _ 1 1 (ASC y5) rfl H05.out (row_blk hb5 rfl) (fun u hu => one_AS [y5] u (by simpa using hu)) (by omega) (by unfold maxLen; omega) (by omega) ?_);intro v8 w8 o8 hg8;obtain ⟨a8, m8, q8, hv8⟩ := o8.slice;subst hv8;obtain ⟨hm8, -⟩ := NO.row o8;subst hm8;have B8 := Lib.hid (Blk.grown HB5.out hg8 (off_type H05.out HB5.out (by decide)));have L8 := Lib.hid ((other_type H15.out H05.out (by decide) hg8).lt_size);have z8 := hg8.size;have dd : D g wa w8 := D.grown (D.trans hd e5) hga hg8 (fun j hj => by have := (H05.out.1.lt j hj).1; omega)
     have o9 : Own 98 3 w0.heap.size w8.heap.size w8 (.slice a8 (t.ases.length + 1) q8) (t.ases.length + 1) ((t.ases ++ [y5]).flatMap ASC) := by rw [List.flatMap_append]; simpa using o8
     have O8 := Lib.hid o9; clear o8 o9 hg8;have b8 := B8.out.ext (w' := w8) xe;have lb8 := b8.lt;obtain ⟨qb8_0, qb8_1⟩ := blk2 b8;have fb8_0 := b8.frozen 0;have fb8_1 := b8.frozen 1;clear b8;go_wp2_with (at_builtin; refine hold ?_)
     go_roundw
     case rel =>
      refine ⟨t.ases.length + 1, ⟨t.ases ++ [y5], t.links⟩, by omega, by go_num, ⟨a8, q8, A1, q1, ?_, ?_, ?_, ?_⟩, by simp, htl, HKO.out.snoc hy5, D.setNew dd hga (by dsimp only; omega) _⟩
      · simpa using B8.out.set_ 0 (.slice a8 (t.ases.length + 1) q8)
      · simp only [World.size_setCell]
        have h9 := O8.out.setT B8.out (by decide) 0 (.slice a8 (t.ases.length + 1) q8);unfold ASSO;rw [List.length_append, List.length_singleton];exact h9
      · simp only [World.size_setCell]
        exact L8.out.setT B8.out (by decide) _ _
      · simp only [World.size_setCell]; omega
     case measure => simp [intOf]; omega
  · have hk2 : t.ases.length = c1 + 1 + c2 := by omega
    have i1 : ¬ (t.ases.length : Int) < 1 + (c1 : Int) + (c2 : Int) := by omega
    go_wp2_with fail
    go_loopw [7] (fun i wr => ∃ (b : Nat) (t : DTopology), 1 ≤ b ∧ b ≤ c1 + 1 ∧ i = I b ∧ Topo w0.heap.size wr (w.heap.size + 1) t ∧ (t.ases.length = c1 + 1 + c2 ∧ KeysOk t.ases) ∧ t.links.length ≤ 2 * b ∧ D g wa wr) (fun i _ => c1 + 1 - (intOf i).toNat)
    case atStart => exact ⟨1, t, by omega, by omega, rfl, ht, ⟨hk2, HKO.out⟩, by omega, hd⟩
    case round =>
     clear i1 hk2 hk hlt ht htl;obtain ⟨b, t2, hb1, hb2, rfl, ht2, hta2, htl2, hd2⟩ := hrel;have zr2 := hd2.size;have dz2 := d2.size;by_cases hlt2 : b < c1 + 1
     · have i1 : (b : Int) < 1 + (c1 : Int) := by omega
       go_wp2_with fail
       refine (spec_l1Below g (b : Int) _ (hd2.cur HCA.out) (by omega)).mono ?_;rintro e w3 ⟨x3, rfl, -, d3⟩;go_wp2_with fail
       refine (spec_l5Add (w.heap.size + 1) x3 b 1 w0.heap.size t2 _ (ht2.d d3 (by omega) hne) (by omega)).mono ?_;rintro e w4 ⟨rfl, ⟨t4, ht4, hta4, htl4⟩, hf4⟩;have d4 : D g wa w4 := hf4 g wa (D.trans hd2 d3) hga (by omega) (by omega);go_wp2_with fail
       refine (spec_l1Once g 2 _ (d4.cur HCA.out) (by omega)).mono ?_;rintro e w5 ⟨y5, rfl, d5⟩;have ht5 := ht4.d d5 (by omega) hne;cases y5
       · go_wp2_with fail
         go_roundw
         case rel => exact ⟨b + 1, t4, by omega, by omega, by go_num, ht5, by rw [hta4]; exact hta2, by omega, D.trans d4 d5⟩
         case measure => simp [intOf]; omega
       · go_wp2_with fail
         refine (spec_l1Below g (b : Int) _ ((D.trans d4 d5).cur HCA.out) (by omega)).mono ?_;rintro e w6 ⟨x6, rfl, -, d6⟩;go_wp2_with fail
         refine (spec_l5Add (w.heap.size + 1) x6 b 1 w0.heap.size t4 _ (ht5.d d6 (by omega) hne) (by omega)).mono ?_;rintro e w7 ⟨rfl, ⟨t7, ht7, hta7, htl7⟩, hf7⟩;have d7 : D g wa w7 := hf7 g wa (D.trans (D.trans d4 d5) d6) hga (by omega) (by omega);go_wp2_with fail
         go_roundw
         case rel => exact ⟨b + 1, t7, by omega, by omega, by go_num, ht7, by rw [hta7, hta4]; exact hta2, by omega, d7⟩
         case measure => simp [intOf]; omega
     · have hb3 : b = c1 + 1 := by omega
       subst hb3
       have i1 : ¬ ((c1 + 1 : Nat) : Int) < 1 + (c1 : Int) := by omega
       go_wp2_with fail
       go_loopw [8] (fun i wr => ∃ (b : Nat) (t : DTopology), c1 + 1 ≤ b ∧ b ≤ c1 + 1 + c2 ∧ i = I b ∧ Topo w0.heap.size wr (w.heap.size + 1) t ∧ (t.ases.length = c1 + 1 + c2 ∧ KeysOk t.ases) ∧ t.links.length ≤ 20 + 3 * b ∧ D g wa wr) (fun i _ => c1 + 1 + c2 - (intOf i).toNat)
       case atStart => exact ⟨c1 + 1, t2, by omega, by omega, by go_num, ht2, hta2, by omega, hd2⟩
       case round =>
        clear i1 hta2 hlt2 ht2 htl2;obtain ⟨b, t3, hb3, hb4, rfl, ht3, hta3, htl3, hd3⟩ := hrel;have zr3 := hd3.size;have HTA3 := Lib.hid hta3;obtain ⟨A0, q0, A1, q1, hb, h0, h1, hl⟩ := id ht3;have HB := Lib.hid hb; have H0 := Lib.hid h0; have H1 := Lib.hid h1; clear hb h0 h1;by_cases hlt3 : b < c1 + 1 + c2
        · have i1 : (b : Int) < (t3.ases.length : Int) := by omega
          clear hta3;have b0 := HB.out.ext (w' := wr) xe;have lb0 := b0.lt;obtain ⟨qb0_0, qb0_1⟩ := blk2 b0;have fb0_0 := b0.frozen 0;have fb0_1 := b0.frozen 1;clear b0;go_wp2_with fail
          clear lb0 qb0_0 qb0_1 fb0_0 fb0_1 HB H0 H1;refine (spec_l1Below g 2 _ (hd3.cur HCA.out) (by omega)).mono ?_;rintro e w4 ⟨x4, rfl, ⟨x4a, x4b, -⟩, d4⟩;have x4b := x4b (by omega)
          obtain ⟨c4, rfl⟩ : ∃ c4 : Nat, x4 = (c4 : Int) := ⟨x4.toNat, by omega⟩
          have z4 := d4.size;go_wp2_with fail
          go_loopw [9] (fun i wr => ∃ (kk : Nat) (t : DTopology), kk ≤ 2 ∧ i = I kk ∧ Topo w0.heap.size wr (w.heap.size + 1) t ∧ (t.ases.length = c1 + 1 + c2 ∧ KeysOk t.ases) ∧ t.links.length + kk ≤ 22 + 3 * b ∧ D g wa wr) (fun i _ => (intOf i).toNat)
          case atStart => exact ⟨c4 + 1, t3, by omega, by go_num, ht3.d d4 (by omega) hne, HTA3.out, by omega, D.trans hd3 d4⟩
          case round =>
           clear ht3 HTA3 htl3 i1;obtain ⟨kk, t5, hk5, rfl, ht5, hta5, htl5, hd5⟩ := hrel;have zr5 := hd5.size;have HTA5 := Lib.hid hta5;by_cases hk0 : 0 < kk
           · obtain ⟨km, rfl⟩ : ∃ km : Nat, kk = km + 1 := ⟨kk - 1, by omega⟩
             have i2 : (0 : Int) < ((km + 1 : Nat) : Int) := by omega
             clear hta5;go_wp2_with fail
             clear i2;refine (spec_l1Below g (b : Int) _ (hd5.cur HCA.out) (by omega)).mono ?_;rintro e w6 ⟨x6, rfl, ⟨x6a, x6b, -⟩, d6⟩;have x6b := x6b (by omega)
             obtain ⟨a, rfl⟩ : ∃ a : Nat, x6 = (a : Int) := ⟨x6.toNat, by omega⟩
             have z6 := d6.size;go_wp2_with fail
             refine (spec_l1Once g 5 _ ((D.trans hd5 d6).cur HCA.out) (by omega)).mono ?_;rintro e w7 ⟨y7, rfl, d7⟩;have ht7 := (ht5.d d6 (by omega) hne).d d7 (by omega) hne;have hd7 : D g wa w7 := D.trans (D.trans hd5 d6) d7;have z7 := d7.size;clear ht5;cases y7
             · obtain ⟨A0, q0, A1, q1, hb, h0, h1, hl⟩ := ht7
               have hal : a < t5.ases.length := by rw [HTA5.out.1]; omega
               have hbl : b < t5.ases.length := by rw [HTA5.out.1]; omega
               obtain ⟨bk, off, hA, hbk, hka, hca, -, -⟩ := (ASSO_rd h0).at_ hal;have hfl : (t5.ases.flatMap ASC).length = t5.ases.length * 3 := flat_len ASC 3 ASC.len t5.ases;obtain ⟨gA, hgA, hg1, hg2, hg3, hfr, hcb, -⟩ := Own.cellAt h0 (b * 3) (by rw [hfl]; omega) (I 0);rw [hgA] at hA;cases hA;subst hgA
               have hca : w7.cell? ⟨bk, a * 3, none⟩ = some (I t5.ases[a].isd) := by simpa only [Nat.zero_add] using hca
               have HB := Lib.hid hb; have H0 := Lib.hid h0; have H1 := Lib.hid h1; clear hb h0 h1
               have a0 : (0 : Int) ≤ (a : Int) := by omega
               have a1 : (a : Int) < (t5.ases.length : Int) := by omega
               have b0 : (0 : Int) ≤ (b : Int) := by omega
               have b1 : (b : Int) < (t5.ases.length : Int) := by omega
               generalize hz : t5.ases[a].isd = z at *
               clear hz;have b0 := HB.out.ext (w' := w7) xe;have lb0 := b0.lt;obtain ⟨qb0_0, qb0_1⟩ := blk2 b0;have fb0_0 := b0.frozen 0;have fb0_1 := b0.frozen 1;clear b0;go_wp2_with fail
               refine wp_region_LT 11 (E := Ext) (w0 := w7) (G := fun τ => match τ with | 0 => none | _ => none) Ext.refl (fun h k => Ext.trans h k) (by kernel_rfl) (by kernel_rfl) (by kernel_rfl) (by kernel_rfl) (by kernel_rfl) (by kernel_rfl) xg (Ext.drew (by exact Ext.refl _)) ?_;simp only [List.take_succ_cons, List.take_zero]
               repeat' (first
                | ((with_reducible refine wpL_skip ?_ ?_ ?_)
                   · rfl
                   · rfl
                   simp only [putS])
                | ((with_reducible refine wpL_quiet ?_ ?_ ?_ ?_)
                   · rfl
                   · rfl
                   · rfl
                   apply Exists.intro
                   refine ⟨fun W hW hS => ?_, ?_⟩
                   · have hC := (Ext.facts hW).1
                     go_simp
                     first | done | (with_reducible rfl) | (rw [if_neg (by omega)]; exact ⟨rfl, rfl⟩) | rfl
                   first | (with_reducible refine wpL_boolT ?_) | (with_reducible refine wpL_boolF ?_) | (with_reducible refine wpL_bool (fun hB => ?_) (fun hB => ?_)) | skip
                   all_goals simp only [putS]))
               refine wpL_nil (fun w8 e8 hL => ?_);clear hL lb0 qb0_0 qb0_1 fb0_0 fb0_1;have z8 := e8.size;obtain ⟨gA', hgA', -, -, hg3', hfr', hcb', hset⟩ := Own.cellAt (H0.out.ext e8 (Nat.le_refl _)) (b * 3) (by rw [hfl]; omega) (I z);cases hgA';have HSET := Lib.hid hset; clear hset hfr hcb hca;have hb8 := HB.out.ext e8
               have hneg : bk ≠ w.heap.size + 1 := fun e => by
                have := off_type (H0.out.ext e8 (Nat.le_refl _)) hb8 (by decide);exact this (by rw [← e]; rfl)
               have HB8 := Lib.hid (Blk.far hb8 (p := ⟨bk, b * 3, none⟩) (fun e => hneg e.symm) (I z))
               have H18 : Hid (LinkSO w0.heap.size (w8.setCell ⟨bk, b * 3, none⟩ (I z)).heap.size (w8.setCell ⟨bk, b * 3, none⟩ (I z)) (.slice A1 t5.links.length q1) t5.links) := by
                unfold Hid;simp only [World.size_setCell]
                obtain ⟨cs9, hblk9⟩ : ∃ cs9, Blk w8 bk 98 cs9 := by
                 rcases (H0.out.ext e8 (Nat.le_refl _)).cases with ⟨e, -⟩ | ⟨gq, cap, rest, e, -, -, hbb, -⟩
                 · cases e
                 · cases e; exact ⟨_, hbb⟩
                exact ((H1.out.ext e8 (Nat.le_refl _)).lt_size).setT hblk9 (by decide) _ _
               clear hb8;simp only [List.drop_succ_cons, List.drop_zero];go_wp2_with (at_builtin; refine hold ?_)
               refine name_wp (fun W => (∃ t', Topo w0.heap.size W (w.heap.size + 1) t' ∧ (t'.ases.length = c1 + 1 + c2 ∧ KeysOk t'.ases) ∧ t'.links.length = t5.links.length) ∧ D g wa W) ⟨⟨⟨t5.ases.set b { t5.ases[b] with isd := z }, t5.links⟩, ⟨some ⟨bk, 0, none⟩, q0, A1, q1, by simpa using HB8.out, ?_, H18.out, by simp only [World.size_setCell]; omega⟩, ⟨by simp [HTA5.out.1], HTA5.out.2.isd b hbl z⟩, rfl⟩, D.setNew (D.trans hd7 (D.of_ext e8 (by omega))) hga (by dsimp only; omega) _⟩ ?_
               · have h9 := HSET.out
                 rw [as_set t5.ases b hbl z] at h9;unfold ASSO;rw [List.length_set];simp only [World.size_setCell];have h10 := h9.lt_size;simp only [World.size_setCell] at h10;exact h10
               clear HB8 HSET H18 HB H0 H1 hfr' hcb';rintro w9 ⟨⟨t9, ht9, hta9, htl9⟩, hd9⟩;have z9 := hd9.size;have HTA9 := Lib.hid hta9;obtain ⟨A0, q0, A1, q1, hb, h0, h1, hl⟩ := id ht9
               have hal : a < t9.ases.length := by omega
               have hbl : b < t9.ases.length := by omega
               obtain ⟨bk, off, hA, hbk, hka, hca, -, -⟩ := (ASSO_rd h0).at_ hal;subst hA;obtain ⟨bk2, off2, hA2, hbk2, hkb, hcb, -, -⟩ := (ASSO_rd h0).at_ hbl;cases hA2
               have a0 : (0 : Int) ≤ (a : Int) := by omega
               have a1 : (a : Int) < (t9.ases.length : Int) := by omega
               have b0 : (0 : Int) ≤ (b : Int) := by omega
               have b1 : (b : Int) < (t9.ases.length : Int) := by omega
               clear hta9;have HB := Lib.hid hb; clear hb h0 h1
               generalize t9.ases[a].isd = za at *
               generalize t9.ases[b].isd = zb at *
               have b0 := HB.out.ext (w' := w9) xe;have lb0 := b0.lt;obtain ⟨qb0_0, qb0_1⟩ := blk2 b0;have fb0_0 := b0.frozen 0;have fb0_1 := b0.frozen 1;clear b0;by_cases he : za = zb
               · have dq : (za == zb) = true := beq_iff_eq.2 he
                 clear he;refine wp_region_L (E := Ext) (w0 := w9) (G := fun τ => match τ with | 0 => none | _ => none) Ext.refl (fun h k => Ext.trans h k) (by kernel_rfl) (by kernel_rfl) xg (Ext.drew (by exact Ext.refl _)) ?_
                 repeat' (first
                  | ((with_reducible refine wpL_skip ?_ ?_ ?_)
                     · rfl
                     · rfl
                     simp only [putS])
                  | ((with_reducible refine wpL_quiet ?_ ?_ ?_ ?_)
                     · rfl
                     · rfl
                     · rfl
                     apply Exists.intro
                     refine ⟨fun W hW hS => ?_, ?_⟩
                     · have hC := (Ext.facts hW).1
                       go_simp
                       first | done | (with_reducible rfl) | (rw [if_neg (by omega)]; exact ⟨rfl, rfl⟩) | rfl
                     first | (with_reducible refine wpL_boolT ?_) | (with_reducible refine wpL_boolF ?_) | (with_reducible refine wpL_bool (fun hB => ?_) (fun hB => ?_)) | skip
                     all_goals simp only [putS]))
                 refine wpL_nil (fun w10 e10 hL => ?_);clear hL lb0 qb0_0 qb0_1 fb0_0 fb0_1 hca hcb dq a0 a1 b0 b1;have d10 : D g wa w10 := D.trans hd9 (D.of_ext e10 (by omega));go_wp2_with fail
                 refine (spec_l5Add (w.heap.size + 1) a b 2 w0.heap.size t9 _ (ht9.ext e10) (by omega)).mono ?_;rintro e w11 ⟨rfl, ⟨t11, ht11, hta11, htl11⟩, hf11⟩;have d11 : D g wa w11 := hf11 g wa d10 hga (by omega) (by omega);go_wp2_with fail
                 go_roundw
                 case rel => exact ⟨km, t11, by omega, by go_num, ht11, by rw [hta11]; exact HTA9.out, by omega, d11⟩
                 case measure => first | (simp [intOf]; done) | (simp [intOf]; omega)
               · have dq : (za == zb) = false := beq_eq_false_iff_ne.2 he
                 clear he;refine wp_region_L (E := Ext) (w0 := w9) (G := fun τ => match τ with | 0 => none | _ => none) Ext.refl (fun h k => Ext.trans h k) (by kernel_rfl) (by kernel_rfl) xg (Ext.drew (by exact Ext.refl _)) ?_
                 repeat' (first
                  | ((with_reducible refine wpL_skip ?_ ?_ ?_)
                     · rfl
                     · rfl
                     simp only [putS])
                  | ((with_reducible refine wpL_quiet ?_ ?_ ?_ ?_)
                     · rfl
                     · rfl
                     · rfl
                     apply Exists.intro
                     refine ⟨fun W hW hS => ?_, ?_⟩
                     · have hC := (Ext.facts hW).1
                       go_simp
                       first | done | (with_reducible rfl) | (rw [if_neg (by omega)]; exact ⟨rfl, rfl⟩) | rfl
                     first | (with_reducible refine wpL_boolT ?_) | (with_reducible refine wpL_boolF ?_) | (with_reducible refine wpL_bool (fun hB => ?_) (fun hB => ?_)) | skip
                     all_goals simp only [putS]))
                 refine wpL_nil (fun w10 e10 hL => ?_);clear hL lb0 qb0_0 qb0_1 fb0_0 fb0_1 hca hcb dq a0 a1 b0 b1;have d10 : D g wa w10 := D.trans hd9 (D.of_ext e10 (by omega));go_wp2_with fail
                 go_roundw
                 case rel => exact ⟨km, t9, by omega, by go_num, ht9.ext e10, HTA9.out, by omega, d10⟩
                 case measure => first | (simp [intOf]; done) | (simp [intOf]; omega)
             · go_wp2_with fail
               refine name_wp (fun W => (∃ t', Topo w0.heap.size W (w.heap.size + 1) t' ∧ (t'.ases.length = c1 + 1 + c2 ∧ KeysOk t'.ases) ∧ t'.links.length = t5.links.length) ∧ D g wa W) ⟨⟨t5, ht7, HTA5.out, rfl⟩, hd7⟩ ?_;rintro w9 ⟨⟨t9, ht9, hta9, htl9⟩, hd9⟩;have z9 := hd9.size;have HTA9 := Lib.hid hta9;obtain ⟨A0, q0, A1, q1, hb, h0, h1, hl⟩ := id ht9
               have hal : a < t9.ases.length := by omega
               have hbl : b < t9.ases.length := by omega
               obtain ⟨bk, off, hA, hbk, hka, hca, -, -⟩ := (ASSO_rd h0).at_ hal;subst hA;obtain ⟨bk2, off2, hA2, hbk2, hkb, hcb, -, -⟩ := (ASSO_rd h0).at_ hbl;cases hA2
               have a0 : (0 : Int) ≤ (a : Int) := by omega
               have a1 : (a : Int) < (t9.ases.length : Int) := by omega
               have b0 : (0 : Int) ≤ (b : Int) := by omega
               have b1 : (b : Int) < (t9.ases.length : Int) := by omega
               clear hta9;have HB := Lib.hid hb; clear hb h0 h1
               generalize t9.ases[a].isd = za at *
               generalize t9.ases[b].isd = zb at *
               have b0 := HB.out.ext (w' := w9) xe;have lb0 := b0.lt;obtain ⟨qb0_0, qb0_1⟩ := blk2 b0;have fb0_0 := b0.frozen 0;have fb0_1 := b0.frozen 1;clear b0;by_cases he : za = zb
               · have dq : (za == zb) = true := beq_iff_eq.2 he
                 clear he;refine wp_region_L (E := Ext) (w0 := w9) (G := fun τ => match τ with | 0 => none | _ => none) Ext.refl (fun h k => Ext.trans h k) (by kernel_rfl) (by kernel_rfl) xg (Ext.drew (by exact Ext.refl _)) ?_
                 repeat' (first
                  | ((with_reducible refine wpL_skip ?_ ?_ ?_)
                     · rfl
                     · rfl
                     simp only [putS])
                  | ((with_reducible refine wpL_quiet ?_ ?_ ?_ ?_)
                     · rfl
                     · rfl
                     · rfl
                     apply Exists.intro
                     refine ⟨fun W hW hS => ?_, ?_⟩
                     · have hC := (Ext.facts hW).1
                       go_simp
                       first | done | (with_reducible rfl) | (rw [if_neg (by omega)]; exact ⟨rfl, rfl⟩) | rfl
                     first | (with_reducible refine wpL_boolT ?_) | (with_reducible refine wpL_boolF ?_) | (with_reducible refine wpL_bool (fun hB => ?_) (fun hB => ?_)) | skip
                     all_goals simp only [putS]))
                 refine wpL_nil (fun w10 e10 hL => ?_);clear hL lb0 qb0_0 qb0_1 fb0_0 fb0_1 hca hcb dq a0 a1 b0 b1;have d10 : D g wa w10 := D.trans hd9 (D.of_ext e10 (by omega));go_wp2_with fail
                 refine (spec_l5Add (w.heap.size + 1) a b 2 w0.heap.size t9 _ (ht9.ext e10) (by omega)).mono ?_;rintro e w11 ⟨rfl, ⟨t11, ht11, hta11, htl11⟩, hf11⟩;have d11 : D g wa w11 := hf11 g wa d10 hga (by omega) (by omega);go_wp2_with fail
                 go_roundw
                 case rel => exact ⟨km, t11, by omega, by go_num, ht11, by rw [hta11]; exact HTA9.out, by omega, d11⟩
                 case measure => first | (simp [intOf]; done) | (simp [intOf]; omega)
               · have dq : (za == zb) = false := beq_eq_false_iff_ne.2 he
                 clear he;refine wp_region_L (E := Ext) (w0 := w9) (G := fun τ => match τ with | 0 => none | _ => none) Ext.refl (fun h k => Ext.trans h k) (by kernel_rfl) (by kernel_rfl) xg (Ext.drew (by exact Ext.refl _)) ?_
                 repeat' (first
                  | ((with_reducible refine wpL_skip ?_ ?_ ?_)
                     · rfl
                     · rfl
                     simp only [putS])
                  | ((with_reducible refine wpL_quiet ?_ ?_ ?_ ?_)
                     · rfl
                     · rfl
                     · rfl
                     apply Exists.intro
                     refine ⟨fun W hW hS => ?_, ?_⟩
                     · have hC := (Ext.facts hW).1
                       go_simp
                       first | done | (with_reducible rfl) | (rw [if_neg (by omega)]; exact ⟨rfl, rfl⟩) | rfl
                     first | (with_reducible refine wpL_boolT ?_) | (with_reducible refine wpL_boolF ?_) | (with_reducible refine wpL_bool (fun hB => ?_) (fun hB => ?_)) | skip
                     all_goals simp only [putS]))
                 refine wpL_nil (fun w10 e10 hL => ?_);clear hL lb0 qb0_0 qb0_1 fb0_0 fb0_1 hca hcb dq a0 a1 b0 b1;have d10 : D g wa w10 := D.trans hd9 (D.of_ext e10 (by omega));go_wp2_with fail
                 go_roundw
                 case rel => exact ⟨km, t9, by omega, by go_num, ht9.ext e10, HTA9.out, by omega, d10⟩
                 case measure => first | (simp [intOf]; done) | (simp [intOf]; omega)
           · obtain rfl : kk = 0 := by omega
             have i2 : ¬ (0 : Int) < ((0 : Nat) : Int) := by omega
             clear hta5;go_wp2_with fail
             clear i2;refine (spec_l1Below g ((b : Int) - (1 + (c1 : Int)) + 1) _ (hd5.cur HCA.out) (by omega)).mono ?_;rintro e w6 ⟨x6, rfl, ⟨x6a, x6b, -⟩, d6⟩;have x6b := x6b (by omega);have ht6 := ht5.d d6 (by omega) hne;have hd6 : D g wa w6 := D.trans hd5 d6;have z6 := d6.size;by_cases ha : 1 + (c1 : Int) + x6 < (b : Int)
             · go_wp2_with fail
               refine (spec_l1Once g 3 _ (hd6.cur HCA.out) (by omega)).mono ?_;rintro e w7 ⟨y7, rfl, d7⟩;have ht7 := ht6.d d7 (by omega) hne;have hd7 : D g wa w7 := D.trans hd6 d7;cases y7
               · go_wp2_with fail
                 go_roundw
                 case rel => exact ⟨b + 1, t5, by omega, by omega, by go_num, ht7, HTA5.out, by omega, hd7⟩
                 case measure => first | (simp [intOf]; done) | (simp [intOf]; omega)
               · go_wp2_with fail
                 refine (spec_l5Add (w.heap.size + 1) (1 + (c1 : Int) + x6) b 3 w0.heap.size t5 _ ht7 (by omega)).mono ?_;rintro e w11 ⟨rfl, ⟨t11, ht11, hta11, htl11⟩, hf11⟩;have d11 : D g wa w11 := hf11 g wa hd7 hga (by omega) (by omega);go_wp2_with fail
                 go_roundw
                 case rel => exact ⟨b + 1, t11, by omega, by omega, by go_num, ht11, by rw [hta11]; exact HTA5.out, by omega, d11⟩
                 case measure => first | (simp [intOf]; done) | (simp [intOf]; omega)
             · go_wp2_with fail
               go_roundw
               case rel => exact ⟨b + 1, t5, by omega, by omega, by go_num, ht6, HTA5.out, by omega, hd6⟩
               case measure => first | (simp [intOf]; done) | (simp [intOf]; omega)
        · have hb5 : b = c1 + 1 + c2 := by omega
          subst hb5
          have i1 : ¬ ((c1 + 1 + c2 : Nat) : Int) < (t3.ases.length : Int) := by omega
          clear hta3
          obtain ⟨w3, hw3⟩ : ∃ w3, w3 = wr := ⟨_, rfl⟩
          subst hw3
          have hg3 : g < w3.heap.size := by omega
          have b0 := HB.out.ext (w' := w3) xe;have lb0 := b0.lt;obtain ⟨qb0_0, qb0_1⟩ := blk2 b0;have fb0_0 := b0.frozen 0;have fb0_1 := b0.frozen 1;clear b0;go_wp2_with fail
          clear lb0 qb0_0 qb0_1 fb0_0 fb0_1 i1;refine name_wp (fun W => Ext w3 W ∧ LinkSO w3.heap.size W.heap.size W (.slice (some ⟨w3.heap.size, 0, none⟩) 0 0) []) ⟨xe, own_zero' _ _ _ _ _ rfl (Nat.le_refl _)⟩ ?_;rintro w5 ⟨e5, hz⟩;have HZ := Lib.hid hz; clear hz
          go_loopw [12, 13] (fun v i wr => ∃ (k : Nat) (l : List DLink), k ≤ t3.links.length ∧ i = I k ∧ LinkSO w3.heap.size wr.heap.size wr v l ∧ (l.length ≤ k ∧ ∀ u ∈ l, linkOk t3 u = true) ∧ Ext w3 wr) (fun _ i _ => t3.links.length - (intOf i).toNat)
          case atStart => exact ⟨0, [], by omega, rfl, HZ.out, ⟨by simp, by simp⟩, e5⟩
          case round =>
           obtain ⟨k, l, hk, rfl, hl5, ⟨hll, hlo⟩, he⟩ := hrel;have HLO := Lib.hid hlo; clear hlo;obtain ⟨av, nv, cv, hvv⟩ := hl5.slice;subst hvv;obtain ⟨hnv, -⟩ := NO.row hl5;subst hnv;have HL5 := Lib.hid hl5; clear hl5;have zr5 := he.size;by_cases hlk : k < t3.links.length
           · obtain ⟨bk, off, hA, hbk, hkl, hc⟩ := (LinkSO_rd H1.out).at_ hlk
             generalize t3.links[k] = u at *
             subst hA;obtain ⟨hu_0, hu_1, hu_2, hu_3, hu_4⟩ := hc
             have k0 : (0 : Int) ≤ (k : Int) := by omega
             have k1 : (k : Int) < (t3.links.length : Int) := by omega
             have hbr : bk < wr.heap.size := by omega
             obtain ⟨ku_0, ku_1, ku_2, ku_3, ku_4⟩ := And.intro ((Ext.cell (a := w3) (b := wr) xe hbk).trans hu_0) (And.intro ((Ext.cell (a := w3) (b := wr) xe hbk).trans hu_1) (And.intro ((Ext.cell (a := w3) (b := wr) xe hbk).trans hu_2) (And.intro ((Ext.cell (a := w3) (b := wr) xe hbk).trans hu_3) ((Ext.cell (a := w3) (b := wr) xe hbk).trans hu_4))));have HTV := Lib.hid (topoV H0.out H1.out);have b0 := HB.out.ext (w' := wr) xe;have lb0 := b0.lt;obtain ⟨qb0_0, qb0_1⟩ := blk2 b0;have fb0_0 := b0.frozen 0;have fb0_1 := b0.frozen 1;clear b0;cases hok : linkOk t3 u
             · have HOK := Lib.hid hok; clear hok
               go_wp2_with fail
               refine wp_region_L (E := Ext) (w0 := wr) (G := fun τ => match τ with | 141 => some (fun v W => v = .bool false) | _ => none) Ext.refl (fun h k => Ext.trans h k) (by kernel_rfl) (by kernel_rfl) xg (Ext.drew (by exact Ext.refl _)) ?_
               repeat' (first
                | ((with_reducible refine wpL_skip ?_ ?_ ?_)
                   · rfl
                   · rfl
                   simp only [putS])
                | ((with_reducible refine wpL_quiet ?_ ?_ ?_ ?_)
                   · rfl
                   · rfl
                   · rfl
                   apply Exists.intro
                   refine ⟨fun W hW hS => ?_, ?_⟩
                   · have hC := (Ext.facts hW).1
                     go_simp
                     first | done | (with_reducible rfl) | (rw [if_neg (by omega)]; exact ⟨rfl, rfl⟩) | rfl
                   first | (with_reducible refine wpL_boolT ?_) | (with_reducible refine wpL_boolF ?_) | (with_reducible refine wpL_bool (fun hB => ?_) (fun hB => ?_)) | skip
                   all_goals simp only [putS])
                | ((refine wpL_call ?_ rfl rfl ?_ ?_ ?_)
                   · rfl
                   · rfl
                   · intro W hW hS
                     have hC := (Ext.facts hW).1;unfold growAt
                     go_simp
                     simp only [growUpon]
                     first | (go_at_call 110; (with_reducible refine Calls.mono (spec_l5LinkOk _ u t3 _ (by exact HTV.out.ext xe)) ?_); rintro e w9 ⟨rfl, e9⟩; exact ⟨_, rfl, e9, by rw [HOK.out]⟩)
                   first | (with_reducible refine wpL_boolT ?_) | (with_reducible refine wpL_boolF ?_) | (with_reducible refine wpL_bool (fun hB => ?_) (fun hB => ?_)) | skip
                   all_goals simp only [putS])
                | ((refine wpL_grow ?_ rfl rfl ?_ ?_)
                   · rfl
                   · intro W hW hS
                     have hC := (Ext.facts hW).1;unfold growAt
                     go_simp
                     simp only [growUpon]
                     first | (go_at_call 110; (with_reducible refine Calls.mono (spec_l5LinkOk _ u t3 _ (by exact HTV.out.ext xe)) ?_); rintro e w9 ⟨rfl, e9⟩; exact ⟨_, rfl, e9, by rw [HOK.out]⟩)
                   intro v W' hW' hv
                   first | (subst hv) | (obtain ⟨A5, n5, c5, rfl, -⟩ := id hv; clear hv) | (obtain ⟨A5, n5, c5, rfl⟩ := NO.slice hv) | skip
                   all_goals simp only [putS]))
               refine wpL_nil (fun w6 e6 hL => ?_);clear hL;go_wp2_with fail
               go_roundw
               case rel => exact ⟨k + 1, l, by omega, by go_num, Own.more (Own.ext HL5.out e6 (Nat.le_refl _)) (Nat.le_refl _) e6.size, ⟨by omega, HLO.out⟩, xe⟩
               case measure => first | (simp [intOf]; done) | (simp [intOf]; omega)
             · have HOK := Lib.hid hok; clear hok
               go_wp2_with fail
               refine wp_region_L (E := Ext) (w0 := wr) (G := fun τ => match τ with | 141 => some (fun v W => v = .bool true) | _ => none) Ext.refl (fun h k => Ext.trans h k) (by kernel_rfl) (by kernel_rfl) xg (Ext.drew (by exact Ext.refl _)) ?_
               repeat' (first
                | ((with_reducible refine wpL_skip ?_ ?_ ?_)
                   · rfl
                   · rfl
                   simp only [putS])
                | ((with_reducible refine wpL_quiet ?_ ?_ ?_ ?_)
                   · rfl
                   · rfl
                   · rfl
                   apply Exists.intro
                   refine ⟨fun W hW hS => ?_, ?_⟩
                   · have hC := (Ext.facts hW).1
                     go_simp
                     first | done | (with_reducible rfl) | (rw [if_neg (by omega)]; exact ⟨rfl, rfl⟩) | rfl
                   first | (with_reducible refine wpL_boolT ?_) | (with_reducible refine wpL_boolF ?_) | (with_reducible refine wpL_bool (fun hB => ?_) (fun hB => ?_)) | skip
                   all_goals simp only [putS])
                | ((refine wpL_call ?_ rfl rfl ?_ ?_ ?_)
                   · rfl
                   · rfl
                   · intro W hW hS
                     have hC := (Ext.facts hW).1;unfold growAt
                     go_simp
                     simp only [growUpon]
                     first | (go_at_call 110; (with_reducible refine Calls.mono (spec_l5LinkOk _ u t3 _ (by exact HTV.out.ext xe)) ?_); rintro e w9 ⟨rfl, e9⟩; exact ⟨_, rfl, e9, by rw [HOK.out]⟩)
                   first | (with_reducible refine wpL_boolT ?_) | (with_reducible refine wpL_boolF ?_) | (with_reducible refine wpL_bool (fun hB => ?_) (fun hB => ?_)) | skip
                   all_goals simp only [putS])
                | ((refine wpL_grow ?_ rfl rfl ?_ ?_)
                   · rfl
                   · intro W hW hS
                     have hC := (Ext.facts hW).1;unfold growAt
                     go_simp
                     simp only [growUpon]
                     first | (go_at_call 110; (with_reducible refine Calls.mono (spec_l5LinkOk _ u t3 _ (by exact HTV.out.ext xe)) ?_); rintro e w9 ⟨rfl, e9⟩; exact ⟨_, rfl, e9, by rw [HOK.out]⟩)
                   intro v W' hW' hv
                   first | (subst hv) | (obtain ⟨A5, n5, c5, rfl, -⟩ := id hv; clear hv) | (obtain ⟨A5, n5, c5, rfl⟩ := NO.slice hv) | skip
                   all_goals simp only [putS]))
               refine wpL_nil (fun w6 e6 hL => ?_);clear hL ku_0 ku_1 ku_2 ku_3 ku_4 lb0 qb0_0 qb0_1 fb0_0 fb0_1;have z6 := e6.size;obtain ⟨ku_0, ku_1, ku_2, ku_3, ku_4⟩ := And.intro ((Ext.cell (a := w3) (b := w6) xe hbk).trans hu_0) (And.intro ((Ext.cell (a := w3) (b := w6) xe hbk).trans hu_1) (And.intro ((Ext.cell (a := w3) (b := w6) xe hbk).trans hu_2) (And.intro ((Ext.cell (a := w3) (b := w6) xe hbk).trans hu_3) ((Ext.cell (a := w3) (b := w6) xe hbk).trans hu_4))));have b0 := HB.out.ext (w' := w6) xe;have lb0 := b0.lt;obtain ⟨qb0_0, qb0_1⟩ := blk2 b0;have fb0_0 := b0.frozen 0;have fb0_1 := b0.frozen 1;clear b0;go_wp2_with (at_builtin; refine hold ?_)
               refine unhold (wpList_appL w3.heap.size rfl (.tmp 142) (.tmp 148) _ rfl 125 _ 5 40 Tryz.underlying25 info_Link rfl (by omega) (.slice av l.length cv) l.length (l.flatMap LinkC) rfl _ 1 1 _ rfl (by exact (Own.ext HL5.out (w' := w6.alloc _) xe (Nat.le_refl _)).lt_size) (row_one _ _ _ _ _ (by first | rfl | simp) rfl) (one_Link [u]) (by simp only [World.size_alloc]; omega) (by unfold maxLen; omega) (by omega) ?_);intro v8 w8 o8 hg8
               have h57 := (Own.ext HL5.out (w' := w6.alloc (.cells #[I u.a, I u.ai, I u.b, I u.bi, I u.kind] 125)) xe (Nat.le_refl _))
               have E8 := Lib.hid (Ext.grownB (a := w3) (w := w6.alloc (.cells #[I u.a, I u.ai, I u.b, I u.bi, I u.kind] 125)) xe h57 hg8 (Nat.le_refl _))
               have o9 : LinkSO w3.heap.size w8.heap.size w8 v8 (l ++ [u]) := by
                unfold LinkSO;rw [List.length_append, List.length_singleton, List.flatMap_append];exact o8
               have O9 := Lib.hid o9; clear o8 o9 hg8 h57;go_wp2_with (at_builtin; refine hold ?_)
               go_roundw
               case rel => exact ⟨k + 1, l ++ [u], by omega, by go_num, O9.out, ⟨by simp; omega, fun y hy => by rcases List.mem_append.1 hy with hy | hy; exact HLO.out y hy; (have e : y = u := by simpa using hy); subst e; exact HOK.out⟩, E8.out⟩
               case measure => first | (simp [intOf]; done) | (simp [intOf]; omega)
           · obtain rfl : k = t3.links.length := by omega
             have k1 : ¬ (t3.links.length : Int) < (t3.links.length : Int) := by omega
             have BRr := Lib.hid ((BR.out.d hd3 (by omega)).ext he);have b0 := HB.out.ext (w' := wr) xe;have lb0 := b0.lt;obtain ⟨qb0_0, qb0_1⟩ := blk2 b0;have fb0_0 := b0.frozen 0;have fb0_1 := b0.frozen 1;clear b0;have b9 := BRr.out.ext (w' := wr) xe;have lb9 := b9.lt;obtain ⟨qb9_0, qb9_1⟩ := blk2 b9;have fb9_0 := b9.frozen 0;have fb9_1 := b9.frozen 1;clear b9;go_wp2_with fail
             refine bodyPost_ret (v := .agg #[.slice A0 t3.ases.length q0, .slice av l.length cv]) (by simp [results, Tryz.results71, go_sem, *]) rfl ⟨_, rfl, ⟨⟨t3.ases, l⟩, ⟨_, _, w3.heap.size, rfl, ?_, ?_, by omega, by simp only [World.size_setCell]; omega⟩, ?_⟩, ?_⟩
             · exact Own.more (Own.setCell (Own.setCell (Own.setCell (Own.ext H0.out he (Nat.le_refl _)) (.inl (by dsimp only; omega)) _) (.inl (by dsimp only; omega)) _) (.inl (by dsimp only; omega)) _) (by omega) (Nat.le_refl _)
             · simp only [World.size_setCell]
               exact Own.setCell (Own.setCell (Own.setCell HL5.out (.inl (by dsimp only; omega)) _) (.inl (by dsimp only; omega)) _) (.inl (by dsimp only; omega)) _
             · have h9 := HTA3.out
               exact ⟨⟨by dsimp only; omega, by dsimp only; omega, by dsimp only; omega, h9.2⟩, fun u hu => HLO.out u hu⟩
             · exact D.setNew (D.setNew (D.setNew (D.trans da (D.trans hd3 (D.of_ext he hg3))) hgw (by dsimp only; omega) _) hgw (by dsimp only; omega) _) hgw (by dsimp only; omega) _
end Go.Proofs.YtmopmgaeiokfjaaGreat
