/- Contracts of the program's and the reference's functions on trust roots: IsInitialRoot, IsSuccessor. -/
import Derived.Test.YtddaodemdkjijaaGreatGL18
namespace Go.Proofs.YtddaodemdkjijaaGreat
open Go.RowKit
set_option linter.unusedVariables false
def isInitial (t : DTopology) (x : DTrustRoot) : Bool := validRoot t x && (x.version == 1 && signers t x.sigs x.voters (rootData x) == x.voters)
def isSucc (t : DTopology) (a b : DTrustRoot) : Bool :=
  validRoot t b && (b.isd == a.isd && (b.version == IntKind.i64.wrap (a.version + 1) && (inR b.notBefore a.notBefore a.notAfter && decide (a.quorum ≤ ((elements (signers t b.sigs a.voters (rootData b))).length : Nat)))))
set_option maxRecDepth 100000 in
set_option maxHeartbeats 1000000 in
theorem impl_IsInitialRoot (vt vx : Value) (t : DTopology) (x : DTrustRoot) (w : World) (ht : TopologyV w.heap.size w vt t) (hx : TrustRootV w.heap.size w vx x) :
    Calls Tryz.prog 34 #[vt, vx] w fun e w' => e = .returned (.bool (isInitial t x)) ∧ Ext w w' := by
  obtain ⟨At_0, nt_0, ct_0, At_1, nt_1, ct_1, rfl, st_0, st_1⟩ := id ht
  obtain ⟨lt_0, kt_0, mt_0⟩ := st_0.len
  subst lt_0
  unfold maxLen at mt_0
  obtain ⟨lt_1, kt_1, mt_1⟩ := st_1.len
  subst lt_1
  unfold maxLen at mt_1
  have Rt := Lib.hid ht; clear ht
  have St_0 := Lib.hid st_0; clear st_0
  have St_1 := Lib.hid st_1; clear st_1
  obtain ⟨Ax_6, nx_6, cx_6, rfl, sx_6⟩ := id hx
  obtain ⟨lx_6, kx_6, mx_6⟩ := sx_6.len
  subst lx_6
  unfold maxLen at mx_6
  have Rx := Lib.hid hx; clear hx
  have Sx_6 := Lib.hid sx_6; clear sx_6
  have hq : (rootData x).length = 6 := rfl
  go_enter Tryz.func34, Tryz.ntmps34
  go_wp2_with fail
  first | refine name_wp ?_ ?_ ?_ | refine name_calls ?_ ?_ ?_
  exact (fun W => Ext w W ∧ Blk W (w.heap.size) 27 [.slice At_0 t.ases.length ct_0, .slice At_1 t.links.length ct_1] ∧ Blk W (w.heap.size + 1) 64 [I x.isd, I x.version, I x.notBefore, I x.notAfter, I x.voters, I x.quorum, .slice Ax_6 x.sigs.length cx_6])
  exact ⟨xe, xb, xb⟩
  rintro w0 ⟨ew0, bt, bx⟩
  have lt := bt.lt
  obtain ⟨pt_0, pt_1⟩ := blk2 bt
  have Bt := Lib.hid bt; clear bt
  have lx := bx.lt
  obtain ⟨px_0, px_1, px_2, px_3, px_4, px_5, px_6⟩ := blk7 bx
  have Bx := Lib.hid bx; clear bx
  refine wp_region_L (E := Ext) (w0 := w0) (G := fun τ => match τ with | 7 => some (fun v _ => v = .bool (validRoot t x)) | 20 => some (fun v W => IntS W.heap.size W v (rootData x)) | 21 => some (fun v _ => v = I (signers t x.sigs x.voters (rootData x))) | _ => none) Ext.refl (fun h k => Ext.trans h k) (by kernel_rfl) (by kernel_rfl) xg (Ext.drew (by exact Ext.refl _)) ?_
  repeat' (first
    | ((with_reducible refine wpL_skip ?_ ?_ ?_)
       · rfl
       · rfl
       simp only [Act.put, List.setIfInBounds_toArray, List.set_cons_zero, List.set_cons_succ])
    | ((with_reducible refine wpL_quiet ?_ ?_ ?_ ?_)
       · rfl
       · rfl
       · rfl
       apply Exists.intro
       refine ⟨fun W hW hS => ?_, ?_⟩
       · have hC := (Ext.facts hW).1
         go_simp
         first | done | (with_reducible rfl) | (rw [if_neg (by omega)]; exact ⟨rfl, rfl⟩) | rfl
       first | (with_reducible refine wpL_boolT ?_) | (with_reducible refine wpL_boolF ?_) | (with_reducible refine wpL_bool (fun hB => ?_) (fun hB => ?_)) | skip
       all_goals simp only [Act.put, List.setIfInBounds_toArray, List.set_cons_zero, List.set_cons_succ])
    | ((refine wpL_call ?_ rfl rfl ?_ ?_ ?_)
       · rfl
       · rfl
       · intro W hW hS
         have hC := (Ext.facts hW).1
         unfold growAt
         go_simp
         simp only [growUpon]
         first | (go_at_call 73; ((with_reducible refine Calls.mono (impl_ValidRoot _ _ (t) (x) _ (by exact Rt.out.ext xe) (by exact Rx.out.ext xe)) ?_)); rintro e w9 ⟨rfl, e9⟩; exact ⟨_, rfl, e9, by first | rfl | (simp only [*])⟩) | (go_at_call 75; ((with_reducible refine Calls.mono (impl_RootData _ (x) _ (by exact Rx.out.ext xe)) ?_)); rintro e w9 ⟨v9, rfl, o9, e9⟩; exact ⟨_, rfl, e9, IntSO_rd o9⟩) | (go_at_call 74; have hs20 : IntS W.heap.size W _ (rootData x) := hS 20 (by decide); ((with_reducible refine Calls.mono (impl_Signers _ _ _ _ (t) (x.sigs) (rootData x) _ (by exact Rt.out.ext xe) (by exact Sx_6.out.ext xe) (by exact hs20) (by first | omega | (simp [rootData]; done) | (simp [certData]; done) | (simp only [List.length_cons, List.length_nil]; omega))) ?_)); rintro e w9 ⟨rfl, e9⟩; exact ⟨_, rfl, e9, by first | rfl | (simp only [*])⟩)
       first | (with_reducible refine wpL_boolT ?_) | (with_reducible refine wpL_boolF ?_) | (with_reducible refine wpL_bool (fun hB => ?_) (fun hB => ?_)) | skip
       all_goals simp only [Act.put, List.setIfInBounds_toArray, List.set_cons_zero, List.set_cons_succ])
    | ((refine wpL_grow ?_ rfl rfl ?_ ?_)
       · rfl
       · intro W hW hS
         have hC := (Ext.facts hW).1
         unfold growAt
         go_simp
         simp only [growUpon]
         first | (go_at_call 73; ((with_reducible refine Calls.mono (impl_ValidRoot _ _ (t) (x) _ (by exact Rt.out.ext xe) (by exact Rx.out.ext xe)) ?_)); rintro e w9 ⟨rfl, e9⟩; exact ⟨_, rfl, e9, by first | rfl | (simp only [*])⟩) | (go_at_call 75; ((with_reducible refine Calls.mono (impl_RootData _ (x) _ (by exact Rx.out.ext xe)) ?_)); rintro e w9 ⟨v9, rfl, o9, e9⟩; exact ⟨_, rfl, e9, IntSO_rd o9⟩) | (go_at_call 74; have hs20 : IntS W.heap.size W _ (rootData x) := hS 20 (by decide); ((with_reducible refine Calls.mono (impl_Signers _ _ _ _ (t) (x.sigs) (rootData x) _ (by exact Rt.out.ext xe) (by exact Sx_6.out.ext xe) (by exact hs20) (by first | omega | (simp [rootData]; done) | (simp [certData]; done) | (simp only [List.length_cons, List.length_nil]; omega))) ?_)); rintro e w9 ⟨rfl, e9⟩; exact ⟨_, rfl, e9, by first | rfl | (simp only [*])⟩)
       intro v W' hW' hv
       first  | (obtain ⟨A5, n5, c5, rfl, -⟩ := id hv; clear hv) | (obtain ⟨A5, n5, c5, rfl⟩ := NO.slice hv) | skip
       all_goals simp only [Act.put, List.setIfInBounds_toArray, List.set_cons_zero, List.set_cons_succ]))
  all_goals (refine wpL_nil (fun w1 e1 hL => ?_); clear hL)
  all_goals (go_wp2_with fail; go_ret; exact ⟨ret_bool (by simp [isInitial, *]), xe⟩)
set_option maxRecDepth 100000 in
set_option maxHeartbeats 1000000 in
theorem spec_IsInitialRoot (vt vx : Value) (t : DTopology) (x : DTrustRoot) (w : World) (ht : TopologyV w.heap.size w vt t) (hx : TrustRootV w.heap.size w vx x) :
    Calls Tryz.prog 65 #[vt, vx] w fun e w' => e = .returned (.bool (isInitial t x)) ∧ Ext w w' := by
  obtain ⟨At_0, nt_0, ct_0, At_1, nt_1, ct_1, rfl, st_0, st_1⟩ := id ht
  obtain ⟨lt_0, kt_0, mt_0⟩ := st_0.len
  subst lt_0
  unfold maxLen at mt_0
  obtain ⟨lt_1, kt_1, mt_1⟩ := st_1.len
  subst lt_1
  unfold maxLen at mt_1
  have Rt := Lib.hid ht; clear ht
  have St_0 := Lib.hid st_0; clear st_0
  have St_1 := Lib.hid st_1; clear st_1
  obtain ⟨Ax_6, nx_6, cx_6, rfl, sx_6⟩ := id hx
  obtain ⟨lx_6, kx_6, mx_6⟩ := sx_6.len
  subst lx_6
  unfold maxLen at mx_6
  have Rx := Lib.hid hx; clear hx
  have Sx_6 := Lib.hid sx_6; clear sx_6
  have hq : (rootData x).length = 6 := rfl
  go_enter Tryz.func65, Tryz.ntmps65
  go_wp2_with fail
  first | refine name_wp ?_ ?_ ?_ | refine name_calls ?_ ?_ ?_
  exact (fun W => Ext w W ∧ Blk W (w.heap.size) 27 [.slice At_0 t.ases.length ct_0, .slice At_1 t.links.length ct_1] ∧ Blk W (w.heap.size + 1) 64 [I x.isd, I x.version, I x.notBefore, I x.notAfter, I x.voters, I x.quorum, .slice Ax_6 x.sigs.length cx_6])
  exact ⟨xe, xb, xb⟩
  rintro w0 ⟨ew0, bt, bx⟩
  have lt := bt.lt
  obtain ⟨pt_0, pt_1⟩ := blk2 bt
  have Bt := Lib.hid bt; clear bt
  have lx := bx.lt
  obtain ⟨px_0, px_1, px_2, px_3, px_4, px_5, px_6⟩ := blk7 bx
  have Bx := Lib.hid bx; clear bx
  refine wp_region_L (E := Ext) (w0 := w0) (G := fun τ => match τ with | 7 => some (fun v _ => v = .bool (validRoot t x)) | 20 => some (fun v W => IntS W.heap.size W v (rootData x)) | 21 => some (fun v _ => v = I (signers t x.sigs x.voters (rootData x))) | _ => none) Ext.refl (fun h k => Ext.trans h k) (by kernel_rfl) (by kernel_rfl) xg (Ext.drew (by exact Ext.refl _)) ?_
  repeat' (first
    | ((with_reducible refine wpL_skip ?_ ?_ ?_)
       · rfl
       · rfl
       simp only [Act.put, List.setIfInBounds_toArray, List.set_cons_zero, List.set_cons_succ])
    | ((with_reducible refine wpL_quiet ?_ ?_ ?_ ?_)
       · rfl
       · rfl
       · rfl
       apply Exists.intro
       refine ⟨fun W hW hS => ?_, ?_⟩
       · have hC := (Ext.facts hW).1
         go_simp
         first | done | (with_reducible rfl) | (rw [if_neg (by omega)]; exact ⟨rfl, rfl⟩) | rfl
       first | (with_reducible refine wpL_boolT ?_) | (with_reducible refine wpL_boolF ?_) | (with_reducible refine wpL_bool (fun hB => ?_) (fun hB => ?_)) | skip
       all_goals simp only [Act.put, List.setIfInBounds_toArray, List.set_cons_zero, List.set_cons_succ])
    | ((refine wpL_call ?_ rfl rfl ?_ ?_ ?_)
       · rfl
       · rfl
       · intro W hW hS
         have hC := (Ext.facts hW).1
         unfold growAt
         go_simp
         simp only [growUpon]
         first | (go_at_call 103; ((with_reducible refine Calls.mono (spec_ValidRoot _ _ (t) (x) _ (by exact Rt.out.ext xe) (by exact Rx.out.ext xe)) ?_)); rintro e w9 ⟨rfl, e9⟩; exact ⟨_, rfl, e9, by first | rfl | (simp only [*])⟩) | (go_at_call 105; ((with_reducible refine Calls.mono (spec_RootData _ (x) _ (by exact Rx.out.ext xe)) ?_)); rintro e w9 ⟨v9, rfl, o9, e9⟩; exact ⟨_, rfl, e9, IntSO_rd o9⟩) | (go_at_call 104; have hs20 : IntS W.heap.size W _ (rootData x) := hS 20 (by decide); ((with_reducible refine Calls.mono (spec_Signers _ _ _ _ (t) (x.sigs) (rootData x) _ (by exact Rt.out.ext xe) (by exact Sx_6.out.ext xe) (by exact hs20) (by first | omega | (simp [rootData]; done) | (simp [certData]; done) | (simp only [List.length_cons, List.length_nil]; omega))) ?_)); rintro e w9 ⟨rfl, e9⟩; exact ⟨_, rfl, e9, by first | rfl | (simp only [*])⟩)
       first | (with_reducible refine wpL_boolT ?_) | (with_reducible refine wpL_boolF ?_) | (with_reducible refine wpL_bool (fun hB => ?_) (fun hB => ?_)) | skip
       all_goals simp only [Act.put, List.setIfInBounds_toArray, List.set_cons_zero, List.set_cons_succ])
    | ((refine wpL_grow ?_ rfl rfl ?_ ?_)
       · rfl
       · intro W hW hS
         have hC := (Ext.facts hW).1
         unfold growAt
         go_simp
         simp only [growUpon]
         first | (go_at_call 103; ((with_reducible refine Calls.mono (spec_ValidRoot _ _ (t) (x) _ (by exact Rt.out.ext xe) (by exact Rx.out.ext xe)) ?_)); rintro e w9 ⟨rfl, e9⟩; exact ⟨_, rfl, e9, by first | rfl | (simp only [*])⟩) | (go_at_call 105; ((with_reducible refine Calls.mono (spec_RootData _ (x) _ (by exact Rx.out.ext xe)) ?_)); rintro e w9 ⟨v9, rfl, o9, e9⟩; exact ⟨_, rfl, e9, IntSO_rd o9⟩) | (go_at_call 104; have hs20 : IntS W.heap.size W _ (rootData x) := hS 20 (by decide); ((with_reducible refine Calls.mono (spec_Signers _ _ _ _ (t) (x.sigs) (rootData x) _ (by exact Rt.out.ext xe) (by exact Sx_6.out.ext xe) (by exact hs20) (by first | omega | (simp [rootData]; done) | (simp [certData]; done) | (simp only [List.length_cons, List.length_nil]; omega))) ?_)); rintro e w9 ⟨rfl, e9⟩; exact ⟨_, rfl, e9, by first | rfl | (simp only [*])⟩)
       intro v W' hW' hv
       first  | (obtain ⟨A5, n5, c5, rfl, -⟩ := id hv; clear hv) | (obtain ⟨A5, n5, c5, rfl⟩ := NO.slice hv) | skip
       all_goals simp only [Act.put, List.setIfInBounds_toArray, List.set_cons_zero, List.set_cons_succ]))
  all_goals (refine wpL_nil (fun w1 e1 hL => ?_); clear hL)
  all_goals (go_wp2_with fail; go_ret; exact ⟨ret_bool (by simp [isInitial, *]), xe⟩)
set_option maxRecDepth 100000 in
set_option maxHeartbeats 1000000 in
theorem impl_IsSuccessor (vt va vb : Value) (t : DTopology) (a b : DTrustRoot) (w : World) (ht : TopologyV w.heap.size w vt t) (ha : TrustRootV w.heap.size w va a) (hb : TrustRootV w.heap.size w vb b) :
    Calls Tryz.prog 35 #[vt, va, vb] w fun e w' => e = .returned (.bool (isSucc t a b)) ∧ Ext w w' := by
  obtain ⟨At_0, nt_0, ct_0, At_1, nt_1, ct_1, rfl, st_0, st_1⟩ := id ht
  obtain ⟨lt_0, kt_0, mt_0⟩ := st_0.len
  subst lt_0
  unfold maxLen at mt_0
  obtain ⟨lt_1, kt_1, mt_1⟩ := st_1.len
  subst lt_1
  unfold maxLen at mt_1
  have Rt := Lib.hid ht; clear ht
  have St_0 := Lib.hid st_0; clear st_0
  have St_1 := Lib.hid st_1; clear st_1
  obtain ⟨Aa_6, na_6, ca_6, rfl, sa_6⟩ := id ha
  obtain ⟨la_6, ka_6, ma_6⟩ := sa_6.len
  subst la_6
  unfold maxLen at ma_6
  have Ra := Lib.hid ha; clear ha
  have Sa_6 := Lib.hid sa_6; clear sa_6
  obtain ⟨Ab_6, nb_6, cb_6, rfl, sb_6⟩ := id hb
  obtain ⟨lb_6, kb_6, mb_6⟩ := sb_6.len
  subst lb_6
  unfold maxLen at mb_6
  have Rb := Lib.hid hb; clear hb
  have Sb_6 := Lib.hid sb_6; clear sb_6
  have hq : (rootData b).length = 6 := rfl
  go_enter Tryz.func35, Tryz.ntmps35
  go_wp2_with fail
  first | refine name_wp ?_ ?_ ?_ | refine name_calls ?_ ?_ ?_
  exact (fun W => Ext w W ∧ Blk W (w.heap.size) 27 [.slice At_0 t.ases.length ct_0, .slice At_1 t.links.length ct_1] ∧ Blk W (w.heap.size + 1) 64 [I a.isd, I a.version, I a.notBefore, I a.notAfter, I a.voters, I a.quorum, .slice Aa_6 a.sigs.length ca_6] ∧ Blk W (w.heap.size + 2) 64 [I b.isd, I b.version, I b.notBefore, I b.notAfter, I b.voters, I b.quorum, .slice Ab_6 b.sigs.length cb_6])
  exact ⟨xe, xb, xb, xb⟩
  rintro w0 ⟨ew0, bt, ba, bb⟩
  have lt := bt.lt
  obtain ⟨pt_0, pt_1⟩ := blk2 bt
  have Bt := Lib.hid bt; clear bt
  have la := ba.lt
  obtain ⟨pa_0, pa_1, pa_2, pa_3, pa_4, pa_5, pa_6⟩ := blk7 ba
  have Ba := Lib.hid ba; clear ba
  have lb := bb.lt
  obtain ⟨pb_0, pb_1, pb_2, pb_3, pb_4, pb_5, pb_6⟩ := blk7 bb
  have Bb := Lib.hid bb; clear bb
  refine wp_region_L (E := Ext) (w0 := w0) (G := fun τ => match τ with | 9 => some (fun v _ => v = .bool (validRoot t b)) | 32 => some (fun v _ => v = .bool (inR b.notBefore a.notBefore a.notAfter)) | 41 => some (fun v W => IntS W.heap.size W v (rootData b)) | 42 => some (fun v _ => v = I (signers t b.sigs a.voters (rootData b))) | 43 => some (fun v _ => v = I (((elements (signers t b.sigs a.voters (rootData b))).length : Nat))) | _ => none) Ext.refl (fun h k => Ext.trans h k) (by kernel_rfl) (by kernel_rfl) xg (Ext.drew (by exact Ext.refl _)) ?_
  repeat' (first
    | ((with_reducible refine wpL_skip ?_ ?_ ?_)
       · rfl
       · rfl
       simp only [Act.put, List.setIfInBounds_toArray, List.set_cons_zero, List.set_cons_succ])
    | ((with_reducible refine wpL_quiet ?_ ?_ ?_ ?_)
       · rfl
       · rfl
       · rfl
       apply Exists.intro
       refine ⟨fun W hW hS => ?_, ?_⟩
       · have hC := (Ext.facts hW).1
         go_simp
         first | done | (with_reducible rfl) | (rw [if_neg (by omega)]; exact ⟨rfl, rfl⟩) | rfl
       first | (with_reducible refine wpL_boolT ?_) | (with_reducible refine wpL_boolF ?_) | (with_reducible refine wpL_bool (fun hB => ?_) (fun hB => ?_)) | skip
       all_goals simp only [Act.put, List.setIfInBounds_toArray, List.set_cons_zero, List.set_cons_succ])
    | ((refine wpL_call ?_ rfl rfl ?_ ?_ ?_)
       · rfl
       · rfl
       · intro W hW hS
         have hC := (Ext.facts hW).1
         unfold growAt
         go_simp
         simp only [growUpon]
         first | (go_at_call 73; ((with_reducible refine Calls.mono (impl_ValidRoot _ _ (t) (b) _ (by exact Rt.out.ext xe) (by exact Rb.out.ext xe)) ?_)); rintro e w9 ⟨rfl, e9⟩; exact ⟨_, rfl, e9, by first | rfl | (simp only [*])⟩) | (go_at_call 60; ((with_reducible refine Calls.mono (impl_InRange _ _ _ _) ?_)); rintro e w9 ⟨rfl, rfl⟩; exact ⟨_, rfl, Ext.refl _, by first | rfl | (simp only [*])⟩) | (go_at_call 75; ((with_reducible refine Calls.mono (impl_RootData _ (b) _ (by exact Rb.out.ext xe)) ?_)); rintro e w9 ⟨v9, rfl, o9, e9⟩; exact ⟨_, rfl, e9, IntSO_rd o9⟩) | (go_at_call 74; have hs41 : IntS W.heap.size W _ (rootData b) := hS 41 (by decide); ((with_reducible refine Calls.mono (impl_Signers _ _ _ _ (t) (b.sigs) (rootData b) _ (by exact Rt.out.ext xe) (by exact Sb_6.out.ext xe) (by exact hs41) (by first | omega | (simp [rootData]; done) | (simp [certData]; done) | (simp only [List.length_cons, List.length_nil]; omega))) ?_)); rintro e w9 ⟨rfl, e9⟩; exact ⟨_, rfl, e9, by first | rfl | (simp only [*])⟩) | (go_at_call 76; ((with_reducible refine Calls.mono (impl_SetSize _ _) ?_)); rintro e w9 ⟨rfl, e9⟩; exact ⟨_, rfl, e9, by first | rfl | (simp only [*])⟩)
       first | (with_reducible refine wpL_boolT ?_) | (with_reducible refine wpL_boolF ?_) | (with_reducible refine wpL_bool (fun hB => ?_) (fun hB => ?_)) | skip
       all_goals simp only [Act.put, List.setIfInBounds_toArray, List.set_cons_zero, List.set_cons_succ])
    | ((refine wpL_grow ?_ rfl rfl ?_ ?_)
       · rfl
       · intro W hW hS
         have hC := (Ext.facts hW).1
         unfold growAt
         go_simp
         simp only [growUpon]
         first | (go_at_call 73; ((with_reducible refine Calls.mono (impl_ValidRoot _ _ (t) (b) _ (by exact Rt.out.ext xe) (by exact Rb.out.ext xe)) ?_)); rintro e w9 ⟨rfl, e9⟩; exact ⟨_, rfl, e9, by first | rfl | (simp only [*])⟩) | (go_at_call 60; ((with_reducible refine Calls.mono (impl_InRange _ _ _ _) ?_)); rintro e w9 ⟨rfl, rfl⟩; exact ⟨_, rfl, Ext.refl _, by first | rfl | (simp only [*])⟩) | (go_at_call 75; ((with_reducible refine Calls.mono (impl_RootData _ (b) _ (by exact Rb.out.ext xe)) ?_)); rintro e w9 ⟨v9, rfl, o9, e9⟩; exact ⟨_, rfl, e9, IntSO_rd o9⟩) | (go_at_call 74; have hs41 : IntS W.heap.size W _ (rootData b) := hS 41 (by decide); ((with_reducible refine Calls.mono (impl_Signers _ _ _ _ (t) (b.sigs) (rootData b) _ (by exact Rt.out.ext xe) (by exact Sb_6.out.ext xe) (by exact hs41) (by first | omega | (simp [rootData]; done) | (simp [certData]; done) | (simp only [List.length_cons, List.length_nil]; omega))) ?_)); rintro e w9 ⟨rfl, e9⟩; exact ⟨_, rfl, e9, by first | rfl | (simp only [*])⟩) | (go_at_call 76; ((with_reducible refine Calls.mono (impl_SetSize _ _) ?_)); rintro e w9 ⟨rfl, e9⟩; exact ⟨_, rfl, e9, by first | rfl | (simp only [*])⟩)
       intro v W' hW' hv
       first  | (obtain ⟨A5, n5, c5, rfl, -⟩ := id hv; clear hv) | (obtain ⟨A5, n5, c5, rfl⟩ := NO.slice hv) | skip
       all_goals simp only [Act.put, List.setIfInBounds_toArray, List.set_cons_zero, List.set_cons_succ]))
  all_goals (refine wpL_nil (fun w1 e1 hL => ?_); clear hL)
  all_goals (go_wp2_with fail; go_ret; exact ⟨ret_bool (by first | (simp_all [isSucc, inR]; done) | (simp_all [isSucc, inR]; intros; omega)), xe⟩)
set_option maxRecDepth 100000 in
set_option maxHeartbeats 1000000 in
theorem spec_IsSuccessor (vt va vb : Value) (t : DTopology) (a b : DTrustRoot) (w : World) (ht : TopologyV w.heap.size w vt t) (ha : TrustRootV w.heap.size w va a) (hb : TrustRootV w.heap.size w vb b) :
    Calls Tryz.prog 66 #[vt, va, vb] w fun e w' => e = .returned (.bool (isSucc t a b)) ∧ Ext w w' := by
  obtain ⟨At_0, nt_0, ct_0, At_1, nt_1, ct_1, rfl, st_0, st_1⟩ := id ht
  obtain ⟨lt_0, kt_0, mt_0⟩ := st_0.len
  subst lt_0
  unfold maxLen at mt_0
  obtain ⟨lt_1, kt_1, mt_1⟩ := st_1.len
  subst lt_1
  unfold maxLen at mt_1
  have Rt := Lib.hid ht; clear ht
  have St_0 := Lib.hid st_0; clear st_0
  have St_1 := Lib.hid st_1; clear st_1
  obtain ⟨Aa_6, na_6, ca_6, rfl, sa_6⟩ := id ha
  obtain ⟨la_6, ka_6, ma_6⟩ := sa_6.len
  subst la_6
  unfold maxLen at ma_6
  have Ra := Lib.hid ha; clear ha
  have Sa_6 := Lib.hid sa_6; clear sa_6
  obtain ⟨Ab_6, nb_6, cb_6, rfl, sb_6⟩ := id hb
  obtain ⟨lb_6, kb_6, mb_6⟩ := sb_6.len
  subst lb_6
  unfold maxLen at mb_6
  have Rb := Lib.hid hb; clear hb
  have Sb_6 := Lib.hid sb_6; clear sb_6
  have hq : (rootData b).length = 6 := rfl
  go_enter Tryz.func66, Tryz.ntmps66
  go_wp2_with fail
  first | refine name_wp ?_ ?_ ?_ | refine name_calls ?_ ?_ ?_
  exact (fun W => Ext w W ∧ Blk W (w.heap.size) 27 [.slice At_0 t.ases.length ct_0, .slice At_1 t.links.length ct_1] ∧ Blk W (w.heap.size + 1) 64 [I a.isd, I a.version, I a.notBefore, I a.notAfter, I a.voters, I a.quorum, .slice Aa_6 a.sigs.length ca_6] ∧ Blk W (w.heap.size + 2) 64 [I b.isd, I b.version, I b.notBefore, I b.notAfter, I b.voters, I b.quorum, .slice Ab_6 b.sigs.length cb_6])
  exact ⟨xe, xb, xb, xb⟩
  rintro w0 ⟨ew0, bt, ba, bb⟩
  have lt := bt.lt
  obtain ⟨pt_0, pt_1⟩ := blk2 bt
  have Bt := Lib.hid bt; clear bt
  have la := ba.lt
  obtain ⟨pa_0, pa_1, pa_2, pa_3, pa_4, pa_5, pa_6⟩ := blk7 ba
  have Ba := Lib.hid ba; clear ba
  have lb := bb.lt
  obtain ⟨pb_0, pb_1, pb_2, pb_3, pb_4, pb_5, pb_6⟩ := blk7 bb
  have Bb := Lib.hid bb; clear bb
  refine wp_region_L (E := Ext) (w0 := w0) (G := fun τ => match τ with | 9 => some (fun v _ => v = .bool (validRoot t b)) | 46 => some (fun v W => IntS W.heap.size W v (rootData b)) | 47 => some (fun v _ => v = I (signers t b.sigs a.voters (rootData b))) | 48 => some (fun v _ => v = I (((elements (signers t b.sigs a.voters (rootData b))).length : Nat))) | _ => none) Ext.refl (fun h k => Ext.trans h k) (by kernel_rfl) (by kernel_rfl) xg (Ext.drew (by exact Ext.refl _)) ?_
  repeat' (first
    | ((with_reducible refine wpL_skip ?_ ?_ ?_)
       · rfl
       · rfl
       simp only [Act.put, List.setIfInBounds_toArray, List.set_cons_zero, List.set_cons_succ])
    | ((with_reducible refine wpL_quiet ?_ ?_ ?_ ?_)
       · rfl
       · rfl
       · rfl
       apply Exists.intro
       refine ⟨fun W hW hS => ?_, ?_⟩
       · have hC := (Ext.facts hW).1
         go_simp
         first | done | (with_reducible rfl) | (rw [if_neg (by omega)]; exact ⟨rfl, rfl⟩) | rfl
       first | (with_reducible refine wpL_boolT ?_) | (with_reducible refine wpL_boolF ?_) | (with_reducible refine wpL_bool (fun hB => ?_) (fun hB => ?_)) | skip
       all_goals simp only [Act.put, List.setIfInBounds_toArray, List.set_cons_zero, List.set_cons_succ])
    | ((refine wpL_call ?_ rfl rfl ?_ ?_ ?_)
       · rfl
       · rfl
       · intro W hW hS
         have hC := (Ext.facts hW).1
         unfold growAt
         go_simp
         simp only [growUpon]
         first | (go_at_call 103; ((with_reducible refine Calls.mono (spec_ValidRoot _ _ (t) (b) _ (by exact Rt.out.ext xe) (by exact Rb.out.ext xe)) ?_)); rintro e w9 ⟨rfl, e9⟩; exact ⟨_, rfl, e9, by first | rfl | (simp only [*])⟩) | (go_at_call 105; ((with_reducible refine Calls.mono (spec_RootData _ (b) _ (by exact Rb.out.ext xe)) ?_)); rintro e w9 ⟨v9, rfl, o9, e9⟩; exact ⟨_, rfl, e9, IntSO_rd o9⟩) | (go_at_call 104; have hs46 : IntS W.heap.size W _ (rootData b) := hS 46 (by decide); ((with_reducible refine Calls.mono (spec_Signers _ _ _ _ (t) (b.sigs) (rootData b) _ (by exact Rt.out.ext xe) (by exact Sb_6.out.ext xe) (by exact hs46) (by first | omega | (simp [rootData]; done) | (simp [certData]; done) | (simp only [List.length_cons, List.length_nil]; omega))) ?_)); rintro e w9 ⟨rfl, e9⟩; exact ⟨_, rfl, e9, by first | rfl | (simp only [*])⟩) | (go_at_call 106; ((with_reducible refine Calls.mono (spec_SetSize _ _) ?_)); rintro e w9 ⟨rfl, e9⟩; exact ⟨_, rfl, e9, by first | rfl | (simp only [*])⟩)
       first | (with_reducible refine wpL_boolT ?_) | (with_reducible refine wpL_boolF ?_) | (with_reducible refine wpL_bool (fun hB => ?_) (fun hB => ?_)) | skip
       all_goals simp only [Act.put, List.setIfInBounds_toArray, List.set_cons_zero, List.set_cons_succ])
    | ((refine wpL_grow ?_ rfl rfl ?_ ?_)
       · rfl
       · intro W hW hS
         have hC := (Ext.facts hW).1
         unfold growAt
         go_simp
         simp only [growUpon]
         first | (go_at_call 103; ((with_reducible refine Calls.mono (spec_ValidRoot _ _ (t) (b) _ (by exact Rt.out.ext xe) (by exact Rb.out.ext xe)) ?_)); rintro e w9 ⟨rfl, e9⟩; exact ⟨_, rfl, e9, by first | rfl | (simp only [*])⟩) | (go_at_call 105; ((with_reducible refine Calls.mono (spec_RootData _ (b) _ (by exact Rb.out.ext xe)) ?_)); rintro e w9 ⟨v9, rfl, o9, e9⟩; exact ⟨_, rfl, e9, IntSO_rd o9⟩) | (go_at_call 104; have hs46 : IntS W.heap.size W _ (rootData b) := hS 46 (by decide); ((with_reducible refine Calls.mono (spec_Signers _ _ _ _ (t) (b.sigs) (rootData b) _ (by exact Rt.out.ext xe) (by exact Sb_6.out.ext xe) (by exact hs46) (by first | omega | (simp [rootData]; done) | (simp [certData]; done) | (simp only [List.length_cons, List.length_nil]; omega))) ?_)); rintro e w9 ⟨rfl, e9⟩; exact ⟨_, rfl, e9, by first | rfl | (simp only [*])⟩) | (go_at_call 106; ((with_reducible refine Calls.mono (spec_SetSize _ _) ?_)); rintro e w9 ⟨rfl, e9⟩; exact ⟨_, rfl, e9, by first | rfl | (simp only [*])⟩)
       intro v W' hW' hv
       first  | (obtain ⟨A5, n5, c5, rfl, -⟩ := id hv; clear hv) | (obtain ⟨A5, n5, c5, rfl⟩ := NO.slice hv) | skip
       all_goals simp only [Act.put, List.setIfInBounds_toArray, List.set_cons_zero, List.set_cons_succ]))
  all_goals (refine wpL_nil (fun w1 e1 hL => ?_); clear hL)
  all_goals (go_wp2_with fail; go_ret; exact ⟨ret_bool (by first | (simp_all [isSucc, inR]; done) | (simp_all [isSucc, inR]; intros; omega)), xe⟩)
end Go.Proofs.YtddaodemdkjijaaGreat
namespace Go.Proofs.YtddaodemdkjijaaGreat
open Go.RowKit
set_option linter.unusedVariables false
def dRoot : DTrustRoot := ⟨0, 0, 0, 0, 0, 0, []⟩
def chainAt (t : DTopology) (l : List DTrustRoot) (k : Nat) : Bool := if k = 0 then isInitial t (l.getD 0 dRoot) else isSucc t (l.getD (k - 1) dRoot) (l.getD k dRoot)
def validChain (t : DTopology) (l : List DTrustRoot) : Bool := decide (0 < l.length) && (List.range l.length).all (chainAt t l)
theorem validChain_no {t : DTopology} {l : List DTrustRoot} {k : Nat} (hk : k < l.length) (h : chainAt t l k = false) : validChain t l = false := by
  unfold validChain
  rw [List.all_eq_false.2 ⟨k, List.mem_range.2 hk, by simp [h]⟩, Bool.and_false]
theorem validChain_yes {t : DTopology} {l : List DTrustRoot} (h : ∀ k, k < l.length → chainAt t l k = true) : validChain t l = decide (0 < l.length) := by
  unfold validChain
  rw [List.all_eq_true.2 (fun k hk => h k (List.mem_range.1 hk)), Bool.and_true]
theorem chainAt_zero {t : DTopology} {l : List DTrustRoot} (h : 0 < l.length) : chainAt t l 0 = isInitial t l[0] := by
  simp [chainAt, List.getD_eq_getElem?_getD, List.getElem?_eq_getElem h]
theorem chainAt_succ {t : DTopology} {l : List DTrustRoot} {m k : Nat} (hk : k = m + 1) (h : k < l.length) (h' : m < l.length) : chainAt t l k = isSucc t l[m] l[k] := by
  subst hk
  simp [chainAt, List.getD_eq_getElem?_getD, List.getElem?_eq_getElem h, List.getElem?_eq_getElem (show m < l.length by omega)]
theorem below_succ {p : Nat → Bool} {k : Nat} (h : ∀ j, j < k → p j = true) (hk : p k = true) : ∀ j, j < k + 1 → p j = true := fun j hj => by
  rcases Nat.lt_succ_iff_lt_or_eq.1 hj with hj | rfl
  · exact h j hj
  · exact hk
set_option maxRecDepth 100000 in
set_option maxHeartbeats 1000000 in
theorem impl_ValidRootChain (vt vl : Value) (t : DTopology) (l : List DTrustRoot) (w : World) (ht : TopologyV w.heap.size w vt t) (hl : TrustRootS w.heap.size w vl l) :
    Calls Tryz.prog 13 #[vt, vl] w fun e w' => e = .returned (.bool (validChain t l)) ∧ Ext w w' := by
  obtain ⟨At_0, nt_0, ct_0, At_1, nt_1, ct_1, rfl, st_0, st_1⟩ := id ht
  obtain ⟨lt_0, kt_0, mt_0⟩ := st_0.len
  subst lt_0
  unfold maxLen at mt_0
  obtain ⟨lt_1, kt_1, mt_1⟩ := st_1.len
  subst lt_1
  unfold maxLen at mt_1
  have Rt := Lib.hid ht; clear ht
  have St_0 := Lib.hid st_0; clear st_0
  have St_1 := Lib.hid st_1; clear st_1
  obtain ⟨Al, nl, cl, rfl, ll, kl, ml, -⟩ := id hl
  subst ll
  unfold maxLen at ml
  have Rl := Lib.hid hl; clear hl
  go_enter Tryz.func13, Tryz.ntmps13
  go_wp2_with fail
  first | refine name_wp ?_ ?_ ?_ | refine name_calls ?_ ?_ ?_
  exact (fun W => Ext w W ∧ Blk W (w.heap.size) 27 [.slice At_0 t.ases.length ct_0, .slice At_1 t.links.length ct_1])
  exact ⟨xe, xb⟩
  rintro w0 ⟨ew0, bt⟩
  have lt := bt.lt
  obtain ⟨pt_0, pt_1⟩ := blk2 bt
  have Bt := Lib.hid bt; clear bt
  go_loopw [9] (fun i wr => ∃ k : Nat, k ≤ l.length ∧ i = I k ∧ (∀ j, j < k → chainAt t l j = true) ∧ Ext w0 wr) (fun i _ => l.length - (intOf i).toNat)
  case atStart => exact ⟨0, by omega, rfl, fun _ h => absurd h (by omega), Ext.refl _⟩
  case round =>
    obtain ⟨k, hk, rfl, hq, he⟩ := hrel
    have HQ := Lib.hid hq; clear hq
    have bt := Bt.out.ext (he)
    have lt := bt.lt
    obtain ⟨pt_0, pt_1⟩ := blk2 bt
    clear bt
    by_cases hlt : k < l.length
    · obtain ⟨b, off, rfl, hb, hkl, hc⟩ := (Rl.out.ext (w' := wr) xe).at_ hlt
      by_cases hk0 : k = 0
      · subst hk0
        have HC := Lib.hid (chainAt_zero (t := t) hkl)
        generalize l[0] = x at *
        simp only [TrustRootAt, Nat.zero_mul, Nat.add_zero] at hc
        obtain ⟨Ax_6, nx_6, cx_6, hx_0, hx_1, hx_2, hx_3, hx_4, hx_5, hx_6, sx_6⟩ := hc
        obtain ⟨lx_6, kx_6, mx_6⟩ := sx_6.len
        subst lx_6
        unfold maxLen at mx_6
        have Rx : Hid (TrustRootV wr.heap.size wr (.agg #[I x.isd, I x.version, I x.notBefore, I x.notAfter, I x.voters, I x.quorum, .slice Ax_6 x.sigs.length cx_6]) x) := ⟨_, _, _, rfl, sx_6⟩
        have Sx_6 := Lib.hid sx_6; clear sx_6
        go_wp2_with fail
        first | refine name_wp ?_ ?_ ?_ | refine name_calls ?_ ?_ ?_
        exact (fun W => Ext wr W ∧ Blk W (wr.heap.size) 64 [I x.isd, I x.version, I x.notBefore, I x.notAfter, I x.voters, I x.quorum, .slice Ax_6 x.sigs.length cx_6])
        exact ⟨xe, xb⟩
        rintro w1 ⟨ew1, bx⟩
        have lx := bx.lt
        obtain ⟨px_0, px_1, px_2, px_3, px_4, px_5, px_6⟩ := blk7 bx
        have Bx := Lib.hid bx; clear bx
        have bt := Bt.out.ext (w' := w1) xe
        have lt := bt.lt
        obtain ⟨pt_0, pt_1⟩ := blk2 bt
        clear bt
        refine wp_region_L (E := Ext) (w0 := w1) (G := fun τ => match τ with | 19 => some (fun v _ => v = .bool (isInitial t x)) | _ => none) Ext.refl (fun h k => Ext.trans h k) (by kernel_rfl) (by kernel_rfl) xg (Ext.drew (by exact Ext.refl _)) ?_
        repeat' (first
          | ((with_reducible refine wpL_skip ?_ ?_ ?_)
             · rfl
             · rfl
             simp only [Act.put, List.setIfInBounds_toArray, List.set_cons_zero, List.set_cons_succ])
          | ((with_reducible refine wpL_quiet ?_ ?_ ?_ ?_)
             · rfl
             · rfl
             · rfl
             apply Exists.intro
             refine ⟨fun W hW hS => ?_, ?_⟩
             · have hC := (Ext.facts hW).1
               go_simp
               first | done | (with_reducible rfl) | (rw [if_neg (by omega)]; exact ⟨rfl, rfl⟩) | rfl
             first | (with_reducible refine wpL_boolT ?_) | (with_reducible refine wpL_boolF ?_) | (with_reducible refine wpL_bool (fun hB => ?_) (fun hB => ?_)) | skip
             all_goals simp only [Act.put, List.setIfInBounds_toArray, List.set_cons_zero, List.set_cons_succ])
          | ((refine wpL_call ?_ rfl rfl ?_ ?_ ?_)
             · rfl
             · rfl
             · intro W hW hS
               have hC := (Ext.facts hW).1
               unfold growAt
               go_simp
               simp only [growUpon]
               first | (go_at_call 34; ((with_reducible refine Calls.mono (impl_IsInitialRoot _ _ (t) (x) _ (by exact Rt.out.ext xe) (by exact Rx.out.ext xe)) ?_)); rintro e w9 ⟨rfl, e9⟩; exact ⟨_, rfl, e9, by first | rfl | (simp only [*])⟩)
             first | (with_reducible refine wpL_boolT ?_) | (with_reducible refine wpL_boolF ?_) | (with_reducible refine wpL_bool (fun hB => ?_) (fun hB => ?_)) | skip
             all_goals simp only [Act.put, List.setIfInBounds_toArray, List.set_cons_zero, List.set_cons_succ]))
        all_goals (refine wpL_nil (fun w2 e2 hL => ?_); clear hL)
        all_goals go_wp2_with fail
        all_goals first
          | (go_ret; exact ⟨ret_bool (validChain_no hlt (by rw [HC.out]; assumption)).symm, xe⟩)
          | (go_roundw
             case rel => exact ⟨1, by omega, by go_num, below_succ HQ.out (by rw [HC.out]; assumption), xe⟩
             case measure => simp [intOf]; omega)
      · obtain ⟨m, hm⟩ : ∃ m, k = m + 1 := ⟨k - 1, by omega⟩
        obtain ⟨b', off', hA, hb', hkl', hc'⟩ := (Rl.out.ext (w' := wr) xe).at_ (show m < l.length by omega)
        cases hA
        have HC := Lib.hid (chainAt_succ (t := t) hm hkl hkl')
        have i0 : (0 : Int) ≤ (m : Int) := by omega
        have i1 : (m : Int) < (l.length : Int) := by omega
        have hwr : IntKind.i64.wrap ((k : Int) - 1) = (m : Int) := by rw [IntWalk.i64_in _ (by omega)]; omega
        have hd0 : ((k : Int) == 0) = false := by simp; omega
        have hd1 : decide (0 < k) = true := by simp; omega
        have HM := Lib.hid hm; clear hm
        have HK0 := Lib.hid hk0; clear hk0
        generalize l[m] = y at *
        generalize l[k] = x at *
        obtain ⟨Ax_6, nx_6, cx_6, hx_0, hx_1, hx_2, hx_3, hx_4, hx_5, hx_6, sx_6⟩ := hc
        obtain ⟨lx_6, kx_6, mx_6⟩ := sx_6.len
        subst lx_6
        unfold maxLen at mx_6
        have Rx : Hid (TrustRootV wr.heap.size wr (.agg #[I x.isd, I x.version, I x.notBefore, I x.notAfter, I x.voters, I x.quorum, .slice Ax_6 x.sigs.length cx_6]) x) := ⟨_, _, _, rfl, sx_6⟩
        have Sx_6 := Lib.hid sx_6; clear sx_6
        obtain ⟨Ay_6, ny_6, cy_6, hy_0, hy_1, hy_2, hy_3, hy_4, hy_5, hy_6, sy_6⟩ := hc'
        obtain ⟨ly_6, ky_6, my_6⟩ := sy_6.len
        subst ly_6
        unfold maxLen at my_6
        have Ry : Hid (TrustRootV wr.heap.size wr (.agg #[I y.isd, I y.version, I y.notBefore, I y.notAfter, I y.voters, I y.quorum, .slice Ay_6 y.sigs.length cy_6]) y) := ⟨_, _, _, rfl, sy_6⟩
        have Sy_6 := Lib.hid sy_6; clear sy_6
        have HW := Lib.hid hwr; clear hwr
        go_wp2_with fail
        first | refine name_wp ?_ ?_ ?_ | refine name_calls ?_ ?_ ?_
        exact (fun W => Ext wr W ∧ Blk W (wr.heap.size) 64 [I x.isd, I x.version, I x.notBefore, I x.notAfter, I x.voters, I x.quorum, .slice Ax_6 x.sigs.length cx_6])
        exact ⟨xe, xb⟩
        rintro w1 ⟨ew1, bx⟩
        have lx := bx.lt
        obtain ⟨px_0, px_1, px_2, px_3, px_4, px_5, px_6⟩ := blk7 bx
        have Bx := Lib.hid bx; clear bx
        have bt := Bt.out.ext (w' := w1) xe
        have lt := bt.lt
        obtain ⟨pt_0, pt_1⟩ := blk2 bt
        clear bt
        obtain ⟨hC1, -, hz1⟩ := ew1.facts
        have lb : b < w1.heap.size := by omega
        have hwr := HW.out
        refine wp_region_L (E := Ext) (w0 := w1) (G := fun τ => match τ with | 33 => some (fun v _ => v = .bool (isSucc t y x)) | _ => none) Ext.refl (fun h k => Ext.trans h k) (by kernel_rfl) (by kernel_rfl) xg (Ext.drew (by exact Ext.refl _)) ?_
        repeat' (first
          | ((with_reducible refine wpL_skip ?_ ?_ ?_)
             · rfl
             · rfl
             simp only [Act.put, List.setIfInBounds_toArray, List.set_cons_zero, List.set_cons_succ])
          | ((with_reducible refine wpL_quiet ?_ ?_ ?_ ?_)
             · rfl
             · rfl
             · rfl
             apply Exists.intro
             refine ⟨fun W hW hS => ?_, ?_⟩
             · have hC := (Ext.facts hW).1
               go_simp
               first | done | (with_reducible rfl) | (rw [if_neg (by omega)]; exact ⟨rfl, rfl⟩) | rfl
             first | (with_reducible refine wpL_boolT ?_) | (with_reducible refine wpL_boolF ?_) | (with_reducible refine wpL_bool (fun hB => ?_) (fun hB => ?_)) | skip
             all_goals simp only [Act.put, List.setIfInBounds_toArray, List.set_cons_zero, List.set_cons_succ])
          | ((refine wpL_call ?_ rfl rfl ?_ ?_ ?_)
             · rfl
             · rfl
             · intro W hW hS
               have hC := (Ext.facts hW).1
               unfold growAt
               go_simp
               simp only [growUpon]
               first | (go_at_call 35; ((with_reducible refine Calls.mono (impl_IsSuccessor _ _ _ (t) (y) (x) _ (by exact Rt.out.ext xe) (by exact Ry.out.ext xe) (by exact Rx.out.ext xe)) ?_)); rintro e w9 ⟨rfl, e9⟩; exact ⟨_, rfl, e9, by first | rfl | (simp only [*])⟩)
             first | (with_reducible refine wpL_boolT ?_) | (with_reducible refine wpL_boolF ?_) | (with_reducible refine wpL_bool (fun hB => ?_) (fun hB => ?_)) | skip
             all_goals simp only [Act.put, List.setIfInBounds_toArray, List.set_cons_zero, List.set_cons_succ]))
        all_goals (refine wpL_nil (fun w2 e2 hL => ?_); clear hL hwr)
        all_goals go_wp2_with fail
        all_goals first
          | (go_ret; exact ⟨ret_bool (validChain_no hlt (by rw [HC.out]; assumption)).symm, xe⟩)
          | (go_roundw
             case rel => exact ⟨k + 1, by omega, by go_num, below_succ HQ.out (by rw [HC.out]; assumption), xe⟩
             case measure => simp [intOf]; omega)
    · go_wp2_with fail
      go_ret
      exact ⟨ret_bool (by rw [validChain_yes (fun j hj => HQ.out j (by omega))]), xe⟩
set_option maxRecDepth 100000 in
set_option maxHeartbeats 1000000 in
theorem spec_ValidRootChain (vt vl : Value) (t : DTopology) (l : List DTrustRoot) (w : World) (ht : TopologyV w.heap.size w vt t) (hl : TrustRootS w.heap.size w vl l) :
    Calls Tryz.prog 29 #[vt, vl] w fun e w' => e = .returned (.bool (validChain t l)) ∧ Ext w w' := by
  obtain ⟨At_0, nt_0, ct_0, At_1, nt_1, ct_1, rfl, st_0, st_1⟩ := id ht
  obtain ⟨lt_0, kt_0, mt_0⟩ := st_0.len
  subst lt_0
  unfold maxLen at mt_0
  obtain ⟨lt_1, kt_1, mt_1⟩ := st_1.len
  subst lt_1
  unfold maxLen at mt_1
  have Rt := Lib.hid ht; clear ht
  have St_0 := Lib.hid st_0; clear st_0
  have St_1 := Lib.hid st_1; clear st_1
  obtain ⟨Al, nl, cl, rfl, ll, kl, ml, -⟩ := id hl
  subst ll
  unfold maxLen at ml
  have Rl := Lib.hid hl; clear hl
  by_cases h0 : 0 < l.length
  · obtain ⟨b, off, rfl, hb, hkl, hc⟩ := (Rl.out.ext (w' := w) xe).at_ h0
    have HC := Lib.hid (chainAt_zero (t := t) hkl)
    generalize l[0] = x at *
    simp only [TrustRootAt, Nat.zero_mul, Nat.add_zero] at hc
    obtain ⟨Ax_6, nx_6, cx_6, hx_0, hx_1, hx_2, hx_3, hx_4, hx_5, hx_6, sx_6⟩ := hc
    obtain ⟨lx_6, kx_6, mx_6⟩ := sx_6.len
    subst lx_6
    unfold maxLen at mx_6
    have Rx : Hid (TrustRootV w.heap.size w (.agg #[I x.isd, I x.version, I x.notBefore, I x.notAfter, I x.voters, I x.quorum, .slice Ax_6 x.sigs.length cx_6]) x) := ⟨_, _, _, rfl, sx_6⟩
    have Sx_6 := Lib.hid sx_6; clear sx_6
    have hd0 : ((l.length : Int) == 0) = false := beq_eq_false_iff_ne.2 (by omega)
    have hd0' : decide (l.length = 0) = false := decide_eq_false (by omega)
    go_enter Tryz.func29, Tryz.ntmps29
    go_wp2_with fail
    first | refine name_wp ?_ ?_ ?_ | refine name_calls ?_ ?_ ?_
    exact (fun W => Ext w W ∧ Blk W (w.heap.size) 27 [.slice At_0 t.ases.length ct_0, .slice At_1 t.links.length ct_1])
    exact ⟨xe, xb⟩
    rintro w0 ⟨ew0, bt⟩
    have lt := bt.lt
    obtain ⟨pt_0, pt_1⟩ := blk2 bt
    have Bt := Lib.hid bt; clear bt
    obtain ⟨hC0, -, hz0⟩ := ew0.facts
    have lb : b < w0.heap.size := by omega
    refine wp_region_L (E := Ext) (w0 := w0) (G := fun τ => match τ with | 14 => some (fun v _ => v = .bool (isInitial t x)) | _ => none) Ext.refl (fun h k => Ext.trans h k) (by kernel_rfl) (by kernel_rfl) xg (Ext.drew (by exact Ext.refl _)) ?_
    repeat' (first
      | ((with_reducible refine wpL_skip ?_ ?_ ?_)
         · rfl
         · rfl
         simp only [Act.put, List.setIfInBounds_toArray, List.set_cons_zero, List.set_cons_succ])
      | ((with_reducible refine wpL_quiet ?_ ?_ ?_ ?_)
         · rfl
         · rfl
         · rfl
         apply Exists.intro
         refine ⟨fun W hW hS => ?_, ?_⟩
         · have hC := (Ext.facts hW).1
           go_simp
           first | done | (with_reducible rfl) | (rw [if_neg (by omega)]; exact ⟨rfl, rfl⟩) | rfl
         first | (with_reducible refine wpL_boolT ?_) | (with_reducible refine wpL_boolF ?_) | (with_reducible refine wpL_bool (fun hB => ?_) (fun hB => ?_)) | skip
         all_goals simp only [Act.put, List.setIfInBounds_toArray, List.set_cons_zero, List.set_cons_succ])
      | ((refine wpL_call ?_ rfl rfl ?_ ?_ ?_)
         · rfl
         · rfl
         · intro W hW hS
           have hC := (Ext.facts hW).1
           unfold growAt
           go_simp
           simp only [growUpon]
           first | (go_at_call 65; ((with_reducible refine Calls.mono (spec_IsInitialRoot _ _ (t) (x) _ (by exact Rt.out.ext xe) (by exact Rx.out.ext xe)) ?_)); rintro e w9 ⟨rfl, e9⟩; exact ⟨_, rfl, e9, by first | rfl | (simp only [*])⟩)
         first | (with_reducible refine wpL_boolT ?_) | (with_reducible refine wpL_boolF ?_) | (with_reducible refine wpL_bool (fun hB => ?_) (fun hB => ?_)) | skip
         all_goals simp only [Act.put, List.setIfInBounds_toArray, List.set_cons_zero, List.set_cons_succ]))
    all_goals (refine wpL_nil (fun w1 e1 hL => ?_); clear hL hd0 hd0')
    all_goals first | (go_wp2_with fail; go_ret; exact ⟨ret_bool (validChain_no h0 (by rw [HC.out]; assumption)).symm, xe⟩) | skip
    go_wp2_with fail
    go_loopw [5] (fun i wr => ∃ k : Nat, k ≤ l.length ∧ 1 ≤ k ∧ i = I k ∧ (∀ j, j < k → chainAt t l j = true) ∧ Ext w1 wr) (fun i _ => l.length - (intOf i).toNat)
    case atStart => exact ⟨1, by omega, by omega, rfl, below_succ (fun j hj => absurd hj (by omega)) (by rw [HC.out]; assumption), Ext.refl _⟩
    case round =>
      obtain ⟨k, hk, hk1, rfl, hq, he⟩ := hrel
      have HQ := Lib.hid hq; clear hq hB
      clear hx_0 hx_1 hx_2 hx_3 hx_4 hx_5 hx_6 hC0
      have bt := Bt.out.ext (w' := wr) xe
      have lt := bt.lt
      obtain ⟨pt_0, pt_1⟩ := blk2 bt
      clear bt
      by_cases hlt : k < l.length
      · obtain ⟨m, hm⟩ : ∃ m, k = m + 1 := ⟨k - 1, by omega⟩
        obtain ⟨b1, off1, hA1, hb1, hkl1, hc1⟩ := (Rl.out.ext (w' := wr) xe).at_ hlt
        cases hA1
        obtain ⟨b2, off2, hA2, hb2, hkl2, hc2⟩ := (Rl.out.ext (w' := wr) xe).at_ (show m < l.length by omega)
        cases hA2
        have HD := Lib.hid (chainAt_succ (t := t) hm hkl1 hkl2)
        have i0 : (0 : Int) ≤ (m : Int) := by omega
        have i1 : (m : Int) < (l.length : Int) := by omega
        have i2 : (0 : Int) ≤ (k : Int) := by omega
        have i3 : (k : Int) < (l.length : Int) := by omega
        have hwr : IntKind.i64.wrap ((k : Int) - 1) = (m : Int) := by rw [IntWalk.i64_in _ (by omega)]; omega
        have HW := Lib.hid hwr
        have HM := Lib.hid hm; clear hm hwr
        generalize l[m] = y at *
        generalize l[k] = z at *
        obtain ⟨Az_6, nz_6, cz_6, hz_0, hz_1, hz_2, hz_3, hz_4, hz_5, hz_6, sz_6⟩ := hc1
        obtain ⟨lz_6, kz_6, mz_6⟩ := sz_6.len
        subst lz_6
        unfold maxLen at mz_6
        have Rz : Hid (TrustRootV wr.heap.size wr (.agg #[I z.isd, I z.version, I z.notBefore, I z.notAfter, I z.voters, I z.quorum, .slice Az_6 z.sigs.length cz_6]) z) := ⟨_, _, _, rfl, sz_6⟩
        have Sz_6 := Lib.hid sz_6; clear sz_6
        obtain ⟨Ay_6, ny_6, cy_6, hy_0, hy_1, hy_2, hy_3, hy_4, hy_5, hy_6, sy_6⟩ := hc2
        obtain ⟨ly_6, ky_6, my_6⟩ := sy_6.len
        subst ly_6
        unfold maxLen at my_6
        have Ry : Hid (TrustRootV wr.heap.size wr (.agg #[I y.isd, I y.version, I y.notBefore, I y.notAfter, I y.voters, I y.quorum, .slice Ay_6 y.sigs.length cy_6]) y) := ⟨_, _, _, rfl, sy_6⟩
        have Sy_6 := Lib.hid sy_6; clear sy_6
        go_wp2_with fail
        have hwr := HW.out
        refine wp_region_L (E := Ext) (w0 := wr) (G := fun τ => match τ with | 33 => some (fun v _ => v = .bool (isSucc t y z)) | _ => none) Ext.refl (fun h k => Ext.trans h k) (by kernel_rfl) (by kernel_rfl) xg (Ext.drew (by exact Ext.refl _)) ?_
        repeat' (first
          | ((with_reducible refine wpL_skip ?_ ?_ ?_)
             · rfl
             · rfl
             simp only [Act.put, List.setIfInBounds_toArray, List.set_cons_zero, List.set_cons_succ])
          | ((with_reducible refine wpL_quiet ?_ ?_ ?_ ?_)
             · rfl
             · rfl
             · rfl
             apply Exists.intro
             refine ⟨fun W hW hS => ?_, ?_⟩
             · have hC := (Ext.facts hW).1
               go_simp
               first | done | (with_reducible rfl) | (rw [if_neg (by omega)]; exact ⟨rfl, rfl⟩) | rfl
             first | (with_reducible refine wpL_boolT ?_) | (with_reducible refine wpL_boolF ?_) | (with_reducible refine wpL_bool (fun hB => ?_) (fun hB => ?_)) | skip
             all_goals simp only [Act.put, List.setIfInBounds_toArray, List.set_cons_zero, List.set_cons_succ])
          | ((refine wpL_call ?_ rfl rfl ?_ ?_ ?_)
             · rfl
             · rfl
             · intro W hW hS
               have hC := (Ext.facts hW).1
               unfold growAt
               go_simp
               simp only [growUpon]
               first | (go_at_call 66; ((with_reducible refine Calls.mono (spec_IsSuccessor _ _ _ (t) (y) (z) _ (by exact Rt.out.ext xe) (by exact Ry.out.ext xe) (by exact Rz.out.ext xe)) ?_)); rintro e w9 ⟨rfl, e9⟩; exact ⟨_, rfl, e9, by first | rfl | (simp only [*])⟩)
             first | (with_reducible refine wpL_boolT ?_) | (with_reducible refine wpL_boolF ?_) | (with_reducible refine wpL_bool (fun hB => ?_) (fun hB => ?_)) | skip
             all_goals simp only [Act.put, List.setIfInBounds_toArray, List.set_cons_zero, List.set_cons_succ]))
        all_goals (refine wpL_nil (fun w2 e2 hL => ?_); clear hL hwr)
        all_goals go_wp2_with fail
        all_goals first
          | (go_ret; exact ⟨ret_bool (validChain_no hlt (by rw [HD.out]; assumption)).symm, xe⟩)
          | (go_roundw
             case rel => exact ⟨k + 1, by omega, by omega, by go_num, below_succ HQ.out (by rw [HD.out]; assumption), xe⟩
             case measure => simp [intOf]; omega)
      · go_wp2_with fail
        go_ret
        exact ⟨ret_bool (by rw [validChain_yes (fun j hj => HQ.out j (by omega))]; simp [h0]), xe⟩
  · have HZ : Hid (validChain t l = false) := by unfold Hid validChain; simp [h0]
    have hd0 : ((l.length : Int) == 0) = true := beq_iff_eq.2 (by omega)
    have hd0' : decide (l.length = 0) = true := decide_eq_true (by omega)
    clear h0
    go_enter Tryz.func29, Tryz.ntmps29
    go_wp2_with fail
    first | refine name_wp ?_ ?_ ?_ | refine name_calls ?_ ?_ ?_
    exact (fun W => Ext w W ∧ Blk W (w.heap.size) 27 [.slice At_0 t.ases.length ct_0, .slice At_1 t.links.length ct_1])
    exact ⟨xe, xb⟩
    rintro w0 ⟨ew0, bt⟩
    have lt := bt.lt
    obtain ⟨pt_0, pt_1⟩ := blk2 bt
    have Bt := Lib.hid bt; clear bt
    refine wp_region_L (E := Ext) (w0 := w0) (G := fun τ => match τ with | 0 => none | _ => none) Ext.refl (fun h k => Ext.trans h k) (by kernel_rfl) (by kernel_rfl) xg (Ext.drew (by exact Ext.refl _)) ?_
    repeat' (first
      | ((with_reducible refine wpL_skip ?_ ?_ ?_)
         · rfl
         · rfl
         simp only [Act.put, List.setIfInBounds_toArray, List.set_cons_zero, List.set_cons_succ])
      | ((with_reducible refine wpL_quiet ?_ ?_ ?_ ?_)
         · rfl
         · rfl
         · rfl
         apply Exists.intro
         refine ⟨fun W hW hS => ?_, ?_⟩
         · have hC := (Ext.facts hW).1
           go_simp
           first | done | (with_reducible rfl) | (rw [if_neg (by omega)]; exact ⟨rfl, rfl⟩) | rfl
         first | (with_reducible refine wpL_boolT ?_) | (with_reducible refine wpL_boolF ?_) | (with_reducible refine wpL_bool (fun hB => ?_) (fun hB => ?_)) | skip
         all_goals simp only [Act.put, List.setIfInBounds_toArray, List.set_cons_zero, List.set_cons_succ]))
    all_goals (refine wpL_nil (fun w1 e1 hL => ?_); clear hL)
    all_goals (go_wp2_with fail; go_ret; exact ⟨ret_bool HZ.out.symm, xe⟩)
end Go.Proofs.YtddaodemdkjijaaGreat
namespace Go.Proofs.YtddaodemdkjijaaGreat
open Go.RowKit
set_option linter.unusedVariables false
def rootOkAt (x : DTrustRoot) (now : Int) : Bool := inR now x.notBefore x.notAfter
/-- The last index below n with p, or -1. -/
def lastIdx (p : Nat → Bool) : Nat → Int
  | 0 => -1
  | n + 1 => if p n then n else lastIdx p n
theorem lastIdx_none {p : Nat → Bool} : ∀ {n : Nat}, (∀ j, j < n → p j = false) → lastIdx p n = -1
  | 0, _ => rfl
  | n + 1, h => by rw [lastIdx, h n (by omega)]; exact lastIdx_none (n := n) fun j hj => h j (by omega)
theorem lastIdx_skip {p : Nat → Bool} {n : Nat} (h : p n = false) : lastIdx p (n + 1) = lastIdx p n := by rw [lastIdx, h]; rfl
theorem lastIdx_at {p : Nat → Bool} {n : Nat} (h : p n = true) : lastIdx p (n + 1) = n := by rw [lastIdx, h]; rfl
theorem lastIdx_bounds {p : Nat → Bool} : ∀ {n : Nat}, -1 ≤ lastIdx p n ∧ lastIdx p n < n
  | 0 => by simp [lastIdx]
  | n + 1 => by
    have := lastIdx_bounds (p := p) (n := n)
    rw [lastIdx]
    split <;> omega
def activeRoot (t : DTopology) (l : List DTrustRoot) (now : Int) : Int := if validChain t l then lastIdx (fun k => rootOkAt (l.getD k dRoot) now) l.length else -1
theorem activeRoot_bounds (t : DTopology) (l : List DTrustRoot) (now : Int) : -1 ≤ activeRoot t l now ∧ activeRoot t l now < l.length := by
  unfold activeRoot
  split
  · exact lastIdx_bounds
  · omega
theorem getD_at {α : Type} {l : List α} {k : Nat} {d : α} (h : k < l.length) : l.getD k d = l[k] := by simp [List.getD_eq_getElem?_getD, h]
set_option maxRecDepth 100000 in
set_option maxHeartbeats 1000000 in
theorem impl_rootValidAt (vx : Value) (now : Int) (x : DTrustRoot) (w : World) (hx : TrustRootV w.heap.size w vx x) :
    Calls Tryz.prog 127 #[vx, I now] w fun e w' => e = .returned (.bool (rootOkAt x now)) ∧ Ext w w' := by
  obtain ⟨Ax_6, nx_6, cx_6, rfl, sx_6⟩ := id hx
  obtain ⟨lx_6, kx_6, mx_6⟩ := sx_6.len
  subst lx_6
  unfold maxLen at mx_6
  have Rx := Lib.hid hx; clear hx
  have Sx_6 := Lib.hid sx_6; clear sx_6
  go_enter Tryz.func127, Tryz.ntmps127
  go_wp2_with fail
  refine (impl_InRange _ _ _ _).mono ?_
  rintro e w1 ⟨rfl, rfl⟩
  go_wp2_with fail
  go_ret
  exact ⟨rfl, xe⟩
set_option maxRecDepth 100000 in
set_option maxHeartbeats 1000000 in
theorem impl_ActiveRoot (vt vl : Value) (now : Int) (t : DTopology) (l : List DTrustRoot) (w : World) (ht : TopologyV w.heap.size w vt t) (hl : TrustRootS w.heap.size w vl l) :
    Calls Tryz.prog 126 #[vt, vl, I now] w fun e w' => e = .returned (I (activeRoot t l now)) ∧ Ext w w' := by
  obtain ⟨At_0, nt_0, ct_0, At_1, nt_1, ct_1, rfl, st_0, st_1⟩ := id ht
  obtain ⟨lt_0, kt_0, mt_0⟩ := st_0.len
  subst lt_0
  unfold maxLen at mt_0
  obtain ⟨lt_1, kt_1, mt_1⟩ := st_1.len
  subst lt_1
  unfold maxLen at mt_1
  have Rt := Lib.hid ht; clear ht
  have St_0 := Lib.hid st_0; clear st_0
  have St_1 := Lib.hid st_1; clear st_1
  obtain ⟨Al, nl, cl, rfl, ll, kl, ml, -⟩ := id hl
  subst ll
  unfold maxLen at ml
  have Rl := Lib.hid hl; clear hl
  cases hv : validChain t l
  · have HF : Hid (activeRoot t l now = -1) := by unfold Hid; simp [activeRoot, hv]
    go_enter Tryz.func126, Tryz.ntmps126
    go_wp2_with fail
    refine (impl_ValidRootChain _ _ (t) (l) _ (by exact Rt.out.ext xe) (by exact Rl.out.ext xe)).mono ?_
    rintro e w1 ⟨rfl, ew1⟩
    rw [hv]
    go_wp2_with fail
    go_ret
    exact ⟨ret_int HF.out.symm, xe⟩
  · have HF : Hid (activeRoot t l now = lastIdx (fun k => rootOkAt (l.getD k dRoot) now) l.length) := by unfold Hid; simp [activeRoot, hv]
    go_enter Tryz.func126, Tryz.ntmps126
    go_wp2_with fail
    refine (impl_ValidRootChain _ _ (t) (l) _ (by exact Rt.out.ext xe) (by exact Rl.out.ext xe)).mono ?_
    rintro e w1 ⟨rfl, ew1⟩
    rw [hv]
    clear hv
    go_wp2_with fail
    go_loopw [7] (fun i wr => ∃ k : Nat, k ≤ l.length ∧ i = I ((k : Int) - 1) ∧ activeRoot t l now = lastIdx (fun k => rootOkAt (l.getD k dRoot) now) k ∧ Ext w1 wr) (fun i _ => (intOf i + 1).toNat)
    case atStart => exact ⟨l.length, by omega, rfl, HF.out, Ext.refl _⟩
    case round =>
      obtain ⟨k, hk, rfl, hq, he⟩ := hrel
      have HQ := Lib.hid hq; clear hq
      by_cases hlt : 0 < k
      · obtain ⟨m, rfl⟩ : ∃ m, k = m + 1 := ⟨k - 1, by omega⟩
        have e1 : ((m + 1 : Nat) : Int) - 1 = (m : Int) := by omega
        rw [e1]
        have hml : m < l.length := by omega
        obtain ⟨b, off, rfl, hb, hkl, hc⟩ := (Rl.out.ext (w' := wr) xe).at_ hml
        have HG : Hid (l.getD m dRoot = l[m]) := getD_at hkl
        have i0 : (0 : Int) ≤ (m : Int) := by omega
        have i1 : (m : Int) < (l.length : Int) := by omega
        clear e1
        generalize l[m] = x at *
        obtain ⟨Ax_6, nx_6, cx_6, hx_0, hx_1, hx_2, hx_3, hx_4, hx_5, hx_6, sx_6⟩ := hc
        obtain ⟨lx_6, kx_6, mx_6⟩ := sx_6.len
        subst lx_6
        unfold maxLen at mx_6
        have Rx : Hid (TrustRootV wr.heap.size wr (.agg #[I x.isd, I x.version, I x.notBefore, I x.notAfter, I x.voters, I x.quorum, .slice Ax_6 x.sigs.length cx_6]) x) := ⟨_, _, _, rfl, sx_6⟩
        have Sx_6 := Lib.hid sx_6; clear sx_6
        cases hv : rootOkAt x now
        · have HN : Hid (activeRoot t l now = lastIdx (fun k => rootOkAt (l.getD k dRoot) now) m) := by
            unfold Hid
            rw [HQ.out, lastIdx_skip (by rw [HG.out]; exact hv)]
          go_wp2_with fail
          refine (impl_rootValidAt _ _ (x) _ (by exact Rx.out.ext xe)).mono ?_
          rintro e w2 ⟨rfl, ew2⟩
          rw [hv]
          go_wp2_with fail
          go_roundw
          case rel => exact ⟨m, by omega, rfl, HN.out, xe⟩
          case measure => first | (simp [intOf]; done) | (simp [intOf]; omega)
        · have HN : Hid (activeRoot t l now = m) := by
            unfold Hid
            rw [HQ.out, lastIdx_at (by rw [HG.out]; exact hv)]
          go_wp2_with fail
          refine (impl_rootValidAt _ _ (x) _ (by exact Rx.out.ext xe)).mono ?_
          rintro e w2 ⟨rfl, ew2⟩
          rw [hv]
          go_wp2_with fail
          go_ret
          exact ⟨ret_int HN.out.symm, xe⟩
      · obtain rfl : k = 0 := by omega
        go_wp2_with fail
        go_ret
        exact ⟨ret_int HQ.out.symm, xe⟩
set_option maxRecDepth 100000 in
set_option maxHeartbeats 1000000 in
theorem spec_ActiveRoot (vt vl : Value) (now : Int) (t : DTopology) (l : List DTrustRoot) (w : World) (ht : TopologyV w.heap.size w vt t) (hl : TrustRootS w.heap.size w vl l) :
    Calls Tryz.prog 107 #[vt, vl, I now] w fun e w' => e = .returned (I (activeRoot t l now)) ∧ Ext w w' := by
  obtain ⟨At_0, nt_0, ct_0, At_1, nt_1, ct_1, rfl, st_0, st_1⟩ := id ht
  obtain ⟨lt_0, kt_0, mt_0⟩ := st_0.len
  subst lt_0
  unfold maxLen at mt_0
  obtain ⟨lt_1, kt_1, mt_1⟩ := st_1.len
  subst lt_1
  unfold maxLen at mt_1
  have Rt := Lib.hid ht; clear ht
  have St_0 := Lib.hid st_0; clear st_0
  have St_1 := Lib.hid st_1; clear st_1
  obtain ⟨Al, nl, cl, rfl, ll, kl, ml, -⟩ := id hl
  subst ll
  unfold maxLen at ml
  have Rl := Lib.hid hl; clear hl
  cases hv : validChain t l
  · have HF : Hid (activeRoot t l now = -1) := by unfold Hid; simp [activeRoot, hv]
    go_enter Tryz.func107, Tryz.ntmps107
    go_wp2_with fail
    refine (spec_ValidRootChain _ _ (t) (l) _ (by exact Rt.out.ext xe) (by exact Rl.out.ext xe)).mono ?_
    rintro e w1 ⟨rfl, ew1⟩
    rw [hv]
    go_wp2_with fail
    go_ret
    exact ⟨ret_int HF.out.symm, xe⟩
  · have HF : Hid (activeRoot t l now = lastIdx (fun k => rootOkAt (l.getD k dRoot) now) l.length) := by unfold Hid; simp [activeRoot, hv]
    go_enter Tryz.func107, Tryz.ntmps107
    go_wp2_with fail
    refine (spec_ValidRootChain _ _ (t) (l) _ (by exact Rt.out.ext xe) (by exact Rl.out.ext xe)).mono ?_
    rintro e w1 ⟨rfl, ew1⟩
    rw [hv]
    clear hv
    go_wp2_with fail
    go_loopw [7] (fun i wr => ∃ k : Nat, k ≤ l.length ∧ i = I ((k : Int) - 1) ∧ activeRoot t l now = lastIdx (fun k => rootOkAt (l.getD k dRoot) now) k ∧ Ext w1 wr) (fun i _ => (intOf i + 1).toNat)
    case atStart => exact ⟨l.length, by omega, rfl, HF.out, Ext.refl _⟩
    case round =>
      obtain ⟨k, hk, rfl, hq, he⟩ := hrel
      have HQ := Lib.hid hq; clear hq
      by_cases hlt : 0 < k
      · obtain ⟨m, rfl⟩ : ∃ m, k = m + 1 := ⟨k - 1, by omega⟩
        have e1 : ((m + 1 : Nat) : Int) - 1 = (m : Int) := by omega
        rw [e1]
        have hml : m < l.length := by omega
        obtain ⟨b, off, rfl, hb, hkl, hc⟩ := (Rl.out.ext (w' := wr) xe).at_ hml
        have HG : Hid (l.getD m dRoot = l[m]) := getD_at hkl
        have i0 : (0 : Int) ≤ (m : Int) := by omega
        have i1 : (m : Int) < (l.length : Int) := by omega
        clear e1
        generalize l[m] = x at *
        obtain ⟨Ax_6, nx_6, cx_6, hx_0, hx_1, hx_2, hx_3, hx_4, hx_5, hx_6, sx_6⟩ := hc
        obtain ⟨lx_6, kx_6, mx_6⟩ := sx_6.len
        subst lx_6
        unfold maxLen at mx_6
        have Rx : Hid (TrustRootV wr.heap.size wr (.agg #[I x.isd, I x.version, I x.notBefore, I x.notAfter, I x.voters, I x.quorum, .slice Ax_6 x.sigs.length cx_6]) x) := ⟨_, _, _, rfl, sx_6⟩
        have Sx_6 := Lib.hid sx_6; clear sx_6
        go_wp2_with fail
        refine wp_region_L (E := Ext) (w0 := wr) (G := fun τ => match τ with | 30 => some (fun v _ => v = .bool (rootOkAt x now)) | _ => none) Ext.refl (fun h k => Ext.trans h k) (by kernel_rfl) (by kernel_rfl) xg (Ext.drew (by exact Ext.refl _)) ?_
        repeat' (first
          | ((with_reducible refine wpL_skip ?_ ?_ ?_)
             · rfl
             · rfl
             simp only [Act.put, List.setIfInBounds_toArray, List.set_cons_zero, List.set_cons_succ])
          | ((with_reducible refine wpL_quiet ?_ ?_ ?_ ?_)
             · rfl
             · rfl
             · rfl
             apply Exists.intro
             refine ⟨fun W hW hS => ?_, ?_⟩
             · have hC := (Ext.facts hW).1
               go_simp
               first | done | (with_reducible rfl) | (rw [if_neg (by omega)]; exact ⟨rfl, rfl⟩) | rfl
             first | (with_reducible refine wpL_boolT ?_) | (with_reducible refine wpL_boolF ?_) | (with_reducible refine wpL_bool (fun hB => ?_) (fun hB => ?_)) | skip
             all_goals simp only [Act.put, List.setIfInBounds_toArray, List.set_cons_zero, List.set_cons_succ])
          | ((refine wpL_call ?_ rfl rfl ?_ ?_ ?_)
             · rfl
             · rfl
             · intro W hW hS
               have hC := (Ext.facts hW).1
               unfold growAt
               go_simp
               simp only [growUpon]
               first | (go_at_call 89; ((with_reducible refine Calls.mono (spec_l1In _ _ _ _) ?_)); rintro e w9 ⟨rfl, rfl⟩; exact ⟨_, rfl, Ext.refl _, by first | rfl | (simp only [*])⟩)
             first | (with_reducible refine wpL_boolT ?_) | (with_reducible refine wpL_boolF ?_) | (with_reducible refine wpL_bool (fun hB => ?_) (fun hB => ?_)) | skip
             all_goals simp only [Act.put, List.setIfInBounds_toArray, List.set_cons_zero, List.set_cons_succ]))
        all_goals (refine wpL_nil (fun w2 e2 hL => ?_); clear hL)
        all_goals go_wp2_with fail
        · have HN : Hid (activeRoot t l now = m) := by
            unfold Hid
            rw [HQ.out, lastIdx_at (by rw [HG.out]; assumption)]
          go_ret
          exact ⟨ret_int HN.out.symm, xe⟩
        · have HN : Hid (activeRoot t l now = lastIdx (fun k => rootOkAt (l.getD k dRoot) now) m) := by
            unfold Hid
            rw [HQ.out, lastIdx_skip (by rw [HG.out]; assumption)]
          go_roundw
          case rel => exact ⟨m, by omega, rfl, HN.out, xe⟩
          case measure => first | (simp [intOf]; done) | (simp [intOf]; omega)
      · obtain rfl : k = 0 := by omega
        go_wp2_with fail
        go_ret
        exact ⟨ret_int HQ.out.symm, xe⟩
end Go.Proofs.YtddaodemdkjijaaGreat
