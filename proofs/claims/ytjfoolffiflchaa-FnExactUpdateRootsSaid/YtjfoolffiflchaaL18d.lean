/- Contracts of the program's and the reference's functions on trust roots: IsInitialRoot, IsSuccessor. -/
import Derived.Test.YtjfoolffiflchaaL18c
namespace Go.Proofs.Ytjfoolffiflchaa
open Go.RowKit
set_option linter.unusedVariables false
def isInitial (t : DTopology) (x : DTrustRoot) : Bool := validRoot t x && (x.version == 1 && signers t x.sigs x.voters (rootData x) == x.voters)
def isSucc (t : DTopology) (a b : DTrustRoot) : Bool :=
  validRoot t b && (b.isd == a.isd && (b.version == IntKind.i64.wrap (a.version + 1) && (inR b.notBefore a.notBefore a.notAfter && decide (a.quorum ≤ ((elements (signers t b.sigs a.voters (rootData b))).length : Nat)))))
set_option maxRecDepth 100000 in
set_option maxHeartbeats 1000000 in
theorem impl_IsInitialRoot (vt vx : Value) (t : DTopology) (x : DTrustRoot) (w : World) (ht : TopologyV w.heap.size w vt t) (hx : TrustRootV w.heap.size w vx x) :
    Calls Try.prog 31 #[vt, vx] w fun e w' => e = .returned (.bool (isInitial t x)) ∧ Ext w w' := by
  obtain ⟨At_0, nt_0, ct_0, At_1, nt_1, ct_1, rfl, st_0, st_1⟩ := id ht
  obtain ⟨lt_0, kt_0, mt_0⟩ := st_0.len
  subst lt_0
  unfold maxLen at mt_0
  obtain ⟨lt_1, kt_1, mt_1⟩ := st_1.len
  subst lt_1
  unfold maxLen at mt_1
  have Rt := Lib.hid ht; clear ht
  have St_0 := Lib.hid st_0; clear st_0
  have St_1 := Lib.hid st_1; clear st_1
  obtain ⟨Ax_6, nx_6, cx_6, rfl, sx_6⟩ := id hx
  obtain ⟨lx_6, kx_6, mx_6⟩ := sx_6.len
  subst lx_6
  unfold maxLen at mx_6
  have Rx := Lib.hid hx; clear hx
  have Sx_6 := Lib.hid sx_6; clear sx_6
  have hq : (rootData x).length = 6 := rfl
  go_enter Try.func31, Try.ntmps31
  go_wp2_with fail
  first | refine name_wp (fun W => Ext w W ∧ Blk W (w.heap.size) 35 [.slice At_0 t.ases.length ct_0, .slice At_1 t.links.length ct_1] ∧ Blk W (w.heap.size + 1) 39 [I x.isd, I x.version, I x.notBefore, I x.notAfter, I x.voters, I x.quorum, .slice Ax_6 x.sigs.length cx_6]) ⟨(by repeat (first | (with_reducible exact Ext.refl _) | (with_reducible assumption) | (with_reducible refine Ext.alloc ?_ _) | (with_reducible refine Ext.drew ?_) | (with_reducible refine Ext.drewN ?_ _) | (with_reducible refine Ext.setCell (p := _) ?_ ?ge _; case ge => (dsimp only; omega)) | (with_reducible refine Ext.trans ?_ (by with_reducible assumption)))), (by repeat (first | (with_reducible exact Blk.new _ _ _) | ((with_reducible refine Blk.new' _ _ _ _ ?_) <;> (simp; done)) | (with_reducible refine Blk.alloc ?_ _) | (with_reducible refine Blk.drew ?_))), (by repeat (first | (with_reducible exact Blk.new _ _ _) | ((with_reducible refine Blk.new' _ _ _ _ ?_) <;> (simp; done)) | (with_reducible refine Blk.alloc ?_ _) | (with_reducible refine Blk.drew ?_)))⟩ ?_ | refine name_calls (fun W => Ext w W ∧ Blk W (w.heap.size) 35 [.slice At_0 t.ases.length ct_0, .slice At_1 t.links.length ct_1] ∧ Blk W (w.heap.size + 1) 39 [I x.isd, I x.version, I x.notBefore, I x.notAfter, I x.voters, I x.quorum, .slice Ax_6 x.sigs.length cx_6]) ⟨(by repeat (first | (with_reducible exact Ext.refl _) | (with_reducible assumption) | (with_reducible refine Ext.alloc ?_ _) | (with_reducible refine Ext.drew ?_) | (with_reducible refine Ext.drewN ?_ _) | (with_reducible refine Ext.setCell (p := _) ?_ ?ge _; case ge => (dsimp only; omega)) | (with_reducible refine Ext.trans ?_ (by with_reducible assumption)))), (by repeat (first | (with_reducible exact Blk.new _ _ _) | ((with_reducible refine Blk.new' _ _ _ _ ?_) <;> (simp; done)) | (with_reducible refine Blk.alloc ?_ _) | (with_reducible refine Blk.drew ?_))), (by repeat (first | (with_reducible exact Blk.new _ _ _) | ((with_reducible refine Blk.new' _ _ _ _ ?_) <;> (simp; done)) | (with_reducible refine Blk.alloc ?_ _) | (with_reducible refine Blk.drew ?_)))⟩ ?_
  rintro w0 ⟨ew0, bt, bx⟩
  have lt := bt.lt
  obtain ⟨pt_0, pt_1⟩ := blk2 bt
  have Bt := Lib.hid bt; clear bt
  have lx := bx.lt
  obtain ⟨px_0, px_1, px_2, px_3, px_4, px_5, px_6⟩ := blk7 bx
  have Bx := Lib.hid bx; clear bx
  refine wp_region_L (E := Ext) (w0 := w0) (G := fun τ => match τ with | 7 => some (fun v _ => v = .bool (validRoot t x)) | 20 => some (fun v W => IntS W.heap.size W v (rootData x)) | 21 => some (fun v _ => v = I (signers t x.sigs x.voters (rootData x))) | _ => none) Ext.refl (fun h k => Ext.trans h k) (by kernel_rfl) (by kernel_rfl) (by
      intro t φ hG
      split at hG
      all_goals first | (cases hG; done) | (cases Option.some.inj hG; intro v W W' hE hv; first | exact hv | exact IntS.ext hv hE | exact hv.ext hE | exact Own.up hv hE | exact NO.up (by first | exact SegmentOC.keeps | exact TrustRootOC.keeps | exact BeaconOC.keeps | exact BeaconMessageOC.keeps | exact BeaconStoreOC.keeps) hv hE (Nat.le_refl _) | exact ObjUp.up hv hE)) (Ext.drew (by exact Ext.refl _)) ?_
  repeat' (first
    | ((with_reducible refine wpL_skip ?_ ?_ ?_)
       · rfl
       · rfl
       simp only [Act.put, List.setIfInBounds_toArray, List.set_cons_zero, List.set_cons_succ])
    | ((with_reducible refine wpL_quiet ?_ ?_ ?_ ?_)
       · rfl
       · rfl
       · rfl
       apply Exists.intro
       refine ⟨fun W hW hS => ?_, ?_⟩
       · have hC := (Ext.facts hW).1
         go_simp
         first | done | (with_reducible rfl) | rfl
       first | (with_reducible refine wpL_boolT ?_) | (with_reducible refine wpL_boolF ?_) | (with_reducible refine wpL_bool (fun hB => ?_) (fun hB => ?_)) | skip
       all_goals simp only [Act.put, List.setIfInBounds_toArray, List.set_cons_zero, List.set_cons_succ])
    | ((refine wpL_call ?_ rfl rfl ?_ ?_ ?_)
       · rfl
       · rfl
       · intro W hW hS
         have hC := (Ext.facts hW).1
         unfold growAt
         go_simp
         simp only [growUpon]
         first | (go_at_call 20; ((with_reducible refine Calls.mono (impl_ValidRoot _ _ (t) (x) _ (by exact Rt.out.ext (by repeat (first | (with_reducible exact Ext.refl _) | (with_reducible assumption) | (with_reducible refine Ext.alloc ?_ _) | (with_reducible refine Ext.drew ?_) | (with_reducible refine Ext.drewN ?_ _) | (with_reducible refine Ext.setCell (p := _) ?_ ?ge _; case ge => (dsimp only; omega)) | (with_reducible refine Ext.trans ?_ (by with_reducible assumption))))) (by exact Rx.out.ext (by repeat (first | (with_reducible exact Ext.refl _) | (with_reducible assumption) | (with_reducible refine Ext.alloc ?_ _) | (with_reducible refine Ext.drew ?_) | (with_reducible refine Ext.drewN ?_ _) | (with_reducible refine Ext.setCell (p := _) ?_ ?ge _; case ge => (dsimp only; omega)) | (with_reducible refine Ext.trans ?_ (by with_reducible assumption)))))) ?_)); rintro e w9 ⟨rfl, e9⟩; exact ⟨_, rfl, e9, by first | rfl | (simp only [*])⟩) | (go_at_call 64; ((with_reducible refine Calls.mono (impl_RootData _ (x) _ (by exact Rx.out.ext (by repeat (first | (with_reducible exact Ext.refl _) | (with_reducible assumption) | (with_reducible refine Ext.alloc ?_ _) | (with_reducible refine Ext.drew ?_) | (with_reducible refine Ext.drewN ?_ _) | (with_reducible refine Ext.setCell (p := _) ?_ ?ge _; case ge => (dsimp only; omega)) | (with_reducible refine Ext.trans ?_ (by with_reducible assumption)))))) ?_)); rintro e w9 ⟨v9, rfl, o9, e9⟩; exact ⟨_, rfl, e9, IntSO_rd o9⟩) | (go_at_call 27; have hs20 : IntS W.heap.size W _ (rootData x) := hS 20 (by decide); ((with_reducible refine Calls.mono (impl_Signers _ _ _ _ (t) (x.sigs) (rootData x) _ (by exact Rt.out.ext (by repeat (first | (with_reducible exact Ext.refl _) | (with_reducible assumption) | (with_reducible refine Ext.alloc ?_ _) | (with_reducible refine Ext.drew ?_) | (with_reducible refine Ext.drewN ?_ _) | (with_reducible refine Ext.setCell (p := _) ?_ ?ge _; case ge => (dsimp only; omega)) | (with_reducible refine Ext.trans ?_ (by with_reducible assumption))))) (by exact Sx_6.out.ext (by repeat (first | (with_reducible exact Ext.refl _) | (with_reducible assumption) | (with_reducible refine Ext.alloc ?_ _) | (with_reducible refine Ext.drew ?_) | (with_reducible refine Ext.drewN ?_ _) | (with_reducible refine Ext.setCell (p := _) ?_ ?ge _; case ge => (dsimp only; omega)) | (with_reducible refine Ext.trans ?_ (by with_reducible assumption))))) (by exact hs20) (by first | omega | (simp [rootData]; done) | (simp [certData]; done) | (simp only [List.length_cons, List.length_nil]; omega))) ?_)); rintro e w9 ⟨rfl, e9⟩; exact ⟨_, rfl, e9, by first | rfl | (simp only [*])⟩)
       first | (with_reducible refine wpL_boolT ?_) | (with_reducible refine wpL_boolF ?_) | (with_reducible refine wpL_bool (fun hB => ?_) (fun hB => ?_)) | skip
       all_goals simp only [Act.put, List.setIfInBounds_toArray, List.set_cons_zero, List.set_cons_succ])
    | ((refine wpL_grow ?_ rfl rfl ?_ ?_)
       · rfl
       · intro W hW hS
         have hC := (Ext.facts hW).1
         unfold growAt
         go_simp
         simp only [growUpon]
         first | (go_at_call 20; ((with_reducible refine Calls.mono (impl_ValidRoot _ _ (t) (x) _ (by exact Rt.out.ext (by repeat (first | (with_reducible exact Ext.refl _) | (with_reducible assumption) | (with_reducible refine Ext.alloc ?_ _) | (with_reducible refine Ext.drew ?_) | (with_reducible refine Ext.drewN ?_ _) | (with_reducible refine Ext.setCell (p := _) ?_ ?ge _; case ge => (dsimp only; omega)) | (with_reducible refine Ext.trans ?_ (by with_reducible assumption))))) (by exact Rx.out.ext (by repeat (first | (with_reducible exact Ext.refl _) | (with_reducible assumption) | (with_reducible refine Ext.alloc ?_ _) | (with_reducible refine Ext.drew ?_) | (with_reducible refine Ext.drewN ?_ _) | (with_reducible refine Ext.setCell (p := _) ?_ ?ge _; case ge => (dsimp only; omega)) | (with_reducible refine Ext.trans ?_ (by with_reducible assumption)))))) ?_)); rintro e w9 ⟨rfl, e9⟩; exact ⟨_, rfl, e9, by first | rfl | (simp only [*])⟩) | (go_at_call 64; ((with_reducible refine Calls.mono (impl_RootData _ (x) _ (by exact Rx.out.ext (by repeat (first | (with_reducible exact Ext.refl _) | (with_reducible assumption) | (with_reducible refine Ext.alloc ?_ _) | (with_reducible refine Ext.drew ?_) | (with_reducible refine Ext.drewN ?_ _) | (with_reducible refine Ext.setCell (p := _) ?_ ?ge _; case ge => (dsimp only; omega)) | (with_reducible refine Ext.trans ?_ (by with_reducible assumption)))))) ?_)); rintro e w9 ⟨v9, rfl, o9, e9⟩; exact ⟨_, rfl, e9, IntSO_rd o9⟩) | (go_at_call 27; have hs20 : IntS W.heap.size W _ (rootData x) := hS 20 (by decide); ((with_reducible refine Calls.mono (impl_Signers _ _ _ _ (t) (x.sigs) (rootData x) _ (by exact Rt.out.ext (by repeat (first | (with_reducible exact Ext.refl _) | (with_reducible assumption) | (with_reducible refine Ext.alloc ?_ _) | (with_reducible refine Ext.drew ?_) | (with_reducible refine Ext.drewN ?_ _) | (with_reducible refine Ext.setCell (p := _) ?_ ?ge _; case ge => (dsimp only; omega)) | (with_reducible refine Ext.trans ?_ (by with_reducible assumption))))) (by exact Sx_6.out.ext (by repeat (first | (with_reducible exact Ext.refl _) | (with_reducible assumption) | (with_reducible refine Ext.alloc ?_ _) | (with_reducible refine Ext.drew ?_) | (with_reducible refine Ext.drewN ?_ _) | (with_reducible refine Ext.setCell (p := _) ?_ ?ge _; case ge => (dsimp only; omega)) | (with_reducible refine Ext.trans ?_ (by with_reducible assumption))))) (by exact hs20) (by first | omega | (simp [rootData]; done) | (simp [certData]; done) | (simp only [List.length_cons, List.length_nil]; omega))) ?_)); rintro e w9 ⟨rfl, e9⟩; exact ⟨_, rfl, e9, by first | rfl | (simp only [*])⟩)
       intro v W' hW' hv
       first  | (obtain ⟨A5, n5, c5, rfl, -⟩ := id hv; clear hv) | (obtain ⟨A5, n5, c5, rfl⟩ := NO.slice hv) | skip
       all_goals simp only [Act.put, List.setIfInBounds_toArray, List.set_cons_zero, List.set_cons_succ]))
  all_goals (refine wpL_nil (fun w1 e1 hL => ?_); clear hL)
  all_goals (go_wp2_with fail; go_ret; exact ⟨ret_bool (by simp [isInitial, *]), (by repeat (first | (with_reducible exact Ext.refl _) | (with_reducible assumption) | (with_reducible refine Ext.alloc ?_ _) | (with_reducible refine Ext.drew ?_) | (with_reducible refine Ext.drewN ?_ _) | (with_reducible refine Ext.setCell (p := _) ?_ ?ge _; case ge => (dsimp only; omega)) | (with_reducible refine Ext.trans ?_ (by with_reducible assumption))))⟩)
set_option maxRecDepth 100000 in
set_option maxHeartbeats 1000000 in
theorem spec_IsInitialRoot (vt vx : Value) (t : DTopology) (x : DTrustRoot) (w : World) (ht : TopologyV w.heap.size w vt t) (hx : TrustRootV w.heap.size w vx x) :
    Calls Try.prog 30 #[vt, vx] w fun e w' => e = .returned (.bool (isInitial t x)) ∧ Ext w w' := by
  obtain ⟨At_0, nt_0, ct_0, At_1, nt_1, ct_1, rfl, st_0, st_1⟩ := id ht
  obtain ⟨lt_0, kt_0, mt_0⟩ := st_0.len
  subst lt_0
  unfold maxLen at mt_0
  obtain ⟨lt_1, kt_1, mt_1⟩ := st_1.len
  subst lt_1
  unfold maxLen at mt_1
  have Rt := Lib.hid ht; clear ht
  have St_0 := Lib.hid st_0; clear st_0
  have St_1 := Lib.hid st_1; clear st_1
  obtain ⟨Ax_6, nx_6, cx_6, rfl, sx_6⟩ := id hx
  obtain ⟨lx_6, kx_6, mx_6⟩ := sx_6.len
  subst lx_6
  unfold maxLen at mx_6
  have Rx := Lib.hid hx; clear hx
  have Sx_6 := Lib.hid sx_6; clear sx_6
  have hq : (rootData x).length = 6 := rfl
  go_enter Try.func30, Try.ntmps30
  go_wp2_with fail
  first | refine name_wp (fun W => Ext w W ∧ Blk W (w.heap.size) 35 [.slice At_0 t.ases.length ct_0, .slice At_1 t.links.length ct_1] ∧ Blk W (w.heap.size + 1) 39 [I x.isd, I x.version, I x.notBefore, I x.notAfter, I x.voters, I x.quorum, .slice Ax_6 x.sigs.length cx_6]) ⟨(by repeat (first | (with_reducible exact Ext.refl _) | (with_reducible assumption) | (with_reducible refine Ext.alloc ?_ _) | (with_reducible refine Ext.drew ?_) | (with_reducible refine Ext.drewN ?_ _) | (with_reducible refine Ext.setCell (p := _) ?_ ?ge _; case ge => (dsimp only; omega)) | (with_reducible refine Ext.trans ?_ (by with_reducible assumption)))), (by repeat (first | (with_reducible exact Blk.new _ _ _) | ((with_reducible refine Blk.new' _ _ _ _ ?_) <;> (simp; done)) | (with_reducible refine Blk.alloc ?_ _) | (with_reducible refine Blk.drew ?_))), (by repeat (first | (with_reducible exact Blk.new _ _ _) | ((with_reducible refine Blk.new' _ _ _ _ ?_) <;> (simp; done)) | (with_reducible refine Blk.alloc ?_ _) | (with_reducible refine Blk.drew ?_)))⟩ ?_ | refine name_calls (fun W => Ext w W ∧ Blk W (w.heap.size) 35 [.slice At_0 t.ases.length ct_0, .slice At_1 t.links.length ct_1] ∧ Blk W (w.heap.size + 1) 39 [I x.isd, I x.version, I x.notBefore, I x.notAfter, I x.voters, I x.quorum, .slice Ax_6 x.sigs.length cx_6]) ⟨(by repeat (first | (with_reducible exact Ext.refl _) | (with_reducible assumption) | (with_reducible refine Ext.alloc ?_ _) | (with_reducible refine Ext.drew ?_) | (with_reducible refine Ext.drewN ?_ _) | (with_reducible refine Ext.setCell (p := _) ?_ ?ge _; case ge => (dsimp only; omega)) | (with_reducible refine Ext.trans ?_ (by with_reducible assumption)))), (by repeat (first | (with_reducible exact Blk.new _ _ _) | ((with_reducible refine Blk.new' _ _ _ _ ?_) <;> (simp; done)) | (with_reducible refine Blk.alloc ?_ _) | (with_reducible refine Blk.drew ?_))), (by repeat (first | (with_reducible exact Blk.new _ _ _) | ((with_reducible refine Blk.new' _ _ _ _ ?_) <;> (simp; done)) | (with_reducible refine Blk.alloc ?_ _) | (with_reducible refine Blk.drew ?_)))⟩ ?_
  rintro w0 ⟨ew0, bt, bx⟩
  have lt := bt.lt
  obtain ⟨pt_0, pt_1⟩ := blk2 bt
  have Bt := Lib.hid bt; clear bt
  have lx := bx.lt
  obtain ⟨px_0, px_1, px_2, px_3, px_4, px_5, px_6⟩ := blk7 bx
  have Bx := Lib.hid bx; clear bx
  refine wp_region_L (E := Ext) (w0 := w0) (G := fun τ => match τ with | 7 => some (fun v _ => v = .bool (validRoot t x)) | 20 => some (fun v W => IntS W.heap.size W v (rootData x)) | 21 => some (fun v _ => v = I (signers t x.sigs x.voters (rootData x))) | _ => none) Ext.refl (fun h k => Ext.trans h k) (by kernel_rfl) (by kernel_rfl) (by
      intro t φ hG
      split at hG
      all_goals first | (cases hG; done) | (cases Option.some.inj hG; intro v W W' hE hv; first | exact hv | exact IntS.ext hv hE | exact hv.ext hE | exact Own.up hv hE | exact NO.up (by first | exact SegmentOC.keeps | exact TrustRootOC.keeps | exact BeaconOC.keeps | exact BeaconMessageOC.keeps | exact BeaconStoreOC.keeps) hv hE (Nat.le_refl _) | exact ObjUp.up hv hE)) (Ext.drew (by exact Ext.refl _)) ?_
  repeat' (first
    | ((with_reducible refine wpL_skip ?_ ?_ ?_)
       · rfl
       · rfl
       simp only [Act.put, List.setIfInBounds_toArray, List.set_cons_zero, List.set_cons_succ])
    | ((with_reducible refine wpL_quiet ?_ ?_ ?_ ?_)
       · rfl
       · rfl
       · rfl
       apply Exists.intro
       refine ⟨fun W hW hS => ?_, ?_⟩
       · have hC := (Ext.facts hW).1
         go_simp
         first | done | (with_reducible rfl) | rfl
       first | (with_reducible refine wpL_boolT ?_) | (with_reducible refine wpL_boolF ?_) | (with_reducible refine wpL_bool (fun hB => ?_) (fun hB => ?_)) | skip
       all_goals simp only [Act.put, List.setIfInBounds_toArray, List.set_cons_zero, List.set_cons_succ])
    | ((refine wpL_call ?_ rfl rfl ?_ ?_ ?_)
       · rfl
       · rfl
       · intro W hW hS
         have hC := (Ext.facts hW).1
         unfold growAt
         go_simp
         simp only [growUpon]
         first | (go_at_call 17; ((with_reducible refine Calls.mono (spec_ValidRoot _ _ (t) (x) _ (by exact Rt.out.ext (by repeat (first | (with_reducible exact Ext.refl _) | (with_reducible assumption) | (with_reducible refine Ext.alloc ?_ _) | (with_reducible refine Ext.drew ?_) | (with_reducible refine Ext.drewN ?_ _) | (with_reducible refine Ext.setCell (p := _) ?_ ?ge _; case ge => (dsimp only; omega)) | (with_reducible refine Ext.trans ?_ (by with_reducible assumption))))) (by exact Rx.out.ext (by repeat (first | (with_reducible exact Ext.refl _) | (with_reducible assumption) | (with_reducible refine Ext.alloc ?_ _) | (with_reducible refine Ext.drew ?_) | (with_reducible refine Ext.drewN ?_ _) | (with_reducible refine Ext.setCell (p := _) ?_ ?ge _; case ge => (dsimp only; omega)) | (with_reducible refine Ext.trans ?_ (by with_reducible assumption)))))) ?_)); rintro e w9 ⟨rfl, e9⟩; exact ⟨_, rfl, e9, by first | rfl | (simp only [*])⟩) | (go_at_call 87; ((with_reducible refine Calls.mono (spec_RootData _ (x) _ (by exact Rx.out.ext (by repeat (first | (with_reducible exact Ext.refl _) | (with_reducible assumption) | (with_reducible refine Ext.alloc ?_ _) | (with_reducible refine Ext.drew ?_) | (with_reducible refine Ext.drewN ?_ _) | (with_reducible refine Ext.setCell (p := _) ?_ ?ge _; case ge => (dsimp only; omega)) | (with_reducible refine Ext.trans ?_ (by with_reducible assumption)))))) ?_)); rintro e w9 ⟨v9, rfl, o9, e9⟩; exact ⟨_, rfl, e9, IntSO_rd o9⟩) | (go_at_call 24; have hs20 : IntS W.heap.size W _ (rootData x) := hS 20 (by decide); ((with_reducible refine Calls.mono (spec_Signers _ _ _ _ (t) (x.sigs) (rootData x) _ (by exact Rt.out.ext (by repeat (first | (with_reducible exact Ext.refl _) | (with_reducible assumption) | (with_reducible refine Ext.alloc ?_ _) | (with_reducible refine Ext.drew ?_) | (with_reducible refine Ext.drewN ?_ _) | (with_reducible refine Ext.setCell (p := _) ?_ ?ge _; case ge => (dsimp only; omega)) | (with_reducible refine Ext.trans ?_ (by with_reducible assumption))))) (by exact Sx_6.out.ext (by repeat (first | (with_reducible exact Ext.refl _) | (with_reducible assumption) | (with_reducible refine Ext.alloc ?_ _) | (with_reducible refine Ext.drew ?_) | (with_reducible refine Ext.drewN ?_ _) | (with_reducible refine Ext.setCell (p := _) ?_ ?ge _; case ge => (dsimp only; omega)) | (with_reducible refine Ext.trans ?_ (by with_reducible assumption))))) (by exact hs20) (by first | omega | (simp [rootData]; done) | (simp [certData]; done) | (simp only [List.length_cons, List.length_nil]; omega))) ?_)); rintro e w9 ⟨rfl, e9⟩; exact ⟨_, rfl, e9, by first | rfl | (simp only [*])⟩)
       first | (with_reducible refine wpL_boolT ?_) | (with_reducible refine wpL_boolF ?_) | (with_reducible refine wpL_bool (fun hB => ?_) (fun hB => ?_)) | skip
       all_goals simp only [Act.put, List.setIfInBounds_toArray, List.set_cons_zero, List.set_cons_succ])
    | ((refine wpL_grow ?_ rfl rfl ?_ ?_)
       · rfl
       · intro W hW hS
         have hC := (Ext.facts hW).1
         unfold growAt
         go_simp
         simp only [growUpon]
         first | (go_at_call 17; ((with_reducible refine Calls.mono (spec_ValidRoot _ _ (t) (x) _ (by exact Rt.out.ext (by repeat (first | (with_reducible exact Ext.refl _) | (with_reducible assumption) | (with_reducible refine Ext.alloc ?_ _) | (with_reducible refine Ext.drew ?_) | (with_reducible refine Ext.drewN ?_ _) | (with_reducible refine Ext.setCell (p := _) ?_ ?ge _; case ge => (dsimp only; omega)) | (with_reducible refine Ext.trans ?_ (by with_reducible assumption))))) (by exact Rx.out.ext (by repeat (first | (with_reducible exact Ext.refl _) | (with_reducible assumption) | (with_reducible refine Ext.alloc ?_ _) | (with_reducible refine Ext.drew ?_) | (with_reducible refine Ext.drewN ?_ _) | (with_reducible refine Ext.setCell (p := _) ?_ ?ge _; case ge => (dsimp only; omega)) | (with_reducible refine Ext.trans ?_ (by with_reducible assumption)))))) ?_)); rintro e w9 ⟨rfl, e9⟩; exact ⟨_, rfl, e9, by first | rfl | (simp only [*])⟩) | (go_at_call 87; ((with_reducible refine Calls.mono (spec_RootData _ (x) _ (by exact Rx.out.ext (by repeat (first | (with_reducible exact Ext.refl _) | (with_reducible assumption) | (with_reducible refine Ext.alloc ?_ _) | (with_reducible refine Ext.drew ?_) | (with_reducible refine Ext.drewN ?_ _) | (with_reducible refine Ext.setCell (p := _) ?_ ?ge _; case ge => (dsimp only; omega)) | (with_reducible refine Ext.trans ?_ (by with_reducible assumption)))))) ?_)); rintro e w9 ⟨v9, rfl, o9, e9⟩; exact ⟨_, rfl, e9, IntSO_rd o9⟩) | (go_at_call 24; have hs20 : IntS W.heap.size W _ (rootData x) := hS 20 (by decide); ((with_reducible refine Calls.mono (spec_Signers _ _ _ _ (t) (x.sigs) (rootData x) _ (by exact Rt.out.ext (by repeat (first | (with_reducible exact Ext.refl _) | (with_reducible assumption) | (with_reducible refine Ext.alloc ?_ _) | (with_reducible refine Ext.drew ?_) | (with_reducible refine Ext.drewN ?_ _) | (with_reducible refine Ext.setCell (p := _) ?_ ?ge _; case ge => (dsimp only; omega)) | (with_reducible refine Ext.trans ?_ (by with_reducible assumption))))) (by exact Sx_6.out.ext (by repeat (first | (with_reducible exact Ext.refl _) | (with_reducible assumption) | (with_reducible refine Ext.alloc ?_ _) | (with_reducible refine Ext.drew ?_) | (with_reducible refine Ext.drewN ?_ _) | (with_reducible refine Ext.setCell (p := _) ?_ ?ge _; case ge => (dsimp only; omega)) | (with_reducible refine Ext.trans ?_ (by with_reducible assumption))))) (by exact hs20) (by first | omega | (simp [rootData]; done) | (simp [certData]; done) | (simp only [List.length_cons, List.length_nil]; omega))) ?_)); rintro e w9 ⟨rfl, e9⟩; exact ⟨_, rfl, e9, by first | rfl | (simp only [*])⟩)
       intro v W' hW' hv
       first  | (obtain ⟨A5, n5, c5, rfl, -⟩ := id hv; clear hv) | (obtain ⟨A5, n5, c5, rfl⟩ := NO.slice hv) | skip
       all_goals simp only [Act.put, List.setIfInBounds_toArray, List.set_cons_zero, List.set_cons_succ]))
  all_goals (refine wpL_nil (fun w1 e1 hL => ?_); clear hL)
  all_goals (go_wp2_with fail; go_ret; exact ⟨ret_bool (by simp [isInitial, *]), (by repeat (first | (with_reducible exact Ext.refl _) | (with_reducible assumption) | (with_reducible refine Ext.alloc ?_ _) | (with_reducible refine Ext.drew ?_) | (with_reducible refine Ext.drewN ?_ _) | (with_reducible refine Ext.setCell (p := _) ?_ ?ge _; case ge => (dsimp only; omega)) | (with_reducible refine Ext.trans ?_ (by with_reducible assumption))))⟩)
set_option maxRecDepth 100000 in
set_option maxHeartbeats 1000000 in
theorem impl_IsSuccessor (vt va vb : Value) (t : DTopology) (a b : DTrustRoot) (w : World) (ht : TopologyV w.heap.size w vt t) (ha : TrustRootV w.heap.size w va a) (hb : TrustRootV w.heap.size w vb b) :
    Calls Try.prog 33 #[vt, va, vb] w fun e w' => e = .returned (.bool (isSucc t a b)) ∧ Ext w w' := by
  obtain ⟨At_0, nt_0, ct_0, At_1, nt_1, ct_1, rfl, st_0, st_1⟩ := id ht
  obtain ⟨lt_0, kt_0, mt_0⟩ := st_0.len
  subst lt_0
  unfold maxLen at mt_0
  obtain ⟨lt_1, kt_1, mt_1⟩ := st_1.len
  subst lt_1
  unfold maxLen at mt_1
  have Rt := Lib.hid ht; clear ht
  have St_0 := Lib.hid st_0; clear st_0
  have St_1 := Lib.hid st_1; clear st_1
  obtain ⟨Aa_6, na_6, ca_6, rfl, sa_6⟩ := id ha
  obtain ⟨la_6, ka_6, ma_6⟩ := sa_6.len
  subst la_6
  unfold maxLen at ma_6
  have Ra := Lib.hid ha; clear ha
  have Sa_6 := Lib.hid sa_6; clear sa_6
  obtain ⟨Ab_6, nb_6, cb_6, rfl, sb_6⟩ := id hb
  obtain ⟨lb_6, kb_6, mb_6⟩ := sb_6.len
  subst lb_6
  unfold maxLen at mb_6
  have Rb := Lib.hid hb; clear hb
  have Sb_6 := Lib.hid sb_6; clear sb_6
  have hq : (rootData b).length = 6 := rfl
  go_enter Try.func33, Try.ntmps33
  go_wp2_with fail
  first | refine name_wp (fun W => Ext w W ∧ Blk W (w.heap.size) 35 [.slice At_0 t.ases.length ct_0, .slice At_1 t.links.length ct_1] ∧ Blk W (w.heap.size + 1) 39 [I a.isd, I a.version, I a.notBefore, I a.notAfter, I a.voters, I a.quorum, .slice Aa_6 a.sigs.length ca_6] ∧ Blk W (w.heap.size + 2) 39 [I b.isd, I b.version, I b.notBefore, I b.notAfter, I b.voters, I b.quorum, .slice Ab_6 b.sigs.length cb_6]) ⟨(by repeat (first | (with_reducible exact Ext.refl _) | (with_reducible assumption) | (with_reducible refine Ext.alloc ?_ _) | (with_reducible refine Ext.drew ?_) | (with_reducible refine Ext.drewN ?_ _) | (with_reducible refine Ext.setCell (p := _) ?_ ?ge _; case ge => (dsimp only; omega)) | (with_reducible refine Ext.trans ?_ (by with_reducible assumption)))), (by repeat (first | (with_reducible exact Blk.new _ _ _) | ((with_reducible refine Blk.new' _ _ _ _ ?_) <;> (simp; done)) | (with_reducible refine Blk.alloc ?_ _) | (with_reducible refine Blk.drew ?_))), (by repeat (first | (with_reducible exact Blk.new _ _ _) | ((with_reducible refine Blk.new' _ _ _ _ ?_) <;> (simp; done)) | (with_reducible refine Blk.alloc ?_ _) | (with_reducible refine Blk.drew ?_))), (by repeat (first | (with_reducible exact Blk.new _ _ _) | ((with_reducible refine Blk.new' _ _ _ _ ?_) <;> (simp; done)) | (with_reducible refine Blk.alloc ?_ _) | (with_reducible refine Blk.drew ?_)))⟩ ?_ | refine name_calls (fun W => Ext w W ∧ Blk W (w.heap.size) 35 [.slice At_0 t.ases.length ct_0, .slice At_1 t.links.length ct_1] ∧ Blk W (w.heap.size + 1) 39 [I a.isd, I a.version, I a.notBefore, I a.notAfter, I a.voters, I a.quorum, .slice Aa_6 a.sigs.length ca_6] ∧ Blk W (w.heap.size + 2) 39 [I b.isd, I b.version, I b.notBefore, I b.notAfter, I b.voters, I b.quorum, .slice Ab_6 b.sigs.length cb_6]) ⟨(by repeat (first | (with_reducible exact Ext.refl _) | (with_reducible assumption) | (with_reducible refine Ext.alloc ?_ _) | (with_reducible refine Ext.drew ?_) | (with_reducible refine Ext.drewN ?_ _) | (with_reducible refine Ext.setCell (p := _) ?_ ?ge _; case ge => (dsimp only; omega)) | (with_reducible refine Ext.trans ?_ (by with_reducible assumption)))), (by repeat (first | (with_reducible exact Blk.new _ _ _) | ((with_reducible refine Blk.new' _ _ _ _ ?_) <;> (simp; done)) | (with_reducible refine Blk.alloc ?_ _) | (with_reducible refine Blk.drew ?_))), (by repeat (first | (with_reducible exact Blk.new _ _ _) | ((with_reducible refine Blk.new' _ _ _ _ ?_) <;> (simp; done)) | (with_reducible refine Blk.alloc ?_ _) | (with_reducible refine Blk.drew ?_))), (by repeat (first | (with_reducible exact Blk.new _ _ _) | ((with_reducible refine Blk.new' _ _ _ _ ?_) <;> (simp; done)) | (with_reducible refine Blk.alloc ?_ _) | (with_reducible refine Blk.drew ?_)))⟩ ?_
  rintro w0 ⟨ew0, bt, ba, bb⟩
  have lt := bt.lt
  obtain ⟨pt_0, pt_1⟩ := blk2 bt
  have Bt := Lib.hid bt; clear bt
  have la := ba.lt
  obtain ⟨pa_0, pa_1, pa_2, pa_3, pa_4, pa_5, pa_6⟩ := blk7 ba
  have Ba := Lib.hid ba; clear ba
  have lb := bb.lt
  obtain ⟨pb_0, pb_1, pb_2, pb_3, pb_4, pb_5, pb_6⟩ := blk7 bb
  have Bb := Lib.hid bb; clear bb
  refine wp_region_L (E := Ext) (w0 := w0) (G := fun τ => match τ with | 9 => some (fun v _ => v = .bool (validRoot t b)) | 32 => some (fun v _ => v = .bool (inR b.notBefore a.notBefore a.notAfter)) | 41 => some (fun v W => IntS W.heap.size W v (rootData b)) | 42 => some (fun v _ => v = I (signers t b.sigs a.voters (rootData b))) | 43 => some (fun v _ => v = I (((elements (signers t b.sigs a.voters (rootData b))).length : Nat))) | _ => none) Ext.refl (fun h k => Ext.trans h k) (by kernel_rfl) (by kernel_rfl) (by
      intro t φ hG
      split at hG
      all_goals first | (cases hG; done) | (cases Option.some.inj hG; intro v W W' hE hv; first | exact hv | exact IntS.ext hv hE | exact hv.ext hE | exact Own.up hv hE | exact NO.up (by first | exact SegmentOC.keeps | exact TrustRootOC.keeps | exact BeaconOC.keeps | exact BeaconMessageOC.keeps | exact BeaconStoreOC.keeps) hv hE (Nat.le_refl _) | exact ObjUp.up hv hE)) (Ext.drew (by exact Ext.refl _)) ?_
  repeat' (first
    | ((with_reducible refine wpL_skip ?_ ?_ ?_)
       · rfl
       · rfl
       simp only [Act.put, List.setIfInBounds_toArray, List.set_cons_zero, List.set_cons_succ])
    | ((with_reducible refine wpL_quiet ?_ ?_ ?_ ?_)
       · rfl
       · rfl
       · rfl
       apply Exists.intro
       refine ⟨fun W hW hS => ?_, ?_⟩
       · have hC := (Ext.facts hW).1
         go_simp
         first | done | (with_reducible rfl) | rfl
       first | (with_reducible refine wpL_boolT ?_) | (with_reducible refine wpL_boolF ?_) | (with_reducible refine wpL_bool (fun hB => ?_) (fun hB => ?_)) | skip
       all_goals simp only [Act.put, List.setIfInBounds_toArray, List.set_cons_zero, List.set_cons_succ])
    | ((refine wpL_call ?_ rfl rfl ?_ ?_ ?_)
       · rfl
       · rfl
       · intro W hW hS
         have hC := (Ext.facts hW).1
         unfold growAt
         go_simp
         simp only [growUpon]
         first | (go_at_call 20; ((with_reducible refine Calls.mono (impl_ValidRoot _ _ (t) (b) _ (by exact Rt.out.ext (by repeat (first | (with_reducible exact Ext.refl _) | (with_reducible assumption) | (with_reducible refine Ext.alloc ?_ _) | (with_reducible refine Ext.drew ?_) | (with_reducible refine Ext.drewN ?_ _) | (with_reducible refine Ext.setCell (p := _) ?_ ?ge _; case ge => (dsimp only; omega)) | (with_reducible refine Ext.trans ?_ (by with_reducible assumption))))) (by exact Rb.out.ext (by repeat (first | (with_reducible exact Ext.refl _) | (with_reducible assumption) | (with_reducible refine Ext.alloc ?_ _) | (with_reducible refine Ext.drew ?_) | (with_reducible refine Ext.drewN ?_ _) | (with_reducible refine Ext.setCell (p := _) ?_ ?ge _; case ge => (dsimp only; omega)) | (with_reducible refine Ext.trans ?_ (by with_reducible assumption)))))) ?_)); rintro e w9 ⟨rfl, e9⟩; exact ⟨_, rfl, e9, by first | rfl | (simp only [*])⟩) | (go_at_call 74; ((with_reducible refine Calls.mono (impl_InRange _ _ _ _) ?_)); rintro e w9 ⟨rfl, rfl⟩; exact ⟨_, rfl, Ext.refl _, by first | rfl | (simp only [*])⟩) | (go_at_call 64; ((with_reducible refine Calls.mono (impl_RootData _ (b) _ (by exact Rb.out.ext (by repeat (first | (with_reducible exact Ext.refl _) | (with_reducible assumption) | (with_reducible refine Ext.alloc ?_ _) | (with_reducible refine Ext.drew ?_) | (with_reducible refine Ext.drewN ?_ _) | (with_reducible refine Ext.setCell (p := _) ?_ ?ge _; case ge => (dsimp only; omega)) | (with_reducible refine Ext.trans ?_ (by with_reducible assumption)))))) ?_)); rintro e w9 ⟨v9, rfl, o9, e9⟩; exact ⟨_, rfl, e9, IntSO_rd o9⟩) | (go_at_call 27; have hs41 : IntS W.heap.size W _ (rootData b) := hS 41 (by decide); ((with_reducible refine Calls.mono (impl_Signers _ _ _ _ (t) (b.sigs) (rootData b) _ (by exact Rt.out.ext (by repeat (first | (with_reducible exact Ext.refl _) | (with_reducible assumption) | (with_reducible refine Ext.alloc ?_ _) | (with_reducible refine Ext.drew ?_) | (with_reducible refine Ext.drewN ?_ _) | (with_reducible refine Ext.setCell (p := _) ?_ ?ge _; case ge => (dsimp only; omega)) | (with_reducible refine Ext.trans ?_ (by with_reducible assumption))))) (by exact Sb_6.out.ext (by repeat (first | (with_reducible exact Ext.refl _) | (with_reducible assumption) | (with_reducible refine Ext.alloc ?_ _) | (with_reducible refine Ext.drew ?_) | (with_reducible refine Ext.drewN ?_ _) | (with_reducible refine Ext.setCell (p := _) ?_ ?ge _; case ge => (dsimp only; omega)) | (with_reducible refine Ext.trans ?_ (by with_reducible assumption))))) (by exact hs41) (by first | omega | (simp [rootData]; done) | (simp [certData]; done) | (simp only [List.length_cons, List.length_nil]; omega))) ?_)); rintro e w9 ⟨rfl, e9⟩; exact ⟨_, rfl, e9, by first | rfl | (simp only [*])⟩) | (go_at_call 76; ((with_reducible refine Calls.mono (impl_SetSize _ _) ?_)); rintro e w9 ⟨rfl, e9⟩; exact ⟨_, rfl, e9, by first | rfl | (simp only [*])⟩)
       first | (with_reducible refine wpL_boolT ?_) | (with_reducible refine wpL_boolF ?_) | (with_reducible refine wpL_bool (fun hB => ?_) (fun hB => ?_)) | skip
       all_goals simp only [Act.put, List.setIfInBounds_toArray, List.set_cons_zero, List.set_cons_succ])
    | ((refine wpL_grow ?_ rfl rfl ?_ ?_)
       · rfl
       · intro W hW hS
         have hC := (Ext.facts hW).1
         unfold growAt
         go_simp
         simp only [growUpon]
         first | (go_at_call 20; ((with_reducible refine Calls.mono (impl_ValidRoot _ _ (t) (b) _ (by exact Rt.out.ext (by repeat (first | (with_reducible exact Ext.refl _) | (with_reducible assumption) | (with_reducible refine Ext.alloc ?_ _) | (with_reducible refine Ext.drew ?_) | (with_reducible refine Ext.drewN ?_ _) | (with_reducible refine Ext.setCell (p := _) ?_ ?ge _; case ge => (dsimp only; omega)) | (with_reducible refine Ext.trans ?_ (by with_reducible assumption))))) (by exact Rb.out.ext (by repeat (first | (with_reducible exact Ext.refl _) | (with_reducible assumption) | (with_reducible refine Ext.alloc ?_ _) | (with_reducible refine Ext.drew ?_) | (with_reducible refine Ext.drewN ?_ _) | (with_reducible refine Ext.setCell (p := _) ?_ ?ge _; case ge => (dsimp only; omega)) | (with_reducible refine Ext.trans ?_ (by with_reducible assumption)))))) ?_)); rintro e w9 ⟨rfl, e9⟩; exact ⟨_, rfl, e9, by first | rfl | (simp only [*])⟩) | (go_at_call 74; ((with_reducible refine Calls.mono (impl_InRange _ _ _ _) ?_)); rintro e w9 ⟨rfl, rfl⟩; exact ⟨_, rfl, Ext.refl _, by first | rfl | (simp only [*])⟩) | (go_at_call 64; ((with_reducible refine Calls.mono (impl_RootData _ (b) _ (by exact Rb.out.ext (by repeat (first | (with_reducible exact Ext.refl _) | (with_reducible assumption) | (with_reducible refine Ext.alloc ?_ _) | (with_reducible refine Ext.drew ?_) | (with_reducible refine Ext.drewN ?_ _) | (with_reducible refine Ext.setCell (p := _) ?_ ?ge _; case ge => (dsimp only; omega)) | (with_reducible refine Ext.trans ?_ (by with_reducible assumption)))))) ?_)); rintro e w9 ⟨v9, rfl, o9, e9⟩; exact ⟨_, rfl, e9, IntSO_rd o9⟩) | (go_at_call 27; have hs41 : IntS W.heap.size W _ (rootData b) := hS 41 (by decide); ((with_reducible refine Calls.mono (impl_Signers _ _ _ _ (t) (b.sigs) (rootData b) _ (by exact Rt.out.ext (by repeat (first | (with_reducible exact Ext.refl _) | (with_reducible assumption) | (with_reducible refine Ext.alloc ?_ _) | (with_reducible refine Ext.drew ?_) | (with_reducible refine Ext.drewN ?_ _) | (with_reducible refine Ext.setCell (p := _) ?_ ?ge _; case ge => (dsimp only; omega)) | (with_reducible refine Ext.trans ?_ (by with_reducible assumption))))) (by exact Sb_6.out.ext (by repeat (first | (with_reducible exact Ext.refl _) | (with_reducible assumption) | (with_reducible refine Ext.alloc ?_ _) | (with_reducible refine Ext.drew ?_) | (with_reducible refine Ext.drewN ?_ _) | (with_reducible refine Ext.setCell (p := _) ?_ ?ge _; case ge => (dsimp only; omega)) | (with_reducible refine Ext.trans ?_ (by with_reducible assumption))))) (by exact hs41) (by first | omega | (simp [rootData]; done) | (simp [certData]; done) | (simp only [List.length_cons, List.length_nil]; omega))) ?_)); rintro e w9 ⟨rfl, e9⟩; exact ⟨_, rfl, e9, by first | rfl | (simp only [*])⟩) | (go_at_call 76; ((with_reducible refine Calls.mono (impl_SetSize _ _) ?_)); rintro e w9 ⟨rfl, e9⟩; exact ⟨_, rfl, e9, by first | rfl | (simp only [*])⟩)
       intro v W' hW' hv
       first  | (obtain ⟨A5, n5, c5, rfl, -⟩ := id hv; clear hv) | (obtain ⟨A5, n5, c5, rfl⟩ := NO.slice hv) | skip
       all_goals simp only [Act.put, List.setIfInBounds_toArray, List.set_cons_zero, List.set_cons_succ]))
  all_goals (refine wpL_nil (fun w1 e1 hL => ?_); clear hL)
  all_goals (go_wp2_with fail; go_ret; exact ⟨ret_bool (by first | (simp_all [isSucc, inR]; done) | (simp_all [isSucc, inR]; intros; omega)), (by repeat (first | (with_reducible exact Ext.refl _) | (with_reducible assumption) | (with_reducible refine Ext.alloc ?_ _) | (with_reducible refine Ext.drew ?_) | (with_reducible refine Ext.drewN ?_ _) | (with_reducible refine Ext.setCell (p := _) ?_ ?ge _; case ge => (dsimp only; omega)) | (with_reducible refine Ext.trans ?_ (by with_reducible assumption))))⟩)
set_option maxRecDepth 100000 in
set_option maxHeartbeats 1000000 in
theorem spec_IsSuccessor (vt va vb : Value) (t : DTopology) (a b : DTrustRoot) (w : World) (ht : TopologyV w.heap.size w vt t) (ha : TrustRootV w.heap.size w va a) (hb : TrustRootV w.heap.size w vb b) :
    Calls Try.prog 32 #[vt, va, vb] w fun e w' => e = .returned (.bool (isSucc t a b)) ∧ Ext w w' := by
  obtain ⟨At_0, nt_0, ct_0, At_1, nt_1, ct_1, rfl, st_0, st_1⟩ := id ht
  obtain ⟨lt_0, kt_0, mt_0⟩ := st_0.len
  subst lt_0
  unfold maxLen at mt_0
  obtain ⟨lt_1, kt_1, mt_1⟩ := st_1.len
  subst lt_1
  unfold maxLen at mt_1
  have Rt := Lib.hid ht; clear ht
  have St_0 := Lib.hid st_0; clear st_0
  have St_1 := Lib.hid st_1; clear st_1
  obtain ⟨Aa_6, na_6, ca_6, rfl, sa_6⟩ := id ha
  obtain ⟨la_6, ka_6, ma_6⟩ := sa_6.len
  subst la_6
  unfold maxLen at ma_6
  have Ra := Lib.hid ha; clear ha
  have Sa_6 := Lib.hid sa_6; clear sa_6
  obtain ⟨Ab_6, nb_6, cb_6, rfl, sb_6⟩ := id hb
  obtain ⟨lb_6, kb_6, mb_6⟩ := sb_6.len
  subst lb_6
  unfold maxLen at mb_6
  have Rb := Lib.hid hb; clear hb
  have Sb_6 := Lib.hid sb_6; clear sb_6
  have hq : (rootData b).length = 6 := rfl
  go_enter Try.func32, Try.ntmps32
  go_wp2_with fail
  first | refine name_wp (fun W => Ext w W ∧ Blk W (w.heap.size) 35 [.slice At_0 t.ases.length ct_0, .slice At_1 t.links.length ct_1] ∧ Blk W (w.heap.size + 1) 39 [I a.isd, I a.version, I a.notBefore, I a.notAfter, I a.voters, I a.quorum, .slice Aa_6 a.sigs.length ca_6] ∧ Blk W (w.heap.size + 2) 39 [I b.isd, I b.version, I b.notBefore, I b.notAfter, I b.voters, I b.quorum, .slice Ab_6 b.sigs.length cb_6]) ⟨(by repeat (first | (with_reducible exact Ext.refl _) | (with_reducible assumption) | (with_reducible refine Ext.alloc ?_ _) | (with_reducible refine Ext.drew ?_) | (with_reducible refine Ext.drewN ?_ _) | (with_reducible refine Ext.setCell (p := _) ?_ ?ge _; case ge => (dsimp only; omega)) | (with_reducible refine Ext.trans ?_ (by with_reducible assumption)))), (by repeat (first | (with_reducible exact Blk.new _ _ _) | ((with_reducible refine Blk.new' _ _ _ _ ?_) <;> (simp; done)) | (with_reducible refine Blk.alloc ?_ _) | (with_reducible refine Blk.drew ?_))), (by repeat (first | (with_reducible exact Blk.new _ _ _) | ((with_reducible refine Blk.new' _ _ _ _ ?_) <;> (simp; done)) | (with_reducible refine Blk.alloc ?_ _) | (with_reducible refine Blk.drew ?_))), (by repeat (first | (with_reducible exact Blk.new _ _ _) | ((with_reducible refine Blk.new' _ _ _ _ ?_) <;> (simp; done)) | (with_reducible refine Blk.alloc ?_ _) | (with_reducible refine Blk.drew ?_)))⟩ ?_ | refine name_calls (fun W => Ext w W ∧ Blk W (w.heap.size) 35 [.slice At_0 t.ases.length ct_0, .slice At_1 t.links.length ct_1] ∧ Blk W (w.heap.size + 1) 39 [I a.isd, I a.version, I a.notBefore, I a.notAfter, I a.voters, I a.quorum, .slice Aa_6 a.sigs.length ca_6] ∧ Blk W (w.heap.size + 2) 39 [I b.isd, I b.version, I b.notBefore, I b.notAfter, I b.voters, I b.quorum, .slice Ab_6 b.sigs.length cb_6]) ⟨(by repeat (first | (with_reducible exact Ext.refl _) | (with_reducible assumption) | (with_reducible refine Ext.alloc ?_ _) | (with_reducible refine Ext.drew ?_) | (with_reducible refine Ext.drewN ?_ _) | (with_reducible refine Ext.setCell (p := _) ?_ ?ge _; case ge => (dsimp only; omega)) | (with_reducible refine Ext.trans ?_ (by with_reducible assumption)))), (by repeat (first | (with_reducible exact Blk.new _ _ _) | ((with_reducible refine Blk.new' _ _ _ _ ?_) <;> (simp; done)) | (with_reducible refine Blk.alloc ?_ _) | (with_reducible refine Blk.drew ?_))), (by repeat (first | (with_reducible exact Blk.new _ _ _) | ((with_reducible refine Blk.new' _ _ _ _ ?_) <;> (simp; done)) | (with_reducible refine Blk.alloc ?_ _) | (with_reducible refine Blk.drew ?_))), (by repeat (first | (with_reducible exact Blk.new _ _ _) | ((with_reducible refine Blk.new' _ _ _ _ ?_) <;> (simp; done)) | (with_reducible refine Blk.alloc ?_ _) | (with_reducible refine Blk.drew ?_)))⟩ ?_
  rintro w0 ⟨ew0, bt, ba, bb⟩
  have lt := bt.lt
  obtain ⟨pt_0, pt_1⟩ := blk2 bt
  have Bt := Lib.hid bt; clear bt
  have la := ba.lt
  obtain ⟨pa_0, pa_1, pa_2, pa_3, pa_4, pa_5, pa_6⟩ := blk7 ba
  have Ba := Lib.hid ba; clear ba
  have lb := bb.lt
  obtain ⟨pb_0, pb_1, pb_2, pb_3, pb_4, pb_5, pb_6⟩ := blk7 bb
  have Bb := Lib.hid bb; clear bb
  refine wp_region_L (E := Ext) (w0 := w0) (G := fun τ => match τ with | 9 => some (fun v _ => v = .bool (validRoot t b)) | 46 => some (fun v W => IntS W.heap.size W v (rootData b)) | 47 => some (fun v _ => v = I (signers t b.sigs a.voters (rootData b))) | 48 => some (fun v _ => v = I (((elements (signers t b.sigs a.voters (rootData b))).length : Nat))) | _ => none) Ext.refl (fun h k => Ext.trans h k) (by kernel_rfl) (by kernel_rfl) (by
      intro t φ hG
      split at hG
      all_goals first | (cases hG; done) | (cases Option.some.inj hG; intro v W W' hE hv; first | exact hv | exact IntS.ext hv hE | exact hv.ext hE | exact Own.up hv hE | exact NO.up (by first | exact SegmentOC.keeps | exact TrustRootOC.keeps | exact BeaconOC.keeps | exact BeaconMessageOC.keeps | exact BeaconStoreOC.keeps) hv hE (Nat.le_refl _) | exact ObjUp.up hv hE)) (Ext.drew (by exact Ext.refl _)) ?_
  repeat' (first
    | ((with_reducible refine wpL_skip ?_ ?_ ?_)
       · rfl
       · rfl
       simp only [Act.put, List.setIfInBounds_toArray, List.set_cons_zero, List.set_cons_succ])
    | ((with_reducible refine wpL_quiet ?_ ?_ ?_ ?_)
       · rfl
       · rfl
       · rfl
       apply Exists.intro
       refine ⟨fun W hW hS => ?_, ?_⟩
       · have hC := (Ext.facts hW).1
         go_simp
         first | done | (with_reducible rfl) | rfl
       first | (with_reducible refine wpL_boolT ?_) | (with_reducible refine wpL_boolF ?_) | (with_reducible refine wpL_bool (fun hB => ?_) (fun hB => ?_)) | skip
       all_goals simp only [Act.put, List.setIfInBounds_toArray, List.set_cons_zero, List.set_cons_succ])
    | ((refine wpL_call ?_ rfl rfl ?_ ?_ ?_)
       · rfl
       · rfl
       · intro W hW hS
         have hC := (Ext.facts hW).1
         unfold growAt
         go_simp
         simp only [growUpon]
         first | (go_at_call 17; ((with_reducible refine Calls.mono (spec_ValidRoot _ _ (t) (b) _ (by exact Rt.out.ext (by repeat (first | (with_reducible exact Ext.refl _) | (with_reducible assumption) | (with_reducible refine Ext.alloc ?_ _) | (with_reducible refine Ext.drew ?_) | (with_reducible refine Ext.drewN ?_ _) | (with_reducible refine Ext.setCell (p := _) ?_ ?ge _; case ge => (dsimp only; omega)) | (with_reducible refine Ext.trans ?_ (by with_reducible assumption))))) (by exact Rb.out.ext (by repeat (first | (with_reducible exact Ext.refl _) | (with_reducible assumption) | (with_reducible refine Ext.alloc ?_ _) | (with_reducible refine Ext.drew ?_) | (with_reducible refine Ext.drewN ?_ _) | (with_reducible refine Ext.setCell (p := _) ?_ ?ge _; case ge => (dsimp only; omega)) | (with_reducible refine Ext.trans ?_ (by with_reducible assumption)))))) ?_)); rintro e w9 ⟨rfl, e9⟩; exact ⟨_, rfl, e9, by first | rfl | (simp only [*])⟩) | (go_at_call 87; ((with_reducible refine Calls.mono (spec_RootData _ (b) _ (by exact Rb.out.ext (by repeat (first | (with_reducible exact Ext.refl _) | (with_reducible assumption) | (with_reducible refine Ext.alloc ?_ _) | (with_reducible refine Ext.drew ?_) | (with_reducible refine Ext.drewN ?_ _) | (with_reducible refine Ext.setCell (p := _) ?_ ?ge _; case ge => (dsimp only; omega)) | (with_reducible refine Ext.trans ?_ (by with_reducible assumption)))))) ?_)); rintro e w9 ⟨v9, rfl, o9, e9⟩; exact ⟨_, rfl, e9, IntSO_rd o9⟩) | (go_at_call 24; have hs46 : IntS W.heap.size W _ (rootData b) := hS 46 (by decide); ((with_reducible refine Calls.mono (spec_Signers _ _ _ _ (t) (b.sigs) (rootData b) _ (by exact Rt.out.ext (by repeat (first | (with_reducible exact Ext.refl _) | (with_reducible assumption) | (with_reducible refine Ext.alloc ?_ _) | (with_reducible refine Ext.drew ?_) | (with_reducible refine Ext.drewN ?_ _) | (with_reducible refine Ext.setCell (p := _) ?_ ?ge _; case ge => (dsimp only; omega)) | (with_reducible refine Ext.trans ?_ (by with_reducible assumption))))) (by exact Sb_6.out.ext (by repeat (first | (with_reducible exact Ext.refl _) | (with_reducible assumption) | (with_reducible refine Ext.alloc ?_ _) | (with_reducible refine Ext.drew ?_) | (with_reducible refine Ext.drewN ?_ _) | (with_reducible refine Ext.setCell (p := _) ?_ ?ge _; case ge => (dsimp only; omega)) | (with_reducible refine Ext.trans ?_ (by with_reducible assumption))))) (by exact hs46) (by first | omega | (simp [rootData]; done) | (simp [certData]; done) | (simp only [List.length_cons, List.length_nil]; omega))) ?_)); rintro e w9 ⟨rfl, e9⟩; exact ⟨_, rfl, e9, by first | rfl | (simp only [*])⟩) | (go_at_call 69; ((with_reducible refine Calls.mono (spec_SetSize _ _) ?_)); rintro e w9 ⟨rfl, e9⟩; exact ⟨_, rfl, e9, by first | rfl | (simp only [*])⟩)
       first | (with_reducible refine wpL_boolT ?_) | (with_reducible refine wpL_boolF ?_) | (with_reducible refine wpL_bool (fun hB => ?_) (fun hB => ?_)) | skip
       all_goals simp only [Act.put, List.setIfInBounds_toArray, List.set_cons_zero, List.set_cons_succ])
    | ((refine wpL_grow ?_ rfl rfl ?_ ?_)
       · rfl
       · intro W hW hS
         have hC := (Ext.facts hW).1
         unfold growAt
         go_simp
         simp only [growUpon]
         first | (go_at_call 17; ((with_reducible refine Calls.mono (spec_ValidRoot _ _ (t) (b) _ (by exact Rt.out.ext (by repeat (first | (with_reducible exact Ext.refl _) | (with_reducible assumption) | (with_reducible refine Ext.alloc ?_ _) | (with_reducible refine Ext.drew ?_) | (with_reducible refine Ext.drewN ?_ _) | (with_reducible refine Ext.setCell (p := _) ?_ ?ge _; case ge => (dsimp only; omega)) | (with_reducible refine Ext.trans ?_ (by with_reducible assumption))))) (by exact Rb.out.ext (by repeat (first | (with_reducible exact Ext.refl _) | (with_reducible assumption) | (with_reducible refine Ext.alloc ?_ _) | (with_reducible refine Ext.drew ?_) | (with_reducible refine Ext.drewN ?_ _) | (with_reducible refine Ext.setCell (p := _) ?_ ?ge _; case ge => (dsimp only; omega)) | (with_reducible refine Ext.trans ?_ (by with_reducible assumption)))))) ?_)); rintro e w9 ⟨rfl, e9⟩; exact ⟨_, rfl, e9, by first | rfl | (simp only [*])⟩) | (go_at_call 87; ((with_reducible refine Calls.mono (spec_RootData _ (b) _ (by exact Rb.out.ext (by repeat (first | (with_reducible exact Ext.refl _) | (with_reducible assumption) | (with_reducible refine Ext.alloc ?_ _) | (with_reducible refine Ext.drew ?_) | (with_reducible refine Ext.drewN ?_ _) | (with_reducible refine Ext.setCell (p := _) ?_ ?ge _; case ge => (dsimp only; omega)) | (with_reducible refine Ext.trans ?_ (by with_reducible assumption)))))) ?_)); rintro e w9 ⟨v9, rfl, o9, e9⟩; exact ⟨_, rfl, e9, IntSO_rd o9⟩) | (go_at_call 24; have hs46 : IntS W.heap.size W _ (rootData b) := hS 46 (by decide); ((with_reducible refine Calls.mono (spec_Signers _ _ _ _ (t) (b.sigs) (rootData b) _ (by exact Rt.out.ext (by repeat (first | (with_reducible exact Ext.refl _) | (with_reducible assumption) | (with_reducible refine Ext.alloc ?_ _) | (with_reducible refine Ext.drew ?_) | (with_reducible refine Ext.drewN ?_ _) | (with_reducible refine Ext.setCell (p := _) ?_ ?ge _; case ge => (dsimp only; omega)) | (with_reducible refine Ext.trans ?_ (by with_reducible assumption))))) (by exact Sb_6.out.ext (by repeat (first | (with_reducible exact Ext.refl _) | (with_reducible assumption) | (with_reducible refine Ext.alloc ?_ _) | (with_reducible refine Ext.drew ?_) | (with_reducible refine Ext.drewN ?_ _) | (with_reducible refine Ext.setCell (p := _) ?_ ?ge _; case ge => (dsimp only; omega)) | (with_reducible refine Ext.trans ?_ (by with_reducible assumption))))) (by exact hs46) (by first | omega | (simp [rootData]; done) | (simp [certData]; done) | (simp only [List.length_cons, List.length_nil]; omega))) ?_)); rintro e w9 ⟨rfl, e9⟩; exact ⟨_, rfl, e9, by first | rfl | (simp only [*])⟩) | (go_at_call 69; ((with_reducible refine Calls.mono (spec_SetSize _ _) ?_)); rintro e w9 ⟨rfl, e9⟩; exact ⟨_, rfl, e9, by first | rfl | (simp only [*])⟩)
       intro v W' hW' hv
       first  | (obtain ⟨A5, n5, c5, rfl, -⟩ := id hv; clear hv) | (obtain ⟨A5, n5, c5, rfl⟩ := NO.slice hv) | skip
       all_goals simp only [Act.put, List.setIfInBounds_toArray, List.set_cons_zero, List.set_cons_succ]))
  all_goals (refine wpL_nil (fun w1 e1 hL => ?_); clear hL)
  all_goals (go_wp2_with fail; go_ret; exact ⟨ret_bool (by first | (simp_all [isSucc, inR]; done) | (simp_all [isSucc, inR]; intros; omega)), (by repeat (first | (with_reducible exact Ext.refl _) | (with_reducible assumption) | (with_reducible refine Ext.alloc ?_ _) | (with_reducible refine Ext.drew ?_) | (with_reducible refine Ext.drewN ?_ _) | (with_reducible refine Ext.setCell (p := _) ?_ ?ge _; case ge => (dsimp only; omega)) | (with_reducible refine Ext.trans ?_ (by with_reducible assumption))))⟩)
end Go.Proofs.Ytjfoolffiflchaa
