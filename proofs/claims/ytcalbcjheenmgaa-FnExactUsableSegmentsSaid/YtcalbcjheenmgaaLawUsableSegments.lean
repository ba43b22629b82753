/- The law FnExactUsableSegments returns true for every input and changes no argument. No conditions. -/
import Derived.Test.YtcalbcjheenmgaaL16g
import Derived.Test.YtcalbcjheenmgaaRead
namespace Go.Proofs.Ytcalbcjheenmgaa.lawUsableSegments
open Go.RowKit
set_option linter.unusedVariables false
open Go.ChangeShapes Go.WideShapes Go.ChangeAt
theorem own : ownKnob Try.prog.godebug = none := by kernel_rfl
theorem laidOut : laidOutB Try.prog = true := by kernel_rfl

set_option maxRecDepth 100000 in
set_option maxHeartbeats 1000000 in
theorem walk (v0 : Value) (x0 : DTopology) (v1 : Value) (x1 : DSegmentDatabase) (a2 : Int) (w : World) (h0 : TopologyV w.heap.size w v0 x0) (h1 : SegmentDatabaseV w.heap.size w v1 x1) :
    Calls Try.prog 7 #[v0, v1, I a2] w fun e w' => e = .returned (.bool true) ∧ Ext w w' := by
  have H0 := Lib.hid h0
  obtain ⟨A0_0, n0_0, c0_0, A0_1, n0_1, c0_1, rfl, -⟩ := h0
  have H1 := Lib.hid h1
  obtain ⟨A1_0, n1_0, c1_0, A1_1, n1_1, c1_1, rfl, -⟩ := h1
  go_enter Try.func7, Try.ntmps7
  go_wp2_with fail
  have bx0 : Blk ((w.alloc (.cells #[.slice A0_0 n0_0 c0_0, .slice A0_1 n0_1 c0_1] 63)).alloc (.cells #[.slice A1_0 n1_0 c1_0, .slice A1_1 n1_1 c1_1] 83)) (w.heap.size) 63 [.slice A0_0 n0_0 c0_0, .slice A0_1 n0_1 c0_1] := by simpa using (Blk.new w 63 [.slice A0_0 n0_0 c0_0, .slice A0_1 n0_1 c0_1]).alloc _
  have BX0 := Lib.hid bx0; clear bx0
  have bx1 : Blk ((w.alloc (.cells #[.slice A0_0 n0_0 c0_0, .slice A0_1 n0_1 c0_1] 63)).alloc (.cells #[.slice A1_0 n1_0 c1_0, .slice A1_1 n1_1 c1_1] 83)) (w.heap.size + 1) 83 [.slice A1_0 n1_0 c1_0, .slice A1_1 n1_1 c1_1] := by simpa using Blk.new (w.alloc (.cells #[.slice A0_0 n0_0 c0_0, .slice A0_1 n0_1 c0_1] 63)) 83 [.slice A1_0 n1_0 c1_0, .slice A1_1 n1_1 c1_1]
  have BX1 := Lib.hid bx1; clear bx1
  have ew : Ext w ((w.alloc (.cells #[.slice A0_0 n0_0 c0_0, .slice A0_1 n0_1 c0_1] 63)).alloc (.cells #[.slice A1_0 n1_0 c1_0, .slice A1_1 n1_1 c1_1] 83)) := (by repeat (first | (with_reducible exact Ext.refl _) | (with_reducible assumption) | (with_reducible refine Ext.alloc ?_ _) | (with_reducible refine Ext.drew ?_) | (with_reducible refine Ext.out ?_ (by with_reducible assumption) ?ge; case ge => omega) | (with_reducible refine Ext.trans ?_ (by with_reducible assumption))))
  have zw : w.heap.size + 2 ≤ ((w.alloc (.cells #[.slice A0_0 n0_0 c0_0, .slice A0_1 n0_1 c0_1] 63)).alloc (.cells #[.slice A1_0 n1_0 c1_0, .slice A1_1 n1_1 c1_1] 83)).heap.size := by simp only [World.size_alloc]; omega
  generalize ((w.alloc (.cells #[.slice A0_0 n0_0 c0_0, .slice A0_1 n0_1 c0_1] 63)).alloc (.cells #[.slice A1_0 n1_0 c1_0, .slice A1_1 n1_1 c1_1] 83)) = w0 at *
  refine (szTopology _ x0 (1048576) _ (by exact H0.out.ext (by repeat (first | (with_reducible exact Ext.refl _) | (with_reducible assumption) | (with_reducible refine Ext.alloc ?_ _) | (with_reducible refine Ext.drew ?_) | (with_reducible refine Ext.out ?_ (by with_reducible assumption) ?ge; case ge => omega) | (with_reducible refine Ext.trans ?_ (by with_reducible assumption))))) (by omega) (by omega)).mono ?_
  rintro e w_1 ⟨rfl, e_1⟩
  have z_1 := e_1.size
  by_cases hlt0 : 1048576 < ((x0.ases.length + x0.links.length : Nat) : Int)
  · rw [szR_neg hlt0]
    go_wp2_with fail
    go_ret
    exact ⟨rfl, (by repeat (first | (with_reducible exact Ext.refl _) | (with_reducible assumption) | (with_reducible refine Ext.alloc ?_ _) | (with_reducible refine Ext.drew ?_) | (with_reducible refine Ext.out ?_ (by with_reducible assumption) ?ge; case ge => omega) | (with_reducible refine Ext.trans ?_ (by with_reducible assumption))))⟩
  rw [szR_pos (by omega)]
  have hb0 : x0.ases.length + x0.links.length ≤ 1048576 := by omega
  have bc0 : Blk w_1 (w.heap.size) 63 [.slice A0_0 n0_0 c0_0, .slice A0_1 n0_1 c0_1] := (by repeat (first | (with_reducible exact BX0.out) | (with_reducible refine Blk.drew ?_) | (with_reducible refine Blk.ext ?_ (by with_reducible assumption)) | (with_reducible refine Blk.out ?_ (by with_reducible assumption) ?ge; case ge => omega)))
  obtain ⟨q0_0, q0_1⟩ := blk2 bc0
  clear bc0
  have bc1 : Blk w_1 (w.heap.size + 1) 83 [.slice A1_0 n1_0 c1_0, .slice A1_1 n1_1 c1_1] := (by repeat (first | (with_reducible exact BX1.out) | (with_reducible refine Blk.drew ?_) | (with_reducible refine Blk.ext ?_ (by with_reducible assumption)) | (with_reducible refine Blk.out ?_ (by with_reducible assumption) ?ge; case ge => omega)))
  obtain ⟨q1_0, q1_1⟩ := blk2 bc1
  clear bc1
  go_wp2_with fail
  clear q0_0 q0_1 q1_0 q1_1
  refine (szSegmentDatabase _ x1 (1048576 - ((x0.ases.length + x0.links.length : Nat) : Int)) _ (by exact H1.out.ext (by repeat (first | (with_reducible exact Ext.refl _) | (with_reducible assumption) | (with_reducible refine Ext.alloc ?_ _) | (with_reducible refine Ext.drew ?_) | (with_reducible refine Ext.out ?_ (by with_reducible assumption) ?ge; case ge => omega) | (with_reducible refine Ext.trans ?_ (by with_reducible assumption))))) (by omega) (by omega)).mono ?_
  rintro e w_2 ⟨rfl, e_2⟩
  have z_2 := e_2.size
  by_cases hlt1 : 1048576 - ((x0.ases.length + x0.links.length : Nat) : Int) < ((totS (fun y => y.hops.length) x1.down + totS (fun y => y.hops.length) x1.core : Nat) : Int)
  · rw [szR_neg hlt1]
    go_wp2_with fail
    go_ret
    exact ⟨rfl, (by repeat (first | (with_reducible exact Ext.refl _) | (with_reducible assumption) | (with_reducible refine Ext.alloc ?_ _) | (with_reducible refine Ext.drew ?_) | (with_reducible refine Ext.out ?_ (by with_reducible assumption) ?ge; case ge => omega) | (with_reducible refine Ext.trans ?_ (by with_reducible assumption))))⟩
  rw [szR_pos (by omega)]
  have hb1 : totS (fun y => y.hops.length) x1.down + totS (fun y => y.hops.length) x1.core ≤ 1048576 := by omega
  have bc0 : Blk w_2 (w.heap.size) 63 [.slice A0_0 n0_0 c0_0, .slice A0_1 n0_1 c0_1] := (by repeat (first | (with_reducible exact BX0.out) | (with_reducible refine Blk.drew ?_) | (with_reducible refine Blk.ext ?_ (by with_reducible assumption)) | (with_reducible refine Blk.out ?_ (by with_reducible assumption) ?ge; case ge => omega)))
  obtain ⟨q0_0, q0_1⟩ := blk2 bc0
  clear bc0
  have bc1 : Blk w_2 (w.heap.size + 1) 83 [.slice A1_0 n1_0 c1_0, .slice A1_1 n1_1 c1_1] := (by repeat (first | (with_reducible exact BX1.out) | (with_reducible refine Blk.drew ?_) | (with_reducible refine Blk.ext ?_ (by with_reducible assumption)) | (with_reducible refine Blk.out ?_ (by with_reducible assumption) ?ge; case ge => omega)))
  obtain ⟨q1_0, q1_1⟩ := blk2 bc1
  clear bc1
  go_wp2_with fail
  clear q0_0 q0_1 q1_0 q1_1
  have bc0 : Blk w_2 (w.heap.size) 63 [.slice A0_0 n0_0 c0_0, .slice A0_1 n0_1 c0_1] := (by repeat (first | (with_reducible exact BX0.out) | (with_reducible refine Blk.drew ?_) | (with_reducible refine Blk.ext ?_ (by with_reducible assumption)) | (with_reducible refine Blk.out ?_ (by with_reducible assumption) ?ge; case ge => omega)))
  have lt0 := bc0.lt
  obtain ⟨q0_0, q0_1⟩ := blk2 bc0
  clear bc0
  have bc1 : Blk w_2 (w.heap.size + 1) 83 [.slice A1_0 n1_0 c1_0, .slice A1_1 n1_1 c1_1] := (by repeat (first | (with_reducible exact BX1.out) | (with_reducible refine Blk.drew ?_) | (with_reducible refine Blk.ext ?_ (by with_reducible assumption)) | (with_reducible refine Blk.out ?_ (by with_reducible assumption) ?ge; case ge => omega)))
  have lt1 := bc1.lt
  obtain ⟨q1_0, q1_1⟩ := blk2 bc1
  clear bc1
  refine wp_region_LT 7 (E := Ext) (w0 := w_2) (G := fun τ => match τ with | 27 => some (fun v W => TopologyV W.heap.size W v x0) | 29 => some (fun v W => SegmentDatabaseV W.heap.size W v x1) | 31 => some (fun v W => SegmentDatabaseO w_2.heap.size W.heap.size W v (usableDb x0 x1 a2)) | 8 => some (fun v W => Zero1 87 w_2.heap.size [.slice none 0 0, .slice none 0 0] v W) | _ => none) Ext.refl (fun h k => Ext.trans h k) (by kernel_rfl) (by kernel_rfl) (by kernel_rfl) (by kernel_rfl) (by kernel_rfl) (by kernel_rfl) (by
      intro t φ hG
      split at hG
      all_goals first | (cases hG; done) | (cases Option.some.inj hG; intro v W W' hE hv; first | exact hv | exact IntS.ext hv hE | exact hv.ext hE | exact Own.up hv hE | exact hv.up hE | exact NO.up (by first | exact SegmentOC.keeps | exact TrustRootOC.keeps | exact BeaconOC.keeps | exact BeaconMessageOC.keeps | exact BeaconStoreOC.keeps) hv hE (Nat.le_refl _) | exact ObjUp.up hv hE)) (Ext.drew (by exact Ext.refl _)) ?_
  simp only [List.take_succ_cons, List.take_zero]
  repeat' (first
    | ((with_reducible refine wpL_skip ?_ ?_ ?_)
       · rfl
       · rfl
       simp only [Act.put, List.setIfInBounds_toArray, List.set_cons_zero, List.set_cons_succ])
    | ((with_reducible refine wpL_quiet ?_ ?_ ?_ ?_)
       · rfl
       · rfl
       · rfl
       apply Exists.intro
       refine ⟨fun W hW hS => ?_, ?_⟩
       · have hC := (Ext.facts hW).1
         go_simp
         first | done | (with_reducible rfl) | rfl
       first | (with_reducible refine wpL_boolT ?_) | (with_reducible refine wpL_boolF ?_) | (with_reducible refine wpL_bool (fun hB => ?_) (fun hB => ?_)) | skip
       all_goals simp only [Act.put, List.setIfInBounds_toArray, List.set_cons_zero, List.set_cons_succ])
    | ((refine wpL_call ?_ rfl rfl ?_ ?_ ?_)
       · rfl
       · rfl
       · intro W hW hS
         have hC := (Ext.facts hW).1
         unfold growAt
         go_simp
         simp only [growUpon]
         first | (go_at_call 34; ((with_reducible refine Calls.mono (toTopology _ x0 _ (by exact H0.out.ext (by repeat (first | (with_reducible exact Ext.refl _) | (with_reducible assumption) | (with_reducible refine Ext.alloc ?_ _) | (with_reducible refine Ext.drew ?_) | (with_reducible refine Ext.out ?_ (by with_reducible assumption) ?ge; case ge => omega) | (with_reducible refine Ext.trans ?_ (by with_reducible assumption))))) (by omega)) ?_)); rintro e w9 ⟨v9, rfl, o9, e9⟩; exact ⟨_, rfl, e9, TopologyO_rd o9 (Nat.le_refl _)⟩) | (go_at_call 40; ((with_reducible refine Calls.mono (toSegmentDatabase _ x1 _ (by exact H1.out.ext (by repeat (first | (with_reducible exact Ext.refl _) | (with_reducible assumption) | (with_reducible refine Ext.alloc ?_ _) | (with_reducible refine Ext.drew ?_) | (with_reducible refine Ext.out ?_ (by with_reducible assumption) ?ge; case ge => omega) | (with_reducible refine Ext.trans ?_ (by with_reducible assumption))))) (by omega)) ?_)); rintro e w9 ⟨v9, rfl, o9, e9⟩; exact ⟨_, rfl, e9, SegmentDatabaseO_rd o9 (Nat.le_refl _)⟩) | (go_at_call 39; have hs27 : TopologyV W.heap.size W _ x0 := hS 27 (by decide); have hs29 : SegmentDatabaseV W.heap.size W _ x1 := hS 29 (by decide); ((with_reducible refine Calls.mono (spec_UsableSegments _ _ a2 x0 x1 _ hs27 hs29 (by exact hb1)) ?_)); rintro e w9 ⟨v9, rfl, o9, e9⟩; exact ⟨_, rfl, e9, SegmentDatabaseO.more o9 (Ext.size hW) (Nat.le_refl _)⟩) | (exact ⟨(by repeat (first | (with_reducible exact Ext.refl _) | (with_reducible assumption) | (with_reducible refine Ext.alloc ?_ _) | (with_reducible refine Ext.drew ?_) | (with_reducible refine Ext.drewN ?_ _) | (with_reducible refine Ext.setCell (p := _) ?_ ?ge _; case ge => (dsimp only; omega)) | (with_reducible refine Ext.trans ?_ (by with_reducible assumption)))), _, rfl, Ext.size (by assumption), Blk.new _ _ _⟩)
       first | (with_reducible refine wpL_boolT ?_) | (with_reducible refine wpL_boolF ?_) | (with_reducible refine wpL_bool (fun hB => ?_) (fun hB => ?_)) | skip
       all_goals simp only [Act.put, List.setIfInBounds_toArray, List.set_cons_zero, List.set_cons_succ])
    | ((refine wpL_grow ?_ rfl rfl ?_ ?_)
       · rfl
       · intro W hW hS
         have hC := (Ext.facts hW).1
         unfold growAt
         go_simp
         simp only [growUpon]
         first | (go_at_call 34; ((with_reducible refine Calls.mono (toTopology _ x0 _ (by exact H0.out.ext (by repeat (first | (with_reducible exact Ext.refl _) | (with_reducible assumption) | (with_reducible refine Ext.alloc ?_ _) | (with_reducible refine Ext.drew ?_) | (with_reducible refine Ext.out ?_ (by with_reducible assumption) ?ge; case ge => omega) | (with_reducible refine Ext.trans ?_ (by with_reducible assumption))))) (by omega)) ?_)); rintro e w9 ⟨v9, rfl, o9, e9⟩; exact ⟨_, rfl, e9, TopologyO_rd o9 (Nat.le_refl _)⟩) | (go_at_call 40; ((with_reducible refine Calls.mono (toSegmentDatabase _ x1 _ (by exact H1.out.ext (by repeat (first | (with_reducible exact Ext.refl _) | (with_reducible assumption) | (with_reducible refine Ext.alloc ?_ _) | (with_reducible refine Ext.drew ?_) | (with_reducible refine Ext.out ?_ (by with_reducible assumption) ?ge; case ge => omega) | (with_reducible refine Ext.trans ?_ (by with_reducible assumption))))) (by omega)) ?_)); rintro e w9 ⟨v9, rfl, o9, e9⟩; exact ⟨_, rfl, e9, SegmentDatabaseO_rd o9 (Nat.le_refl _)⟩) | (go_at_call 39; have hs27 : TopologyV W.heap.size W _ x0 := hS 27 (by decide); have hs29 : SegmentDatabaseV W.heap.size W _ x1 := hS 29 (by decide); ((with_reducible refine Calls.mono (spec_UsableSegments _ _ a2 x0 x1 _ hs27 hs29 (by exact hb1)) ?_)); rintro e w9 ⟨v9, rfl, o9, e9⟩; exact ⟨_, rfl, e9, SegmentDatabaseO.more o9 (Ext.size hW) (Nat.le_refl _)⟩) | (exact ⟨(by repeat (first | (with_reducible exact Ext.refl _) | (with_reducible assumption) | (with_reducible refine Ext.alloc ?_ _) | (with_reducible refine Ext.drew ?_) | (with_reducible refine Ext.drewN ?_ _) | (with_reducible refine Ext.setCell (p := _) ?_ ?ge _; case ge => (dsimp only; omega)) | (with_reducible refine Ext.trans ?_ (by with_reducible assumption)))), _, rfl, Ext.size (by assumption), Blk.new _ _ _⟩)
       intro v W' hW' hv
       first | (obtain ⟨A_3_0, n_3_0, c_3_0, A_3_1, n_3_1, c_3_1, rfl⟩ := SegmentDatabaseO.shape hv) | (obtain ⟨g5, rfl, -⟩ := hv) | (obtain ⟨A5, n5, c5, rfl, -⟩ := id hv; clear hv) | (obtain ⟨A5, n5, c5, rfl⟩ := NO.slice hv) | skip
       all_goals simp only [Act.put, List.setIfInBounds_toArray, List.set_cons_zero, List.set_cons_succ]))
  refine wpL_nil (fun w_3 e_3 hL => ?_)
  have o_3 : SegmentDatabaseO w_2.heap.size w_3.heap.size w_3 _ (usableDb x0 x1 a2) := hL 31
  have p_3 : Zero1 87 w_2.heap.size [.slice none 0 0, .slice none 0 0] _ w_3 := hL 8
  obtain ⟨gz_3, hgz, hgl_3, hbz⟩ := p_3
  have hge : gz_3 = g5 := by injection hgz with h; injection h with h; injection h with h1; exact h1.symm
  subst hge
  clear hgz
  clear hL
  clear q0_0 q0_1 q1_0 q1_1 lt0 lt1
  have OW_3 := Lib.hid (SegmentDatabaseO.setT (SegmentDatabaseO.setT o_3 hbz 0 (.slice A_3_0 n_3_0 c_3_0)) (Blk.set_ hbz 0 (.slice A_3_0 n_3_0 c_3_0)) 1 (.slice A_3_1 n_3_1 c_3_1))
  have BW_3 := Lib.hid (Blk.set_ (Blk.set_ hbz 0 (.slice A_3_0 n_3_0 c_3_0)) 1 (.slice A_3_1 n_3_1 c_3_1))
  have lz_3 := hbz.lt
  obtain ⟨yz_0, yz_1⟩ := blk2 hbz
  have fz_0 := hbz.frozen 0
  have fz_1 := hbz.frozen 1
  have z_3 := e_3.size
  clear hbz o_3
  have bc0 : Blk w_3 (w.heap.size) 63 [.slice A0_0 n0_0 c0_0, .slice A0_1 n0_1 c0_1] := (by repeat (first | (with_reducible exact BX0.out) | (with_reducible refine Blk.drew ?_) | (with_reducible refine Blk.ext ?_ (by with_reducible assumption)) | (with_reducible refine Blk.out ?_ (by with_reducible assumption) ?ge; case ge => omega)))
  have lt0 := bc0.lt
  obtain ⟨q0_0, q0_1⟩ := blk2 bc0
  clear bc0
  have bc1 : Blk w_3 (w.heap.size + 1) 83 [.slice A1_0 n1_0 c1_0, .slice A1_1 n1_1 c1_1] := (by repeat (first | (with_reducible exact BX1.out) | (with_reducible refine Blk.drew ?_) | (with_reducible refine Blk.ext ?_ (by with_reducible assumption)) | (with_reducible refine Blk.out ?_ (by with_reducible assumption) ?ge; case ge => omega)))
  have lt1 := bc1.lt
  obtain ⟨q1_0, q1_1⟩ := blk2 bc1
  clear bc1
  simp only [List.drop_succ_cons, List.drop_zero]
  go_wp2_with fail
  clear q0_0 q0_1 q1_0 q1_1 lt0 lt1
  clear yz_0 yz_1 fz_0 fz_1
  have bxLw3 : Blk ((w_3.setCell ⟨gz_3, 0, none⟩ (.slice A_3_0 n_3_0 c_3_0)).setCell ⟨gz_3, 1, none⟩ (.slice A_3_1 n_3_1 c_3_1)) gz_3 87 [.slice A_3_0 n_3_0 c_3_0, .slice A_3_1 n_3_1 c_3_1] := by simpa using BW_3.out
  have BXLw3 := Lib.hid bxLw3; clear bxLw3
  have ewLw3 : Ext w_2 ((w_3.setCell ⟨gz_3, 0, none⟩ (.slice A_3_0 n_3_0 c_3_0)).setCell ⟨gz_3, 1, none⟩ (.slice A_3_1 n_3_1 c_3_1)) := (by repeat (first | (with_reducible exact Ext.refl _) | (with_reducible assumption) | (with_reducible refine Ext.alloc ?_ _) | (with_reducible refine Ext.drew ?_) | (with_reducible refine Ext.setCell (p := _) ?_ ?ge _; case ge => (dsimp only; omega)) | (with_reducible refine Ext.out ?_ (by with_reducible assumption) ?ge; case ge => omega) | (with_reducible refine Ext.trans ?_ (by with_reducible assumption))))
  have zwLw3 : ((w_3.setCell ⟨gz_3, 0, none⟩ (.slice A_3_0 n_3_0 c_3_0)).setCell ⟨gz_3, 1, none⟩ (.slice A_3_1 n_3_1 c_3_1)).heap.size = w_3.heap.size := by simp only [World.size_setCell]
  have O_3 : Hid (SegmentDatabaseO w_2.heap.size ((w_3.setCell ⟨gz_3, 0, none⟩ (.slice A_3_0 n_3_0 c_3_0)).setCell ⟨gz_3, 1, none⟩ (.slice A_3_1 n_3_1 c_3_1)).heap.size ((w_3.setCell ⟨gz_3, 0, none⟩ (.slice A_3_0 n_3_0 c_3_0)).setCell ⟨gz_3, 1, none⟩ (.slice A_3_1 n_3_1 c_3_1)) (.agg #[.slice A_3_0 n_3_0 c_3_0, .slice A_3_1 n_3_1 c_3_1]) (usableDb x0 x1 a2)) := by unfold Hid; have h := OW_3.out; rw [← zwLw3] at h; exact h
  have ZWLw3 := Lib.hid zwLw3; have zvLw3 : w_3.heap.size ≤ ((w_3.setCell ⟨gz_3, 0, none⟩ (.slice A_3_0 n_3_0 c_3_0)).setCell ⟨gz_3, 1, none⟩ (.slice A_3_1 n_3_1 c_3_1)).heap.size := by omega
  have zxLw3 : ((w_3.setCell ⟨gz_3, 0, none⟩ (.slice A_3_0 n_3_0 c_3_0)).setCell ⟨gz_3, 1, none⟩ (.slice A_3_1 n_3_1 c_3_1)).heap.size ≤ w_3.heap.size := by omega
  clear zwLw3 OW_3 BW_3 ZWLw3
  clear e_3
  generalize ((w_3.setCell ⟨gz_3, 0, none⟩ (.slice A_3_0 n_3_0 c_3_0)).setCell ⟨gz_3, 1, none⟩ (.slice A_3_1 n_3_1 c_3_1)) = w_3b at *
  refine (toTopology (.agg #[.slice A0_0 n0_0 c0_0, .slice A0_1 n0_1 c0_1]) x0 _ (by exact H0.out.ext (by repeat (first | (with_reducible exact Ext.refl _) | (with_reducible assumption) | (with_reducible refine Ext.alloc ?_ _) | (with_reducible refine Ext.drew ?_) | (with_reducible refine Ext.out ?_ (by with_reducible assumption) ?ge; case ge => omega) | (with_reducible refine Ext.trans ?_ (by with_reducible assumption))))) (by omega)).mono ?_
  rintro e w_4 ⟨u_4, rfl, o_4, e_4⟩
  have z_4 := e_4.size
  have O_4 := Lib.hid o_4; clear o_4
  obtain ⟨A_4_0, n_4_0, c_4_0, A_4_1, n_4_1, c_4_1, hv_4⟩ := O_4.out.shape
  subst hv_4
  have bc0 : Blk w_4 (w.heap.size) 63 [.slice A0_0 n0_0 c0_0, .slice A0_1 n0_1 c0_1] := (by repeat (first | (with_reducible exact BX0.out) | (with_reducible refine Blk.drew ?_) | (with_reducible refine Blk.ext ?_ (by with_reducible assumption)) | (with_reducible refine Blk.out ?_ (by with_reducible assumption) ?ge; case ge => omega)))
  have lt0 := bc0.lt
  obtain ⟨q0_0, q0_1⟩ := blk2 bc0
  clear bc0
  have bc1 : Blk w_4 (w.heap.size + 1) 83 [.slice A1_0 n1_0 c1_0, .slice A1_1 n1_1 c1_1] := (by repeat (first | (with_reducible exact BX1.out) | (with_reducible refine Blk.drew ?_) | (with_reducible refine Blk.ext ?_ (by with_reducible assumption)) | (with_reducible refine Blk.out ?_ (by with_reducible assumption) ?ge; case ge => omega)))
  have lt1 := bc1.lt
  obtain ⟨q1_0, q1_1⟩ := blk2 bc1
  clear bc1
  have bcLw3 : Blk w_4 (gz_3) 87 [.slice A_3_0 n_3_0 c_3_0, .slice A_3_1 n_3_1 c_3_1] := (by repeat (first | (with_reducible exact BXLw3.out) | (with_reducible refine Blk.drew ?_) | (with_reducible refine Blk.ext ?_ (by with_reducible assumption)) | (with_reducible refine Blk.out ?_ (by with_reducible assumption) ?ge; case ge => omega)))
  have ltLw3 := bcLw3.lt
  obtain ⟨qLw3_0, qLw3_1⟩ := blk2 bcLw3
  clear bcLw3
  go_wp2_with fail
  clear q0_0 q0_1 q1_0 q1_1 qLw3_0 qLw3_1 lt0 lt1 ltLw3
  have bxLw4 : Blk (w_4.alloc (.cells #[.slice A_4_0 n_4_0 c_4_0, .slice A_4_1 n_4_1 c_4_1] 73)) w_4.heap.size 73 [.slice A_4_0 n_4_0 c_4_0, .slice A_4_1 n_4_1 c_4_1] := Blk.new _ _ _
  have BXLw4 := Lib.hid bxLw4; clear bxLw4
  have ewLw4 : Ext w_4 (w_4.alloc (.cells #[.slice A_4_0 n_4_0 c_4_0, .slice A_4_1 n_4_1 c_4_1] 73)) := (Ext.refl _).alloc _
  have zwLw4 : w_4.heap.size + 1 ≤ (w_4.alloc (.cells #[.slice A_4_0 n_4_0 c_4_0, .slice A_4_1 n_4_1 c_4_1] 73)).heap.size := by simp only [World.size_alloc]; omega
  generalize (w_4.alloc (.cells #[.slice A_4_0 n_4_0 c_4_0, .slice A_4_1 n_4_1 c_4_1] 73)) = w_4b at *
  refine (toSegmentDatabase (.agg #[.slice A1_0 n1_0 c1_0, .slice A1_1 n1_1 c1_1]) x1 _ (by exact H1.out.ext (by repeat (first | (with_reducible exact Ext.refl _) | (with_reducible assumption) | (with_reducible refine Ext.alloc ?_ _) | (with_reducible refine Ext.drew ?_) | (with_reducible refine Ext.out ?_ (by with_reducible assumption) ?ge; case ge => omega) | (with_reducible refine Ext.trans ?_ (by with_reducible assumption))))) (by omega)).mono ?_
  rintro e w_5 ⟨u_5, rfl, o_5, e_5⟩
  have z_5 := e_5.size
  have O_5 := Lib.hid o_5; clear o_5
  obtain ⟨A_5_0, n_5_0, c_5_0, A_5_1, n_5_1, c_5_1, hv_5⟩ := O_5.out.shape
  subst hv_5
  have bc0 : Blk w_5 (w.heap.size) 63 [.slice A0_0 n0_0 c0_0, .slice A0_1 n0_1 c0_1] := (by repeat (first | (with_reducible exact BX0.out) | (with_reducible refine Blk.drew ?_) | (with_reducible refine Blk.ext ?_ (by with_reducible assumption)) | (with_reducible refine Blk.out ?_ (by with_reducible assumption) ?ge; case ge => omega)))
  have lt0 := bc0.lt
  obtain ⟨q0_0, q0_1⟩ := blk2 bc0
  clear bc0
  have bc1 : Blk w_5 (w.heap.size + 1) 83 [.slice A1_0 n1_0 c1_0, .slice A1_1 n1_1 c1_1] := (by repeat (first | (with_reducible exact BX1.out) | (with_reducible refine Blk.drew ?_) | (with_reducible refine Blk.ext ?_ (by with_reducible assumption)) | (with_reducible refine Blk.out ?_ (by with_reducible assumption) ?ge; case ge => omega)))
  have lt1 := bc1.lt
  obtain ⟨q1_0, q1_1⟩ := blk2 bc1
  clear bc1
  have bcLw3 : Blk w_5 (gz_3) 87 [.slice A_3_0 n_3_0 c_3_0, .slice A_3_1 n_3_1 c_3_1] := (by repeat (first | (with_reducible exact BXLw3.out) | (with_reducible refine Blk.drew ?_) | (with_reducible refine Blk.ext ?_ (by with_reducible assumption)) | (with_reducible refine Blk.out ?_ (by with_reducible assumption) ?ge; case ge => omega)))
  have ltLw3 := bcLw3.lt
  obtain ⟨qLw3_0, qLw3_1⟩ := blk2 bcLw3
  clear bcLw3
  have bcLw4 : Blk w_5 (w_4.heap.size) 73 [.slice A_4_0 n_4_0 c_4_0, .slice A_4_1 n_4_1 c_4_1] := (by repeat (first | (with_reducible exact BXLw4.out) | (with_reducible refine Blk.drew ?_) | (with_reducible refine Blk.ext ?_ (by with_reducible assumption)) | (with_reducible refine Blk.out ?_ (by with_reducible assumption) ?ge; case ge => omega)))
  have ltLw4 := bcLw4.lt
  obtain ⟨qLw4_0, qLw4_1⟩ := blk2 bcLw4
  clear bcLw4
  go_wp2_with fail
  clear q0_0 q0_1 q1_0 q1_1 qLw3_0 qLw3_1 qLw4_0 qLw4_1 lt0 lt1 ltLw3 ltLw4
  have bxLw5 : Blk (w_5.alloc (.cells #[.slice A_5_0 n_5_0 c_5_0, .slice A_5_1 n_5_1 c_5_1] 87)) w_5.heap.size 87 [.slice A_5_0 n_5_0 c_5_0, .slice A_5_1 n_5_1 c_5_1] := Blk.new _ _ _
  have BXLw5 := Lib.hid bxLw5; clear bxLw5
  have ewLw5 : Ext w_5 (w_5.alloc (.cells #[.slice A_5_0 n_5_0 c_5_0, .slice A_5_1 n_5_1 c_5_1] 87)) := (Ext.refl _).alloc _
  have zwLw5 : w_5.heap.size + 1 ≤ (w_5.alloc (.cells #[.slice A_5_0 n_5_0 c_5_0, .slice A_5_1 n_5_1 c_5_1] 87)).heap.size := by simp only [World.size_alloc]; omega
  generalize (w_5.alloc (.cells #[.slice A_5_0 n_5_0 c_5_0, .slice A_5_1 n_5_1 c_5_1] 87)) = w_5b at *
  refine (impl_UsableSegments _ _ a2 x0 x1 _ (by exact TopologyO_rd (lo := w_3b.heap.size) (hi := w_4.heap.size) (by repeat (first | (with_reducible exact O_4.out) | (with_reducible refine TopologyO.drew ?_) | (with_reducible refine TopologyO.ext ?_ (by with_reducible assumption) ?ge; case ge => first | omega | (simp only [World.size_drew]; omega)) | (with_reducible refine TopologyO.out ?_ (by with_reducible assumption) ?ge; case ge => omega))) (by omega)) (by exact SegmentDatabaseO_rd (lo := w_4b.heap.size) (hi := w_5.heap.size) (by repeat (first | (with_reducible exact O_5.out) | (with_reducible refine SegmentDatabaseO.drew ?_) | (with_reducible refine SegmentDatabaseO.ext ?_ (by with_reducible assumption) ?ge; case ge => first | omega | (simp only [World.size_drew]; omega)) | (with_reducible refine SegmentDatabaseO.out ?_ (by with_reducible assumption) ?ge; case ge => omega))) (by omega)) (by exact hb1)).mono ?_
  rintro e w_6 ⟨u_6, rfl, o_6, e_6⟩
  have z_6 := e_6.size
  have O_6 := Lib.hid o_6; clear o_6
  obtain ⟨A_6_0, n_6_0, c_6_0, A_6_1, n_6_1, c_6_1, hv_6⟩ := O_6.out.shape
  subst hv_6
  have bc0 : Blk w_6 (w.heap.size) 63 [.slice A0_0 n0_0 c0_0, .slice A0_1 n0_1 c0_1] := (by repeat (first | (with_reducible exact BX0.out) | (with_reducible refine Blk.drew ?_) | (with_reducible refine Blk.ext ?_ (by with_reducible assumption)) | (with_reducible refine Blk.out ?_ (by with_reducible assumption) ?ge; case ge => omega)))
  have lt0 := bc0.lt
  obtain ⟨q0_0, q0_1⟩ := blk2 bc0
  clear bc0
  have bc1 : Blk w_6 (w.heap.size + 1) 83 [.slice A1_0 n1_0 c1_0, .slice A1_1 n1_1 c1_1] := (by repeat (first | (with_reducible exact BX1.out) | (with_reducible refine Blk.drew ?_) | (with_reducible refine Blk.ext ?_ (by with_reducible assumption)) | (with_reducible refine Blk.out ?_ (by with_reducible assumption) ?ge; case ge => omega)))
  have lt1 := bc1.lt
  obtain ⟨q1_0, q1_1⟩ := blk2 bc1
  clear bc1
  have bcLw3 : Blk w_6 (gz_3) 87 [.slice A_3_0 n_3_0 c_3_0, .slice A_3_1 n_3_1 c_3_1] := (by repeat (first | (with_reducible exact BXLw3.out) | (with_reducible refine Blk.drew ?_) | (with_reducible refine Blk.ext ?_ (by with_reducible assumption)) | (with_reducible refine Blk.out ?_ (by with_reducible assumption) ?ge; case ge => omega)))
  have ltLw3 := bcLw3.lt
  obtain ⟨qLw3_0, qLw3_1⟩ := blk2 bcLw3
  clear bcLw3
  have bcLw4 : Blk w_6 (w_4.heap.size) 73 [.slice A_4_0 n_4_0 c_4_0, .slice A_4_1 n_4_1 c_4_1] := (by repeat (first | (with_reducible exact BXLw4.out) | (with_reducible refine Blk.drew ?_) | (with_reducible refine Blk.ext ?_ (by with_reducible assumption)) | (with_reducible refine Blk.out ?_ (by with_reducible assumption) ?ge; case ge => omega)))
  have ltLw4 := bcLw4.lt
  obtain ⟨qLw4_0, qLw4_1⟩ := blk2 bcLw4
  clear bcLw4
  have bcLw5 : Blk w_6 (w_5.heap.size) 87 [.slice A_5_0 n_5_0 c_5_0, .slice A_5_1 n_5_1 c_5_1] := (by repeat (first | (with_reducible exact BXLw5.out) | (with_reducible refine Blk.drew ?_) | (with_reducible refine Blk.ext ?_ (by with_reducible assumption)) | (with_reducible refine Blk.out ?_ (by with_reducible assumption) ?ge; case ge => omega)))
  have ltLw5 := bcLw5.lt
  obtain ⟨qLw5_0, qLw5_1⟩ := blk2 bcLw5
  clear bcLw5
  go_wp2_with fail
  clear q0_0 q0_1 q1_0 q1_1 qLw3_0 qLw3_1 qLw4_0 qLw4_1 qLw5_0 qLw5_1 lt0 lt1 ltLw3 ltLw4 ltLw5
  have bxLw6 : Blk (w_6.alloc (.cells #[.slice A_6_0 n_6_0 c_6_0, .slice A_6_1 n_6_1 c_6_1] 87)) w_6.heap.size 87 [.slice A_6_0 n_6_0 c_6_0, .slice A_6_1 n_6_1 c_6_1] := Blk.new _ _ _
  have BXLw6 := Lib.hid bxLw6; clear bxLw6
  have ewLw6 : Ext w_6 (w_6.alloc (.cells #[.slice A_6_0 n_6_0 c_6_0, .slice A_6_1 n_6_1 c_6_1] 87)) := (Ext.refl _).alloc _
  have zwLw6 : w_6.heap.size + 1 ≤ (w_6.alloc (.cells #[.slice A_6_0 n_6_0 c_6_0, .slice A_6_1 n_6_1 c_6_1] 87)).heap.size := by simp only [World.size_alloc]; omega
  generalize (w_6.alloc (.cells #[.slice A_6_0 n_6_0 c_6_0, .slice A_6_1 n_6_1 c_6_1] 87)) = w_6b at *
  have S_3 := Lib.hid (SegmentDatabaseO_rd O_3.out (Nat.le_refl _))
  refine (eqSegmentDatabase _ _ (usableDb x0 x1 a2) (usableDb x0 x1 a2) _ (by exact SegmentDatabaseO_rd (lo := w_5b.heap.size) (hi := w_6.heap.size) (by repeat (first | (with_reducible exact O_6.out) | (with_reducible refine SegmentDatabaseO.drew ?_) | (with_reducible refine SegmentDatabaseO.ext ?_ (by with_reducible assumption) ?ge; case ge => first | omega | (simp only [World.size_drew]; omega)) | (with_reducible refine SegmentDatabaseO.out ?_ (by with_reducible assumption) ?ge; case ge => omega))) (by omega)) (by exact S_3.out.ext (by repeat (first | (with_reducible exact Ext.refl _) | (with_reducible assumption) | (with_reducible refine Ext.alloc ?_ _) | (with_reducible refine Ext.drew ?_) | (with_reducible refine Ext.out ?_ (by with_reducible assumption) ?ge; case ge => omega) | (with_reducible refine Ext.trans ?_ (by with_reducible assumption)))))).mono ?_
  rintro e w_7 ⟨rfl, e_7⟩
  have z_7 := e_7.size
  try rw [decide_eq_true rfl]
  have bc0 : Blk w_7 (w.heap.size) 63 [.slice A0_0 n0_0 c0_0, .slice A0_1 n0_1 c0_1] := (by repeat (first | (with_reducible exact BX0.out) | (with_reducible refine Blk.drew ?_) | (with_reducible refine Blk.ext ?_ (by with_reducible assumption)) | (with_reducible refine Blk.out ?_ (by with_reducible assumption) ?ge; case ge => omega)))
  obtain ⟨q0_0, q0_1⟩ := blk2 bc0
  clear bc0
  have bc1 : Blk w_7 (w.heap.size + 1) 83 [.slice A1_0 n1_0 c1_0, .slice A1_1 n1_1 c1_1] := (by repeat (first | (with_reducible exact BX1.out) | (with_reducible refine Blk.drew ?_) | (with_reducible refine Blk.ext ?_ (by with_reducible assumption)) | (with_reducible refine Blk.out ?_ (by with_reducible assumption) ?ge; case ge => omega)))
  obtain ⟨q1_0, q1_1⟩ := blk2 bc1
  clear bc1
  have bcLw3 : Blk w_7 (gz_3) 87 [.slice A_3_0 n_3_0 c_3_0, .slice A_3_1 n_3_1 c_3_1] := (by repeat (first | (with_reducible exact BXLw3.out) | (with_reducible refine Blk.drew ?_) | (with_reducible refine Blk.ext ?_ (by with_reducible assumption)) | (with_reducible refine Blk.out ?_ (by with_reducible assumption) ?ge; case ge => omega)))
  obtain ⟨qLw3_0, qLw3_1⟩ := blk2 bcLw3
  clear bcLw3
  have bcLw4 : Blk w_7 (w_4.heap.size) 73 [.slice A_4_0 n_4_0 c_4_0, .slice A_4_1 n_4_1 c_4_1] := (by repeat (first | (with_reducible exact BXLw4.out) | (with_reducible refine Blk.drew ?_) | (with_reducible refine Blk.ext ?_ (by with_reducible assumption)) | (with_reducible refine Blk.out ?_ (by with_reducible assumption) ?ge; case ge => omega)))
  obtain ⟨qLw4_0, qLw4_1⟩ := blk2 bcLw4
  clear bcLw4
  have bcLw5 : Blk w_7 (w_5.heap.size) 87 [.slice A_5_0 n_5_0 c_5_0, .slice A_5_1 n_5_1 c_5_1] := (by repeat (first | (with_reducible exact BXLw5.out) | (with_reducible refine Blk.drew ?_) | (with_reducible refine Blk.ext ?_ (by with_reducible assumption)) | (with_reducible refine Blk.out ?_ (by with_reducible assumption) ?ge; case ge => omega)))
  obtain ⟨qLw5_0, qLw5_1⟩ := blk2 bcLw5
  clear bcLw5
  have bcLw6 : Blk w_7 (w_6.heap.size) 87 [.slice A_6_0 n_6_0 c_6_0, .slice A_6_1 n_6_1 c_6_1] := (by repeat (first | (with_reducible exact BXLw6.out) | (with_reducible refine Blk.drew ?_) | (with_reducible refine Blk.ext ?_ (by with_reducible assumption)) | (with_reducible refine Blk.out ?_ (by with_reducible assumption) ?ge; case ge => omega)))
  obtain ⟨qLw6_0, qLw6_1⟩ := blk2 bcLw6
  clear bcLw6
  go_wp2_with fail
  clear q0_0 q0_1 q1_0 q1_1 qLw3_0 qLw3_1 qLw4_0 qLw4_1 qLw5_0 qLw5_1 qLw6_0 qLw6_1
  have bc0 : Blk w_7 (w.heap.size) 63 [.slice A0_0 n0_0 c0_0, .slice A0_1 n0_1 c0_1] := (by repeat (first | (with_reducible exact BX0.out) | (with_reducible refine Blk.drew ?_) | (with_reducible refine Blk.ext ?_ (by with_reducible assumption)) | (with_reducible refine Blk.out ?_ (by with_reducible assumption) ?ge; case ge => omega)))
  have lt0 := bc0.lt
  obtain ⟨q0_0, q0_1⟩ := blk2 bc0
  clear bc0
  have bc1 : Blk w_7 (w.heap.size + 1) 83 [.slice A1_0 n1_0 c1_0, .slice A1_1 n1_1 c1_1] := (by repeat (first | (with_reducible exact BX1.out) | (with_reducible refine Blk.drew ?_) | (with_reducible refine Blk.ext ?_ (by with_reducible assumption)) | (with_reducible refine Blk.out ?_ (by with_reducible assumption) ?ge; case ge => omega)))
  have lt1 := bc1.lt
  obtain ⟨q1_0, q1_1⟩ := blk2 bc1
  clear bc1
  have bcLw3 : Blk w_7 (gz_3) 87 [.slice A_3_0 n_3_0 c_3_0, .slice A_3_1 n_3_1 c_3_1] := (by repeat (first | (with_reducible exact BXLw3.out) | (with_reducible refine Blk.drew ?_) | (with_reducible refine Blk.ext ?_ (by with_reducible assumption)) | (with_reducible refine Blk.out ?_ (by with_reducible assumption) ?ge; case ge => omega)))
  have ltLw3 := bcLw3.lt
  obtain ⟨qLw3_0, qLw3_1⟩ := blk2 bcLw3
  clear bcLw3
  have bcLw4 : Blk w_7 (w_4.heap.size) 73 [.slice A_4_0 n_4_0 c_4_0, .slice A_4_1 n_4_1 c_4_1] := (by repeat (first | (with_reducible exact BXLw4.out) | (with_reducible refine Blk.drew ?_) | (with_reducible refine Blk.ext ?_ (by with_reducible assumption)) | (with_reducible refine Blk.out ?_ (by with_reducible assumption) ?ge; case ge => omega)))
  have ltLw4 := bcLw4.lt
  obtain ⟨qLw4_0, qLw4_1⟩ := blk2 bcLw4
  clear bcLw4
  have bcLw5 : Blk w_7 (w_5.heap.size) 87 [.slice A_5_0 n_5_0 c_5_0, .slice A_5_1 n_5_1 c_5_1] := (by repeat (first | (with_reducible exact BXLw5.out) | (with_reducible refine Blk.drew ?_) | (with_reducible refine Blk.ext ?_ (by with_reducible assumption)) | (with_reducible refine Blk.out ?_ (by with_reducible assumption) ?ge; case ge => omega)))
  have ltLw5 := bcLw5.lt
  obtain ⟨qLw5_0, qLw5_1⟩ := blk2 bcLw5
  clear bcLw5
  have bcLw6 : Blk w_7 (w_6.heap.size) 87 [.slice A_6_0 n_6_0 c_6_0, .slice A_6_1 n_6_1 c_6_1] := (by repeat (first | (with_reducible exact BXLw6.out) | (with_reducible refine Blk.drew ?_) | (with_reducible refine Blk.ext ?_ (by with_reducible assumption)) | (with_reducible refine Blk.out ?_ (by with_reducible assumption) ?ge; case ge => omega)))
  have ltLw6 := bcLw6.lt
  obtain ⟨qLw6_0, qLw6_1⟩ := blk2 bcLw6
  clear bcLw6
  go_region_held3 (fun W => w_7.heap.size ≤ W.heap.size ∧ ∀ b o, b < w_7.heap.size → W.cell? ⟨b, o, none⟩ = w_7.cell? ⟨b, o, none⟩)
    (first | exact ⟨Nat.le_refl _, fun _ _ _ => rfl⟩ | exact keepC (by assumption) e_9 | exact keepC (by assumption) e_8)
    (first | (go_at_call 34; (with_reducible refine Calls.mono (toTopology (.agg #[.slice A0_0 n0_0 c0_0, .slice A0_1 n0_1 c0_1]) x0 _ ?s0 ?s1) ?_); (case s0 => exact H0.out.ext (by repeat (first | (with_reducible exact Ext.refl _) | (with_reducible assumption) | (with_reducible refine Ext.alloc ?_ _) | (with_reducible refine Ext.drew ?_) | (with_reducible refine Ext.out ?_ (by with_reducible assumption) ?ge; case ge => omega) | (with_reducible refine Ext.trans ?_ (by with_reducible assumption))))); (case s1 => omega); rintro e w_8 ⟨u_8, rfl, o_8, e_8⟩; have z_8 : w_7.heap.size ≤ w_8.heap.size := e_8.size; have o_8 : TopologyO w_7.heap.size w_8.heap.size w_8 _ _ := o_8) | (go_at_call 37; (with_reducible refine Calls.mono (eqTopology _ _ x0 x0 _ ?s0 ?s1) ?_); (case s0 => exact TopologyO_rd (lo := w_3b.heap.size) (hi := w_4.heap.size) (by repeat (first | (with_reducible exact O_4.out) | (with_reducible refine TopologyO.drew ?_) | (with_reducible refine TopologyO.ext ?_ (by with_reducible assumption) ?ge; case ge => first | omega | (simp only [World.size_drew]; omega)) | (with_reducible refine TopologyO.out ?_ (by with_reducible assumption) ?ge; case ge => omega))) (by omega)); (case s1 => exact TopologyO_rd (lo := w_7.heap.size) (hi := w_8.heap.size) (by repeat (first | (with_reducible exact o_8) | (with_reducible refine TopologyO.drew ?_) | (with_reducible refine TopologyO.ext ?_ (by with_reducible assumption) ?ge; case ge => first | omega | (simp only [World.size_drew]; omega)) | (with_reducible refine TopologyO.out ?_ (by with_reducible assumption) ?ge; case ge => omega))) (by omega)); rintro e w_9 ⟨rfl, e_9⟩; have z_9 := e_9.size))
  clear q0_0 q0_1 q1_0 q1_1 qLw3_0 qLw3_1 qLw4_0 qLw4_1 qLw5_0 qLw5_1 qLw6_0 qLw6_1 lt0 lt1 ltLw3 ltLw4 ltLw5 ltLw6
  have O_8 := Lib.hid o_8; clear o_8
  obtain ⟨A_8_0, n_8_0, c_8_0, A_8_1, n_8_1, c_8_1, hv_8⟩ := O_8.out.shape
  subst hv_8
  try rw [decide_eq_true rfl]
  have bc0 : Blk w_9 (w.heap.size) 63 [.slice A0_0 n0_0 c0_0, .slice A0_1 n0_1 c0_1] := (by repeat (first | (with_reducible exact BX0.out) | (with_reducible refine Blk.drew ?_) | (with_reducible refine Blk.ext ?_ (by with_reducible assumption)) | (with_reducible refine Blk.out ?_ (by with_reducible assumption) ?ge; case ge => omega)))
  obtain ⟨q0_0, q0_1⟩ := blk2 bc0
  clear bc0
  have bc1 : Blk w_9 (w.heap.size + 1) 83 [.slice A1_0 n1_0 c1_0, .slice A1_1 n1_1 c1_1] := (by repeat (first | (with_reducible exact BX1.out) | (with_reducible refine Blk.drew ?_) | (with_reducible refine Blk.ext ?_ (by with_reducible assumption)) | (with_reducible refine Blk.out ?_ (by with_reducible assumption) ?ge; case ge => omega)))
  obtain ⟨q1_0, q1_1⟩ := blk2 bc1
  clear bc1
  have bcLw3 : Blk w_9 (gz_3) 87 [.slice A_3_0 n_3_0 c_3_0, .slice A_3_1 n_3_1 c_3_1] := (by repeat (first | (with_reducible exact BXLw3.out) | (with_reducible refine Blk.drew ?_) | (with_reducible refine Blk.ext ?_ (by with_reducible assumption)) | (with_reducible refine Blk.out ?_ (by with_reducible assumption) ?ge; case ge => omega)))
  obtain ⟨qLw3_0, qLw3_1⟩ := blk2 bcLw3
  clear bcLw3
  have bcLw4 : Blk w_9 (w_4.heap.size) 73 [.slice A_4_0 n_4_0 c_4_0, .slice A_4_1 n_4_1 c_4_1] := (by repeat (first | (with_reducible exact BXLw4.out) | (with_reducible refine Blk.drew ?_) | (with_reducible refine Blk.ext ?_ (by with_reducible assumption)) | (with_reducible refine Blk.out ?_ (by with_reducible assumption) ?ge; case ge => omega)))
  obtain ⟨qLw4_0, qLw4_1⟩ := blk2 bcLw4
  clear bcLw4
  have bcLw5 : Blk w_9 (w_5.heap.size) 87 [.slice A_5_0 n_5_0 c_5_0, .slice A_5_1 n_5_1 c_5_1] := (by repeat (first | (with_reducible exact BXLw5.out) | (with_reducible refine Blk.drew ?_) | (with_reducible refine Blk.ext ?_ (by with_reducible assumption)) | (with_reducible refine Blk.out ?_ (by with_reducible assumption) ?ge; case ge => omega)))
  obtain ⟨qLw5_0, qLw5_1⟩ := blk2 bcLw5
  clear bcLw5
  have bcLw6 : Blk w_9 (w_6.heap.size) 87 [.slice A_6_0 n_6_0 c_6_0, .slice A_6_1 n_6_1 c_6_1] := (by repeat (first | (with_reducible exact BXLw6.out) | (with_reducible refine Blk.drew ?_) | (with_reducible refine Blk.ext ?_ (by with_reducible assumption)) | (with_reducible refine Blk.out ?_ (by with_reducible assumption) ?ge; case ge => omega)))
  obtain ⟨qLw6_0, qLw6_1⟩ := blk2 bcLw6
  clear bcLw6
  go_wp2_with fail
  clear q0_0 q0_1 q1_0 q1_1 qLw3_0 qLw3_1 qLw4_0 qLw4_1 qLw5_0 qLw5_1 qLw6_0 qLw6_1
  have bc0 : Blk w_9 (w.heap.size) 63 [.slice A0_0 n0_0 c0_0, .slice A0_1 n0_1 c0_1] := (by repeat (first | (with_reducible exact BX0.out) | (with_reducible refine Blk.drew ?_) | (with_reducible refine Blk.ext ?_ (by with_reducible assumption)) | (with_reducible refine Blk.out ?_ (by with_reducible assumption) ?ge; case ge => omega)))
  have lt0 := bc0.lt
  obtain ⟨q0_0, q0_1⟩ := blk2 bc0
  clear bc0
  have bc1 : Blk w_9 (w.heap.size + 1) 83 [.slice A1_0 n1_0 c1_0, .slice A1_1 n1_1 c1_1] := (by repeat (first | (with_reducible exact BX1.out) | (with_reducible refine Blk.drew ?_) | (with_reducible refine Blk.ext ?_ (by with_reducible assumption)) | (with_reducible refine Blk.out ?_ (by with_reducible assumption) ?ge; case ge => omega)))
  have lt1 := bc1.lt
  obtain ⟨q1_0, q1_1⟩ := blk2 bc1
  clear bc1
  have bcLw3 : Blk w_9 (gz_3) 87 [.slice A_3_0 n_3_0 c_3_0, .slice A_3_1 n_3_1 c_3_1] := (by repeat (first | (with_reducible exact BXLw3.out) | (with_reducible refine Blk.drew ?_) | (with_reducible refine Blk.ext ?_ (by with_reducible assumption)) | (with_reducible refine Blk.out ?_ (by with_reducible assumption) ?ge; case ge => omega)))
  have ltLw3 := bcLw3.lt
  obtain ⟨qLw3_0, qLw3_1⟩ := blk2 bcLw3
  clear bcLw3
  have bcLw4 : Blk w_9 (w_4.heap.size) 73 [.slice A_4_0 n_4_0 c_4_0, .slice A_4_1 n_4_1 c_4_1] := (by repeat (first | (with_reducible exact BXLw4.out) | (with_reducible refine Blk.drew ?_) | (with_reducible refine Blk.ext ?_ (by with_reducible assumption)) | (with_reducible refine Blk.out ?_ (by with_reducible assumption) ?ge; case ge => omega)))
  have ltLw4 := bcLw4.lt
  obtain ⟨qLw4_0, qLw4_1⟩ := blk2 bcLw4
  clear bcLw4
  have bcLw5 : Blk w_9 (w_5.heap.size) 87 [.slice A_5_0 n_5_0 c_5_0, .slice A_5_1 n_5_1 c_5_1] := (by repeat (first | (with_reducible exact BXLw5.out) | (with_reducible refine Blk.drew ?_) | (with_reducible refine Blk.ext ?_ (by with_reducible assumption)) | (with_reducible refine Blk.out ?_ (by with_reducible assumption) ?ge; case ge => omega)))
  have ltLw5 := bcLw5.lt
  obtain ⟨qLw5_0, qLw5_1⟩ := blk2 bcLw5
  clear bcLw5
  have bcLw6 : Blk w_9 (w_6.heap.size) 87 [.slice A_6_0 n_6_0 c_6_0, .slice A_6_1 n_6_1 c_6_1] := (by repeat (first | (with_reducible exact BXLw6.out) | (with_reducible refine Blk.drew ?_) | (with_reducible refine Blk.ext ?_ (by with_reducible assumption)) | (with_reducible refine Blk.out ?_ (by with_reducible assumption) ?ge; case ge => omega)))
  have ltLw6 := bcLw6.lt
  obtain ⟨qLw6_0, qLw6_1⟩ := blk2 bcLw6
  clear bcLw6
  go_region_held3 (fun W => w_9.heap.size ≤ W.heap.size ∧ ∀ b o, b < w_9.heap.size → W.cell? ⟨b, o, none⟩ = w_9.cell? ⟨b, o, none⟩)
    (first | exact ⟨Nat.le_refl _, fun _ _ _ => rfl⟩ | exact keepC (by assumption) e_11 | exact keepC (by assumption) e_10)
    (first | (go_at_call 40; (with_reducible refine Calls.mono (toSegmentDatabase (.agg #[.slice A1_0 n1_0 c1_0, .slice A1_1 n1_1 c1_1]) x1 _ ?s0 ?s1) ?_); (case s0 => exact H1.out.ext (by repeat (first | (with_reducible exact Ext.refl _) | (with_reducible assumption) | (with_reducible refine Ext.alloc ?_ _) | (with_reducible refine Ext.drew ?_) | (with_reducible refine Ext.out ?_ (by with_reducible assumption) ?ge; case ge => omega) | (with_reducible refine Ext.trans ?_ (by with_reducible assumption))))); (case s1 => omega); rintro e w_10 ⟨u_10, rfl, o_10, e_10⟩; have z_10 : w_9.heap.size ≤ w_10.heap.size := e_10.size; have o_10 : SegmentDatabaseO w_9.heap.size w_10.heap.size w_10 _ _ := o_10) | (go_at_call 42; (with_reducible refine Calls.mono (eqSegmentDatabase _ _ x1 x1 _ ?s0 ?s1) ?_); (case s0 => exact SegmentDatabaseO_rd (lo := w_4b.heap.size) (hi := w_5.heap.size) (by repeat (first | (with_reducible exact O_5.out) | (with_reducible refine SegmentDatabaseO.drew ?_) | (with_reducible refine SegmentDatabaseO.ext ?_ (by with_reducible assumption) ?ge; case ge => first | omega | (simp only [World.size_drew]; omega)) | (with_reducible refine SegmentDatabaseO.out ?_ (by with_reducible assumption) ?ge; case ge => omega))) (by omega)); (case s1 => exact SegmentDatabaseO_rd (lo := w_9.heap.size) (hi := w_10.heap.size) (by repeat (first | (with_reducible exact o_10) | (with_reducible refine SegmentDatabaseO.drew ?_) | (with_reducible refine SegmentDatabaseO.ext ?_ (by with_reducible assumption) ?ge; case ge => first | omega | (simp only [World.size_drew]; omega)) | (with_reducible refine SegmentDatabaseO.out ?_ (by with_reducible assumption) ?ge; case ge => omega))) (by omega)); rintro e w_11 ⟨rfl, e_11⟩; have z_11 := e_11.size))
  clear q0_0 q0_1 q1_0 q1_1 qLw3_0 qLw3_1 qLw4_0 qLw4_1 qLw5_0 qLw5_1 qLw6_0 qLw6_1 lt0 lt1 ltLw3 ltLw4 ltLw5 ltLw6
  have O_10 := Lib.hid o_10; clear o_10
  obtain ⟨A_10_0, n_10_0, c_10_0, A_10_1, n_10_1, c_10_1, hv_10⟩ := O_10.out.shape
  subst hv_10
  try rw [decide_eq_true rfl]
  have bc0 : Blk w_11 (w.heap.size) 63 [.slice A0_0 n0_0 c0_0, .slice A0_1 n0_1 c0_1] := (by repeat (first | (with_reducible exact BX0.out) | (with_reducible refine Blk.drew ?_) | (with_reducible refine Blk.ext ?_ (by with_reducible assumption)) | (with_reducible refine Blk.out ?_ (by with_reducible assumption) ?ge; case ge => omega)))
  obtain ⟨q0_0, q0_1⟩ := blk2 bc0
  clear bc0
  have bc1 : Blk w_11 (w.heap.size + 1) 83 [.slice A1_0 n1_0 c1_0, .slice A1_1 n1_1 c1_1] := (by repeat (first | (with_reducible exact BX1.out) | (with_reducible refine Blk.drew ?_) | (with_reducible refine Blk.ext ?_ (by with_reducible assumption)) | (with_reducible refine Blk.out ?_ (by with_reducible assumption) ?ge; case ge => omega)))
  obtain ⟨q1_0, q1_1⟩ := blk2 bc1
  clear bc1
  have bcLw3 : Blk w_11 (gz_3) 87 [.slice A_3_0 n_3_0 c_3_0, .slice A_3_1 n_3_1 c_3_1] := (by repeat (first | (with_reducible exact BXLw3.out) | (with_reducible refine Blk.drew ?_) | (with_reducible refine Blk.ext ?_ (by with_reducible assumption)) | (with_reducible refine Blk.out ?_ (by with_reducible assumption) ?ge; case ge => omega)))
  obtain ⟨qLw3_0, qLw3_1⟩ := blk2 bcLw3
  clear bcLw3
  have bcLw4 : Blk w_11 (w_4.heap.size) 73 [.slice A_4_0 n_4_0 c_4_0, .slice A_4_1 n_4_1 c_4_1] := (by repeat (first | (with_reducible exact BXLw4.out) | (with_reducible refine Blk.drew ?_) | (with_reducible refine Blk.ext ?_ (by with_reducible assumption)) | (with_reducible refine Blk.out ?_ (by with_reducible assumption) ?ge; case ge => omega)))
  obtain ⟨qLw4_0, qLw4_1⟩ := blk2 bcLw4
  clear bcLw4
  have bcLw5 : Blk w_11 (w_5.heap.size) 87 [.slice A_5_0 n_5_0 c_5_0, .slice A_5_1 n_5_1 c_5_1] := (by repeat (first | (with_reducible exact BXLw5.out) | (with_reducible refine Blk.drew ?_) | (with_reducible refine Blk.ext ?_ (by with_reducible assumption)) | (with_reducible refine Blk.out ?_ (by with_reducible assumption) ?ge; case ge => omega)))
  obtain ⟨qLw5_0, qLw5_1⟩ := blk2 bcLw5
  clear bcLw5
  have bcLw6 : Blk w_11 (w_6.heap.size) 87 [.slice A_6_0 n_6_0 c_6_0, .slice A_6_1 n_6_1 c_6_1] := (by repeat (first | (with_reducible exact BXLw6.out) | (with_reducible refine Blk.drew ?_) | (with_reducible refine Blk.ext ?_ (by with_reducible assumption)) | (with_reducible refine Blk.out ?_ (by with_reducible assumption) ?ge; case ge => omega)))
  obtain ⟨qLw6_0, qLw6_1⟩ := blk2 bcLw6
  clear bcLw6
  go_wp2_with fail
  clear q0_0 q0_1 q1_0 q1_1 qLw3_0 qLw3_1 qLw4_0 qLw4_1 qLw5_0 qLw5_1 qLw6_0 qLw6_1
  have hcnt1_324 := SegmentCnt_sum x1.down
  have hcnt1_325 := SegmentCnt_sum x1.core
  have hcntr_326 := SegmentCnt_sum (usableDb x0 x1 a2).down
  have hcntr_327 := SegmentCnt_sum (usableDb x0 x1 a2).core
  have hres : ((0 + ((usableDb x0 x1 a2).down.map SegmentCnt).sum) + ((usableDb x0 x1 a2).core.map SegmentCnt).sum) ≤ 100000000000 := by have h1 : totS (fun y => y.hops.length) (usableDb x0 x1 a2).down ≤ totS (fun y => y.hops.length) x1.down := totS_filter _ _ _; have h2 : totS (fun y => y.hops.length) (usableDb x0 x1 a2).core ≤ totS (fun y => y.hops.length) x1.core := totS_filter _ _ _; omega
  refine (markTopology _ (x0) 1 w_3b.heap.size w_4.heap.size _ (by exact (by repeat (first | (with_reducible exact O_4.out) | (with_reducible refine TopologyO.drew ?_) | (with_reducible refine TopologyO.ext ?_ (by with_reducible assumption) ?ge; case ge => first | omega | (simp only [World.size_drew]; omega)) | (with_reducible refine TopologyO.out ?_ (by with_reducible assumption) ?ge; case ge => omega)))) (by omega) (by omega)).mono ?_
  rintro e w_12 ⟨rfl, o_12, e_12⟩
  have z_12 := e_12.size
  have O_12 := Lib.hid o_12; clear o_12
  have bc0 : Blk w_12 (w.heap.size) 63 [.slice A0_0 n0_0 c0_0, .slice A0_1 n0_1 c0_1] := (by repeat (first | (with_reducible exact BX0.out) | (with_reducible refine Blk.drew ?_) | (with_reducible refine Blk.ext ?_ (by with_reducible assumption)) | (with_reducible refine Blk.out ?_ (by with_reducible assumption) ?ge; case ge => omega)))
  obtain ⟨q0_0, q0_1⟩ := blk2 bc0
  clear bc0
  have bc1 : Blk w_12 (w.heap.size + 1) 83 [.slice A1_0 n1_0 c1_0, .slice A1_1 n1_1 c1_1] := (by repeat (first | (with_reducible exact BX1.out) | (with_reducible refine Blk.drew ?_) | (with_reducible refine Blk.ext ?_ (by with_reducible assumption)) | (with_reducible refine Blk.out ?_ (by with_reducible assumption) ?ge; case ge => omega)))
  obtain ⟨q1_0, q1_1⟩ := blk2 bc1
  clear bc1
  have bcLw3 : Blk w_12 (gz_3) 87 [.slice A_3_0 n_3_0 c_3_0, .slice A_3_1 n_3_1 c_3_1] := (by repeat (first | (with_reducible exact BXLw3.out) | (with_reducible refine Blk.drew ?_) | (with_reducible refine Blk.ext ?_ (by with_reducible assumption)) | (with_reducible refine Blk.out ?_ (by with_reducible assumption) ?ge; case ge => omega)))
  obtain ⟨qLw3_0, qLw3_1⟩ := blk2 bcLw3
  clear bcLw3
  have bcLw4 : Blk w_12 (w_4.heap.size) 73 [.slice A_4_0 n_4_0 c_4_0, .slice A_4_1 n_4_1 c_4_1] := (by repeat (first | (with_reducible exact BXLw4.out) | (with_reducible refine Blk.drew ?_) | (with_reducible refine Blk.ext ?_ (by with_reducible assumption)) | (with_reducible refine Blk.out ?_ (by with_reducible assumption) ?ge; case ge => omega)))
  obtain ⟨qLw4_0, qLw4_1⟩ := blk2 bcLw4
  clear bcLw4
  have bcLw5 : Blk w_12 (w_5.heap.size) 87 [.slice A_5_0 n_5_0 c_5_0, .slice A_5_1 n_5_1 c_5_1] := (by repeat (first | (with_reducible exact BXLw5.out) | (with_reducible refine Blk.drew ?_) | (with_reducible refine Blk.ext ?_ (by with_reducible assumption)) | (with_reducible refine Blk.out ?_ (by with_reducible assumption) ?ge; case ge => omega)))
  obtain ⟨qLw5_0, qLw5_1⟩ := blk2 bcLw5
  clear bcLw5
  have bcLw6 : Blk w_12 (w_6.heap.size) 87 [.slice A_6_0 n_6_0 c_6_0, .slice A_6_1 n_6_1 c_6_1] := (by repeat (first | (with_reducible exact BXLw6.out) | (with_reducible refine Blk.drew ?_) | (with_reducible refine Blk.ext ?_ (by with_reducible assumption)) | (with_reducible refine Blk.out ?_ (by with_reducible assumption) ?ge; case ge => omega)))
  obtain ⟨qLw6_0, qLw6_1⟩ := blk2 bcLw6
  clear bcLw6
  go_wp2_with fail
  clear q0_0 q0_1 q1_0 q1_1 qLw3_0 qLw3_1 qLw4_0 qLw4_1 qLw5_0 qLw5_1 qLw6_0 qLw6_1
  refine (markSegmentDatabase _ (x1) ((1 + 3 * x0.ases.length) + 5 * x0.links.length) w_4b.heap.size w_5.heap.size _ (by exact (by repeat (first | (with_reducible exact O_5.out) | (with_reducible refine SegmentDatabaseO.drew ?_) | (with_reducible refine SegmentDatabaseO.ext ?_ (by with_reducible assumption) ?ge; case ge => first | omega | (simp only [World.size_drew]; omega)) | (with_reducible refine SegmentDatabaseO.out ?_ (by with_reducible assumption) ?ge; case ge => omega)))) (by omega) (by omega)).mono ?_
  rintro e w_13 ⟨rfl, o_13, e_13⟩
  have z_13 := e_13.size
  have O_13 := Lib.hid o_13; clear o_13
  have bc0 : Blk w_13 (w.heap.size) 63 [.slice A0_0 n0_0 c0_0, .slice A0_1 n0_1 c0_1] := (by repeat (first | (with_reducible exact BX0.out) | (with_reducible refine Blk.drew ?_) | (with_reducible refine Blk.ext ?_ (by with_reducible assumption)) | (with_reducible refine Blk.out ?_ (by with_reducible assumption) ?ge; case ge => omega)))
  obtain ⟨q0_0, q0_1⟩ := blk2 bc0
  clear bc0
  have bc1 : Blk w_13 (w.heap.size + 1) 83 [.slice A1_0 n1_0 c1_0, .slice A1_1 n1_1 c1_1] := (by repeat (first | (with_reducible exact BX1.out) | (with_reducible refine Blk.drew ?_) | (with_reducible refine Blk.ext ?_ (by with_reducible assumption)) | (with_reducible refine Blk.out ?_ (by with_reducible assumption) ?ge; case ge => omega)))
  obtain ⟨q1_0, q1_1⟩ := blk2 bc1
  clear bc1
  have bcLw3 : Blk w_13 (gz_3) 87 [.slice A_3_0 n_3_0 c_3_0, .slice A_3_1 n_3_1 c_3_1] := (by repeat (first | (with_reducible exact BXLw3.out) | (with_reducible refine Blk.drew ?_) | (with_reducible refine Blk.ext ?_ (by with_reducible assumption)) | (with_reducible refine Blk.out ?_ (by with_reducible assumption) ?ge; case ge => omega)))
  obtain ⟨qLw3_0, qLw3_1⟩ := blk2 bcLw3
  clear bcLw3
  have bcLw4 : Blk w_13 (w_4.heap.size) 73 [.slice A_4_0 n_4_0 c_4_0, .slice A_4_1 n_4_1 c_4_1] := (by repeat (first | (with_reducible exact BXLw4.out) | (with_reducible refine Blk.drew ?_) | (with_reducible refine Blk.ext ?_ (by with_reducible assumption)) | (with_reducible refine Blk.out ?_ (by with_reducible assumption) ?ge; case ge => omega)))
  obtain ⟨qLw4_0, qLw4_1⟩ := blk2 bcLw4
  clear bcLw4
  have bcLw5 : Blk w_13 (w_5.heap.size) 87 [.slice A_5_0 n_5_0 c_5_0, .slice A_5_1 n_5_1 c_5_1] := (by repeat (first | (with_reducible exact BXLw5.out) | (with_reducible refine Blk.drew ?_) | (with_reducible refine Blk.ext ?_ (by with_reducible assumption)) | (with_reducible refine Blk.out ?_ (by with_reducible assumption) ?ge; case ge => omega)))
  obtain ⟨qLw5_0, qLw5_1⟩ := blk2 bcLw5
  clear bcLw5
  have bcLw6 : Blk w_13 (w_6.heap.size) 87 [.slice A_6_0 n_6_0 c_6_0, .slice A_6_1 n_6_1 c_6_1] := (by repeat (first | (with_reducible exact BXLw6.out) | (with_reducible refine Blk.drew ?_) | (with_reducible refine Blk.ext ?_ (by with_reducible assumption)) | (with_reducible refine Blk.out ?_ (by with_reducible assumption) ?ge; case ge => omega)))
  obtain ⟨qLw6_0, qLw6_1⟩ := blk2 bcLw6
  clear bcLw6
  go_wp2_with fail
  clear q0_0 q0_1 q1_0 q1_1 qLw3_0 qLw3_1 qLw4_0 qLw4_1 qLw5_0 qLw5_1 qLw6_0 qLw6_1
  refine (eqSegmentDatabase _ _ (usableDb x0 x1 a2) (usableDb x0 x1 a2) _ (by exact SegmentDatabaseO_rd (lo := w_5b.heap.size) (hi := w_6.heap.size) (by repeat (first | (with_reducible exact O_6.out) | (with_reducible refine SegmentDatabaseO.drew ?_) | (with_reducible refine SegmentDatabaseO.ext ?_ (by with_reducible assumption) ?ge; case ge => first | omega | (simp only [World.size_drew]; omega)) | (with_reducible refine SegmentDatabaseO.out ?_ (by with_reducible assumption) ?ge; case ge => omega))) (by omega)) (by exact S_3.out.ext (by repeat (first | (with_reducible exact Ext.refl _) | (with_reducible assumption) | (with_reducible refine Ext.alloc ?_ _) | (with_reducible refine Ext.drew ?_) | (with_reducible refine Ext.out ?_ (by with_reducible assumption) ?ge; case ge => omega) | (with_reducible refine Ext.trans ?_ (by with_reducible assumption)))))).mono ?_
  rintro e w_14 ⟨rfl, e_14⟩
  have z_14 := e_14.size
  try rw [decide_eq_true rfl]
  have bc0 : Blk w_14 (w.heap.size) 63 [.slice A0_0 n0_0 c0_0, .slice A0_1 n0_1 c0_1] := (by repeat (first | (with_reducible exact BX0.out) | (with_reducible refine Blk.drew ?_) | (with_reducible refine Blk.ext ?_ (by with_reducible assumption)) | (with_reducible refine Blk.out ?_ (by with_reducible assumption) ?ge; case ge => omega)))
  obtain ⟨q0_0, q0_1⟩ := blk2 bc0
  clear bc0
  have bc1 : Blk w_14 (w.heap.size + 1) 83 [.slice A1_0 n1_0 c1_0, .slice A1_1 n1_1 c1_1] := (by repeat (first | (with_reducible exact BX1.out) | (with_reducible refine Blk.drew ?_) | (with_reducible refine Blk.ext ?_ (by with_reducible assumption)) | (with_reducible refine Blk.out ?_ (by with_reducible assumption) ?ge; case ge => omega)))
  obtain ⟨q1_0, q1_1⟩ := blk2 bc1
  clear bc1
  have bcLw3 : Blk w_14 (gz_3) 87 [.slice A_3_0 n_3_0 c_3_0, .slice A_3_1 n_3_1 c_3_1] := (by repeat (first | (with_reducible exact BXLw3.out) | (with_reducible refine Blk.drew ?_) | (with_reducible refine Blk.ext ?_ (by with_reducible assumption)) | (with_reducible refine Blk.out ?_ (by with_reducible assumption) ?ge; case ge => omega)))
  obtain ⟨qLw3_0, qLw3_1⟩ := blk2 bcLw3
  clear bcLw3
  have bcLw4 : Blk w_14 (w_4.heap.size) 73 [.slice A_4_0 n_4_0 c_4_0, .slice A_4_1 n_4_1 c_4_1] := (by repeat (first | (with_reducible exact BXLw4.out) | (with_reducible refine Blk.drew ?_) | (with_reducible refine Blk.ext ?_ (by with_reducible assumption)) | (with_reducible refine Blk.out ?_ (by with_reducible assumption) ?ge; case ge => omega)))
  obtain ⟨qLw4_0, qLw4_1⟩ := blk2 bcLw4
  clear bcLw4
  have bcLw5 : Blk w_14 (w_5.heap.size) 87 [.slice A_5_0 n_5_0 c_5_0, .slice A_5_1 n_5_1 c_5_1] := (by repeat (first | (with_reducible exact BXLw5.out) | (with_reducible refine Blk.drew ?_) | (with_reducible refine Blk.ext ?_ (by with_reducible assumption)) | (with_reducible refine Blk.out ?_ (by with_reducible assumption) ?ge; case ge => omega)))
  obtain ⟨qLw5_0, qLw5_1⟩ := blk2 bcLw5
  clear bcLw5
  have bcLw6 : Blk w_14 (w_6.heap.size) 87 [.slice A_6_0 n_6_0 c_6_0, .slice A_6_1 n_6_1 c_6_1] := (by repeat (first | (with_reducible exact BXLw6.out) | (with_reducible refine Blk.drew ?_) | (with_reducible refine Blk.ext ?_ (by with_reducible assumption)) | (with_reducible refine Blk.out ?_ (by with_reducible assumption) ?ge; case ge => omega)))
  obtain ⟨qLw6_0, qLw6_1⟩ := blk2 bcLw6
  clear bcLw6
  go_wp2_with fail
  clear q0_0 q0_1 q1_0 q1_1 qLw3_0 qLw3_1 qLw4_0 qLw4_1 qLw5_0 qLw5_1 qLw6_0 qLw6_1
  refine (markSegmentDatabase _ (usableDb x0 x1 a2) 1 w_5b.heap.size w_6.heap.size _ (by exact (by repeat (first | (with_reducible exact O_6.out) | (with_reducible refine SegmentDatabaseO.drew ?_) | (with_reducible refine SegmentDatabaseO.ext ?_ (by with_reducible assumption) ?ge; case ge => first | omega | (simp only [World.size_drew]; omega)) | (with_reducible refine SegmentDatabaseO.out ?_ (by with_reducible assumption) ?ge; case ge => omega)))) (by omega) (by omega)).mono ?_
  rintro e w_15 ⟨rfl, o_15, e_15⟩
  have z_15 := e_15.size
  have O_15 := Lib.hid o_15; clear o_15
  have bc0 : Blk w_15 (w.heap.size) 63 [.slice A0_0 n0_0 c0_0, .slice A0_1 n0_1 c0_1] := (by repeat (first | (with_reducible exact BX0.out) | (with_reducible refine Blk.drew ?_) | (with_reducible refine Blk.ext ?_ (by with_reducible assumption)) | (with_reducible refine Blk.out ?_ (by with_reducible assumption) ?ge; case ge => omega)))
  obtain ⟨q0_0, q0_1⟩ := blk2 bc0
  clear bc0
  have bc1 : Blk w_15 (w.heap.size + 1) 83 [.slice A1_0 n1_0 c1_0, .slice A1_1 n1_1 c1_1] := (by repeat (first | (with_reducible exact BX1.out) | (with_reducible refine Blk.drew ?_) | (with_reducible refine Blk.ext ?_ (by with_reducible assumption)) | (with_reducible refine Blk.out ?_ (by with_reducible assumption) ?ge; case ge => omega)))
  obtain ⟨q1_0, q1_1⟩ := blk2 bc1
  clear bc1
  have bcLw3 : Blk w_15 (gz_3) 87 [.slice A_3_0 n_3_0 c_3_0, .slice A_3_1 n_3_1 c_3_1] := (by repeat (first | (with_reducible exact BXLw3.out) | (with_reducible refine Blk.drew ?_) | (with_reducible refine Blk.ext ?_ (by with_reducible assumption)) | (with_reducible refine Blk.out ?_ (by with_reducible assumption) ?ge; case ge => omega)))
  obtain ⟨qLw3_0, qLw3_1⟩ := blk2 bcLw3
  clear bcLw3
  have bcLw4 : Blk w_15 (w_4.heap.size) 73 [.slice A_4_0 n_4_0 c_4_0, .slice A_4_1 n_4_1 c_4_1] := (by repeat (first | (with_reducible exact BXLw4.out) | (with_reducible refine Blk.drew ?_) | (with_reducible refine Blk.ext ?_ (by with_reducible assumption)) | (with_reducible refine Blk.out ?_ (by with_reducible assumption) ?ge; case ge => omega)))
  obtain ⟨qLw4_0, qLw4_1⟩ := blk2 bcLw4
  clear bcLw4
  have bcLw5 : Blk w_15 (w_5.heap.size) 87 [.slice A_5_0 n_5_0 c_5_0, .slice A_5_1 n_5_1 c_5_1] := (by repeat (first | (with_reducible exact BXLw5.out) | (with_reducible refine Blk.drew ?_) | (with_reducible refine Blk.ext ?_ (by with_reducible assumption)) | (with_reducible refine Blk.out ?_ (by with_reducible assumption) ?ge; case ge => omega)))
  obtain ⟨qLw5_0, qLw5_1⟩ := blk2 bcLw5
  clear bcLw5
  have bcLw6 : Blk w_15 (w_6.heap.size) 87 [.slice A_6_0 n_6_0 c_6_0, .slice A_6_1 n_6_1 c_6_1] := (by repeat (first | (with_reducible exact BXLw6.out) | (with_reducible refine Blk.drew ?_) | (with_reducible refine Blk.ext ?_ (by with_reducible assumption)) | (with_reducible refine Blk.out ?_ (by with_reducible assumption) ?ge; case ge => omega)))
  obtain ⟨qLw6_0, qLw6_1⟩ := blk2 bcLw6
  clear bcLw6
  go_wp2_with fail
  clear q0_0 q0_1 q1_0 q1_1 qLw3_0 qLw3_1 qLw4_0 qLw4_1 qLw5_0 qLw5_1 qLw6_0 qLw6_1
  refine (heldSegmentDatabase _ (usableDb x0 x1 a2) 1 _ (by exact SegmentDatabaseO_rd (lo := w_5b.heap.size) (hi := w_6.heap.size) (by repeat (first | (with_reducible exact O_15.out) | (with_reducible refine SegmentDatabaseO.drew ?_) | (with_reducible refine SegmentDatabaseO.ext ?_ (by with_reducible assumption) ?ge; case ge => first | omega | (simp only [World.size_drew]; omega)) | (with_reducible refine SegmentDatabaseO.out ?_ (by with_reducible assumption) ?ge; case ge => omega))) (by omega)) (by omega)).mono ?_
  rintro e w_16 ⟨rfl, e_16⟩
  have z_16 := e_16.size
  have bc0 : Blk w_16 (w.heap.size) 63 [.slice A0_0 n0_0 c0_0, .slice A0_1 n0_1 c0_1] := (by repeat (first | (with_reducible exact BX0.out) | (with_reducible refine Blk.drew ?_) | (with_reducible refine Blk.ext ?_ (by with_reducible assumption)) | (with_reducible refine Blk.out ?_ (by with_reducible assumption) ?ge; case ge => omega)))
  obtain ⟨q0_0, q0_1⟩ := blk2 bc0
  clear bc0
  have bc1 : Blk w_16 (w.heap.size + 1) 83 [.slice A1_0 n1_0 c1_0, .slice A1_1 n1_1 c1_1] := (by repeat (first | (with_reducible exact BX1.out) | (with_reducible refine Blk.drew ?_) | (with_reducible refine Blk.ext ?_ (by with_reducible assumption)) | (with_reducible refine Blk.out ?_ (by with_reducible assumption) ?ge; case ge => omega)))
  obtain ⟨q1_0, q1_1⟩ := blk2 bc1
  clear bc1
  have bcLw3 : Blk w_16 (gz_3) 87 [.slice A_3_0 n_3_0 c_3_0, .slice A_3_1 n_3_1 c_3_1] := (by repeat (first | (with_reducible exact BXLw3.out) | (with_reducible refine Blk.drew ?_) | (with_reducible refine Blk.ext ?_ (by with_reducible assumption)) | (with_reducible refine Blk.out ?_ (by with_reducible assumption) ?ge; case ge => omega)))
  obtain ⟨qLw3_0, qLw3_1⟩ := blk2 bcLw3
  clear bcLw3
  have bcLw4 : Blk w_16 (w_4.heap.size) 73 [.slice A_4_0 n_4_0 c_4_0, .slice A_4_1 n_4_1 c_4_1] := (by repeat (first | (with_reducible exact BXLw4.out) | (with_reducible refine Blk.drew ?_) | (with_reducible refine Blk.ext ?_ (by with_reducible assumption)) | (with_reducible refine Blk.out ?_ (by with_reducible assumption) ?ge; case ge => omega)))
  obtain ⟨qLw4_0, qLw4_1⟩ := blk2 bcLw4
  clear bcLw4
  have bcLw5 : Blk w_16 (w_5.heap.size) 87 [.slice A_5_0 n_5_0 c_5_0, .slice A_5_1 n_5_1 c_5_1] := (by repeat (first | (with_reducible exact BXLw5.out) | (with_reducible refine Blk.drew ?_) | (with_reducible refine Blk.ext ?_ (by with_reducible assumption)) | (with_reducible refine Blk.out ?_ (by with_reducible assumption) ?ge; case ge => omega)))
  obtain ⟨qLw5_0, qLw5_1⟩ := blk2 bcLw5
  clear bcLw5
  have bcLw6 : Blk w_16 (w_6.heap.size) 87 [.slice A_6_0 n_6_0 c_6_0, .slice A_6_1 n_6_1 c_6_1] := (by repeat (first | (with_reducible exact BXLw6.out) | (with_reducible refine Blk.drew ?_) | (with_reducible refine Blk.ext ?_ (by with_reducible assumption)) | (with_reducible refine Blk.out ?_ (by with_reducible assumption) ?ge; case ge => omega)))
  obtain ⟨qLw6_0, qLw6_1⟩ := blk2 bcLw6
  clear bcLw6
  go_wp2_with fail
  clear q0_0 q0_1 q1_0 q1_1 qLw3_0 qLw3_1 qLw4_0 qLw4_1 qLw5_0 qLw5_1 qLw6_0 qLw6_1
  have bc0 : Blk w_16 (w.heap.size) 63 [.slice A0_0 n0_0 c0_0, .slice A0_1 n0_1 c0_1] := (by repeat (first | (with_reducible exact BX0.out) | (with_reducible refine Blk.drew ?_) | (with_reducible refine Blk.ext ?_ (by with_reducible assumption)) | (with_reducible refine Blk.out ?_ (by with_reducible assumption) ?ge; case ge => omega)))
  have lt0 := bc0.lt
  obtain ⟨q0_0, q0_1⟩ := blk2 bc0
  clear bc0
  have bc1 : Blk w_16 (w.heap.size + 1) 83 [.slice A1_0 n1_0 c1_0, .slice A1_1 n1_1 c1_1] := (by repeat (first | (with_reducible exact BX1.out) | (with_reducible refine Blk.drew ?_) | (with_reducible refine Blk.ext ?_ (by with_reducible assumption)) | (with_reducible refine Blk.out ?_ (by with_reducible assumption) ?ge; case ge => omega)))
  have lt1 := bc1.lt
  obtain ⟨q1_0, q1_1⟩ := blk2 bc1
  clear bc1
  have bcLw3 : Blk w_16 (gz_3) 87 [.slice A_3_0 n_3_0 c_3_0, .slice A_3_1 n_3_1 c_3_1] := (by repeat (first | (with_reducible exact BXLw3.out) | (with_reducible refine Blk.drew ?_) | (with_reducible refine Blk.ext ?_ (by with_reducible assumption)) | (with_reducible refine Blk.out ?_ (by with_reducible assumption) ?ge; case ge => omega)))
  have ltLw3 := bcLw3.lt
  obtain ⟨qLw3_0, qLw3_1⟩ := blk2 bcLw3
  clear bcLw3
  have bcLw4 : Blk w_16 (w_4.heap.size) 73 [.slice A_4_0 n_4_0 c_4_0, .slice A_4_1 n_4_1 c_4_1] := (by repeat (first | (with_reducible exact BXLw4.out) | (with_reducible refine Blk.drew ?_) | (with_reducible refine Blk.ext ?_ (by with_reducible assumption)) | (with_reducible refine Blk.out ?_ (by with_reducible assumption) ?ge; case ge => omega)))
  have ltLw4 := bcLw4.lt
  obtain ⟨qLw4_0, qLw4_1⟩ := blk2 bcLw4
  clear bcLw4
  have bcLw5 : Blk w_16 (w_5.heap.size) 87 [.slice A_5_0 n_5_0 c_5_0, .slice A_5_1 n_5_1 c_5_1] := (by repeat (first | (with_reducible exact BXLw5.out) | (with_reducible refine Blk.drew ?_) | (with_reducible refine Blk.ext ?_ (by with_reducible assumption)) | (with_reducible refine Blk.out ?_ (by with_reducible assumption) ?ge; case ge => omega)))
  have ltLw5 := bcLw5.lt
  obtain ⟨qLw5_0, qLw5_1⟩ := blk2 bcLw5
  clear bcLw5
  have bcLw6 : Blk w_16 (w_6.heap.size) 87 [.slice A_6_0 n_6_0 c_6_0, .slice A_6_1 n_6_1 c_6_1] := (by repeat (first | (with_reducible exact BXLw6.out) | (with_reducible refine Blk.drew ?_) | (with_reducible refine Blk.ext ?_ (by with_reducible assumption)) | (with_reducible refine Blk.out ?_ (by with_reducible assumption) ?ge; case ge => omega)))
  have ltLw6 := bcLw6.lt
  obtain ⟨qLw6_0, qLw6_1⟩ := blk2 bcLw6
  clear bcLw6
  refine wp_region_LT 7 (E := Ext) (w0 := w_16) (G := fun τ => match τ with | 80 => some (fun v W => TopologyV W.heap.size W v x0) | 82 => some (fun v W => SegmentDatabaseV W.heap.size W v x1) | 84 => some (fun v W => SegmentDatabaseO w_16.heap.size W.heap.size W v (usableDb x0 x1 a2)) | 15 => some (fun v W => Zero1 87 w_16.heap.size [.slice none 0 0, .slice none 0 0] v W) | _ => none) Ext.refl (fun h k => Ext.trans h k) (by kernel_rfl) (by kernel_rfl) (by kernel_rfl) (by kernel_rfl) (by kernel_rfl) (by kernel_rfl) (by
      intro t φ hG
      split at hG
      all_goals first | (cases hG; done) | (cases Option.some.inj hG; intro v W W' hE hv; first | exact hv | exact IntS.ext hv hE | exact hv.ext hE | exact Own.up hv hE | exact hv.up hE | exact NO.up (by first | exact SegmentOC.keeps | exact TrustRootOC.keeps | exact BeaconOC.keeps | exact BeaconMessageOC.keeps | exact BeaconStoreOC.keeps) hv hE (Nat.le_refl _) | exact ObjUp.up hv hE)) (Ext.drew (by exact Ext.refl _)) ?_
  simp only [List.take_succ_cons, List.take_zero]
  repeat' (first
    | ((with_reducible refine wpL_skip ?_ ?_ ?_)
       · rfl
       · rfl
       simp only [Act.put, List.setIfInBounds_toArray, List.set_cons_zero, List.set_cons_succ])
    | ((with_reducible refine wpL_quiet ?_ ?_ ?_ ?_)
       · rfl
       · rfl
       · rfl
       apply Exists.intro
       refine ⟨fun W hW hS => ?_, ?_⟩
       · have hC := (Ext.facts hW).1
         go_simp
         first | done | (with_reducible rfl) | rfl
       first | (with_reducible refine wpL_boolT ?_) | (with_reducible refine wpL_boolF ?_) | (with_reducible refine wpL_bool (fun hB => ?_) (fun hB => ?_)) | skip
       all_goals simp only [Act.put, List.setIfInBounds_toArray, List.set_cons_zero, List.set_cons_succ])
    | ((refine wpL_call ?_ rfl rfl ?_ ?_ ?_)
       · rfl
       · rfl
       · intro W hW hS
         have hC := (Ext.facts hW).1
         unfold growAt
         go_simp
         simp only [growUpon]
         first | (go_at_call 34; ((with_reducible refine Calls.mono (toTopology _ x0 _ (by exact H0.out.ext (by repeat (first | (with_reducible exact Ext.refl _) | (with_reducible assumption) | (with_reducible refine Ext.alloc ?_ _) | (with_reducible refine Ext.drew ?_) | (with_reducible refine Ext.out ?_ (by with_reducible assumption) ?ge; case ge => omega) | (with_reducible refine Ext.trans ?_ (by with_reducible assumption))))) (by omega)) ?_)); rintro e w9 ⟨v9, rfl, o9, e9⟩; exact ⟨_, rfl, e9, TopologyO_rd o9 (Nat.le_refl _)⟩) | (go_at_call 40; ((with_reducible refine Calls.mono (toSegmentDatabase _ x1 _ (by exact H1.out.ext (by repeat (first | (with_reducible exact Ext.refl _) | (with_reducible assumption) | (with_reducible refine Ext.alloc ?_ _) | (with_reducible refine Ext.drew ?_) | (with_reducible refine Ext.out ?_ (by with_reducible assumption) ?ge; case ge => omega) | (with_reducible refine Ext.trans ?_ (by with_reducible assumption))))) (by omega)) ?_)); rintro e w9 ⟨v9, rfl, o9, e9⟩; exact ⟨_, rfl, e9, SegmentDatabaseO_rd o9 (Nat.le_refl _)⟩) | (go_at_call 41; have hs80 : TopologyV W.heap.size W _ x0 := hS 80 (by decide); have hs82 : SegmentDatabaseV W.heap.size W _ x1 := hS 82 (by decide); ((with_reducible refine Calls.mono (impl_UsableSegments _ _ a2 x0 x1 _ hs80 hs82 (by exact hb1)) ?_)); rintro e w9 ⟨v9, rfl, o9, e9⟩; exact ⟨_, rfl, e9, SegmentDatabaseO.more o9 (Ext.size hW) (Nat.le_refl _)⟩) | (exact ⟨(by repeat (first | (with_reducible exact Ext.refl _) | (with_reducible assumption) | (with_reducible refine Ext.alloc ?_ _) | (with_reducible refine Ext.drew ?_) | (with_reducible refine Ext.drewN ?_ _) | (with_reducible refine Ext.setCell (p := _) ?_ ?ge _; case ge => (dsimp only; omega)) | (with_reducible refine Ext.trans ?_ (by with_reducible assumption)))), _, rfl, Ext.size (by assumption), Blk.new _ _ _⟩)
       first | (with_reducible refine wpL_boolT ?_) | (with_reducible refine wpL_boolF ?_) | (with_reducible refine wpL_bool (fun hB => ?_) (fun hB => ?_)) | skip
       all_goals simp only [Act.put, List.setIfInBounds_toArray, List.set_cons_zero, List.set_cons_succ])
    | ((refine wpL_grow ?_ rfl rfl ?_ ?_)
       · rfl
       · intro W hW hS
         have hC := (Ext.facts hW).1
         unfold growAt
         go_simp
         simp only [growUpon]
         first | (go_at_call 34; ((with_reducible refine Calls.mono (toTopology _ x0 _ (by exact H0.out.ext (by repeat (first | (with_reducible exact Ext.refl _) | (with_reducible assumption) | (with_reducible refine Ext.alloc ?_ _) | (with_reducible refine Ext.drew ?_) | (with_reducible refine Ext.out ?_ (by with_reducible assumption) ?ge; case ge => omega) | (with_reducible refine Ext.trans ?_ (by with_reducible assumption))))) (by omega)) ?_)); rintro e w9 ⟨v9, rfl, o9, e9⟩; exact ⟨_, rfl, e9, TopologyO_rd o9 (Nat.le_refl _)⟩) | (go_at_call 40; ((with_reducible refine Calls.mono (toSegmentDatabase _ x1 _ (by exact H1.out.ext (by repeat (first | (with_reducible exact Ext.refl _) | (with_reducible assumption) | (with_reducible refine Ext.alloc ?_ _) | (with_reducible refine Ext.drew ?_) | (with_reducible refine Ext.out ?_ (by with_reducible assumption) ?ge; case ge => omega) | (with_reducible refine Ext.trans ?_ (by with_reducible assumption))))) (by omega)) ?_)); rintro e w9 ⟨v9, rfl, o9, e9⟩; exact ⟨_, rfl, e9, SegmentDatabaseO_rd o9 (Nat.le_refl _)⟩) | (go_at_call 41; have hs80 : TopologyV W.heap.size W _ x0 := hS 80 (by decide); have hs82 : SegmentDatabaseV W.heap.size W _ x1 := hS 82 (by decide); ((with_reducible refine Calls.mono (impl_UsableSegments _ _ a2 x0 x1 _ hs80 hs82 (by exact hb1)) ?_)); rintro e w9 ⟨v9, rfl, o9, e9⟩; exact ⟨_, rfl, e9, SegmentDatabaseO.more o9 (Ext.size hW) (Nat.le_refl _)⟩) | (exact ⟨(by repeat (first | (with_reducible exact Ext.refl _) | (with_reducible assumption) | (with_reducible refine Ext.alloc ?_ _) | (with_reducible refine Ext.drew ?_) | (with_reducible refine Ext.drewN ?_ _) | (with_reducible refine Ext.setCell (p := _) ?_ ?ge _; case ge => (dsimp only; omega)) | (with_reducible refine Ext.trans ?_ (by with_reducible assumption)))), _, rfl, Ext.size (by assumption), Blk.new _ _ _⟩)
       intro v W' hW' hv
       first | (obtain ⟨A_17_0, n_17_0, c_17_0, A_17_1, n_17_1, c_17_1, rfl⟩ := SegmentDatabaseO.shape hv) | (obtain ⟨g5, rfl, -⟩ := hv) | (obtain ⟨A5, n5, c5, rfl, -⟩ := id hv; clear hv) | (obtain ⟨A5, n5, c5, rfl⟩ := NO.slice hv) | skip
       all_goals simp only [Act.put, List.setIfInBounds_toArray, List.set_cons_zero, List.set_cons_succ]))
  refine wpL_nil (fun w_17 e_17 hL => ?_)
  have o_17 : SegmentDatabaseO w_16.heap.size w_17.heap.size w_17 _ (usableDb x0 x1 a2) := hL 84
  have p_17 : Zero1 87 w_16.heap.size [.slice none 0 0, .slice none 0 0] _ w_17 := hL 15
  obtain ⟨gz_17, hgz, hgl_17, hbz⟩ := p_17
  have hge : gz_17 = g5 := by injection hgz with h; injection h with h; injection h with h1; exact h1.symm
  subst hge
  clear hgz
  clear hL
  clear q0_0 q0_1 q1_0 q1_1 qLw3_0 qLw3_1 qLw4_0 qLw4_1 qLw5_0 qLw5_1 qLw6_0 qLw6_1 lt0 lt1 ltLw3 ltLw4 ltLw5 ltLw6
  have OW_17 := Lib.hid (SegmentDatabaseO.setT (SegmentDatabaseO.setT o_17 hbz 0 (.slice A_17_0 n_17_0 c_17_0)) (Blk.set_ hbz 0 (.slice A_17_0 n_17_0 c_17_0)) 1 (.slice A_17_1 n_17_1 c_17_1))
  have BW_17 := Lib.hid (Blk.set_ (Blk.set_ hbz 0 (.slice A_17_0 n_17_0 c_17_0)) 1 (.slice A_17_1 n_17_1 c_17_1))
  have lz_17 := hbz.lt
  obtain ⟨yz_0, yz_1⟩ := blk2 hbz
  have fz_0 := hbz.frozen 0
  have fz_1 := hbz.frozen 1
  have z_17 := e_17.size
  clear hbz o_17
  have bc0 : Blk w_17 (w.heap.size) 63 [.slice A0_0 n0_0 c0_0, .slice A0_1 n0_1 c0_1] := (by repeat (first | (with_reducible exact BX0.out) | (with_reducible refine Blk.drew ?_) | (with_reducible refine Blk.ext ?_ (by with_reducible assumption)) | (with_reducible refine Blk.out ?_ (by with_reducible assumption) ?ge; case ge => omega)))
  have lt0 := bc0.lt
  obtain ⟨q0_0, q0_1⟩ := blk2 bc0
  clear bc0
  have bc1 : Blk w_17 (w.heap.size + 1) 83 [.slice A1_0 n1_0 c1_0, .slice A1_1 n1_1 c1_1] := (by repeat (first | (with_reducible exact BX1.out) | (with_reducible refine Blk.drew ?_) | (with_reducible refine Blk.ext ?_ (by with_reducible assumption)) | (with_reducible refine Blk.out ?_ (by with_reducible assumption) ?ge; case ge => omega)))
  have lt1 := bc1.lt
  obtain ⟨q1_0, q1_1⟩ := blk2 bc1
  clear bc1
  have bcLw3 : Blk w_17 (gz_3) 87 [.slice A_3_0 n_3_0 c_3_0, .slice A_3_1 n_3_1 c_3_1] := (by repeat (first | (with_reducible exact BXLw3.out) | (with_reducible refine Blk.drew ?_) | (with_reducible refine Blk.ext ?_ (by with_reducible assumption)) | (with_reducible refine Blk.out ?_ (by with_reducible assumption) ?ge; case ge => omega)))
  have ltLw3 := bcLw3.lt
  obtain ⟨qLw3_0, qLw3_1⟩ := blk2 bcLw3
  clear bcLw3
  have bcLw4 : Blk w_17 (w_4.heap.size) 73 [.slice A_4_0 n_4_0 c_4_0, .slice A_4_1 n_4_1 c_4_1] := (by repeat (first | (with_reducible exact BXLw4.out) | (with_reducible refine Blk.drew ?_) | (with_reducible refine Blk.ext ?_ (by with_reducible assumption)) | (with_reducible refine Blk.out ?_ (by with_reducible assumption) ?ge; case ge => omega)))
  have ltLw4 := bcLw4.lt
  obtain ⟨qLw4_0, qLw4_1⟩ := blk2 bcLw4
  clear bcLw4
  have bcLw5 : Blk w_17 (w_5.heap.size) 87 [.slice A_5_0 n_5_0 c_5_0, .slice A_5_1 n_5_1 c_5_1] := (by repeat (first | (with_reducible exact BXLw5.out) | (with_reducible refine Blk.drew ?_) | (with_reducible refine Blk.ext ?_ (by with_reducible assumption)) | (with_reducible refine Blk.out ?_ (by with_reducible assumption) ?ge; case ge => omega)))
  have ltLw5 := bcLw5.lt
  obtain ⟨qLw5_0, qLw5_1⟩ := blk2 bcLw5
  clear bcLw5
  have bcLw6 : Blk w_17 (w_6.heap.size) 87 [.slice A_6_0 n_6_0 c_6_0, .slice A_6_1 n_6_1 c_6_1] := (by repeat (first | (with_reducible exact BXLw6.out) | (with_reducible refine Blk.drew ?_) | (with_reducible refine Blk.ext ?_ (by with_reducible assumption)) | (with_reducible refine Blk.out ?_ (by with_reducible assumption) ?ge; case ge => omega)))
  have ltLw6 := bcLw6.lt
  obtain ⟨qLw6_0, qLw6_1⟩ := blk2 bcLw6
  clear bcLw6
  simp only [List.drop_succ_cons, List.drop_zero]
  go_wp2_with fail
  clear q0_0 q0_1 q1_0 q1_1 qLw3_0 qLw3_1 qLw4_0 qLw4_1 qLw5_0 qLw5_1 qLw6_0 qLw6_1 lt0 lt1 ltLw3 ltLw4 ltLw5 ltLw6
  clear yz_0 yz_1 fz_0 fz_1
  have bxLw17 : Blk ((w_17.setCell ⟨gz_17, 0, none⟩ (.slice A_17_0 n_17_0 c_17_0)).setCell ⟨gz_17, 1, none⟩ (.slice A_17_1 n_17_1 c_17_1)) gz_17 87 [.slice A_17_0 n_17_0 c_17_0, .slice A_17_1 n_17_1 c_17_1] := by simpa using BW_17.out
  have BXLw17 := Lib.hid bxLw17; clear bxLw17
  have ewLw17 : Ext w_16 ((w_17.setCell ⟨gz_17, 0, none⟩ (.slice A_17_0 n_17_0 c_17_0)).setCell ⟨gz_17, 1, none⟩ (.slice A_17_1 n_17_1 c_17_1)) := (by repeat (first | (with_reducible exact Ext.refl _) | (with_reducible assumption) | (with_reducible refine Ext.alloc ?_ _) | (with_reducible refine Ext.drew ?_) | (with_reducible refine Ext.setCell (p := _) ?_ ?ge _; case ge => (dsimp only; omega)) | (with_reducible refine Ext.out ?_ (by with_reducible assumption) ?ge; case ge => omega) | (with_reducible refine Ext.trans ?_ (by with_reducible assumption))))
  have zwLw17 : ((w_17.setCell ⟨gz_17, 0, none⟩ (.slice A_17_0 n_17_0 c_17_0)).setCell ⟨gz_17, 1, none⟩ (.slice A_17_1 n_17_1 c_17_1)).heap.size = w_17.heap.size := by simp only [World.size_setCell]
  have O_17 : Hid (SegmentDatabaseO w_16.heap.size ((w_17.setCell ⟨gz_17, 0, none⟩ (.slice A_17_0 n_17_0 c_17_0)).setCell ⟨gz_17, 1, none⟩ (.slice A_17_1 n_17_1 c_17_1)).heap.size ((w_17.setCell ⟨gz_17, 0, none⟩ (.slice A_17_0 n_17_0 c_17_0)).setCell ⟨gz_17, 1, none⟩ (.slice A_17_1 n_17_1 c_17_1)) (.agg #[.slice A_17_0 n_17_0 c_17_0, .slice A_17_1 n_17_1 c_17_1]) (usableDb x0 x1 a2)) := by unfold Hid; have h := OW_17.out; rw [← zwLw17] at h; exact h
  have ZWLw17 := Lib.hid zwLw17; have zvLw17 : w_17.heap.size ≤ ((w_17.setCell ⟨gz_17, 0, none⟩ (.slice A_17_0 n_17_0 c_17_0)).setCell ⟨gz_17, 1, none⟩ (.slice A_17_1 n_17_1 c_17_1)).heap.size := by omega
  have zxLw17 : ((w_17.setCell ⟨gz_17, 0, none⟩ (.slice A_17_0 n_17_0 c_17_0)).setCell ⟨gz_17, 1, none⟩ (.slice A_17_1 n_17_1 c_17_1)).heap.size ≤ w_17.heap.size := by omega
  clear zwLw17 OW_17 BW_17 ZWLw17
  clear e_17
  generalize ((w_17.setCell ⟨gz_17, 0, none⟩ (.slice A_17_0 n_17_0 c_17_0)).setCell ⟨gz_17, 1, none⟩ (.slice A_17_1 n_17_1 c_17_1)) = w_17b at *
  refine (eqSegmentDatabase _ _ (usableDb x0 x1 a2) (usableDb x0 x1 a2) _ (by exact SegmentDatabaseO_rd (lo := w_16.heap.size) (hi := w_17b.heap.size) (by repeat (first | (with_reducible exact O_17.out) | (with_reducible refine SegmentDatabaseO.drew ?_) | (with_reducible refine SegmentDatabaseO.ext ?_ (by with_reducible assumption) ?ge; case ge => first | omega | (simp only [World.size_drew]; omega)) | (with_reducible refine SegmentDatabaseO.out ?_ (by with_reducible assumption) ?ge; case ge => omega))) (by omega)) (by exact S_3.out.ext (by repeat (first | (with_reducible exact Ext.refl _) | (with_reducible assumption) | (with_reducible refine Ext.alloc ?_ _) | (with_reducible refine Ext.drew ?_) | (with_reducible refine Ext.out ?_ (by with_reducible assumption) ?ge; case ge => omega) | (with_reducible refine Ext.trans ?_ (by with_reducible assumption)))))).mono ?_
  rintro e w_18 ⟨rfl, e_18⟩
  have z_18 := e_18.size
  try rw [decide_eq_true rfl]
  have bc0 : Blk w_18 (w.heap.size) 63 [.slice A0_0 n0_0 c0_0, .slice A0_1 n0_1 c0_1] := (by repeat (first | (with_reducible exact BX0.out) | (with_reducible refine Blk.drew ?_) | (with_reducible refine Blk.ext ?_ (by with_reducible assumption)) | (with_reducible refine Blk.out ?_ (by with_reducible assumption) ?ge; case ge => omega)))
  obtain ⟨q0_0, q0_1⟩ := blk2 bc0
  clear bc0
  have bc1 : Blk w_18 (w.heap.size + 1) 83 [.slice A1_0 n1_0 c1_0, .slice A1_1 n1_1 c1_1] := (by repeat (first | (with_reducible exact BX1.out) | (with_reducible refine Blk.drew ?_) | (with_reducible refine Blk.ext ?_ (by with_reducible assumption)) | (with_reducible refine Blk.out ?_ (by with_reducible assumption) ?ge; case ge => omega)))
  obtain ⟨q1_0, q1_1⟩ := blk2 bc1
  clear bc1
  have bcLw3 : Blk w_18 (gz_3) 87 [.slice A_3_0 n_3_0 c_3_0, .slice A_3_1 n_3_1 c_3_1] := (by repeat (first | (with_reducible exact BXLw3.out) | (with_reducible refine Blk.drew ?_) | (with_reducible refine Blk.ext ?_ (by with_reducible assumption)) | (with_reducible refine Blk.out ?_ (by with_reducible assumption) ?ge; case ge => omega)))
  obtain ⟨qLw3_0, qLw3_1⟩ := blk2 bcLw3
  clear bcLw3
  have bcLw4 : Blk w_18 (w_4.heap.size) 73 [.slice A_4_0 n_4_0 c_4_0, .slice A_4_1 n_4_1 c_4_1] := (by repeat (first | (with_reducible exact BXLw4.out) | (with_reducible refine Blk.drew ?_) | (with_reducible refine Blk.ext ?_ (by with_reducible assumption)) | (with_reducible refine Blk.out ?_ (by with_reducible assumption) ?ge; case ge => omega)))
  obtain ⟨qLw4_0, qLw4_1⟩ := blk2 bcLw4
  clear bcLw4
  have bcLw5 : Blk w_18 (w_5.heap.size) 87 [.slice A_5_0 n_5_0 c_5_0, .slice A_5_1 n_5_1 c_5_1] := (by repeat (first | (with_reducible exact BXLw5.out) | (with_reducible refine Blk.drew ?_) | (with_reducible refine Blk.ext ?_ (by with_reducible assumption)) | (with_reducible refine Blk.out ?_ (by with_reducible assumption) ?ge; case ge => omega)))
  obtain ⟨qLw5_0, qLw5_1⟩ := blk2 bcLw5
  clear bcLw5
  have bcLw6 : Blk w_18 (w_6.heap.size) 87 [.slice A_6_0 n_6_0 c_6_0, .slice A_6_1 n_6_1 c_6_1] := (by repeat (first | (with_reducible exact BXLw6.out) | (with_reducible refine Blk.drew ?_) | (with_reducible refine Blk.ext ?_ (by with_reducible assumption)) | (with_reducible refine Blk.out ?_ (by with_reducible assumption) ?ge; case ge => omega)))
  obtain ⟨qLw6_0, qLw6_1⟩ := blk2 bcLw6
  clear bcLw6
  have bcLw17 : Blk w_18 (gz_17) 87 [.slice A_17_0 n_17_0 c_17_0, .slice A_17_1 n_17_1 c_17_1] := (by repeat (first | (with_reducible exact BXLw17.out) | (with_reducible refine Blk.drew ?_) | (with_reducible refine Blk.ext ?_ (by with_reducible assumption)) | (with_reducible refine Blk.out ?_ (by with_reducible assumption) ?ge; case ge => omega)))
  obtain ⟨qLw17_0, qLw17_1⟩ := blk2 bcLw17
  clear bcLw17
  go_wp2_with fail
  clear q0_0 q0_1 q1_0 q1_1 qLw3_0 qLw3_1 qLw4_0 qLw4_1 qLw5_0 qLw5_1 qLw6_0 qLw6_1 qLw17_0 qLw17_1
  refine (heldSegmentDatabase _ (usableDb x0 x1 a2) 1 _ (by exact SegmentDatabaseO_rd (lo := w_5b.heap.size) (hi := w_6.heap.size) (by repeat (first | (with_reducible exact O_15.out) | (with_reducible refine SegmentDatabaseO.drew ?_) | (with_reducible refine SegmentDatabaseO.ext ?_ (by with_reducible assumption) ?ge; case ge => first | omega | (simp only [World.size_drew]; omega)) | (with_reducible refine SegmentDatabaseO.out ?_ (by with_reducible assumption) ?ge; case ge => omega))) (by omega)) (by omega)).mono ?_
  rintro e w_19 ⟨rfl, e_19⟩
  have z_19 := e_19.size
  have bc0 : Blk w_19 (w.heap.size) 63 [.slice A0_0 n0_0 c0_0, .slice A0_1 n0_1 c0_1] := (by repeat (first | (with_reducible exact BX0.out) | (with_reducible refine Blk.drew ?_) | (with_reducible refine Blk.ext ?_ (by with_reducible assumption)) | (with_reducible refine Blk.out ?_ (by with_reducible assumption) ?ge; case ge => omega)))
  obtain ⟨q0_0, q0_1⟩ := blk2 bc0
  clear bc0
  have bc1 : Blk w_19 (w.heap.size + 1) 83 [.slice A1_0 n1_0 c1_0, .slice A1_1 n1_1 c1_1] := (by repeat (first | (with_reducible exact BX1.out) | (with_reducible refine Blk.drew ?_) | (with_reducible refine Blk.ext ?_ (by with_reducible assumption)) | (with_reducible refine Blk.out ?_ (by with_reducible assumption) ?ge; case ge => omega)))
  obtain ⟨q1_0, q1_1⟩ := blk2 bc1
  clear bc1
  have bcLw3 : Blk w_19 (gz_3) 87 [.slice A_3_0 n_3_0 c_3_0, .slice A_3_1 n_3_1 c_3_1] := (by repeat (first | (with_reducible exact BXLw3.out) | (with_reducible refine Blk.drew ?_) | (with_reducible refine Blk.ext ?_ (by with_reducible assumption)) | (with_reducible refine Blk.out ?_ (by with_reducible assumption) ?ge; case ge => omega)))
  obtain ⟨qLw3_0, qLw3_1⟩ := blk2 bcLw3
  clear bcLw3
  have bcLw4 : Blk w_19 (w_4.heap.size) 73 [.slice A_4_0 n_4_0 c_4_0, .slice A_4_1 n_4_1 c_4_1] := (by repeat (first | (with_reducible exact BXLw4.out) | (with_reducible refine Blk.drew ?_) | (with_reducible refine Blk.ext ?_ (by with_reducible assumption)) | (with_reducible refine Blk.out ?_ (by with_reducible assumption) ?ge; case ge => omega)))
  obtain ⟨qLw4_0, qLw4_1⟩ := blk2 bcLw4
  clear bcLw4
  have bcLw5 : Blk w_19 (w_5.heap.size) 87 [.slice A_5_0 n_5_0 c_5_0, .slice A_5_1 n_5_1 c_5_1] := (by repeat (first | (with_reducible exact BXLw5.out) | (with_reducible refine Blk.drew ?_) | (with_reducible refine Blk.ext ?_ (by with_reducible assumption)) | (with_reducible refine Blk.out ?_ (by with_reducible assumption) ?ge; case ge => omega)))
  obtain ⟨qLw5_0, qLw5_1⟩ := blk2 bcLw5
  clear bcLw5
  have bcLw6 : Blk w_19 (w_6.heap.size) 87 [.slice A_6_0 n_6_0 c_6_0, .slice A_6_1 n_6_1 c_6_1] := (by repeat (first | (with_reducible exact BXLw6.out) | (with_reducible refine Blk.drew ?_) | (with_reducible refine Blk.ext ?_ (by with_reducible assumption)) | (with_reducible refine Blk.out ?_ (by with_reducible assumption) ?ge; case ge => omega)))
  obtain ⟨qLw6_0, qLw6_1⟩ := blk2 bcLw6
  clear bcLw6
  have bcLw17 : Blk w_19 (gz_17) 87 [.slice A_17_0 n_17_0 c_17_0, .slice A_17_1 n_17_1 c_17_1] := (by repeat (first | (with_reducible exact BXLw17.out) | (with_reducible refine Blk.drew ?_) | (with_reducible refine Blk.ext ?_ (by with_reducible assumption)) | (with_reducible refine Blk.out ?_ (by with_reducible assumption) ?ge; case ge => omega)))
  obtain ⟨qLw17_0, qLw17_1⟩ := blk2 bcLw17
  clear bcLw17
  go_wp2_with fail
  clear q0_0 q0_1 q1_0 q1_1 qLw3_0 qLw3_1 qLw4_0 qLw4_1 qLw5_0 qLw5_1 qLw6_0 qLw6_1 qLw17_0 qLw17_1
  go_ret
  exact ⟨rfl, (by repeat (first | (with_reducible exact Ext.refl _) | (with_reducible assumption) | (with_reducible refine Ext.alloc ?_ _) | (with_reducible refine Ext.drew ?_) | (with_reducible refine Ext.out ?_ (by with_reducible assumption) ?ge; case ge => omega) | (with_reducible refine Ext.trans ?_ (by with_reducible assumption))))⟩
set_option maxRecDepth 100000 in
theorem lifted (os : Os) (started : os.Started) (H : Type) (enc : TypeId × Value → H) :
    ReturnsInHanded {} Try.checked os 7 .any (Rows.fnExactUsableSegmentsSpec.pre6 enc Try.prog Try.f7 Rows.fnExactUsableSegmentsRow.domain false) (Rows.fnExactUsableSegmentsSpec.post enc Try.prog Try.f7 false true false false) := by
  refine returnsInHanded_of_change (C := Try.checked) own started (by kernel_rfl) Try.func7
    (ChangeSpec.witness6 (enc := enc) (C := Try.checked) false ⟨#[], #[.agg #[.slice none 0 0, .slice none 0 0], .agg #[.slice none 0 0, .slice none 0 0], .int .i64 0], []⟩ 8 (by kernel_rfl) (by kernel_rfl) (by kernel_rfl) (by kernel_rfl)) ?_
  intro W base args ds gs before hval0 hW hcnd _
  have hval : ∀ (j : Nat) t v, Try.f7.params[j]? = some t → args[j]? = some v → Value.okWide Try.prog W .any base t v := hval0
  have hW' := hW
  obtain ⟨p, q, hA0, hV, rfl, hfz, hnd⟩ := hW
  have hA : DataW.TrodAll enc Try.prog W 0 (fun _ => true) true Try.f7.params.toList args.toList ds p := hA0
  rw [Try.params7] at hA hval
  obtain ⟨v0, vs0, d0, ds0, p0, q0, hargs, rfl, rfl, h0, r0⟩ := trodAll_cons hA
  obtain ⟨v1, vs1, d1, ds1, p1, q1, rfl, rfl, rfl, h1, r1⟩ := trodAll_cons r0
  obtain ⟨v2, vs2, d2, ds2, p2, q2, rfl, rfl, rfl, h2, r2⟩ := trodAll_cons r1
  obtain ⟨rfl, rfl, rfl⟩ := trodAll_nil r2
  obtain rfl : args = #[v0, v1, v2] := by cases args; simp_all
  obtain ⟨rfl, rfl⟩ := trodVars_none hV
  have k0 := h0
  have lt0 : ∀ x ∈ p0, x.block < W.heap.size := by obtain ⟨m, hm⟩ := k0; exact DataW.trod_lt m _ _ _ hm
  obtain ⟨cs0, rfl, _⟩ := okWide_struct Try.underlying63 (hval 0 63 v0 rfl rfl)
  obtain ⟨x0, y0⟩ : ∃ d, TopologyV W.heap.size W (.agg cs0) d := by
    obtain ⟨fuel, hf⟩ := h0
    obtain ⟨d, A0, n0, c0, A1, n1, c1, e, s0, s1⟩ := read_Topology hf
    have e1 : cs0 = #[.slice A0 n0 c0, .slice A1 n1 c1] := by cases cs0; simpa [Value.cells] using e
    exact ⟨d, ⟨_, _, _, _, _, _, by rw [e1], s0, s1⟩⟩
  have k1 := h1
  have lt1 : ∀ x ∈ p1, x.block < W.heap.size := by obtain ⟨m, hm⟩ := k1; exact DataW.trod_lt m _ _ _ hm
  obtain ⟨cs1, rfl, _⟩ := okWide_struct Try.underlying83 (hval 1 83 v1 rfl rfl)
  obtain ⟨x1, y1⟩ : ∃ d, SegmentDatabaseV W.heap.size W (.agg cs1) d := by
    obtain ⟨fuel, hf⟩ := h1
    obtain ⟨d, A0, n0, c0, A1, n1, c1, e, s0, s1⟩ := read_SegmentDatabase hf
    have e1 : cs1 = #[.slice A0 n0 c0, .slice A1 n1 c1] := by cases cs1; simpa [Value.cells] using e
    exact ⟨d, ⟨_, _, _, _, _, _, by rw [e1], s0, s1⟩⟩
  obtain ⟨a2, rfl, rfl, rfl, w2⟩ := open_int Try.underlying3 (hval 2 3 v2 rfl rfl) h2
  clear hA0 hval0
  refine (walk _ x0 _ x1 a2 W y0 y1).mono fun e W' ⟨he, bel⟩ => ?_
  subst he
  exact ⟨_, rfl, _, _, _, [], _, [], hW', trodAll_mk1 (shut_bool Try.underlying4 _), (trodAll_cons_mk (Below.trod laidOut (by kernel_rfl) (of_decide_eq_true (by kernel_rfl)) k0 bel.below lt0) (trodAll_cons_mk (Below.trod laidOut (by kernel_rfl) (of_decide_eq_true (by kernel_rfl)) k1 bel.below lt1) (trodAll_cons_mk (shut_int Try.underlying3 w2) trodAll_mk0))), rfl, bel.below.frame _, fun h => by cases h⟩

theorem over : Rows.fnExactUsableSegmentsRow.holds Try.pinned (OpenSpec.ofChange Rows.fnExactUsableSegmentsSpec) :=
  OpenClaim.holds_of_wide 7 Try.f7 rfl rfl rfl rfl rfl rfl rfl ⟨rfl, rfl, rfl, rfl, rfl⟩ rfl rfl rfl rfl rfl (by kernel_rfl) Try.func7 (by kernel_rfl)
    (of_decide_eq_true (by kernel_rfl)) (by unfold Func.isWrapper; first | (rw [if_pos (by decide +kernel)]; kernel_rfl) | (rw [if_neg (by decide +kernel)]; exact ⟨rfl, rfl⟩))
    (fun os started H enc _ => lifted os started H enc)

/-- The statement. -/
theorem proved : Rows.FnExactUsableSegmentsSaid := over
#print axioms proved
end Go.Proofs.Ytcalbcjheenmgaa.lawUsableSegments
