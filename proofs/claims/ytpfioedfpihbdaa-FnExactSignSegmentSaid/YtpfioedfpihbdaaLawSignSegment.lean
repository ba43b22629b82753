/- The law FnExactSignSegment returns true for every input and changes no argument. No conditions. -/
import Derived.Test.YtpfioedfpihbdaaL20c
import Derived.Test.YtpfioedfpihbdaaRead
namespace Go.Proofs.Ytpfioedfpihbdaa.lawSignSegment
open Go.RowKit
set_option linter.unusedVariables false
open Go.ChangeShapes Go.WideShapes Go.ChangeAt
theorem own : ownKnob Try.prog.godebug = none := by kernel_rfl
theorem laidOut : laidOutB Try.prog = true := by kernel_rfl

set_option maxRecDepth 100000 in
set_option maxHeartbeats 1000000 in
theorem walk (v0 : Value) (x0 : DTopology) (v1 : Value) (x1 : DSegment) (w : World) (h0 : TopologyV w.heap.size w v0 x0) (h1 : SegmentV w.heap.size w v1 x1) :
    Calls Try.prog 8 #[v0, v1] w fun e w' => e = .returned (.bool true) ∧ Ext w w' := by
  have H0 := Lib.hid h0
  obtain ⟨A0_0, n0_0, c0_0, A0_1, n0_1, c0_1, rfl, -⟩ := h0
  have H1 := Lib.hid h1
  obtain ⟨A1_2, n1_2, c1_2, rfl, -⟩ := h1
  go_enter Try.func8, Try.ntmps8
  go_wp2_with fail
  have bx0 : Blk ((w.alloc (.cells #[.slice A0_0 n0_0 c0_0, .slice A0_1 n0_1 c0_1] 36)).alloc (.cells #[I x1.ts, I x1.beta, .slice A1_2 n1_2 c1_2] 56)) (w.heap.size) 36 [.slice A0_0 n0_0 c0_0, .slice A0_1 n0_1 c0_1] := by simpa using (Blk.new w 36 [.slice A0_0 n0_0 c0_0, .slice A0_1 n0_1 c0_1]).alloc _
  have BX0 := Lib.hid bx0; clear bx0
  have bx1 : Blk ((w.alloc (.cells #[.slice A0_0 n0_0 c0_0, .slice A0_1 n0_1 c0_1] 36)).alloc (.cells #[I x1.ts, I x1.beta, .slice A1_2 n1_2 c1_2] 56)) (w.heap.size + 1) 56 [I x1.ts, I x1.beta, .slice A1_2 n1_2 c1_2] := by simpa using Blk.new (w.alloc (.cells #[.slice A0_0 n0_0 c0_0, .slice A0_1 n0_1 c0_1] 36)) 56 [I x1.ts, I x1.beta, .slice A1_2 n1_2 c1_2]
  have BX1 := Lib.hid bx1; clear bx1
  have ew : Ext w ((w.alloc (.cells #[.slice A0_0 n0_0 c0_0, .slice A0_1 n0_1 c0_1] 36)).alloc (.cells #[I x1.ts, I x1.beta, .slice A1_2 n1_2 c1_2] 56)) := (by repeat (first | (with_reducible exact Ext.refl _) | (with_reducible assumption) | (with_reducible refine Ext.alloc ?_ _) | (with_reducible refine Ext.drew ?_) | (with_reducible refine Ext.out ?_ (by with_reducible assumption) ?ge; case ge => omega) | (with_reducible refine Ext.trans ?_ (by with_reducible assumption))))
  have zw : w.heap.size + 2 ≤ ((w.alloc (.cells #[.slice A0_0 n0_0 c0_0, .slice A0_1 n0_1 c0_1] 36)).alloc (.cells #[I x1.ts, I x1.beta, .slice A1_2 n1_2 c1_2] 56)).heap.size := by simp only [World.size_alloc]; omega
  generalize ((w.alloc (.cells #[.slice A0_0 n0_0 c0_0, .slice A0_1 n0_1 c0_1] 36)).alloc (.cells #[I x1.ts, I x1.beta, .slice A1_2 n1_2 c1_2] 56)) = w0 at *
  refine (szTopology _ x0 (1048576) _ (by exact H0.out.ext (by repeat (first | (with_reducible exact Ext.refl _) | (with_reducible assumption) | (with_reducible refine Ext.alloc ?_ _) | (with_reducible refine Ext.drew ?_) | (with_reducible refine Ext.out ?_ (by with_reducible assumption) ?ge; case ge => omega) | (with_reducible refine Ext.trans ?_ (by with_reducible assumption))))) (by omega) (by omega)).mono ?_
  rintro e w_1 ⟨rfl, e_1⟩
  have z_1 := e_1.size
  by_cases hlt0 : 1048576 < ((x0.ases.length + x0.links.length : Nat) : Int)
  · rw [szR_neg hlt0]
    go_wp2_with fail
    go_ret
    exact ⟨rfl, (by repeat (first | (with_reducible exact Ext.refl _) | (with_reducible assumption) | (with_reducible refine Ext.alloc ?_ _) | (with_reducible refine Ext.drew ?_) | (with_reducible refine Ext.out ?_ (by with_reducible assumption) ?ge; case ge => omega) | (with_reducible refine Ext.trans ?_ (by with_reducible assumption))))⟩
  rw [szR_pos (by omega)]
  have hb0 : x0.ases.length + x0.links.length ≤ 1048576 := by omega
  have bc0 : Blk w_1 (w.heap.size) 36 [.slice A0_0 n0_0 c0_0, .slice A0_1 n0_1 c0_1] := (by repeat (first | (with_reducible exact BX0.out) | (with_reducible refine Blk.drew ?_) | (with_reducible refine Blk.ext ?_ (by with_reducible assumption)) | (with_reducible refine Blk.out ?_ (by with_reducible assumption) ?ge; case ge => omega)))
  obtain ⟨q0_0, q0_1⟩ := blk2 bc0
  clear bc0
  have bc1 : Blk w_1 (w.heap.size + 1) 56 [I x1.ts, I x1.beta, .slice A1_2 n1_2 c1_2] := (by repeat (first | (with_reducible exact BX1.out) | (with_reducible refine Blk.drew ?_) | (with_reducible refine Blk.ext ?_ (by with_reducible assumption)) | (with_reducible refine Blk.out ?_ (by with_reducible assumption) ?ge; case ge => omega)))
  obtain ⟨q1_0, q1_1, q1_2⟩ := blk3 bc1
  clear bc1
  go_wp2_with fail
  clear q0_0 q0_1 q1_0 q1_1 q1_2
  refine (szSegment _ x1 (1048576 - ((x0.ases.length + x0.links.length : Nat) : Int)) _ (by exact H1.out.ext (by repeat (first | (with_reducible exact Ext.refl _) | (with_reducible assumption) | (with_reducible refine Ext.alloc ?_ _) | (with_reducible refine Ext.drew ?_) | (with_reducible refine Ext.out ?_ (by with_reducible assumption) ?ge; case ge => omega) | (with_reducible refine Ext.trans ?_ (by with_reducible assumption))))) (by omega) (by omega)).mono ?_
  rintro e w_2 ⟨rfl, e_2⟩
  have z_2 := e_2.size
  by_cases hlt1 : 1048576 - ((x0.ases.length + x0.links.length : Nat) : Int) < ((x1.hops.length : Nat) : Int)
  · rw [szR_neg hlt1]
    go_wp2_with fail
    go_ret
    exact ⟨rfl, (by repeat (first | (with_reducible exact Ext.refl _) | (with_reducible assumption) | (with_reducible refine Ext.alloc ?_ _) | (with_reducible refine Ext.drew ?_) | (with_reducible refine Ext.out ?_ (by with_reducible assumption) ?ge; case ge => omega) | (with_reducible refine Ext.trans ?_ (by with_reducible assumption))))⟩
  rw [szR_pos (by omega)]
  have hb1 : x1.hops.length ≤ 1048576 := by omega
  have bc0 : Blk w_2 (w.heap.size) 36 [.slice A0_0 n0_0 c0_0, .slice A0_1 n0_1 c0_1] := (by repeat (first | (with_reducible exact BX0.out) | (with_reducible refine Blk.drew ?_) | (with_reducible refine Blk.ext ?_ (by with_reducible assumption)) | (with_reducible refine Blk.out ?_ (by with_reducible assumption) ?ge; case ge => omega)))
  obtain ⟨q0_0, q0_1⟩ := blk2 bc0
  clear bc0
  have bc1 : Blk w_2 (w.heap.size + 1) 56 [I x1.ts, I x1.beta, .slice A1_2 n1_2 c1_2] := (by repeat (first | (with_reducible exact BX1.out) | (with_reducible refine Blk.drew ?_) | (with_reducible refine Blk.ext ?_ (by with_reducible assumption)) | (with_reducible refine Blk.out ?_ (by with_reducible assumption) ?ge; case ge => omega)))
  obtain ⟨q1_0, q1_1, q1_2⟩ := blk3 bc1
  clear bc1
  go_wp2_with fail
  clear q0_0 q0_1 q1_0 q1_1 q1_2
  have bc0 : Blk w_2 (w.heap.size) 36 [.slice A0_0 n0_0 c0_0, .slice A0_1 n0_1 c0_1] := (by repeat (first | (with_reducible exact BX0.out) | (with_reducible refine Blk.drew ?_) | (with_reducible refine Blk.ext ?_ (by with_reducible assumption)) | (with_reducible refine Blk.out ?_ (by with_reducible assumption) ?ge; case ge => omega)))
  have lt0 := bc0.lt
  obtain ⟨q0_0, q0_1⟩ := blk2 bc0
  clear bc0
  have bc1 : Blk w_2 (w.heap.size + 1) 56 [I x1.ts, I x1.beta, .slice A1_2 n1_2 c1_2] := (by repeat (first | (with_reducible exact BX1.out) | (with_reducible refine Blk.drew ?_) | (with_reducible refine Blk.ext ?_ (by with_reducible assumption)) | (with_reducible refine Blk.out ?_ (by with_reducible assumption) ?ge; case ge => omega)))
  have lt1 := bc1.lt
  obtain ⟨q1_0, q1_1, q1_2⟩ := blk3 bc1
  clear bc1
  refine wp_region_LT 6 (E := Ext) (w0 := w_2) (G := fun τ => match τ with | 25 => some (fun v W => TopologyV W.heap.size W v x0) | 27 => some (fun v W => SegmentV W.heap.size W v x1) | 28 => some (fun v W => SignedSegmentO w_2.heap.size W.heap.size W v (signSeg x0 x1)) | 6 => some (fun v W => Zero1 75 w_2.heap.size [.int .i64 0, .int .i64 0, .slice none 0 0, .slice none 0 0] v W) | _ => none) Ext.refl (fun h k => Ext.trans h k) (by kernel_rfl) (by kernel_rfl) (by kernel_rfl) (by kernel_rfl) (by kernel_rfl) (by kernel_rfl) (by
      intro t φ hG
      split at hG
      all_goals first | (cases hG; done) | (cases Option.some.inj hG; intro v W W' hE hv; first | exact hv | exact IntS.ext hv hE | exact hv.ext hE | exact Own.up hv hE | exact hv.up hE | exact NO.up (by first | exact SegmentOC.keeps | exact TrustRootOC.keeps | exact BeaconOC.keeps | exact BeaconMessageOC.keeps | exact BeaconStoreOC.keeps) hv hE (Nat.le_refl _) | exact ObjUp.up hv hE)) (Ext.drew (by exact Ext.refl _)) ?_
  simp only [List.take_succ_cons, List.take_zero]
  repeat' (first
    | ((with_reducible refine wpL_skip ?_ ?_ ?_)
       · rfl
       · rfl
       simp only [Act.put, List.setIfInBounds_toArray, List.set_cons_zero, List.set_cons_succ])
    | ((with_reducible refine wpL_quiet ?_ ?_ ?_ ?_)
       · rfl
       · rfl
       · rfl
       apply Exists.intro
       refine ⟨fun W hW hS => ?_, ?_⟩
       · have hC := (Ext.facts hW).1
         go_simp
         first | done | (with_reducible rfl) | rfl
       first | (with_reducible refine wpL_boolT ?_) | (with_reducible refine wpL_boolF ?_) | (with_reducible refine wpL_bool (fun hB => ?_) (fun hB => ?_)) | skip
       all_goals simp only [Act.put, List.setIfInBounds_toArray, List.set_cons_zero, List.set_cons_succ])
    | ((refine wpL_call ?_ rfl rfl ?_ ?_ ?_)
       · rfl
       · rfl
       · intro W hW hS
         have hC := (Ext.facts hW).1
         unfold growAt
         go_simp
         simp only [growUpon]
         first | (go_at_call 21; ((with_reducible refine Calls.mono (toTopology _ x0 _ (by exact H0.out.ext (by repeat (first | (with_reducible exact Ext.refl _) | (with_reducible assumption) | (with_reducible refine Ext.alloc ?_ _) | (with_reducible refine Ext.drew ?_) | (with_reducible refine Ext.out ?_ (by with_reducible assumption) ?ge; case ge => omega) | (with_reducible refine Ext.trans ?_ (by with_reducible assumption))))) (by omega)) ?_)); rintro e w9 ⟨v9, rfl, o9, e9⟩; exact ⟨_, rfl, e9, TopologyO_rd o9 (Nat.le_refl _)⟩) | (go_at_call 27; ((with_reducible refine Calls.mono (toSegment _ x1 _ (by exact H1.out.ext (by repeat (first | (with_reducible exact Ext.refl _) | (with_reducible assumption) | (with_reducible refine Ext.alloc ?_ _) | (with_reducible refine Ext.drew ?_) | (with_reducible refine Ext.out ?_ (by with_reducible assumption) ?ge; case ge => omega) | (with_reducible refine Ext.trans ?_ (by with_reducible assumption))))) (by omega)) ?_)); rintro e w9 ⟨v9, rfl, o9, e9⟩; exact ⟨_, rfl, e9, SegmentO_rd o9 (Nat.le_refl _)⟩) | (go_at_call 43; have hs25 : TopologyV W.heap.size W _ x0 := hS 25 (by decide); have hs27 : SegmentV W.heap.size W _ x1 := hS 27 (by decide); ((with_reducible refine Calls.mono (spec_SignSegment _ _ x0 x1 _ hs25 hs27 (by omega)) ?_)); rintro e w9 ⟨v9, rfl, o9, e9⟩; exact ⟨_, rfl, e9, SignedSegmentO.more o9 (Ext.size hW) (Nat.le_refl _)⟩) | (exact ⟨(by repeat (first | (with_reducible exact Ext.refl _) | (with_reducible assumption) | (with_reducible refine Ext.alloc ?_ _) | (with_reducible refine Ext.drew ?_) | (with_reducible refine Ext.drewN ?_ _) | (with_reducible refine Ext.setCell (p := _) ?_ ?ge _; case ge => (dsimp only; omega)) | (with_reducible refine Ext.trans ?_ (by with_reducible assumption)))), _, rfl, Ext.size (by assumption), Blk.new _ _ _⟩)
       first | (with_reducible refine wpL_boolT ?_) | (with_reducible refine wpL_boolF ?_) | (with_reducible refine wpL_bool (fun hB => ?_) (fun hB => ?_)) | skip
       all_goals simp only [Act.put, List.setIfInBounds_toArray, List.set_cons_zero, List.set_cons_succ])
    | ((refine wpL_grow ?_ rfl rfl ?_ ?_)
       · rfl
       · intro W hW hS
         have hC := (Ext.facts hW).1
         unfold growAt
         go_simp
         simp only [growUpon]
         first | (go_at_call 21; ((with_reducible refine Calls.mono (toTopology _ x0 _ (by exact H0.out.ext (by repeat (first | (with_reducible exact Ext.refl _) | (with_reducible assumption) | (with_reducible refine Ext.alloc ?_ _) | (with_reducible refine Ext.drew ?_) | (with_reducible refine Ext.out ?_ (by with_reducible assumption) ?ge; case ge => omega) | (with_reducible refine Ext.trans ?_ (by with_reducible assumption))))) (by omega)) ?_)); rintro e w9 ⟨v9, rfl, o9, e9⟩; exact ⟨_, rfl, e9, TopologyO_rd o9 (Nat.le_refl _)⟩) | (go_at_call 27; ((with_reducible refine Calls.mono (toSegment _ x1 _ (by exact H1.out.ext (by repeat (first | (with_reducible exact Ext.refl _) | (with_reducible assumption) | (with_reducible refine Ext.alloc ?_ _) | (with_reducible refine Ext.drew ?_) | (with_reducible refine Ext.out ?_ (by with_reducible assumption) ?ge; case ge => omega) | (with_reducible refine Ext.trans ?_ (by with_reducible assumption))))) (by omega)) ?_)); rintro e w9 ⟨v9, rfl, o9, e9⟩; exact ⟨_, rfl, e9, SegmentO_rd o9 (Nat.le_refl _)⟩) | (go_at_call 43; have hs25 : TopologyV W.heap.size W _ x0 := hS 25 (by decide); have hs27 : SegmentV W.heap.size W _ x1 := hS 27 (by decide); ((with_reducible refine Calls.mono (spec_SignSegment _ _ x0 x1 _ hs25 hs27 (by omega)) ?_)); rintro e w9 ⟨v9, rfl, o9, e9⟩; exact ⟨_, rfl, e9, SignedSegmentO.more o9 (Ext.size hW) (Nat.le_refl _)⟩) | (exact ⟨(by repeat (first | (with_reducible exact Ext.refl _) | (with_reducible assumption) | (with_reducible refine Ext.alloc ?_ _) | (with_reducible refine Ext.drew ?_) | (with_reducible refine Ext.drewN ?_ _) | (with_reducible refine Ext.setCell (p := _) ?_ ?ge _; case ge => (dsimp only; omega)) | (with_reducible refine Ext.trans ?_ (by with_reducible assumption)))), _, rfl, Ext.size (by assumption), Blk.new _ _ _⟩)
       intro v W' hW' hv
       first | (obtain ⟨A_3_2, n_3_2, c_3_2, A_3_3, n_3_3, c_3_3, rfl⟩ := SignedSegmentO.shape hv) | (obtain ⟨g5, rfl, -⟩ := hv) | (obtain ⟨A5, n5, c5, rfl, -⟩ := id hv; clear hv) | (obtain ⟨A5, n5, c5, rfl⟩ := NO.slice hv) | skip
       all_goals simp only [Act.put, List.setIfInBounds_toArray, List.set_cons_zero, List.set_cons_succ]))
  refine wpL_nil (fun w_3 e_3 hL => ?_)
  have o_3 : SignedSegmentO w_2.heap.size w_3.heap.size w_3 _ (signSeg x0 x1) := hL 28
  have p_3 : Zero1 75 w_2.heap.size [.int .i64 0, .int .i64 0, .slice none 0 0, .slice none 0 0] _ w_3 := hL 6
  obtain ⟨gz_3, hgz, hgl_3, hbz⟩ := p_3
  have hge : gz_3 = g5 := by injection hgz with h; injection h with h; injection h with h1; exact h1.symm
  subst hge
  clear hgz
  clear hL
  clear q0_0 q0_1 q1_0 q1_1 q1_2 lt0 lt1
  have OW_3 := Lib.hid (SignedSegmentO.setT (SignedSegmentO.setT (SignedSegmentO.setT (SignedSegmentO.setT o_3 hbz 0 (I (signSeg x0 x1).seg.ts)) (Blk.set_ hbz 0 (I (signSeg x0 x1).seg.ts)) 1 (I (signSeg x0 x1).seg.beta)) (Blk.set_ (Blk.set_ hbz 0 (I (signSeg x0 x1).seg.ts)) 1 (I (signSeg x0 x1).seg.beta)) 2 (.slice A_3_2 n_3_2 c_3_2)) (Blk.set_ (Blk.set_ (Blk.set_ hbz 0 (I (signSeg x0 x1).seg.ts)) 1 (I (signSeg x0 x1).seg.beta)) 2 (.slice A_3_2 n_3_2 c_3_2)) 3 (.slice A_3_3 n_3_3 c_3_3))
  have BW_3 := Lib.hid (Blk.set_ (Blk.set_ (Blk.set_ (Blk.set_ hbz 0 (I (signSeg x0 x1).seg.ts)) 1 (I (signSeg x0 x1).seg.beta)) 2 (.slice A_3_2 n_3_2 c_3_2)) 3 (.slice A_3_3 n_3_3 c_3_3))
  have lz_3 := hbz.lt
  obtain ⟨yz_0, yz_1, yz_2, yz_3⟩ := blk4 hbz
  have fz_0 := hbz.frozen 0
  have fz_1 := hbz.frozen 1
  have fz_2 := hbz.frozen 2
  have fz_3 := hbz.frozen 3
  have z_3 := e_3.size
  clear hbz o_3
  have bc0 : Blk w_3 (w.heap.size) 36 [.slice A0_0 n0_0 c0_0, .slice A0_1 n0_1 c0_1] := (by repeat (first | (with_reducible exact BX0.out) | (with_reducible refine Blk.drew ?_) | (with_reducible refine Blk.ext ?_ (by with_reducible assumption)) | (with_reducible refine Blk.out ?_ (by with_reducible assumption) ?ge; case ge => omega)))
  have lt0 := bc0.lt
  obtain ⟨q0_0, q0_1⟩ := blk2 bc0
  clear bc0
  have bc1 : Blk w_3 (w.heap.size + 1) 56 [I x1.ts, I x1.beta, .slice A1_2 n1_2 c1_2] := (by repeat (first | (with_reducible exact BX1.out) | (with_reducible refine Blk.drew ?_) | (with_reducible refine Blk.ext ?_ (by with_reducible assumption)) | (with_reducible refine Blk.out ?_ (by with_reducible assumption) ?ge; case ge => omega)))
  have lt1 := bc1.lt
  obtain ⟨q1_0, q1_1, q1_2⟩ := blk3 bc1
  clear bc1
  simp only [List.drop_succ_cons, List.drop_zero]
  go_wp2_with fail
  clear q0_0 q0_1 q1_0 q1_1 q1_2 lt0 lt1
  clear yz_0 yz_1 yz_2 yz_3 fz_0 fz_1 fz_2 fz_3
  have bxLw3 : Blk ((((w_3.setCell ⟨gz_3, 0, none⟩ (I (signSeg x0 x1).seg.ts)).setCell ⟨gz_3, 1, none⟩ (I (signSeg x0 x1).seg.beta)).setCell ⟨gz_3, 2, none⟩ (.slice A_3_2 n_3_2 c_3_2)).setCell ⟨gz_3, 3, none⟩ (.slice A_3_3 n_3_3 c_3_3)) gz_3 75 [I (signSeg x0 x1).seg.ts, I (signSeg x0 x1).seg.beta, .slice A_3_2 n_3_2 c_3_2, .slice A_3_3 n_3_3 c_3_3] := by simpa using BW_3.out
  have BXLw3 := Lib.hid bxLw3; clear bxLw3
  have ewLw3 : Ext w_2 ((((w_3.setCell ⟨gz_3, 0, none⟩ (I (signSeg x0 x1).seg.ts)).setCell ⟨gz_3, 1, none⟩ (I (signSeg x0 x1).seg.beta)).setCell ⟨gz_3, 2, none⟩ (.slice A_3_2 n_3_2 c_3_2)).setCell ⟨gz_3, 3, none⟩ (.slice A_3_3 n_3_3 c_3_3)) := (by repeat (first | (with_reducible exact Ext.refl _) | (with_reducible assumption) | (with_reducible refine Ext.alloc ?_ _) | (with_reducible refine Ext.drew ?_) | (with_reducible refine Ext.setCell (p := _) ?_ ?ge _; case ge => (dsimp only; omega)) | (with_reducible refine Ext.out ?_ (by with_reducible assumption) ?ge; case ge => omega) | (with_reducible refine Ext.trans ?_ (by with_reducible assumption))))
  have zwLw3 : ((((w_3.setCell ⟨gz_3, 0, none⟩ (I (signSeg x0 x1).seg.ts)).setCell ⟨gz_3, 1, none⟩ (I (signSeg x0 x1).seg.beta)).setCell ⟨gz_3, 2, none⟩ (.slice A_3_2 n_3_2 c_3_2)).setCell ⟨gz_3, 3, none⟩ (.slice A_3_3 n_3_3 c_3_3)).heap.size = w_3.heap.size := by simp only [World.size_setCell]
  have O_3 : Hid (SignedSegmentO w_2.heap.size ((((w_3.setCell ⟨gz_3, 0, none⟩ (I (signSeg x0 x1).seg.ts)).setCell ⟨gz_3, 1, none⟩ (I (signSeg x0 x1).seg.beta)).setCell ⟨gz_3, 2, none⟩ (.slice A_3_2 n_3_2 c_3_2)).setCell ⟨gz_3, 3, none⟩ (.slice A_3_3 n_3_3 c_3_3)).heap.size ((((w_3.setCell ⟨gz_3, 0, none⟩ (I (signSeg x0 x1).seg.ts)).setCell ⟨gz_3, 1, none⟩ (I (signSeg x0 x1).seg.beta)).setCell ⟨gz_3, 2, none⟩ (.slice A_3_2 n_3_2 c_3_2)).setCell ⟨gz_3, 3, none⟩ (.slice A_3_3 n_3_3 c_3_3)) (.agg #[I (signSeg x0 x1).seg.ts, I (signSeg x0 x1).seg.beta, .slice A_3_2 n_3_2 c_3_2, .slice A_3_3 n_3_3 c_3_3]) (signSeg x0 x1)) := by unfold Hid; have h := OW_3.out; rw [← zwLw3] at h; exact h
  have ZWLw3 := Lib.hid zwLw3; have zvLw3 : w_3.heap.size ≤ ((((w_3.setCell ⟨gz_3, 0, none⟩ (I (signSeg x0 x1).seg.ts)).setCell ⟨gz_3, 1, none⟩ (I (signSeg x0 x1).seg.beta)).setCell ⟨gz_3, 2, none⟩ (.slice A_3_2 n_3_2 c_3_2)).setCell ⟨gz_3, 3, none⟩ (.slice A_3_3 n_3_3 c_3_3)).heap.size := by omega
  have zxLw3 : ((((w_3.setCell ⟨gz_3, 0, none⟩ (I (signSeg x0 x1).seg.ts)).setCell ⟨gz_3, 1, none⟩ (I (signSeg x0 x1).seg.beta)).setCell ⟨gz_3, 2, none⟩ (.slice A_3_2 n_3_2 c_3_2)).setCell ⟨gz_3, 3, none⟩ (.slice A_3_3 n_3_3 c_3_3)).heap.size ≤ w_3.heap.size := by omega
  clear zwLw3 OW_3 BW_3 ZWLw3
  clear e_3
  generalize ((((w_3.setCell ⟨gz_3, 0, none⟩ (I (signSeg x0 x1).seg.ts)).setCell ⟨gz_3, 1, none⟩ (I (signSeg x0 x1).seg.beta)).setCell ⟨gz_3, 2, none⟩ (.slice A_3_2 n_3_2 c_3_2)).setCell ⟨gz_3, 3, none⟩ (.slice A_3_3 n_3_3 c_3_3)) = w_3b at *
  refine (toTopology (.agg #[.slice A0_0 n0_0 c0_0, .slice A0_1 n0_1 c0_1]) x0 _ (by exact H0.out.ext (by repeat (first | (with_reducible exact Ext.refl _) | (with_reducible assumption) | (with_reducible refine Ext.alloc ?_ _) | (with_reducible refine Ext.drew ?_) | (with_reducible refine Ext.out ?_ (by with_reducible assumption) ?ge; case ge => omega) | (with_reducible refine Ext.trans ?_ (by with_reducible assumption))))) (by omega)).mono ?_
  rintro e w_4 ⟨u_4, rfl, o_4, e_4⟩
  have z_4 := e_4.size
  have O_4 := Lib.hid o_4; clear o_4
  obtain ⟨A_4_0, n_4_0, c_4_0, A_4_1, n_4_1, c_4_1, hv_4⟩ := O_4.out.shape
  subst hv_4
  have bc0 : Blk w_4 (w.heap.size) 36 [.slice A0_0 n0_0 c0_0, .slice A0_1 n0_1 c0_1] := (by repeat (first | (with_reducible exact BX0.out) | (with_reducible refine Blk.drew ?_) | (with_reducible refine Blk.ext ?_ (by with_reducible assumption)) | (with_reducible refine Blk.out ?_ (by with_reducible assumption) ?ge; case ge => omega)))
  have lt0 := bc0.lt
  obtain ⟨q0_0, q0_1⟩ := blk2 bc0
  clear bc0
  have bc1 : Blk w_4 (w.heap.size + 1) 56 [I x1.ts, I x1.beta, .slice A1_2 n1_2 c1_2] := (by repeat (first | (with_reducible exact BX1.out) | (with_reducible refine Blk.drew ?_) | (with_reducible refine Blk.ext ?_ (by with_reducible assumption)) | (with_reducible refine Blk.out ?_ (by with_reducible assumption) ?ge; case ge => omega)))
  have lt1 := bc1.lt
  obtain ⟨q1_0, q1_1, q1_2⟩ := blk3 bc1
  clear bc1
  have bcLw3 : Blk w_4 (gz_3) 75 [I (signSeg x0 x1).seg.ts, I (signSeg x0 x1).seg.beta, .slice A_3_2 n_3_2 c_3_2, .slice A_3_3 n_3_3 c_3_3] := (by repeat (first | (with_reducible exact BXLw3.out) | (with_reducible refine Blk.drew ?_) | (with_reducible refine Blk.ext ?_ (by with_reducible assumption)) | (with_reducible refine Blk.out ?_ (by with_reducible assumption) ?ge; case ge => omega)))
  have ltLw3 := bcLw3.lt
  obtain ⟨qLw3_0, qLw3_1, qLw3_2, qLw3_3⟩ := blk4 bcLw3
  clear bcLw3
  go_wp2_with fail
  clear q0_0 q0_1 q1_0 q1_1 q1_2 qLw3_0 qLw3_1 qLw3_2 qLw3_3 lt0 lt1 ltLw3
  have bxLw4 : Blk (w_4.alloc (.cells #[.slice A_4_0 n_4_0 c_4_0, .slice A_4_1 n_4_1 c_4_1] 46)) w_4.heap.size 46 [.slice A_4_0 n_4_0 c_4_0, .slice A_4_1 n_4_1 c_4_1] := Blk.new _ _ _
  have BXLw4 := Lib.hid bxLw4; clear bxLw4
  have ewLw4 : Ext w_4 (w_4.alloc (.cells #[.slice A_4_0 n_4_0 c_4_0, .slice A_4_1 n_4_1 c_4_1] 46)) := (Ext.refl _).alloc _
  have zwLw4 : w_4.heap.size + 1 ≤ (w_4.alloc (.cells #[.slice A_4_0 n_4_0 c_4_0, .slice A_4_1 n_4_1 c_4_1] 46)).heap.size := by simp only [World.size_alloc]; omega
  generalize (w_4.alloc (.cells #[.slice A_4_0 n_4_0 c_4_0, .slice A_4_1 n_4_1 c_4_1] 46)) = w_4b at *
  refine (toSegment (.agg #[I x1.ts, I x1.beta, .slice A1_2 n1_2 c1_2]) x1 _ (by exact H1.out.ext (by repeat (first | (with_reducible exact Ext.refl _) | (with_reducible assumption) | (with_reducible refine Ext.alloc ?_ _) | (with_reducible refine Ext.drew ?_) | (with_reducible refine Ext.out ?_ (by with_reducible assumption) ?ge; case ge => omega) | (with_reducible refine Ext.trans ?_ (by with_reducible assumption))))) (by omega)).mono ?_
  rintro e w_5 ⟨u_5, rfl, o_5, e_5⟩
  have z_5 := e_5.size
  have O_5 := Lib.hid o_5; clear o_5
  obtain ⟨A_5_2, n_5_2, c_5_2, hv_5⟩ := O_5.out.shape
  subst hv_5
  have bc0 : Blk w_5 (w.heap.size) 36 [.slice A0_0 n0_0 c0_0, .slice A0_1 n0_1 c0_1] := (by repeat (first | (with_reducible exact BX0.out) | (with_reducible refine Blk.drew ?_) | (with_reducible refine Blk.ext ?_ (by with_reducible assumption)) | (with_reducible refine Blk.out ?_ (by with_reducible assumption) ?ge; case ge => omega)))
  have lt0 := bc0.lt
  obtain ⟨q0_0, q0_1⟩ := blk2 bc0
  clear bc0
  have bc1 : Blk w_5 (w.heap.size + 1) 56 [I x1.ts, I x1.beta, .slice A1_2 n1_2 c1_2] := (by repeat (first | (with_reducible exact BX1.out) | (with_reducible refine Blk.drew ?_) | (with_reducible refine Blk.ext ?_ (by with_reducible assumption)) | (with_reducible refine Blk.out ?_ (by with_reducible assumption) ?ge; case ge => omega)))
  have lt1 := bc1.lt
  obtain ⟨q1_0, q1_1, q1_2⟩ := blk3 bc1
  clear bc1
  have bcLw3 : Blk w_5 (gz_3) 75 [I (signSeg x0 x1).seg.ts, I (signSeg x0 x1).seg.beta, .slice A_3_2 n_3_2 c_3_2, .slice A_3_3 n_3_3 c_3_3] := (by repeat (first | (with_reducible exact BXLw3.out) | (with_reducible refine Blk.drew ?_) | (with_reducible refine Blk.ext ?_ (by with_reducible assumption)) | (with_reducible refine Blk.out ?_ (by with_reducible assumption) ?ge; case ge => omega)))
  have ltLw3 := bcLw3.lt
  obtain ⟨qLw3_0, qLw3_1, qLw3_2, qLw3_3⟩ := blk4 bcLw3
  clear bcLw3
  have bcLw4 : Blk w_5 (w_4.heap.size) 46 [.slice A_4_0 n_4_0 c_4_0, .slice A_4_1 n_4_1 c_4_1] := (by repeat (first | (with_reducible exact BXLw4.out) | (with_reducible refine Blk.drew ?_) | (with_reducible refine Blk.ext ?_ (by with_reducible assumption)) | (with_reducible refine Blk.out ?_ (by with_reducible assumption) ?ge; case ge => omega)))
  have ltLw4 := bcLw4.lt
  obtain ⟨qLw4_0, qLw4_1⟩ := blk2 bcLw4
  clear bcLw4
  go_wp2_with fail
  clear q0_0 q0_1 q1_0 q1_1 q1_2 qLw3_0 qLw3_1 qLw3_2 qLw3_3 qLw4_0 qLw4_1 lt0 lt1 ltLw3 ltLw4
  have bxLw5 : Blk (w_5.alloc (.cells #[I x1.ts, I x1.beta, .slice A_5_2 n_5_2 c_5_2] 63)) w_5.heap.size 63 [I x1.ts, I x1.beta, .slice A_5_2 n_5_2 c_5_2] := Blk.new _ _ _
  have BXLw5 := Lib.hid bxLw5; clear bxLw5
  have ewLw5 : Ext w_5 (w_5.alloc (.cells #[I x1.ts, I x1.beta, .slice A_5_2 n_5_2 c_5_2] 63)) := (Ext.refl _).alloc _
  have zwLw5 : w_5.heap.size + 1 ≤ (w_5.alloc (.cells #[I x1.ts, I x1.beta, .slice A_5_2 n_5_2 c_5_2] 63)).heap.size := by simp only [World.size_alloc]; omega
  generalize (w_5.alloc (.cells #[I x1.ts, I x1.beta, .slice A_5_2 n_5_2 c_5_2] 63)) = w_5b at *
  refine (impl_SignSegment _ _ x0 x1 _ (by exact TopologyO_rd (lo := w_3b.heap.size) (hi := w_4.heap.size) (by repeat (first | (with_reducible exact O_4.out) | (with_reducible refine TopologyO.drew ?_) | (with_reducible refine TopologyO.ext ?_ (by with_reducible assumption) ?ge; case ge => first | omega | (simp only [World.size_drew]; omega)) | (with_reducible refine TopologyO.out ?_ (by with_reducible assumption) ?ge; case ge => omega))) (by omega)) (by exact SegmentO_rd (lo := w_4b.heap.size) (hi := w_5.heap.size) (by repeat (first | (with_reducible exact O_5.out) | (with_reducible refine SegmentO.drew ?_) | (with_reducible refine SegmentO.ext ?_ (by with_reducible assumption) ?ge; case ge => first | omega | (simp only [World.size_drew]; omega)) | (with_reducible refine SegmentO.out ?_ (by with_reducible assumption) ?ge; case ge => omega))) (by omega)) (by omega)).mono ?_
  rintro e w_6 ⟨u_6, rfl, o_6, e_6⟩
  have z_6 := e_6.size
  have O_6 := Lib.hid o_6; clear o_6
  obtain ⟨A_6_2, n_6_2, c_6_2, A_6_3, n_6_3, c_6_3, hv_6⟩ := O_6.out.shape
  subst hv_6
  have bc0 : Blk w_6 (w.heap.size) 36 [.slice A0_0 n0_0 c0_0, .slice A0_1 n0_1 c0_1] := (by repeat (first | (with_reducible exact BX0.out) | (with_reducible refine Blk.drew ?_) | (with_reducible refine Blk.ext ?_ (by with_reducible assumption)) | (with_reducible refine Blk.out ?_ (by with_reducible assumption) ?ge; case ge => omega)))
  have lt0 := bc0.lt
  obtain ⟨q0_0, q0_1⟩ := blk2 bc0
  clear bc0
  have bc1 : Blk w_6 (w.heap.size + 1) 56 [I x1.ts, I x1.beta, .slice A1_2 n1_2 c1_2] := (by repeat (first | (with_reducible exact BX1.out) | (with_reducible refine Blk.drew ?_) | (with_reducible refine Blk.ext ?_ (by with_reducible assumption)) | (with_reducible refine Blk.out ?_ (by with_reducible assumption) ?ge; case ge => omega)))
  have lt1 := bc1.lt
  obtain ⟨q1_0, q1_1, q1_2⟩ := blk3 bc1
  clear bc1
  have bcLw3 : Blk w_6 (gz_3) 75 [I (signSeg x0 x1).seg.ts, I (signSeg x0 x1).seg.beta, .slice A_3_2 n_3_2 c_3_2, .slice A_3_3 n_3_3 c_3_3] := (by repeat (first | (with_reducible exact BXLw3.out) | (with_reducible refine Blk.drew ?_) | (with_reducible refine Blk.ext ?_ (by with_reducible assumption)) | (with_reducible refine Blk.out ?_ (by with_reducible assumption) ?ge; case ge => omega)))
  have ltLw3 := bcLw3.lt
  obtain ⟨qLw3_0, qLw3_1, qLw3_2, qLw3_3⟩ := blk4 bcLw3
  clear bcLw3
  have bcLw4 : Blk w_6 (w_4.heap.size) 46 [.slice A_4_0 n_4_0 c_4_0, .slice A_4_1 n_4_1 c_4_1] := (by repeat (first | (with_reducible exact BXLw4.out) | (with_reducible refine Blk.drew ?_) | (with_reducible refine Blk.ext ?_ (by with_reducible assumption)) | (with_reducible refine Blk.out ?_ (by with_reducible assumption) ?ge; case ge => omega)))
  have ltLw4 := bcLw4.lt
  obtain ⟨qLw4_0, qLw4_1⟩ := blk2 bcLw4
  clear bcLw4
  have bcLw5 : Blk w_6 (w_5.heap.size) 63 [I x1.ts, I x1.beta, .slice A_5_2 n_5_2 c_5_2] := (by repeat (first | (with_reducible exact BXLw5.out) | (with_reducible refine Blk.drew ?_) | (with_reducible refine Blk.ext ?_ (by with_reducible assumption)) | (with_reducible refine Blk.out ?_ (by with_reducible assumption) ?ge; case ge => omega)))
  have ltLw5 := bcLw5.lt
  obtain ⟨qLw5_0, qLw5_1, qLw5_2⟩ := blk3 bcLw5
  clear bcLw5
  go_wp2_with fail
  clear q0_0 q0_1 q1_0 q1_1 q1_2 qLw3_0 qLw3_1 qLw3_2 qLw3_3 qLw4_0 qLw4_1 qLw5_0 qLw5_1 qLw5_2 lt0 lt1 ltLw3 ltLw4 ltLw5
  have bxLw6 : Blk (w_6.alloc (.cells #[I (signSeg x0 x1).seg.ts, I (signSeg x0 x1).seg.beta, .slice A_6_2 n_6_2 c_6_2, .slice A_6_3 n_6_3 c_6_3] 75)) w_6.heap.size 75 [I (signSeg x0 x1).seg.ts, I (signSeg x0 x1).seg.beta, .slice A_6_2 n_6_2 c_6_2, .slice A_6_3 n_6_3 c_6_3] := Blk.new _ _ _
  have BXLw6 := Lib.hid bxLw6; clear bxLw6
  have ewLw6 : Ext w_6 (w_6.alloc (.cells #[I (signSeg x0 x1).seg.ts, I (signSeg x0 x1).seg.beta, .slice A_6_2 n_6_2 c_6_2, .slice A_6_3 n_6_3 c_6_3] 75)) := (Ext.refl _).alloc _
  have zwLw6 : w_6.heap.size + 1 ≤ (w_6.alloc (.cells #[I (signSeg x0 x1).seg.ts, I (signSeg x0 x1).seg.beta, .slice A_6_2 n_6_2 c_6_2, .slice A_6_3 n_6_3 c_6_3] 75)).heap.size := by simp only [World.size_alloc]; omega
  generalize (w_6.alloc (.cells #[I (signSeg x0 x1).seg.ts, I (signSeg x0 x1).seg.beta, .slice A_6_2 n_6_2 c_6_2, .slice A_6_3 n_6_3 c_6_3] 75)) = w_6b at *
  have S_3 := Lib.hid (SignedSegmentO_rd O_3.out (Nat.le_refl _))
  refine (eqSignedSegment _ _ (signSeg x0 x1) (signSeg x0 x1) _ (by exact SignedSegmentO_rd (lo := w_5b.heap.size) (hi := w_6.heap.size) (by repeat (first | (with_reducible exact O_6.out) | (with_reducible refine SignedSegmentO.drew ?_) | (with_reducible refine SignedSegmentO.ext ?_ (by with_reducible assumption) ?ge; case ge => first | omega | (simp only [World.size_drew]; omega)) | (with_reducible refine SignedSegmentO.out ?_ (by with_reducible assumption) ?ge; case ge => omega))) (by omega)) (by exact S_3.out.ext (by repeat (first | (with_reducible exact Ext.refl _) | (with_reducible assumption) | (with_reducible refine Ext.alloc ?_ _) | (with_reducible refine Ext.drew ?_) | (with_reducible refine Ext.out ?_ (by with_reducible assumption) ?ge; case ge => omega) | (with_reducible refine Ext.trans ?_ (by with_reducible assumption)))))).mono ?_
  rintro e w_7 ⟨rfl, e_7⟩
  have z_7 := e_7.size
  try rw [decide_eq_true rfl]
  have bc0 : Blk w_7 (w.heap.size) 36 [.slice A0_0 n0_0 c0_0, .slice A0_1 n0_1 c0_1] := (by repeat (first | (with_reducible exact BX0.out) | (with_reducible refine Blk.drew ?_) | (with_reducible refine Blk.ext ?_ (by with_reducible assumption)) | (with_reducible refine Blk.out ?_ (by with_reducible assumption) ?ge; case ge => omega)))
  obtain ⟨q0_0, q0_1⟩ := blk2 bc0
  clear bc0
  have bc1 : Blk w_7 (w.heap.size + 1) 56 [I x1.ts, I x1.beta, .slice A1_2 n1_2 c1_2] := (by repeat (first | (with_reducible exact BX1.out) | (with_reducible refine Blk.drew ?_) | (with_reducible refine Blk.ext ?_ (by with_reducible assumption)) | (with_reducible refine Blk.out ?_ (by with_reducible assumption) ?ge; case ge => omega)))
  obtain ⟨q1_0, q1_1, q1_2⟩ := blk3 bc1
  clear bc1
  have bcLw3 : Blk w_7 (gz_3) 75 [I (signSeg x0 x1).seg.ts, I (signSeg x0 x1).seg.beta, .slice A_3_2 n_3_2 c_3_2, .slice A_3_3 n_3_3 c_3_3] := (by repeat (first | (with_reducible exact BXLw3.out) | (with_reducible refine Blk.drew ?_) | (with_reducible refine Blk.ext ?_ (by with_reducible assumption)) | (with_reducible refine Blk.out ?_ (by with_reducible assumption) ?ge; case ge => omega)))
  obtain ⟨qLw3_0, qLw3_1, qLw3_2, qLw3_3⟩ := blk4 bcLw3
  clear bcLw3
  have bcLw4 : Blk w_7 (w_4.heap.size) 46 [.slice A_4_0 n_4_0 c_4_0, .slice A_4_1 n_4_1 c_4_1] := (by repeat (first | (with_reducible exact BXLw4.out) | (with_reducible refine Blk.drew ?_) | (with_reducible refine Blk.ext ?_ (by with_reducible assumption)) | (with_reducible refine Blk.out ?_ (by with_reducible assumption) ?ge; case ge => omega)))
  obtain ⟨qLw4_0, qLw4_1⟩ := blk2 bcLw4
  clear bcLw4
  have bcLw5 : Blk w_7 (w_5.heap.size) 63 [I x1.ts, I x1.beta, .slice A_5_2 n_5_2 c_5_2] := (by repeat (first | (with_reducible exact BXLw5.out) | (with_reducible refine Blk.drew ?_) | (with_reducible refine Blk.ext ?_ (by with_reducible assumption)) | (with_reducible refine Blk.out ?_ (by with_reducible assumption) ?ge; case ge => omega)))
  obtain ⟨qLw5_0, qLw5_1, qLw5_2⟩ := blk3 bcLw5
  clear bcLw5
  have bcLw6 : Blk w_7 (w_6.heap.size) 75 [I (signSeg x0 x1).seg.ts, I (signSeg x0 x1).seg.beta, .slice A_6_2 n_6_2 c_6_2, .slice A_6_3 n_6_3 c_6_3] := (by repeat (first | (with_reducible exact BXLw6.out) | (with_reducible refine Blk.drew ?_) | (with_reducible refine Blk.ext ?_ (by with_reducible assumption)) | (with_reducible refine Blk.out ?_ (by with_reducible assumption) ?ge; case ge => omega)))
  obtain ⟨qLw6_0, qLw6_1, qLw6_2, qLw6_3⟩ := blk4 bcLw6
  clear bcLw6
  go_wp2_with fail
  clear q0_0 q0_1 q1_0 q1_1 q1_2 qLw3_0 qLw3_1 qLw3_2 qLw3_3 qLw4_0 qLw4_1 qLw5_0 qLw5_1 qLw5_2 qLw6_0 qLw6_1 qLw6_2 qLw6_3
  have bc0 : Blk w_7 (w.heap.size) 36 [.slice A0_0 n0_0 c0_0, .slice A0_1 n0_1 c0_1] := (by repeat (first | (with_reducible exact BX0.out) | (with_reducible refine Blk.drew ?_) | (with_reducible refine Blk.ext ?_ (by with_reducible assumption)) | (with_reducible refine Blk.out ?_ (by with_reducible assumption) ?ge; case ge => omega)))
  have lt0 := bc0.lt
  obtain ⟨q0_0, q0_1⟩ := blk2 bc0
  clear bc0
  have bc1 : Blk w_7 (w.heap.size + 1) 56 [I x1.ts, I x1.beta, .slice A1_2 n1_2 c1_2] := (by repeat (first | (with_reducible exact BX1.out) | (with_reducible refine Blk.drew ?_) | (with_reducible refine Blk.ext ?_ (by with_reducible assumption)) | (with_reducible refine Blk.out ?_ (by with_reducible assumption) ?ge; case ge => omega)))
  have lt1 := bc1.lt
  obtain ⟨q1_0, q1_1, q1_2⟩ := blk3 bc1
  clear bc1
  have bcLw3 : Blk w_7 (gz_3) 75 [I (signSeg x0 x1).seg.ts, I (signSeg x0 x1).seg.beta, .slice A_3_2 n_3_2 c_3_2, .slice A_3_3 n_3_3 c_3_3] := (by repeat (first | (with_reducible exact BXLw3.out) | (with_reducible refine Blk.drew ?_) | (with_reducible refine Blk.ext ?_ (by with_reducible assumption)) | (with_reducible refine Blk.out ?_ (by with_reducible assumption) ?ge; case ge => omega)))
  have ltLw3 := bcLw3.lt
  obtain ⟨qLw3_0, qLw3_1, qLw3_2, qLw3_3⟩ := blk4 bcLw3
  clear bcLw3
  have bcLw4 : Blk w_7 (w_4.heap.size) 46 [.slice A_4_0 n_4_0 c_4_0, .slice A_4_1 n_4_1 c_4_1] := (by repeat (first | (with_reducible exact BXLw4.out) | (with_reducible refine Blk.drew ?_) | (with_reducible refine Blk.ext ?_ (by with_reducible assumption)) | (with_reducible refine Blk.out ?_ (by with_reducible assumption) ?ge; case ge => omega)))
  have ltLw4 := bcLw4.lt
  obtain ⟨qLw4_0, qLw4_1⟩ := blk2 bcLw4
  clear bcLw4
  have bcLw5 : Blk w_7 (w_5.heap.size) 63 [I x1.ts, I x1.beta, .slice A_5_2 n_5_2 c_5_2] := (by repeat (first | (with_reducible exact BXLw5.out) | (with_reducible refine Blk.drew ?_) | (with_reducible refine Blk.ext ?_ (by with_reducible assumption)) | (with_reducible refine Blk.out ?_ (by with_reducible assumption) ?ge; case ge => omega)))
  have ltLw5 := bcLw5.lt
  obtain ⟨qLw5_0, qLw5_1, qLw5_2⟩ := blk3 bcLw5
  clear bcLw5
  have bcLw6 : Blk w_7 (w_6.heap.size) 75 [I (signSeg x0 x1).seg.ts, I (signSeg x0 x1).seg.beta, .slice A_6_2 n_6_2 c_6_2, .slice A_6_3 n_6_3 c_6_3] := (by repeat (first | (with_reducible exact BXLw6.out) | (with_reducible refine Blk.drew ?_) | (with_reducible refine Blk.ext ?_ (by with_reducible assumption)) | (with_reducible refine Blk.out ?_ (by with_reducible assumption) ?ge; case ge => omega)))
  have ltLw6 := bcLw6.lt
  obtain ⟨qLw6_0, qLw6_1, qLw6_2, qLw6_3⟩ := blk4 bcLw6
  clear bcLw6
  go_region_held3 (fun W => w_7.heap.size ≤ W.heap.size ∧ ∀ b o, b < w_7.heap.size → W.cell? ⟨b, o, none⟩ = w_7.cell? ⟨b, o, none⟩)
    (first | exact ⟨Nat.le_refl _, fun _ _ _ => rfl⟩ | exact keepC (by assumption) e_9 | exact keepC (by assumption) e_8)
    (first | (go_at_call 21; (with_reducible refine Calls.mono (toTopology (.agg #[.slice A0_0 n0_0 c0_0, .slice A0_1 n0_1 c0_1]) x0 _ ?s0 ?s1) ?_); (case s0 => exact H0.out.ext (by repeat (first | (with_reducible exact Ext.refl _) | (with_reducible assumption) | (with_reducible refine Ext.alloc ?_ _) | (with_reducible refine Ext.drew ?_) | (with_reducible refine Ext.out ?_ (by with_reducible assumption) ?ge; case ge => omega) | (with_reducible refine Ext.trans ?_ (by with_reducible assumption))))); (case s1 => omega); rintro e w_8 ⟨u_8, rfl, o_8, e_8⟩; have z_8 : w_7.heap.size ≤ w_8.heap.size := e_8.size; have o_8 : TopologyO w_7.heap.size w_8.heap.size w_8 _ _ := o_8) | (go_at_call 24; (with_reducible refine Calls.mono (eqTopology _ _ x0 x0 _ ?s0 ?s1) ?_); (case s0 => exact TopologyO_rd (lo := w_3b.heap.size) (hi := w_4.heap.size) (by repeat (first | (with_reducible exact O_4.out) | (with_reducible refine TopologyO.drew ?_) | (with_reducible refine TopologyO.ext ?_ (by with_reducible assumption) ?ge; case ge => first | omega | (simp only [World.size_drew]; omega)) | (with_reducible refine TopologyO.out ?_ (by with_reducible assumption) ?ge; case ge => omega))) (by omega)); (case s1 => exact TopologyO_rd (lo := w_7.heap.size) (hi := w_8.heap.size) (by repeat (first | (with_reducible exact o_8) | (with_reducible refine TopologyO.drew ?_) | (with_reducible refine TopologyO.ext ?_ (by with_reducible assumption) ?ge; case ge => first | omega | (simp only [World.size_drew]; omega)) | (with_reducible refine TopologyO.out ?_ (by with_reducible assumption) ?ge; case ge => omega))) (by omega)); rintro e w_9 ⟨rfl, e_9⟩; have z_9 := e_9.size))
  clear q0_0 q0_1 q1_0 q1_1 q1_2 qLw3_0 qLw3_1 qLw3_2 qLw3_3 qLw4_0 qLw4_1 qLw5_0 qLw5_1 qLw5_2 qLw6_0 qLw6_1 qLw6_2 qLw6_3 lt0 lt1 ltLw3 ltLw4 ltLw5 ltLw6
  have O_8 := Lib.hid o_8; clear o_8
  obtain ⟨A_8_0, n_8_0, c_8_0, A_8_1, n_8_1, c_8_1, hv_8⟩ := O_8.out.shape
  subst hv_8
  try rw [decide_eq_true rfl]
  have bc0 : Blk w_9 (w.heap.size) 36 [.slice A0_0 n0_0 c0_0, .slice A0_1 n0_1 c0_1] := (by repeat (first | (with_reducible exact BX0.out) | (with_reducible refine Blk.drew ?_) | (with_reducible refine Blk.ext ?_ (by with_reducible assumption)) | (with_reducible refine Blk.out ?_ (by with_reducible assumption) ?ge; case ge => omega)))
  obtain ⟨q0_0, q0_1⟩ := blk2 bc0
  clear bc0
  have bc1 : Blk w_9 (w.heap.size + 1) 56 [I x1.ts, I x1.beta, .slice A1_2 n1_2 c1_2] := (by repeat (first | (with_reducible exact BX1.out) | (with_reducible refine Blk.drew ?_) | (with_reducible refine Blk.ext ?_ (by with_reducible assumption)) | (with_reducible refine Blk.out ?_ (by with_reducible assumption) ?ge; case ge => omega)))
  obtain ⟨q1_0, q1_1, q1_2⟩ := blk3 bc1
  clear bc1
  have bcLw3 : Blk w_9 (gz_3) 75 [I (signSeg x0 x1).seg.ts, I (signSeg x0 x1).seg.beta, .slice A_3_2 n_3_2 c_3_2, .slice A_3_3 n_3_3 c_3_3] := (by repeat (first | (with_reducible exact BXLw3.out) | (with_reducible refine Blk.drew ?_) | (with_reducible refine Blk.ext ?_ (by with_reducible assumption)) | (with_reducible refine Blk.out ?_ (by with_reducible assumption) ?ge; case ge => omega)))
  obtain ⟨qLw3_0, qLw3_1, qLw3_2, qLw3_3⟩ := blk4 bcLw3
  clear bcLw3
  have bcLw4 : Blk w_9 (w_4.heap.size) 46 [.slice A_4_0 n_4_0 c_4_0, .slice A_4_1 n_4_1 c_4_1] := (by repeat (first | (with_reducible exact BXLw4.out) | (with_reducible refine Blk.drew ?_) | (with_reducible refine Blk.ext ?_ (by with_reducible assumption)) | (with_reducible refine Blk.out ?_ (by with_reducible assumption) ?ge; case ge => omega)))
  obtain ⟨qLw4_0, qLw4_1⟩ := blk2 bcLw4
  clear bcLw4
  have bcLw5 : Blk w_9 (w_5.heap.size) 63 [I x1.ts, I x1.beta, .slice A_5_2 n_5_2 c_5_2] := (by repeat (first | (with_reducible exact BXLw5.out) | (with_reducible refine Blk.drew ?_) | (with_reducible refine Blk.ext ?_ (by with_reducible assumption)) | (with_reducible refine Blk.out ?_ (by with_reducible assumption) ?ge; case ge => omega)))
  obtain ⟨qLw5_0, qLw5_1, qLw5_2⟩ := blk3 bcLw5
  clear bcLw5
  have bcLw6 : Blk w_9 (w_6.heap.size) 75 [I (signSeg x0 x1).seg.ts, I (signSeg x0 x1).seg.beta, .slice A_6_2 n_6_2 c_6_2, .slice A_6_3 n_6_3 c_6_3] := (by repeat (first | (with_reducible exact BXLw6.out) | (with_reducible refine Blk.drew ?_) | (with_reducible refine Blk.ext ?_ (by with_reducible assumption)) | (with_reducible refine Blk.out ?_ (by with_reducible assumption) ?ge; case ge => omega)))
  obtain ⟨qLw6_0, qLw6_1, qLw6_2, qLw6_3⟩ := blk4 bcLw6
  clear bcLw6
  go_wp2_with fail
  clear q0_0 q0_1 q1_0 q1_1 q1_2 qLw3_0 qLw3_1 qLw3_2 qLw3_3 qLw4_0 qLw4_1 qLw5_0 qLw5_1 qLw5_2 qLw6_0 qLw6_1 qLw6_2 qLw6_3
  have bc0 : Blk w_9 (w.heap.size) 36 [.slice A0_0 n0_0 c0_0, .slice A0_1 n0_1 c0_1] := (by repeat (first | (with_reducible exact BX0.out) | (with_reducible refine Blk.drew ?_) | (with_reducible refine Blk.ext ?_ (by with_reducible assumption)) | (with_reducible refine Blk.out ?_ (by with_reducible assumption) ?ge; case ge => omega)))
  have lt0 := bc0.lt
  obtain ⟨q0_0, q0_1⟩ := blk2 bc0
  clear bc0
  have bc1 : Blk w_9 (w.heap.size + 1) 56 [I x1.ts, I x1.beta, .slice A1_2 n1_2 c1_2] := (by repeat (first | (with_reducible exact BX1.out) | (with_reducible refine Blk.drew ?_) | (with_reducible refine Blk.ext ?_ (by with_reducible assumption)) | (with_reducible refine Blk.out ?_ (by with_reducible assumption) ?ge; case ge => omega)))
  have lt1 := bc1.lt
  obtain ⟨q1_0, q1_1, q1_2⟩ := blk3 bc1
  clear bc1
  have bcLw3 : Blk w_9 (gz_3) 75 [I (signSeg x0 x1).seg.ts, I (signSeg x0 x1).seg.beta, .slice A_3_2 n_3_2 c_3_2, .slice A_3_3 n_3_3 c_3_3] := (by repeat (first | (with_reducible exact BXLw3.out) | (with_reducible refine Blk.drew ?_) | (with_reducible refine Blk.ext ?_ (by with_reducible assumption)) | (with_reducible refine Blk.out ?_ (by with_reducible assumption) ?ge; case ge => omega)))
  have ltLw3 := bcLw3.lt
  obtain ⟨qLw3_0, qLw3_1, qLw3_2, qLw3_3⟩ := blk4 bcLw3
  clear bcLw3
  have bcLw4 : Blk w_9 (w_4.heap.size) 46 [.slice A_4_0 n_4_0 c_4_0, .slice A_4_1 n_4_1 c_4_1] := (by repeat (first | (with_reducible exact BXLw4.out) | (with_reducible refine Blk.drew ?_) | (with_reducible refine Blk.ext ?_ (by with_reducible assumption)) | (with_reducible refine Blk.out ?_ (by with_reducible assumption) ?ge; case ge => omega)))
  have ltLw4 := bcLw4.lt
  obtain ⟨qLw4_0, qLw4_1⟩ := blk2 bcLw4
  clear bcLw4
  have bcLw5 : Blk w_9 (w_5.heap.size) 63 [I x1.ts, I x1.beta, .slice A_5_2 n_5_2 c_5_2] := (by repeat (first | (with_reducible exact BXLw5.out) | (with_reducible refine Blk.drew ?_) | (with_reducible refine Blk.ext ?_ (by with_reducible assumption)) | (with_reducible refine Blk.out ?_ (by with_reducible assumption) ?ge; case ge => omega)))
  have ltLw5 := bcLw5.lt
  obtain ⟨qLw5_0, qLw5_1, qLw5_2⟩ := blk3 bcLw5
  clear bcLw5
  have bcLw6 : Blk w_9 (w_6.heap.size) 75 [I (signSeg x0 x1).seg.ts, I (signSeg x0 x1).seg.beta, .slice A_6_2 n_6_2 c_6_2, .slice A_6_3 n_6_3 c_6_3] := (by repeat (first | (with_reducible exact BXLw6.out) | (with_reducible refine Blk.drew ?_) | (with_reducible refine Blk.ext ?_ (by with_reducible assumption)) | (with_reducible refine Blk.out ?_ (by with_reducible assumption) ?ge; case ge => omega)))
  have ltLw6 := bcLw6.lt
  obtain ⟨qLw6_0, qLw6_1, qLw6_2, qLw6_3⟩ := blk4 bcLw6
  clear bcLw6
  go_region_held3 (fun W => w_9.heap.size ≤ W.heap.size ∧ ∀ b o, b < w_9.heap.size → W.cell? ⟨b, o, none⟩ = w_9.cell? ⟨b, o, none⟩)
    (first | exact ⟨Nat.le_refl _, fun _ _ _ => rfl⟩ | exact keepC (by assumption) e_11 | exact keepC (by assumption) e_10)
    (first | (go_at_call 27; (with_reducible refine Calls.mono (toSegment (.agg #[I x1.ts, I x1.beta, .slice A1_2 n1_2 c1_2]) x1 _ ?s0 ?s1) ?_); (case s0 => exact H1.out.ext (by repeat (first | (with_reducible exact Ext.refl _) | (with_reducible assumption) | (with_reducible refine Ext.alloc ?_ _) | (with_reducible refine Ext.drew ?_) | (with_reducible refine Ext.out ?_ (by with_reducible assumption) ?ge; case ge => omega) | (with_reducible refine Ext.trans ?_ (by with_reducible assumption))))); (case s1 => omega); rintro e w_10 ⟨u_10, rfl, o_10, e_10⟩; have z_10 : w_9.heap.size ≤ w_10.heap.size := e_10.size; have o_10 : SegmentO w_9.heap.size w_10.heap.size w_10 _ _ := o_10) | (go_at_call 30; (with_reducible refine Calls.mono (eqSegment _ _ x1 x1 _ ?s0 ?s1) ?_); (case s0 => exact SegmentO_rd (lo := w_4b.heap.size) (hi := w_5.heap.size) (by repeat (first | (with_reducible exact O_5.out) | (with_reducible refine SegmentO.drew ?_) | (with_reducible refine SegmentO.ext ?_ (by with_reducible assumption) ?ge; case ge => first | omega | (simp only [World.size_drew]; omega)) | (with_reducible refine SegmentO.out ?_ (by with_reducible assumption) ?ge; case ge => omega))) (by omega)); (case s1 => exact SegmentO_rd (lo := w_9.heap.size) (hi := w_10.heap.size) (by repeat (first | (with_reducible exact o_10) | (with_reducible refine SegmentO.drew ?_) | (with_reducible refine SegmentO.ext ?_ (by with_reducible assumption) ?ge; case ge => first | omega | (simp only [World.size_drew]; omega)) | (with_reducible refine SegmentO.out ?_ (by with_reducible assumption) ?ge; case ge => omega))) (by omega)); rintro e w_11 ⟨rfl, e_11⟩; have z_11 := e_11.size))
  clear q0_0 q0_1 q1_0 q1_1 q1_2 qLw3_0 qLw3_1 qLw3_2 qLw3_3 qLw4_0 qLw4_1 qLw5_0 qLw5_1 qLw5_2 qLw6_0 qLw6_1 qLw6_2 qLw6_3 lt0 lt1 ltLw3 ltLw4 ltLw5 ltLw6
  have O_10 := Lib.hid o_10; clear o_10
  obtain ⟨A_10_2, n_10_2, c_10_2, hv_10⟩ := O_10.out.shape
  subst hv_10
  try rw [decide_eq_true rfl]
  have bc0 : Blk w_11 (w.heap.size) 36 [.slice A0_0 n0_0 c0_0, .slice A0_1 n0_1 c0_1] := (by repeat (first | (with_reducible exact BX0.out) | (with_reducible refine Blk.drew ?_) | (with_reducible refine Blk.ext ?_ (by with_reducible assumption)) | (with_reducible refine Blk.out ?_ (by with_reducible assumption) ?ge; case ge => omega)))
  obtain ⟨q0_0, q0_1⟩ := blk2 bc0
  clear bc0
  have bc1 : Blk w_11 (w.heap.size + 1) 56 [I x1.ts, I x1.beta, .slice A1_2 n1_2 c1_2] := (by repeat (first | (with_reducible exact BX1.out) | (with_reducible refine Blk.drew ?_) | (with_reducible refine Blk.ext ?_ (by with_reducible assumption)) | (with_reducible refine Blk.out ?_ (by with_reducible assumption) ?ge; case ge => omega)))
  obtain ⟨q1_0, q1_1, q1_2⟩ := blk3 bc1
  clear bc1
  have bcLw3 : Blk w_11 (gz_3) 75 [I (signSeg x0 x1).seg.ts, I (signSeg x0 x1).seg.beta, .slice A_3_2 n_3_2 c_3_2, .slice A_3_3 n_3_3 c_3_3] := (by repeat (first | (with_reducible exact BXLw3.out) | (with_reducible refine Blk.drew ?_) | (with_reducible refine Blk.ext ?_ (by with_reducible assumption)) | (with_reducible refine Blk.out ?_ (by with_reducible assumption) ?ge; case ge => omega)))
  obtain ⟨qLw3_0, qLw3_1, qLw3_2, qLw3_3⟩ := blk4 bcLw3
  clear bcLw3
  have bcLw4 : Blk w_11 (w_4.heap.size) 46 [.slice A_4_0 n_4_0 c_4_0, .slice A_4_1 n_4_1 c_4_1] := (by repeat (first | (with_reducible exact BXLw4.out) | (with_reducible refine Blk.drew ?_) | (with_reducible refine Blk.ext ?_ (by with_reducible assumption)) | (with_reducible refine Blk.out ?_ (by with_reducible assumption) ?ge; case ge => omega)))
  obtain ⟨qLw4_0, qLw4_1⟩ := blk2 bcLw4
  clear bcLw4
  have bcLw5 : Blk w_11 (w_5.heap.size) 63 [I x1.ts, I x1.beta, .slice A_5_2 n_5_2 c_5_2] := (by repeat (first | (with_reducible exact BXLw5.out) | (with_reducible refine Blk.drew ?_) | (with_reducible refine Blk.ext ?_ (by with_reducible assumption)) | (with_reducible refine Blk.out ?_ (by with_reducible assumption) ?ge; case ge => omega)))
  obtain ⟨qLw5_0, qLw5_1, qLw5_2⟩ := blk3 bcLw5
  clear bcLw5
  have bcLw6 : Blk w_11 (w_6.heap.size) 75 [I (signSeg x0 x1).seg.ts, I (signSeg x0 x1).seg.beta, .slice A_6_2 n_6_2 c_6_2, .slice A_6_3 n_6_3 c_6_3] := (by repeat (first | (with_reducible exact BXLw6.out) | (with_reducible refine Blk.drew ?_) | (with_reducible refine Blk.ext ?_ (by with_reducible assumption)) | (with_reducible refine Blk.out ?_ (by with_reducible assumption) ?ge; case ge => omega)))
  obtain ⟨qLw6_0, qLw6_1, qLw6_2, qLw6_3⟩ := blk4 bcLw6
  clear bcLw6
  go_wp2_with fail
  clear q0_0 q0_1 q1_0 q1_1 q1_2 qLw3_0 qLw3_1 qLw3_2 qLw3_3 qLw4_0 qLw4_1 qLw5_0 qLw5_1 qLw5_2 qLw6_0 qLw6_1 qLw6_2 qLw6_3
  have hres : ((0 + 5 * (signSeg x0 x1).seg.hops.length) + (signSeg x0 x1).sigs.length) ≤ 100000000000 := by have h1 : (signSeg x0 x1).seg.hops.length = x1.hops.length := rfl; have h2 : (signSeg x0 x1).sigs.length = x1.hops.length := (by simp [signSeg]); omega
  refine (markTopology _ (x0) 1 w_3b.heap.size w_4.heap.size _ (by exact (by repeat (first | (with_reducible exact O_4.out) | (with_reducible refine TopologyO.drew ?_) | (with_reducible refine TopologyO.ext ?_ (by with_reducible assumption) ?ge; case ge => first | omega | (simp only [World.size_drew]; omega)) | (with_reducible refine TopologyO.out ?_ (by with_reducible assumption) ?ge; case ge => omega)))) (by omega) (by omega)).mono ?_
  rintro e w_12 ⟨rfl, o_12, e_12⟩
  have z_12 := e_12.size
  have O_12 := Lib.hid o_12; clear o_12
  have bc0 : Blk w_12 (w.heap.size) 36 [.slice A0_0 n0_0 c0_0, .slice A0_1 n0_1 c0_1] := (by repeat (first | (with_reducible exact BX0.out) | (with_reducible refine Blk.drew ?_) | (with_reducible refine Blk.ext ?_ (by with_reducible assumption)) | (with_reducible refine Blk.out ?_ (by with_reducible assumption) ?ge; case ge => omega)))
  obtain ⟨q0_0, q0_1⟩ := blk2 bc0
  clear bc0
  have bc1 : Blk w_12 (w.heap.size + 1) 56 [I x1.ts, I x1.beta, .slice A1_2 n1_2 c1_2] := (by repeat (first | (with_reducible exact BX1.out) | (with_reducible refine Blk.drew ?_) | (with_reducible refine Blk.ext ?_ (by with_reducible assumption)) | (with_reducible refine Blk.out ?_ (by with_reducible assumption) ?ge; case ge => omega)))
  obtain ⟨q1_0, q1_1, q1_2⟩ := blk3 bc1
  clear bc1
  have bcLw3 : Blk w_12 (gz_3) 75 [I (signSeg x0 x1).seg.ts, I (signSeg x0 x1).seg.beta, .slice A_3_2 n_3_2 c_3_2, .slice A_3_3 n_3_3 c_3_3] := (by repeat (first | (with_reducible exact BXLw3.out) | (with_reducible refine Blk.drew ?_) | (with_reducible refine Blk.ext ?_ (by with_reducible assumption)) | (with_reducible refine Blk.out ?_ (by with_reducible assumption) ?ge; case ge => omega)))
  obtain ⟨qLw3_0, qLw3_1, qLw3_2, qLw3_3⟩ := blk4 bcLw3
  clear bcLw3
  have bcLw4 : Blk w_12 (w_4.heap.size) 46 [.slice A_4_0 n_4_0 c_4_0, .slice A_4_1 n_4_1 c_4_1] := (by repeat (first | (with_reducible exact BXLw4.out) | (with_reducible refine Blk.drew ?_) | (with_reducible refine Blk.ext ?_ (by with_reducible assumption)) | (with_reducible refine Blk.out ?_ (by with_reducible assumption) ?ge; case ge => omega)))
  obtain ⟨qLw4_0, qLw4_1⟩ := blk2 bcLw4
  clear bcLw4
  have bcLw5 : Blk w_12 (w_5.heap.size) 63 [I x1.ts, I x1.beta, .slice A_5_2 n_5_2 c_5_2] := (by repeat (first | (with_reducible exact BXLw5.out) | (with_reducible refine Blk.drew ?_) | (with_reducible refine Blk.ext ?_ (by with_reducible assumption)) | (with_reducible refine Blk.out ?_ (by with_reducible assumption) ?ge; case ge => omega)))
  obtain ⟨qLw5_0, qLw5_1, qLw5_2⟩ := blk3 bcLw5
  clear bcLw5
  have bcLw6 : Blk w_12 (w_6.heap.size) 75 [I (signSeg x0 x1).seg.ts, I (signSeg x0 x1).seg.beta, .slice A_6_2 n_6_2 c_6_2, .slice A_6_3 n_6_3 c_6_3] := (by repeat (first | (with_reducible exact BXLw6.out) | (with_reducible refine Blk.drew ?_) | (with_reducible refine Blk.ext ?_ (by with_reducible assumption)) | (with_reducible refine Blk.out ?_ (by with_reducible assumption) ?ge; case ge => omega)))
  obtain ⟨qLw6_0, qLw6_1, qLw6_2, qLw6_3⟩ := blk4 bcLw6
  clear bcLw6
  go_wp2_with fail
  clear q0_0 q0_1 q1_0 q1_1 q1_2 qLw3_0 qLw3_1 qLw3_2 qLw3_3 qLw4_0 qLw4_1 qLw5_0 qLw5_1 qLw5_2 qLw6_0 qLw6_1 qLw6_2 qLw6_3
  refine (markSegment _ (x1) ((1 + 3 * x0.ases.length) + 5 * x0.links.length) w_4b.heap.size w_5.heap.size _ (by exact (by repeat (first | (with_reducible exact O_5.out) | (with_reducible refine SegmentO.drew ?_) | (with_reducible refine SegmentO.ext ?_ (by with_reducible assumption) ?ge; case ge => first | omega | (simp only [World.size_drew]; omega)) | (with_reducible refine SegmentO.out ?_ (by with_reducible assumption) ?ge; case ge => omega)))) (by omega) (by omega)).mono ?_
  rintro e w_13 ⟨rfl, o_13, e_13⟩
  have z_13 := e_13.size
  have O_13 := Lib.hid o_13; clear o_13
  have bc0 : Blk w_13 (w.heap.size) 36 [.slice A0_0 n0_0 c0_0, .slice A0_1 n0_1 c0_1] := (by repeat (first | (with_reducible exact BX0.out) | (with_reducible refine Blk.drew ?_) | (with_reducible refine Blk.ext ?_ (by with_reducible assumption)) | (with_reducible refine Blk.out ?_ (by with_reducible assumption) ?ge; case ge => omega)))
  obtain ⟨q0_0, q0_1⟩ := blk2 bc0
  clear bc0
  have bc1 : Blk w_13 (w.heap.size + 1) 56 [I x1.ts, I x1.beta, .slice A1_2 n1_2 c1_2] := (by repeat (first | (with_reducible exact BX1.out) | (with_reducible refine Blk.drew ?_) | (with_reducible refine Blk.ext ?_ (by with_reducible assumption)) | (with_reducible refine Blk.out ?_ (by with_reducible assumption) ?ge; case ge => omega)))
  obtain ⟨q1_0, q1_1, q1_2⟩ := blk3 bc1
  clear bc1
  have bcLw3 : Blk w_13 (gz_3) 75 [I (signSeg x0 x1).seg.ts, I (signSeg x0 x1).seg.beta, .slice A_3_2 n_3_2 c_3_2, .slice A_3_3 n_3_3 c_3_3] := (by repeat (first | (with_reducible exact BXLw3.out) | (with_reducible refine Blk.drew ?_) | (with_reducible refine Blk.ext ?_ (by with_reducible assumption)) | (with_reducible refine Blk.out ?_ (by with_reducible assumption) ?ge; case ge => omega)))
  obtain ⟨qLw3_0, qLw3_1, qLw3_2, qLw3_3⟩ := blk4 bcLw3
  clear bcLw3
  have bcLw4 : Blk w_13 (w_4.heap.size) 46 [.slice A_4_0 n_4_0 c_4_0, .slice A_4_1 n_4_1 c_4_1] := (by repeat (first | (with_reducible exact BXLw4.out) | (with_reducible refine Blk.drew ?_) | (with_reducible refine Blk.ext ?_ (by with_reducible assumption)) | (with_reducible refine Blk.out ?_ (by with_reducible assumption) ?ge; case ge => omega)))
  obtain ⟨qLw4_0, qLw4_1⟩ := blk2 bcLw4
  clear bcLw4
  have bcLw5 : Blk w_13 (w_5.heap.size) 63 [I x1.ts, I x1.beta, .slice A_5_2 n_5_2 c_5_2] := (by repeat (first | (with_reducible exact BXLw5.out) | (with_reducible refine Blk.drew ?_) | (with_reducible refine Blk.ext ?_ (by with_reducible assumption)) | (with_reducible refine Blk.out ?_ (by with_reducible assumption) ?ge; case ge => omega)))
  obtain ⟨qLw5_0, qLw5_1, qLw5_2⟩ := blk3 bcLw5
  clear bcLw5
  have bcLw6 : Blk w_13 (w_6.heap.size) 75 [I (signSeg x0 x1).seg.ts, I (signSeg x0 x1).seg.beta, .slice A_6_2 n_6_2 c_6_2, .slice A_6_3 n_6_3 c_6_3] := (by repeat (first | (with_reducible exact BXLw6.out) | (with_reducible refine Blk.drew ?_) | (with_reducible refine Blk.ext ?_ (by with_reducible assumption)) | (with_reducible refine Blk.out ?_ (by with_reducible assumption) ?ge; case ge => omega)))
  obtain ⟨qLw6_0, qLw6_1, qLw6_2, qLw6_3⟩ := blk4 bcLw6
  clear bcLw6
  go_wp2_with fail
  clear q0_0 q0_1 q1_0 q1_1 q1_2 qLw3_0 qLw3_1 qLw3_2 qLw3_3 qLw4_0 qLw4_1 qLw5_0 qLw5_1 qLw5_2 qLw6_0 qLw6_1 qLw6_2 qLw6_3
  refine (eqSignedSegment _ _ (signSeg x0 x1) (signSeg x0 x1) _ (by exact SignedSegmentO_rd (lo := w_5b.heap.size) (hi := w_6.heap.size) (by repeat (first | (with_reducible exact O_6.out) | (with_reducible refine SignedSegmentO.drew ?_) | (with_reducible refine SignedSegmentO.ext ?_ (by with_reducible assumption) ?ge; case ge => first | omega | (simp only [World.size_drew]; omega)) | (with_reducible refine SignedSegmentO.out ?_ (by with_reducible assumption) ?ge; case ge => omega))) (by omega)) (by exact S_3.out.ext (by repeat (first | (with_reducible exact Ext.refl _) | (with_reducible assumption) | (with_reducible refine Ext.alloc ?_ _) | (with_reducible refine Ext.drew ?_) | (with_reducible refine Ext.out ?_ (by with_reducible assumption) ?ge; case ge => omega) | (with_reducible refine Ext.trans ?_ (by with_reducible assumption)))))).mono ?_
  rintro e w_14 ⟨rfl, e_14⟩
  have z_14 := e_14.size
  try rw [decide_eq_true rfl]
  have bc0 : Blk w_14 (w.heap.size) 36 [.slice A0_0 n0_0 c0_0, .slice A0_1 n0_1 c0_1] := (by repeat (first | (with_reducible exact BX0.out) | (with_reducible refine Blk.drew ?_) | (with_reducible refine Blk.ext ?_ (by with_reducible assumption)) | (with_reducible refine Blk.out ?_ (by with_reducible assumption) ?ge; case ge => omega)))
  obtain ⟨q0_0, q0_1⟩ := blk2 bc0
  clear bc0
  have bc1 : Blk w_14 (w.heap.size + 1) 56 [I x1.ts, I x1.beta, .slice A1_2 n1_2 c1_2] := (by repeat (first | (with_reducible exact BX1.out) | (with_reducible refine Blk.drew ?_) | (with_reducible refine Blk.ext ?_ (by with_reducible assumption)) | (with_reducible refine Blk.out ?_ (by with_reducible assumption) ?ge; case ge => omega)))
  obtain ⟨q1_0, q1_1, q1_2⟩ := blk3 bc1
  clear bc1
  have bcLw3 : Blk w_14 (gz_3) 75 [I (signSeg x0 x1).seg.ts, I (signSeg x0 x1).seg.beta, .slice A_3_2 n_3_2 c_3_2, .slice A_3_3 n_3_3 c_3_3] := (by repeat (first | (with_reducible exact BXLw3.out) | (with_reducible refine Blk.drew ?_) | (with_reducible refine Blk.ext ?_ (by with_reducible assumption)) | (with_reducible refine Blk.out ?_ (by with_reducible assumption) ?ge; case ge => omega)))
  obtain ⟨qLw3_0, qLw3_1, qLw3_2, qLw3_3⟩ := blk4 bcLw3
  clear bcLw3
  have bcLw4 : Blk w_14 (w_4.heap.size) 46 [.slice A_4_0 n_4_0 c_4_0, .slice A_4_1 n_4_1 c_4_1] := (by repeat (first | (with_reducible exact BXLw4.out) | (with_reducible refine Blk.drew ?_) | (with_reducible refine Blk.ext ?_ (by with_reducible assumption)) | (with_reducible refine Blk.out ?_ (by with_reducible assumption) ?ge; case ge => omega)))
  obtain ⟨qLw4_0, qLw4_1⟩ := blk2 bcLw4
  clear bcLw4
  have bcLw5 : Blk w_14 (w_5.heap.size) 63 [I x1.ts, I x1.beta, .slice A_5_2 n_5_2 c_5_2] := (by repeat (first | (with_reducible exact BXLw5.out) | (with_reducible refine Blk.drew ?_) | (with_reducible refine Blk.ext ?_ (by with_reducible assumption)) | (with_reducible refine Blk.out ?_ (by with_reducible assumption) ?ge; case ge => omega)))
  obtain ⟨qLw5_0, qLw5_1, qLw5_2⟩ := blk3 bcLw5
  clear bcLw5
  have bcLw6 : Blk w_14 (w_6.heap.size) 75 [I (signSeg x0 x1).seg.ts, I (signSeg x0 x1).seg.beta, .slice A_6_2 n_6_2 c_6_2, .slice A_6_3 n_6_3 c_6_3] := (by repeat (first | (with_reducible exact BXLw6.out) | (with_reducible refine Blk.drew ?_) | (with_reducible refine Blk.ext ?_ (by with_reducible assumption)) | (with_reducible refine Blk.out ?_ (by with_reducible assumption) ?ge; case ge => omega)))
  obtain ⟨qLw6_0, qLw6_1, qLw6_2, qLw6_3⟩ := blk4 bcLw6
  clear bcLw6
  go_wp2_with fail
  clear q0_0 q0_1 q1_0 q1_1 q1_2 qLw3_0 qLw3_1 qLw3_2 qLw3_3 qLw4_0 qLw4_1 qLw5_0 qLw5_1 qLw5_2 qLw6_0 qLw6_1 qLw6_2 qLw6_3
  refine (markSignedSegment _ (signSeg x0 x1) 1 w_5b.heap.size w_6.heap.size _ (by exact (by repeat (first | (with_reducible exact O_6.out) | (with_reducible refine SignedSegmentO.drew ?_) | (with_reducible refine SignedSegmentO.ext ?_ (by with_reducible assumption) ?ge; case ge => first | omega | (simp only [World.size_drew]; omega)) | (with_reducible refine SignedSegmentO.out ?_ (by with_reducible assumption) ?ge; case ge => omega)))) (by omega) (by omega)).mono ?_
  rintro e w_15 ⟨rfl, o_15, e_15⟩
  have z_15 := e_15.size
  have O_15 := Lib.hid o_15; clear o_15
  have bc0 : Blk w_15 (w.heap.size) 36 [.slice A0_0 n0_0 c0_0, .slice A0_1 n0_1 c0_1] := (by repeat (first | (with_reducible exact BX0.out) | (with_reducible refine Blk.drew ?_) | (with_reducible refine Blk.ext ?_ (by with_reducible assumption)) | (with_reducible refine Blk.out ?_ (by with_reducible assumption) ?ge; case ge => omega)))
  obtain ⟨q0_0, q0_1⟩ := blk2 bc0
  clear bc0
  have bc1 : Blk w_15 (w.heap.size + 1) 56 [I x1.ts, I x1.beta, .slice A1_2 n1_2 c1_2] := (by repeat (first | (with_reducible exact BX1.out) | (with_reducible refine Blk.drew ?_) | (with_reducible refine Blk.ext ?_ (by with_reducible assumption)) | (with_reducible refine Blk.out ?_ (by with_reducible assumption) ?ge; case ge => omega)))
  obtain ⟨q1_0, q1_1, q1_2⟩ := blk3 bc1
  clear bc1
  have bcLw3 : Blk w_15 (gz_3) 75 [I (signSeg x0 x1).seg.ts, I (signSeg x0 x1).seg.beta, .slice A_3_2 n_3_2 c_3_2, .slice A_3_3 n_3_3 c_3_3] := (by repeat (first | (with_reducible exact BXLw3.out) | (with_reducible refine Blk.drew ?_) | (with_reducible refine Blk.ext ?_ (by with_reducible assumption)) | (with_reducible refine Blk.out ?_ (by with_reducible assumption) ?ge; case ge => omega)))
  obtain ⟨qLw3_0, qLw3_1, qLw3_2, qLw3_3⟩ := blk4 bcLw3
  clear bcLw3
  have bcLw4 : Blk w_15 (w_4.heap.size) 46 [.slice A_4_0 n_4_0 c_4_0, .slice A_4_1 n_4_1 c_4_1] := (by repeat (first | (with_reducible exact BXLw4.out) | (with_reducible refine Blk.drew ?_) | (with_reducible refine Blk.ext ?_ (by with_reducible assumption)) | (with_reducible refine Blk.out ?_ (by with_reducible assumption) ?ge; case ge => omega)))
  obtain ⟨qLw4_0, qLw4_1⟩ := blk2 bcLw4
  clear bcLw4
  have bcLw5 : Blk w_15 (w_5.heap.size) 63 [I x1.ts, I x1.beta, .slice A_5_2 n_5_2 c_5_2] := (by repeat (first | (with_reducible exact BXLw5.out) | (with_reducible refine Blk.drew ?_) | (with_reducible refine Blk.ext ?_ (by with_reducible assumption)) | (with_reducible refine Blk.out ?_ (by with_reducible assumption) ?ge; case ge => omega)))
  obtain ⟨qLw5_0, qLw5_1, qLw5_2⟩ := blk3 bcLw5
  clear bcLw5
  have bcLw6 : Blk w_15 (w_6.heap.size) 75 [I (signSeg x0 x1).seg.ts, I (signSeg x0 x1).seg.beta, .slice A_6_2 n_6_2 c_6_2, .slice A_6_3 n_6_3 c_6_3] := (by repeat (first | (with_reducible exact BXLw6.out) | (with_reducible refine Blk.drew ?_) | (with_reducible refine Blk.ext ?_ (by with_reducible assumption)) | (with_reducible refine Blk.out ?_ (by with_reducible assumption) ?ge; case ge => omega)))
  obtain ⟨qLw6_0, qLw6_1, qLw6_2, qLw6_3⟩ := blk4 bcLw6
  clear bcLw6
  go_wp2_with fail
  clear q0_0 q0_1 q1_0 q1_1 q1_2 qLw3_0 qLw3_1 qLw3_2 qLw3_3 qLw4_0 qLw4_1 qLw5_0 qLw5_1 qLw5_2 qLw6_0 qLw6_1 qLw6_2 qLw6_3
  refine (heldSignedSegment _ (signSeg x0 x1) 1 _ (by exact SignedSegmentO_rd (lo := w_5b.heap.size) (hi := w_6.heap.size) (by repeat (first | (with_reducible exact O_15.out) | (with_reducible refine SignedSegmentO.drew ?_) | (with_reducible refine SignedSegmentO.ext ?_ (by with_reducible assumption) ?ge; case ge => first | omega | (simp only [World.size_drew]; omega)) | (with_reducible refine SignedSegmentO.out ?_ (by with_reducible assumption) ?ge; case ge => omega))) (by omega)) (by omega)).mono ?_
  rintro e w_16 ⟨rfl, e_16⟩
  have z_16 := e_16.size
  have bc0 : Blk w_16 (w.heap.size) 36 [.slice A0_0 n0_0 c0_0, .slice A0_1 n0_1 c0_1] := (by repeat (first | (with_reducible exact BX0.out) | (with_reducible refine Blk.drew ?_) | (with_reducible refine Blk.ext ?_ (by with_reducible assumption)) | (with_reducible refine Blk.out ?_ (by with_reducible assumption) ?ge; case ge => omega)))
  obtain ⟨q0_0, q0_1⟩ := blk2 bc0
  clear bc0
  have bc1 : Blk w_16 (w.heap.size + 1) 56 [I x1.ts, I x1.beta, .slice A1_2 n1_2 c1_2] := (by repeat (first | (with_reducible exact BX1.out) | (with_reducible refine Blk.drew ?_) | (with_reducible refine Blk.ext ?_ (by with_reducible assumption)) | (with_reducible refine Blk.out ?_ (by with_reducible assumption) ?ge; case ge => omega)))
  obtain ⟨q1_0, q1_1, q1_2⟩ := blk3 bc1
  clear bc1
  have bcLw3 : Blk w_16 (gz_3) 75 [I (signSeg x0 x1).seg.ts, I (signSeg x0 x1).seg.beta, .slice A_3_2 n_3_2 c_3_2, .slice A_3_3 n_3_3 c_3_3] := (by repeat (first | (with_reducible exact BXLw3.out) | (with_reducible refine Blk.drew ?_) | (with_reducible refine Blk.ext ?_ (by with_reducible assumption)) | (with_reducible refine Blk.out ?_ (by with_reducible assumption) ?ge; case ge => omega)))
  obtain ⟨qLw3_0, qLw3_1, qLw3_2, qLw3_3⟩ := blk4 bcLw3
  clear bcLw3
  have bcLw4 : Blk w_16 (w_4.heap.size) 46 [.slice A_4_0 n_4_0 c_4_0, .slice A_4_1 n_4_1 c_4_1] := (by repeat (first | (with_reducible exact BXLw4.out) | (with_reducible refine Blk.drew ?_) | (with_reducible refine Blk.ext ?_ (by with_reducible assumption)) | (with_reducible refine Blk.out ?_ (by with_reducible assumption) ?ge; case ge => omega)))
  obtain ⟨qLw4_0, qLw4_1⟩ := blk2 bcLw4
  clear bcLw4
  have bcLw5 : Blk w_16 (w_5.heap.size) 63 [I x1.ts, I x1.beta, .slice A_5_2 n_5_2 c_5_2] := (by repeat (first | (with_reducible exact BXLw5.out) | (with_reducible refine Blk.drew ?_) | (with_reducible refine Blk.ext ?_ (by with_reducible assumption)) | (with_reducible refine Blk.out ?_ (by with_reducible assumption) ?ge; case ge => omega)))
  obtain ⟨qLw5_0, qLw5_1, qLw5_2⟩ := blk3 bcLw5
  clear bcLw5
  have bcLw6 : Blk w_16 (w_6.heap.size) 75 [I (signSeg x0 x1).seg.ts, I (signSeg x0 x1).seg.beta, .slice A_6_2 n_6_2 c_6_2, .slice A_6_3 n_6_3 c_6_3] := (by repeat (first | (with_reducible exact BXLw6.out) | (with_reducible refine Blk.drew ?_) | (with_reducible refine Blk.ext ?_ (by with_reducible assumption)) | (with_reducible refine Blk.out ?_ (by with_reducible assumption) ?ge; case ge => omega)))
  obtain ⟨qLw6_0, qLw6_1, qLw6_2, qLw6_3⟩ := blk4 bcLw6
  clear bcLw6
  go_wp2_with fail
  clear q0_0 q0_1 q1_0 q1_1 q1_2 qLw3_0 qLw3_1 qLw3_2 qLw3_3 qLw4_0 qLw4_1 qLw5_0 qLw5_1 qLw5_2 qLw6_0 qLw6_1 qLw6_2 qLw6_3
  have bc0 : Blk w_16 (w.heap.size) 36 [.slice A0_0 n0_0 c0_0, .slice A0_1 n0_1 c0_1] := (by repeat (first | (with_reducible exact BX0.out) | (with_reducible refine Blk.drew ?_) | (with_reducible refine Blk.ext ?_ (by with_reducible assumption)) | (with_reducible refine Blk.out ?_ (by with_reducible assumption) ?ge; case ge => omega)))
  have lt0 := bc0.lt
  obtain ⟨q0_0, q0_1⟩ := blk2 bc0
  clear bc0
  have bc1 : Blk w_16 (w.heap.size + 1) 56 [I x1.ts, I x1.beta, .slice A1_2 n1_2 c1_2] := (by repeat (first | (with_reducible exact BX1.out) | (with_reducible refine Blk.drew ?_) | (with_reducible refine Blk.ext ?_ (by with_reducible assumption)) | (with_reducible refine Blk.out ?_ (by with_reducible assumption) ?ge; case ge => omega)))
  have lt1 := bc1.lt
  obtain ⟨q1_0, q1_1, q1_2⟩ := blk3 bc1
  clear bc1
  have bcLw3 : Blk w_16 (gz_3) 75 [I (signSeg x0 x1).seg.ts, I (signSeg x0 x1).seg.beta, .slice A_3_2 n_3_2 c_3_2, .slice A_3_3 n_3_3 c_3_3] := (by repeat (first | (with_reducible exact BXLw3.out) | (with_reducible refine Blk.drew ?_) | (with_reducible refine Blk.ext ?_ (by with_reducible assumption)) | (with_reducible refine Blk.out ?_ (by with_reducible assumption) ?ge; case ge => omega)))
  have ltLw3 := bcLw3.lt
  obtain ⟨qLw3_0, qLw3_1, qLw3_2, qLw3_3⟩ := blk4 bcLw3
  clear bcLw3
  have bcLw4 : Blk w_16 (w_4.heap.size) 46 [.slice A_4_0 n_4_0 c_4_0, .slice A_4_1 n_4_1 c_4_1] := (by repeat (first | (with_reducible exact BXLw4.out) | (with_reducible refine Blk.drew ?_) | (with_reducible refine Blk.ext ?_ (by with_reducible assumption)) | (with_reducible refine Blk.out ?_ (by with_reducible assumption) ?ge; case ge => omega)))
  have ltLw4 := bcLw4.lt
  obtain ⟨qLw4_0, qLw4_1⟩ := blk2 bcLw4
  clear bcLw4
  have bcLw5 : Blk w_16 (w_5.heap.size) 63 [I x1.ts, I x1.beta, .slice A_5_2 n_5_2 c_5_2] := (by repeat (first | (with_reducible exact BXLw5.out) | (with_reducible refine Blk.drew ?_) | (with_reducible refine Blk.ext ?_ (by with_reducible assumption)) | (with_reducible refine Blk.out ?_ (by with_reducible assumption) ?ge; case ge => omega)))
  have ltLw5 := bcLw5.lt
  obtain ⟨qLw5_0, qLw5_1, qLw5_2⟩ := blk3 bcLw5
  clear bcLw5
  have bcLw6 : Blk w_16 (w_6.heap.size) 75 [I (signSeg x0 x1).seg.ts, I (signSeg x0 x1).seg.beta, .slice A_6_2 n_6_2 c_6_2, .slice A_6_3 n_6_3 c_6_3] := (by repeat (first | (with_reducible exact BXLw6.out) | (with_reducible refine Blk.drew ?_) | (with_reducible refine Blk.ext ?_ (by with_reducible assumption)) | (with_reducible refine Blk.out ?_ (by with_reducible assumption) ?ge; case ge => omega)))
  have ltLw6 := bcLw6.lt
  obtain ⟨qLw6_0, qLw6_1, qLw6_2, qLw6_3⟩ := blk4 bcLw6
  clear bcLw6
  refine wp_region_LT 6 (E := Ext) (w0 := w_16) (G := fun τ => match τ with | 76 => some (fun v W => TopologyV W.heap.size W v x0) | 78 => some (fun v W => SegmentV W.heap.size W v x1) | 79 => some (fun v W => SignedSegmentO w_16.heap.size W.heap.size W v (signSeg x0 x1)) | 13 => some (fun v W => Zero1 75 w_16.heap.size [.int .i64 0, .int .i64 0, .slice none 0 0, .slice none 0 0] v W) | _ => none) Ext.refl (fun h k => Ext.trans h k) (by kernel_rfl) (by kernel_rfl) (by kernel_rfl) (by kernel_rfl) (by kernel_rfl) (by kernel_rfl) (by
      intro t φ hG
      split at hG
      all_goals first | (cases hG; done) | (cases Option.some.inj hG; intro v W W' hE hv; first | exact hv | exact IntS.ext hv hE | exact hv.ext hE | exact Own.up hv hE | exact hv.up hE | exact NO.up (by first | exact SegmentOC.keeps | exact TrustRootOC.keeps | exact BeaconOC.keeps | exact BeaconMessageOC.keeps | exact BeaconStoreOC.keeps) hv hE (Nat.le_refl _) | exact ObjUp.up hv hE)) (Ext.drew (by exact Ext.refl _)) ?_
  simp only [List.take_succ_cons, List.take_zero]
  repeat' (first
    | ((with_reducible refine wpL_skip ?_ ?_ ?_)
       · rfl
       · rfl
       simp only [Act.put, List.setIfInBounds_toArray, List.set_cons_zero, List.set_cons_succ])
    | ((with_reducible refine wpL_quiet ?_ ?_ ?_ ?_)
       · rfl
       · rfl
       · rfl
       apply Exists.intro
       refine ⟨fun W hW hS => ?_, ?_⟩
       · have hC := (Ext.facts hW).1
         go_simp
         first | done | (with_reducible rfl) | rfl
       first | (with_reducible refine wpL_boolT ?_) | (with_reducible refine wpL_boolF ?_) | (with_reducible refine wpL_bool (fun hB => ?_) (fun hB => ?_)) | skip
       all_goals simp only [Act.put, List.setIfInBounds_toArray, List.set_cons_zero, List.set_cons_succ])
    | ((refine wpL_call ?_ rfl rfl ?_ ?_ ?_)
       · rfl
       · rfl
       · intro W hW hS
         have hC := (Ext.facts hW).1
         unfold growAt
         go_simp
         simp only [growUpon]
         first | (go_at_call 21; ((with_reducible refine Calls.mono (toTopology _ x0 _ (by exact H0.out.ext (by repeat (first | (with_reducible exact Ext.refl _) | (with_reducible assumption) | (with_reducible refine Ext.alloc ?_ _) | (with_reducible refine Ext.drew ?_) | (with_reducible refine Ext.out ?_ (by with_reducible assumption) ?ge; case ge => omega) | (with_reducible refine Ext.trans ?_ (by with_reducible assumption))))) (by omega)) ?_)); rintro e w9 ⟨v9, rfl, o9, e9⟩; exact ⟨_, rfl, e9, TopologyO_rd o9 (Nat.le_refl _)⟩) | (go_at_call 27; ((with_reducible refine Calls.mono (toSegment _ x1 _ (by exact H1.out.ext (by repeat (first | (with_reducible exact Ext.refl _) | (with_reducible assumption) | (with_reducible refine Ext.alloc ?_ _) | (with_reducible refine Ext.drew ?_) | (with_reducible refine Ext.out ?_ (by with_reducible assumption) ?ge; case ge => omega) | (with_reducible refine Ext.trans ?_ (by with_reducible assumption))))) (by omega)) ?_)); rintro e w9 ⟨v9, rfl, o9, e9⟩; exact ⟨_, rfl, e9, SegmentO_rd o9 (Nat.le_refl _)⟩) | (go_at_call 44; have hs76 : TopologyV W.heap.size W _ x0 := hS 76 (by decide); have hs78 : SegmentV W.heap.size W _ x1 := hS 78 (by decide); ((with_reducible refine Calls.mono (impl_SignSegment _ _ x0 x1 _ hs76 hs78 (by omega)) ?_)); rintro e w9 ⟨v9, rfl, o9, e9⟩; exact ⟨_, rfl, e9, SignedSegmentO.more o9 (Ext.size hW) (Nat.le_refl _)⟩) | (exact ⟨(by repeat (first | (with_reducible exact Ext.refl _) | (with_reducible assumption) | (with_reducible refine Ext.alloc ?_ _) | (with_reducible refine Ext.drew ?_) | (with_reducible refine Ext.drewN ?_ _) | (with_reducible refine Ext.setCell (p := _) ?_ ?ge _; case ge => (dsimp only; omega)) | (with_reducible refine Ext.trans ?_ (by with_reducible assumption)))), _, rfl, Ext.size (by assumption), Blk.new _ _ _⟩)
       first | (with_reducible refine wpL_boolT ?_) | (with_reducible refine wpL_boolF ?_) | (with_reducible refine wpL_bool (fun hB => ?_) (fun hB => ?_)) | skip
       all_goals simp only [Act.put, List.setIfInBounds_toArray, List.set_cons_zero, List.set_cons_succ])
    | ((refine wpL_grow ?_ rfl rfl ?_ ?_)
       · rfl
       · intro W hW hS
         have hC := (Ext.facts hW).1
         unfold growAt
         go_simp
         simp only [growUpon]
         first | (go_at_call 21; ((with_reducible refine Calls.mono (toTopology _ x0 _ (by exact H0.out.ext (by repeat (first | (with_reducible exact Ext.refl _) | (with_reducible assumption) | (with_reducible refine Ext.alloc ?_ _) | (with_reducible refine Ext.drew ?_) | (with_reducible refine Ext.out ?_ (by with_reducible assumption) ?ge; case ge => omega) | (with_reducible refine Ext.trans ?_ (by with_reducible assumption))))) (by omega)) ?_)); rintro e w9 ⟨v9, rfl, o9, e9⟩; exact ⟨_, rfl, e9, TopologyO_rd o9 (Nat.le_refl _)⟩) | (go_at_call 27; ((with_reducible refine Calls.mono (toSegment _ x1 _ (by exact H1.out.ext (by repeat (first | (with_reducible exact Ext.refl _) | (with_reducible assumption) | (with_reducible refine Ext.alloc ?_ _) | (with_reducible refine Ext.drew ?_) | (with_reducible refine Ext.out ?_ (by with_reducible assumption) ?ge; case ge => omega) | (with_reducible refine Ext.trans ?_ (by with_reducible assumption))))) (by omega)) ?_)); rintro e w9 ⟨v9, rfl, o9, e9⟩; exact ⟨_, rfl, e9, SegmentO_rd o9 (Nat.le_refl _)⟩) | (go_at_call 44; have hs76 : TopologyV W.heap.size W _ x0 := hS 76 (by decide); have hs78 : SegmentV W.heap.size W _ x1 := hS 78 (by decide); ((with_reducible refine Calls.mono (impl_SignSegment _ _ x0 x1 _ hs76 hs78 (by omega)) ?_)); rintro e w9 ⟨v9, rfl, o9, e9⟩; exact ⟨_, rfl, e9, SignedSegmentO.more o9 (Ext.size hW) (Nat.le_refl _)⟩) | (exact ⟨(by repeat (first | (with_reducible exact Ext.refl _) | (with_reducible assumption) | (with_reducible refine Ext.alloc ?_ _) | (with_reducible refine Ext.drew ?_) | (with_reducible refine Ext.drewN ?_ _) | (with_reducible refine Ext.setCell (p := _) ?_ ?ge _; case ge => (dsimp only; omega)) | (with_reducible refine Ext.trans ?_ (by with_reducible assumption)))), _, rfl, Ext.size (by assumption), Blk.new _ _ _⟩)
       intro v W' hW' hv
       first | (obtain ⟨A_17_2, n_17_2, c_17_2, A_17_3, n_17_3, c_17_3, rfl⟩ := SignedSegmentO.shape hv) | (obtain ⟨g5, rfl, -⟩ := hv) | (obtain ⟨A5, n5, c5, rfl, -⟩ := id hv; clear hv) | (obtain ⟨A5, n5, c5, rfl⟩ := NO.slice hv) | skip
       all_goals simp only [Act.put, List.setIfInBounds_toArray, List.set_cons_zero, List.set_cons_succ]))
  refine wpL_nil (fun w_17 e_17 hL => ?_)
  have o_17 : SignedSegmentO w_16.heap.size w_17.heap.size w_17 _ (signSeg x0 x1) := hL 79
  have p_17 : Zero1 75 w_16.heap.size [.int .i64 0, .int .i64 0, .slice none 0 0, .slice none 0 0] _ w_17 := hL 13
  obtain ⟨gz_17, hgz, hgl_17, hbz⟩ := p_17
  have hge : gz_17 = g5 := by injection hgz with h; injection h with h; injection h with h1; exact h1.symm
  subst hge
  clear hgz
  clear hL
  clear q0_0 q0_1 q1_0 q1_1 q1_2 qLw3_0 qLw3_1 qLw3_2 qLw3_3 qLw4_0 qLw4_1 qLw5_0 qLw5_1 qLw5_2 qLw6_0 qLw6_1 qLw6_2 qLw6_3 lt0 lt1 ltLw3 ltLw4 ltLw5 ltLw6
  have OW_17 := Lib.hid (SignedSegmentO.setT (SignedSegmentO.setT (SignedSegmentO.setT (SignedSegmentO.setT o_17 hbz 0 (I (signSeg x0 x1).seg.ts)) (Blk.set_ hbz 0 (I (signSeg x0 x1).seg.ts)) 1 (I (signSeg x0 x1).seg.beta)) (Blk.set_ (Blk.set_ hbz 0 (I (signSeg x0 x1).seg.ts)) 1 (I (signSeg x0 x1).seg.beta)) 2 (.slice A_17_2 n_17_2 c_17_2)) (Blk.set_ (Blk.set_ (Blk.set_ hbz 0 (I (signSeg x0 x1).seg.ts)) 1 (I (signSeg x0 x1).seg.beta)) 2 (.slice A_17_2 n_17_2 c_17_2)) 3 (.slice A_17_3 n_17_3 c_17_3))
  have BW_17 := Lib.hid (Blk.set_ (Blk.set_ (Blk.set_ (Blk.set_ hbz 0 (I (signSeg x0 x1).seg.ts)) 1 (I (signSeg x0 x1).seg.beta)) 2 (.slice A_17_2 n_17_2 c_17_2)) 3 (.slice A_17_3 n_17_3 c_17_3))
  have lz_17 := hbz.lt
  obtain ⟨yz_0, yz_1, yz_2, yz_3⟩ := blk4 hbz
  have fz_0 := hbz.frozen 0
  have fz_1 := hbz.frozen 1
  have fz_2 := hbz.frozen 2
  have fz_3 := hbz.frozen 3
  have z_17 := e_17.size
  clear hbz o_17
  have bc0 : Blk w_17 (w.heap.size) 36 [.slice A0_0 n0_0 c0_0, .slice A0_1 n0_1 c0_1] := (by repeat (first | (with_reducible exact BX0.out) | (with_reducible refine Blk.drew ?_) | (with_reducible refine Blk.ext ?_ (by with_reducible assumption)) | (with_reducible refine Blk.out ?_ (by with_reducible assumption) ?ge; case ge => omega)))
  have lt0 := bc0.lt
  obtain ⟨q0_0, q0_1⟩ := blk2 bc0
  clear bc0
  have bc1 : Blk w_17 (w.heap.size + 1) 56 [I x1.ts, I x1.beta, .slice A1_2 n1_2 c1_2] := (by repeat (first | (with_reducible exact BX1.out) | (with_reducible refine Blk.drew ?_) | (with_reducible refine Blk.ext ?_ (by with_reducible assumption)) | (with_reducible refine Blk.out ?_ (by with_reducible assumption) ?ge; case ge => omega)))
  have lt1 := bc1.lt
  obtain ⟨q1_0, q1_1, q1_2⟩ := blk3 bc1
  clear bc1
  have bcLw3 : Blk w_17 (gz_3) 75 [I (signSeg x0 x1).seg.ts, I (signSeg x0 x1).seg.beta, .slice A_3_2 n_3_2 c_3_2, .slice A_3_3 n_3_3 c_3_3] := (by repeat (first | (with_reducible exact BXLw3.out) | (with_reducible refine Blk.drew ?_) | (with_reducible refine Blk.ext ?_ (by with_reducible assumption)) | (with_reducible refine Blk.out ?_ (by with_reducible assumption) ?ge; case ge => omega)))
  have ltLw3 := bcLw3.lt
  obtain ⟨qLw3_0, qLw3_1, qLw3_2, qLw3_3⟩ := blk4 bcLw3
  clear bcLw3
  have bcLw4 : Blk w_17 (w_4.heap.size) 46 [.slice A_4_0 n_4_0 c_4_0, .slice A_4_1 n_4_1 c_4_1] := (by repeat (first | (with_reducible exact BXLw4.out) | (with_reducible refine Blk.drew ?_) | (with_reducible refine Blk.ext ?_ (by with_reducible assumption)) | (with_reducible refine Blk.out ?_ (by with_reducible assumption) ?ge; case ge => omega)))
  have ltLw4 := bcLw4.lt
  obtain ⟨qLw4_0, qLw4_1⟩ := blk2 bcLw4
  clear bcLw4
  have bcLw5 : Blk w_17 (w_5.heap.size) 63 [I x1.ts, I x1.beta, .slice A_5_2 n_5_2 c_5_2] := (by repeat (first | (with_reducible exact BXLw5.out) | (with_reducible refine Blk.drew ?_) | (with_reducible refine Blk.ext ?_ (by with_reducible assumption)) | (with_reducible refine Blk.out ?_ (by with_reducible assumption) ?ge; case ge => omega)))
  have ltLw5 := bcLw5.lt
  obtain ⟨qLw5_0, qLw5_1, qLw5_2⟩ := blk3 bcLw5
  clear bcLw5
  have bcLw6 : Blk w_17 (w_6.heap.size) 75 [I (signSeg x0 x1).seg.ts, I (signSeg x0 x1).seg.beta, .slice A_6_2 n_6_2 c_6_2, .slice A_6_3 n_6_3 c_6_3] := (by repeat (first | (with_reducible exact BXLw6.out) | (with_reducible refine Blk.drew ?_) | (with_reducible refine Blk.ext ?_ (by with_reducible assumption)) | (with_reducible refine Blk.out ?_ (by with_reducible assumption) ?ge; case ge => omega)))
  have ltLw6 := bcLw6.lt
  obtain ⟨qLw6_0, qLw6_1, qLw6_2, qLw6_3⟩ := blk4 bcLw6
  clear bcLw6
  simp only [List.drop_succ_cons, List.drop_zero]
  go_wp2_with fail
  clear q0_0 q0_1 q1_0 q1_1 q1_2 qLw3_0 qLw3_1 qLw3_2 qLw3_3 qLw4_0 qLw4_1 qLw5_0 qLw5_1 qLw5_2 qLw6_0 qLw6_1 qLw6_2 qLw6_3 lt0 lt1 ltLw3 ltLw4 ltLw5 ltLw6
  clear yz_0 yz_1 yz_2 yz_3 fz_0 fz_1 fz_2 fz_3
  have bxLw17 : Blk ((((w_17.setCell ⟨gz_17, 0, none⟩ (I (signSeg x0 x1).seg.ts)).setCell ⟨gz_17, 1, none⟩ (I (signSeg x0 x1).seg.beta)).setCell ⟨gz_17, 2, none⟩ (.slice A_17_2 n_17_2 c_17_2)).setCell ⟨gz_17, 3, none⟩ (.slice A_17_3 n_17_3 c_17_3)) gz_17 75 [I (signSeg x0 x1).seg.ts, I (signSeg x0 x1).seg.beta, .slice A_17_2 n_17_2 c_17_2, .slice A_17_3 n_17_3 c_17_3] := by simpa using BW_17.out
  have BXLw17 := Lib.hid bxLw17; clear bxLw17
  have ewLw17 : Ext w_16 ((((w_17.setCell ⟨gz_17, 0, none⟩ (I (signSeg x0 x1).seg.ts)).setCell ⟨gz_17, 1, none⟩ (I (signSeg x0 x1).seg.beta)).setCell ⟨gz_17, 2, none⟩ (.slice A_17_2 n_17_2 c_17_2)).setCell ⟨gz_17, 3, none⟩ (.slice A_17_3 n_17_3 c_17_3)) := (by repeat (first | (with_reducible exact Ext.refl _) | (with_reducible assumption) | (with_reducible refine Ext.alloc ?_ _) | (with_reducible refine Ext.drew ?_) | (with_reducible refine Ext.setCell (p := _) ?_ ?ge _; case ge => (dsimp only; omega)) | (with_reducible refine Ext.out ?_ (by with_reducible assumption) ?ge; case ge => omega) | (with_reducible refine Ext.trans ?_ (by with_reducible assumption))))
  have zwLw17 : ((((w_17.setCell ⟨gz_17, 0, none⟩ (I (signSeg x0 x1).seg.ts)).setCell ⟨gz_17, 1, none⟩ (I (signSeg x0 x1).seg.beta)).setCell ⟨gz_17, 2, none⟩ (.slice A_17_2 n_17_2 c_17_2)).setCell ⟨gz_17, 3, none⟩ (.slice A_17_3 n_17_3 c_17_3)).heap.size = w_17.heap.size := by simp only [World.size_setCell]
  have O_17 : Hid (SignedSegmentO w_16.heap.size ((((w_17.setCell ⟨gz_17, 0, none⟩ (I (signSeg x0 x1).seg.ts)).setCell ⟨gz_17, 1, none⟩ (I (signSeg x0 x1).seg.beta)).setCell ⟨gz_17, 2, none⟩ (.slice A_17_2 n_17_2 c_17_2)).setCell ⟨gz_17, 3, none⟩ (.slice A_17_3 n_17_3 c_17_3)).heap.size ((((w_17.setCell ⟨gz_17, 0, none⟩ (I (signSeg x0 x1).seg.ts)).setCell ⟨gz_17, 1, none⟩ (I (signSeg x0 x1).seg.beta)).setCell ⟨gz_17, 2, none⟩ (.slice A_17_2 n_17_2 c_17_2)).setCell ⟨gz_17, 3, none⟩ (.slice A_17_3 n_17_3 c_17_3)) (.agg #[I (signSeg x0 x1).seg.ts, I (signSeg x0 x1).seg.beta, .slice A_17_2 n_17_2 c_17_2, .slice A_17_3 n_17_3 c_17_3]) (signSeg x0 x1)) := by unfold Hid; have h := OW_17.out; rw [← zwLw17] at h; exact h
  have ZWLw17 := Lib.hid zwLw17; have zvLw17 : w_17.heap.size ≤ ((((w_17.setCell ⟨gz_17, 0, none⟩ (I (signSeg x0 x1).seg.ts)).setCell ⟨gz_17, 1, none⟩ (I (signSeg x0 x1).seg.beta)).setCell ⟨gz_17, 2, none⟩ (.slice A_17_2 n_17_2 c_17_2)).setCell ⟨gz_17, 3, none⟩ (.slice A_17_3 n_17_3 c_17_3)).heap.size := by omega
  have zxLw17 : ((((w_17.setCell ⟨gz_17, 0, none⟩ (I (signSeg x0 x1).seg.ts)).setCell ⟨gz_17, 1, none⟩ (I (signSeg x0 x1).seg.beta)).setCell ⟨gz_17, 2, none⟩ (.slice A_17_2 n_17_2 c_17_2)).setCell ⟨gz_17, 3, none⟩ (.slice A_17_3 n_17_3 c_17_3)).heap.size ≤ w_17.heap.size := by omega
  clear zwLw17 OW_17 BW_17 ZWLw17
  clear e_17
  generalize ((((w_17.setCell ⟨gz_17, 0, none⟩ (I (signSeg x0 x1).seg.ts)).setCell ⟨gz_17, 1, none⟩ (I (signSeg x0 x1).seg.beta)).setCell ⟨gz_17, 2, none⟩ (.slice A_17_2 n_17_2 c_17_2)).setCell ⟨gz_17, 3, none⟩ (.slice A_17_3 n_17_3 c_17_3)) = w_17b at *
  refine (eqSignedSegment _ _ (signSeg x0 x1) (signSeg x0 x1) _ (by exact SignedSegmentO_rd (lo := w_16.heap.size) (hi := w_17b.heap.size) (by repeat (first | (with_reducible exact O_17.out) | (with_reducible refine SignedSegmentO.drew ?_) | (with_reducible refine SignedSegmentO.ext ?_ (by with_reducible assumption) ?ge; case ge => first | omega | (simp only [World.size_drew]; omega)) | (with_reducible refine SignedSegmentO.out ?_ (by with_reducible assumption) ?ge; case ge => omega))) (by omega)) (by exact S_3.out.ext (by repeat (first | (with_reducible exact Ext.refl _) | (with_reducible assumption) | (with_reducible refine Ext.alloc ?_ _) | (with_reducible refine Ext.drew ?_) | (with_reducible refine Ext.out ?_ (by with_reducible assumption) ?ge; case ge => omega) | (with_reducible refine Ext.trans ?_ (by with_reducible assumption)))))).mono ?_
  rintro e w_18 ⟨rfl, e_18⟩
  have z_18 := e_18.size
  try rw [decide_eq_true rfl]
  have bc0 : Blk w_18 (w.heap.size) 36 [.slice A0_0 n0_0 c0_0, .slice A0_1 n0_1 c0_1] := (by repeat (first | (with_reducible exact BX0.out) | (with_reducible refine Blk.drew ?_) | (with_reducible refine Blk.ext ?_ (by with_reducible assumption)) | (with_reducible refine Blk.out ?_ (by with_reducible assumption) ?ge; case ge => omega)))
  obtain ⟨q0_0, q0_1⟩ := blk2 bc0
  clear bc0
  have bc1 : Blk w_18 (w.heap.size + 1) 56 [I x1.ts, I x1.beta, .slice A1_2 n1_2 c1_2] := (by repeat (first | (with_reducible exact BX1.out) | (with_reducible refine Blk.drew ?_) | (with_reducible refine Blk.ext ?_ (by with_reducible assumption)) | (with_reducible refine Blk.out ?_ (by with_reducible assumption) ?ge; case ge => omega)))
  obtain ⟨q1_0, q1_1, q1_2⟩ := blk3 bc1
  clear bc1
  have bcLw3 : Blk w_18 (gz_3) 75 [I (signSeg x0 x1).seg.ts, I (signSeg x0 x1).seg.beta, .slice A_3_2 n_3_2 c_3_2, .slice A_3_3 n_3_3 c_3_3] := (by repeat (first | (with_reducible exact BXLw3.out) | (with_reducible refine Blk.drew ?_) | (with_reducible refine Blk.ext ?_ (by with_reducible assumption)) | (with_reducible refine Blk.out ?_ (by with_reducible assumption) ?ge; case ge => omega)))
  obtain ⟨qLw3_0, qLw3_1, qLw3_2, qLw3_3⟩ := blk4 bcLw3
  clear bcLw3
  have bcLw4 : Blk w_18 (w_4.heap.size) 46 [.slice A_4_0 n_4_0 c_4_0, .slice A_4_1 n_4_1 c_4_1] := (by repeat (first | (with_reducible exact BXLw4.out) | (with_reducible refine Blk.drew ?_) | (with_reducible refine Blk.ext ?_ (by with_reducible assumption)) | (with_reducible refine Blk.out ?_ (by with_reducible assumption) ?ge; case ge => omega)))
  obtain ⟨qLw4_0, qLw4_1⟩ := blk2 bcLw4
  clear bcLw4
  have bcLw5 : Blk w_18 (w_5.heap.size) 63 [I x1.ts, I x1.beta, .slice A_5_2 n_5_2 c_5_2] := (by repeat (first | (with_reducible exact BXLw5.out) | (with_reducible refine Blk.drew ?_) | (with_reducible refine Blk.ext ?_ (by with_reducible assumption)) | (with_reducible refine Blk.out ?_ (by with_reducible assumption) ?ge; case ge => omega)))
  obtain ⟨qLw5_0, qLw5_1, qLw5_2⟩ := blk3 bcLw5
  clear bcLw5
  have bcLw6 : Blk w_18 (w_6.heap.size) 75 [I (signSeg x0 x1).seg.ts, I (signSeg x0 x1).seg.beta, .slice A_6_2 n_6_2 c_6_2, .slice A_6_3 n_6_3 c_6_3] := (by repeat (first | (with_reducible exact BXLw6.out) | (with_reducible refine Blk.drew ?_) | (with_reducible refine Blk.ext ?_ (by with_reducible assumption)) | (with_reducible refine Blk.out ?_ (by with_reducible assumption) ?ge; case ge => omega)))
  obtain ⟨qLw6_0, qLw6_1, qLw6_2, qLw6_3⟩ := blk4 bcLw6
  clear bcLw6
  have bcLw17 : Blk w_18 (gz_17) 75 [I (signSeg x0 x1).seg.ts, I (signSeg x0 x1).seg.beta, .slice A_17_2 n_17_2 c_17_2, .slice A_17_3 n_17_3 c_17_3] := (by repeat (first | (with_reducible exact BXLw17.out) | (with_reducible refine Blk.drew ?_) | (with_reducible refine Blk.ext ?_ (by with_reducible assumption)) | (with_reducible refine Blk.out ?_ (by with_reducible assumption) ?ge; case ge => omega)))
  obtain ⟨qLw17_0, qLw17_1, qLw17_2, qLw17_3⟩ := blk4 bcLw17
  clear bcLw17
  go_wp2_with fail
  clear q0_0 q0_1 q1_0 q1_1 q1_2 qLw3_0 qLw3_1 qLw3_2 qLw3_3 qLw4_0 qLw4_1 qLw5_0 qLw5_1 qLw5_2 qLw6_0 qLw6_1 qLw6_2 qLw6_3 qLw17_0 qLw17_1 qLw17_2 qLw17_3
  refine (heldSignedSegment _ (signSeg x0 x1) 1 _ (by exact SignedSegmentO_rd (lo := w_5b.heap.size) (hi := w_6.heap.size) (by repeat (first | (with_reducible exact O_15.out) | (with_reducible refine SignedSegmentO.drew ?_) | (with_reducible refine SignedSegmentO.ext ?_ (by with_reducible assumption) ?ge; case ge => first | omega | (simp only [World.size_drew]; omega)) | (with_reducible refine SignedSegmentO.out ?_ (by with_reducible assumption) ?ge; case ge => omega))) (by omega)) (by omega)).mono ?_
  rintro e w_19 ⟨rfl, e_19⟩
  have z_19 := e_19.size
  have bc0 : Blk w_19 (w.heap.size) 36 [.slice A0_0 n0_0 c0_0, .slice A0_1 n0_1 c0_1] := (by repeat (first | (with_reducible exact BX0.out) | (with_reducible refine Blk.drew ?_) | (with_reducible refine Blk.ext ?_ (by with_reducible assumption)) | (with_reducible refine Blk.out ?_ (by with_reducible assumption) ?ge; case ge => omega)))
  obtain ⟨q0_0, q0_1⟩ := blk2 bc0
  clear bc0
  have bc1 : Blk w_19 (w.heap.size + 1) 56 [I x1.ts, I x1.beta, .slice A1_2 n1_2 c1_2] := (by repeat (first | (with_reducible exact BX1.out) | (with_reducible refine Blk.drew ?_) | (with_reducible refine Blk.ext ?_ (by with_reducible assumption)) | (with_reducible refine Blk.out ?_ (by with_reducible assumption) ?ge; case ge => omega)))
  obtain ⟨q1_0, q1_1, q1_2⟩ := blk3 bc1
  clear bc1
  have bcLw3 : Blk w_19 (gz_3) 75 [I (signSeg x0 x1).seg.ts, I (signSeg x0 x1).seg.beta, .slice A_3_2 n_3_2 c_3_2, .slice A_3_3 n_3_3 c_3_3] := (by repeat (first | (with_reducible exact BXLw3.out) | (with_reducible refine Blk.drew ?_) | (with_reducible refine Blk.ext ?_ (by with_reducible assumption)) | (with_reducible refine Blk.out ?_ (by with_reducible assumption) ?ge; case ge => omega)))
  obtain ⟨qLw3_0, qLw3_1, qLw3_2, qLw3_3⟩ := blk4 bcLw3
  clear bcLw3
  have bcLw4 : Blk w_19 (w_4.heap.size) 46 [.slice A_4_0 n_4_0 c_4_0, .slice A_4_1 n_4_1 c_4_1] := (by repeat (first | (with_reducible exact BXLw4.out) | (with_reducible refine Blk.drew ?_) | (with_reducible refine Blk.ext ?_ (by with_reducible assumption)) | (with_reducible refine Blk.out ?_ (by with_reducible assumption) ?ge; case ge => omega)))
  obtain ⟨qLw4_0, qLw4_1⟩ := blk2 bcLw4
  clear bcLw4
  have bcLw5 : Blk w_19 (w_5.heap.size) 63 [I x1.ts, I x1.beta, .slice A_5_2 n_5_2 c_5_2] := (by repeat (first | (with_reducible exact BXLw5.out) | (with_reducible refine Blk.drew ?_) | (with_reducible refine Blk.ext ?_ (by with_reducible assumption)) | (with_reducible refine Blk.out ?_ (by with_reducible assumption) ?ge; case ge => omega)))
  obtain ⟨qLw5_0, qLw5_1, qLw5_2⟩ := blk3 bcLw5
  clear bcLw5
  have bcLw6 : Blk w_19 (w_6.heap.size) 75 [I (signSeg x0 x1).seg.ts, I (signSeg x0 x1).seg.beta, .slice A_6_2 n_6_2 c_6_2, .slice A_6_3 n_6_3 c_6_3] := (by repeat (first | (with_reducible exact BXLw6.out) | (with_reducible refine Blk.drew ?_) | (with_reducible refine Blk.ext ?_ (by with_reducible assumption)) | (with_reducible refine Blk.out ?_ (by with_reducible assumption) ?ge; case ge => omega)))
  obtain ⟨qLw6_0, qLw6_1, qLw6_2, qLw6_3⟩ := blk4 bcLw6
  clear bcLw6
  have bcLw17 : Blk w_19 (gz_17) 75 [I (signSeg x0 x1).seg.ts, I (signSeg x0 x1).seg.beta, .slice A_17_2 n_17_2 c_17_2, .slice A_17_3 n_17_3 c_17_3] := (by repeat (first | (with_reducible exact BXLw17.out) | (with_reducible refine Blk.drew ?_) | (with_reducible refine Blk.ext ?_ (by with_reducible assumption)) | (with_reducible refine Blk.out ?_ (by with_reducible assumption) ?ge; case ge => omega)))
  obtain ⟨qLw17_0, qLw17_1, qLw17_2, qLw17_3⟩ := blk4 bcLw17
  clear bcLw17
  go_wp2_with fail
  clear q0_0 q0_1 q1_0 q1_1 q1_2 qLw3_0 qLw3_1 qLw3_2 qLw3_3 qLw4_0 qLw4_1 qLw5_0 qLw5_1 qLw5_2 qLw6_0 qLw6_1 qLw6_2 qLw6_3 qLw17_0 qLw17_1 qLw17_2 qLw17_3
  go_ret
  exact ⟨rfl, (by repeat (first | (with_reducible exact Ext.refl _) | (with_reducible assumption) | (with_reducible refine Ext.alloc ?_ _) | (with_reducible refine Ext.drew ?_) | (with_reducible refine Ext.out ?_ (by with_reducible assumption) ?ge; case ge => omega) | (with_reducible refine Ext.trans ?_ (by with_reducible assumption))))⟩
set_option maxRecDepth 100000 in
theorem lifted (os : Os) (started : os.Started) (H : Type) (enc : TypeId × Value → H) :
    ReturnsInHanded {} Try.checked os 8 .any (Rows.fnExactSignSegmentSpec.pre6 enc Try.prog Try.f8 Rows.fnExactSignSegmentRow.domain false) (Rows.fnExactSignSegmentSpec.post enc Try.prog Try.f8 false true false false) := by
  refine returnsInHanded_of_change (C := Try.checked) own started (by kernel_rfl) Try.func8
    (ChangeSpec.witness6 (enc := enc) (C := Try.checked) false ⟨#[], #[.agg #[.slice none 0 0, .slice none 0 0], .agg #[.int .i64 0, .int .i64 0, .slice none 0 0]], []⟩ 8 (by kernel_rfl) (by kernel_rfl) (by kernel_rfl) (by kernel_rfl)) ?_
  intro W base args ds gs before hval0 hW hcnd _
  have hval : ∀ (j : Nat) t v, Try.f8.params[j]? = some t → args[j]? = some v → Value.okWide Try.prog W .any base t v := hval0
  have hW' := hW
  obtain ⟨p, q, hA0, hV, rfl, hfz, hnd⟩ := hW
  have hA : DataW.TrodAll enc Try.prog W 0 (fun _ => true) true Try.f8.params.toList args.toList ds p := hA0
  rw [Try.params8] at hA hval
  obtain ⟨v0, vs0, d0, ds0, p0, q0, hargs, rfl, rfl, h0, r0⟩ := trodAll_cons hA
  obtain ⟨v1, vs1, d1, ds1, p1, q1, rfl, rfl, rfl, h1, r1⟩ := trodAll_cons r0
  obtain ⟨rfl, rfl, rfl⟩ := trodAll_nil r1
  obtain rfl : args = #[v0, v1] := by cases args; simp_all
  obtain ⟨rfl, rfl⟩ := trodVars_none hV
  have k0 := h0
  have lt0 : ∀ x ∈ p0, x.block < W.heap.size := by obtain ⟨m, hm⟩ := k0; exact DataW.trod_lt m _ _ _ hm
  obtain ⟨cs0, rfl, _⟩ := okWide_struct Try.underlying36 (hval 0 36 v0 rfl rfl)
  obtain ⟨x0, y0⟩ : ∃ d, TopologyV W.heap.size W (.agg cs0) d := by
    obtain ⟨fuel, hf⟩ := h0
    obtain ⟨d, A0, n0, c0, A1, n1, c1, e, s0, s1⟩ := read_Topology hf
    have e1 : cs0 = #[.slice A0 n0 c0, .slice A1 n1 c1] := by cases cs0; simpa [Value.cells] using e
    exact ⟨d, ⟨_, _, _, _, _, _, by rw [e1], s0, s1⟩⟩
  have k1 := h1
  have lt1 : ∀ x ∈ p1, x.block < W.heap.size := by obtain ⟨m, hm⟩ := k1; exact DataW.trod_lt m _ _ _ hm
  obtain ⟨cs1, rfl, _⟩ := okWide_struct Try.underlying56 (hval 1 56 v1 rfl rfl)
  obtain ⟨x1, y1⟩ : ∃ d, SegmentV W.heap.size W (.agg cs1) d := by
    obtain ⟨fuel, hf⟩ := h1
    obtain ⟨d, A2, n2, c2, e, s2⟩ := read_Segment hf
    have e1 : cs1 = #[I d.ts, I d.beta, .slice A2 n2 c2] := by cases cs1; simpa [Value.cells] using e
    exact ⟨d, ⟨_, _, _, by rw [e1], s2⟩⟩
  clear hA0 hval0
  refine (walk _ x0 _ x1 W y0 y1).mono fun e W' ⟨he, bel⟩ => ?_
  subst he
  exact ⟨_, rfl, _, _, _, [], _, [], hW', trodAll_mk1 (shut_bool Try.underlying4 _), (trodAll_cons_mk (Below.trod laidOut (by kernel_rfl) (of_decide_eq_true (by kernel_rfl)) k0 bel.below lt0) (trodAll_cons_mk (Below.trod laidOut (by kernel_rfl) (of_decide_eq_true (by kernel_rfl)) k1 bel.below lt1) trodAll_mk0)), rfl, bel.below.frame _, fun h => by cases h⟩

theorem over : Rows.fnExactSignSegmentRow.holds Try.pinned (OpenSpec.ofChange Rows.fnExactSignSegmentSpec) :=
  OpenClaim.holds_of_wide 8 Try.f8 rfl rfl rfl rfl rfl rfl rfl ⟨rfl, rfl, rfl, rfl, rfl⟩ rfl rfl rfl rfl rfl (by kernel_rfl) Try.func8 (by kernel_rfl)
    (of_decide_eq_true (by kernel_rfl)) (by unfold Func.isWrapper; first | (rw [if_pos (by decide +kernel)]; kernel_rfl) | (rw [if_neg (by decide +kernel)]; exact ⟨rfl, rfl⟩))
    (fun os started H enc _ => lifted os started H enc)

/-- The statement. -/
theorem proved : Rows.FnExactSignSegmentSaid := over
#print axioms proved
end Go.Proofs.Ytpfioedfpihbdaa.lawSignSegment
