/- The law FnExactBuildDatabase returns true for every input and changes no argument. No conditions. -/
import Derived.Test.YtdcfidlngbhpcaaGreatL16l
import Derived.Test.YtdcfidlngbhpcaaGreatRead
namespace Go.Proofs.YtdcfidlngbhpcaaGreat.lawBuildDatabase
open Go.RowKit
set_option linter.unusedVariables false
open Go.ChangeShapes Go.WideShapes Go.ChangeAt
theorem own : ownKnob Tryz.prog.godebug = none := by kernel_rfl
theorem laidOut : laidOutB Tryz.prog = true := by kernel_rfl

set_option maxRecDepth 100000 in
set_option maxHeartbeats 1000000 in
theorem walk (v0 : Value) (x0 : DTopology) (v1 : Value) (x1 : List DPolicy) (v2 : Value) (x2 : DBeaconing) (w : World) (h0 : TopologyV w.heap.size w v0 x0) (h1 : PolicyS w.heap.size w v1 x1) (h2 : BeaconingV w.heap.size w v2 x2) :
    Calls Tryz.prog 5 #[v0, v1, v2] w fun e w' => e = .returned (.bool true) ∧ Ext w w' := by
  have H0 := Lib.hid h0
  obtain ⟨A0_0, n0_0, c0_0, A0_1, n0_1, c0_1, rfl, -⟩ := h0
  obtain ⟨A1, n1, c1, rfl, hl1, hn1, hm1, -⟩ := id h1
  subst hl1
  unfold maxLen at hm1
  have H1 := Lib.hid h1; clear h1
  have H2 := Lib.hid h2
  obtain ⟨A2_1, n2_1, c2_1, rfl, -⟩ := h2
  go_enter Tryz.func5, Tryz.ntmps5
  go_wp2_with fail
  have bx0 : Blk ((w.alloc (.cells #[.slice A0_0 n0_0 c0_0, .slice A0_1 n0_1 c0_1] 25)).alloc (.cells #[I x2.ts, .slice A2_1 n2_1 c2_1] 75)) (w.heap.size) 25 [.slice A0_0 n0_0 c0_0, .slice A0_1 n0_1 c0_1] := by simpa using (Blk.new w 25 [.slice A0_0 n0_0 c0_0, .slice A0_1 n0_1 c0_1]).alloc _
  have BX0 := Lib.hid bx0; clear bx0
  have bx2 : Blk ((w.alloc (.cells #[.slice A0_0 n0_0 c0_0, .slice A0_1 n0_1 c0_1] 25)).alloc (.cells #[I x2.ts, .slice A2_1 n2_1 c2_1] 75)) (w.heap.size + 1) 75 [I x2.ts, .slice A2_1 n2_1 c2_1] := by simpa using Blk.new (w.alloc (.cells #[.slice A0_0 n0_0 c0_0, .slice A0_1 n0_1 c0_1] 25)) 75 [I x2.ts, .slice A2_1 n2_1 c2_1]
  have BX2 := Lib.hid bx2; clear bx2
  have ew : Ext w ((w.alloc (.cells #[.slice A0_0 n0_0 c0_0, .slice A0_1 n0_1 c0_1] 25)).alloc (.cells #[I x2.ts, .slice A2_1 n2_1 c2_1] 75)) := xo
  have zw : w.heap.size + 2 ≤ ((w.alloc (.cells #[.slice A0_0 n0_0 c0_0, .slice A0_1 n0_1 c0_1] 25)).alloc (.cells #[I x2.ts, .slice A2_1 n2_1 c2_1] 75)).heap.size := by simp only [World.size_alloc]; omega
  generalize ((w.alloc (.cells #[.slice A0_0 n0_0 c0_0, .slice A0_1 n0_1 c0_1] 25)).alloc (.cells #[I x2.ts, .slice A2_1 n2_1 c2_1] 75)) = w0 at *
  refine (szTopology _ x0 (1048576) _ (by exact H0.out.ext xo) (by omega) (by omega)).mono ?_
  rintro e w_1 ⟨rfl, e_1⟩
  have z_1 := e_1.size
  by_cases hlt0 : 1048576 < ((x0.ases.length + x0.links.length : Nat) : Int)
  · rw [szR_neg hlt0]
    go_wp2_with fail
    go_ret
    exact ⟨rfl, xo⟩
  rw [szR_pos (by omega)]
  have hb0 : x0.ases.length + x0.links.length ≤ 1048576 := by omega
  have bc0 : Blk w_1 (w.heap.size) 25 [.slice A0_0 n0_0 c0_0, .slice A0_1 n0_1 c0_1] := (by repeat (first | (with_reducible exact BX0.out) | (with_reducible refine Blk.drew ?_) | (with_reducible refine Blk.ext ?_ (by with_reducible assumption)) | (with_reducible refine Blk.out ?_ (by with_reducible assumption) ?ge; case ge => omega)))
  obtain ⟨q0_0, q0_1⟩ := blk2 bc0
  clear bc0
  have bc2 : Blk w_1 (w.heap.size + 1) 75 [I x2.ts, .slice A2_1 n2_1 c2_1] := (by repeat (first | (with_reducible exact BX2.out) | (with_reducible refine Blk.drew ?_) | (with_reducible refine Blk.ext ?_ (by with_reducible assumption)) | (with_reducible refine Blk.out ?_ (by with_reducible assumption) ?ge; case ge => omega)))
  obtain ⟨q2_0, q2_1⟩ := blk2 bc2
  clear bc2
  go_wp2_with fail
  clear q0_0 q0_1 q2_0 q2_1
  refine (szPolicyS _ x1 (1048576 - ((x0.ases.length + x0.links.length : Nat) : Int)) _ (by exact H1.out.ext xo) (by omega) (by omega)).mono ?_
  rintro e w_2 ⟨rfl, e_2⟩
  have z_2 := e_2.size
  by_cases hlt1 : 1048576 - ((x0.ases.length + x0.links.length : Nat) : Int) < ((x1.length : Nat) : Int)
  · rw [szR_neg hlt1]
    go_wp2_with fail
    go_ret
    exact ⟨rfl, xo⟩
  rw [szR_pos (by omega)]
  have hb1 : x1.length ≤ 1048576 := by omega
  have bc0 : Blk w_2 (w.heap.size) 25 [.slice A0_0 n0_0 c0_0, .slice A0_1 n0_1 c0_1] := (by repeat (first | (with_reducible exact BX0.out) | (with_reducible refine Blk.drew ?_) | (with_reducible refine Blk.ext ?_ (by with_reducible assumption)) | (with_reducible refine Blk.out ?_ (by with_reducible assumption) ?ge; case ge => omega)))
  obtain ⟨q0_0, q0_1⟩ := blk2 bc0
  clear bc0
  have bc2 : Blk w_2 (w.heap.size + 1) 75 [I x2.ts, .slice A2_1 n2_1 c2_1] := (by repeat (first | (with_reducible exact BX2.out) | (with_reducible refine Blk.drew ?_) | (with_reducible refine Blk.ext ?_ (by with_reducible assumption)) | (with_reducible refine Blk.out ?_ (by with_reducible assumption) ?ge; case ge => omega)))
  obtain ⟨q2_0, q2_1⟩ := blk2 bc2
  clear bc2
  go_wp2_with fail
  clear q0_0 q0_1 q2_0 q2_1
  refine (szBeaconing _ x2 (1048576 - ((x0.ases.length + x0.links.length : Nat) : Int) - ((x1.length : Nat) : Int)) _ (by exact H2.out.ext xo) (by omega) (by omega)).mono ?_
  rintro e w_3 ⟨rfl, e_3⟩
  have z_3 := e_3.size
  by_cases hlt2 : 1048576 - ((x0.ases.length + x0.links.length : Nat) : Int) - ((x1.length : Nat) : Int) < ((totS (fun y => totS (fun y => y.seg.hops.length) y.beacons) x2.stores : Nat) : Int)
  · rw [szR_neg hlt2]
    go_wp2_with fail
    go_ret
    exact ⟨rfl, xo⟩
  rw [szR_pos (by omega)]
  have hb2 : totS (fun y => totS (fun y => y.seg.hops.length) y.beacons) x2.stores ≤ 1048576 := by omega
  have bc0 : Blk w_3 (w.heap.size) 25 [.slice A0_0 n0_0 c0_0, .slice A0_1 n0_1 c0_1] := (by repeat (first | (with_reducible exact BX0.out) | (with_reducible refine Blk.drew ?_) | (with_reducible refine Blk.ext ?_ (by with_reducible assumption)) | (with_reducible refine Blk.out ?_ (by with_reducible assumption) ?ge; case ge => omega)))
  obtain ⟨q0_0, q0_1⟩ := blk2 bc0
  clear bc0
  have bc2 : Blk w_3 (w.heap.size + 1) 75 [I x2.ts, .slice A2_1 n2_1 c2_1] := (by repeat (first | (with_reducible exact BX2.out) | (with_reducible refine Blk.drew ?_) | (with_reducible refine Blk.ext ?_ (by with_reducible assumption)) | (with_reducible refine Blk.out ?_ (by with_reducible assumption) ?ge; case ge => omega)))
  obtain ⟨q2_0, q2_1⟩ := blk2 bc2
  clear bc2
  go_wp2_with fail
  clear q0_0 q0_1 q2_0 q2_1
  have bc0 : Blk w_3 (w.heap.size) 25 [.slice A0_0 n0_0 c0_0, .slice A0_1 n0_1 c0_1] := (by repeat (first | (with_reducible exact BX0.out) | (with_reducible refine Blk.drew ?_) | (with_reducible refine Blk.ext ?_ (by with_reducible assumption)) | (with_reducible refine Blk.out ?_ (by with_reducible assumption) ?ge; case ge => omega)))
  have lt0 := bc0.lt
  obtain ⟨q0_0, q0_1⟩ := blk2 bc0
  clear bc0
  have bc2 : Blk w_3 (w.heap.size + 1) 75 [I x2.ts, .slice A2_1 n2_1 c2_1] := (by repeat (first | (with_reducible exact BX2.out) | (with_reducible refine Blk.drew ?_) | (with_reducible refine Blk.ext ?_ (by with_reducible assumption)) | (with_reducible refine Blk.out ?_ (by with_reducible assumption) ?ge; case ge => omega)))
  have lt2 := bc2.lt
  obtain ⟨q2_0, q2_1⟩ := blk2 bc2
  clear bc2
  refine wp_region_LT 8 (E := Ext) (w0 := w_3) (G := fun τ => match τ with | 33 => some (fun v W => TopologyV W.heap.size W v x0) | 35 => some (fun v W => PolicyS W.heap.size W v x1) | 37 => some (fun v W => BeaconingV W.heap.size W v x2) | 38 => some (fun v W => SegmentDatabaseQ w_3.heap.size W.heap.size W v (buildDb x0 x1 x2)) | 8 => some (fun v W => Zero1 37 w_3.heap.size [.slice none 0 0, .slice none 0 0] v W) | _ => none) Ext.refl (fun h k => Ext.trans h k) (by kernel_rfl) (by kernel_rfl) (by kernel_rfl) (by kernel_rfl) (by kernel_rfl) (by kernel_rfl) xg (Ext.drew (by exact Ext.refl _)) ?_
  simp only [List.take_succ_cons, List.take_zero]
  repeat' (first
    | ((with_reducible refine wpL_skip ?_ ?_ ?_)
       · rfl
       · rfl
       simp only [Act.put, List.setIfInBounds_toArray, List.set_cons_zero, List.set_cons_succ])
    | ((with_reducible refine wpL_quiet ?_ ?_ ?_ ?_)
       · rfl
       · rfl
       · rfl
       apply Exists.intro
       refine ⟨fun W hW hS => ?_, ?_⟩
       · have hC := (Ext.facts hW).1
         go_simp
         first | done | (with_reducible rfl) | (rw [if_neg (by omega)]; exact ⟨rfl, rfl⟩) | rfl
       first | (with_reducible refine wpL_boolT ?_) | (with_reducible refine wpL_boolF ?_) | (with_reducible refine wpL_bool (fun hB => ?_) (fun hB => ?_)) | skip
       all_goals simp only [Act.put, List.setIfInBounds_toArray, List.set_cons_zero, List.set_cons_succ])
    | ((refine wpL_grow ?_ rfl rfl ?_ ?_)
       · rfl
       · intro W hW hS
         have hC := (Ext.facts hW).1
         unfold growAt
         go_simp
         simp only [growUpon]
         first | (go_at_call 14; ((with_reducible refine Calls.mono (toTopology _ x0 _ (by exact H0.out.ext xo) (by omega)) ?_)); rintro e w9 ⟨v9, rfl, o9, e9⟩; exact ⟨_, rfl, e9, TopologyO_rd o9 (Nat.le_refl _)⟩) | (go_at_call 39; ((with_reducible refine Calls.mono (toPolicyS _ x1 _ (by exact H1.out.ext xo) (by omega)) ?_)); rintro e w9 ⟨v9, rfl, o9, e9⟩; exact ⟨_, rfl, e9, PolicySO_rd o9⟩) | (go_at_call 40; ((with_reducible refine Calls.mono (toBeaconing _ x2 _ (by exact H2.out.ext xo) (by omega)) ?_)); rintro e w9 ⟨v9, rfl, o9, e9⟩; exact ⟨_, rfl, e9, BeaconingO_rd o9 (Nat.le_refl _)⟩) | (go_at_call 38; have hs33 : TopologyV W.heap.size W _ x0 := hS 33 (by decide); have hs35 : PolicyS W.heap.size W _ x1 := hS 35 (by decide); have hs37 : BeaconingV W.heap.size W _ x2 := hS 37 (by decide); ((with_reducible refine Calls.mono (spec_BuildDatabase _ _ _ x0 x1 x2 _ hs33 hs35 hs37 (by exact hb2)) ?_)); rintro e w9 ⟨v9, rfl, o9, e9⟩; exact ⟨_, rfl, e9, SegmentDatabaseQ.more o9 (Ext.size hW) (Nat.le_refl _)⟩) | (exact ⟨xe, _, rfl, Ext.size (by assumption), Blk.new _ _ _⟩)
       intro v W' hW' hv
       first | (obtain ⟨A_4_0, n_4_0, c_4_0, A_4_1, n_4_1, c_4_1, rfl⟩ := SegmentDatabaseQ.shape hv) | (obtain ⟨g5, rfl, -⟩ := hv) | (obtain ⟨A5, n5, c5, rfl, -⟩ := id hv; clear hv) | (obtain ⟨A5, n5, c5, rfl⟩ := NO.slice hv) | skip
       all_goals simp only [Act.put, List.setIfInBounds_toArray, List.set_cons_zero, List.set_cons_succ]))
  refine wpL_nil (fun w_4 e_4 hL => ?_)
  have o_4 : SegmentDatabaseQ w_3.heap.size w_4.heap.size w_4 _ (buildDb x0 x1 x2) := hL 38
  have p_4 : Zero1 37 w_3.heap.size [.slice none 0 0, .slice none 0 0] _ w_4 := hL 8
  obtain ⟨gz_4, hgz, hgl_4, hbz⟩ := p_4
  have hge : gz_4 = g5 := by injection hgz with h; injection h with h; injection h with h1; exact h1.symm
  subst hge
  clear hgz
  clear hL
  clear q0_0 q0_1 q2_0 q2_1 lt0 lt2
  have OW_4 := Lib.hid (SegmentDatabaseQ.setT (SegmentDatabaseQ.setT o_4 hbz 0 (.slice A_4_0 n_4_0 c_4_0)) (Blk.set_ hbz 0 (.slice A_4_0 n_4_0 c_4_0)) 1 (.slice A_4_1 n_4_1 c_4_1))
  have BW_4 := Lib.hid (Blk.set_ (Blk.set_ hbz 0 (.slice A_4_0 n_4_0 c_4_0)) 1 (.slice A_4_1 n_4_1 c_4_1))
  have lz_4 := hbz.lt
  obtain ⟨yz_0, yz_1⟩ := blk2 hbz
  have fz_0 := hbz.frozen 0
  have fz_1 := hbz.frozen 1
  have z_4 := e_4.size
  clear hbz o_4
  have bc0 : Blk w_4 (w.heap.size) 25 [.slice A0_0 n0_0 c0_0, .slice A0_1 n0_1 c0_1] := (by repeat (first | (with_reducible exact BX0.out) | (with_reducible refine Blk.drew ?_) | (with_reducible refine Blk.ext ?_ (by with_reducible assumption)) | (with_reducible refine Blk.out ?_ (by with_reducible assumption) ?ge; case ge => omega)))
  have lt0 := bc0.lt
  obtain ⟨q0_0, q0_1⟩ := blk2 bc0
  clear bc0
  have bc2 : Blk w_4 (w.heap.size + 1) 75 [I x2.ts, .slice A2_1 n2_1 c2_1] := (by repeat (first | (with_reducible exact BX2.out) | (with_reducible refine Blk.drew ?_) | (with_reducible refine Blk.ext ?_ (by with_reducible assumption)) | (with_reducible refine Blk.out ?_ (by with_reducible assumption) ?ge; case ge => omega)))
  have lt2 := bc2.lt
  obtain ⟨q2_0, q2_1⟩ := blk2 bc2
  clear bc2
  simp only [List.drop_succ_cons, List.drop_zero]
  go_wp2_with fail
  clear q0_0 q0_1 q2_0 q2_1 lt0 lt2
  clear yz_0 yz_1 fz_0 fz_1
  have bxLw4 : Blk ((w_4.setCell ⟨gz_4, 0, none⟩ (.slice A_4_0 n_4_0 c_4_0)).setCell ⟨gz_4, 1, none⟩ (.slice A_4_1 n_4_1 c_4_1)) gz_4 37 [.slice A_4_0 n_4_0 c_4_0, .slice A_4_1 n_4_1 c_4_1] := by simpa using BW_4.out
  have BXLw4 := Lib.hid bxLw4; clear bxLw4
  have ewLw4 : Ext w_3 ((w_4.setCell ⟨gz_4, 0, none⟩ (.slice A_4_0 n_4_0 c_4_0)).setCell ⟨gz_4, 1, none⟩ (.slice A_4_1 n_4_1 c_4_1)) := xe
  have zwLw4 : ((w_4.setCell ⟨gz_4, 0, none⟩ (.slice A_4_0 n_4_0 c_4_0)).setCell ⟨gz_4, 1, none⟩ (.slice A_4_1 n_4_1 c_4_1)).heap.size = w_4.heap.size := by simp only [World.size_setCell]
  have O_4 : Hid (SegmentDatabaseQ w_3.heap.size ((w_4.setCell ⟨gz_4, 0, none⟩ (.slice A_4_0 n_4_0 c_4_0)).setCell ⟨gz_4, 1, none⟩ (.slice A_4_1 n_4_1 c_4_1)).heap.size ((w_4.setCell ⟨gz_4, 0, none⟩ (.slice A_4_0 n_4_0 c_4_0)).setCell ⟨gz_4, 1, none⟩ (.slice A_4_1 n_4_1 c_4_1)) (.agg #[.slice A_4_0 n_4_0 c_4_0, .slice A_4_1 n_4_1 c_4_1]) (buildDb x0 x1 x2)) := by unfold Hid; have h := OW_4.out; rw [← zwLw4] at h; exact h
  have ZWLw4 := Lib.hid zwLw4; have zvLw4 : w_4.heap.size ≤ ((w_4.setCell ⟨gz_4, 0, none⟩ (.slice A_4_0 n_4_0 c_4_0)).setCell ⟨gz_4, 1, none⟩ (.slice A_4_1 n_4_1 c_4_1)).heap.size := by omega
  have zxLw4 : ((w_4.setCell ⟨gz_4, 0, none⟩ (.slice A_4_0 n_4_0 c_4_0)).setCell ⟨gz_4, 1, none⟩ (.slice A_4_1 n_4_1 c_4_1)).heap.size ≤ w_4.heap.size := by omega
  clear zwLw4 OW_4 BW_4 ZWLw4
  clear e_4
  generalize ((w_4.setCell ⟨gz_4, 0, none⟩ (.slice A_4_0 n_4_0 c_4_0)).setCell ⟨gz_4, 1, none⟩ (.slice A_4_1 n_4_1 c_4_1)) = w_4b at *
  refine (toTopology (.agg #[.slice A0_0 n0_0 c0_0, .slice A0_1 n0_1 c0_1]) x0 _ (by exact H0.out.ext xo) (by omega)).mono ?_
  rintro e w_5 ⟨u_5, rfl, o_5, e_5⟩
  have z_5 := e_5.size
  have O_5 := Lib.hid o_5; clear o_5
  obtain ⟨A_5_0, n_5_0, c_5_0, A_5_1, n_5_1, c_5_1, hv_5⟩ := O_5.out.shape
  subst hv_5
  have bc0 : Blk w_5 (w.heap.size) 25 [.slice A0_0 n0_0 c0_0, .slice A0_1 n0_1 c0_1] := (by repeat (first | (with_reducible exact BX0.out) | (with_reducible refine Blk.drew ?_) | (with_reducible refine Blk.ext ?_ (by with_reducible assumption)) | (with_reducible refine Blk.out ?_ (by with_reducible assumption) ?ge; case ge => omega)))
  have lt0 := bc0.lt
  obtain ⟨q0_0, q0_1⟩ := blk2 bc0
  clear bc0
  have bc2 : Blk w_5 (w.heap.size + 1) 75 [I x2.ts, .slice A2_1 n2_1 c2_1] := (by repeat (first | (with_reducible exact BX2.out) | (with_reducible refine Blk.drew ?_) | (with_reducible refine Blk.ext ?_ (by with_reducible assumption)) | (with_reducible refine Blk.out ?_ (by with_reducible assumption) ?ge; case ge => omega)))
  have lt2 := bc2.lt
  obtain ⟨q2_0, q2_1⟩ := blk2 bc2
  clear bc2
  have bcLw4 : Blk w_5 (gz_4) 37 [.slice A_4_0 n_4_0 c_4_0, .slice A_4_1 n_4_1 c_4_1] := (by repeat (first | (with_reducible exact BXLw4.out) | (with_reducible refine Blk.drew ?_) | (with_reducible refine Blk.ext ?_ (by with_reducible assumption)) | (with_reducible refine Blk.out ?_ (by with_reducible assumption) ?ge; case ge => omega)))
  have ltLw4 := bcLw4.lt
  obtain ⟨qLw4_0, qLw4_1⟩ := blk2 bcLw4
  clear bcLw4
  go_wp2_with fail
  clear q0_0 q0_1 q2_0 q2_1 qLw4_0 qLw4_1 lt0 lt2 ltLw4
  have bxLw5 : Blk (w_5.alloc (.cells #[.slice A_5_0 n_5_0 c_5_0, .slice A_5_1 n_5_1 c_5_1] 42)) w_5.heap.size 42 [.slice A_5_0 n_5_0 c_5_0, .slice A_5_1 n_5_1 c_5_1] := Blk.new _ _ _
  have BXLw5 := Lib.hid bxLw5; clear bxLw5
  have ewLw5 : Ext w_5 (w_5.alloc (.cells #[.slice A_5_0 n_5_0 c_5_0, .slice A_5_1 n_5_1 c_5_1] 42)) := (Ext.refl _).alloc _
  have zwLw5 : w_5.heap.size + 1 ≤ (w_5.alloc (.cells #[.slice A_5_0 n_5_0 c_5_0, .slice A_5_1 n_5_1 c_5_1] 42)).heap.size := by simp only [World.size_alloc]; omega
  generalize (w_5.alloc (.cells #[.slice A_5_0 n_5_0 c_5_0, .slice A_5_1 n_5_1 c_5_1] 42)) = w_5b at *
  refine (toPolicyS (.slice A1 x1.length c1) x1 _ (by exact H1.out.ext xo) (by omega)).mono ?_
  rintro e w_6 ⟨u_6, rfl, o_6, e_6⟩
  have z_6 := e_6.size
  have O_6 := Lib.hid o_6; clear o_6
  have bc0 : Blk w_6 (w.heap.size) 25 [.slice A0_0 n0_0 c0_0, .slice A0_1 n0_1 c0_1] := (by repeat (first | (with_reducible exact BX0.out) | (with_reducible refine Blk.drew ?_) | (with_reducible refine Blk.ext ?_ (by with_reducible assumption)) | (with_reducible refine Blk.out ?_ (by with_reducible assumption) ?ge; case ge => omega)))
  obtain ⟨q0_0, q0_1⟩ := blk2 bc0
  clear bc0
  have bc2 : Blk w_6 (w.heap.size + 1) 75 [I x2.ts, .slice A2_1 n2_1 c2_1] := (by repeat (first | (with_reducible exact BX2.out) | (with_reducible refine Blk.drew ?_) | (with_reducible refine Blk.ext ?_ (by with_reducible assumption)) | (with_reducible refine Blk.out ?_ (by with_reducible assumption) ?ge; case ge => omega)))
  obtain ⟨q2_0, q2_1⟩ := blk2 bc2
  clear bc2
  have bcLw4 : Blk w_6 (gz_4) 37 [.slice A_4_0 n_4_0 c_4_0, .slice A_4_1 n_4_1 c_4_1] := (by repeat (first | (with_reducible exact BXLw4.out) | (with_reducible refine Blk.drew ?_) | (with_reducible refine Blk.ext ?_ (by with_reducible assumption)) | (with_reducible refine Blk.out ?_ (by with_reducible assumption) ?ge; case ge => omega)))
  obtain ⟨qLw4_0, qLw4_1⟩ := blk2 bcLw4
  clear bcLw4
  have bcLw5 : Blk w_6 (w_5.heap.size) 42 [.slice A_5_0 n_5_0 c_5_0, .slice A_5_1 n_5_1 c_5_1] := (by repeat (first | (with_reducible exact BXLw5.out) | (with_reducible refine Blk.drew ?_) | (with_reducible refine Blk.ext ?_ (by with_reducible assumption)) | (with_reducible refine Blk.out ?_ (by with_reducible assumption) ?ge; case ge => omega)))
  obtain ⟨qLw5_0, qLw5_1⟩ := blk2 bcLw5
  clear bcLw5
  go_wp2_with fail
  clear q0_0 q0_1 q2_0 q2_1 qLw4_0 qLw4_1 qLw5_0 qLw5_1
  refine (toBeaconing (.agg #[I x2.ts, .slice A2_1 n2_1 c2_1]) x2 _ (by exact H2.out.ext xo) (by omega)).mono ?_
  rintro e w_7 ⟨u_7, rfl, o_7, e_7⟩
  have z_7 := e_7.size
  have O_7 := Lib.hid o_7; clear o_7
  obtain ⟨A_7_1, n_7_1, c_7_1, hv_7⟩ := O_7.out.shape
  subst hv_7
  have bc0 : Blk w_7 (w.heap.size) 25 [.slice A0_0 n0_0 c0_0, .slice A0_1 n0_1 c0_1] := (by repeat (first | (with_reducible exact BX0.out) | (with_reducible refine Blk.drew ?_) | (with_reducible refine Blk.ext ?_ (by with_reducible assumption)) | (with_reducible refine Blk.out ?_ (by with_reducible assumption) ?ge; case ge => omega)))
  have lt0 := bc0.lt
  obtain ⟨q0_0, q0_1⟩ := blk2 bc0
  clear bc0
  have bc2 : Blk w_7 (w.heap.size + 1) 75 [I x2.ts, .slice A2_1 n2_1 c2_1] := (by repeat (first | (with_reducible exact BX2.out) | (with_reducible refine Blk.drew ?_) | (with_reducible refine Blk.ext ?_ (by with_reducible assumption)) | (with_reducible refine Blk.out ?_ (by with_reducible assumption) ?ge; case ge => omega)))
  have lt2 := bc2.lt
  obtain ⟨q2_0, q2_1⟩ := blk2 bc2
  clear bc2
  have bcLw4 : Blk w_7 (gz_4) 37 [.slice A_4_0 n_4_0 c_4_0, .slice A_4_1 n_4_1 c_4_1] := (by repeat (first | (with_reducible exact BXLw4.out) | (with_reducible refine Blk.drew ?_) | (with_reducible refine Blk.ext ?_ (by with_reducible assumption)) | (with_reducible refine Blk.out ?_ (by with_reducible assumption) ?ge; case ge => omega)))
  have ltLw4 := bcLw4.lt
  obtain ⟨qLw4_0, qLw4_1⟩ := blk2 bcLw4
  clear bcLw4
  have bcLw5 : Blk w_7 (w_5.heap.size) 42 [.slice A_5_0 n_5_0 c_5_0, .slice A_5_1 n_5_1 c_5_1] := (by repeat (first | (with_reducible exact BXLw5.out) | (with_reducible refine Blk.drew ?_) | (with_reducible refine Blk.ext ?_ (by with_reducible assumption)) | (with_reducible refine Blk.out ?_ (by with_reducible assumption) ?ge; case ge => omega)))
  have ltLw5 := bcLw5.lt
  obtain ⟨qLw5_0, qLw5_1⟩ := blk2 bcLw5
  clear bcLw5
  go_wp2_with fail
  clear q0_0 q0_1 q2_0 q2_1 qLw4_0 qLw4_1 qLw5_0 qLw5_1 lt0 lt2 ltLw4 ltLw5
  have bxLw7 : Blk (w_7.alloc (.cells #[I x2.ts, .slice A_7_1 n_7_1 c_7_1] 83)) w_7.heap.size 83 [I x2.ts, .slice A_7_1 n_7_1 c_7_1] := Blk.new _ _ _
  have BXLw7 := Lib.hid bxLw7; clear bxLw7
  have ewLw7 : Ext w_7 (w_7.alloc (.cells #[I x2.ts, .slice A_7_1 n_7_1 c_7_1] 83)) := (Ext.refl _).alloc _
  have zwLw7 : w_7.heap.size + 1 ≤ (w_7.alloc (.cells #[I x2.ts, .slice A_7_1 n_7_1 c_7_1] 83)).heap.size := by simp only [World.size_alloc]; omega
  generalize (w_7.alloc (.cells #[I x2.ts, .slice A_7_1 n_7_1 c_7_1] 83)) = w_7b at *
  refine (impl_BuildDatabase _ _ _ x0 x1 x2 _ (by exact TopologyO_rd (lo := w_4b.heap.size) (hi := w_5.heap.size) (by repeat (first | (with_reducible exact O_5.out) | (with_reducible refine TopologyO.drew ?_) | (with_reducible refine TopologyO.ext ?_ (by with_reducible assumption) ?ge; case ge => first | omega | (simp only [World.size_drew]; omega)) | (with_reducible refine TopologyO.out ?_ (by with_reducible assumption) ?ge; case ge => omega))) (by omega)) (by exact PolicySO_rd (lo := w_5b.heap.size) (hi := w_6.heap.size) (by repeat (first | (with_reducible exact O_6.out) | (with_reducible refine Own.drew ?_) | (with_reducible refine Own.ext ?_ (by with_reducible assumption) ?ge; case ge => first | omega | (simp only [World.size_drew]; omega)) | (with_reducible refine Own.out ?_ (by with_reducible assumption) ?ge; case ge => omega)))) (by exact BeaconingO_rd (lo := w_6.heap.size) (hi := w_7.heap.size) (by repeat (first | (with_reducible exact O_7.out) | (with_reducible refine BeaconingO.drew ?_) | (with_reducible refine BeaconingO.ext ?_ (by with_reducible assumption) ?ge; case ge => first | omega | (simp only [World.size_drew]; omega)) | (with_reducible refine BeaconingO.out ?_ (by with_reducible assumption) ?ge; case ge => omega))) (by omega)) (by exact hb2)).mono ?_
  rintro e w_8 ⟨u_8, rfl, o_8, e_8⟩
  have z_8 := e_8.size
  have O_8 := Lib.hid o_8; clear o_8
  obtain ⟨A_8_0, n_8_0, c_8_0, A_8_1, n_8_1, c_8_1, hv_8⟩ := O_8.out.shape
  subst hv_8
  have bc0 : Blk w_8 (w.heap.size) 25 [.slice A0_0 n0_0 c0_0, .slice A0_1 n0_1 c0_1] := (by repeat (first | (with_reducible exact BX0.out) | (with_reducible refine Blk.drew ?_) | (with_reducible refine Blk.ext ?_ (by with_reducible assumption)) | (with_reducible refine Blk.out ?_ (by with_reducible assumption) ?ge; case ge => omega)))
  have lt0 := bc0.lt
  obtain ⟨q0_0, q0_1⟩ := blk2 bc0
  clear bc0
  have bc2 : Blk w_8 (w.heap.size + 1) 75 [I x2.ts, .slice A2_1 n2_1 c2_1] := (by repeat (first | (with_reducible exact BX2.out) | (with_reducible refine Blk.drew ?_) | (with_reducible refine Blk.ext ?_ (by with_reducible assumption)) | (with_reducible refine Blk.out ?_ (by with_reducible assumption) ?ge; case ge => omega)))
  have lt2 := bc2.lt
  obtain ⟨q2_0, q2_1⟩ := blk2 bc2
  clear bc2
  have bcLw4 : Blk w_8 (gz_4) 37 [.slice A_4_0 n_4_0 c_4_0, .slice A_4_1 n_4_1 c_4_1] := (by repeat (first | (with_reducible exact BXLw4.out) | (with_reducible refine Blk.drew ?_) | (with_reducible refine Blk.ext ?_ (by with_reducible assumption)) | (with_reducible refine Blk.out ?_ (by with_reducible assumption) ?ge; case ge => omega)))
  have ltLw4 := bcLw4.lt
  obtain ⟨qLw4_0, qLw4_1⟩ := blk2 bcLw4
  clear bcLw4
  have bcLw5 : Blk w_8 (w_5.heap.size) 42 [.slice A_5_0 n_5_0 c_5_0, .slice A_5_1 n_5_1 c_5_1] := (by repeat (first | (with_reducible exact BXLw5.out) | (with_reducible refine Blk.drew ?_) | (with_reducible refine Blk.ext ?_ (by with_reducible assumption)) | (with_reducible refine Blk.out ?_ (by with_reducible assumption) ?ge; case ge => omega)))
  have ltLw5 := bcLw5.lt
  obtain ⟨qLw5_0, qLw5_1⟩ := blk2 bcLw5
  clear bcLw5
  have bcLw7 : Blk w_8 (w_7.heap.size) 83 [I x2.ts, .slice A_7_1 n_7_1 c_7_1] := (by repeat (first | (with_reducible exact BXLw7.out) | (with_reducible refine Blk.drew ?_) | (with_reducible refine Blk.ext ?_ (by with_reducible assumption)) | (with_reducible refine Blk.out ?_ (by with_reducible assumption) ?ge; case ge => omega)))
  have ltLw7 := bcLw7.lt
  obtain ⟨qLw7_0, qLw7_1⟩ := blk2 bcLw7
  clear bcLw7
  go_wp2_with fail
  clear q0_0 q0_1 q2_0 q2_1 qLw4_0 qLw4_1 qLw5_0 qLw5_1 qLw7_0 qLw7_1 lt0 lt2 ltLw4 ltLw5 ltLw7
  have bxLw8 : Blk (w_8.alloc (.cells #[.slice A_8_0 n_8_0 c_8_0, .slice A_8_1 n_8_1 c_8_1] 37)) w_8.heap.size 37 [.slice A_8_0 n_8_0 c_8_0, .slice A_8_1 n_8_1 c_8_1] := Blk.new _ _ _
  have BXLw8 := Lib.hid bxLw8; clear bxLw8
  have ewLw8 : Ext w_8 (w_8.alloc (.cells #[.slice A_8_0 n_8_0 c_8_0, .slice A_8_1 n_8_1 c_8_1] 37)) := (Ext.refl _).alloc _
  have zwLw8 : w_8.heap.size + 1 ≤ (w_8.alloc (.cells #[.slice A_8_0 n_8_0 c_8_0, .slice A_8_1 n_8_1 c_8_1] 37)).heap.size := by simp only [World.size_alloc]; omega
  generalize (w_8.alloc (.cells #[.slice A_8_0 n_8_0 c_8_0, .slice A_8_1 n_8_1 c_8_1] 37)) = w_8b at *
  have S_4 := Lib.hid (SegmentDatabaseQ_rd O_4.out (Nat.le_refl _))
  refine (eqSegmentDatabase _ _ (buildDb x0 x1 x2) (buildDb x0 x1 x2) _ (by exact SegmentDatabaseQ_rd (lo := w_7b.heap.size) (hi := w_8.heap.size) (by repeat (first | (with_reducible exact O_8.out) | (with_reducible refine SegmentDatabaseQ.drew ?_) | (with_reducible refine SegmentDatabaseQ.ext ?_ (by with_reducible assumption) ?ge; case ge => first | omega | (simp only [World.size_drew]; omega)) | (with_reducible refine SegmentDatabaseQ.out ?_ (by with_reducible assumption) ?ge; case ge => omega))) (by omega)) (by exact S_4.out.ext xo)).mono ?_
  rintro e w_9 ⟨rfl, e_9⟩
  have z_9 := e_9.size
  try rw [decide_eq_true rfl]
  have bc0 : Blk w_9 (w.heap.size) 25 [.slice A0_0 n0_0 c0_0, .slice A0_1 n0_1 c0_1] := (by repeat (first | (with_reducible exact BX0.out) | (with_reducible refine Blk.drew ?_) | (with_reducible refine Blk.ext ?_ (by with_reducible assumption)) | (with_reducible refine Blk.out ?_ (by with_reducible assumption) ?ge; case ge => omega)))
  obtain ⟨q0_0, q0_1⟩ := blk2 bc0
  clear bc0
  have bc2 : Blk w_9 (w.heap.size + 1) 75 [I x2.ts, .slice A2_1 n2_1 c2_1] := (by repeat (first | (with_reducible exact BX2.out) | (with_reducible refine Blk.drew ?_) | (with_reducible refine Blk.ext ?_ (by with_reducible assumption)) | (with_reducible refine Blk.out ?_ (by with_reducible assumption) ?ge; case ge => omega)))
  obtain ⟨q2_0, q2_1⟩ := blk2 bc2
  clear bc2
  have bcLw4 : Blk w_9 (gz_4) 37 [.slice A_4_0 n_4_0 c_4_0, .slice A_4_1 n_4_1 c_4_1] := (by repeat (first | (with_reducible exact BXLw4.out) | (with_reducible refine Blk.drew ?_) | (with_reducible refine Blk.ext ?_ (by with_reducible assumption)) | (with_reducible refine Blk.out ?_ (by with_reducible assumption) ?ge; case ge => omega)))
  obtain ⟨qLw4_0, qLw4_1⟩ := blk2 bcLw4
  clear bcLw4
  have bcLw5 : Blk w_9 (w_5.heap.size) 42 [.slice A_5_0 n_5_0 c_5_0, .slice A_5_1 n_5_1 c_5_1] := (by repeat (first | (with_reducible exact BXLw5.out) | (with_reducible refine Blk.drew ?_) | (with_reducible refine Blk.ext ?_ (by with_reducible assumption)) | (with_reducible refine Blk.out ?_ (by with_reducible assumption) ?ge; case ge => omega)))
  obtain ⟨qLw5_0, qLw5_1⟩ := blk2 bcLw5
  clear bcLw5
  have bcLw7 : Blk w_9 (w_7.heap.size) 83 [I x2.ts, .slice A_7_1 n_7_1 c_7_1] := (by repeat (first | (with_reducible exact BXLw7.out) | (with_reducible refine Blk.drew ?_) | (with_reducible refine Blk.ext ?_ (by with_reducible assumption)) | (with_reducible refine Blk.out ?_ (by with_reducible assumption) ?ge; case ge => omega)))
  obtain ⟨qLw7_0, qLw7_1⟩ := blk2 bcLw7
  clear bcLw7
  have bcLw8 : Blk w_9 (w_8.heap.size) 37 [.slice A_8_0 n_8_0 c_8_0, .slice A_8_1 n_8_1 c_8_1] := (by repeat (first | (with_reducible exact BXLw8.out) | (with_reducible refine Blk.drew ?_) | (with_reducible refine Blk.ext ?_ (by with_reducible assumption)) | (with_reducible refine Blk.out ?_ (by with_reducible assumption) ?ge; case ge => omega)))
  obtain ⟨qLw8_0, qLw8_1⟩ := blk2 bcLw8
  clear bcLw8
  go_wp2_with fail
  clear q0_0 q0_1 q2_0 q2_1 qLw4_0 qLw4_1 qLw5_0 qLw5_1 qLw7_0 qLw7_1 qLw8_0 qLw8_1
  have bc0 : Blk w_9 (w.heap.size) 25 [.slice A0_0 n0_0 c0_0, .slice A0_1 n0_1 c0_1] := (by repeat (first | (with_reducible exact BX0.out) | (with_reducible refine Blk.drew ?_) | (with_reducible refine Blk.ext ?_ (by with_reducible assumption)) | (with_reducible refine Blk.out ?_ (by with_reducible assumption) ?ge; case ge => omega)))
  have lt0 := bc0.lt
  obtain ⟨q0_0, q0_1⟩ := blk2 bc0
  clear bc0
  have bc2 : Blk w_9 (w.heap.size + 1) 75 [I x2.ts, .slice A2_1 n2_1 c2_1] := (by repeat (first | (with_reducible exact BX2.out) | (with_reducible refine Blk.drew ?_) | (with_reducible refine Blk.ext ?_ (by with_reducible assumption)) | (with_reducible refine Blk.out ?_ (by with_reducible assumption) ?ge; case ge => omega)))
  have lt2 := bc2.lt
  obtain ⟨q2_0, q2_1⟩ := blk2 bc2
  clear bc2
  have bcLw4 : Blk w_9 (gz_4) 37 [.slice A_4_0 n_4_0 c_4_0, .slice A_4_1 n_4_1 c_4_1] := (by repeat (first | (with_reducible exact BXLw4.out) | (with_reducible refine Blk.drew ?_) | (with_reducible refine Blk.ext ?_ (by with_reducible assumption)) | (with_reducible refine Blk.out ?_ (by with_reducible assumption) ?ge; case ge => omega)))
  have ltLw4 := bcLw4.lt
  obtain ⟨qLw4_0, qLw4_1⟩ := blk2 bcLw4
  clear bcLw4
  have bcLw5 : Blk w_9 (w_5.heap.size) 42 [.slice A_5_0 n_5_0 c_5_0, .slice A_5_1 n_5_1 c_5_1] := (by repeat (first | (with_reducible exact BXLw5.out) | (with_reducible refine Blk.drew ?_) | (with_reducible refine Blk.ext ?_ (by with_reducible assumption)) | (with_reducible refine Blk.out ?_ (by with_reducible assumption) ?ge; case ge => omega)))
  have ltLw5 := bcLw5.lt
  obtain ⟨qLw5_0, qLw5_1⟩ := blk2 bcLw5
  clear bcLw5
  have bcLw7 : Blk w_9 (w_7.heap.size) 83 [I x2.ts, .slice A_7_1 n_7_1 c_7_1] := (by repeat (first | (with_reducible exact BXLw7.out) | (with_reducible refine Blk.drew ?_) | (with_reducible refine Blk.ext ?_ (by with_reducible assumption)) | (with_reducible refine Blk.out ?_ (by with_reducible assumption) ?ge; case ge => omega)))
  have ltLw7 := bcLw7.lt
  obtain ⟨qLw7_0, qLw7_1⟩ := blk2 bcLw7
  clear bcLw7
  have bcLw8 : Blk w_9 (w_8.heap.size) 37 [.slice A_8_0 n_8_0 c_8_0, .slice A_8_1 n_8_1 c_8_1] := (by repeat (first | (with_reducible exact BXLw8.out) | (with_reducible refine Blk.drew ?_) | (with_reducible refine Blk.ext ?_ (by with_reducible assumption)) | (with_reducible refine Blk.out ?_ (by with_reducible assumption) ?ge; case ge => omega)))
  have ltLw8 := bcLw8.lt
  obtain ⟨qLw8_0, qLw8_1⟩ := blk2 bcLw8
  clear bcLw8
  go_region_held3 (fun W => w_9.heap.size ≤ W.heap.size ∧ ∀ b o, b < w_9.heap.size → W.cell? ⟨b, o, none⟩ = w_9.cell? ⟨b, o, none⟩)
    (first | exact ⟨Nat.le_refl _, fun _ _ _ => rfl⟩ | exact keepC (by assumption) e_11 | exact keepC (by assumption) e_10)
    (first | (go_at_call 14; (with_reducible refine Calls.mono (toTopology (.agg #[.slice A0_0 n0_0 c0_0, .slice A0_1 n0_1 c0_1]) x0 _ ?s0 ?s1) ?_); (case s0 => exact H0.out.ext xo); (case s1 => omega); rintro e w_10 ⟨u_10, rfl, o_10, e_10⟩; have z_10 : w_9.heap.size ≤ w_10.heap.size := e_10.size; have o_10 : TopologyO w_9.heap.size w_10.heap.size w_10 _ _ := o_10) | (go_at_call 19; (with_reducible refine Calls.mono (eqTopology _ _ x0 x0 _ ?s0 ?s1) ?_); (case s0 => exact TopologyO_rd (lo := w_4b.heap.size) (hi := w_5.heap.size) (by repeat (first | (with_reducible exact O_5.out) | (with_reducible refine TopologyO.drew ?_) | (with_reducible refine TopologyO.ext ?_ (by with_reducible assumption) ?ge; case ge => first | omega | (simp only [World.size_drew]; omega)) | (with_reducible refine TopologyO.out ?_ (by with_reducible assumption) ?ge; case ge => omega))) (by omega)); (case s1 => exact TopologyO_rd (lo := w_9.heap.size) (hi := w_10.heap.size) (by repeat (first | (with_reducible exact o_10) | (with_reducible refine TopologyO.drew ?_) | (with_reducible refine TopologyO.ext ?_ (by with_reducible assumption) ?ge; case ge => first | omega | (simp only [World.size_drew]; omega)) | (with_reducible refine TopologyO.out ?_ (by with_reducible assumption) ?ge; case ge => omega))) (by omega)); rintro e w_11 ⟨rfl, e_11⟩; have z_11 := e_11.size))
  clear q0_0 q0_1 q2_0 q2_1 qLw4_0 qLw4_1 qLw5_0 qLw5_1 qLw7_0 qLw7_1 qLw8_0 qLw8_1 lt0 lt2 ltLw4 ltLw5 ltLw7 ltLw8
  have O_10 := Lib.hid o_10; clear o_10
  obtain ⟨A_10_0, n_10_0, c_10_0, A_10_1, n_10_1, c_10_1, hv_10⟩ := O_10.out.shape
  subst hv_10
  try rw [decide_eq_true rfl]
  have bc0 : Blk w_11 (w.heap.size) 25 [.slice A0_0 n0_0 c0_0, .slice A0_1 n0_1 c0_1] := (by repeat (first | (with_reducible exact BX0.out) | (with_reducible refine Blk.drew ?_) | (with_reducible refine Blk.ext ?_ (by with_reducible assumption)) | (with_reducible refine Blk.out ?_ (by with_reducible assumption) ?ge; case ge => omega)))
  obtain ⟨q0_0, q0_1⟩ := blk2 bc0
  clear bc0
  have bc2 : Blk w_11 (w.heap.size + 1) 75 [I x2.ts, .slice A2_1 n2_1 c2_1] := (by repeat (first | (with_reducible exact BX2.out) | (with_reducible refine Blk.drew ?_) | (with_reducible refine Blk.ext ?_ (by with_reducible assumption)) | (with_reducible refine Blk.out ?_ (by with_reducible assumption) ?ge; case ge => omega)))
  obtain ⟨q2_0, q2_1⟩ := blk2 bc2
  clear bc2
  have bcLw4 : Blk w_11 (gz_4) 37 [.slice A_4_0 n_4_0 c_4_0, .slice A_4_1 n_4_1 c_4_1] := (by repeat (first | (with_reducible exact BXLw4.out) | (with_reducible refine Blk.drew ?_) | (with_reducible refine Blk.ext ?_ (by with_reducible assumption)) | (with_reducible refine Blk.out ?_ (by with_reducible assumption) ?ge; case ge => omega)))
  obtain ⟨qLw4_0, qLw4_1⟩ := blk2 bcLw4
  clear bcLw4
  have bcLw5 : Blk w_11 (w_5.heap.size) 42 [.slice A_5_0 n_5_0 c_5_0, .slice A_5_1 n_5_1 c_5_1] := (by repeat (first | (with_reducible exact BXLw5.out) | (with_reducible refine Blk.drew ?_) | (with_reducible refine Blk.ext ?_ (by with_reducible assumption)) | (with_reducible refine Blk.out ?_ (by with_reducible assumption) ?ge; case ge => omega)))
  obtain ⟨qLw5_0, qLw5_1⟩ := blk2 bcLw5
  clear bcLw5
  have bcLw7 : Blk w_11 (w_7.heap.size) 83 [I x2.ts, .slice A_7_1 n_7_1 c_7_1] := (by repeat (first | (with_reducible exact BXLw7.out) | (with_reducible refine Blk.drew ?_) | (with_reducible refine Blk.ext ?_ (by with_reducible assumption)) | (with_reducible refine Blk.out ?_ (by with_reducible assumption) ?ge; case ge => omega)))
  obtain ⟨qLw7_0, qLw7_1⟩ := blk2 bcLw7
  clear bcLw7
  have bcLw8 : Blk w_11 (w_8.heap.size) 37 [.slice A_8_0 n_8_0 c_8_0, .slice A_8_1 n_8_1 c_8_1] := (by repeat (first | (with_reducible exact BXLw8.out) | (with_reducible refine Blk.drew ?_) | (with_reducible refine Blk.ext ?_ (by with_reducible assumption)) | (with_reducible refine Blk.out ?_ (by with_reducible assumption) ?ge; case ge => omega)))
  obtain ⟨qLw8_0, qLw8_1⟩ := blk2 bcLw8
  clear bcLw8
  go_wp2_with fail
  clear q0_0 q0_1 q2_0 q2_1 qLw4_0 qLw4_1 qLw5_0 qLw5_1 qLw7_0 qLw7_1 qLw8_0 qLw8_1
  refine (toPolicyS (.slice A1 x1.length c1) x1 _ (by exact H1.out.ext xo) (by omega)).mono ?_
  rintro e w_12 ⟨u_12, rfl, o_12, e_12⟩
  have z_12 := e_12.size
  have O_12 := Lib.hid o_12; clear o_12
  have bc0 : Blk w_12 (w.heap.size) 25 [.slice A0_0 n0_0 c0_0, .slice A0_1 n0_1 c0_1] := (by repeat (first | (with_reducible exact BX0.out) | (with_reducible refine Blk.drew ?_) | (with_reducible refine Blk.ext ?_ (by with_reducible assumption)) | (with_reducible refine Blk.out ?_ (by with_reducible assumption) ?ge; case ge => omega)))
  obtain ⟨q0_0, q0_1⟩ := blk2 bc0
  clear bc0
  have bc2 : Blk w_12 (w.heap.size + 1) 75 [I x2.ts, .slice A2_1 n2_1 c2_1] := (by repeat (first | (with_reducible exact BX2.out) | (with_reducible refine Blk.drew ?_) | (with_reducible refine Blk.ext ?_ (by with_reducible assumption)) | (with_reducible refine Blk.out ?_ (by with_reducible assumption) ?ge; case ge => omega)))
  obtain ⟨q2_0, q2_1⟩ := blk2 bc2
  clear bc2
  have bcLw4 : Blk w_12 (gz_4) 37 [.slice A_4_0 n_4_0 c_4_0, .slice A_4_1 n_4_1 c_4_1] := (by repeat (first | (with_reducible exact BXLw4.out) | (with_reducible refine Blk.drew ?_) | (with_reducible refine Blk.ext ?_ (by with_reducible assumption)) | (with_reducible refine Blk.out ?_ (by with_reducible assumption) ?ge; case ge => omega)))
  obtain ⟨qLw4_0, qLw4_1⟩ := blk2 bcLw4
  clear bcLw4
  have bcLw5 : Blk w_12 (w_5.heap.size) 42 [.slice A_5_0 n_5_0 c_5_0, .slice A_5_1 n_5_1 c_5_1] := (by repeat (first | (with_reducible exact BXLw5.out) | (with_reducible refine Blk.drew ?_) | (with_reducible refine Blk.ext ?_ (by with_reducible assumption)) | (with_reducible refine Blk.out ?_ (by with_reducible assumption) ?ge; case ge => omega)))
  obtain ⟨qLw5_0, qLw5_1⟩ := blk2 bcLw5
  clear bcLw5
  have bcLw7 : Blk w_12 (w_7.heap.size) 83 [I x2.ts, .slice A_7_1 n_7_1 c_7_1] := (by repeat (first | (with_reducible exact BXLw7.out) | (with_reducible refine Blk.drew ?_) | (with_reducible refine Blk.ext ?_ (by with_reducible assumption)) | (with_reducible refine Blk.out ?_ (by with_reducible assumption) ?ge; case ge => omega)))
  obtain ⟨qLw7_0, qLw7_1⟩ := blk2 bcLw7
  clear bcLw7
  have bcLw8 : Blk w_12 (w_8.heap.size) 37 [.slice A_8_0 n_8_0 c_8_0, .slice A_8_1 n_8_1 c_8_1] := (by repeat (first | (with_reducible exact BXLw8.out) | (with_reducible refine Blk.drew ?_) | (with_reducible refine Blk.ext ?_ (by with_reducible assumption)) | (with_reducible refine Blk.out ?_ (by with_reducible assumption) ?ge; case ge => omega)))
  obtain ⟨qLw8_0, qLw8_1⟩ := blk2 bcLw8
  clear bcLw8
  go_wp2_with fail
  clear q0_0 q0_1 q2_0 q2_1 qLw4_0 qLw4_1 qLw5_0 qLw5_1 qLw7_0 qLw7_1 qLw8_0 qLw8_1
  refine (eqPolicyS _ _ x1 x1 _ (by exact PolicySO_rd (lo := w_5b.heap.size) (hi := w_6.heap.size) (by repeat (first | (with_reducible exact O_6.out) | (with_reducible refine Own.drew ?_) | (with_reducible refine Own.ext ?_ (by with_reducible assumption) ?ge; case ge => first | omega | (simp only [World.size_drew]; omega)) | (with_reducible refine Own.out ?_ (by with_reducible assumption) ?ge; case ge => omega)))) (by exact PolicySO_rd (lo := w_11.heap.size) (hi := w_12.heap.size) (by repeat (first | (with_reducible exact O_12.out) | (with_reducible refine Own.drew ?_) | (with_reducible refine Own.ext ?_ (by with_reducible assumption) ?ge; case ge => first | omega | (simp only [World.size_drew]; omega)) | (with_reducible refine Own.out ?_ (by with_reducible assumption) ?ge; case ge => omega))))).mono ?_
  rintro e w_13 ⟨rfl, e_13⟩
  have z_13 := e_13.size
  try rw [decide_eq_true rfl]
  have bc0 : Blk w_13 (w.heap.size) 25 [.slice A0_0 n0_0 c0_0, .slice A0_1 n0_1 c0_1] := (by repeat (first | (with_reducible exact BX0.out) | (with_reducible refine Blk.drew ?_) | (with_reducible refine Blk.ext ?_ (by with_reducible assumption)) | (with_reducible refine Blk.out ?_ (by with_reducible assumption) ?ge; case ge => omega)))
  obtain ⟨q0_0, q0_1⟩ := blk2 bc0
  clear bc0
  have bc2 : Blk w_13 (w.heap.size + 1) 75 [I x2.ts, .slice A2_1 n2_1 c2_1] := (by repeat (first | (with_reducible exact BX2.out) | (with_reducible refine Blk.drew ?_) | (with_reducible refine Blk.ext ?_ (by with_reducible assumption)) | (with_reducible refine Blk.out ?_ (by with_reducible assumption) ?ge; case ge => omega)))
  obtain ⟨q2_0, q2_1⟩ := blk2 bc2
  clear bc2
  have bcLw4 : Blk w_13 (gz_4) 37 [.slice A_4_0 n_4_0 c_4_0, .slice A_4_1 n_4_1 c_4_1] := (by repeat (first | (with_reducible exact BXLw4.out) | (with_reducible refine Blk.drew ?_) | (with_reducible refine Blk.ext ?_ (by with_reducible assumption)) | (with_reducible refine Blk.out ?_ (by with_reducible assumption) ?ge; case ge => omega)))
  obtain ⟨qLw4_0, qLw4_1⟩ := blk2 bcLw4
  clear bcLw4
  have bcLw5 : Blk w_13 (w_5.heap.size) 42 [.slice A_5_0 n_5_0 c_5_0, .slice A_5_1 n_5_1 c_5_1] := (by repeat (first | (with_reducible exact BXLw5.out) | (with_reducible refine Blk.drew ?_) | (with_reducible refine Blk.ext ?_ (by with_reducible assumption)) | (with_reducible refine Blk.out ?_ (by with_reducible assumption) ?ge; case ge => omega)))
  obtain ⟨qLw5_0, qLw5_1⟩ := blk2 bcLw5
  clear bcLw5
  have bcLw7 : Blk w_13 (w_7.heap.size) 83 [I x2.ts, .slice A_7_1 n_7_1 c_7_1] := (by repeat (first | (with_reducible exact BXLw7.out) | (with_reducible refine Blk.drew ?_) | (with_reducible refine Blk.ext ?_ (by with_reducible assumption)) | (with_reducible refine Blk.out ?_ (by with_reducible assumption) ?ge; case ge => omega)))
  obtain ⟨qLw7_0, qLw7_1⟩ := blk2 bcLw7
  clear bcLw7
  have bcLw8 : Blk w_13 (w_8.heap.size) 37 [.slice A_8_0 n_8_0 c_8_0, .slice A_8_1 n_8_1 c_8_1] := (by repeat (first | (with_reducible exact BXLw8.out) | (with_reducible refine Blk.drew ?_) | (with_reducible refine Blk.ext ?_ (by with_reducible assumption)) | (with_reducible refine Blk.out ?_ (by with_reducible assumption) ?ge; case ge => omega)))
  obtain ⟨qLw8_0, qLw8_1⟩ := blk2 bcLw8
  clear bcLw8
  go_wp2_with fail
  clear q0_0 q0_1 q2_0 q2_1 qLw4_0 qLw4_1 qLw5_0 qLw5_1 qLw7_0 qLw7_1 qLw8_0 qLw8_1
  have bc0 : Blk w_13 (w.heap.size) 25 [.slice A0_0 n0_0 c0_0, .slice A0_1 n0_1 c0_1] := (by repeat (first | (with_reducible exact BX0.out) | (with_reducible refine Blk.drew ?_) | (with_reducible refine Blk.ext ?_ (by with_reducible assumption)) | (with_reducible refine Blk.out ?_ (by with_reducible assumption) ?ge; case ge => omega)))
  have lt0 := bc0.lt
  obtain ⟨q0_0, q0_1⟩ := blk2 bc0
  clear bc0
  have bc2 : Blk w_13 (w.heap.size + 1) 75 [I x2.ts, .slice A2_1 n2_1 c2_1] := (by repeat (first | (with_reducible exact BX2.out) | (with_reducible refine Blk.drew ?_) | (with_reducible refine Blk.ext ?_ (by with_reducible assumption)) | (with_reducible refine Blk.out ?_ (by with_reducible assumption) ?ge; case ge => omega)))
  have lt2 := bc2.lt
  obtain ⟨q2_0, q2_1⟩ := blk2 bc2
  clear bc2
  have bcLw4 : Blk w_13 (gz_4) 37 [.slice A_4_0 n_4_0 c_4_0, .slice A_4_1 n_4_1 c_4_1] := (by repeat (first | (with_reducible exact BXLw4.out) | (with_reducible refine Blk.drew ?_) | (with_reducible refine Blk.ext ?_ (by with_reducible assumption)) | (with_reducible refine Blk.out ?_ (by with_reducible assumption) ?ge; case ge => omega)))
  have ltLw4 := bcLw4.lt
  obtain ⟨qLw4_0, qLw4_1⟩ := blk2 bcLw4
  clear bcLw4
  have bcLw5 : Blk w_13 (w_5.heap.size) 42 [.slice A_5_0 n_5_0 c_5_0, .slice A_5_1 n_5_1 c_5_1] := (by repeat (first | (with_reducible exact BXLw5.out) | (with_reducible refine Blk.drew ?_) | (with_reducible refine Blk.ext ?_ (by with_reducible assumption)) | (with_reducible refine Blk.out ?_ (by with_reducible assumption) ?ge; case ge => omega)))
  have ltLw5 := bcLw5.lt
  obtain ⟨qLw5_0, qLw5_1⟩ := blk2 bcLw5
  clear bcLw5
  have bcLw7 : Blk w_13 (w_7.heap.size) 83 [I x2.ts, .slice A_7_1 n_7_1 c_7_1] := (by repeat (first | (with_reducible exact BXLw7.out) | (with_reducible refine Blk.drew ?_) | (with_reducible refine Blk.ext ?_ (by with_reducible assumption)) | (with_reducible refine Blk.out ?_ (by with_reducible assumption) ?ge; case ge => omega)))
  have ltLw7 := bcLw7.lt
  obtain ⟨qLw7_0, qLw7_1⟩ := blk2 bcLw7
  clear bcLw7
  have bcLw8 : Blk w_13 (w_8.heap.size) 37 [.slice A_8_0 n_8_0 c_8_0, .slice A_8_1 n_8_1 c_8_1] := (by repeat (first | (with_reducible exact BXLw8.out) | (with_reducible refine Blk.drew ?_) | (with_reducible refine Blk.ext ?_ (by with_reducible assumption)) | (with_reducible refine Blk.out ?_ (by with_reducible assumption) ?ge; case ge => omega)))
  have ltLw8 := bcLw8.lt
  obtain ⟨qLw8_0, qLw8_1⟩ := blk2 bcLw8
  clear bcLw8
  go_region_held3 (fun W => w_13.heap.size ≤ W.heap.size ∧ ∀ b o, b < w_13.heap.size → W.cell? ⟨b, o, none⟩ = w_13.cell? ⟨b, o, none⟩)
    (first | exact ⟨Nat.le_refl _, fun _ _ _ => rfl⟩ | exact keepC (by assumption) e_15 | exact keepC (by assumption) e_14)
    (first | (go_at_call 40; (with_reducible refine Calls.mono (toBeaconing (.agg #[I x2.ts, .slice A2_1 n2_1 c2_1]) x2 _ ?s0 ?s1) ?_); (case s0 => exact H2.out.ext xo); (case s1 => omega); rintro e w_14 ⟨u_14, rfl, o_14, e_14⟩; have z_14 : w_13.heap.size ≤ w_14.heap.size := e_14.size; have o_14 : BeaconingO w_13.heap.size w_14.heap.size w_14 _ _ := o_14) | (go_at_call 43; (with_reducible refine Calls.mono (eqBeaconing _ _ x2 x2 _ ?s0 ?s1) ?_); (case s0 => exact BeaconingO_rd (lo := w_6.heap.size) (hi := w_7.heap.size) (by repeat (first | (with_reducible exact O_7.out) | (with_reducible refine BeaconingO.drew ?_) | (with_reducible refine BeaconingO.ext ?_ (by with_reducible assumption) ?ge; case ge => first | omega | (simp only [World.size_drew]; omega)) | (with_reducible refine BeaconingO.out ?_ (by with_reducible assumption) ?ge; case ge => omega))) (by omega)); (case s1 => exact BeaconingO_rd (lo := w_13.heap.size) (hi := w_14.heap.size) (by repeat (first | (with_reducible exact o_14) | (with_reducible refine BeaconingO.drew ?_) | (with_reducible refine BeaconingO.ext ?_ (by with_reducible assumption) ?ge; case ge => first | omega | (simp only [World.size_drew]; omega)) | (with_reducible refine BeaconingO.out ?_ (by with_reducible assumption) ?ge; case ge => omega))) (by omega)); rintro e w_15 ⟨rfl, e_15⟩; have z_15 := e_15.size))
  clear q0_0 q0_1 q2_0 q2_1 qLw4_0 qLw4_1 qLw5_0 qLw5_1 qLw7_0 qLw7_1 qLw8_0 qLw8_1 lt0 lt2 ltLw4 ltLw5 ltLw7 ltLw8
  have O_14 := Lib.hid o_14; clear o_14
  obtain ⟨A_14_1, n_14_1, c_14_1, hv_14⟩ := O_14.out.shape
  subst hv_14
  try rw [decide_eq_true rfl]
  have bc0 : Blk w_15 (w.heap.size) 25 [.slice A0_0 n0_0 c0_0, .slice A0_1 n0_1 c0_1] := (by repeat (first | (with_reducible exact BX0.out) | (with_reducible refine Blk.drew ?_) | (with_reducible refine Blk.ext ?_ (by with_reducible assumption)) | (with_reducible refine Blk.out ?_ (by with_reducible assumption) ?ge; case ge => omega)))
  obtain ⟨q0_0, q0_1⟩ := blk2 bc0
  clear bc0
  have bc2 : Blk w_15 (w.heap.size + 1) 75 [I x2.ts, .slice A2_1 n2_1 c2_1] := (by repeat (first | (with_reducible exact BX2.out) | (with_reducible refine Blk.drew ?_) | (with_reducible refine Blk.ext ?_ (by with_reducible assumption)) | (with_reducible refine Blk.out ?_ (by with_reducible assumption) ?ge; case ge => omega)))
  obtain ⟨q2_0, q2_1⟩ := blk2 bc2
  clear bc2
  have bcLw4 : Blk w_15 (gz_4) 37 [.slice A_4_0 n_4_0 c_4_0, .slice A_4_1 n_4_1 c_4_1] := (by repeat (first | (with_reducible exact BXLw4.out) | (with_reducible refine Blk.drew ?_) | (with_reducible refine Blk.ext ?_ (by with_reducible assumption)) | (with_reducible refine Blk.out ?_ (by with_reducible assumption) ?ge; case ge => omega)))
  obtain ⟨qLw4_0, qLw4_1⟩ := blk2 bcLw4
  clear bcLw4
  have bcLw5 : Blk w_15 (w_5.heap.size) 42 [.slice A_5_0 n_5_0 c_5_0, .slice A_5_1 n_5_1 c_5_1] := (by repeat (first | (with_reducible exact BXLw5.out) | (with_reducible refine Blk.drew ?_) | (with_reducible refine Blk.ext ?_ (by with_reducible assumption)) | (with_reducible refine Blk.out ?_ (by with_reducible assumption) ?ge; case ge => omega)))
  obtain ⟨qLw5_0, qLw5_1⟩ := blk2 bcLw5
  clear bcLw5
  have bcLw7 : Blk w_15 (w_7.heap.size) 83 [I x2.ts, .slice A_7_1 n_7_1 c_7_1] := (by repeat (first | (with_reducible exact BXLw7.out) | (with_reducible refine Blk.drew ?_) | (with_reducible refine Blk.ext ?_ (by with_reducible assumption)) | (with_reducible refine Blk.out ?_ (by with_reducible assumption) ?ge; case ge => omega)))
  obtain ⟨qLw7_0, qLw7_1⟩ := blk2 bcLw7
  clear bcLw7
  have bcLw8 : Blk w_15 (w_8.heap.size) 37 [.slice A_8_0 n_8_0 c_8_0, .slice A_8_1 n_8_1 c_8_1] := (by repeat (first | (with_reducible exact BXLw8.out) | (with_reducible refine Blk.drew ?_) | (with_reducible refine Blk.ext ?_ (by with_reducible assumption)) | (with_reducible refine Blk.out ?_ (by with_reducible assumption) ?ge; case ge => omega)))
  obtain ⟨qLw8_0, qLw8_1⟩ := blk2 bcLw8
  clear bcLw8
  go_wp2_with fail
  clear q0_0 q0_1 q2_0 q2_1 qLw4_0 qLw4_1 qLw5_0 qLw5_1 qLw7_0 qLw7_1 qLw8_0 qLw8_1
  have hcnt2_409 := BeaconStoreCnt_sum x2.stores
  have hcntr_410 := SegmentCnt_sum (buildDb x0 x1 x2).down
  have hcntr_411 := SegmentCnt_sum (buildDb x0 x1 x2).core
  have hres : ((0 + ((buildDb x0 x1 x2).down.map SegmentCnt).sum) + ((buildDb x0 x1 x2).core.map SegmentCnt).sum) ≤ 100000000000 := by have h : totS (fun y => y.hops.length) (buildDb x0 x1 x2).down + totS (fun y => y.hops.length) (buildDb x0 x1 x2).core ≤ 10 * totS (fun y => totS (fun y => y.seg.hops.length) y.beacons) x2.stores := buildDb_tot x0 x1 x2; omega
  refine (markTopology _ (x0) 1 w_4b.heap.size w_5.heap.size _ (by exact (by repeat (first | (with_reducible exact O_5.out) | (with_reducible refine TopologyO.drew ?_) | (with_reducible refine TopologyO.ext ?_ (by with_reducible assumption) ?ge; case ge => first | omega | (simp only [World.size_drew]; omega)) | (with_reducible refine TopologyO.out ?_ (by with_reducible assumption) ?ge; case ge => omega)))) (by omega) (by omega)).mono ?_
  rintro e w_16 ⟨rfl, o_16, e_16⟩
  have z_16 := e_16.size
  have O_16 := Lib.hid o_16; clear o_16
  have bc0 : Blk w_16 (w.heap.size) 25 [.slice A0_0 n0_0 c0_0, .slice A0_1 n0_1 c0_1] := (by repeat (first | (with_reducible exact BX0.out) | (with_reducible refine Blk.drew ?_) | (with_reducible refine Blk.ext ?_ (by with_reducible assumption)) | (with_reducible refine Blk.out ?_ (by with_reducible assumption) ?ge; case ge => omega)))
  obtain ⟨q0_0, q0_1⟩ := blk2 bc0
  clear bc0
  have bc2 : Blk w_16 (w.heap.size + 1) 75 [I x2.ts, .slice A2_1 n2_1 c2_1] := (by repeat (first | (with_reducible exact BX2.out) | (with_reducible refine Blk.drew ?_) | (with_reducible refine Blk.ext ?_ (by with_reducible assumption)) | (with_reducible refine Blk.out ?_ (by with_reducible assumption) ?ge; case ge => omega)))
  obtain ⟨q2_0, q2_1⟩ := blk2 bc2
  clear bc2
  have bcLw4 : Blk w_16 (gz_4) 37 [.slice A_4_0 n_4_0 c_4_0, .slice A_4_1 n_4_1 c_4_1] := (by repeat (first | (with_reducible exact BXLw4.out) | (with_reducible refine Blk.drew ?_) | (with_reducible refine Blk.ext ?_ (by with_reducible assumption)) | (with_reducible refine Blk.out ?_ (by with_reducible assumption) ?ge; case ge => omega)))
  obtain ⟨qLw4_0, qLw4_1⟩ := blk2 bcLw4
  clear bcLw4
  have bcLw5 : Blk w_16 (w_5.heap.size) 42 [.slice A_5_0 n_5_0 c_5_0, .slice A_5_1 n_5_1 c_5_1] := (by repeat (first | (with_reducible exact BXLw5.out) | (with_reducible refine Blk.drew ?_) | (with_reducible refine Blk.ext ?_ (by with_reducible assumption)) | (with_reducible refine Blk.out ?_ (by with_reducible assumption) ?ge; case ge => omega)))
  obtain ⟨qLw5_0, qLw5_1⟩ := blk2 bcLw5
  clear bcLw5
  have bcLw7 : Blk w_16 (w_7.heap.size) 83 [I x2.ts, .slice A_7_1 n_7_1 c_7_1] := (by repeat (first | (with_reducible exact BXLw7.out) | (with_reducible refine Blk.drew ?_) | (with_reducible refine Blk.ext ?_ (by with_reducible assumption)) | (with_reducible refine Blk.out ?_ (by with_reducible assumption) ?ge; case ge => omega)))
  obtain ⟨qLw7_0, qLw7_1⟩ := blk2 bcLw7
  clear bcLw7
  have bcLw8 : Blk w_16 (w_8.heap.size) 37 [.slice A_8_0 n_8_0 c_8_0, .slice A_8_1 n_8_1 c_8_1] := (by repeat (first | (with_reducible exact BXLw8.out) | (with_reducible refine Blk.drew ?_) | (with_reducible refine Blk.ext ?_ (by with_reducible assumption)) | (with_reducible refine Blk.out ?_ (by with_reducible assumption) ?ge; case ge => omega)))
  obtain ⟨qLw8_0, qLw8_1⟩ := blk2 bcLw8
  clear bcLw8
  go_wp2_with fail
  clear q0_0 q0_1 q2_0 q2_1 qLw4_0 qLw4_1 qLw5_0 qLw5_1 qLw7_0 qLw7_1 qLw8_0 qLw8_1
  refine (markPolicyS _ (x1) ((1 + 3 * x0.ases.length) + 5 * x0.links.length) w_5b.heap.size w_6.heap.size _ (by exact (by repeat (first | (with_reducible exact O_6.out) | (with_reducible refine Own.drew ?_) | (with_reducible refine Own.ext ?_ (by with_reducible assumption) ?ge; case ge => first | omega | (simp only [World.size_drew]; omega)) | (with_reducible refine Own.out ?_ (by with_reducible assumption) ?ge; case ge => omega)))) (by omega)).mono ?_
  rintro e w_17 ⟨rfl, o_17, e_17⟩
  have z_17 := e_17.size
  have O_17 := Lib.hid o_17; clear o_17
  have bc0 : Blk w_17 (w.heap.size) 25 [.slice A0_0 n0_0 c0_0, .slice A0_1 n0_1 c0_1] := (by repeat (first | (with_reducible exact BX0.out) | (with_reducible refine Blk.drew ?_) | (with_reducible refine Blk.ext ?_ (by with_reducible assumption)) | (with_reducible refine Blk.out ?_ (by with_reducible assumption) ?ge; case ge => omega)))
  obtain ⟨q0_0, q0_1⟩ := blk2 bc0
  clear bc0
  have bc2 : Blk w_17 (w.heap.size + 1) 75 [I x2.ts, .slice A2_1 n2_1 c2_1] := (by repeat (first | (with_reducible exact BX2.out) | (with_reducible refine Blk.drew ?_) | (with_reducible refine Blk.ext ?_ (by with_reducible assumption)) | (with_reducible refine Blk.out ?_ (by with_reducible assumption) ?ge; case ge => omega)))
  obtain ⟨q2_0, q2_1⟩ := blk2 bc2
  clear bc2
  have bcLw4 : Blk w_17 (gz_4) 37 [.slice A_4_0 n_4_0 c_4_0, .slice A_4_1 n_4_1 c_4_1] := (by repeat (first | (with_reducible exact BXLw4.out) | (with_reducible refine Blk.drew ?_) | (with_reducible refine Blk.ext ?_ (by with_reducible assumption)) | (with_reducible refine Blk.out ?_ (by with_reducible assumption) ?ge; case ge => omega)))
  obtain ⟨qLw4_0, qLw4_1⟩ := blk2 bcLw4
  clear bcLw4
  have bcLw5 : Blk w_17 (w_5.heap.size) 42 [.slice A_5_0 n_5_0 c_5_0, .slice A_5_1 n_5_1 c_5_1] := (by repeat (first | (with_reducible exact BXLw5.out) | (with_reducible refine Blk.drew ?_) | (with_reducible refine Blk.ext ?_ (by with_reducible assumption)) | (with_reducible refine Blk.out ?_ (by with_reducible assumption) ?ge; case ge => omega)))
  obtain ⟨qLw5_0, qLw5_1⟩ := blk2 bcLw5
  clear bcLw5
  have bcLw7 : Blk w_17 (w_7.heap.size) 83 [I x2.ts, .slice A_7_1 n_7_1 c_7_1] := (by repeat (first | (with_reducible exact BXLw7.out) | (with_reducible refine Blk.drew ?_) | (with_reducible refine Blk.ext ?_ (by with_reducible assumption)) | (with_reducible refine Blk.out ?_ (by with_reducible assumption) ?ge; case ge => omega)))
  obtain ⟨qLw7_0, qLw7_1⟩ := blk2 bcLw7
  clear bcLw7
  have bcLw8 : Blk w_17 (w_8.heap.size) 37 [.slice A_8_0 n_8_0 c_8_0, .slice A_8_1 n_8_1 c_8_1] := (by repeat (first | (with_reducible exact BXLw8.out) | (with_reducible refine Blk.drew ?_) | (with_reducible refine Blk.ext ?_ (by with_reducible assumption)) | (with_reducible refine Blk.out ?_ (by with_reducible assumption) ?ge; case ge => omega)))
  obtain ⟨qLw8_0, qLw8_1⟩ := blk2 bcLw8
  clear bcLw8
  go_wp2_with fail
  clear q0_0 q0_1 q2_0 q2_1 qLw4_0 qLw4_1 qLw5_0 qLw5_1 qLw7_0 qLw7_1 qLw8_0 qLw8_1
  refine (markBeaconing _ (x2) (((1 + 3 * x0.ases.length) + 5 * x0.links.length) + 4 * x1.length) w_6.heap.size w_7.heap.size _ (by exact (by repeat (first | (with_reducible exact O_7.out) | (with_reducible refine BeaconingO.drew ?_) | (with_reducible refine BeaconingO.ext ?_ (by with_reducible assumption) ?ge; case ge => first | omega | (simp only [World.size_drew]; omega)) | (with_reducible refine BeaconingO.out ?_ (by with_reducible assumption) ?ge; case ge => omega)))) (by omega) (by omega)).mono ?_
  rintro e w_18 ⟨rfl, o_18, e_18⟩
  have z_18 := e_18.size
  have O_18 := Lib.hid o_18; clear o_18
  have bc0 : Blk w_18 (w.heap.size) 25 [.slice A0_0 n0_0 c0_0, .slice A0_1 n0_1 c0_1] := (by repeat (first | (with_reducible exact BX0.out) | (with_reducible refine Blk.drew ?_) | (with_reducible refine Blk.ext ?_ (by with_reducible assumption)) | (with_reducible refine Blk.out ?_ (by with_reducible assumption) ?ge; case ge => omega)))
  obtain ⟨q0_0, q0_1⟩ := blk2 bc0
  clear bc0
  have bc2 : Blk w_18 (w.heap.size + 1) 75 [I x2.ts, .slice A2_1 n2_1 c2_1] := (by repeat (first | (with_reducible exact BX2.out) | (with_reducible refine Blk.drew ?_) | (with_reducible refine Blk.ext ?_ (by with_reducible assumption)) | (with_reducible refine Blk.out ?_ (by with_reducible assumption) ?ge; case ge => omega)))
  obtain ⟨q2_0, q2_1⟩ := blk2 bc2
  clear bc2
  have bcLw4 : Blk w_18 (gz_4) 37 [.slice A_4_0 n_4_0 c_4_0, .slice A_4_1 n_4_1 c_4_1] := (by repeat (first | (with_reducible exact BXLw4.out) | (with_reducible refine Blk.drew ?_) | (with_reducible refine Blk.ext ?_ (by with_reducible assumption)) | (with_reducible refine Blk.out ?_ (by with_reducible assumption) ?ge; case ge => omega)))
  obtain ⟨qLw4_0, qLw4_1⟩ := blk2 bcLw4
  clear bcLw4
  have bcLw5 : Blk w_18 (w_5.heap.size) 42 [.slice A_5_0 n_5_0 c_5_0, .slice A_5_1 n_5_1 c_5_1] := (by repeat (first | (with_reducible exact BXLw5.out) | (with_reducible refine Blk.drew ?_) | (with_reducible refine Blk.ext ?_ (by with_reducible assumption)) | (with_reducible refine Blk.out ?_ (by with_reducible assumption) ?ge; case ge => omega)))
  obtain ⟨qLw5_0, qLw5_1⟩ := blk2 bcLw5
  clear bcLw5
  have bcLw7 : Blk w_18 (w_7.heap.size) 83 [I x2.ts, .slice A_7_1 n_7_1 c_7_1] := (by repeat (first | (with_reducible exact BXLw7.out) | (with_reducible refine Blk.drew ?_) | (with_reducible refine Blk.ext ?_ (by with_reducible assumption)) | (with_reducible refine Blk.out ?_ (by with_reducible assumption) ?ge; case ge => omega)))
  obtain ⟨qLw7_0, qLw7_1⟩ := blk2 bcLw7
  clear bcLw7
  have bcLw8 : Blk w_18 (w_8.heap.size) 37 [.slice A_8_0 n_8_0 c_8_0, .slice A_8_1 n_8_1 c_8_1] := (by repeat (first | (with_reducible exact BXLw8.out) | (with_reducible refine Blk.drew ?_) | (with_reducible refine Blk.ext ?_ (by with_reducible assumption)) | (with_reducible refine Blk.out ?_ (by with_reducible assumption) ?ge; case ge => omega)))
  obtain ⟨qLw8_0, qLw8_1⟩ := blk2 bcLw8
  clear bcLw8
  go_wp2_with fail
  clear q0_0 q0_1 q2_0 q2_1 qLw4_0 qLw4_1 qLw5_0 qLw5_1 qLw7_0 qLw7_1 qLw8_0 qLw8_1
  refine (eqSegmentDatabase _ _ (buildDb x0 x1 x2) (buildDb x0 x1 x2) _ (by exact SegmentDatabaseQ_rd (lo := w_7b.heap.size) (hi := w_8.heap.size) (by repeat (first | (with_reducible exact O_8.out) | (with_reducible refine SegmentDatabaseQ.drew ?_) | (with_reducible refine SegmentDatabaseQ.ext ?_ (by with_reducible assumption) ?ge; case ge => first | omega | (simp only [World.size_drew]; omega)) | (with_reducible refine SegmentDatabaseQ.out ?_ (by with_reducible assumption) ?ge; case ge => omega))) (by omega)) (by exact S_4.out.ext xo)).mono ?_
  rintro e w_19 ⟨rfl, e_19⟩
  have z_19 := e_19.size
  try rw [decide_eq_true rfl]
  have bc0 : Blk w_19 (w.heap.size) 25 [.slice A0_0 n0_0 c0_0, .slice A0_1 n0_1 c0_1] := (by repeat (first | (with_reducible exact BX0.out) | (with_reducible refine Blk.drew ?_) | (with_reducible refine Blk.ext ?_ (by with_reducible assumption)) | (with_reducible refine Blk.out ?_ (by with_reducible assumption) ?ge; case ge => omega)))
  obtain ⟨q0_0, q0_1⟩ := blk2 bc0
  clear bc0
  have bc2 : Blk w_19 (w.heap.size + 1) 75 [I x2.ts, .slice A2_1 n2_1 c2_1] := (by repeat (first | (with_reducible exact BX2.out) | (with_reducible refine Blk.drew ?_) | (with_reducible refine Blk.ext ?_ (by with_reducible assumption)) | (with_reducible refine Blk.out ?_ (by with_reducible assumption) ?ge; case ge => omega)))
  obtain ⟨q2_0, q2_1⟩ := blk2 bc2
  clear bc2
  have bcLw4 : Blk w_19 (gz_4) 37 [.slice A_4_0 n_4_0 c_4_0, .slice A_4_1 n_4_1 c_4_1] := (by repeat (first | (with_reducible exact BXLw4.out) | (with_reducible refine Blk.drew ?_) | (with_reducible refine Blk.ext ?_ (by with_reducible assumption)) | (with_reducible refine Blk.out ?_ (by with_reducible assumption) ?ge; case ge => omega)))
  obtain ⟨qLw4_0, qLw4_1⟩ := blk2 bcLw4
  clear bcLw4
  have bcLw5 : Blk w_19 (w_5.heap.size) 42 [.slice A_5_0 n_5_0 c_5_0, .slice A_5_1 n_5_1 c_5_1] := (by repeat (first | (with_reducible exact BXLw5.out) | (with_reducible refine Blk.drew ?_) | (with_reducible refine Blk.ext ?_ (by with_reducible assumption)) | (with_reducible refine Blk.out ?_ (by with_reducible assumption) ?ge; case ge => omega)))
  obtain ⟨qLw5_0, qLw5_1⟩ := blk2 bcLw5
  clear bcLw5
  have bcLw7 : Blk w_19 (w_7.heap.size) 83 [I x2.ts, .slice A_7_1 n_7_1 c_7_1] := (by repeat (first | (with_reducible exact BXLw7.out) | (with_reducible refine Blk.drew ?_) | (with_reducible refine Blk.ext ?_ (by with_reducible assumption)) | (with_reducible refine Blk.out ?_ (by with_reducible assumption) ?ge; case ge => omega)))
  obtain ⟨qLw7_0, qLw7_1⟩ := blk2 bcLw7
  clear bcLw7
  have bcLw8 : Blk w_19 (w_8.heap.size) 37 [.slice A_8_0 n_8_0 c_8_0, .slice A_8_1 n_8_1 c_8_1] := (by repeat (first | (with_reducible exact BXLw8.out) | (with_reducible refine Blk.drew ?_) | (with_reducible refine Blk.ext ?_ (by with_reducible assumption)) | (with_reducible refine Blk.out ?_ (by with_reducible assumption) ?ge; case ge => omega)))
  obtain ⟨qLw8_0, qLw8_1⟩ := blk2 bcLw8
  clear bcLw8
  go_wp2_with fail
  clear q0_0 q0_1 q2_0 q2_1 qLw4_0 qLw4_1 qLw5_0 qLw5_1 qLw7_0 qLw7_1 qLw8_0 qLw8_1
  refine (markSegmentDatabaseQ _ (buildDb x0 x1 x2) 1 w_7b.heap.size w_8.heap.size _ (by exact (by repeat (first | (with_reducible exact O_8.out) | (with_reducible refine SegmentDatabaseQ.drew ?_) | (with_reducible refine SegmentDatabaseQ.ext ?_ (by with_reducible assumption) ?ge; case ge => first | omega | (simp only [World.size_drew]; omega)) | (with_reducible refine SegmentDatabaseQ.out ?_ (by with_reducible assumption) ?ge; case ge => omega)))) (by omega) (by omega)).mono ?_
  rintro e w_20 ⟨rfl, o_20, e_20⟩
  have z_20 := e_20.size
  have O_20 := Lib.hid o_20; clear o_20
  have bc0 : Blk w_20 (w.heap.size) 25 [.slice A0_0 n0_0 c0_0, .slice A0_1 n0_1 c0_1] := (by repeat (first | (with_reducible exact BX0.out) | (with_reducible refine Blk.drew ?_) | (with_reducible refine Blk.ext ?_ (by with_reducible assumption)) | (with_reducible refine Blk.out ?_ (by with_reducible assumption) ?ge; case ge => omega)))
  obtain ⟨q0_0, q0_1⟩ := blk2 bc0
  clear bc0
  have bc2 : Blk w_20 (w.heap.size + 1) 75 [I x2.ts, .slice A2_1 n2_1 c2_1] := (by repeat (first | (with_reducible exact BX2.out) | (with_reducible refine Blk.drew ?_) | (with_reducible refine Blk.ext ?_ (by with_reducible assumption)) | (with_reducible refine Blk.out ?_ (by with_reducible assumption) ?ge; case ge => omega)))
  obtain ⟨q2_0, q2_1⟩ := blk2 bc2
  clear bc2
  have bcLw4 : Blk w_20 (gz_4) 37 [.slice A_4_0 n_4_0 c_4_0, .slice A_4_1 n_4_1 c_4_1] := (by repeat (first | (with_reducible exact BXLw4.out) | (with_reducible refine Blk.drew ?_) | (with_reducible refine Blk.ext ?_ (by with_reducible assumption)) | (with_reducible refine Blk.out ?_ (by with_reducible assumption) ?ge; case ge => omega)))
  obtain ⟨qLw4_0, qLw4_1⟩ := blk2 bcLw4
  clear bcLw4
  have bcLw5 : Blk w_20 (w_5.heap.size) 42 [.slice A_5_0 n_5_0 c_5_0, .slice A_5_1 n_5_1 c_5_1] := (by repeat (first | (with_reducible exact BXLw5.out) | (with_reducible refine Blk.drew ?_) | (with_reducible refine Blk.ext ?_ (by with_reducible assumption)) | (with_reducible refine Blk.out ?_ (by with_reducible assumption) ?ge; case ge => omega)))
  obtain ⟨qLw5_0, qLw5_1⟩ := blk2 bcLw5
  clear bcLw5
  have bcLw7 : Blk w_20 (w_7.heap.size) 83 [I x2.ts, .slice A_7_1 n_7_1 c_7_1] := (by repeat (first | (with_reducible exact BXLw7.out) | (with_reducible refine Blk.drew ?_) | (with_reducible refine Blk.ext ?_ (by with_reducible assumption)) | (with_reducible refine Blk.out ?_ (by with_reducible assumption) ?ge; case ge => omega)))
  obtain ⟨qLw7_0, qLw7_1⟩ := blk2 bcLw7
  clear bcLw7
  have bcLw8 : Blk w_20 (w_8.heap.size) 37 [.slice A_8_0 n_8_0 c_8_0, .slice A_8_1 n_8_1 c_8_1] := (by repeat (first | (with_reducible exact BXLw8.out) | (with_reducible refine Blk.drew ?_) | (with_reducible refine Blk.ext ?_ (by with_reducible assumption)) | (with_reducible refine Blk.out ?_ (by with_reducible assumption) ?ge; case ge => omega)))
  obtain ⟨qLw8_0, qLw8_1⟩ := blk2 bcLw8
  clear bcLw8
  go_wp2_with fail
  clear q0_0 q0_1 q2_0 q2_1 qLw4_0 qLw4_1 qLw5_0 qLw5_1 qLw7_0 qLw7_1 qLw8_0 qLw8_1
  refine (heldSegmentDatabase _ (buildDb x0 x1 x2) 1 _ (by exact SegmentDatabaseQ_rd (lo := w_7b.heap.size) (hi := w_8.heap.size) (by repeat (first | (with_reducible exact O_20.out) | (with_reducible refine SegmentDatabaseQ.drew ?_) | (with_reducible refine SegmentDatabaseQ.ext ?_ (by with_reducible assumption) ?ge; case ge => first | omega | (simp only [World.size_drew]; omega)) | (with_reducible refine SegmentDatabaseQ.out ?_ (by with_reducible assumption) ?ge; case ge => omega))) (by omega)) (by omega)).mono ?_
  rintro e w_21 ⟨rfl, e_21⟩
  have z_21 := e_21.size
  have bc0 : Blk w_21 (w.heap.size) 25 [.slice A0_0 n0_0 c0_0, .slice A0_1 n0_1 c0_1] := (by repeat (first | (with_reducible exact BX0.out) | (with_reducible refine Blk.drew ?_) | (with_reducible refine Blk.ext ?_ (by with_reducible assumption)) | (with_reducible refine Blk.out ?_ (by with_reducible assumption) ?ge; case ge => omega)))
  obtain ⟨q0_0, q0_1⟩ := blk2 bc0
  clear bc0
  have bc2 : Blk w_21 (w.heap.size + 1) 75 [I x2.ts, .slice A2_1 n2_1 c2_1] := (by repeat (first | (with_reducible exact BX2.out) | (with_reducible refine Blk.drew ?_) | (with_reducible refine Blk.ext ?_ (by with_reducible assumption)) | (with_reducible refine Blk.out ?_ (by with_reducible assumption) ?ge; case ge => omega)))
  obtain ⟨q2_0, q2_1⟩ := blk2 bc2
  clear bc2
  have bcLw4 : Blk w_21 (gz_4) 37 [.slice A_4_0 n_4_0 c_4_0, .slice A_4_1 n_4_1 c_4_1] := (by repeat (first | (with_reducible exact BXLw4.out) | (with_reducible refine Blk.drew ?_) | (with_reducible refine Blk.ext ?_ (by with_reducible assumption)) | (with_reducible refine Blk.out ?_ (by with_reducible assumption) ?ge; case ge => omega)))
  obtain ⟨qLw4_0, qLw4_1⟩ := blk2 bcLw4
  clear bcLw4
  have bcLw5 : Blk w_21 (w_5.heap.size) 42 [.slice A_5_0 n_5_0 c_5_0, .slice A_5_1 n_5_1 c_5_1] := (by repeat (first | (with_reducible exact BXLw5.out) | (with_reducible refine Blk.drew ?_) | (with_reducible refine Blk.ext ?_ (by with_reducible assumption)) | (with_reducible refine Blk.out ?_ (by with_reducible assumption) ?ge; case ge => omega)))
  obtain ⟨qLw5_0, qLw5_1⟩ := blk2 bcLw5
  clear bcLw5
  have bcLw7 : Blk w_21 (w_7.heap.size) 83 [I x2.ts, .slice A_7_1 n_7_1 c_7_1] := (by repeat (first | (with_reducible exact BXLw7.out) | (with_reducible refine Blk.drew ?_) | (with_reducible refine Blk.ext ?_ (by with_reducible assumption)) | (with_reducible refine Blk.out ?_ (by with_reducible assumption) ?ge; case ge => omega)))
  obtain ⟨qLw7_0, qLw7_1⟩ := blk2 bcLw7
  clear bcLw7
  have bcLw8 : Blk w_21 (w_8.heap.size) 37 [.slice A_8_0 n_8_0 c_8_0, .slice A_8_1 n_8_1 c_8_1] := (by repeat (first | (with_reducible exact BXLw8.out) | (with_reducible refine Blk.drew ?_) | (with_reducible refine Blk.ext ?_ (by with_reducible assumption)) | (with_reducible refine Blk.out ?_ (by with_reducible assumption) ?ge; case ge => omega)))
  obtain ⟨qLw8_0, qLw8_1⟩ := blk2 bcLw8
  clear bcLw8
  go_wp2_with fail
  clear q0_0 q0_1 q2_0 q2_1 qLw4_0 qLw4_1 qLw5_0 qLw5_1 qLw7_0 qLw7_1 qLw8_0 qLw8_1
  have bc0 : Blk w_21 (w.heap.size) 25 [.slice A0_0 n0_0 c0_0, .slice A0_1 n0_1 c0_1] := (by repeat (first | (with_reducible exact BX0.out) | (with_reducible refine Blk.drew ?_) | (with_reducible refine Blk.ext ?_ (by with_reducible assumption)) | (with_reducible refine Blk.out ?_ (by with_reducible assumption) ?ge; case ge => omega)))
  have lt0 := bc0.lt
  obtain ⟨q0_0, q0_1⟩ := blk2 bc0
  clear bc0
  have bc2 : Blk w_21 (w.heap.size + 1) 75 [I x2.ts, .slice A2_1 n2_1 c2_1] := (by repeat (first | (with_reducible exact BX2.out) | (with_reducible refine Blk.drew ?_) | (with_reducible refine Blk.ext ?_ (by with_reducible assumption)) | (with_reducible refine Blk.out ?_ (by with_reducible assumption) ?ge; case ge => omega)))
  have lt2 := bc2.lt
  obtain ⟨q2_0, q2_1⟩ := blk2 bc2
  clear bc2
  have bcLw4 : Blk w_21 (gz_4) 37 [.slice A_4_0 n_4_0 c_4_0, .slice A_4_1 n_4_1 c_4_1] := (by repeat (first | (with_reducible exact BXLw4.out) | (with_reducible refine Blk.drew ?_) | (with_reducible refine Blk.ext ?_ (by with_reducible assumption)) | (with_reducible refine Blk.out ?_ (by with_reducible assumption) ?ge; case ge => omega)))
  have ltLw4 := bcLw4.lt
  obtain ⟨qLw4_0, qLw4_1⟩ := blk2 bcLw4
  clear bcLw4
  have bcLw5 : Blk w_21 (w_5.heap.size) 42 [.slice A_5_0 n_5_0 c_5_0, .slice A_5_1 n_5_1 c_5_1] := (by repeat (first | (with_reducible exact BXLw5.out) | (with_reducible refine Blk.drew ?_) | (with_reducible refine Blk.ext ?_ (by with_reducible assumption)) | (with_reducible refine Blk.out ?_ (by with_reducible assumption) ?ge; case ge => omega)))
  have ltLw5 := bcLw5.lt
  obtain ⟨qLw5_0, qLw5_1⟩ := blk2 bcLw5
  clear bcLw5
  have bcLw7 : Blk w_21 (w_7.heap.size) 83 [I x2.ts, .slice A_7_1 n_7_1 c_7_1] := (by repeat (first | (with_reducible exact BXLw7.out) | (with_reducible refine Blk.drew ?_) | (with_reducible refine Blk.ext ?_ (by with_reducible assumption)) | (with_reducible refine Blk.out ?_ (by with_reducible assumption) ?ge; case ge => omega)))
  have ltLw7 := bcLw7.lt
  obtain ⟨qLw7_0, qLw7_1⟩ := blk2 bcLw7
  clear bcLw7
  have bcLw8 : Blk w_21 (w_8.heap.size) 37 [.slice A_8_0 n_8_0 c_8_0, .slice A_8_1 n_8_1 c_8_1] := (by repeat (first | (with_reducible exact BXLw8.out) | (with_reducible refine Blk.drew ?_) | (with_reducible refine Blk.ext ?_ (by with_reducible assumption)) | (with_reducible refine Blk.out ?_ (by with_reducible assumption) ?ge; case ge => omega)))
  have ltLw8 := bcLw8.lt
  obtain ⟨qLw8_0, qLw8_1⟩ := blk2 bcLw8
  clear bcLw8
  refine wp_region_LT 8 (E := Ext) (w0 := w_21) (G := fun τ => match τ with | 97 => some (fun v W => TopologyV W.heap.size W v x0) | 99 => some (fun v W => PolicyS W.heap.size W v x1) | 101 => some (fun v W => BeaconingV W.heap.size W v x2) | 102 => some (fun v W => SegmentDatabaseQ w_21.heap.size W.heap.size W v (buildDb x0 x1 x2)) | 16 => some (fun v W => Zero1 37 w_21.heap.size [.slice none 0 0, .slice none 0 0] v W) | _ => none) Ext.refl (fun h k => Ext.trans h k) (by kernel_rfl) (by kernel_rfl) (by kernel_rfl) (by kernel_rfl) (by kernel_rfl) (by kernel_rfl) xg (Ext.drew (by exact Ext.refl _)) ?_
  simp only [List.take_succ_cons, List.take_zero]
  repeat' (first
    | ((with_reducible refine wpL_skip ?_ ?_ ?_)
       · rfl
       · rfl
       simp only [Act.put, List.setIfInBounds_toArray, List.set_cons_zero, List.set_cons_succ])
    | ((with_reducible refine wpL_quiet ?_ ?_ ?_ ?_)
       · rfl
       · rfl
       · rfl
       apply Exists.intro
       refine ⟨fun W hW hS => ?_, ?_⟩
       · have hC := (Ext.facts hW).1
         go_simp
         first | done | (with_reducible rfl) | (rw [if_neg (by omega)]; exact ⟨rfl, rfl⟩) | rfl
       first | (with_reducible refine wpL_boolT ?_) | (with_reducible refine wpL_boolF ?_) | (with_reducible refine wpL_bool (fun hB => ?_) (fun hB => ?_)) | skip
       all_goals simp only [Act.put, List.setIfInBounds_toArray, List.set_cons_zero, List.set_cons_succ])
    | ((refine wpL_grow ?_ rfl rfl ?_ ?_)
       · rfl
       · intro W hW hS
         have hC := (Ext.facts hW).1
         unfold growAt
         go_simp
         simp only [growUpon]
         first | (go_at_call 14; ((with_reducible refine Calls.mono (toTopology _ x0 _ (by exact H0.out.ext xo) (by omega)) ?_)); rintro e w9 ⟨v9, rfl, o9, e9⟩; exact ⟨_, rfl, e9, TopologyO_rd o9 (Nat.le_refl _)⟩) | (go_at_call 39; ((with_reducible refine Calls.mono (toPolicyS _ x1 _ (by exact H1.out.ext xo) (by omega)) ?_)); rintro e w9 ⟨v9, rfl, o9, e9⟩; exact ⟨_, rfl, e9, PolicySO_rd o9⟩) | (go_at_call 40; ((with_reducible refine Calls.mono (toBeaconing _ x2 _ (by exact H2.out.ext xo) (by omega)) ?_)); rintro e w9 ⟨v9, rfl, o9, e9⟩; exact ⟨_, rfl, e9, BeaconingO_rd o9 (Nat.le_refl _)⟩) | (go_at_call 41; have hs97 : TopologyV W.heap.size W _ x0 := hS 97 (by decide); have hs99 : PolicyS W.heap.size W _ x1 := hS 99 (by decide); have hs101 : BeaconingV W.heap.size W _ x2 := hS 101 (by decide); ((with_reducible refine Calls.mono (impl_BuildDatabase _ _ _ x0 x1 x2 _ hs97 hs99 hs101 (by exact hb2)) ?_)); rintro e w9 ⟨v9, rfl, o9, e9⟩; exact ⟨_, rfl, e9, SegmentDatabaseQ.more o9 (Ext.size hW) (Nat.le_refl _)⟩) | (exact ⟨xe, _, rfl, Ext.size (by assumption), Blk.new _ _ _⟩)
       intro v W' hW' hv
       first | (obtain ⟨A_22_0, n_22_0, c_22_0, A_22_1, n_22_1, c_22_1, rfl⟩ := SegmentDatabaseQ.shape hv) | (obtain ⟨g5, rfl, -⟩ := hv) | (obtain ⟨A5, n5, c5, rfl, -⟩ := id hv; clear hv) | (obtain ⟨A5, n5, c5, rfl⟩ := NO.slice hv) | skip
       all_goals simp only [Act.put, List.setIfInBounds_toArray, List.set_cons_zero, List.set_cons_succ]))
  refine wpL_nil (fun w_22 e_22 hL => ?_)
  have o_22 : SegmentDatabaseQ w_21.heap.size w_22.heap.size w_22 _ (buildDb x0 x1 x2) := hL 102
  have p_22 : Zero1 37 w_21.heap.size [.slice none 0 0, .slice none 0 0] _ w_22 := hL 16
  obtain ⟨gz_22, hgz, hgl_22, hbz⟩ := p_22
  have hge : gz_22 = g5 := by injection hgz with h; injection h with h; injection h with h1; exact h1.symm
  subst hge
  clear hgz
  clear hL
  clear q0_0 q0_1 q2_0 q2_1 qLw4_0 qLw4_1 qLw5_0 qLw5_1 qLw7_0 qLw7_1 qLw8_0 qLw8_1 lt0 lt2 ltLw4 ltLw5 ltLw7 ltLw8
  have OW_22 := Lib.hid (SegmentDatabaseQ.setT (SegmentDatabaseQ.setT o_22 hbz 0 (.slice A_22_0 n_22_0 c_22_0)) (Blk.set_ hbz 0 (.slice A_22_0 n_22_0 c_22_0)) 1 (.slice A_22_1 n_22_1 c_22_1))
  have BW_22 := Lib.hid (Blk.set_ (Blk.set_ hbz 0 (.slice A_22_0 n_22_0 c_22_0)) 1 (.slice A_22_1 n_22_1 c_22_1))
  have lz_22 := hbz.lt
  obtain ⟨yz_0, yz_1⟩ := blk2 hbz
  have fz_0 := hbz.frozen 0
  have fz_1 := hbz.frozen 1
  have z_22 := e_22.size
  clear hbz o_22
  have bc0 : Blk w_22 (w.heap.size) 25 [.slice A0_0 n0_0 c0_0, .slice A0_1 n0_1 c0_1] := (by repeat (first | (with_reducible exact BX0.out) | (with_reducible refine Blk.drew ?_) | (with_reducible refine Blk.ext ?_ (by with_reducible assumption)) | (with_reducible refine Blk.out ?_ (by with_reducible assumption) ?ge; case ge => omega)))
  have lt0 := bc0.lt
  obtain ⟨q0_0, q0_1⟩ := blk2 bc0
  clear bc0
  have bc2 : Blk w_22 (w.heap.size + 1) 75 [I x2.ts, .slice A2_1 n2_1 c2_1] := (by repeat (first | (with_reducible exact BX2.out) | (with_reducible refine Blk.drew ?_) | (with_reducible refine Blk.ext ?_ (by with_reducible assumption)) | (with_reducible refine Blk.out ?_ (by with_reducible assumption) ?ge; case ge => omega)))
  have lt2 := bc2.lt
  obtain ⟨q2_0, q2_1⟩ := blk2 bc2
  clear bc2
  have bcLw4 : Blk w_22 (gz_4) 37 [.slice A_4_0 n_4_0 c_4_0, .slice A_4_1 n_4_1 c_4_1] := (by repeat (first | (with_reducible exact BXLw4.out) | (with_reducible refine Blk.drew ?_) | (with_reducible refine Blk.ext ?_ (by with_reducible assumption)) | (with_reducible refine Blk.out ?_ (by with_reducible assumption) ?ge; case ge => omega)))
  have ltLw4 := bcLw4.lt
  obtain ⟨qLw4_0, qLw4_1⟩ := blk2 bcLw4
  clear bcLw4
  have bcLw5 : Blk w_22 (w_5.heap.size) 42 [.slice A_5_0 n_5_0 c_5_0, .slice A_5_1 n_5_1 c_5_1] := (by repeat (first | (with_reducible exact BXLw5.out) | (with_reducible refine Blk.drew ?_) | (with_reducible refine Blk.ext ?_ (by with_reducible assumption)) | (with_reducible refine Blk.out ?_ (by with_reducible assumption) ?ge; case ge => omega)))
  have ltLw5 := bcLw5.lt
  obtain ⟨qLw5_0, qLw5_1⟩ := blk2 bcLw5
  clear bcLw5
  have bcLw7 : Blk w_22 (w_7.heap.size) 83 [I x2.ts, .slice A_7_1 n_7_1 c_7_1] := (by repeat (first | (with_reducible exact BXLw7.out) | (with_reducible refine Blk.drew ?_) | (with_reducible refine Blk.ext ?_ (by with_reducible assumption)) | (with_reducible refine Blk.out ?_ (by with_reducible assumption) ?ge; case ge => omega)))
  have ltLw7 := bcLw7.lt
  obtain ⟨qLw7_0, qLw7_1⟩ := blk2 bcLw7
  clear bcLw7
  have bcLw8 : Blk w_22 (w_8.heap.size) 37 [.slice A_8_0 n_8_0 c_8_0, .slice A_8_1 n_8_1 c_8_1] := (by repeat (first | (with_reducible exact BXLw8.out) | (with_reducible refine Blk.drew ?_) | (with_reducible refine Blk.ext ?_ (by with_reducible assumption)) | (with_reducible refine Blk.out ?_ (by with_reducible assumption) ?ge; case ge => omega)))
  have ltLw8 := bcLw8.lt
  obtain ⟨qLw8_0, qLw8_1⟩ := blk2 bcLw8
  clear bcLw8
  simp only [List.drop_succ_cons, List.drop_zero]
  go_wp2_with fail
  clear q0_0 q0_1 q2_0 q2_1 qLw4_0 qLw4_1 qLw5_0 qLw5_1 qLw7_0 qLw7_1 qLw8_0 qLw8_1 lt0 lt2 ltLw4 ltLw5 ltLw7 ltLw8
  clear yz_0 yz_1 fz_0 fz_1
  have bxLw22 : Blk ((w_22.setCell ⟨gz_22, 0, none⟩ (.slice A_22_0 n_22_0 c_22_0)).setCell ⟨gz_22, 1, none⟩ (.slice A_22_1 n_22_1 c_22_1)) gz_22 37 [.slice A_22_0 n_22_0 c_22_0, .slice A_22_1 n_22_1 c_22_1] := by simpa using BW_22.out
  have BXLw22 := Lib.hid bxLw22; clear bxLw22
  have ewLw22 : Ext w_21 ((w_22.setCell ⟨gz_22, 0, none⟩ (.slice A_22_0 n_22_0 c_22_0)).setCell ⟨gz_22, 1, none⟩ (.slice A_22_1 n_22_1 c_22_1)) := xe
  have zwLw22 : ((w_22.setCell ⟨gz_22, 0, none⟩ (.slice A_22_0 n_22_0 c_22_0)).setCell ⟨gz_22, 1, none⟩ (.slice A_22_1 n_22_1 c_22_1)).heap.size = w_22.heap.size := by simp only [World.size_setCell]
  have O_22 : Hid (SegmentDatabaseQ w_21.heap.size ((w_22.setCell ⟨gz_22, 0, none⟩ (.slice A_22_0 n_22_0 c_22_0)).setCell ⟨gz_22, 1, none⟩ (.slice A_22_1 n_22_1 c_22_1)).heap.size ((w_22.setCell ⟨gz_22, 0, none⟩ (.slice A_22_0 n_22_0 c_22_0)).setCell ⟨gz_22, 1, none⟩ (.slice A_22_1 n_22_1 c_22_1)) (.agg #[.slice A_22_0 n_22_0 c_22_0, .slice A_22_1 n_22_1 c_22_1]) (buildDb x0 x1 x2)) := by unfold Hid; have h := OW_22.out; rw [← zwLw22] at h; exact h
  have ZWLw22 := Lib.hid zwLw22; have zvLw22 : w_22.heap.size ≤ ((w_22.setCell ⟨gz_22, 0, none⟩ (.slice A_22_0 n_22_0 c_22_0)).setCell ⟨gz_22, 1, none⟩ (.slice A_22_1 n_22_1 c_22_1)).heap.size := by omega
  have zxLw22 : ((w_22.setCell ⟨gz_22, 0, none⟩ (.slice A_22_0 n_22_0 c_22_0)).setCell ⟨gz_22, 1, none⟩ (.slice A_22_1 n_22_1 c_22_1)).heap.size ≤ w_22.heap.size := by omega
  clear zwLw22 OW_22 BW_22 ZWLw22
  clear e_22
  generalize ((w_22.setCell ⟨gz_22, 0, none⟩ (.slice A_22_0 n_22_0 c_22_0)).setCell ⟨gz_22, 1, none⟩ (.slice A_22_1 n_22_1 c_22_1)) = w_22b at *
  refine (eqSegmentDatabase _ _ (buildDb x0 x1 x2) (buildDb x0 x1 x2) _ (by exact SegmentDatabaseQ_rd (lo := w_21.heap.size) (hi := w_22b.heap.size) (by repeat (first | (with_reducible exact O_22.out) | (with_reducible refine SegmentDatabaseQ.drew ?_) | (with_reducible refine SegmentDatabaseQ.ext ?_ (by with_reducible assumption) ?ge; case ge => first | omega | (simp only [World.size_drew]; omega)) | (with_reducible refine SegmentDatabaseQ.out ?_ (by with_reducible assumption) ?ge; case ge => omega))) (by omega)) (by exact S_4.out.ext xo)).mono ?_
  rintro e w_23 ⟨rfl, e_23⟩
  have z_23 := e_23.size
  try rw [decide_eq_true rfl]
  have bc0 : Blk w_23 (w.heap.size) 25 [.slice A0_0 n0_0 c0_0, .slice A0_1 n0_1 c0_1] := (by repeat (first | (with_reducible exact BX0.out) | (with_reducible refine Blk.drew ?_) | (with_reducible refine Blk.ext ?_ (by with_reducible assumption)) | (with_reducible refine Blk.out ?_ (by with_reducible assumption) ?ge; case ge => omega)))
  obtain ⟨q0_0, q0_1⟩ := blk2 bc0
  clear bc0
  have bc2 : Blk w_23 (w.heap.size + 1) 75 [I x2.ts, .slice A2_1 n2_1 c2_1] := (by repeat (first | (with_reducible exact BX2.out) | (with_reducible refine Blk.drew ?_) | (with_reducible refine Blk.ext ?_ (by with_reducible assumption)) | (with_reducible refine Blk.out ?_ (by with_reducible assumption) ?ge; case ge => omega)))
  obtain ⟨q2_0, q2_1⟩ := blk2 bc2
  clear bc2
  have bcLw4 : Blk w_23 (gz_4) 37 [.slice A_4_0 n_4_0 c_4_0, .slice A_4_1 n_4_1 c_4_1] := (by repeat (first | (with_reducible exact BXLw4.out) | (with_reducible refine Blk.drew ?_) | (with_reducible refine Blk.ext ?_ (by with_reducible assumption)) | (with_reducible refine Blk.out ?_ (by with_reducible assumption) ?ge; case ge => omega)))
  obtain ⟨qLw4_0, qLw4_1⟩ := blk2 bcLw4
  clear bcLw4
  have bcLw5 : Blk w_23 (w_5.heap.size) 42 [.slice A_5_0 n_5_0 c_5_0, .slice A_5_1 n_5_1 c_5_1] := (by repeat (first | (with_reducible exact BXLw5.out) | (with_reducible refine Blk.drew ?_) | (with_reducible refine Blk.ext ?_ (by with_reducible assumption)) | (with_reducible refine Blk.out ?_ (by with_reducible assumption) ?ge; case ge => omega)))
  obtain ⟨qLw5_0, qLw5_1⟩ := blk2 bcLw5
  clear bcLw5
  have bcLw7 : Blk w_23 (w_7.heap.size) 83 [I x2.ts, .slice A_7_1 n_7_1 c_7_1] := (by repeat (first | (with_reducible exact BXLw7.out) | (with_reducible refine Blk.drew ?_) | (with_reducible refine Blk.ext ?_ (by with_reducible assumption)) | (with_reducible refine Blk.out ?_ (by with_reducible assumption) ?ge; case ge => omega)))
  obtain ⟨qLw7_0, qLw7_1⟩ := blk2 bcLw7
  clear bcLw7
  have bcLw8 : Blk w_23 (w_8.heap.size) 37 [.slice A_8_0 n_8_0 c_8_0, .slice A_8_1 n_8_1 c_8_1] := (by repeat (first | (with_reducible exact BXLw8.out) | (with_reducible refine Blk.drew ?_) | (with_reducible refine Blk.ext ?_ (by with_reducible assumption)) | (with_reducible refine Blk.out ?_ (by with_reducible assumption) ?ge; case ge => omega)))
  obtain ⟨qLw8_0, qLw8_1⟩ := blk2 bcLw8
  clear bcLw8
  have bcLw22 : Blk w_23 (gz_22) 37 [.slice A_22_0 n_22_0 c_22_0, .slice A_22_1 n_22_1 c_22_1] := (by repeat (first | (with_reducible exact BXLw22.out) | (with_reducible refine Blk.drew ?_) | (with_reducible refine Blk.ext ?_ (by with_reducible assumption)) | (with_reducible refine Blk.out ?_ (by with_reducible assumption) ?ge; case ge => omega)))
  obtain ⟨qLw22_0, qLw22_1⟩ := blk2 bcLw22
  clear bcLw22
  go_wp2_with fail
  clear q0_0 q0_1 q2_0 q2_1 qLw4_0 qLw4_1 qLw5_0 qLw5_1 qLw7_0 qLw7_1 qLw8_0 qLw8_1 qLw22_0 qLw22_1
  refine (heldSegmentDatabase _ (buildDb x0 x1 x2) 1 _ (by exact SegmentDatabaseQ_rd (lo := w_7b.heap.size) (hi := w_8.heap.size) (by repeat (first | (with_reducible exact O_20.out) | (with_reducible refine SegmentDatabaseQ.drew ?_) | (with_reducible refine SegmentDatabaseQ.ext ?_ (by with_reducible assumption) ?ge; case ge => first | omega | (simp only [World.size_drew]; omega)) | (with_reducible refine SegmentDatabaseQ.out ?_ (by with_reducible assumption) ?ge; case ge => omega))) (by omega)) (by omega)).mono ?_
  rintro e w_24 ⟨rfl, e_24⟩
  have z_24 := e_24.size
  have bc0 : Blk w_24 (w.heap.size) 25 [.slice A0_0 n0_0 c0_0, .slice A0_1 n0_1 c0_1] := (by repeat (first | (with_reducible exact BX0.out) | (with_reducible refine Blk.drew ?_) | (with_reducible refine Blk.ext ?_ (by with_reducible assumption)) | (with_reducible refine Blk.out ?_ (by with_reducible assumption) ?ge; case ge => omega)))
  obtain ⟨q0_0, q0_1⟩ := blk2 bc0
  clear bc0
  have bc2 : Blk w_24 (w.heap.size + 1) 75 [I x2.ts, .slice A2_1 n2_1 c2_1] := (by repeat (first | (with_reducible exact BX2.out) | (with_reducible refine Blk.drew ?_) | (with_reducible refine Blk.ext ?_ (by with_reducible assumption)) | (with_reducible refine Blk.out ?_ (by with_reducible assumption) ?ge; case ge => omega)))
  obtain ⟨q2_0, q2_1⟩ := blk2 bc2
  clear bc2
  have bcLw4 : Blk w_24 (gz_4) 37 [.slice A_4_0 n_4_0 c_4_0, .slice A_4_1 n_4_1 c_4_1] := (by repeat (first | (with_reducible exact BXLw4.out) | (with_reducible refine Blk.drew ?_) | (with_reducible refine Blk.ext ?_ (by with_reducible assumption)) | (with_reducible refine Blk.out ?_ (by with_reducible assumption) ?ge; case ge => omega)))
  obtain ⟨qLw4_0, qLw4_1⟩ := blk2 bcLw4
  clear bcLw4
  have bcLw5 : Blk w_24 (w_5.heap.size) 42 [.slice A_5_0 n_5_0 c_5_0, .slice A_5_1 n_5_1 c_5_1] := (by repeat (first | (with_reducible exact BXLw5.out) | (with_reducible refine Blk.drew ?_) | (with_reducible refine Blk.ext ?_ (by with_reducible assumption)) | (with_reducible refine Blk.out ?_ (by with_reducible assumption) ?ge; case ge => omega)))
  obtain ⟨qLw5_0, qLw5_1⟩ := blk2 bcLw5
  clear bcLw5
  have bcLw7 : Blk w_24 (w_7.heap.size) 83 [I x2.ts, .slice A_7_1 n_7_1 c_7_1] := (by repeat (first | (with_reducible exact BXLw7.out) | (with_reducible refine Blk.drew ?_) | (with_reducible refine Blk.ext ?_ (by with_reducible assumption)) | (with_reducible refine Blk.out ?_ (by with_reducible assumption) ?ge; case ge => omega)))
  obtain ⟨qLw7_0, qLw7_1⟩ := blk2 bcLw7
  clear bcLw7
  have bcLw8 : Blk w_24 (w_8.heap.size) 37 [.slice A_8_0 n_8_0 c_8_0, .slice A_8_1 n_8_1 c_8_1] := (by repeat (first | (with_reducible exact BXLw8.out) | (with_reducible refine Blk.drew ?_) | (with_reducible refine Blk.ext ?_ (by with_reducible assumption)) | (with_reducible refine Blk.out ?_ (by with_reducible assumption) ?ge; case ge => omega)))
  obtain ⟨qLw8_0, qLw8_1⟩ := blk2 bcLw8
  clear bcLw8
  have bcLw22 : Blk w_24 (gz_22) 37 [.slice A_22_0 n_22_0 c_22_0, .slice A_22_1 n_22_1 c_22_1] := (by repeat (first | (with_reducible exact BXLw22.out) | (with_reducible refine Blk.drew ?_) | (with_reducible refine Blk.ext ?_ (by with_reducible assumption)) | (with_reducible refine Blk.out ?_ (by with_reducible assumption) ?ge; case ge => omega)))
  obtain ⟨qLw22_0, qLw22_1⟩ := blk2 bcLw22
  clear bcLw22
  go_wp2_with fail
  clear q0_0 q0_1 q2_0 q2_1 qLw4_0 qLw4_1 qLw5_0 qLw5_1 qLw7_0 qLw7_1 qLw8_0 qLw8_1 qLw22_0 qLw22_1
  go_ret
  exact ⟨rfl, xo⟩
set_option maxRecDepth 100000 in
theorem lifted (os : Os) (started : os.Started) (H : Type) (enc : TypeId × Value → H) :
    ReturnsInHanded {} Tryz.checked os 5 .any (Rows.fnExactBuildDatabaseSpec.pre6 enc Tryz.prog Tryz.f5 Rows.fnExactBuildDatabaseRow.domain false) (Rows.fnExactBuildDatabaseSpec.post enc Tryz.prog Tryz.f5 false true false false) := by
  refine returnsInHanded_of_change (C := Tryz.checked) own started (by kernel_rfl) Tryz.func5
    (ChangeSpec.witness6 (enc := enc) (C := Tryz.checked) false ⟨#[], #[.agg #[.slice none 0 0, .slice none 0 0], .slice none 0 0, .agg #[.int .i64 0, .slice none 0 0]], []⟩ 8 (by kernel_rfl) (by kernel_rfl) (by kernel_rfl) (by kernel_rfl)) ?_
  intro W base args ds gs before hval0 hW hcnd _
  have hval : ∀ (j : Nat) t v, Tryz.f5.params[j]? = some t → args[j]? = some v → Value.okWide Tryz.prog W .any base t v := hval0
  have hW' := hW
  obtain ⟨p, q, hA0, hV, rfl, hfz, hnd⟩ := hW
  have hA : DataW.TrodAll enc Tryz.prog W 0 (fun _ => true) true Tryz.f5.params.toList args.toList ds p := hA0
  rw [Tryz.params5] at hA hval
  obtain ⟨v0, vs0, d0, ds0, p0, q0, hargs, rfl, rfl, h0, r0⟩ := trodAll_cons hA
  obtain ⟨v1, vs1, d1, ds1, p1, q1, rfl, rfl, rfl, h1, r1⟩ := trodAll_cons r0
  obtain ⟨v2, vs2, d2, ds2, p2, q2, rfl, rfl, rfl, h2, r2⟩ := trodAll_cons r1
  obtain ⟨rfl, rfl, rfl⟩ := trodAll_nil r2
  obtain rfl : args = #[v0, v1, v2] := by cases args; simp_all
  obtain ⟨rfl, rfl⟩ := trodVars_none hV
  have k0 := h0
  have lt0 : ∀ x ∈ p0, x.block < W.heap.size := by obtain ⟨m, hm⟩ := k0; exact DataW.trod_lt m _ _ _ hm
  obtain ⟨cs0, rfl, _⟩ := okWide_struct Tryz.underlying25 (hval 0 25 v0 rfl rfl)
  obtain ⟨x0, y0⟩ : ∃ d, TopologyV W.heap.size W (.agg cs0) d := by
    obtain ⟨fuel, hf⟩ := h0
    obtain ⟨d, A0, n0, c0, A1, n1, c1, e, s0, s1⟩ := read_Topology hf
    have e1 : cs0 = #[.slice A0 n0 c0, .slice A1 n1 c1] := by cases cs0; simpa [Value.cells] using e
    exact ⟨d, ⟨_, _, _, _, _, _, by rw [e1], s0, s1⟩⟩
  have k1 := h1
  have lt1 : ∀ x ∈ p1, x.block < W.heap.size := by obtain ⟨m, hm⟩ := k1; exact DataW.trod_lt m _ _ _ hm
  obtain ⟨a1, len1, cap1, rfl⟩ := okWide_slice Tryz.underlying72 (hval 1 72 v1 rfl rfl)
  obtain ⟨x1, y1⟩ : ∃ ds, PolicyS W.heap.size W (.slice a1 len1 cap1) ds := by
    obtain ⟨fuel, hf⟩ := h1
    obtain ⟨A, n, c, ds, e, hs⟩ := read_PolicyS hf
    simp only [Value.cells, List.cons.injEq, and_true] at e
    rw [← e] at hs
    exact ⟨ds, hs⟩
  have k2 := h2
  have lt2 : ∀ x ∈ p2, x.block < W.heap.size := by obtain ⟨m, hm⟩ := k2; exact DataW.trod_lt m _ _ _ hm
  obtain ⟨cs2, rfl, _⟩ := okWide_struct Tryz.underlying75 (hval 2 75 v2 rfl rfl)
  obtain ⟨x2, y2⟩ : ∃ d, BeaconingV W.heap.size W (.agg cs2) d := by
    obtain ⟨fuel, hf⟩ := h2
    obtain ⟨d, A1, n1, c1, e, s1⟩ := read_Beaconing hf
    have e1 : cs2 = #[I d.ts, .slice A1 n1 c1] := by cases cs2; simpa [Value.cells] using e
    exact ⟨d, ⟨_, _, _, by rw [e1], s1⟩⟩
  clear hA0 hval0
  refine (walk _ x0 _ x1 _ x2 W y0 y1 y2).mono fun e W' ⟨he, bel⟩ => ?_
  subst he
  exact ⟨_, rfl, _, _, _, [], _, [], hW', trodAll_mk1 (shut_bool Tryz.underlying4 _), (trodAll_cons_mk (Below.trod laidOut (by kernel_rfl) (of_decide_eq_true (by kernel_rfl)) k0 bel.below lt0) (trodAll_cons_mk (Below.trod laidOut (by kernel_rfl) (of_decide_eq_true (by kernel_rfl)) k1 bel.below lt1) (trodAll_cons_mk (Below.trod laidOut (by kernel_rfl) (of_decide_eq_true (by kernel_rfl)) k2 bel.below lt2) trodAll_mk0))), rfl, bel.below.frame _, fun h => by cases h⟩

theorem and2 {a b : Bool} (h : a = true) (k : b = true) : (a && b) = true := by rw [h, k]; rfl
set_option maxRecDepth 100000 in
set_option maxHeartbeats 4000000 in
theorem over : Rows.fnExactBuildDatabaseRow.holds Tryz.pinned (OpenSpec.ofChange Rows.fnExactBuildDatabaseSpec) :=
  OpenClaim.holds_of_wide 5 Tryz.f5 rfl rfl rfl rfl rfl rfl rfl ⟨rfl, rfl, rfl, rfl, rfl⟩ rfl rfl rfl rfl rfl (by as_aux_lemma => kernel_rfl) Tryz.func5 (by unfold joinedFacts; (repeat' (with_reducible refine and2 ?_ ?_)); (all_goals (as_aux_lemma => kernel_rfl)))
    (of_decide_eq_true (by as_aux_lemma => kernel_rfl)) (by unfold Func.isWrapper; first | (rw [if_pos (by decide +kernel)]; as_aux_lemma => kernel_rfl) | (rw [if_neg (by decide +kernel)]; exact ⟨rfl, rfl⟩))
    (fun os started H enc _ => lifted os started H enc)

/-- The statement. -/
theorem proved : Rows.FnExactBuildDatabaseSaid := over
#print axioms proved
end Go.Proofs.YtdcfidlngbhpcaaGreat.lawBuildDatabase
