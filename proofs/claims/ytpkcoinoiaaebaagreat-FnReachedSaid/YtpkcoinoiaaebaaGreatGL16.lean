/- Contracts of the program's and the reference's functions on the segment database: HasSegment. -/
import Derived.Test.YtpkcoinoiaaebaaGreatGL9
import Derived.Test.YtpkcoinoiaaebaaGreatGHD
namespace Go.Proofs.YtpkcoinoiaaebaaGreat
open Go.RowKit
set_option linter.unusedVariables false
end Go.Proofs.YtpkcoinoiaaebaaGreat
namespace Go.Proofs.YtpkcoinoiaaebaaGreat
open Go.RowKit
set_option linter.unusedVariables false
abbrev segTot (l : List DSegment) : Nat := totS (fun u => u.hops.length) l
def downSegs (k : DSegmentDatabase) (r : Int) : List DSegment := k.down.filter fun s => lastAS s == r
set_option maxRecDepth 100000 in
set_option maxHeartbeats 1000000 in
theorem impl_DownSegments (vx : Value) (r : Int) (x : DSegmentDatabase) (w : World) (hx : SegmentDatabaseV w.heap.size w vx x) (hn : segTot x.down + segTot x.core ≤ 1048576) :
    Calls Tryz.prog 8 #[vx, I r] w fun e w' => ∃ v', e = .returned v' ∧ SegmentSO w.heap.size w'.heap.size w' v' (downSegs x r) ∧ Ext w w' := by
  obtain ⟨Ax_0, nx_0, cx_0, Ax_1, nx_1, cx_1, rfl, sx_0, sx_1⟩ := id hx
  obtain ⟨lx_0, kx_0, mx_0⟩ := sx_0.len
  subst lx_0
  unfold maxLen at mx_0
  obtain ⟨lx_1, kx_1, mx_1⟩ := sx_1.len
  subst lx_1
  unfold maxLen at mx_1
  have Rx := Lib.hid hx; clear hx
  have Sx_0 := Lib.hid sx_0; clear sx_0
  have Sx_1 := Lib.hid sx_1; clear sx_1
  have hn : totS (fun u : DSegment => u.hops.length) x.down + totS (fun u : DSegment => u.hops.length) x.core ≤ 1048576 := hn
  have hdl := totS_len (fun u : DSegment => u.hops.length) x.down
  go_enter Tryz.func8, Tryz.ntmps8
  go_wp2_with fail
  first | refine name_wp ?_ ?_ ?_ | refine name_calls ?_ ?_ ?_
  exact (fun W => Ext w W ∧ Blk W (w.heap.size) 37 [.slice Ax_0 x.down.length cx_0, .slice Ax_1 x.core.length cx_1])
  exact ⟨xe, xb⟩
  rintro w0 ⟨ew0, bx⟩
  have lx := bx.lt
  obtain ⟨px_0, px_1⟩ := blk2 bx
  have Bx := Lib.hid bx; clear bx
  go_loopw [5, 11] (fun v i wr => ∃ k : Nat, k ≤ x.down.length ∧ i = I k ∧ SegmentSO w0.heap.size wr.heap.size wr v ((x.down.take k).filter (fun s => lastAS s == r)) ∧ Ext w0 wr) (fun _ i _ => x.down.length - (intOf i).toNat)
  case atStart => exact ⟨0, by omega, rfl, NO.nil _ _ _ _ _ _, xe⟩
  case round =>
    obtain ⟨k, hk, rfl, hno, he⟩ := hrel
    have HNO := Lib.hid hno; clear hno
    have zr := he.size
    have bx := Bx.out.ext (w' := wr) xe
    have lx := bx.lt
    obtain ⟨px_0, px_1⟩ := blk2 bx
    clear bx
    by_cases hlt : k < x.down.length
    · obtain ⟨b, off, rfl, hb, hkl, hc⟩ := (Sx_0.out.ext (w' := wr) xe).at_ hlt
      have hyl := totS_get (fun u : DSegment => u.hops.length) x.down k hkl
      have HX := Lib.hid (filter_snoc (fun s => lastAS s == r) x.down k hkl)
      have hfl := filter_take_len (fun s => lastAS s == r) x.down k
      have hyl : x.down[k].hops.length ≤ totS (fun u : DSegment => u.hops.length) x.down := hyl
      generalize x.down[k] = u at *
      generalize hds : (x.down.take k).filter (fun s => lastAS s == r) = ds at *
      have HDS := Lib.hid hds; clear hds
      have i0 : (0 : Int) ≤ (k : Int) := by omega
      have i1 : (k : Int) < (x.down.length : Int) := by omega
      obtain ⟨Au_2, nu_2, cu_2, hu_0, hu_1, hu_2, su_2⟩ := hc
      obtain ⟨lu_2, ku_2, mu_2⟩ := su_2.len
      subst lu_2
      unfold maxLen at mu_2
      have Ru : Hid (SegmentV wr.heap.size wr (.agg #[I u.ts, I u.beta, .slice Au_2 u.hops.length cu_2]) u) := ⟨_, _, _, rfl, su_2⟩
      have Su_2 := Lib.hid su_2; clear su_2
      by_cases h0 : lastAS u = r
      · have HS : Hid ((x.down.take (k + 1)).filter (fun s => lastAS s == r) = ds ++ [u]) := by unfold Hid; rw [HX.out]; simp [*]
        go_wp2_with fail
        first | refine name_wp ?_ ?_ ?_ | refine name_calls ?_ ?_ ?_
        exact (fun W => Ext wr W ∧ Blk W (wr.heap.size) 57 [I u.ts, I u.beta, .slice Au_2 u.hops.length cu_2])
        exact ⟨xe, xb⟩
        rintro w3 ⟨ew3, bu⟩
        have lu := bu.lt
        obtain ⟨pu_0, pu_1, pu_2⟩ := blk3 bu
        have Bu := Lib.hid bu; clear bu
        have bx := Bx.out.ext (w' := w3) xe
        have lx := bx.lt
        obtain ⟨px_0, px_1⟩ := blk2 bx
        clear bx
        refine (impl_LastAS _ (u) _ (by exact Ru.out.ext xe)).mono ?_
        rintro e w4a ⟨rfl, ew4a⟩
        have bx := Bx.out.ext (w' := w4a) xe
        have lx := bx.lt
        obtain ⟨px_0, px_1⟩ := blk2 bx
        clear bx
        have bu := Bu.out.ext (w' := w4a) xe
        have lu := bu.lt
        obtain ⟨pu_0, pu_1, pu_2⟩ := blk3 bu
        clear bu
        rw [h0]
        clear h0
        go_wp2_with fail
        refine (impl_copySegment _ u _ (by exact Ru.out.ext xe) (by omega)).mono ?_
        rintro e w5 ⟨v5, rfl, o5, ew5⟩
        have z4 : wr.heap.size ≤ w4a.heap.size := Ext.size xe
        obtain ⟨a5, k5, q5, fp5, hv5, hoc5, hn5, hb5⟩ := o5.to_oc
        subst hv5
        have HOC5 := Lib.hid hoc5; have HN5 := Lib.hid hn5; have HB5 := Lib.hid hb5; clear o5 hoc5 hn5 hb5
        have z5 := ew5.size
        go_wp2_with (at_builtin; refine hold ?_)
        refine unhold (wpList_push (OC := SegmentOC) w0 SegmentOC.keeps SegmentOC.one rfl (.tmp 19) (.tmp 22) _ rfl 57 _ 3 40 Tryz.underlying35 info_Segment rfl (by omega) _ (ds) [u] wr.heap.size rfl _ 1 1 _ fp5 rfl
          (by exact NO.at' SegmentOC.keeps HNO.out xe) (by simp only [World.size_alloc]; omega) (row_one _ _ _ _ _ (by first | rfl | simp) rfl) (OL.one (SegmentOC.keeps _ _ _ _ _ (fun b hb hs => Ext.same (a := w5) xe b hs) HOC5.out) rfl) HN5.out (fun b hb => ⟨(by have := HB5.out b hb; omega), (by have := HB5.out b hb; simp only [World.size_alloc]; omega)⟩) (by omega) xe (by simp only [List.length_singleton]; omega) (by omega) ?_)
        intro v6 w6 no6 e6
        have NO6 := Lib.hid no6; clear no6
        go_wp2_with (at_builtin; refine hold ?_)
        go_roundw
        case rel => exact ⟨k + 1, by omega, by go_num, by rw [HS.out]; exact NO6.out, e6⟩
        case measure => simp [intOf]; omega
      · have HS : Hid ((x.down.take (k + 1)).filter (fun s => lastAS s == r) = ds) := by unfold Hid; rw [HX.out]; simp [*]
        have g0 : (lastAS u == r) = false := beq_eq_false_iff_ne.2 h0
        go_wp2_with fail
        first | refine name_wp ?_ ?_ ?_ | refine name_calls ?_ ?_ ?_
        exact (fun W => Ext wr W ∧ Blk W (wr.heap.size) 57 [I u.ts, I u.beta, .slice Au_2 u.hops.length cu_2])
        exact ⟨xe, xb⟩
        rintro w3 ⟨ew3, bu⟩
        have lu := bu.lt
        obtain ⟨pu_0, pu_1, pu_2⟩ := blk3 bu
        have Bu := Lib.hid bu; clear bu
        have bx := Bx.out.ext (w' := w3) xe
        have lx := bx.lt
        obtain ⟨px_0, px_1⟩ := blk2 bx
        clear bx
        refine (impl_LastAS _ (u) _ (by exact Ru.out.ext xe)).mono ?_
        rintro e w4a ⟨rfl, ew4a⟩
        have bx := Bx.out.ext (w' := w4a) xe
        have lx := bx.lt
        obtain ⟨px_0, px_1⟩ := blk2 bx
        clear bx
        have bu := Bu.out.ext (w' := w4a) xe
        have lu := bu.lt
        obtain ⟨pu_0, pu_1, pu_2⟩ := blk3 bu
        clear bu
        generalize lastAS u = qq at *
        go_wp2_with fail
        go_roundw
        case rel => exact ⟨k + 1, by omega, by go_num, by rw [HS.out]; exact NO.up SegmentOC.keeps HNO.out xe (Nat.le_refl _), xe⟩
        case measure => simp [intOf]; omega
    · obtain rfl : k = x.down.length := by omega
      go_wp2_with fail
      go_ret
      refine ⟨_, rfl, ?_, xe⟩
      have h := HNO.out
      rw [List.take_length] at h
      exact NO.more h (by have := ew0.size; omega) (Nat.le_refl _)
end Go.Proofs.YtpkcoinoiaaebaaGreat

