/- Contracts of the program's and the reference's functions on the segment database: DownSegments, CoreSegments. -/
import Derived.Test.YtpfioedfpihbdaaL09c
import Derived.Test.YtpfioedfpihbdaaHSegmentDatabase
namespace Go.Proofs.Ytpfioedfpihbdaa
open Go.RowKit
set_option linter.unusedVariables false
abbrev segTot (l : List DSegment) : Nat := totS (fun u => u.hops.length) l
def downSegs (k : DSegmentDatabase) (r : Int) : List DSegment := k.down.filter fun s => lastAS s == r
def btw (a b : Int) (s : DSegment) : Bool := firstAS s == a && lastAS s == b
def coreFrom (k : DSegmentDatabase) (a b : Int) : List DSegment := k.core.filter (btw a b)
def coreSegs (k : DSegmentDatabase) (a b : Int) : List DSegment := coreFrom k a b ++ coreFrom k b a
set_option maxRecDepth 100000 in
set_option maxHeartbeats 1000000 in
theorem impl_DownSegments (vx : Value) (r : Int) (x : DSegmentDatabase) (w : World) (hx : SegmentDatabaseV w.heap.size w vx x) (hn : segTot x.down + segTot x.core ≤ 1048576) :
    Calls Try.prog 49 #[vx, I r] w fun e w' => ∃ v', e = .returned v' ∧ SegmentSO w.heap.size w'.heap.size w' v' (downSegs x r) ∧ Ext w w' := by
  obtain ⟨Ax_0, nx_0, cx_0, Ax_1, nx_1, cx_1, rfl, sx_0, sx_1⟩ := id hx
  obtain ⟨lx_0, kx_0, mx_0⟩ := sx_0.len
  subst lx_0
  unfold maxLen at mx_0
  obtain ⟨lx_1, kx_1, mx_1⟩ := sx_1.len
  subst lx_1
  unfold maxLen at mx_1
  have Rx := Lib.hid hx; clear hx
  have Sx_0 := Lib.hid sx_0; clear sx_0
  have Sx_1 := Lib.hid sx_1; clear sx_1
  have hn : totS (fun u : DSegment => u.hops.length) x.down + totS (fun u : DSegment => u.hops.length) x.core ≤ 1048576 := hn
  have hdl := totS_len (fun u : DSegment => u.hops.length) x.down
  go_enter Try.func49, Try.ntmps49
  go_wp2_with fail
  first | refine name_wp (fun W => Ext w W ∧ Blk W (w.heap.size) 93 [.slice Ax_0 x.down.length cx_0, .slice Ax_1 x.core.length cx_1]) ⟨(by repeat (first | (with_reducible exact Ext.refl _) | (with_reducible assumption) | (with_reducible refine Ext.alloc ?_ _) | (with_reducible refine Ext.drew ?_) | (with_reducible refine Ext.drewN ?_ _) | (with_reducible refine Ext.setCell (p := _) ?_ ?ge _; case ge => (dsimp only; omega)) | (with_reducible refine Ext.trans ?_ (by with_reducible assumption)))), (by repeat (first | (with_reducible exact Blk.new _ _ _) | ((with_reducible refine Blk.new' _ _ _ _ ?_) <;> (simp; done)) | (with_reducible refine Blk.alloc ?_ _) | (with_reducible refine Blk.drew ?_)))⟩ ?_ | refine name_calls (fun W => Ext w W ∧ Blk W (w.heap.size) 93 [.slice Ax_0 x.down.length cx_0, .slice Ax_1 x.core.length cx_1]) ⟨(by repeat (first | (with_reducible exact Ext.refl _) | (with_reducible assumption) | (with_reducible refine Ext.alloc ?_ _) | (with_reducible refine Ext.drew ?_) | (with_reducible refine Ext.drewN ?_ _) | (with_reducible refine Ext.setCell (p := _) ?_ ?ge _; case ge => (dsimp only; omega)) | (with_reducible refine Ext.trans ?_ (by with_reducible assumption)))), (by repeat (first | (with_reducible exact Blk.new _ _ _) | ((with_reducible refine Blk.new' _ _ _ _ ?_) <;> (simp; done)) | (with_reducible refine Blk.alloc ?_ _) | (with_reducible refine Blk.drew ?_)))⟩ ?_
  rintro w0 ⟨ew0, bx⟩
  have lx := bx.lt
  obtain ⟨px_0, px_1⟩ := blk2 bx
  have Bx := Lib.hid bx; clear bx
  go_loopw [5, 11] (fun v i wr => ∃ k : Nat, k ≤ x.down.length ∧ i = I k ∧ SegmentSO w0.heap.size wr.heap.size wr v ((x.down.take k).filter (fun s => lastAS s == r)) ∧ Ext w0 wr) (fun _ i _ => x.down.length - (intOf i).toNat)
  case atStart => exact ⟨0, by omega, rfl, NO.nil _ _ _ _ _ _, (by repeat (first | (with_reducible exact Ext.refl _) | (with_reducible assumption) | (with_reducible refine Ext.alloc ?_ _) | (with_reducible refine Ext.drew ?_) | (with_reducible refine Ext.drewN ?_ _) | (with_reducible refine Ext.setCell (p := _) ?_ ?ge _; case ge => (dsimp only; omega)) | (with_reducible refine Ext.trans ?_ (by with_reducible assumption))))⟩
  case round =>
    obtain ⟨k, hk, rfl, hno, he⟩ := hrel
    have HNO := Lib.hid hno; clear hno
    have zr := he.size
    have bx := Bx.out.ext (w' := wr) (by repeat (first | (with_reducible exact Ext.refl _) | (with_reducible assumption) | (with_reducible refine Ext.alloc ?_ _) | (with_reducible refine Ext.drew ?_) | (with_reducible refine Ext.drewN ?_ _) | (with_reducible refine Ext.setCell (p := _) ?_ ?ge _; case ge => (dsimp only; omega)) | (with_reducible refine Ext.trans ?_ (by with_reducible assumption))))
    have lx := bx.lt
    obtain ⟨px_0, px_1⟩ := blk2 bx
    clear bx
    by_cases hlt : k < x.down.length
    · obtain ⟨b, off, rfl, hb, hkl, hc⟩ := (Sx_0.out.ext (w' := wr) (by repeat (first | (with_reducible exact Ext.refl _) | (with_reducible assumption) | (with_reducible refine Ext.alloc ?_ _) | (with_reducible refine Ext.drew ?_) | (with_reducible refine Ext.drewN ?_ _) | (with_reducible refine Ext.setCell (p := _) ?_ ?ge _; case ge => (dsimp only; omega)) | (with_reducible refine Ext.trans ?_ (by with_reducible assumption))))).at_ hlt
      have hyl := totS_get (fun u : DSegment => u.hops.length) x.down k hkl
      have HX := Lib.hid (filter_snoc (fun s => lastAS s == r) x.down k hkl)
      have hfl := filter_take_len (fun s => lastAS s == r) x.down k
      have hyl : x.down[k].hops.length ≤ totS (fun u : DSegment => u.hops.length) x.down := hyl
      generalize x.down[k] = u at *
      generalize hds : (x.down.take k).filter (fun s => lastAS s == r) = ds at *
      have HDS := Lib.hid hds; clear hds
      have i0 : (0 : Int) ≤ (k : Int) := by omega
      have i1 : (k : Int) < (x.down.length : Int) := by omega
      obtain ⟨Au_2, nu_2, cu_2, hu_0, hu_1, hu_2, su_2⟩ := hc
      obtain ⟨lu_2, ku_2, mu_2⟩ := su_2.len
      subst lu_2
      unfold maxLen at mu_2
      have Ru : Hid (SegmentV wr.heap.size wr (.agg #[I u.ts, I u.beta, .slice Au_2 u.hops.length cu_2]) u) := ⟨_, _, _, rfl, su_2⟩
      have Su_2 := Lib.hid su_2; clear su_2
      by_cases h0 : lastAS u = r
      · have HS : Hid ((x.down.take (k + 1)).filter (fun s => lastAS s == r) = ds ++ [u]) := by unfold Hid; rw [HX.out]; simp [*]
        go_wp2_with fail
        first | refine name_wp (fun W => Ext wr W ∧ Blk W (wr.heap.size) 63 [I u.ts, I u.beta, .slice Au_2 u.hops.length cu_2]) ⟨(by repeat (first | (with_reducible exact Ext.refl _) | (with_reducible assumption) | (with_reducible refine Ext.alloc ?_ _) | (with_reducible refine Ext.drew ?_) | (with_reducible refine Ext.drewN ?_ _) | (with_reducible refine Ext.setCell (p := _) ?_ ?ge _; case ge => (dsimp only; omega)) | (with_reducible refine Ext.trans ?_ (by with_reducible assumption)))), (by repeat (first | (with_reducible exact Blk.new _ _ _) | ((with_reducible refine Blk.new' _ _ _ _ ?_) <;> (simp; done)) | (with_reducible refine Blk.alloc ?_ _) | (with_reducible refine Blk.drew ?_)))⟩ ?_ | refine name_calls (fun W => Ext wr W ∧ Blk W (wr.heap.size) 63 [I u.ts, I u.beta, .slice Au_2 u.hops.length cu_2]) ⟨(by repeat (first | (with_reducible exact Ext.refl _) | (with_reducible assumption) | (with_reducible refine Ext.alloc ?_ _) | (with_reducible refine Ext.drew ?_) | (with_reducible refine Ext.drewN ?_ _) | (with_reducible refine Ext.setCell (p := _) ?_ ?ge _; case ge => (dsimp only; omega)) | (with_reducible refine Ext.trans ?_ (by with_reducible assumption)))), (by repeat (first | (with_reducible exact Blk.new _ _ _) | ((with_reducible refine Blk.new' _ _ _ _ ?_) <;> (simp; done)) | (with_reducible refine Blk.alloc ?_ _) | (with_reducible refine Blk.drew ?_)))⟩ ?_
        rintro w3 ⟨ew3, bu⟩
        have lu := bu.lt
        obtain ⟨pu_0, pu_1, pu_2⟩ := blk3 bu
        have Bu := Lib.hid bu; clear bu
        have bx := Bx.out.ext (w' := w3) (by repeat (first | (with_reducible exact Ext.refl _) | (with_reducible assumption) | (with_reducible refine Ext.alloc ?_ _) | (with_reducible refine Ext.drew ?_) | (with_reducible refine Ext.drewN ?_ _) | (with_reducible refine Ext.setCell (p := _) ?_ ?ge _; case ge => (dsimp only; omega)) | (with_reducible refine Ext.trans ?_ (by with_reducible assumption))))
        have lx := bx.lt
        obtain ⟨px_0, px_1⟩ := blk2 bx
        clear bx
        refine (impl_LastAS _ (u) _ (by exact Ru.out.ext (by repeat (first | (with_reducible exact Ext.refl _) | (with_reducible assumption) | (with_reducible refine Ext.alloc ?_ _) | (with_reducible refine Ext.drew ?_) | (with_reducible refine Ext.drewN ?_ _) | (with_reducible refine Ext.setCell (p := _) ?_ ?ge _; case ge => (dsimp only; omega)) | (with_reducible refine Ext.trans ?_ (by with_reducible assumption)))))).mono ?_
        rintro e w4a ⟨rfl, ew4a⟩
        have bx := Bx.out.ext (w' := w4a) (by repeat (first | (with_reducible exact Ext.refl _) | (with_reducible assumption) | (with_reducible refine Ext.alloc ?_ _) | (with_reducible refine Ext.drew ?_) | (with_reducible refine Ext.drewN ?_ _) | (with_reducible refine Ext.setCell (p := _) ?_ ?ge _; case ge => (dsimp only; omega)) | (with_reducible refine Ext.trans ?_ (by with_reducible assumption))))
        have lx := bx.lt
        obtain ⟨px_0, px_1⟩ := blk2 bx
        clear bx
        have bu := Bu.out.ext (w' := w4a) (by repeat (first | (with_reducible exact Ext.refl _) | (with_reducible assumption) | (with_reducible refine Ext.alloc ?_ _) | (with_reducible refine Ext.drew ?_) | (with_reducible refine Ext.drewN ?_ _) | (with_reducible refine Ext.setCell (p := _) ?_ ?ge _; case ge => (dsimp only; omega)) | (with_reducible refine Ext.trans ?_ (by with_reducible assumption))))
        have lu := bu.lt
        obtain ⟨pu_0, pu_1, pu_2⟩ := blk3 bu
        clear bu
        rw [h0]
        clear h0
        go_wp2_with fail
        refine (impl_copySegment _ u _ (by exact Ru.out.ext (by repeat (first | (with_reducible exact Ext.refl _) | (with_reducible assumption) | (with_reducible refine Ext.alloc ?_ _) | (with_reducible refine Ext.drew ?_) | (with_reducible refine Ext.drewN ?_ _) | (with_reducible refine Ext.setCell (p := _) ?_ ?ge _; case ge => (dsimp only; omega)) | (with_reducible refine Ext.trans ?_ (by with_reducible assumption))))) (by omega)).mono ?_
        rintro e w5 ⟨v5, rfl, o5, ew5⟩
        have z4 : wr.heap.size ≤ w4a.heap.size := Ext.size (by repeat (first | (with_reducible exact Ext.refl _) | (with_reducible assumption) | (with_reducible refine Ext.alloc ?_ _) | (with_reducible refine Ext.drew ?_) | (with_reducible refine Ext.drewN ?_ _) | (with_reducible refine Ext.setCell (p := _) ?_ ?ge _; case ge => (dsimp only; omega)) | (with_reducible refine Ext.trans ?_ (by with_reducible assumption))))
        obtain ⟨a5, k5, q5, fp5, hv5, hoc5, hn5, hb5⟩ := o5.to_oc
        subst hv5
        have HOC5 := Lib.hid hoc5; have HN5 := Lib.hid hn5; have HB5 := Lib.hid hb5; clear o5 hoc5 hn5 hb5
        have z5 := ew5.size
        go_wp2_with (at_builtin; refine hold ?_)
        refine unhold (wpList_push (OC := SegmentOC) w0 SegmentOC.keeps SegmentOC.one rfl (.tmp 19) (.tmp 22) _ rfl 63 _ 3 40 Try.underlying90 info_Segment rfl (by omega) _ (ds) [u] wr.heap.size rfl _ 1 1 _ fp5 rfl
          (by exact NO.at' SegmentOC.keeps HNO.out (by repeat (first | (with_reducible exact Ext.refl _) | (with_reducible assumption) | (with_reducible refine Ext.alloc ?_ _) | (with_reducible refine Ext.drew ?_) | (with_reducible refine Ext.drewN ?_ _) | (with_reducible refine Ext.setCell (p := _) ?_ ?ge _; case ge => (dsimp only; omega)) | (with_reducible refine Ext.trans ?_ (by with_reducible assumption))))) (by simp only [World.size_alloc]; omega) (row_one _ _ _ _ _ rfl rfl) (OL.one (SegmentOC.keeps _ _ _ _ _ (fun b hb hs => Below.heap_alloc _ _ _ hs) HOC5.out) rfl) HN5.out (fun b hb => ⟨(by have := HB5.out b hb; omega), (by have := HB5.out b hb; simp only [World.size_alloc]; omega)⟩) (by omega) (by repeat (first | (with_reducible exact Ext.refl _) | (with_reducible assumption) | (with_reducible refine Ext.alloc ?_ _) | (with_reducible refine Ext.drew ?_) | (with_reducible refine Ext.drewN ?_ _) | (with_reducible refine Ext.setCell (p := _) ?_ ?ge _; case ge => (dsimp only; omega)) | (with_reducible refine Ext.trans ?_ (by with_reducible assumption)))) (by simp only [List.length_singleton]; omega) (by omega) ?_)
        intro v6 w6 no6 e6
        have NO6 := Lib.hid no6; clear no6
        go_wp2_with (at_builtin; refine hold ?_)
        go_roundw
        case rel => exact ⟨k + 1, by omega, by go_num, by rw [HS.out]; exact NO6.out, e6⟩
        case measure => simp [intOf]; omega
      · have HS : Hid ((x.down.take (k + 1)).filter (fun s => lastAS s == r) = ds) := by unfold Hid; rw [HX.out]; simp [*]
        have g0 : (lastAS u == r) = false := beq_eq_false_iff_ne.2 h0
        go_wp2_with fail
        first | refine name_wp (fun W => Ext wr W ∧ Blk W (wr.heap.size) 63 [I u.ts, I u.beta, .slice Au_2 u.hops.length cu_2]) ⟨(by repeat (first | (with_reducible exact Ext.refl _) | (with_reducible assumption) | (with_reducible refine Ext.alloc ?_ _) | (with_reducible refine Ext.drew ?_) | (with_reducible refine Ext.drewN ?_ _) | (with_reducible refine Ext.setCell (p := _) ?_ ?ge _; case ge => (dsimp only; omega)) | (with_reducible refine Ext.trans ?_ (by with_reducible assumption)))), (by repeat (first | (with_reducible exact Blk.new _ _ _) | ((with_reducible refine Blk.new' _ _ _ _ ?_) <;> (simp; done)) | (with_reducible refine Blk.alloc ?_ _) | (with_reducible refine Blk.drew ?_)))⟩ ?_ | refine name_calls (fun W => Ext wr W ∧ Blk W (wr.heap.size) 63 [I u.ts, I u.beta, .slice Au_2 u.hops.length cu_2]) ⟨(by repeat (first | (with_reducible exact Ext.refl _) | (with_reducible assumption) | (with_reducible refine Ext.alloc ?_ _) | (with_reducible refine Ext.drew ?_) | (with_reducible refine Ext.drewN ?_ _) | (with_reducible refine Ext.setCell (p := _) ?_ ?ge _; case ge => (dsimp only; omega)) | (with_reducible refine Ext.trans ?_ (by with_reducible assumption)))), (by repeat (first | (with_reducible exact Blk.new _ _ _) | ((with_reducible refine Blk.new' _ _ _ _ ?_) <;> (simp; done)) | (with_reducible refine Blk.alloc ?_ _) | (with_reducible refine Blk.drew ?_)))⟩ ?_
        rintro w3 ⟨ew3, bu⟩
        have lu := bu.lt
        obtain ⟨pu_0, pu_1, pu_2⟩ := blk3 bu
        have Bu := Lib.hid bu; clear bu
        have bx := Bx.out.ext (w' := w3) (by repeat (first | (with_reducible exact Ext.refl _) | (with_reducible assumption) | (with_reducible refine Ext.alloc ?_ _) | (with_reducible refine Ext.drew ?_) | (with_reducible refine Ext.drewN ?_ _) | (with_reducible refine Ext.setCell (p := _) ?_ ?ge _; case ge => (dsimp only; omega)) | (with_reducible refine Ext.trans ?_ (by with_reducible assumption))))
        have lx := bx.lt
        obtain ⟨px_0, px_1⟩ := blk2 bx
        clear bx
        refine (impl_LastAS _ (u) _ (by exact Ru.out.ext (by repeat (first | (with_reducible exact Ext.refl _) | (with_reducible assumption) | (with_reducible refine Ext.alloc ?_ _) | (with_reducible refine Ext.drew ?_) | (with_reducible refine Ext.drewN ?_ _) | (with_reducible refine Ext.setCell (p := _) ?_ ?ge _; case ge => (dsimp only; omega)) | (with_reducible refine Ext.trans ?_ (by with_reducible assumption)))))).mono ?_
        rintro e w4a ⟨rfl, ew4a⟩
        have bx := Bx.out.ext (w' := w4a) (by repeat (first | (with_reducible exact Ext.refl _) | (with_reducible assumption) | (with_reducible refine Ext.alloc ?_ _) | (with_reducible refine Ext.drew ?_) | (with_reducible refine Ext.drewN ?_ _) | (with_reducible refine Ext.setCell (p := _) ?_ ?ge _; case ge => (dsimp only; omega)) | (with_reducible refine Ext.trans ?_ (by with_reducible assumption))))
        have lx := bx.lt
        obtain ⟨px_0, px_1⟩ := blk2 bx
        clear bx
        have bu := Bu.out.ext (w' := w4a) (by repeat (first | (with_reducible exact Ext.refl _) | (with_reducible assumption) | (with_reducible refine Ext.alloc ?_ _) | (with_reducible refine Ext.drew ?_) | (with_reducible refine Ext.drewN ?_ _) | (with_reducible refine Ext.setCell (p := _) ?_ ?ge _; case ge => (dsimp only; omega)) | (with_reducible refine Ext.trans ?_ (by with_reducible assumption))))
        have lu := bu.lt
        obtain ⟨pu_0, pu_1, pu_2⟩ := blk3 bu
        clear bu
        generalize lastAS u = qq at *
        go_wp2_with fail
        go_roundw
        case rel => exact ⟨k + 1, by omega, by go_num, by rw [HS.out]; exact NO.up SegmentOC.keeps HNO.out (by repeat (first | (with_reducible exact Ext.refl _) | (with_reducible assumption) | (with_reducible refine Ext.alloc ?_ _) | (with_reducible refine Ext.drew ?_) | (with_reducible refine Ext.drewN ?_ _) | (with_reducible refine Ext.setCell (p := _) ?_ ?ge _; case ge => (dsimp only; omega)) | (with_reducible refine Ext.trans ?_ (by with_reducible assumption)))) (Nat.le_refl _), (by repeat (first | (with_reducible exact Ext.refl _) | (with_reducible assumption) | (with_reducible refine Ext.alloc ?_ _) | (with_reducible refine Ext.drew ?_) | (with_reducible refine Ext.drewN ?_ _) | (with_reducible refine Ext.setCell (p := _) ?_ ?ge _; case ge => (dsimp only; omega)) | (with_reducible refine Ext.trans ?_ (by with_reducible assumption))))⟩
        case measure => simp [intOf]; omega
    · obtain rfl : k = x.down.length := by omega
      go_wp2_with fail
      go_ret
      refine ⟨_, rfl, ?_, (by repeat (first | (with_reducible exact Ext.refl _) | (with_reducible assumption) | (with_reducible refine Ext.alloc ?_ _) | (with_reducible refine Ext.drew ?_) | (with_reducible refine Ext.drewN ?_ _) | (with_reducible refine Ext.setCell (p := _) ?_ ?ge _; case ge => (dsimp only; omega)) | (with_reducible refine Ext.trans ?_ (by with_reducible assumption))))⟩
      have h := HNO.out
      rw [List.take_length] at h
      exact NO.more h (by have := ew0.size; omega) (Nat.le_refl _)
set_option maxRecDepth 100000 in
set_option maxHeartbeats 1000000 in
theorem spec_DownSegments (vx : Value) (r : Int) (x : DSegmentDatabase) (w : World) (hx : SegmentDatabaseV w.heap.size w vx x) (hn : segTot x.down + segTot x.core ≤ 1048576) :
    Calls Try.prog 47 #[vx, I r] w fun e w' => ∃ v', e = .returned v' ∧ SegmentSO w.heap.size w'.heap.size w' v' (downSegs x r) ∧ Ext w w' := by
  obtain ⟨Ax_0, nx_0, cx_0, Ax_1, nx_1, cx_1, rfl, sx_0, sx_1⟩ := id hx
  obtain ⟨lx_0, kx_0, mx_0⟩ := sx_0.len
  subst lx_0
  unfold maxLen at mx_0
  obtain ⟨lx_1, kx_1, mx_1⟩ := sx_1.len
  subst lx_1
  unfold maxLen at mx_1
  have Rx := Lib.hid hx; clear hx
  have Sx_0 := Lib.hid sx_0; clear sx_0
  have Sx_1 := Lib.hid sx_1; clear sx_1
  have hn : totS (fun u : DSegment => u.hops.length) x.down + totS (fun u : DSegment => u.hops.length) x.core ≤ 1048576 := hn
  have hdl := totS_len (fun u : DSegment => u.hops.length) x.down
  go_enter Try.func47, Try.ntmps47
  go_wp2_with fail
  refine name_wp (fun W => ∃ wb, Ext w wb ∧ Blk wb w.heap.size 93 [.slice Ax_0 x.down.length cx_0, .slice Ax_1 x.core.length cx_1] ∧ Ext wb W ∧ SegmentSO wb.heap.size W.heap.size W (.slice (some ⟨w.heap.size + 1, 0, none⟩) 0 0) []) ⟨_, (Ext.refl _).alloc _, Blk.new _ _ _, (Ext.refl _).alloc _, NO.zero _ _ _ _ _ _ (by simp) (Nat.le_refl _)⟩ ?_
  rintro wz ⟨w0, ew0, bx, ez, hz⟩
  have Bx := Lib.hid bx; clear bx
  have HZ := Lib.hid hz; clear hz
  go_loopw [5, 6] (fun v i wr => ∃ k : Nat, k ≤ x.down.length ∧ i = I k ∧ SegmentSO w0.heap.size wr.heap.size wr v ((x.down.take k).filter (fun s => lastAS s == r)) ∧ Ext w0 wr) (fun _ i _ => x.down.length - (intOf i).toNat)
  case atStart => exact ⟨0, by omega, rfl, HZ.out, (by repeat (first | (with_reducible exact Ext.refl _) | (with_reducible assumption) | (with_reducible refine Ext.alloc ?_ _) | (with_reducible refine Ext.drew ?_) | (with_reducible refine Ext.drewN ?_ _) | (with_reducible refine Ext.setCell (p := _) ?_ ?ge _; case ge => (dsimp only; omega)) | (with_reducible refine Ext.trans ?_ (by with_reducible assumption))))⟩
  case round =>
    obtain ⟨k, hk, rfl, hno, he⟩ := hrel
    have HNO := Lib.hid hno; clear hno
    have zr := he.size
    have bx := Bx.out.ext (w' := wr) (by repeat (first | (with_reducible exact Ext.refl _) | (with_reducible assumption) | (with_reducible refine Ext.alloc ?_ _) | (with_reducible refine Ext.drew ?_) | (with_reducible refine Ext.drewN ?_ _) | (with_reducible refine Ext.setCell (p := _) ?_ ?ge _; case ge => (dsimp only; omega)) | (with_reducible refine Ext.trans ?_ (by with_reducible assumption))))
    have lx := bx.lt
    obtain ⟨px_0, px_1⟩ := blk2 bx
    clear bx
    by_cases hlt : k < x.down.length
    · obtain ⟨b, off, rfl, hb, hkl, hc⟩ := (Sx_0.out.ext (w' := wr) (by repeat (first | (with_reducible exact Ext.refl _) | (with_reducible assumption) | (with_reducible refine Ext.alloc ?_ _) | (with_reducible refine Ext.drew ?_) | (with_reducible refine Ext.drewN ?_ _) | (with_reducible refine Ext.setCell (p := _) ?_ ?ge _; case ge => (dsimp only; omega)) | (with_reducible refine Ext.trans ?_ (by with_reducible assumption))))).at_ hlt
      have hyl := totS_get (fun u : DSegment => u.hops.length) x.down k hkl
      have HX := Lib.hid (filter_snoc (fun s => lastAS s == r) x.down k hkl)
      have hfl := filter_take_len (fun s => lastAS s == r) x.down k
      have hyl : x.down[k].hops.length ≤ totS (fun u : DSegment => u.hops.length) x.down := hyl
      generalize x.down[k] = u at *
      generalize hds : (x.down.take k).filter (fun s => lastAS s == r) = ds at *
      have HDS := Lib.hid hds; clear hds
      have i0 : (0 : Int) ≤ (k : Int) := by omega
      have i1 : (k : Int) < (x.down.length : Int) := by omega
      obtain ⟨Au_2, nu_2, cu_2, hu_0, hu_1, hu_2, su_2⟩ := hc
      obtain ⟨lu_2, ku_2, mu_2⟩ := su_2.len
      subst lu_2
      unfold maxLen at mu_2
      have Ru : Hid (SegmentV wr.heap.size wr (.agg #[I u.ts, I u.beta, .slice Au_2 u.hops.length cu_2]) u) := ⟨_, _, _, rfl, su_2⟩
      have Su_2 := Lib.hid su_2; clear su_2
      by_cases h0 : lastAS u = r
      · have HS : Hid ((x.down.take (k + 1)).filter (fun s => lastAS s == r) = ds ++ [u]) := by unfold Hid; rw [HX.out]; simp [*]
        go_wp2_with fail
        refine (spec_LastAS _ (u) _ (by exact Ru.out.ext (by repeat (first | (with_reducible exact Ext.refl _) | (with_reducible assumption) | (with_reducible refine Ext.alloc ?_ _) | (with_reducible refine Ext.drew ?_) | (with_reducible refine Ext.drewN ?_ _) | (with_reducible refine Ext.setCell (p := _) ?_ ?ge _; case ge => (dsimp only; omega)) | (with_reducible refine Ext.trans ?_ (by with_reducible assumption)))))).mono ?_
        rintro e w4a ⟨rfl, ew4a⟩
        have bx := Bx.out.ext (w' := w4a) (by repeat (first | (with_reducible exact Ext.refl _) | (with_reducible assumption) | (with_reducible refine Ext.alloc ?_ _) | (with_reducible refine Ext.drew ?_) | (with_reducible refine Ext.drewN ?_ _) | (with_reducible refine Ext.setCell (p := _) ?_ ?ge _; case ge => (dsimp only; omega)) | (with_reducible refine Ext.trans ?_ (by with_reducible assumption))))
        have lx := bx.lt
        obtain ⟨px_0, px_1⟩ := blk2 bx
        clear bx
        obtain ⟨hCw4a, -, hZw4a⟩ := (Ext.facts (a := wr) (b := w4a) (by repeat (first | (with_reducible exact Ext.refl _) | (with_reducible assumption) | (with_reducible refine Ext.alloc ?_ _) | (with_reducible refine Ext.drew ?_) | (with_reducible refine Ext.drewN ?_ _) | (with_reducible refine Ext.setCell (p := _) ?_ ?ge _; case ge => (dsimp only; omega)) | (with_reducible refine Ext.trans ?_ (by with_reducible assumption)))))
        rw [h0]
        clear h0
        go_wp2_with fail
        refine (spec_l9Copy _ u _ (by exact Ru.out.ext (by repeat (first | (with_reducible exact Ext.refl _) | (with_reducible assumption) | (with_reducible refine Ext.alloc ?_ _) | (with_reducible refine Ext.drew ?_) | (with_reducible refine Ext.drewN ?_ _) | (with_reducible refine Ext.setCell (p := _) ?_ ?ge _; case ge => (dsimp only; omega)) | (with_reducible refine Ext.trans ?_ (by with_reducible assumption))))) (by omega)).mono ?_
        rintro e w5 ⟨v5, rfl, o5, ew5⟩
        have z4 : wr.heap.size ≤ w4a.heap.size := Ext.size (by repeat (first | (with_reducible exact Ext.refl _) | (with_reducible assumption) | (with_reducible refine Ext.alloc ?_ _) | (with_reducible refine Ext.drew ?_) | (with_reducible refine Ext.drewN ?_ _) | (with_reducible refine Ext.setCell (p := _) ?_ ?ge _; case ge => (dsimp only; omega)) | (with_reducible refine Ext.trans ?_ (by with_reducible assumption))))
        obtain ⟨a5, k5, q5, fp5, hv5, hoc5, hn5, hb5⟩ := o5.to_oc
        subst hv5
        have HOC5 := Lib.hid hoc5; have HN5 := Lib.hid hn5; have HB5 := Lib.hid hb5; clear o5 hoc5 hn5 hb5
        have z5 := ew5.size
        go_wp2_with (at_builtin; refine hold ?_)
        refine unhold (wpList_push (OC := SegmentOC) w0 SegmentOC.keeps SegmentOC.one rfl (.tmp 23) (.tmp 30) _ rfl 63 _ 3 40 Try.underlying90 info_Segment rfl (by omega) _ (ds) [u] wr.heap.size rfl _ 1 1 _ fp5 rfl
          (by exact NO.at' SegmentOC.keeps HNO.out (by repeat (first | (with_reducible exact Ext.refl _) | (with_reducible assumption) | (with_reducible refine Ext.alloc ?_ _) | (with_reducible refine Ext.drew ?_) | (with_reducible refine Ext.drewN ?_ _) | (with_reducible refine Ext.setCell (p := _) ?_ ?ge _; case ge => (dsimp only; omega)) | (with_reducible refine Ext.trans ?_ (by with_reducible assumption))))) (by simp only [World.size_alloc]; omega) (row_one _ _ _ _ _ rfl rfl) (OL.one (SegmentOC.keeps _ _ _ _ _ (fun b hb hs => Below.heap_alloc _ _ _ hs) HOC5.out) rfl) HN5.out (fun b hb => ⟨(by have := HB5.out b hb; omega), (by have := HB5.out b hb; simp only [World.size_alloc]; omega)⟩) (by omega) (by repeat (first | (with_reducible exact Ext.refl _) | (with_reducible assumption) | (with_reducible refine Ext.alloc ?_ _) | (with_reducible refine Ext.drew ?_) | (with_reducible refine Ext.drewN ?_ _) | (with_reducible refine Ext.setCell (p := _) ?_ ?ge _; case ge => (dsimp only; omega)) | (with_reducible refine Ext.trans ?_ (by with_reducible assumption)))) (by simp only [List.length_singleton]; omega) (by omega) ?_)
        intro v6 w6 no6 e6
        have NO6 := Lib.hid no6; clear no6
        go_wp2_with (at_builtin; refine hold ?_)
        go_roundw
        case rel => exact ⟨k + 1, by omega, by go_num, by rw [HS.out]; exact NO6.out, e6⟩
        case measure => simp [intOf]; omega
      · have HS : Hid ((x.down.take (k + 1)).filter (fun s => lastAS s == r) = ds) := by unfold Hid; rw [HX.out]; simp [*]
        have g0 : (lastAS u == r) = false := beq_eq_false_iff_ne.2 h0
        go_wp2_with fail
        refine (spec_LastAS _ (u) _ (by exact Ru.out.ext (by repeat (first | (with_reducible exact Ext.refl _) | (with_reducible assumption) | (with_reducible refine Ext.alloc ?_ _) | (with_reducible refine Ext.drew ?_) | (with_reducible refine Ext.drewN ?_ _) | (with_reducible refine Ext.setCell (p := _) ?_ ?ge _; case ge => (dsimp only; omega)) | (with_reducible refine Ext.trans ?_ (by with_reducible assumption)))))).mono ?_
        rintro e w4a ⟨rfl, ew4a⟩
        have bx := Bx.out.ext (w' := w4a) (by repeat (first | (with_reducible exact Ext.refl _) | (with_reducible assumption) | (with_reducible refine Ext.alloc ?_ _) | (with_reducible refine Ext.drew ?_) | (with_reducible refine Ext.drewN ?_ _) | (with_reducible refine Ext.setCell (p := _) ?_ ?ge _; case ge => (dsimp only; omega)) | (with_reducible refine Ext.trans ?_ (by with_reducible assumption))))
        have lx := bx.lt
        obtain ⟨px_0, px_1⟩ := blk2 bx
        clear bx
        obtain ⟨hCw4a, -, hZw4a⟩ := (Ext.facts (a := wr) (b := w4a) (by repeat (first | (with_reducible exact Ext.refl _) | (with_reducible assumption) | (with_reducible refine Ext.alloc ?_ _) | (with_reducible refine Ext.drew ?_) | (with_reducible refine Ext.drewN ?_ _) | (with_reducible refine Ext.setCell (p := _) ?_ ?ge _; case ge => (dsimp only; omega)) | (with_reducible refine Ext.trans ?_ (by with_reducible assumption)))))
        generalize lastAS u = qq at *
        go_wp2_with fail
        go_roundw
        case rel => exact ⟨k + 1, by omega, by go_num, by rw [HS.out]; exact NO.up SegmentOC.keeps HNO.out (by repeat (first | (with_reducible exact Ext.refl _) | (with_reducible assumption) | (with_reducible refine Ext.alloc ?_ _) | (with_reducible refine Ext.drew ?_) | (with_reducible refine Ext.drewN ?_ _) | (with_reducible refine Ext.setCell (p := _) ?_ ?ge _; case ge => (dsimp only; omega)) | (with_reducible refine Ext.trans ?_ (by with_reducible assumption)))) (Nat.le_refl _), (by repeat (first | (with_reducible exact Ext.refl _) | (with_reducible assumption) | (with_reducible refine Ext.alloc ?_ _) | (with_reducible refine Ext.drew ?_) | (with_reducible refine Ext.drewN ?_ _) | (with_reducible refine Ext.setCell (p := _) ?_ ?ge _; case ge => (dsimp only; omega)) | (with_reducible refine Ext.trans ?_ (by with_reducible assumption))))⟩
        case measure => simp [intOf]; omega
    · obtain rfl : k = x.down.length := by omega
      go_wp2_with fail
      go_ret
      refine ⟨_, rfl, ?_, (by repeat (first | (with_reducible exact Ext.refl _) | (with_reducible assumption) | (with_reducible refine Ext.alloc ?_ _) | (with_reducible refine Ext.drew ?_) | (with_reducible refine Ext.drewN ?_ _) | (with_reducible refine Ext.setCell (p := _) ?_ ?ge _; case ge => (dsimp only; omega)) | (with_reducible refine Ext.trans ?_ (by with_reducible assumption))))⟩
      have h := HNO.out
      rw [List.take_length] at h
      exact NO.more h (by have := ew0.size; omega) (Nat.le_refl _)
set_option maxRecDepth 100000 in
set_option maxHeartbeats 1000000 in
theorem impl_coreFrom (vx : Value) (a c : Int) (x : DSegmentDatabase) (w : World) (hx : SegmentDatabaseV w.heap.size w vx x) (hn : segTot x.down + segTot x.core ≤ 1048576) :
    Calls Try.prog 121 #[vx, I a, I c] w fun e w' => ∃ v', e = .returned v' ∧ SegmentSO w.heap.size w'.heap.size w' v' (coreFrom x a c) ∧ Ext w w' := by
  obtain ⟨Ax_0, nx_0, cx_0, Ax_1, nx_1, cx_1, rfl, sx_0, sx_1⟩ := id hx
  obtain ⟨lx_0, kx_0, mx_0⟩ := sx_0.len
  subst lx_0
  unfold maxLen at mx_0
  obtain ⟨lx_1, kx_1, mx_1⟩ := sx_1.len
  subst lx_1
  unfold maxLen at mx_1
  have Rx := Lib.hid hx; clear hx
  have Sx_0 := Lib.hid sx_0; clear sx_0
  have Sx_1 := Lib.hid sx_1; clear sx_1
  have hn : totS (fun u : DSegment => u.hops.length) x.down + totS (fun u : DSegment => u.hops.length) x.core ≤ 1048576 := hn
  have hdl := totS_len (fun u : DSegment => u.hops.length) x.core
  go_enter Try.func121, Try.ntmps121
  go_wp2_with fail
  first | refine name_wp (fun W => Ext w W ∧ Blk W (w.heap.size) 93 [.slice Ax_0 x.down.length cx_0, .slice Ax_1 x.core.length cx_1]) ⟨(by repeat (first | (with_reducible exact Ext.refl _) | (with_reducible assumption) | (with_reducible refine Ext.alloc ?_ _) | (with_reducible refine Ext.drew ?_) | (with_reducible refine Ext.drewN ?_ _) | (with_reducible refine Ext.setCell (p := _) ?_ ?ge _; case ge => (dsimp only; omega)) | (with_reducible refine Ext.trans ?_ (by with_reducible assumption)))), (by repeat (first | (with_reducible exact Blk.new _ _ _) | ((with_reducible refine Blk.new' _ _ _ _ ?_) <;> (simp; done)) | (with_reducible refine Blk.alloc ?_ _) | (with_reducible refine Blk.drew ?_)))⟩ ?_ | refine name_calls (fun W => Ext w W ∧ Blk W (w.heap.size) 93 [.slice Ax_0 x.down.length cx_0, .slice Ax_1 x.core.length cx_1]) ⟨(by repeat (first | (with_reducible exact Ext.refl _) | (with_reducible assumption) | (with_reducible refine Ext.alloc ?_ _) | (with_reducible refine Ext.drew ?_) | (with_reducible refine Ext.drewN ?_ _) | (with_reducible refine Ext.setCell (p := _) ?_ ?ge _; case ge => (dsimp only; omega)) | (with_reducible refine Ext.trans ?_ (by with_reducible assumption)))), (by repeat (first | (with_reducible exact Blk.new _ _ _) | ((with_reducible refine Blk.new' _ _ _ _ ?_) <;> (simp; done)) | (with_reducible refine Blk.alloc ?_ _) | (with_reducible refine Blk.drew ?_)))⟩ ?_
  rintro w0 ⟨ew0, bx⟩
  have lx := bx.lt
  obtain ⟨px_0, px_1⟩ := blk2 bx
  have Bx := Lib.hid bx; clear bx
  go_loopw [7, 13] (fun v i wr => ∃ k : Nat, k ≤ x.core.length ∧ i = I k ∧ SegmentSO w0.heap.size wr.heap.size wr v ((x.core.take k).filter (btw a c)) ∧ Ext w0 wr) (fun _ i _ => x.core.length - (intOf i).toNat)
  case atStart => exact ⟨0, by omega, rfl, NO.nil _ _ _ _ _ _, (by repeat (first | (with_reducible exact Ext.refl _) | (with_reducible assumption) | (with_reducible refine Ext.alloc ?_ _) | (with_reducible refine Ext.drew ?_) | (with_reducible refine Ext.drewN ?_ _) | (with_reducible refine Ext.setCell (p := _) ?_ ?ge _; case ge => (dsimp only; omega)) | (with_reducible refine Ext.trans ?_ (by with_reducible assumption))))⟩
  case round =>
    obtain ⟨k, hk, rfl, hno, he⟩ := hrel
    have HNO := Lib.hid hno; clear hno
    have zr := he.size
    have bx := Bx.out.ext (w' := wr) (by repeat (first | (with_reducible exact Ext.refl _) | (with_reducible assumption) | (with_reducible refine Ext.alloc ?_ _) | (with_reducible refine Ext.drew ?_) | (with_reducible refine Ext.drewN ?_ _) | (with_reducible refine Ext.setCell (p := _) ?_ ?ge _; case ge => (dsimp only; omega)) | (with_reducible refine Ext.trans ?_ (by with_reducible assumption))))
    have lx := bx.lt
    obtain ⟨px_0, px_1⟩ := blk2 bx
    clear bx
    by_cases hlt : k < x.core.length
    · obtain ⟨b, off, rfl, hb, hkl, hc⟩ := (Sx_1.out.ext (w' := wr) (by repeat (first | (with_reducible exact Ext.refl _) | (with_reducible assumption) | (with_reducible refine Ext.alloc ?_ _) | (with_reducible refine Ext.drew ?_) | (with_reducible refine Ext.drewN ?_ _) | (with_reducible refine Ext.setCell (p := _) ?_ ?ge _; case ge => (dsimp only; omega)) | (with_reducible refine Ext.trans ?_ (by with_reducible assumption))))).at_ hlt
      have hyl := totS_get (fun u : DSegment => u.hops.length) x.core k hkl
      have HX := Lib.hid (filter_snoc (btw a c) x.core k hkl)
      have hfl := filter_take_len (btw a c) x.core k
      have hyl : x.core[k].hops.length ≤ totS (fun u : DSegment => u.hops.length) x.core := hyl
      generalize x.core[k] = u at *
      generalize hds : (x.core.take k).filter (btw a c) = ds at *
      have HDS := Lib.hid hds; clear hds
      have i0 : (0 : Int) ≤ (k : Int) := by omega
      have i1 : (k : Int) < (x.core.length : Int) := by omega
      obtain ⟨Au_2, nu_2, cu_2, hu_0, hu_1, hu_2, su_2⟩ := hc
      obtain ⟨lu_2, ku_2, mu_2⟩ := su_2.len
      subst lu_2
      unfold maxLen at mu_2
      have Ru : Hid (SegmentV wr.heap.size wr (.agg #[I u.ts, I u.beta, .slice Au_2 u.hops.length cu_2]) u) := ⟨_, _, _, rfl, su_2⟩
      have Su_2 := Lib.hid su_2; clear su_2
      by_cases h0 : firstAS u = a
      · by_cases h1 : lastAS u = c
        · have HS : Hid ((x.core.take (k + 1)).filter (btw a c) = ds ++ [u]) := by unfold Hid; rw [HX.out]; simp [btw, *]
          go_wp2_with fail
          first | refine name_wp (fun W => Ext wr W ∧ Blk W (wr.heap.size) 63 [I u.ts, I u.beta, .slice Au_2 u.hops.length cu_2]) ⟨(by repeat (first | (with_reducible exact Ext.refl _) | (with_reducible assumption) | (with_reducible refine Ext.alloc ?_ _) | (with_reducible refine Ext.drew ?_) | (with_reducible refine Ext.drewN ?_ _) | (with_reducible refine Ext.setCell (p := _) ?_ ?ge _; case ge => (dsimp only; omega)) | (with_reducible refine Ext.trans ?_ (by with_reducible assumption)))), (by repeat (first | (with_reducible exact Blk.new _ _ _) | ((with_reducible refine Blk.new' _ _ _ _ ?_) <;> (simp; done)) | (with_reducible refine Blk.alloc ?_ _) | (with_reducible refine Blk.drew ?_)))⟩ ?_ | refine name_calls (fun W => Ext wr W ∧ Blk W (wr.heap.size) 63 [I u.ts, I u.beta, .slice Au_2 u.hops.length cu_2]) ⟨(by repeat (first | (with_reducible exact Ext.refl _) | (with_reducible assumption) | (with_reducible refine Ext.alloc ?_ _) | (with_reducible refine Ext.drew ?_) | (with_reducible refine Ext.drewN ?_ _) | (with_reducible refine Ext.setCell (p := _) ?_ ?ge _; case ge => (dsimp only; omega)) | (with_reducible refine Ext.trans ?_ (by with_reducible assumption)))), (by repeat (first | (with_reducible exact Blk.new _ _ _) | ((with_reducible refine Blk.new' _ _ _ _ ?_) <;> (simp; done)) | (with_reducible refine Blk.alloc ?_ _) | (with_reducible refine Blk.drew ?_)))⟩ ?_
          rintro w3 ⟨ew3, bu⟩
          have lu := bu.lt
          obtain ⟨pu_0, pu_1, pu_2⟩ := blk3 bu
          have Bu := Lib.hid bu; clear bu
          have bx := Bx.out.ext (w' := w3) (by repeat (first | (with_reducible exact Ext.refl _) | (with_reducible assumption) | (with_reducible refine Ext.alloc ?_ _) | (with_reducible refine Ext.drew ?_) | (with_reducible refine Ext.drewN ?_ _) | (with_reducible refine Ext.setCell (p := _) ?_ ?ge _; case ge => (dsimp only; omega)) | (with_reducible refine Ext.trans ?_ (by with_reducible assumption))))
          have lx := bx.lt
          obtain ⟨px_0, px_1⟩ := blk2 bx
          clear bx
          refine (impl_FirstAS _ (u) _ (by exact Ru.out.ext (by repeat (first | (with_reducible exact Ext.refl _) | (with_reducible assumption) | (with_reducible refine Ext.alloc ?_ _) | (with_reducible refine Ext.drew ?_) | (with_reducible refine Ext.drewN ?_ _) | (with_reducible refine Ext.setCell (p := _) ?_ ?ge _; case ge => (dsimp only; omega)) | (with_reducible refine Ext.trans ?_ (by with_reducible assumption)))))).mono ?_
          rintro e w4a ⟨rfl, ew4a⟩
          have bx := Bx.out.ext (w' := w4a) (by repeat (first | (with_reducible exact Ext.refl _) | (with_reducible assumption) | (with_reducible refine Ext.alloc ?_ _) | (with_reducible refine Ext.drew ?_) | (with_reducible refine Ext.drewN ?_ _) | (with_reducible refine Ext.setCell (p := _) ?_ ?ge _; case ge => (dsimp only; omega)) | (with_reducible refine Ext.trans ?_ (by with_reducible assumption))))
          have lx := bx.lt
          obtain ⟨px_0, px_1⟩ := blk2 bx
          clear bx
          have bu := Bu.out.ext (w' := w4a) (by repeat (first | (with_reducible exact Ext.refl _) | (with_reducible assumption) | (with_reducible refine Ext.alloc ?_ _) | (with_reducible refine Ext.drew ?_) | (with_reducible refine Ext.drewN ?_ _) | (with_reducible refine Ext.setCell (p := _) ?_ ?ge _; case ge => (dsimp only; omega)) | (with_reducible refine Ext.trans ?_ (by with_reducible assumption))))
          have lu := bu.lt
          obtain ⟨pu_0, pu_1, pu_2⟩ := blk3 bu
          clear bu
          rw [h0]
          go_wp2_with fail
          refine (impl_LastAS _ (u) _ (by exact Ru.out.ext (by repeat (first | (with_reducible exact Ext.refl _) | (with_reducible assumption) | (with_reducible refine Ext.alloc ?_ _) | (with_reducible refine Ext.drew ?_) | (with_reducible refine Ext.drewN ?_ _) | (with_reducible refine Ext.setCell (p := _) ?_ ?ge _; case ge => (dsimp only; omega)) | (with_reducible refine Ext.trans ?_ (by with_reducible assumption)))))).mono ?_
          rintro e w4b ⟨rfl, ew4b⟩
          have bx := Bx.out.ext (w' := w4b) (by repeat (first | (with_reducible exact Ext.refl _) | (with_reducible assumption) | (with_reducible refine Ext.alloc ?_ _) | (with_reducible refine Ext.drew ?_) | (with_reducible refine Ext.drewN ?_ _) | (with_reducible refine Ext.setCell (p := _) ?_ ?ge _; case ge => (dsimp only; omega)) | (with_reducible refine Ext.trans ?_ (by with_reducible assumption))))
          have lx := bx.lt
          obtain ⟨px_0, px_1⟩ := blk2 bx
          clear bx
          have bu := Bu.out.ext (w' := w4b) (by repeat (first | (with_reducible exact Ext.refl _) | (with_reducible assumption) | (with_reducible refine Ext.alloc ?_ _) | (with_reducible refine Ext.drew ?_) | (with_reducible refine Ext.drewN ?_ _) | (with_reducible refine Ext.setCell (p := _) ?_ ?ge _; case ge => (dsimp only; omega)) | (with_reducible refine Ext.trans ?_ (by with_reducible assumption))))
          have lu := bu.lt
          obtain ⟨pu_0, pu_1, pu_2⟩ := blk3 bu
          clear bu
          rw [h1]
          clear h0 h1
          go_wp2_with fail
          refine (impl_copySegment _ u _ (by exact Ru.out.ext (by repeat (first | (with_reducible exact Ext.refl _) | (with_reducible assumption) | (with_reducible refine Ext.alloc ?_ _) | (with_reducible refine Ext.drew ?_) | (with_reducible refine Ext.drewN ?_ _) | (with_reducible refine Ext.setCell (p := _) ?_ ?ge _; case ge => (dsimp only; omega)) | (with_reducible refine Ext.trans ?_ (by with_reducible assumption))))) (by omega)).mono ?_
          rintro e w5 ⟨v5, rfl, o5, ew5⟩
          have z4 : wr.heap.size ≤ w4b.heap.size := Ext.size (by repeat (first | (with_reducible exact Ext.refl _) | (with_reducible assumption) | (with_reducible refine Ext.alloc ?_ _) | (with_reducible refine Ext.drew ?_) | (with_reducible refine Ext.drewN ?_ _) | (with_reducible refine Ext.setCell (p := _) ?_ ?ge _; case ge => (dsimp only; omega)) | (with_reducible refine Ext.trans ?_ (by with_reducible assumption))))
          obtain ⟨a5, k5, q5, fp5, hv5, hoc5, hn5, hb5⟩ := o5.to_oc
          subst hv5
          have HOC5 := Lib.hid hoc5; have HN5 := Lib.hid hn5; have HB5 := Lib.hid hb5; clear o5 hoc5 hn5 hb5
          have z5 := ew5.size
          go_wp2_with (at_builtin; refine hold ?_)
          refine unhold (wpList_push (OC := SegmentOC) w0 SegmentOC.keeps SegmentOC.one rfl (.tmp 27) (.tmp 30) _ rfl 63 _ 3 40 Try.underlying90 info_Segment rfl (by omega) _ (ds) [u] wr.heap.size rfl _ 1 1 _ fp5 rfl
            (by exact NO.at' SegmentOC.keeps HNO.out (by repeat (first | (with_reducible exact Ext.refl _) | (with_reducible assumption) | (with_reducible refine Ext.alloc ?_ _) | (with_reducible refine Ext.drew ?_) | (with_reducible refine Ext.drewN ?_ _) | (with_reducible refine Ext.setCell (p := _) ?_ ?ge _; case ge => (dsimp only; omega)) | (with_reducible refine Ext.trans ?_ (by with_reducible assumption))))) (by simp only [World.size_alloc]; omega) (row_one _ _ _ _ _ rfl rfl) (OL.one (SegmentOC.keeps _ _ _ _ _ (fun b hb hs => Below.heap_alloc _ _ _ hs) HOC5.out) rfl) HN5.out (fun b hb => ⟨(by have := HB5.out b hb; omega), (by have := HB5.out b hb; simp only [World.size_alloc]; omega)⟩) (by omega) (by repeat (first | (with_reducible exact Ext.refl _) | (with_reducible assumption) | (with_reducible refine Ext.alloc ?_ _) | (with_reducible refine Ext.drew ?_) | (with_reducible refine Ext.drewN ?_ _) | (with_reducible refine Ext.setCell (p := _) ?_ ?ge _; case ge => (dsimp only; omega)) | (with_reducible refine Ext.trans ?_ (by with_reducible assumption)))) (by simp only [List.length_singleton]; omega) (by omega) ?_)
          intro v6 w6 no6 e6
          have NO6 := Lib.hid no6; clear no6
          go_wp2_with (at_builtin; refine hold ?_)
          go_roundw
          case rel => exact ⟨k + 1, by omega, by go_num, by rw [HS.out]; exact NO6.out, e6⟩
          case measure => simp [intOf]; omega
        · have HS : Hid ((x.core.take (k + 1)).filter (btw a c) = ds) := by unfold Hid; rw [HX.out]; simp [btw, *]
          have g1 : (lastAS u == c) = false := beq_eq_false_iff_ne.2 h1
          go_wp2_with fail
          first | refine name_wp (fun W => Ext wr W ∧ Blk W (wr.heap.size) 63 [I u.ts, I u.beta, .slice Au_2 u.hops.length cu_2]) ⟨(by repeat (first | (with_reducible exact Ext.refl _) | (with_reducible assumption) | (with_reducible refine Ext.alloc ?_ _) | (with_reducible refine Ext.drew ?_) | (with_reducible refine Ext.drewN ?_ _) | (with_reducible refine Ext.setCell (p := _) ?_ ?ge _; case ge => (dsimp only; omega)) | (with_reducible refine Ext.trans ?_ (by with_reducible assumption)))), (by repeat (first | (with_reducible exact Blk.new _ _ _) | ((with_reducible refine Blk.new' _ _ _ _ ?_) <;> (simp; done)) | (with_reducible refine Blk.alloc ?_ _) | (with_reducible refine Blk.drew ?_)))⟩ ?_ | refine name_calls (fun W => Ext wr W ∧ Blk W (wr.heap.size) 63 [I u.ts, I u.beta, .slice Au_2 u.hops.length cu_2]) ⟨(by repeat (first | (with_reducible exact Ext.refl _) | (with_reducible assumption) | (with_reducible refine Ext.alloc ?_ _) | (with_reducible refine Ext.drew ?_) | (with_reducible refine Ext.drewN ?_ _) | (with_reducible refine Ext.setCell (p := _) ?_ ?ge _; case ge => (dsimp only; omega)) | (with_reducible refine Ext.trans ?_ (by with_reducible assumption)))), (by repeat (first | (with_reducible exact Blk.new _ _ _) | ((with_reducible refine Blk.new' _ _ _ _ ?_) <;> (simp; done)) | (with_reducible refine Blk.alloc ?_ _) | (with_reducible refine Blk.drew ?_)))⟩ ?_
          rintro w3 ⟨ew3, bu⟩
          have lu := bu.lt
          obtain ⟨pu_0, pu_1, pu_2⟩ := blk3 bu
          have Bu := Lib.hid bu; clear bu
          have bx := Bx.out.ext (w' := w3) (by repeat (first | (with_reducible exact Ext.refl _) | (with_reducible assumption) | (with_reducible refine Ext.alloc ?_ _) | (with_reducible refine Ext.drew ?_) | (with_reducible refine Ext.drewN ?_ _) | (with_reducible refine Ext.setCell (p := _) ?_ ?ge _; case ge => (dsimp only; omega)) | (with_reducible refine Ext.trans ?_ (by with_reducible assumption))))
          have lx := bx.lt
          obtain ⟨px_0, px_1⟩ := blk2 bx
          clear bx
          refine (impl_FirstAS _ (u) _ (by exact Ru.out.ext (by repeat (first | (with_reducible exact Ext.refl _) | (with_reducible assumption) | (with_reducible refine Ext.alloc ?_ _) | (with_reducible refine Ext.drew ?_) | (with_reducible refine Ext.drewN ?_ _) | (with_reducible refine Ext.setCell (p := _) ?_ ?ge _; case ge => (dsimp only; omega)) | (with_reducible refine Ext.trans ?_ (by with_reducible assumption)))))).mono ?_
          rintro e w4a ⟨rfl, ew4a⟩
          have bx := Bx.out.ext (w' := w4a) (by repeat (first | (with_reducible exact Ext.refl _) | (with_reducible assumption) | (with_reducible refine Ext.alloc ?_ _) | (with_reducible refine Ext.drew ?_) | (with_reducible refine Ext.drewN ?_ _) | (with_reducible refine Ext.setCell (p := _) ?_ ?ge _; case ge => (dsimp only; omega)) | (with_reducible refine Ext.trans ?_ (by with_reducible assumption))))
          have lx := bx.lt
          obtain ⟨px_0, px_1⟩ := blk2 bx
          clear bx
          have bu := Bu.out.ext (w' := w4a) (by repeat (first | (with_reducible exact Ext.refl _) | (with_reducible assumption) | (with_reducible refine Ext.alloc ?_ _) | (with_reducible refine Ext.drew ?_) | (with_reducible refine Ext.drewN ?_ _) | (with_reducible refine Ext.setCell (p := _) ?_ ?ge _; case ge => (dsimp only; omega)) | (with_reducible refine Ext.trans ?_ (by with_reducible assumption))))
          have lu := bu.lt
          obtain ⟨pu_0, pu_1, pu_2⟩ := blk3 bu
          clear bu
          rw [h0]
          go_wp2_with fail
          refine (impl_LastAS _ (u) _ (by exact Ru.out.ext (by repeat (first | (with_reducible exact Ext.refl _) | (with_reducible assumption) | (with_reducible refine Ext.alloc ?_ _) | (with_reducible refine Ext.drew ?_) | (with_reducible refine Ext.drewN ?_ _) | (with_reducible refine Ext.setCell (p := _) ?_ ?ge _; case ge => (dsimp only; omega)) | (with_reducible refine Ext.trans ?_ (by with_reducible assumption)))))).mono ?_
          rintro e w4b ⟨rfl, ew4b⟩
          have bx := Bx.out.ext (w' := w4b) (by repeat (first | (with_reducible exact Ext.refl _) | (with_reducible assumption) | (with_reducible refine Ext.alloc ?_ _) | (with_reducible refine Ext.drew ?_) | (with_reducible refine Ext.drewN ?_ _) | (with_reducible refine Ext.setCell (p := _) ?_ ?ge _; case ge => (dsimp only; omega)) | (with_reducible refine Ext.trans ?_ (by with_reducible assumption))))
          have lx := bx.lt
          obtain ⟨px_0, px_1⟩ := blk2 bx
          clear bx
          have bu := Bu.out.ext (w' := w4b) (by repeat (first | (with_reducible exact Ext.refl _) | (with_reducible assumption) | (with_reducible refine Ext.alloc ?_ _) | (with_reducible refine Ext.drew ?_) | (with_reducible refine Ext.drewN ?_ _) | (with_reducible refine Ext.setCell (p := _) ?_ ?ge _; case ge => (dsimp only; omega)) | (with_reducible refine Ext.trans ?_ (by with_reducible assumption))))
          have lu := bu.lt
          obtain ⟨pu_0, pu_1, pu_2⟩ := blk3 bu
          clear bu
          generalize lastAS u = qq at *
          go_wp2_with fail
          go_roundw
          case rel => exact ⟨k + 1, by omega, by go_num, by rw [HS.out]; exact NO.up SegmentOC.keeps HNO.out (by repeat (first | (with_reducible exact Ext.refl _) | (with_reducible assumption) | (with_reducible refine Ext.alloc ?_ _) | (with_reducible refine Ext.drew ?_) | (with_reducible refine Ext.drewN ?_ _) | (with_reducible refine Ext.setCell (p := _) ?_ ?ge _; case ge => (dsimp only; omega)) | (with_reducible refine Ext.trans ?_ (by with_reducible assumption)))) (Nat.le_refl _), (by repeat (first | (with_reducible exact Ext.refl _) | (with_reducible assumption) | (with_reducible refine Ext.alloc ?_ _) | (with_reducible refine Ext.drew ?_) | (with_reducible refine Ext.drewN ?_ _) | (with_reducible refine Ext.setCell (p := _) ?_ ?ge _; case ge => (dsimp only; omega)) | (with_reducible refine Ext.trans ?_ (by with_reducible assumption))))⟩
          case measure => simp [intOf]; omega
      · have HS : Hid ((x.core.take (k + 1)).filter (btw a c) = ds) := by unfold Hid; rw [HX.out]; simp [btw, *]
        have g0 : (firstAS u == a) = false := beq_eq_false_iff_ne.2 h0
        go_wp2_with fail
        first | refine name_wp (fun W => Ext wr W ∧ Blk W (wr.heap.size) 63 [I u.ts, I u.beta, .slice Au_2 u.hops.length cu_2]) ⟨(by repeat (first | (with_reducible exact Ext.refl _) | (with_reducible assumption) | (with_reducible refine Ext.alloc ?_ _) | (with_reducible refine Ext.drew ?_) | (with_reducible refine Ext.drewN ?_ _) | (with_reducible refine Ext.setCell (p := _) ?_ ?ge _; case ge => (dsimp only; omega)) | (with_reducible refine Ext.trans ?_ (by with_reducible assumption)))), (by repeat (first | (with_reducible exact Blk.new _ _ _) | ((with_reducible refine Blk.new' _ _ _ _ ?_) <;> (simp; done)) | (with_reducible refine Blk.alloc ?_ _) | (with_reducible refine Blk.drew ?_)))⟩ ?_ | refine name_calls (fun W => Ext wr W ∧ Blk W (wr.heap.size) 63 [I u.ts, I u.beta, .slice Au_2 u.hops.length cu_2]) ⟨(by repeat (first | (with_reducible exact Ext.refl _) | (with_reducible assumption) | (with_reducible refine Ext.alloc ?_ _) | (with_reducible refine Ext.drew ?_) | (with_reducible refine Ext.drewN ?_ _) | (with_reducible refine Ext.setCell (p := _) ?_ ?ge _; case ge => (dsimp only; omega)) | (with_reducible refine Ext.trans ?_ (by with_reducible assumption)))), (by repeat (first | (with_reducible exact Blk.new _ _ _) | ((with_reducible refine Blk.new' _ _ _ _ ?_) <;> (simp; done)) | (with_reducible refine Blk.alloc ?_ _) | (with_reducible refine Blk.drew ?_)))⟩ ?_
        rintro w3 ⟨ew3, bu⟩
        have lu := bu.lt
        obtain ⟨pu_0, pu_1, pu_2⟩ := blk3 bu
        have Bu := Lib.hid bu; clear bu
        have bx := Bx.out.ext (w' := w3) (by repeat (first | (with_reducible exact Ext.refl _) | (with_reducible assumption) | (with_reducible refine Ext.alloc ?_ _) | (with_reducible refine Ext.drew ?_) | (with_reducible refine Ext.drewN ?_ _) | (with_reducible refine Ext.setCell (p := _) ?_ ?ge _; case ge => (dsimp only; omega)) | (with_reducible refine Ext.trans ?_ (by with_reducible assumption))))
        have lx := bx.lt
        obtain ⟨px_0, px_1⟩ := blk2 bx
        clear bx
        refine (impl_FirstAS _ (u) _ (by exact Ru.out.ext (by repeat (first | (with_reducible exact Ext.refl _) | (with_reducible assumption) | (with_reducible refine Ext.alloc ?_ _) | (with_reducible refine Ext.drew ?_) | (with_reducible refine Ext.drewN ?_ _) | (with_reducible refine Ext.setCell (p := _) ?_ ?ge _; case ge => (dsimp only; omega)) | (with_reducible refine Ext.trans ?_ (by with_reducible assumption)))))).mono ?_
        rintro e w4a ⟨rfl, ew4a⟩
        have bx := Bx.out.ext (w' := w4a) (by repeat (first | (with_reducible exact Ext.refl _) | (with_reducible assumption) | (with_reducible refine Ext.alloc ?_ _) | (with_reducible refine Ext.drew ?_) | (with_reducible refine Ext.drewN ?_ _) | (with_reducible refine Ext.setCell (p := _) ?_ ?ge _; case ge => (dsimp only; omega)) | (with_reducible refine Ext.trans ?_ (by with_reducible assumption))))
        have lx := bx.lt
        obtain ⟨px_0, px_1⟩ := blk2 bx
        clear bx
        have bu := Bu.out.ext (w' := w4a) (by repeat (first | (with_reducible exact Ext.refl _) | (with_reducible assumption) | (with_reducible refine Ext.alloc ?_ _) | (with_reducible refine Ext.drew ?_) | (with_reducible refine Ext.drewN ?_ _) | (with_reducible refine Ext.setCell (p := _) ?_ ?ge _; case ge => (dsimp only; omega)) | (with_reducible refine Ext.trans ?_ (by with_reducible assumption))))
        have lu := bu.lt
        obtain ⟨pu_0, pu_1, pu_2⟩ := blk3 bu
        clear bu
        generalize firstAS u = qq at *
        go_wp2_with fail
        go_roundw
        case rel => exact ⟨k + 1, by omega, by go_num, by rw [HS.out]; exact NO.up SegmentOC.keeps HNO.out (by repeat (first | (with_reducible exact Ext.refl _) | (with_reducible assumption) | (with_reducible refine Ext.alloc ?_ _) | (with_reducible refine Ext.drew ?_) | (with_reducible refine Ext.drewN ?_ _) | (with_reducible refine Ext.setCell (p := _) ?_ ?ge _; case ge => (dsimp only; omega)) | (with_reducible refine Ext.trans ?_ (by with_reducible assumption)))) (Nat.le_refl _), (by repeat (first | (with_reducible exact Ext.refl _) | (with_reducible assumption) | (with_reducible refine Ext.alloc ?_ _) | (with_reducible refine Ext.drew ?_) | (with_reducible refine Ext.drewN ?_ _) | (with_reducible refine Ext.setCell (p := _) ?_ ?ge _; case ge => (dsimp only; omega)) | (with_reducible refine Ext.trans ?_ (by with_reducible assumption))))⟩
        case measure => simp [intOf]; omega
    · obtain rfl : k = x.core.length := by omega
      go_wp2_with fail
      go_ret
      refine ⟨_, rfl, ?_, (by repeat (first | (with_reducible exact Ext.refl _) | (with_reducible assumption) | (with_reducible refine Ext.alloc ?_ _) | (with_reducible refine Ext.drew ?_) | (with_reducible refine Ext.drewN ?_ _) | (with_reducible refine Ext.setCell (p := _) ?_ ?ge _; case ge => (dsimp only; omega)) | (with_reducible refine Ext.trans ?_ (by with_reducible assumption))))⟩
      have h := HNO.out
      rw [List.take_length] at h
      exact NO.more h (by have := ew0.size; omega) (Nat.le_refl _)
set_option maxRecDepth 100000 in
set_option maxHeartbeats 1000000 in
theorem spec_l16Between (vx : Value) (a c : Int) (x : DSegmentDatabase) (w : World) (hx : SegmentDatabaseV w.heap.size w vx x) (hn : segTot x.down + segTot x.core ≤ 1048576) :
    Calls Try.prog 120 #[vx, I a, I c] w fun e w' => ∃ v', e = .returned v' ∧ SegmentSO w.heap.size w'.heap.size w' v' (coreFrom x a c) ∧ Ext w w' := by
  obtain ⟨Ax_0, nx_0, cx_0, Ax_1, nx_1, cx_1, rfl, sx_0, sx_1⟩ := id hx
  obtain ⟨lx_0, kx_0, mx_0⟩ := sx_0.len
  subst lx_0
  unfold maxLen at mx_0
  obtain ⟨lx_1, kx_1, mx_1⟩ := sx_1.len
  subst lx_1
  unfold maxLen at mx_1
  have Rx := Lib.hid hx; clear hx
  have Sx_0 := Lib.hid sx_0; clear sx_0
  have Sx_1 := Lib.hid sx_1; clear sx_1
  have hn : totS (fun u : DSegment => u.hops.length) x.down + totS (fun u : DSegment => u.hops.length) x.core ≤ 1048576 := hn
  have hdl := totS_len (fun u : DSegment => u.hops.length) x.core
  go_enter Try.func120, Try.ntmps120
  go_wp2_with fail
  refine name_wp (fun W => ∃ wb, Ext w wb ∧ Blk wb w.heap.size 93 [.slice Ax_0 x.down.length cx_0, .slice Ax_1 x.core.length cx_1] ∧ Ext wb W ∧ SegmentSO wb.heap.size W.heap.size W (.slice (some ⟨w.heap.size + 1, 0, none⟩) 0 0) []) ⟨_, (Ext.refl _).alloc _, Blk.new _ _ _, (Ext.refl _).alloc _, NO.zero _ _ _ _ _ _ (by simp) (Nat.le_refl _)⟩ ?_
  rintro wz ⟨w0, ew0, bx, ez, hz⟩
  have Bx := Lib.hid bx; clear bx
  have HZ := Lib.hid hz; clear hz
  go_loopw [7, 8] (fun v i wr => ∃ k : Nat, k ≤ x.core.length ∧ i = I k ∧ SegmentSO w0.heap.size wr.heap.size wr v ((x.core.take k).filter (btw a c)) ∧ Ext w0 wr) (fun _ i _ => x.core.length - (intOf i).toNat)
  case atStart => exact ⟨0, by omega, rfl, HZ.out, (by repeat (first | (with_reducible exact Ext.refl _) | (with_reducible assumption) | (with_reducible refine Ext.alloc ?_ _) | (with_reducible refine Ext.drew ?_) | (with_reducible refine Ext.drewN ?_ _) | (with_reducible refine Ext.setCell (p := _) ?_ ?ge _; case ge => (dsimp only; omega)) | (with_reducible refine Ext.trans ?_ (by with_reducible assumption))))⟩
  case round =>
    obtain ⟨k, hk, rfl, hno, he⟩ := hrel
    have HNO := Lib.hid hno; clear hno
    have zr := he.size
    have bx := Bx.out.ext (w' := wr) (by repeat (first | (with_reducible exact Ext.refl _) | (with_reducible assumption) | (with_reducible refine Ext.alloc ?_ _) | (with_reducible refine Ext.drew ?_) | (with_reducible refine Ext.drewN ?_ _) | (with_reducible refine Ext.setCell (p := _) ?_ ?ge _; case ge => (dsimp only; omega)) | (with_reducible refine Ext.trans ?_ (by with_reducible assumption))))
    have lx := bx.lt
    obtain ⟨px_0, px_1⟩ := blk2 bx
    clear bx
    by_cases hlt : k < x.core.length
    · obtain ⟨b, off, rfl, hb, hkl, hc⟩ := (Sx_1.out.ext (w' := wr) (by repeat (first | (with_reducible exact Ext.refl _) | (with_reducible assumption) | (with_reducible refine Ext.alloc ?_ _) | (with_reducible refine Ext.drew ?_) | (with_reducible refine Ext.drewN ?_ _) | (with_reducible refine Ext.setCell (p := _) ?_ ?ge _; case ge => (dsimp only; omega)) | (with_reducible refine Ext.trans ?_ (by with_reducible assumption))))).at_ hlt
      have hyl := totS_get (fun u : DSegment => u.hops.length) x.core k hkl
      have HX := Lib.hid (filter_snoc (btw a c) x.core k hkl)
      have hfl := filter_take_len (btw a c) x.core k
      have hyl : x.core[k].hops.length ≤ totS (fun u : DSegment => u.hops.length) x.core := hyl
      generalize x.core[k] = u at *
      generalize hds : (x.core.take k).filter (btw a c) = ds at *
      have HDS := Lib.hid hds; clear hds
      have i0 : (0 : Int) ≤ (k : Int) := by omega
      have i1 : (k : Int) < (x.core.length : Int) := by omega
      obtain ⟨Au_2, nu_2, cu_2, hu_0, hu_1, hu_2, su_2⟩ := hc
      obtain ⟨lu_2, ku_2, mu_2⟩ := su_2.len
      subst lu_2
      unfold maxLen at mu_2
      have Ru : Hid (SegmentV wr.heap.size wr (.agg #[I u.ts, I u.beta, .slice Au_2 u.hops.length cu_2]) u) := ⟨_, _, _, rfl, su_2⟩
      have Su_2 := Lib.hid su_2; clear su_2
      by_cases h0 : firstAS u = a
      · by_cases h1 : lastAS u = c
        · have HS : Hid ((x.core.take (k + 1)).filter (btw a c) = ds ++ [u]) := by unfold Hid; rw [HX.out]; simp [btw, *]
          go_wp2_with fail
          refine (spec_FirstAS _ (u) _ (by exact Ru.out.ext (by repeat (first | (with_reducible exact Ext.refl _) | (with_reducible assumption) | (with_reducible refine Ext.alloc ?_ _) | (with_reducible refine Ext.drew ?_) | (with_reducible refine Ext.drewN ?_ _) | (with_reducible refine Ext.setCell (p := _) ?_ ?ge _; case ge => (dsimp only; omega)) | (with_reducible refine Ext.trans ?_ (by with_reducible assumption)))))).mono ?_
          rintro e w4a ⟨rfl, ew4a⟩
          have bx := Bx.out.ext (w' := w4a) (by repeat (first | (with_reducible exact Ext.refl _) | (with_reducible assumption) | (with_reducible refine Ext.alloc ?_ _) | (with_reducible refine Ext.drew ?_) | (with_reducible refine Ext.drewN ?_ _) | (with_reducible refine Ext.setCell (p := _) ?_ ?ge _; case ge => (dsimp only; omega)) | (with_reducible refine Ext.trans ?_ (by with_reducible assumption))))
          have lx := bx.lt
          obtain ⟨px_0, px_1⟩ := blk2 bx
          clear bx
          obtain ⟨hCw4a, -, hZw4a⟩ := (Ext.facts (a := wr) (b := w4a) (by repeat (first | (with_reducible exact Ext.refl _) | (with_reducible assumption) | (with_reducible refine Ext.alloc ?_ _) | (with_reducible refine Ext.drew ?_) | (with_reducible refine Ext.drewN ?_ _) | (with_reducible refine Ext.setCell (p := _) ?_ ?ge _; case ge => (dsimp only; omega)) | (with_reducible refine Ext.trans ?_ (by with_reducible assumption)))))
          rw [h0]
          go_wp2_with fail
          refine (spec_LastAS _ (u) _ (by exact Ru.out.ext (by repeat (first | (with_reducible exact Ext.refl _) | (with_reducible assumption) | (with_reducible refine Ext.alloc ?_ _) | (with_reducible refine Ext.drew ?_) | (with_reducible refine Ext.drewN ?_ _) | (with_reducible refine Ext.setCell (p := _) ?_ ?ge _; case ge => (dsimp only; omega)) | (with_reducible refine Ext.trans ?_ (by with_reducible assumption)))))).mono ?_
          rintro e w4b ⟨rfl, ew4b⟩
          have bx := Bx.out.ext (w' := w4b) (by repeat (first | (with_reducible exact Ext.refl _) | (with_reducible assumption) | (with_reducible refine Ext.alloc ?_ _) | (with_reducible refine Ext.drew ?_) | (with_reducible refine Ext.drewN ?_ _) | (with_reducible refine Ext.setCell (p := _) ?_ ?ge _; case ge => (dsimp only; omega)) | (with_reducible refine Ext.trans ?_ (by with_reducible assumption))))
          have lx := bx.lt
          obtain ⟨px_0, px_1⟩ := blk2 bx
          clear bx
          obtain ⟨hCw4b, -, hZw4b⟩ := (Ext.facts (a := wr) (b := w4b) (by repeat (first | (with_reducible exact Ext.refl _) | (with_reducible assumption) | (with_reducible refine Ext.alloc ?_ _) | (with_reducible refine Ext.drew ?_) | (with_reducible refine Ext.drewN ?_ _) | (with_reducible refine Ext.setCell (p := _) ?_ ?ge _; case ge => (dsimp only; omega)) | (with_reducible refine Ext.trans ?_ (by with_reducible assumption)))))
          rw [h1]
          clear h0 h1
          go_wp2_with fail
          refine (spec_l9Copy _ u _ (by exact Ru.out.ext (by repeat (first | (with_reducible exact Ext.refl _) | (with_reducible assumption) | (with_reducible refine Ext.alloc ?_ _) | (with_reducible refine Ext.drew ?_) | (with_reducible refine Ext.drewN ?_ _) | (with_reducible refine Ext.setCell (p := _) ?_ ?ge _; case ge => (dsimp only; omega)) | (with_reducible refine Ext.trans ?_ (by with_reducible assumption))))) (by omega)).mono ?_
          rintro e w5 ⟨v5, rfl, o5, ew5⟩
          have z4 : wr.heap.size ≤ w4b.heap.size := Ext.size (by repeat (first | (with_reducible exact Ext.refl _) | (with_reducible assumption) | (with_reducible refine Ext.alloc ?_ _) | (with_reducible refine Ext.drew ?_) | (with_reducible refine Ext.drewN ?_ _) | (with_reducible refine Ext.setCell (p := _) ?_ ?ge _; case ge => (dsimp only; omega)) | (with_reducible refine Ext.trans ?_ (by with_reducible assumption))))
          obtain ⟨a5, k5, q5, fp5, hv5, hoc5, hn5, hb5⟩ := o5.to_oc
          subst hv5
          have HOC5 := Lib.hid hoc5; have HN5 := Lib.hid hn5; have HB5 := Lib.hid hb5; clear o5 hoc5 hn5 hb5
          have z5 := ew5.size
          go_wp2_with (at_builtin; refine hold ?_)
          refine unhold (wpList_push (OC := SegmentOC) w0 SegmentOC.keeps SegmentOC.one rfl (.tmp 35) (.tmp 42) _ rfl 63 _ 3 40 Try.underlying90 info_Segment rfl (by omega) _ (ds) [u] wr.heap.size rfl _ 1 1 _ fp5 rfl
            (by exact NO.at' SegmentOC.keeps HNO.out (by repeat (first | (with_reducible exact Ext.refl _) | (with_reducible assumption) | (with_reducible refine Ext.alloc ?_ _) | (with_reducible refine Ext.drew ?_) | (with_reducible refine Ext.drewN ?_ _) | (with_reducible refine Ext.setCell (p := _) ?_ ?ge _; case ge => (dsimp only; omega)) | (with_reducible refine Ext.trans ?_ (by with_reducible assumption))))) (by simp only [World.size_alloc]; omega) (row_one _ _ _ _ _ rfl rfl) (OL.one (SegmentOC.keeps _ _ _ _ _ (fun b hb hs => Below.heap_alloc _ _ _ hs) HOC5.out) rfl) HN5.out (fun b hb => ⟨(by have := HB5.out b hb; omega), (by have := HB5.out b hb; simp only [World.size_alloc]; omega)⟩) (by omega) (by repeat (first | (with_reducible exact Ext.refl _) | (with_reducible assumption) | (with_reducible refine Ext.alloc ?_ _) | (with_reducible refine Ext.drew ?_) | (with_reducible refine Ext.drewN ?_ _) | (with_reducible refine Ext.setCell (p := _) ?_ ?ge _; case ge => (dsimp only; omega)) | (with_reducible refine Ext.trans ?_ (by with_reducible assumption)))) (by simp only [List.length_singleton]; omega) (by omega) ?_)
          intro v6 w6 no6 e6
          have NO6 := Lib.hid no6; clear no6
          go_wp2_with (at_builtin; refine hold ?_)
          go_roundw
          case rel => exact ⟨k + 1, by omega, by go_num, by rw [HS.out]; exact NO6.out, e6⟩
          case measure => simp [intOf]; omega
        · have HS : Hid ((x.core.take (k + 1)).filter (btw a c) = ds) := by unfold Hid; rw [HX.out]; simp [btw, *]
          have g1 : (lastAS u == c) = false := beq_eq_false_iff_ne.2 h1
          go_wp2_with fail
          refine (spec_FirstAS _ (u) _ (by exact Ru.out.ext (by repeat (first | (with_reducible exact Ext.refl _) | (with_reducible assumption) | (with_reducible refine Ext.alloc ?_ _) | (with_reducible refine Ext.drew ?_) | (with_reducible refine Ext.drewN ?_ _) | (with_reducible refine Ext.setCell (p := _) ?_ ?ge _; case ge => (dsimp only; omega)) | (with_reducible refine Ext.trans ?_ (by with_reducible assumption)))))).mono ?_
          rintro e w4a ⟨rfl, ew4a⟩
          have bx := Bx.out.ext (w' := w4a) (by repeat (first | (with_reducible exact Ext.refl _) | (with_reducible assumption) | (with_reducible refine Ext.alloc ?_ _) | (with_reducible refine Ext.drew ?_) | (with_reducible refine Ext.drewN ?_ _) | (with_reducible refine Ext.setCell (p := _) ?_ ?ge _; case ge => (dsimp only; omega)) | (with_reducible refine Ext.trans ?_ (by with_reducible assumption))))
          have lx := bx.lt
          obtain ⟨px_0, px_1⟩ := blk2 bx
          clear bx
          obtain ⟨hCw4a, -, hZw4a⟩ := (Ext.facts (a := wr) (b := w4a) (by repeat (first | (with_reducible exact Ext.refl _) | (with_reducible assumption) | (with_reducible refine Ext.alloc ?_ _) | (with_reducible refine Ext.drew ?_) | (with_reducible refine Ext.drewN ?_ _) | (with_reducible refine Ext.setCell (p := _) ?_ ?ge _; case ge => (dsimp only; omega)) | (with_reducible refine Ext.trans ?_ (by with_reducible assumption)))))
          rw [h0]
          go_wp2_with fail
          refine (spec_LastAS _ (u) _ (by exact Ru.out.ext (by repeat (first | (with_reducible exact Ext.refl _) | (with_reducible assumption) | (with_reducible refine Ext.alloc ?_ _) | (with_reducible refine Ext.drew ?_) | (with_reducible refine Ext.drewN ?_ _) | (with_reducible refine Ext.setCell (p := _) ?_ ?ge _; case ge => (dsimp only; omega)) | (with_reducible refine Ext.trans ?_ (by with_reducible assumption)))))).mono ?_
          rintro e w4b ⟨rfl, ew4b⟩
          have bx := Bx.out.ext (w' := w4b) (by repeat (first | (with_reducible exact Ext.refl _) | (with_reducible assumption) | (with_reducible refine Ext.alloc ?_ _) | (with_reducible refine Ext.drew ?_) | (with_reducible refine Ext.drewN ?_ _) | (with_reducible refine Ext.setCell (p := _) ?_ ?ge _; case ge => (dsimp only; omega)) | (with_reducible refine Ext.trans ?_ (by with_reducible assumption))))
          have lx := bx.lt
          obtain ⟨px_0, px_1⟩ := blk2 bx
          clear bx
          obtain ⟨hCw4b, -, hZw4b⟩ := (Ext.facts (a := wr) (b := w4b) (by repeat (first | (with_reducible exact Ext.refl _) | (with_reducible assumption) | (with_reducible refine Ext.alloc ?_ _) | (with_reducible refine Ext.drew ?_) | (with_reducible refine Ext.drewN ?_ _) | (with_reducible refine Ext.setCell (p := _) ?_ ?ge _; case ge => (dsimp only; omega)) | (with_reducible refine Ext.trans ?_ (by with_reducible assumption)))))
          generalize lastAS u = qq at *
          go_wp2_with fail
          go_roundw
          case rel => exact ⟨k + 1, by omega, by go_num, by rw [HS.out]; exact NO.up SegmentOC.keeps HNO.out (by repeat (first | (with_reducible exact Ext.refl _) | (with_reducible assumption) | (with_reducible refine Ext.alloc ?_ _) | (with_reducible refine Ext.drew ?_) | (with_reducible refine Ext.drewN ?_ _) | (with_reducible refine Ext.setCell (p := _) ?_ ?ge _; case ge => (dsimp only; omega)) | (with_reducible refine Ext.trans ?_ (by with_reducible assumption)))) (Nat.le_refl _), (by repeat (first | (with_reducible exact Ext.refl _) | (with_reducible assumption) | (with_reducible refine Ext.alloc ?_ _) | (with_reducible refine Ext.drew ?_) | (with_reducible refine Ext.drewN ?_ _) | (with_reducible refine Ext.setCell (p := _) ?_ ?ge _; case ge => (dsimp only; omega)) | (with_reducible refine Ext.trans ?_ (by with_reducible assumption))))⟩
          case measure => simp [intOf]; omega
      · have HS : Hid ((x.core.take (k + 1)).filter (btw a c) = ds) := by unfold Hid; rw [HX.out]; simp [btw, *]
        have g0 : (firstAS u == a) = false := beq_eq_false_iff_ne.2 h0
        go_wp2_with fail
        refine (spec_FirstAS _ (u) _ (by exact Ru.out.ext (by repeat (first | (with_reducible exact Ext.refl _) | (with_reducible assumption) | (with_reducible refine Ext.alloc ?_ _) | (with_reducible refine Ext.drew ?_) | (with_reducible refine Ext.drewN ?_ _) | (with_reducible refine Ext.setCell (p := _) ?_ ?ge _; case ge => (dsimp only; omega)) | (with_reducible refine Ext.trans ?_ (by with_reducible assumption)))))).mono ?_
        rintro e w4a ⟨rfl, ew4a⟩
        have bx := Bx.out.ext (w' := w4a) (by repeat (first | (with_reducible exact Ext.refl _) | (with_reducible assumption) | (with_reducible refine Ext.alloc ?_ _) | (with_reducible refine Ext.drew ?_) | (with_reducible refine Ext.drewN ?_ _) | (with_reducible refine Ext.setCell (p := _) ?_ ?ge _; case ge => (dsimp only; omega)) | (with_reducible refine Ext.trans ?_ (by with_reducible assumption))))
        have lx := bx.lt
        obtain ⟨px_0, px_1⟩ := blk2 bx
        clear bx
        obtain ⟨hCw4a, -, hZw4a⟩ := (Ext.facts (a := wr) (b := w4a) (by repeat (first | (with_reducible exact Ext.refl _) | (with_reducible assumption) | (with_reducible refine Ext.alloc ?_ _) | (with_reducible refine Ext.drew ?_) | (with_reducible refine Ext.drewN ?_ _) | (with_reducible refine Ext.setCell (p := _) ?_ ?ge _; case ge => (dsimp only; omega)) | (with_reducible refine Ext.trans ?_ (by with_reducible assumption)))))
        generalize firstAS u = qq at *
        go_wp2_with fail
        go_roundw
        case rel => exact ⟨k + 1, by omega, by go_num, by rw [HS.out]; exact NO.up SegmentOC.keeps HNO.out (by repeat (first | (with_reducible exact Ext.refl _) | (with_reducible assumption) | (with_reducible refine Ext.alloc ?_ _) | (with_reducible refine Ext.drew ?_) | (with_reducible refine Ext.drewN ?_ _) | (with_reducible refine Ext.setCell (p := _) ?_ ?ge _; case ge => (dsimp only; omega)) | (with_reducible refine Ext.trans ?_ (by with_reducible assumption)))) (Nat.le_refl _), (by repeat (first | (with_reducible exact Ext.refl _) | (with_reducible assumption) | (with_reducible refine Ext.alloc ?_ _) | (with_reducible refine Ext.drew ?_) | (with_reducible refine Ext.drewN ?_ _) | (with_reducible refine Ext.setCell (p := _) ?_ ?ge _; case ge => (dsimp only; omega)) | (with_reducible refine Ext.trans ?_ (by with_reducible assumption))))⟩
        case measure => simp [intOf]; omega
    · obtain rfl : k = x.core.length := by omega
      go_wp2_with fail
      go_ret
      refine ⟨_, rfl, ?_, (by repeat (first | (with_reducible exact Ext.refl _) | (with_reducible assumption) | (with_reducible refine Ext.alloc ?_ _) | (with_reducible refine Ext.drew ?_) | (with_reducible refine Ext.drewN ?_ _) | (with_reducible refine Ext.setCell (p := _) ?_ ?ge _; case ge => (dsimp only; omega)) | (with_reducible refine Ext.trans ?_ (by with_reducible assumption))))⟩
      have h := HNO.out
      rw [List.take_length] at h
      exact NO.more h (by have := ew0.size; omega) (Nat.le_refl _)
end Go.Proofs.Ytpfioedfpihbdaa
