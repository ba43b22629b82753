/- Contracts of the program's and the reference's functions on the segment database: CoreSegments. -/
import Derived.Test.YtpfioedfpihbdaaL16c
import Derived.Test.YtpfioedfpihbdaaPushD
namespace Go.Proofs.Ytpfioedfpihbdaa
open Go.RowKit
set_option linter.unusedVariables false
theorem keepE {w0 w2 : World} (h : Ext w0 w2) : w0.heap.size ≤ w2.heap.size ∧ ∀ b o, b < w0.heap.size → w2.cell? ⟨b, o, none⟩ = w0.cell? ⟨b, o, none⟩ := ⟨h.size, fun _ _ hb => h.cell hb⟩
set_option maxRecDepth 100000 in
set_option maxHeartbeats 1000000 in
theorem impl_CoreSegments (vx : Value) (a c : Int) (x : DSegmentDatabase) (w : World) (hx : SegmentDatabaseV w.heap.size w vx x) (hn : segTot x.down + segTot x.core ≤ 1048576) :
    Calls Try.prog 56 #[vx, I a, I c] w fun e w' => ∃ v', e = .returned v' ∧ SegmentSO w.heap.size w'.heap.size w' v' (coreSegs x a c) ∧ Ext w w' := by
  obtain ⟨Ax_0, nx_0, cx_0, Ax_1, nx_1, cx_1, rfl, sx_0, sx_1⟩ := id hx
  obtain ⟨lx_0, kx_0, mx_0⟩ := sx_0.len
  subst lx_0
  unfold maxLen at mx_0
  obtain ⟨lx_1, kx_1, mx_1⟩ := sx_1.len
  subst lx_1
  unfold maxLen at mx_1
  have Rx := Lib.hid hx; clear hx
  have Sx_0 := Lib.hid sx_0; clear sx_0
  have Sx_1 := Lib.hid sx_1; clear sx_1
  have hcl := totS_len (fun u : DSegment => u.hops.length) x.core
  have hn' : totS (fun u : DSegment => u.hops.length) x.down + totS (fun u : DSegment => u.hops.length) x.core ≤ 1048576 := hn
  have hl1 : (coreFrom x a c).length ≤ x.core.length := List.length_filter_le _ _
  have hl2 : (coreFrom x c a).length ≤ x.core.length := List.length_filter_le _ _
  go_enter Try.func56, Try.ntmps56
  go_wp2_with fail
  first | refine name_wp (fun W => Ext w W ∧ Blk W (w.heap.size) 93 [.slice Ax_0 x.down.length cx_0, .slice Ax_1 x.core.length cx_1]) ⟨(by repeat (first | (with_reducible exact Ext.refl _) | (with_reducible assumption) | (with_reducible refine Ext.alloc ?_ _) | (with_reducible refine Ext.drew ?_) | (with_reducible refine Ext.drewN ?_ _) | (with_reducible refine Ext.setCell (p := _) ?_ ?ge _; case ge => (dsimp only; omega)) | (with_reducible refine Ext.trans ?_ (by with_reducible assumption)))), (by repeat (first | (with_reducible exact Blk.new _ _ _) | ((with_reducible refine Blk.new' _ _ _ _ ?_) <;> (simp; done)) | (with_reducible refine Blk.alloc ?_ _) | (with_reducible refine Blk.drew ?_)))⟩ ?_ | refine name_calls (fun W => Ext w W ∧ Blk W (w.heap.size) 93 [.slice Ax_0 x.down.length cx_0, .slice Ax_1 x.core.length cx_1]) ⟨(by repeat (first | (with_reducible exact Ext.refl _) | (with_reducible assumption) | (with_reducible refine Ext.alloc ?_ _) | (with_reducible refine Ext.drew ?_) | (with_reducible refine Ext.drewN ?_ _) | (with_reducible refine Ext.setCell (p := _) ?_ ?ge _; case ge => (dsimp only; omega)) | (with_reducible refine Ext.trans ?_ (by with_reducible assumption)))), (by repeat (first | (with_reducible exact Blk.new _ _ _) | ((with_reducible refine Blk.new' _ _ _ _ ?_) <;> (simp; done)) | (with_reducible refine Blk.alloc ?_ _) | (with_reducible refine Blk.drew ?_)))⟩ ?_
  rintro w0 ⟨ew0, bx⟩
  have lx := bx.lt
  obtain ⟨px_0, px_1⟩ := blk2 bx
  have Bx := Lib.hid bx; clear bx
  go_region_held3 (fun W => w0.heap.size ≤ W.heap.size ∧ ∀ b o, b < w0.heap.size → W.cell? ⟨b, o, none⟩ = w0.cell? ⟨b, o, none⟩)
    (first | exact ⟨Nat.le_refl _, fun _ _ _ => rfl⟩ | exact keepC (by assumption) e5 | exact keepE e6)
    (first | (go_at_call 121; refine (impl_coreFrom _ _ _ x _ (by exact Rx.out.ext (by repeat (first | (with_reducible exact Ext.refl _) | (with_reducible assumption) | (with_reducible refine Ext.alloc ?_ _) | (with_reducible refine Ext.drew ?_) | (with_reducible refine Ext.drewN ?_ _) | (with_reducible refine Ext.setCell (p := _) ?_ ?ge _; case ge => (dsimp only; omega)) | (with_reducible refine Ext.trans ?_ (by with_reducible assumption))))) hn).mono ?_; rintro e w5 ⟨v5, rfl, o5, e5⟩; obtain ⟨A5, k5, c5, hv5⟩ := NO.slice o5; subst hv5; have z5 := e5.size; (try simp only [World.size_drew] at o5 z5)) | (refine step_pushD (OC := SegmentOC) (by rfl) w0 SegmentOC.keeps SegmentOC.one (.tmp 10) (.tmp 14) _ (by rfl) 63 _ 3 40 Try.underlying90 info_Segment rfl (by omega) _ (coreFrom x a c) (coreFrom x c a) _ _ _ _ (by rfl) _ _ _ (by rfl) (by first | exact o5 | exact NO.at' SegmentOC.keeps (by assumption) e5) (by first | exact o5 | exact NO.at' SegmentOC.keeps (by assumption) e5) (by first | (left; omega) | (right; omega)) (by omega) (by omega) (by omega) (by omega) (by repeat (first | (with_reducible exact Ext.refl _) | (with_reducible assumption) | (with_reducible refine Ext.alloc ?_ _) | (with_reducible refine Ext.drew ?_) | (with_reducible refine Ext.drewN ?_ _) | (with_reducible refine Ext.setCell (p := _) ?_ ?ge _; case ge => (dsimp only; omega)) | (with_reducible refine Ext.trans ?_ (by with_reducible assumption)))) (by omega) (by omega) ?_; intro v6 w6 no6 e6))
  all_goals
    go_wp2_with fail
    go_ret
    exact ⟨_, rfl, NO.more no6 (by have := ew0.size; omega) (Nat.le_refl _), (by repeat (first | (with_reducible exact Ext.refl _) | (with_reducible assumption) | (with_reducible refine Ext.alloc ?_ _) | (with_reducible refine Ext.drew ?_) | (with_reducible refine Ext.drewN ?_ _) | (with_reducible refine Ext.setCell (p := _) ?_ ?ge _; case ge => (dsimp only; omega)) | (with_reducible refine Ext.trans ?_ (by with_reducible assumption))))⟩
set_option maxRecDepth 100000 in
set_option maxHeartbeats 1000000 in
theorem spec_CoreSegments (vx : Value) (a c : Int) (x : DSegmentDatabase) (w : World) (hx : SegmentDatabaseV w.heap.size w vx x) (hn : segTot x.down + segTot x.core ≤ 1048576) :
    Calls Try.prog 55 #[vx, I a, I c] w fun e w' => ∃ v', e = .returned v' ∧ SegmentSO w.heap.size w'.heap.size w' v' (coreSegs x a c) ∧ Ext w w' := by
  obtain ⟨Ax_0, nx_0, cx_0, Ax_1, nx_1, cx_1, rfl, sx_0, sx_1⟩ := id hx
  obtain ⟨lx_0, kx_0, mx_0⟩ := sx_0.len
  subst lx_0
  unfold maxLen at mx_0
  obtain ⟨lx_1, kx_1, mx_1⟩ := sx_1.len
  subst lx_1
  unfold maxLen at mx_1
  have Rx := Lib.hid hx; clear hx
  have Sx_0 := Lib.hid sx_0; clear sx_0
  have Sx_1 := Lib.hid sx_1; clear sx_1
  have hcl := totS_len (fun u : DSegment => u.hops.length) x.core
  have hn' : totS (fun u : DSegment => u.hops.length) x.down + totS (fun u : DSegment => u.hops.length) x.core ≤ 1048576 := hn
  have hl1 : (coreFrom x a c).length ≤ x.core.length := List.length_filter_le _ _
  have hl2 : (coreFrom x c a).length ≤ x.core.length := List.length_filter_le _ _
  go_enter Try.func55, Try.ntmps55
  go_wp2_with fail
  first | refine name_wp (fun W => Ext w W ∧ Blk W (w.heap.size) 93 [.slice Ax_0 x.down.length cx_0, .slice Ax_1 x.core.length cx_1]) ⟨(by repeat (first | (with_reducible exact Ext.refl _) | (with_reducible assumption) | (with_reducible refine Ext.alloc ?_ _) | (with_reducible refine Ext.drew ?_) | (with_reducible refine Ext.drewN ?_ _) | (with_reducible refine Ext.setCell (p := _) ?_ ?ge _; case ge => (dsimp only; omega)) | (with_reducible refine Ext.trans ?_ (by with_reducible assumption)))), (by repeat (first | (with_reducible exact Blk.new _ _ _) | ((with_reducible refine Blk.new' _ _ _ _ ?_) <;> (simp; done)) | (with_reducible refine Blk.alloc ?_ _) | (with_reducible refine Blk.drew ?_)))⟩ ?_ | refine name_calls (fun W => Ext w W ∧ Blk W (w.heap.size) 93 [.slice Ax_0 x.down.length cx_0, .slice Ax_1 x.core.length cx_1]) ⟨(by repeat (first | (with_reducible exact Ext.refl _) | (with_reducible assumption) | (with_reducible refine Ext.alloc ?_ _) | (with_reducible refine Ext.drew ?_) | (with_reducible refine Ext.drewN ?_ _) | (with_reducible refine Ext.setCell (p := _) ?_ ?ge _; case ge => (dsimp only; omega)) | (with_reducible refine Ext.trans ?_ (by with_reducible assumption)))), (by repeat (first | (with_reducible exact Blk.new _ _ _) | ((with_reducible refine Blk.new' _ _ _ _ ?_) <;> (simp; done)) | (with_reducible refine Blk.alloc ?_ _) | (with_reducible refine Blk.drew ?_)))⟩ ?_
  rintro w0 ⟨ew0, bx⟩
  have lx := bx.lt
  obtain ⟨px_0, px_1⟩ := blk2 bx
  have Bx := Lib.hid bx; clear bx
  go_region_held3 (fun W => w0.heap.size ≤ W.heap.size ∧ ∀ b o, b < w0.heap.size → W.cell? ⟨b, o, none⟩ = w0.cell? ⟨b, o, none⟩)
    (first | exact ⟨Nat.le_refl _, fun _ _ _ => rfl⟩ | exact keepC (by assumption) e5 | exact keepE e6)
    (first | (go_at_call 120; refine (spec_l16Between _ _ _ x _ (by exact Rx.out.ext (by repeat (first | (with_reducible exact Ext.refl _) | (with_reducible assumption) | (with_reducible refine Ext.alloc ?_ _) | (with_reducible refine Ext.drew ?_) | (with_reducible refine Ext.drewN ?_ _) | (with_reducible refine Ext.setCell (p := _) ?_ ?ge _; case ge => (dsimp only; omega)) | (with_reducible refine Ext.trans ?_ (by with_reducible assumption))))) hn).mono ?_; rintro e w5 ⟨v5, rfl, o5, e5⟩; obtain ⟨A5, k5, c5, hv5⟩ := NO.slice o5; subst hv5; have z5 := e5.size; (try simp only [World.size_drew] at o5 z5)) | (refine step_pushD (OC := SegmentOC) (by rfl) w0 SegmentOC.keeps SegmentOC.one (.tmp 10) (.tmp 14) _ (by rfl) 63 _ 3 40 Try.underlying90 info_Segment rfl (by omega) _ (coreFrom x a c) (coreFrom x c a) _ _ _ _ (by rfl) _ _ _ (by rfl) (by first | exact o5 | exact NO.at' SegmentOC.keeps (by assumption) e5) (by first | exact o5 | exact NO.at' SegmentOC.keeps (by assumption) e5) (by first | (left; omega) | (right; omega)) (by omega) (by omega) (by omega) (by omega) (by repeat (first | (with_reducible exact Ext.refl _) | (with_reducible assumption) | (with_reducible refine Ext.alloc ?_ _) | (with_reducible refine Ext.drew ?_) | (with_reducible refine Ext.drewN ?_ _) | (with_reducible refine Ext.setCell (p := _) ?_ ?ge _; case ge => (dsimp only; omega)) | (with_reducible refine Ext.trans ?_ (by with_reducible assumption)))) (by omega) (by omega) ?_; intro v6 w6 no6 e6))
  all_goals
    go_wp2_with fail
    go_ret
    exact ⟨_, rfl, NO.more no6 (by have := ew0.size; omega) (Nat.le_refl _), (by repeat (first | (with_reducible exact Ext.refl _) | (with_reducible assumption) | (with_reducible refine Ext.alloc ?_ _) | (with_reducible refine Ext.drew ?_) | (with_reducible refine Ext.drewN ?_ _) | (with_reducible refine Ext.setCell (p := _) ?_ ?ge _; case ge => (dsimp only; omega)) | (with_reducible refine Ext.trans ?_ (by with_reducible assumption))))⟩
end Go.Proofs.Ytpfioedfpihbdaa
