/- Contracts of the program's and the reference's functions that make segments: OriginInterfaces, message. -/
import Derived.Test.YtcalbcjheenmgaaL13c
namespace Go.Proofs.Ytcalbcjheenmgaa
open Go.RowKit
set_option linter.unusedVariables false
def origTo (t : DTopology) (p : DPolicy) (r : Int) (k : Nat) : List Int := ((List.range k).filter fun i : Nat => origOk t p r ((i : Int) + 1) 0 0).map fun i : Nat => (i : Int) + 1
def origIfs (t : DTopology) (p : DPolicy) (r : Int) : List Int := origTo t p r 6
theorem origTo_yes {t : DTopology} {p : DPolicy} {r : Int} {k : Nat} (h : origOk t p r ((k : Int) + 1) 0 0 = true) : origTo t p r (k + 1) = origTo t p r k ++ [(k : Int) + 1] := by simp [origTo, List.range_succ, List.filter_append, h]
theorem origTo_no {t : DTopology} {p : DPolicy} {r : Int} {k : Nat} (h : origOk t p r ((k : Int) + 1) 0 0 = false) : origTo t p r (k + 1) = origTo t p r k := by simp [origTo, List.range_succ, List.filter_append, h]
theorem origTo_len (t : DTopology) (p : DPolicy) (r : Int) (k : Nat) : (origTo t p r k).length ≤ k := by
  unfold origTo
  rw [List.length_map]
  have := List.length_filter_le (fun i : Nat => origOk t p r ((i : Int) + 1) 0 0) (List.range k)
  rw [List.length_range] at this
  exact this
set_option maxRecDepth 100000 in
set_option maxHeartbeats 1000000 in
theorem impl_OriginInterfaces (vt : Value) (p : DPolicy) (r : Int) (t : DTopology) (w : World) (ht : TopologyV w.heap.size w vt t) :
    Calls Try.prog 124 #[vt, .agg #[I p.maxLen, I p.denied, I p.closed, I p.life], I r] w fun e w' => ∃ v', e = .returned v' ∧ IntSO w.heap.size w'.heap.size w' v' (origIfs t p r) ∧ Ext w w' := by
  obtain ⟨At_0, nt_0, ct_0, At_1, nt_1, ct_1, rfl, st_0, st_1⟩ := id ht
  obtain ⟨lt_0, kt_0, mt_0⟩ := st_0.len
  subst lt_0
  unfold maxLen at mt_0
  obtain ⟨lt_1, kt_1, mt_1⟩ := st_1.len
  subst lt_1
  unfold maxLen at mt_1
  have Rt := Lib.hid ht; clear ht
  have St_0 := Lib.hid st_0; clear st_0
  have St_1 := Lib.hid st_1; clear st_1
  go_enter Try.func124, Try.ntmps124
  go_wp2_with fail
  first | refine name_wp (fun W => Ext w W ∧ Blk W (w.heap.size) 73 [.slice At_0 t.ases.length ct_0, .slice At_1 t.links.length ct_1] ∧ Blk W (w.heap.size + 1) 157 [I p.maxLen, I p.denied, I p.closed, I p.life]) ⟨(by repeat (first | (with_reducible exact Ext.refl _) | (with_reducible assumption) | (with_reducible refine Ext.alloc ?_ _) | (with_reducible refine Ext.drew ?_) | (with_reducible refine Ext.drewN ?_ _) | (with_reducible refine Ext.setCell (p := _) ?_ ?ge _; case ge => (dsimp only; omega)) | (with_reducible refine Ext.trans ?_ (by with_reducible assumption)))), (by repeat (first | (with_reducible exact Blk.new _ _ _) | ((with_reducible refine Blk.new' _ _ _ _ ?_) <;> (simp; done)) | (with_reducible refine Blk.alloc ?_ _) | (with_reducible refine Blk.drew ?_))), (by repeat (first | (with_reducible exact Blk.new _ _ _) | ((with_reducible refine Blk.new' _ _ _ _ ?_) <;> (simp; done)) | (with_reducible refine Blk.alloc ?_ _) | (with_reducible refine Blk.drew ?_)))⟩ ?_ | refine name_calls (fun W => Ext w W ∧ Blk W (w.heap.size) 73 [.slice At_0 t.ases.length ct_0, .slice At_1 t.links.length ct_1] ∧ Blk W (w.heap.size + 1) 157 [I p.maxLen, I p.denied, I p.closed, I p.life]) ⟨(by repeat (first | (with_reducible exact Ext.refl _) | (with_reducible assumption) | (with_reducible refine Ext.alloc ?_ _) | (with_reducible refine Ext.drew ?_) | (with_reducible refine Ext.drewN ?_ _) | (with_reducible refine Ext.setCell (p := _) ?_ ?ge _; case ge => (dsimp only; omega)) | (with_reducible refine Ext.trans ?_ (by with_reducible assumption)))), (by repeat (first | (with_reducible exact Blk.new _ _ _) | ((with_reducible refine Blk.new' _ _ _ _ ?_) <;> (simp; done)) | (with_reducible refine Blk.alloc ?_ _) | (with_reducible refine Blk.drew ?_))), (by repeat (first | (with_reducible exact Blk.new _ _ _) | ((with_reducible refine Blk.new' _ _ _ _ ?_) <;> (simp; done)) | (with_reducible refine Blk.alloc ?_ _) | (with_reducible refine Blk.drew ?_)))⟩ ?_
  rintro w0 ⟨ew0, bt, bp⟩
  have lt := bt.lt
  obtain ⟨pt_0, pt_1⟩ := blk2 bt
  have Bt := Lib.hid bt; clear bt
  have lp := bp.lt
  obtain ⟨pp_0, pp_1, pp_2, pp_3⟩ := blk4 bp
  have Bp := Lib.hid bp; clear bp
  go_loopw [7, 8] (fun v i wr => ∃ k : Nat, k ≤ 6 ∧ i = I ((k : Int) + 1) ∧ IntSO w0.heap.size wr.heap.size wr v (origTo t p r k) ∧ Ext w0 wr) (fun _ i _ => 7 - (intOf i).toNat)
  case atStart => exact ⟨0, by omega, rfl, Own.nil _ _ _ _ _, Ext.refl _⟩
  case round =>
    obtain ⟨k, hk, rfl, ho, he⟩ := hrel
    have HO := Lib.hid ho; clear ho
    have bt := Bt.out.ext (w' := wr) (by repeat (first | (with_reducible exact Ext.refl _) | (with_reducible assumption) | (with_reducible refine Ext.alloc ?_ _) | (with_reducible refine Ext.drew ?_) | (with_reducible refine Ext.drewN ?_ _) | (with_reducible refine Ext.setCell (p := _) ?_ ?ge _; case ge => (dsimp only; omega)) | (with_reducible refine Ext.trans ?_ (by with_reducible assumption))))
    have lt := bt.lt
    obtain ⟨pt_0, pt_1⟩ := blk2 bt
    clear bt
    have bp := Bp.out.ext (w' := wr) (by repeat (first | (with_reducible exact Ext.refl _) | (with_reducible assumption) | (with_reducible refine Ext.alloc ?_ _) | (with_reducible refine Ext.drew ?_) | (with_reducible refine Ext.drewN ?_ _) | (with_reducible refine Ext.setCell (p := _) ?_ ?ge _; case ge => (dsimp only; omega)) | (with_reducible refine Ext.trans ?_ (by with_reducible assumption))))
    have lp := bp.lt
    obtain ⟨pp_0, pp_1, pp_2, pp_3⟩ := blk4 bp
    clear bp
    by_cases hlt : k < 6
    · have j1 : (k : Int) + 1 ≤ 6 := by omega
      go_wp2_with fail
      refine (impl_Originate _ p r ((k : Int) + 1) 0 0 t _ (by exact Rt.out.ext (by repeat (first | (with_reducible exact Ext.refl _) | (with_reducible assumption) | (with_reducible refine Ext.alloc ?_ _) | (with_reducible refine Ext.drew ?_) | (with_reducible refine Ext.drewN ?_ _) | (with_reducible refine Ext.setCell (p := _) ?_ ?ge _; case ge => (dsimp only; omega)) | (with_reducible refine Ext.trans ?_ (by with_reducible assumption)))))).mono ?_
      rintro e w1 ⟨v1, rfl, o1, e1⟩
      obtain ⟨u1, rfl, oh1, -⟩ := o1
      obtain ⟨a1, m1, q1, rfl⟩ := Own.slice oh1
      clear oh1
      generalize (origSeg t p r ((k : Int) + 1) 0 0).ts = ts1
      generalize (origSeg t p r ((k : Int) + 1) 0 0).beta = be1
      cases hv : origOk t p r ((k : Int) + 1) 0 0
      · have HS := Lib.hid (origTo_no hv)
        clear hv
        go_wp2_with fail
        go_roundw
        case rel => exact ⟨k + 1, by omega, by first | go_num | (congr 1; omega), by rw [HS.out]; exact Own.up (Own.up HO.out e1) (by repeat (first | (with_reducible exact Ext.refl _) | (with_reducible assumption) | (with_reducible refine Ext.alloc ?_ _) | (with_reducible refine Ext.drew ?_) | (with_reducible refine Ext.drewN ?_ _) | (with_reducible refine Ext.setCell (p := _) ?_ ?ge _; case ge => (dsimp only; omega)) | (with_reducible refine Ext.trans ?_ (by with_reducible assumption)))), (by repeat (first | (with_reducible exact Ext.refl _) | (with_reducible assumption) | (with_reducible refine Ext.alloc ?_ _) | (with_reducible refine Ext.drew ?_) | (with_reducible refine Ext.drewN ?_ _) | (with_reducible refine Ext.setCell (p := _) ?_ ?ge _; case ge => (dsimp only; omega)) | (with_reducible refine Ext.trans ?_ (by with_reducible assumption))))⟩
        case measure => simp [intOf]; omega
      · have HS := Lib.hid (origTo_yes hv)
        clear hv
        have hml := origTo_len t p r k
        generalize origTo t p r k = sl at *
        go_wp2_with (at_builtin; refine hold ?_)
        refine unhold (wpList_app w0 rfl (.tmp 24) (.tmp 26) _ rfl 3 (.int .i64 0) 1 8 Try.underlying38 info_int rfl (by omega) _ sl.length (sl.map I) rfl _ 1 1 [I ((k : Int) + 1)] rfl
          (by exact Own.up HO.out (by repeat (first | (with_reducible exact Ext.refl _) | (with_reducible assumption) | (with_reducible refine Ext.alloc ?_ _) | (with_reducible refine Ext.drew ?_) | (with_reducible refine Ext.drewN ?_ _) | (with_reducible refine Ext.setCell (p := _) ?_ ?ge _; case ge => (dsimp only; omega)) | (with_reducible refine Ext.trans ?_ (by with_reducible assumption))))) (row_newN _ _ _ _ _ _ (by first | rfl | simp) rfl) (one_ints [(k : Int) + 1]) (by repeat (first | (with_reducible exact Ext.refl _) | (with_reducible assumption) | (with_reducible refine Ext.alloc ?_ _) | (with_reducible refine Ext.drew ?_) | (with_reducible refine Ext.drewN ?_ _) | (with_reducible refine Ext.setCell (p := _) ?_ ?ge _; case ge => (dsimp only; omega)) | (with_reducible refine Ext.trans ?_ (by with_reducible assumption)))) (by unfold maxLen; omega) (by omega) ?_)
        intro v2 w2 ho2 he2 _ _
        have O2 := Lib.hid ho2; clear ho2
        go_wp2_with (at_builtin; refine hold ?_)
        go_roundw
        case rel => exact ⟨k + 1, by omega, by first | go_num | (congr 1; omega), by rw [HS.out]; unfold IntSO; simpa using O2.out, he2⟩
        case measure => simp [intOf]; omega
    · obtain rfl : k = 6 := by omega
      go_wp2_with fail
      go_ret
      exact ⟨_, rfl, Own.more HO.out (Ext.size ew0) (Nat.le_refl _), (by repeat (first | (with_reducible exact Ext.refl _) | (with_reducible assumption) | (with_reducible refine Ext.alloc ?_ _) | (with_reducible refine Ext.drew ?_) | (with_reducible refine Ext.drewN ?_ _) | (with_reducible refine Ext.setCell (p := _) ?_ ?ge _; case ge => (dsimp only; omega)) | (with_reducible refine Ext.trans ?_ (by with_reducible assumption))))⟩
set_option maxRecDepth 100000 in
set_option maxHeartbeats 1000000 in
theorem spec_OriginInterfaces (vt : Value) (p : DPolicy) (r : Int) (t : DTopology) (w : World) (ht : TopologyV w.heap.size w vt t) :
    Calls Try.prog 118 #[vt, .agg #[I p.maxLen, I p.denied, I p.closed, I p.life], I r] w fun e w' => ∃ v', e = .returned v' ∧ IntSO w.heap.size w'.heap.size w' v' (origIfs t p r) ∧ Ext w w' := by
  obtain ⟨At_0, nt_0, ct_0, At_1, nt_1, ct_1, rfl, st_0, st_1⟩ := id ht
  obtain ⟨lt_0, kt_0, mt_0⟩ := st_0.len
  subst lt_0
  unfold maxLen at mt_0
  obtain ⟨lt_1, kt_1, mt_1⟩ := st_1.len
  subst lt_1
  unfold maxLen at mt_1
  have Rt := Lib.hid ht; clear ht
  have St_0 := Lib.hid st_0; clear st_0
  have St_1 := Lib.hid st_1; clear st_1
  go_enter Try.func118, Try.ntmps118
  go_wp2_with fail
  refine name_wp (fun W => ∃ wb, Ext w wb ∧ Blk wb w.heap.size 73 [.slice At_0 t.ases.length ct_0, .slice At_1 t.links.length ct_1] ∧ Blk wb (w.heap.size + 1) 157 [I p.maxLen, I p.denied, I p.closed, I p.life] ∧ Ext wb W ∧ IntSO wb.heap.size W.heap.size W (.slice (some ⟨w.heap.size + 1 + 1, 0, none⟩) 0 0) []) ⟨_, (by repeat (first | (with_reducible exact Ext.refl _) | (with_reducible assumption) | (with_reducible refine Ext.alloc ?_ _) | (with_reducible refine Ext.drew ?_) | (with_reducible refine Ext.drewN ?_ _) | (with_reducible refine Ext.setCell (p := _) ?_ ?ge _; case ge => (dsimp only; omega)) | (with_reducible refine Ext.trans ?_ (by with_reducible assumption)))), (by repeat (first | (with_reducible exact Blk.new _ _ _) | ((with_reducible refine Blk.new' _ _ _ _ ?_) <;> (simp; done)) | (with_reducible refine Blk.alloc ?_ _) | (with_reducible refine Blk.drew ?_))), (by repeat (first | (with_reducible exact Blk.new _ _ _) | ((with_reducible refine Blk.new' _ _ _ _ ?_) <;> (simp; done)) | (with_reducible refine Blk.alloc ?_ _) | (with_reducible refine Blk.drew ?_))), (Ext.refl _).alloc _, own_zero' _ _ _ _ _ (by simp) (Nat.le_refl _)⟩ ?_
  rintro wz ⟨w0, ew0, bt, bp, ez, hz⟩
  have Bt := Lib.hid bt; have Bp := Lib.hid bp; have HZ := Lib.hid hz; clear bt bp hz
  go_loopw [7, 8] (fun v i wr => ∃ k : Nat, k ≤ 6 ∧ i = I ((k : Int) + 1) ∧ IntSO w0.heap.size wr.heap.size wr v (origTo t p r k) ∧ Ext w0 wr) (fun _ i _ => 7 - (intOf i).toNat)
  case atStart => exact ⟨0, by omega, rfl, HZ.out, ez⟩
  case round =>
    obtain ⟨k, hk, rfl, ho, he⟩ := hrel
    have HO := Lib.hid ho; clear ho
    have bt := Bt.out.ext (w' := wr) (by repeat (first | (with_reducible exact Ext.refl _) | (with_reducible assumption) | (with_reducible refine Ext.alloc ?_ _) | (with_reducible refine Ext.drew ?_) | (with_reducible refine Ext.drewN ?_ _) | (with_reducible refine Ext.setCell (p := _) ?_ ?ge _; case ge => (dsimp only; omega)) | (with_reducible refine Ext.trans ?_ (by with_reducible assumption))))
    have lt := bt.lt
    obtain ⟨pt_0, pt_1⟩ := blk2 bt
    clear bt
    have bp := Bp.out.ext (w' := wr) (by repeat (first | (with_reducible exact Ext.refl _) | (with_reducible assumption) | (with_reducible refine Ext.alloc ?_ _) | (with_reducible refine Ext.drew ?_) | (with_reducible refine Ext.drewN ?_ _) | (with_reducible refine Ext.setCell (p := _) ?_ ?ge _; case ge => (dsimp only; omega)) | (with_reducible refine Ext.trans ?_ (by with_reducible assumption))))
    have lp := bp.lt
    obtain ⟨pp_0, pp_1, pp_2, pp_3⟩ := blk4 bp
    clear bp
    by_cases hlt : k < 6
    · have j1 : (k : Int) + 1 ≤ 6 := by omega
      go_wp2_with fail
      refine (spec_Originate _ p r ((k : Int) + 1) 0 0 t _ (by exact Rt.out.ext (by repeat (first | (with_reducible exact Ext.refl _) | (with_reducible assumption) | (with_reducible refine Ext.alloc ?_ _) | (with_reducible refine Ext.drew ?_) | (with_reducible refine Ext.drewN ?_ _) | (with_reducible refine Ext.setCell (p := _) ?_ ?ge _; case ge => (dsimp only; omega)) | (with_reducible refine Ext.trans ?_ (by with_reducible assumption)))))).mono ?_
      rintro e w1 ⟨v1, rfl, o1, e1⟩
      obtain ⟨u1, rfl, oh1, -⟩ := o1
      obtain ⟨a1, m1, q1, rfl⟩ := Own.slice oh1
      clear oh1
      generalize (origSeg t p r ((k : Int) + 1) 0 0).ts = ts1
      generalize (origSeg t p r ((k : Int) + 1) 0 0).beta = be1
      cases hv : origOk t p r ((k : Int) + 1) 0 0
      · have HS := Lib.hid (origTo_no hv)
        clear hv
        go_wp2_with fail
        go_roundw
        case rel => exact ⟨k + 1, by omega, by first | go_num | (congr 1; omega), by rw [HS.out]; exact Own.up (Own.up HO.out e1) (by repeat (first | (with_reducible exact Ext.refl _) | (with_reducible assumption) | (with_reducible refine Ext.alloc ?_ _) | (with_reducible refine Ext.drew ?_) | (with_reducible refine Ext.drewN ?_ _) | (with_reducible refine Ext.setCell (p := _) ?_ ?ge _; case ge => (dsimp only; omega)) | (with_reducible refine Ext.trans ?_ (by with_reducible assumption)))), (by repeat (first | (with_reducible exact Ext.refl _) | (with_reducible assumption) | (with_reducible refine Ext.alloc ?_ _) | (with_reducible refine Ext.drew ?_) | (with_reducible refine Ext.drewN ?_ _) | (with_reducible refine Ext.setCell (p := _) ?_ ?ge _; case ge => (dsimp only; omega)) | (with_reducible refine Ext.trans ?_ (by with_reducible assumption))))⟩
        case measure => simp [intOf]; omega
      · have HS := Lib.hid (origTo_yes hv)
        clear hv
        have hml := origTo_len t p r k
        generalize origTo t p r k = sl at *
        go_wp2_with (at_builtin; refine hold ?_)
        refine unhold (wpList_app w0 rfl (.tmp 25) (.tmp 27) _ rfl 3 (.int .i64 0) 1 8 Try.underlying38 info_int rfl (by omega) _ sl.length (sl.map I) rfl _ 1 1 [I ((k : Int) + 1)] rfl
          (by exact Own.up HO.out (by repeat (first | (with_reducible exact Ext.refl _) | (with_reducible assumption) | (with_reducible refine Ext.alloc ?_ _) | (with_reducible refine Ext.drew ?_) | (with_reducible refine Ext.drewN ?_ _) | (with_reducible refine Ext.setCell (p := _) ?_ ?ge _; case ge => (dsimp only; omega)) | (with_reducible refine Ext.trans ?_ (by with_reducible assumption))))) (row_newN _ _ _ _ _ _ (by first | rfl | simp) rfl) (one_ints [(k : Int) + 1]) (by repeat (first | (with_reducible exact Ext.refl _) | (with_reducible assumption) | (with_reducible refine Ext.alloc ?_ _) | (with_reducible refine Ext.drew ?_) | (with_reducible refine Ext.drewN ?_ _) | (with_reducible refine Ext.setCell (p := _) ?_ ?ge _; case ge => (dsimp only; omega)) | (with_reducible refine Ext.trans ?_ (by with_reducible assumption)))) (by unfold maxLen; omega) (by omega) ?_)
        intro v2 w2 ho2 he2 _ _
        have O2 := Lib.hid ho2; clear ho2
        go_wp2_with (at_builtin; refine hold ?_)
        go_roundw
        case rel => exact ⟨k + 1, by omega, by first | go_num | (congr 1; omega), by rw [HS.out]; unfold IntSO; simpa using O2.out, he2⟩
        case measure => simp [intOf]; omega
    · obtain rfl : k = 6 := by omega
      go_wp2_with fail
      go_ret
      exact ⟨_, rfl, Own.more HO.out (Ext.size ew0) (Nat.le_refl _), (by repeat (first | (with_reducible exact Ext.refl _) | (with_reducible assumption) | (with_reducible refine Ext.alloc ?_ _) | (with_reducible refine Ext.drew ?_) | (with_reducible refine Ext.drewN ?_ _) | (with_reducible refine Ext.setCell (p := _) ?_ ?ge _; case ge => (dsimp only; omega)) | (with_reducible refine Ext.trans ?_ (by with_reducible assumption))))⟩
set_option maxRecDepth 100000 in
set_option maxHeartbeats 1000000 in
theorem impl_message (vt : Value) (r out ts be : Int) (A : Option Addr) (n c : Nat) (t : DTopology) (w : World) (ht : TopologyV w.heap.size w vt t) :
    Calls Try.prog 127 #[vt, I r, I out, .agg #[I ts, I be, .slice A n c]] w fun e w' => e = .returned (.agg #[I (remEnd t r out).1, I (remEnd t r out).2, I ts, I be, .slice A n c]) ∧ Ext w w' := by
  obtain ⟨At_0, nt_0, ct_0, At_1, nt_1, ct_1, rfl, st_0, st_1⟩ := id ht
  obtain ⟨lt_0, kt_0, mt_0⟩ := st_0.len
  subst lt_0
  unfold maxLen at mt_0
  obtain ⟨lt_1, kt_1, mt_1⟩ := st_1.len
  subst lt_1
  unfold maxLen at mt_1
  have Rt := Lib.hid ht; clear ht
  have St_0 := Lib.hid st_0; clear st_0
  have St_1 := Lib.hid st_1; clear st_1
  go_enter Try.func127, Try.ntmps127
  go_wp2_with fail
  refine name_calls (fun W => Ext w W ∧ Blk W (w.heap.size + 1) 31 [I ts, I be, .slice A n c] ∧ Blk W (w.heap.size + 1 + 1) 170 [I 0, I 0, I 0, I 0, .slice none 0 0]) ⟨(by repeat (first | (with_reducible exact Ext.refl _) | (with_reducible assumption) | (with_reducible refine Ext.alloc ?_ _) | (with_reducible refine Ext.drew ?_) | (with_reducible refine Ext.drewN ?_ _) | (with_reducible refine Ext.setCell (p := _) ?_ ?ge _; case ge => (dsimp only; omega)) | (with_reducible refine Ext.trans ?_ (by with_reducible assumption)))), (by repeat (first | (with_reducible exact Blk.new _ _ _) | ((with_reducible refine Blk.new' _ _ _ _ ?_) <;> (simp; done)) | (with_reducible refine Blk.alloc ?_ _) | (with_reducible refine Blk.drew ?_))), (by repeat (first | (with_reducible exact Blk.new _ _ _) | ((with_reducible refine Blk.new' _ _ _ _ ?_) <;> (simp; done)) | (with_reducible refine Blk.alloc ?_ _) | (with_reducible refine Blk.drew ?_)))⟩ ?_
  rintro w0 ⟨ew0, bs, br⟩
  have Bs := Lib.hid bs; have BR := Lib.hid br; clear bs br
  refine (impl_RemoteEnd _ r out t _ (by exact Rt.out.ext (by repeat (first | (with_reducible exact Ext.refl _) | (with_reducible assumption) | (with_reducible refine Ext.alloc ?_ _) | (with_reducible refine Ext.drew ?_) | (with_reducible refine Ext.drewN ?_ _) | (with_reducible refine Ext.setCell (p := _) ?_ ?ge _; case ge => (dsimp only; omega)) | (with_reducible refine Ext.trans ?_ (by with_reducible assumption)))))).mono ?_
  rintro e w1 ⟨rfl, e1⟩
  generalize hm1 : (remEnd t r out).1 = m1
  generalize hm2 : (remEnd t r out).2 = m2
  have H1 := Lib.hid hm1; have H2 := Lib.hid hm2; clear hm1 hm2
  have bs := Bs.out.ext (w' := w1) (by repeat (first | (with_reducible exact Ext.refl _) | (with_reducible assumption) | (with_reducible refine Ext.alloc ?_ _) | (with_reducible refine Ext.drew ?_) | (with_reducible refine Ext.drewN ?_ _) | (with_reducible refine Ext.setCell (p := _) ?_ ?ge _; case ge => (dsimp only; omega)) | (with_reducible refine Ext.trans ?_ (by with_reducible assumption))))
  have lbs := bs.lt
  obtain ⟨qbs_0, qbs_1, qbs_2⟩ := blk3 bs
  have fbs_0 := bs.frozen 0
  have fbs_1 := bs.frozen 1
  have fbs_2 := bs.frozen 2
  clear bs
  have br := BR.out.ext (w' := w1) (by repeat (first | (with_reducible exact Ext.refl _) | (with_reducible assumption) | (with_reducible refine Ext.alloc ?_ _) | (with_reducible refine Ext.drew ?_) | (with_reducible refine Ext.drewN ?_ _) | (with_reducible refine Ext.setCell (p := _) ?_ ?ge _; case ge => (dsimp only; omega)) | (with_reducible refine Ext.trans ?_ (by with_reducible assumption))))
  have lbr := br.lt
  obtain ⟨qbr_0, qbr_1, qbr_2, qbr_3, qbr_4⟩ := blk5 br
  have fbr_0 := br.frozen 0
  have fbr_1 := br.frozen 1
  have fbr_2 := br.frozen 2
  have fbr_3 := br.frozen 3
  have fbr_4 := br.frozen 4
  clear br
  go_wp2_with fail
  refine bodyPost_ret (v := .agg #[I m1, I m2, I ts, I be, .slice A n c]) (by simp [results, Try.results127, go_sem, *]) rfl ⟨by rw [H1.out, H2.out], (by repeat (first | (with_reducible exact Ext.refl _) | (with_reducible assumption) | (with_reducible refine Ext.alloc ?_ _) | (with_reducible refine Ext.drew ?_) | (with_reducible refine Ext.drewN ?_ _) | (with_reducible refine Ext.setCell (p := _) ?_ ?ge _; case ge => (dsimp only; omega)) | (with_reducible refine Ext.trans ?_ (by with_reducible assumption))))⟩
end Go.Proofs.Ytcalbcjheenmgaa
