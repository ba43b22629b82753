/- Contracts of the program's and the reference's functions on the segment database: UsableSegments. Printed by scripts/g16g.py. -/
import Derived.Test.YtcalbcjheenmgaaL16f
import Derived.Test.YtcalbcjheenmgaaPushF
namespace Go.Proofs.Ytcalbcjheenmgaa
open Go.RowKit
set_option linter.unusedVariables false
set_option maxRecDepth 100000 in
set_option maxHeartbeats 1000000 in
theorem spec_UsableSegments (vt vx : Value) (now : Int) (t : DTopology) (x : DSegmentDatabase) (w : World) (ht : TopologyV w.heap.size w vt t) (hx : SegmentDatabaseV w.heap.size w vx x) (hn : segTot x.down + segTot x.core ≤ 1048576) :
    Calls Try.prog 39 #[vt, vx, I now] w fun e w' => ∃ v', e = .returned v' ∧ SegmentDatabaseO w.heap.size w'.heap.size w' v' (usableDb t x now) ∧ Ext w w' := by
  obtain ⟨At_0, nt_0, ct_0, At_1, nt_1, ct_1, rfl, st_0, st_1⟩ := id ht
  obtain ⟨lt_0, kt_0, mt_0⟩ := st_0.len
  subst lt_0
  unfold maxLen at mt_0
  obtain ⟨lt_1, kt_1, mt_1⟩ := st_1.len
  subst lt_1
  unfold maxLen at mt_1
  have Rt := Lib.hid ht; clear ht
  have St_0 := Lib.hid st_0; clear st_0
  have St_1 := Lib.hid st_1; clear st_1
  obtain ⟨Ax_0, nx_0, cx_0, Ax_1, nx_1, cx_1, rfl, sx_0, sx_1⟩ := id hx
  obtain ⟨lx_0, kx_0, mx_0⟩ := sx_0.len
  subst lx_0
  unfold maxLen at mx_0
  obtain ⟨lx_1, kx_1, mx_1⟩ := sx_1.len
  subst lx_1
  unfold maxLen at mx_1
  have Rx := Lib.hid hx; clear hx
  have Sx_0 := Lib.hid sx_0; clear sx_0
  have Sx_1 := Lib.hid sx_1; clear sx_1
  have hn : totS (fun u : DSegment => u.hops.length) x.down + totS (fun u : DSegment => u.hops.length) x.core ≤ 1048576 := hn
  have hdl := totS_len (fun u : DSegment => u.hops.length) x.down
  have hcl := totS_len (fun u : DSegment => u.hops.length) x.core
  go_enter Try.func39, Try.ntmps39
  go_wp2_with fail
  refine name_wp (fun W => ∃ wb, wb.heap.size = w.heap.size + 1 + 1 + 1 ∧ Ext w wb ∧ Blk wb w.heap.size 73 [.slice At_0 t.ases.length ct_0, .slice At_1 t.links.length ct_1] ∧ Blk wb (w.heap.size + 1) 87 [.slice Ax_0 x.down.length cx_0, .slice Ax_1 x.core.length cx_1] ∧ Blk wb (w.heap.size + 1 + 1) 87 [.slice none 0 0, .slice none 0 0] ∧ Ext wb W ∧ Blk W (w.heap.size + 1 + 1 + 1) 87 [.slice none 0 0, .slice none 0 0]) ⟨_, (by simp only [World.size_alloc]), (by repeat (first | (with_reducible exact Ext.refl _) | (with_reducible assumption) | (with_reducible refine Ext.alloc ?_ _) | (with_reducible refine Ext.drew ?_) | (with_reducible refine Ext.drewN ?_ _) | (with_reducible refine Ext.setCell (p := _) ?_ ?ge _; case ge => (dsimp only; omega)) | (with_reducible refine Ext.trans ?_ (by with_reducible assumption)))), (by repeat (first | (with_reducible exact Blk.new _ _ _) | ((with_reducible refine Blk.new' _ _ _ _ ?_) <;> (simp; done)) | (with_reducible refine Blk.alloc ?_ _) | (with_reducible refine Blk.drew ?_))), (by repeat (first | (with_reducible exact Blk.new _ _ _) | ((with_reducible refine Blk.new' _ _ _ _ ?_) <;> (simp; done)) | (with_reducible refine Blk.alloc ?_ _) | (with_reducible refine Blk.drew ?_))), (by repeat (first | (with_reducible exact Blk.new _ _ _) | ((with_reducible refine Blk.new' _ _ _ _ ?_) <;> (simp; done)) | (with_reducible refine Blk.alloc ?_ _) | (with_reducible refine Blk.drew ?_))), (Ext.refl _).alloc _, (by repeat (first | (with_reducible exact Blk.new _ _ _) | ((with_reducible refine Blk.new' _ _ _ _ ?_) <;> (simp; done)) | (with_reducible refine Blk.alloc ?_ _) | (with_reducible refine Blk.drew ?_)))⟩ ?_
  rintro w0 ⟨wb, zb, ewb, bt, bx, br, ew0, b0⟩
  have Bt := Lib.hid bt; have Bx := Lib.hid bx; have BR := Lib.hid br; have Bw0 := Lib.hid b0; clear bt bx br b0
  have l0 := Bw0.out.lt
  go_loopw [8] (fun i wr => ∃ (k : Nat) (u : Value), k ≤ x.down.length ∧ i = I k ∧ w0.heap.size ≤ wr.heap.size ∧ Blk wr (w.heap.size + 1 + 1 + 1) 87 [u, .slice none 0 0] ∧ SegmentSO w0.heap.size wr.heap.size wr u ((x.down.take k).filter (useB t 2 now)) ∧ Ext wb wr) (fun i _ => x.down.length - (intOf i).toNat)
  case atStart => exact ⟨0, _, by omega, rfl, Nat.le_refl _, Bw0.out, NO.nil _ _ _ _ _ _, (by repeat (first | (with_reducible exact Ext.refl _) | (with_reducible assumption) | (with_reducible refine Ext.alloc ?_ _) | (with_reducible refine Ext.drew ?_) | (with_reducible refine Ext.drewN ?_ _) | (with_reducible refine Ext.setCell (p := _) ?_ ?ge _; case ge => (dsimp only; omega)) | (with_reducible refine Ext.trans ?_ (by with_reducible assumption))))⟩
  case round =>
    obtain ⟨k, v, hk, rfl, hz, hb5, ho, he⟩ := hrel
    have HB5 := Lib.hid hb5; have HO := Lib.hid ho; clear hb5 ho
    obtain ⟨av, nv, cv, hv⟩ := NO.slice HO.out
    subst hv
    have l5 := HB5.out.lt
    have zr := he.size
    have bt := Bt.out.ext (w' := wr) (by repeat (first | (with_reducible exact Ext.refl _) | (with_reducible assumption) | (with_reducible refine Ext.alloc ?_ _) | (with_reducible refine Ext.drew ?_) | (with_reducible refine Ext.drewN ?_ _) | (with_reducible refine Ext.setCell (p := _) ?_ ?ge _; case ge => (dsimp only; omega)) | (with_reducible refine Ext.trans ?_ (by with_reducible assumption))))
    have lt := bt.lt
    obtain ⟨pt_0, pt_1⟩ := blk2 bt
    clear bt
    have bx := Bx.out.ext (w' := wr) (by repeat (first | (with_reducible exact Ext.refl _) | (with_reducible assumption) | (with_reducible refine Ext.alloc ?_ _) | (with_reducible refine Ext.drew ?_) | (with_reducible refine Ext.drewN ?_ _) | (with_reducible refine Ext.setCell (p := _) ?_ ?ge _; case ge => (dsimp only; omega)) | (with_reducible refine Ext.trans ?_ (by with_reducible assumption))))
    have lx := bx.lt
    obtain ⟨px_0, px_1⟩ := blk2 bx
    clear bx
    by_cases hlt : k < x.down.length
    · obtain ⟨b, off, rfl, hb, hkl, hc⟩ := (Sx_0.out.ext (w' := wr) (by repeat (first | (with_reducible exact Ext.refl _) | (with_reducible assumption) | (with_reducible refine Ext.alloc ?_ _) | (with_reducible refine Ext.drew ?_) | (with_reducible refine Ext.drewN ?_ _) | (with_reducible refine Ext.setCell (p := _) ?_ ?ge _; case ge => (dsimp only; omega)) | (with_reducible refine Ext.trans ?_ (by with_reducible assumption))))).at_ hlt
      have hyl : x.down[k].hops.length ≤ totS (fun u : DSegment => u.hops.length) x.down := totS_get (fun u : DSegment => u.hops.length) x.down k hkl
      have HX := Lib.hid (filter_snoc (useB t 2 now) x.down k hkl)
      have hfl := filter_take_len (useB t 2 now) x.down k
      generalize x.down[k] = u at *
      generalize hds : (x.down.take k).filter (useB t 2 now) = ds at *
      have HDS := Lib.hid hds; clear hds
      obtain ⟨Au_2, nu_2, cu_2, hu_0, hu_1, hu_2, su_2⟩ := hc
      obtain ⟨lu_2, ku_2, mu_2⟩ := su_2.len
      subst lu_2
      unfold maxLen at mu_2
      have Ru : Hid (SegmentV wr.heap.size wr (.agg #[I u.ts, I u.beta, .slice Au_2 u.hops.length cu_2]) u) := ⟨_, _, _, rfl, su_2⟩
      have Su_2 := Lib.hid su_2; clear su_2
      have i0 : (0 : Int) ≤ (k : Int) := by omega
      have i1 : (k : Int) < (x.down.length : Int) := by omega
      cases h0 : segUsable t u now
      · have HS : Hid ((x.down.take (k + 1)).filter (useB t 2 now) = ds) := by unfold Hid; rw [HX.out]; simp [useB, h0]
        go_wp2_with fail
        refine wp_region_L (E := Ext) (w0 := wr) (G := fun τ => match τ with | 25 => some (fun v _ => v = .bool (false)) | _ => none) Ext.refl (fun h k => Ext.trans h k) (by kernel_rfl) (by kernel_rfl) (by
            intro t φ hG
            split at hG
            all_goals first | (cases hG; done) | (cases Option.some.inj hG; intro v W W' hE hv; first | exact hv | exact IntS.ext hv hE | exact hv.ext hE | exact Own.up hv hE | exact hv.up hE | exact NO.up (by first | exact SegmentOC.keeps | exact TrustRootOC.keeps | exact BeaconOC.keeps | exact BeaconMessageOC.keeps | exact BeaconStoreOC.keeps) hv hE (Nat.le_refl _) | exact ObjUp.up hv hE)) (Ext.drew (by exact Ext.refl _)) ?_
        repeat' (first
          | ((with_reducible refine wpL_skip ?_ ?_ ?_)
             · rfl
             · rfl
             simp only [Act.put, List.setIfInBounds_toArray, List.set_cons_zero, List.set_cons_succ])
          | ((with_reducible refine wpL_quiet ?_ ?_ ?_ ?_)
             · rfl
             · rfl
             · rfl
             apply Exists.intro
             refine ⟨fun W hW hS => ?_, ?_⟩
             · have hC := (Ext.facts hW).1
               go_simp
               first | done | (with_reducible rfl) | rfl
             first | (with_reducible refine wpL_boolT ?_) | (with_reducible refine wpL_boolF ?_) | (with_reducible refine wpL_bool (fun hB => ?_) (fun hB => ?_)) | skip
             all_goals simp only [Act.put, List.setIfInBounds_toArray, List.set_cons_zero, List.set_cons_succ])
          | ((refine wpL_call ?_ rfl rfl ?_ ?_ ?_)
             · rfl
             · rfl
             · intro W hW hS
               have hC := (Ext.facts hW).1
               unfold growAt
               go_simp
               simp only [growUpon]
               first | (go_at_call 102; ((with_reducible refine Calls.mono (spec_SegmentUsable _ _ _ (t) (u) _ (by exact Rt.out.ext (by repeat (first | (with_reducible exact Ext.refl _) | (with_reducible assumption) | (with_reducible refine Ext.alloc ?_ _) | (with_reducible refine Ext.drew ?_) | (with_reducible refine Ext.drewN ?_ _) | (with_reducible refine Ext.setCell (p := _) ?_ ?ge _; case ge => (dsimp only; omega)) | (with_reducible refine Ext.trans ?_ (by with_reducible assumption))))) (by exact Ru.out.ext (by repeat (first | (with_reducible exact Ext.refl _) | (with_reducible assumption) | (with_reducible refine Ext.alloc ?_ _) | (with_reducible refine Ext.drew ?_) | (with_reducible refine Ext.drewN ?_ _) | (with_reducible refine Ext.setCell (p := _) ?_ ?ge _; case ge => (dsimp only; omega)) | (with_reducible refine Ext.trans ?_ (by with_reducible assumption))))) (by first | omega | (simp [rootData]; done) | (simp [certData]; done) | (simp only [List.length_cons, List.length_nil]; omega))) ?_)); rintro e w9 ⟨rfl, e9⟩; exact ⟨_, rfl, e9, by first | rfl | (simp only [*])⟩)
             first | (with_reducible refine wpL_boolT ?_) | (with_reducible refine wpL_boolF ?_) | (with_reducible refine wpL_bool (fun hB => ?_) (fun hB => ?_)) | skip
             all_goals simp only [Act.put, List.setIfInBounds_toArray, List.set_cons_zero, List.set_cons_succ])
          | ((refine wpL_grow ?_ rfl rfl ?_ ?_)
             · rfl
             · intro W hW hS
               have hC := (Ext.facts hW).1
               unfold growAt
               go_simp
               simp only [growUpon]
               first | (go_at_call 102; ((with_reducible refine Calls.mono (spec_SegmentUsable _ _ _ (t) (u) _ (by exact Rt.out.ext (by repeat (first | (with_reducible exact Ext.refl _) | (with_reducible assumption) | (with_reducible refine Ext.alloc ?_ _) | (with_reducible refine Ext.drew ?_) | (with_reducible refine Ext.drewN ?_ _) | (with_reducible refine Ext.setCell (p := _) ?_ ?ge _; case ge => (dsimp only; omega)) | (with_reducible refine Ext.trans ?_ (by with_reducible assumption))))) (by exact Ru.out.ext (by repeat (first | (with_reducible exact Ext.refl _) | (with_reducible assumption) | (with_reducible refine Ext.alloc ?_ _) | (with_reducible refine Ext.drew ?_) | (with_reducible refine Ext.drewN ?_ _) | (with_reducible refine Ext.setCell (p := _) ?_ ?ge _; case ge => (dsimp only; omega)) | (with_reducible refine Ext.trans ?_ (by with_reducible assumption))))) (by first | omega | (simp [rootData]; done) | (simp [certData]; done) | (simp only [List.length_cons, List.length_nil]; omega))) ?_)); rintro e w9 ⟨rfl, e9⟩; exact ⟨_, rfl, e9, by first | rfl | (simp only [*])⟩)
             intro v W' hW' hv
             first  | (obtain ⟨A5, n5, c5, rfl, -⟩ := id hv; clear hv) | (obtain ⟨A5, n5, c5, rfl⟩ := NO.slice hv) | skip
             all_goals simp only [Act.put, List.setIfInBounds_toArray, List.set_cons_zero, List.set_cons_succ]))
        refine wpL_nil (fun w4 e4 hL => ?_)
        clear hL
        have z4 := e4.size
        go_wp2_with fail
        go_roundw
        case rel => exact ⟨k + 1, _, by omega, by go_num, by omega, HB5.out.ext e4, by rw [HS.out]; exact NO.up SegmentOC.keeps HO.out e4 (Nat.le_refl _), (by repeat (first | (with_reducible exact Ext.refl _) | (with_reducible assumption) | (with_reducible refine Ext.alloc ?_ _) | (with_reducible refine Ext.drew ?_) | (with_reducible refine Ext.drewN ?_ _) | (with_reducible refine Ext.setCell (p := _) ?_ ?ge _; case ge => (dsimp only; omega)) | (with_reducible refine Ext.trans ?_ (by with_reducible assumption))))⟩
        case measure => simp [intOf]; omega
      by_cases h1 : segKind t u = 2
      · have HS : Hid ((x.down.take (k + 1)).filter (useB t 2 now) = ds ++ [u]) := by unfold Hid; rw [HX.out]; simp [useB, h0, h1]
        go_wp2_with fail
        refine wp_region_L (E := Ext) (w0 := wr) (G := fun τ => match τ with | 25 => some (fun v _ => v = .bool (true)) | 33 => some (fun v _ => v = I (2)) | _ => none) Ext.refl (fun h k => Ext.trans h k) (by kernel_rfl) (by kernel_rfl) (by
            intro t φ hG
            split at hG
            all_goals first | (cases hG; done) | (cases Option.some.inj hG; intro v W W' hE hv; first | exact hv | exact IntS.ext hv hE | exact hv.ext hE | exact Own.up hv hE | exact hv.up hE | exact NO.up (by first | exact SegmentOC.keeps | exact TrustRootOC.keeps | exact BeaconOC.keeps | exact BeaconMessageOC.keeps | exact BeaconStoreOC.keeps) hv hE (Nat.le_refl _) | exact ObjUp.up hv hE)) (Ext.drew (by exact Ext.refl _)) ?_
        repeat' (first
          | ((with_reducible refine wpL_skip ?_ ?_ ?_)
             · rfl
             · rfl
             simp only [Act.put, List.setIfInBounds_toArray, List.set_cons_zero, List.set_cons_succ])
          | ((with_reducible refine wpL_quiet ?_ ?_ ?_ ?_)
             · rfl
             · rfl
             · rfl
             apply Exists.intro
             refine ⟨fun W hW hS => ?_, ?_⟩
             · have hC := (Ext.facts hW).1
               go_simp
               first | done | (with_reducible rfl) | rfl
             first | (with_reducible refine wpL_boolT ?_) | (with_reducible refine wpL_boolF ?_) | (with_reducible refine wpL_bool (fun hB => ?_) (fun hB => ?_)) | skip
             all_goals simp only [Act.put, List.setIfInBounds_toArray, List.set_cons_zero, List.set_cons_succ])
          | ((refine wpL_call ?_ rfl rfl ?_ ?_ ?_)
             · rfl
             · rfl
             · intro W hW hS
               have hC := (Ext.facts hW).1
               unfold growAt
               go_simp
               simp only [growUpon]
               first | (go_at_call 102; ((with_reducible refine Calls.mono (spec_SegmentUsable _ _ _ (t) (u) _ (by exact Rt.out.ext (by repeat (first | (with_reducible exact Ext.refl _) | (with_reducible assumption) | (with_reducible refine Ext.alloc ?_ _) | (with_reducible refine Ext.drew ?_) | (with_reducible refine Ext.drewN ?_ _) | (with_reducible refine Ext.setCell (p := _) ?_ ?ge _; case ge => (dsimp only; omega)) | (with_reducible refine Ext.trans ?_ (by with_reducible assumption))))) (by exact Ru.out.ext (by repeat (first | (with_reducible exact Ext.refl _) | (with_reducible assumption) | (with_reducible refine Ext.alloc ?_ _) | (with_reducible refine Ext.drew ?_) | (with_reducible refine Ext.drewN ?_ _) | (with_reducible refine Ext.setCell (p := _) ?_ ?ge _; case ge => (dsimp only; omega)) | (with_reducible refine Ext.trans ?_ (by with_reducible assumption))))) (by first | omega | (simp [rootData]; done) | (simp [certData]; done) | (simp only [List.length_cons, List.length_nil]; omega))) ?_)); rintro e w9 ⟨rfl, e9⟩; exact ⟨_, rfl, e9, by first | rfl | (simp only [*])⟩) | (go_at_call 103; ((with_reducible refine Calls.mono (spec_SegmentKind _ _ (t) (u) _ (by exact Rt.out.ext (by repeat (first | (with_reducible exact Ext.refl _) | (with_reducible assumption) | (with_reducible refine Ext.alloc ?_ _) | (with_reducible refine Ext.drew ?_) | (with_reducible refine Ext.drewN ?_ _) | (with_reducible refine Ext.setCell (p := _) ?_ ?ge _; case ge => (dsimp only; omega)) | (with_reducible refine Ext.trans ?_ (by with_reducible assumption))))) (by exact Ru.out.ext (by repeat (first | (with_reducible exact Ext.refl _) | (with_reducible assumption) | (with_reducible refine Ext.alloc ?_ _) | (with_reducible refine Ext.drew ?_) | (with_reducible refine Ext.drewN ?_ _) | (with_reducible refine Ext.setCell (p := _) ?_ ?ge _; case ge => (dsimp only; omega)) | (with_reducible refine Ext.trans ?_ (by with_reducible assumption))))) (by first | omega | (simp [rootData]; done) | (simp [certData]; done) | (simp only [List.length_cons, List.length_nil]; omega))) ?_)); rintro e w9 ⟨rfl, e9⟩; exact ⟨_, rfl, e9, by first | rfl | (simp only [*])⟩)
             first | (with_reducible refine wpL_boolT ?_) | (with_reducible refine wpL_boolF ?_) | (with_reducible refine wpL_bool (fun hB => ?_) (fun hB => ?_)) | skip
             all_goals simp only [Act.put, List.setIfInBounds_toArray, List.set_cons_zero, List.set_cons_succ])
          | ((refine wpL_grow ?_ rfl rfl ?_ ?_)
             · rfl
             · intro W hW hS
               have hC := (Ext.facts hW).1
               unfold growAt
               go_simp
               simp only [growUpon]
               first | (go_at_call 102; ((with_reducible refine Calls.mono (spec_SegmentUsable _ _ _ (t) (u) _ (by exact Rt.out.ext (by repeat (first | (with_reducible exact Ext.refl _) | (with_reducible assumption) | (with_reducible refine Ext.alloc ?_ _) | (with_reducible refine Ext.drew ?_) | (with_reducible refine Ext.drewN ?_ _) | (with_reducible refine Ext.setCell (p := _) ?_ ?ge _; case ge => (dsimp only; omega)) | (with_reducible refine Ext.trans ?_ (by with_reducible assumption))))) (by exact Ru.out.ext (by repeat (first | (with_reducible exact Ext.refl _) | (with_reducible assumption) | (with_reducible refine Ext.alloc ?_ _) | (with_reducible refine Ext.drew ?_) | (with_reducible refine Ext.drewN ?_ _) | (with_reducible refine Ext.setCell (p := _) ?_ ?ge _; case ge => (dsimp only; omega)) | (with_reducible refine Ext.trans ?_ (by with_reducible assumption))))) (by first | omega | (simp [rootData]; done) | (simp [certData]; done) | (simp only [List.length_cons, List.length_nil]; omega))) ?_)); rintro e w9 ⟨rfl, e9⟩; exact ⟨_, rfl, e9, by first | rfl | (simp only [*])⟩) | (go_at_call 103; ((with_reducible refine Calls.mono (spec_SegmentKind _ _ (t) (u) _ (by exact Rt.out.ext (by repeat (first | (with_reducible exact Ext.refl _) | (with_reducible assumption) | (with_reducible refine Ext.alloc ?_ _) | (with_reducible refine Ext.drew ?_) | (with_reducible refine Ext.drewN ?_ _) | (with_reducible refine Ext.setCell (p := _) ?_ ?ge _; case ge => (dsimp only; omega)) | (with_reducible refine Ext.trans ?_ (by with_reducible assumption))))) (by exact Ru.out.ext (by repeat (first | (with_reducible exact Ext.refl _) | (with_reducible assumption) | (with_reducible refine Ext.alloc ?_ _) | (with_reducible refine Ext.drew ?_) | (with_reducible refine Ext.drewN ?_ _) | (with_reducible refine Ext.setCell (p := _) ?_ ?ge _; case ge => (dsimp only; omega)) | (with_reducible refine Ext.trans ?_ (by with_reducible assumption))))) (by first | omega | (simp [rootData]; done) | (simp [certData]; done) | (simp only [List.length_cons, List.length_nil]; omega))) ?_)); rintro e w9 ⟨rfl, e9⟩; exact ⟨_, rfl, e9, by first | rfl | (simp only [*])⟩)
             intro v W' hW' hv
             first  | (obtain ⟨A5, n5, c5, rfl, -⟩ := id hv; clear hv) | (obtain ⟨A5, n5, c5, rfl⟩ := NO.slice hv) | skip
             all_goals simp only [Act.put, List.setIfInBounds_toArray, List.set_cons_zero, List.set_cons_succ]))
        refine wpL_nil (fun w4 e4 hL => ?_)
        clear hL h0 h1
        have z4 := e4.size
        have bx := Bx.out.ext (w' := w4) (by repeat (first | (with_reducible exact Ext.refl _) | (with_reducible assumption) | (with_reducible refine Ext.alloc ?_ _) | (with_reducible refine Ext.drew ?_) | (with_reducible refine Ext.drewN ?_ _) | (with_reducible refine Ext.setCell (p := _) ?_ ?ge _; case ge => (dsimp only; omega)) | (with_reducible refine Ext.trans ?_ (by with_reducible assumption))))
        have lx := bx.lt
        obtain ⟨px_0, px_1⟩ := blk2 bx
        clear bx
        obtain ⟨ku_0, ku_1, ku_2⟩ : w4.cell? ⟨b, off + k * 3, none⟩ = some (I u.ts) ∧ w4.cell? ⟨b, off + k * 3 + 1, none⟩ = some (I u.beta) ∧ w4.cell? ⟨b, off + k * 3 + 2, none⟩ = some (.slice Au_2 u.hops.length cu_2) := ⟨(e4.cell hb).trans hu_0, (e4.cell hb).trans hu_1, (e4.cell hb).trans hu_2⟩
        have b5 := HB5.out.ext (w' := w4) (by repeat (first | (with_reducible exact Ext.refl _) | (with_reducible assumption) | (with_reducible refine Ext.alloc ?_ _) | (with_reducible refine Ext.drew ?_) | (with_reducible refine Ext.drewN ?_ _) | (with_reducible refine Ext.setCell (p := _) ?_ ?ge _; case ge => (dsimp only; omega)) | (with_reducible refine Ext.trans ?_ (by with_reducible assumption))))
        have lb5 := b5.lt
        obtain ⟨qb5_0, qb5_1⟩ := blk2 b5
        have fb5_0 := b5.frozen 0
        have fb5_1 := b5.frozen 1
        clear b5
        have hb4 : b < w4.heap.size := by omega
        go_wp2_with fail
        refine wp_region_LT 9 (E := Ext) (w0 := w4) (G := fun τ => match τ with | 43 => some (fun v W => SegmentO w4.heap.size W.heap.size W v u) | 44 => some (fun v W => SegmentSO w4.heap.size W.heap.size W v [u]) | _ => none) Ext.refl (fun h k => Ext.trans h k) (by kernel_rfl) (by kernel_rfl) (by kernel_rfl) (by kernel_rfl) (by kernel_rfl) (by kernel_rfl) (by
            intro t φ hG
            split at hG
            all_goals first | (cases hG; done) | (cases Option.some.inj hG; intro v W W' hE hv; first | exact hv | exact IntS.ext hv hE | exact hv.ext hE | exact Own.up hv hE | exact hv.up hE | exact NO.up (by first | exact SegmentOC.keeps | exact TrustRootOC.keeps | exact BeaconOC.keeps | exact BeaconMessageOC.keeps | exact BeaconStoreOC.keeps) hv hE (Nat.le_refl _) | exact ObjUp.up hv hE)) (Ext.drew (by exact Ext.refl _)) ?_
        simp only [List.take_succ_cons, List.take_zero]
        repeat' (first
          | ((with_reducible refine wpL_skip ?_ ?_ ?_)
             · rfl
             · rfl
             simp only [Act.put, List.setIfInBounds_toArray, List.set_cons_zero, List.set_cons_succ])
          | ((with_reducible refine wpL_quiet ?_ ?_ ?_ ?_)
             · rfl
             · rfl
             · rfl
             apply Exists.intro
             refine ⟨fun W hW hS => ?_, ?_⟩
             · have hC := (Ext.facts hW).1
               go_simp
               first | done | (with_reducible rfl) | rfl
             first | (with_reducible refine wpL_boolT ?_) | (with_reducible refine wpL_boolF ?_) | (with_reducible refine wpL_bool (fun hB => ?_) (fun hB => ?_)) | skip
             all_goals simp only [Act.put, List.setIfInBounds_toArray, List.set_cons_zero, List.set_cons_succ])
          | ((refine wpL_call ?_ rfl rfl ?_ ?_ ?_)
             · rfl
             · rfl
             · intro W hW hS
               have hC := (Ext.facts hW).1
               unfold growAt
               go_simp
               simp only [growUpon]
               first | (go_at_call 76; (with_reducible refine Calls.mono (spec_l9Copy _ u _ (by exact Ru.out.ext (by repeat (first | (with_reducible exact Ext.refl _) | (with_reducible assumption) | (with_reducible refine Ext.alloc ?_ _) | (with_reducible refine Ext.drew ?_) | (with_reducible refine Ext.drewN ?_ _) | (with_reducible refine Ext.setCell (p := _) ?_ ?ge _; case ge => (dsimp only; omega)) | (with_reducible refine Ext.trans ?_ (by with_reducible assumption))))) (by omega)) ?_); rintro e w9 ⟨v9, rfl, o9, e9⟩; exact ⟨_, rfl, e9, SegmentO.more o9 (Ext.size hW) (Nat.le_refl _)⟩) | (exact ⟨(by repeat (first | (with_reducible exact Ext.refl _) | (with_reducible assumption) | (with_reducible refine Ext.alloc ?_ _) | (with_reducible refine Ext.drew ?_) | (with_reducible refine Ext.drewN ?_ _) | (with_reducible refine Ext.setCell (p := _) ?_ ?ge _; case ge => (dsimp only; omega)) | (with_reducible refine Ext.trans ?_ (by with_reducible assumption)))), SegmentO.single (hS 43 (by decide)) (Ext.size hW) rfl⟩)
             first | (with_reducible refine wpL_boolT ?_) | (with_reducible refine wpL_boolF ?_) | (with_reducible refine wpL_bool (fun hB => ?_) (fun hB => ?_)) | skip
             all_goals simp only [Act.put, List.setIfInBounds_toArray, List.set_cons_zero, List.set_cons_succ])
          | ((refine wpL_grow ?_ rfl rfl ?_ ?_)
             · rfl
             · intro W hW hS
               have hC := (Ext.facts hW).1
               unfold growAt
               go_simp
               simp only [growUpon]
               first | (go_at_call 76; (with_reducible refine Calls.mono (spec_l9Copy _ u _ (by exact Ru.out.ext (by repeat (first | (with_reducible exact Ext.refl _) | (with_reducible assumption) | (with_reducible refine Ext.alloc ?_ _) | (with_reducible refine Ext.drew ?_) | (with_reducible refine Ext.drewN ?_ _) | (with_reducible refine Ext.setCell (p := _) ?_ ?ge _; case ge => (dsimp only; omega)) | (with_reducible refine Ext.trans ?_ (by with_reducible assumption))))) (by omega)) ?_); rintro e w9 ⟨v9, rfl, o9, e9⟩; exact ⟨_, rfl, e9, SegmentO.more o9 (Ext.size hW) (Nat.le_refl _)⟩) | (exact ⟨(by repeat (first | (with_reducible exact Ext.refl _) | (with_reducible assumption) | (with_reducible refine Ext.alloc ?_ _) | (with_reducible refine Ext.drew ?_) | (with_reducible refine Ext.drewN ?_ _) | (with_reducible refine Ext.setCell (p := _) ?_ ?ge _; case ge => (dsimp only; omega)) | (with_reducible refine Ext.trans ?_ (by with_reducible assumption)))), SegmentO.single (hS 43 (by decide)) (Ext.size hW) rfl⟩)
             intro v W' hW' hv
             first | (obtain ⟨A5, n5, c5, rfl⟩ := SegmentO.shape hv) | (obtain ⟨A6, n6, c6, rfl⟩ := NO.slice hv) | (obtain ⟨A5, n5, c5, rfl, -⟩ := id hv; clear hv) | (obtain ⟨A5, n5, c5, rfl⟩ := NO.slice hv) | skip
             all_goals simp only [Act.put, List.setIfInBounds_toArray, List.set_cons_zero, List.set_cons_succ]))
        refine wpL_nil (fun w5 e5 hL => ?_)
        have n5_ : SegmentSO w4.heap.size w5.heap.size w5 _ [u] := hL 44
        have N5 := Lib.hid n5_; clear hL n5_
        have z5 := e5.size
        clear lb5 qb5_0 qb5_1 fb5_0 fb5_1 ku_0 ku_1 ku_2
        simp only [List.drop_succ_cons, List.drop_zero]
        go_wp2_with (at_builtin; refine hold ?_)
        refine unhold (wpList_pushN rfl w0.heap.size SegmentOC.keeps SegmentOC.one (.tmp 37) (.tmp 44) _ rfl 31 _ 3 40 Try.underlying85 info_Segment rfl (by omega) _ ds [u] wr.heap.size w4.heap.size w5.heap.size rfl _ _ _ rfl (by exact NO.at' SegmentOC.keeps HO.out (by repeat (first | (with_reducible exact Ext.refl _) | (with_reducible assumption) | (with_reducible refine Ext.alloc ?_ _) | (with_reducible refine Ext.drew ?_) | (with_reducible refine Ext.drewN ?_ _) | (with_reducible refine Ext.setCell (p := _) ?_ ?ge _; case ge => (dsimp only; omega)) | (with_reducible refine Ext.trans ?_ (by with_reducible assumption))))) (by exact N5.out) (by omega) (by omega) (by omega) (Nat.le_refl _) (by omega) (by simp only [List.length_singleton]; omega) (by omega) ?_)
        intro v7 w7 no7 hg7
        obtain ⟨a7, m7, c7, hv7⟩ := NO.slice no7
        subst hv7
        have hnb : (Value.slice av nv cv).ownBlock ≠ some (w.heap.size + 1 + 1 + 1) := NO.not_block HO.out (by omega)
        have B7 := Lib.hid (Blk.grown (w := w5) (HB5.out.ext (by repeat (first | (with_reducible exact Ext.refl _) | (with_reducible assumption) | (with_reducible refine Ext.alloc ?_ _) | (with_reducible refine Ext.drew ?_) | (with_reducible refine Ext.drewN ?_ _) | (with_reducible refine Ext.setCell (p := _) ?_ ?ge _; case ge => (dsimp only; omega)) | (with_reducible refine Ext.trans ?_ (by with_reducible assumption))))) hg7 hnb)
        have E7 := Lib.hid (Ext.grownN (a := wb) (w := w5) (by repeat (first | (with_reducible exact Ext.refl _) | (with_reducible assumption) | (with_reducible refine Ext.alloc ?_ _) | (with_reducible refine Ext.drew ?_) | (with_reducible refine Ext.drewN ?_ _) | (with_reducible refine Ext.setCell (p := _) ?_ ?ge _; case ge => (dsimp only; omega)) | (with_reducible refine Ext.trans ?_ (by with_reducible assumption)))) (NO.at' SegmentOC.keeps HO.out (w' := w5) (by repeat (first | (with_reducible exact Ext.refl _) | (with_reducible assumption) | (with_reducible refine Ext.alloc ?_ _) | (with_reducible refine Ext.drew ?_) | (with_reducible refine Ext.drewN ?_ _) | (with_reducible refine Ext.setCell (p := _) ?_ ?ge _; case ge => (dsimp only; omega)) | (with_reducible refine Ext.trans ?_ (by with_reducible assumption))))) hg7 (by omega))
        have z7 : w5.heap.size ≤ w7.heap.size := hg7.size
        have O7 := Lib.hid no7; clear no7 hg7 hnb
        have b7 := B7.out.ext (w' := w7) (by repeat (first | (with_reducible exact Ext.refl _) | (with_reducible assumption) | (with_reducible refine Ext.alloc ?_ _) | (with_reducible refine Ext.drew ?_) | (with_reducible refine Ext.drewN ?_ _) | (with_reducible refine Ext.setCell (p := _) ?_ ?ge _; case ge => (dsimp only; omega)) | (with_reducible refine Ext.trans ?_ (by with_reducible assumption))))
        have lb7 := b7.lt
        obtain ⟨qb7_0, qb7_1⟩ := blk2 b7
        have fb7_0 := b7.frozen 0
        have fb7_1 := b7.frozen 1
        clear b7
        go_wp2_with (at_builtin; refine hold ?_)
        go_roundw
        case rel => exact ⟨k + 1, _, by omega, by go_num, by simp only [World.size_setCell]; omega, by simpa using B7.out.set_ 0 (.slice a7 m7 c7), by rw [HS.out]; simp only [World.size_setCell]; exact SegmentSO_setCell O7.out (.inl (by dsimp only; omega)) _, Ext.setCell E7.out (by dsimp only; omega) _⟩
        case measure => simp [intOf]; omega
      · have HS : Hid ((x.down.take (k + 1)).filter (useB t 2 now) = ds) := by unfold Hid; rw [HX.out]; simp [useB, h1]
        have d1 : (segKind t u == 2) = false := beq_eq_false_iff_ne.2 h1
        clear h1
        go_wp2_with fail
        refine wp_region_L (E := Ext) (w0 := wr) (G := fun τ => match τ with | 25 => some (fun v _ => v = .bool (true)) | 33 => some (fun v _ => v = I (segKind t u)) | _ => none) Ext.refl (fun h k => Ext.trans h k) (by kernel_rfl) (by kernel_rfl) (by
            intro t φ hG
            split at hG
            all_goals first | (cases hG; done) | (cases Option.some.inj hG; intro v W W' hE hv; first | exact hv | exact IntS.ext hv hE | exact hv.ext hE | exact Own.up hv hE | exact hv.up hE | exact NO.up (by first | exact SegmentOC.keeps | exact TrustRootOC.keeps | exact BeaconOC.keeps | exact BeaconMessageOC.keeps | exact BeaconStoreOC.keeps) hv hE (Nat.le_refl _) | exact ObjUp.up hv hE)) (Ext.drew (by exact Ext.refl _)) ?_
        repeat' (first
          | ((with_reducible refine wpL_skip ?_ ?_ ?_)
             · rfl
             · rfl
             simp only [Act.put, List.setIfInBounds_toArray, List.set_cons_zero, List.set_cons_succ])
          | ((with_reducible refine wpL_quiet ?_ ?_ ?_ ?_)
             · rfl
             · rfl
             · rfl
             apply Exists.intro
             refine ⟨fun W hW hS => ?_, ?_⟩
             · have hC := (Ext.facts hW).1
               go_simp
               first | done | (with_reducible rfl) | rfl
             first | (with_reducible refine wpL_boolT ?_) | (with_reducible refine wpL_boolF ?_) | (with_reducible refine wpL_bool (fun hB => ?_) (fun hB => ?_)) | skip
             all_goals simp only [Act.put, List.setIfInBounds_toArray, List.set_cons_zero, List.set_cons_succ])
          | ((refine wpL_call ?_ rfl rfl ?_ ?_ ?_)
             · rfl
             · rfl
             · intro W hW hS
               have hC := (Ext.facts hW).1
               unfold growAt
               go_simp
               simp only [growUpon]
               first | (go_at_call 102; ((with_reducible refine Calls.mono (spec_SegmentUsable _ _ _ (t) (u) _ (by exact Rt.out.ext (by repeat (first | (with_reducible exact Ext.refl _) | (with_reducible assumption) | (with_reducible refine Ext.alloc ?_ _) | (with_reducible refine Ext.drew ?_) | (with_reducible refine Ext.drewN ?_ _) | (with_reducible refine Ext.setCell (p := _) ?_ ?ge _; case ge => (dsimp only; omega)) | (with_reducible refine Ext.trans ?_ (by with_reducible assumption))))) (by exact Ru.out.ext (by repeat (first | (with_reducible exact Ext.refl _) | (with_reducible assumption) | (with_reducible refine Ext.alloc ?_ _) | (with_reducible refine Ext.drew ?_) | (with_reducible refine Ext.drewN ?_ _) | (with_reducible refine Ext.setCell (p := _) ?_ ?ge _; case ge => (dsimp only; omega)) | (with_reducible refine Ext.trans ?_ (by with_reducible assumption))))) (by first | omega | (simp [rootData]; done) | (simp [certData]; done) | (simp only [List.length_cons, List.length_nil]; omega))) ?_)); rintro e w9 ⟨rfl, e9⟩; exact ⟨_, rfl, e9, by first | rfl | (simp only [*])⟩) | (go_at_call 103; ((with_reducible refine Calls.mono (spec_SegmentKind _ _ (t) (u) _ (by exact Rt.out.ext (by repeat (first | (with_reducible exact Ext.refl _) | (with_reducible assumption) | (with_reducible refine Ext.alloc ?_ _) | (with_reducible refine Ext.drew ?_) | (with_reducible refine Ext.drewN ?_ _) | (with_reducible refine Ext.setCell (p := _) ?_ ?ge _; case ge => (dsimp only; omega)) | (with_reducible refine Ext.trans ?_ (by with_reducible assumption))))) (by exact Ru.out.ext (by repeat (first | (with_reducible exact Ext.refl _) | (with_reducible assumption) | (with_reducible refine Ext.alloc ?_ _) | (with_reducible refine Ext.drew ?_) | (with_reducible refine Ext.drewN ?_ _) | (with_reducible refine Ext.setCell (p := _) ?_ ?ge _; case ge => (dsimp only; omega)) | (with_reducible refine Ext.trans ?_ (by with_reducible assumption))))) (by first | omega | (simp [rootData]; done) | (simp [certData]; done) | (simp only [List.length_cons, List.length_nil]; omega))) ?_)); rintro e w9 ⟨rfl, e9⟩; exact ⟨_, rfl, e9, by first | rfl | (simp only [*])⟩)
             first | (with_reducible refine wpL_boolT ?_) | (with_reducible refine wpL_boolF ?_) | (with_reducible refine wpL_bool (fun hB => ?_) (fun hB => ?_)) | skip
             all_goals simp only [Act.put, List.setIfInBounds_toArray, List.set_cons_zero, List.set_cons_succ])
          | ((refine wpL_grow ?_ rfl rfl ?_ ?_)
             · rfl
             · intro W hW hS
               have hC := (Ext.facts hW).1
               unfold growAt
               go_simp
               simp only [growUpon]
               first | (go_at_call 102; ((with_reducible refine Calls.mono (spec_SegmentUsable _ _ _ (t) (u) _ (by exact Rt.out.ext (by repeat (first | (with_reducible exact Ext.refl _) | (with_reducible assumption) | (with_reducible refine Ext.alloc ?_ _) | (with_reducible refine Ext.drew ?_) | (with_reducible refine Ext.drewN ?_ _) | (with_reducible refine Ext.setCell (p := _) ?_ ?ge _; case ge => (dsimp only; omega)) | (with_reducible refine Ext.trans ?_ (by with_reducible assumption))))) (by exact Ru.out.ext (by repeat (first | (with_reducible exact Ext.refl _) | (with_reducible assumption) | (with_reducible refine Ext.alloc ?_ _) | (with_reducible refine Ext.drew ?_) | (with_reducible refine Ext.drewN ?_ _) | (with_reducible refine Ext.setCell (p := _) ?_ ?ge _; case ge => (dsimp only; omega)) | (with_reducible refine Ext.trans ?_ (by with_reducible assumption))))) (by first | omega | (simp [rootData]; done) | (simp [certData]; done) | (simp only [List.length_cons, List.length_nil]; omega))) ?_)); rintro e w9 ⟨rfl, e9⟩; exact ⟨_, rfl, e9, by first | rfl | (simp only [*])⟩) | (go_at_call 103; ((with_reducible refine Calls.mono (spec_SegmentKind _ _ (t) (u) _ (by exact Rt.out.ext (by repeat (first | (with_reducible exact Ext.refl _) | (with_reducible assumption) | (with_reducible refine Ext.alloc ?_ _) | (with_reducible refine Ext.drew ?_) | (with_reducible refine Ext.drewN ?_ _) | (with_reducible refine Ext.setCell (p := _) ?_ ?ge _; case ge => (dsimp only; omega)) | (with_reducible refine Ext.trans ?_ (by with_reducible assumption))))) (by exact Ru.out.ext (by repeat (first | (with_reducible exact Ext.refl _) | (with_reducible assumption) | (with_reducible refine Ext.alloc ?_ _) | (with_reducible refine Ext.drew ?_) | (with_reducible refine Ext.drewN ?_ _) | (with_reducible refine Ext.setCell (p := _) ?_ ?ge _; case ge => (dsimp only; omega)) | (with_reducible refine Ext.trans ?_ (by with_reducible assumption))))) (by first | omega | (simp [rootData]; done) | (simp [certData]; done) | (simp only [List.length_cons, List.length_nil]; omega))) ?_)); rintro e w9 ⟨rfl, e9⟩; exact ⟨_, rfl, e9, by first | rfl | (simp only [*])⟩)
             intro v W' hW' hv
             first  | (obtain ⟨A5, n5, c5, rfl, -⟩ := id hv; clear hv) | (obtain ⟨A5, n5, c5, rfl⟩ := NO.slice hv) | skip
             all_goals simp only [Act.put, List.setIfInBounds_toArray, List.set_cons_zero, List.set_cons_succ]))
        refine wpL_nil (fun w4 e4 hL => ?_)
        clear hL
        have z4 := e4.size
        go_wp2_with fail
        go_roundw
        case rel => exact ⟨k + 1, _, by omega, by go_num, by omega, HB5.out.ext e4, by rw [HS.out]; exact NO.up SegmentOC.keeps HO.out e4 (Nat.le_refl _), (by repeat (first | (with_reducible exact Ext.refl _) | (with_reducible assumption) | (with_reducible refine Ext.alloc ?_ _) | (with_reducible refine Ext.drew ?_) | (with_reducible refine Ext.drewN ?_ _) | (with_reducible refine Ext.setCell (p := _) ?_ ?ge _; case ge => (dsimp only; omega)) | (with_reducible refine Ext.trans ?_ (by with_reducible assumption))))⟩
        case measure => simp [intOf]; omega
    · obtain rfl : k = x.down.length := by omega
      rw [List.take_length] at HO
      go_wp2_with fail
      refine name_wp (fun W => W = wr) rfl ?_
      rintro w3 rfl
      have Bw3 := HB5; have HD : Hid (SegmentSO w0.heap.size w3.heap.size w3 (.slice av nv cv) (usableOf t x.down 2 now)) := HO
      clear HO HB5
      generalize av = a1 at *
      generalize nv = n1 at *
      generalize cv = c1 at *
      go_loopw [9] (fun i wr => ∃ (k : Nat) (u : Value), k ≤ x.core.length ∧ i = I k ∧ w3.heap.size ≤ wr.heap.size ∧ Blk wr (w.heap.size + 1 + 1 + 1) 87 [.slice a1 n1 c1, u] ∧ SegmentSO w3.heap.size wr.heap.size wr u ((x.core.take k).filter (useB t 1 now)) ∧ Ext wb wr ∧ SegmentSO w0.heap.size w3.heap.size wr (.slice a1 n1 c1) (usableOf t x.down 2 now)) (fun i _ => x.core.length - (intOf i).toNat)
      case atStart => exact ⟨0, _, by omega, rfl, Nat.le_refl _, Bw3.out, NO.nil _ _ _ _ _ _, (by repeat (first | (with_reducible exact Ext.refl _) | (with_reducible assumption) | (with_reducible refine Ext.alloc ?_ _) | (with_reducible refine Ext.drew ?_) | (with_reducible refine Ext.drewN ?_ _) | (with_reducible refine Ext.setCell (p := _) ?_ ?ge _; case ge => (dsimp only; omega)) | (with_reducible refine Ext.trans ?_ (by with_reducible assumption)))), HD.out⟩
      case round =>
        obtain ⟨k, v, hk, rfl, hz, hb5, ho, he, hd⟩ := hrel
        have HB5 := Lib.hid hb5; have HO := Lib.hid ho; clear hb5 ho
        have HD2 := Lib.hid hd; clear hd
        obtain ⟨av, nv, cv, hv⟩ := NO.slice HO.out
        subst hv
        have l5 := HB5.out.lt
        have zr := he.size
        have bt := Bt.out.ext (w' := wr) (by repeat (first | (with_reducible exact Ext.refl _) | (with_reducible assumption) | (with_reducible refine Ext.alloc ?_ _) | (with_reducible refine Ext.drew ?_) | (with_reducible refine Ext.drewN ?_ _) | (with_reducible refine Ext.setCell (p := _) ?_ ?ge _; case ge => (dsimp only; omega)) | (with_reducible refine Ext.trans ?_ (by with_reducible assumption))))
        have lt := bt.lt
        obtain ⟨pt_0, pt_1⟩ := blk2 bt
        clear bt
        have bx := Bx.out.ext (w' := wr) (by repeat (first | (with_reducible exact Ext.refl _) | (with_reducible assumption) | (with_reducible refine Ext.alloc ?_ _) | (with_reducible refine Ext.drew ?_) | (with_reducible refine Ext.drewN ?_ _) | (with_reducible refine Ext.setCell (p := _) ?_ ?ge _; case ge => (dsimp only; omega)) | (with_reducible refine Ext.trans ?_ (by with_reducible assumption))))
        have lx := bx.lt
        obtain ⟨px_0, px_1⟩ := blk2 bx
        clear bx
        by_cases hlt : k < x.core.length
        · obtain ⟨b, off, rfl, hb, hkl, hc⟩ := (Sx_1.out.ext (w' := wr) (by repeat (first | (with_reducible exact Ext.refl _) | (with_reducible assumption) | (with_reducible refine Ext.alloc ?_ _) | (with_reducible refine Ext.drew ?_) | (with_reducible refine Ext.drewN ?_ _) | (with_reducible refine Ext.setCell (p := _) ?_ ?ge _; case ge => (dsimp only; omega)) | (with_reducible refine Ext.trans ?_ (by with_reducible assumption))))).at_ hlt
          have hyl : x.core[k].hops.length ≤ totS (fun u : DSegment => u.hops.length) x.core := totS_get (fun u : DSegment => u.hops.length) x.core k hkl
          have HX := Lib.hid (filter_snoc (useB t 1 now) x.core k hkl)
          have hfl := filter_take_len (useB t 1 now) x.core k
          generalize x.core[k] = u at *
          generalize hds : (x.core.take k).filter (useB t 1 now) = ds at *
          have HDS := Lib.hid hds; clear hds
          obtain ⟨Au_2, nu_2, cu_2, hu_0, hu_1, hu_2, su_2⟩ := hc
          obtain ⟨lu_2, ku_2, mu_2⟩ := su_2.len
          subst lu_2
          unfold maxLen at mu_2
          have Ru : Hid (SegmentV wr.heap.size wr (.agg #[I u.ts, I u.beta, .slice Au_2 u.hops.length cu_2]) u) := ⟨_, _, _, rfl, su_2⟩
          have Su_2 := Lib.hid su_2; clear su_2
          have i0 : (0 : Int) ≤ (k : Int) := by omega
          have i1 : (k : Int) < (x.core.length : Int) := by omega
          cases h0 : segUsable t u now
          · have HS : Hid ((x.core.take (k + 1)).filter (useB t 1 now) = ds) := by unfold Hid; rw [HX.out]; simp [useB, h0]
            go_wp2_with fail
            refine wp_region_L (E := Ext) (w0 := wr) (G := fun τ => match τ with | 61 => some (fun v _ => v = .bool (false)) | _ => none) Ext.refl (fun h k => Ext.trans h k) (by kernel_rfl) (by kernel_rfl) (by
                intro t φ hG
                split at hG
                all_goals first | (cases hG; done) | (cases Option.some.inj hG; intro v W W' hE hv; first | exact hv | exact IntS.ext hv hE | exact hv.ext hE | exact Own.up hv hE | exact hv.up hE | exact NO.up (by first | exact SegmentOC.keeps | exact TrustRootOC.keeps | exact BeaconOC.keeps | exact BeaconMessageOC.keeps | exact BeaconStoreOC.keeps) hv hE (Nat.le_refl _) | exact ObjUp.up hv hE)) (Ext.drew (by exact Ext.refl _)) ?_
            repeat' (first
              | ((with_reducible refine wpL_skip ?_ ?_ ?_)
                 · rfl
                 · rfl
                 simp only [Act.put, List.setIfInBounds_toArray, List.set_cons_zero, List.set_cons_succ])
              | ((with_reducible refine wpL_quiet ?_ ?_ ?_ ?_)
                 · rfl
                 · rfl
                 · rfl
                 apply Exists.intro
                 refine ⟨fun W hW hS => ?_, ?_⟩
                 · have hC := (Ext.facts hW).1
                   go_simp
                   first | done | (with_reducible rfl) | rfl
                 first | (with_reducible refine wpL_boolT ?_) | (with_reducible refine wpL_boolF ?_) | (with_reducible refine wpL_bool (fun hB => ?_) (fun hB => ?_)) | skip
                 all_goals simp only [Act.put, List.setIfInBounds_toArray, List.set_cons_zero, List.set_cons_succ])
              | ((refine wpL_call ?_ rfl rfl ?_ ?_ ?_)
                 · rfl
                 · rfl
                 · intro W hW hS
                   have hC := (Ext.facts hW).1
                   unfold growAt
                   go_simp
                   simp only [growUpon]
                   first | (go_at_call 102; ((with_reducible refine Calls.mono (spec_SegmentUsable _ _ _ (t) (u) _ (by exact Rt.out.ext (by repeat (first | (with_reducible exact Ext.refl _) | (with_reducible assumption) | (with_reducible refine Ext.alloc ?_ _) | (with_reducible refine Ext.drew ?_) | (with_reducible refine Ext.drewN ?_ _) | (with_reducible refine Ext.setCell (p := _) ?_ ?ge _; case ge => (dsimp only; omega)) | (with_reducible refine Ext.trans ?_ (by with_reducible assumption))))) (by exact Ru.out.ext (by repeat (first | (with_reducible exact Ext.refl _) | (with_reducible assumption) | (with_reducible refine Ext.alloc ?_ _) | (with_reducible refine Ext.drew ?_) | (with_reducible refine Ext.drewN ?_ _) | (with_reducible refine Ext.setCell (p := _) ?_ ?ge _; case ge => (dsimp only; omega)) | (with_reducible refine Ext.trans ?_ (by with_reducible assumption))))) (by first | omega | (simp [rootData]; done) | (simp [certData]; done) | (simp only [List.length_cons, List.length_nil]; omega))) ?_)); rintro e w9 ⟨rfl, e9⟩; exact ⟨_, rfl, e9, by first | rfl | (simp only [*])⟩)
                 first | (with_reducible refine wpL_boolT ?_) | (with_reducible refine wpL_boolF ?_) | (with_reducible refine wpL_bool (fun hB => ?_) (fun hB => ?_)) | skip
                 all_goals simp only [Act.put, List.setIfInBounds_toArray, List.set_cons_zero, List.set_cons_succ])
              | ((refine wpL_grow ?_ rfl rfl ?_ ?_)
                 · rfl
                 · intro W hW hS
                   have hC := (Ext.facts hW).1
                   unfold growAt
                   go_simp
                   simp only [growUpon]
                   first | (go_at_call 102; ((with_reducible refine Calls.mono (spec_SegmentUsable _ _ _ (t) (u) _ (by exact Rt.out.ext (by repeat (first | (with_reducible exact Ext.refl _) | (with_reducible assumption) | (with_reducible refine Ext.alloc ?_ _) | (with_reducible refine Ext.drew ?_) | (with_reducible refine Ext.drewN ?_ _) | (with_reducible refine Ext.setCell (p := _) ?_ ?ge _; case ge => (dsimp only; omega)) | (with_reducible refine Ext.trans ?_ (by with_reducible assumption))))) (by exact Ru.out.ext (by repeat (first | (with_reducible exact Ext.refl _) | (with_reducible assumption) | (with_reducible refine Ext.alloc ?_ _) | (with_reducible refine Ext.drew ?_) | (with_reducible refine Ext.drewN ?_ _) | (with_reducible refine Ext.setCell (p := _) ?_ ?ge _; case ge => (dsimp only; omega)) | (with_reducible refine Ext.trans ?_ (by with_reducible assumption))))) (by first | omega | (simp [rootData]; done) | (simp [certData]; done) | (simp only [List.length_cons, List.length_nil]; omega))) ?_)); rintro e w9 ⟨rfl, e9⟩; exact ⟨_, rfl, e9, by first | rfl | (simp only [*])⟩)
                 intro v W' hW' hv
                 first  | (obtain ⟨A5, n5, c5, rfl, -⟩ := id hv; clear hv) | (obtain ⟨A5, n5, c5, rfl⟩ := NO.slice hv) | skip
                 all_goals simp only [Act.put, List.setIfInBounds_toArray, List.set_cons_zero, List.set_cons_succ]))
            refine wpL_nil (fun w4 e4 hL => ?_)
            clear hL
            have z4 := e4.size
            go_wp2_with fail
            go_roundw
            case rel => exact ⟨k + 1, _, by omega, by go_num, by omega, HB5.out.ext e4, by rw [HS.out]; exact NO.up SegmentOC.keeps HO.out e4 (Nat.le_refl _), (by repeat (first | (with_reducible exact Ext.refl _) | (with_reducible assumption) | (with_reducible refine Ext.alloc ?_ _) | (with_reducible refine Ext.drew ?_) | (with_reducible refine Ext.drewN ?_ _) | (with_reducible refine Ext.setCell (p := _) ?_ ?ge _; case ge => (dsimp only; omega)) | (with_reducible refine Ext.trans ?_ (by with_reducible assumption)))), NO.at' SegmentOC.keeps HD2.out e4⟩
            case measure => simp [intOf]; omega
          by_cases h1 : segKind t u = 1
          · have HS : Hid ((x.core.take (k + 1)).filter (useB t 1 now) = ds ++ [u]) := by unfold Hid; rw [HX.out]; simp [useB, h0, h1]
            go_wp2_with fail
            refine wp_region_L (E := Ext) (w0 := wr) (G := fun τ => match τ with | 61 => some (fun v _ => v = .bool (true)) | 69 => some (fun v _ => v = I (1)) | _ => none) Ext.refl (fun h k => Ext.trans h k) (by kernel_rfl) (by kernel_rfl) (by
                intro t φ hG
                split at hG
                all_goals first | (cases hG; done) | (cases Option.some.inj hG; intro v W W' hE hv; first | exact hv | exact IntS.ext hv hE | exact hv.ext hE | exact Own.up hv hE | exact hv.up hE | exact NO.up (by first | exact SegmentOC.keeps | exact TrustRootOC.keeps | exact BeaconOC.keeps | exact BeaconMessageOC.keeps | exact BeaconStoreOC.keeps) hv hE (Nat.le_refl _) | exact ObjUp.up hv hE)) (Ext.drew (by exact Ext.refl _)) ?_
            repeat' (first
              | ((with_reducible refine wpL_skip ?_ ?_ ?_)
                 · rfl
                 · rfl
                 simp only [Act.put, List.setIfInBounds_toArray, List.set_cons_zero, List.set_cons_succ])
              | ((with_reducible refine wpL_quiet ?_ ?_ ?_ ?_)
                 · rfl
                 · rfl
                 · rfl
                 apply Exists.intro
                 refine ⟨fun W hW hS => ?_, ?_⟩
                 · have hC := (Ext.facts hW).1
                   go_simp
                   first | done | (with_reducible rfl) | rfl
                 first | (with_reducible refine wpL_boolT ?_) | (with_reducible refine wpL_boolF ?_) | (with_reducible refine wpL_bool (fun hB => ?_) (fun hB => ?_)) | skip
                 all_goals simp only [Act.put, List.setIfInBounds_toArray, List.set_cons_zero, List.set_cons_succ])
              | ((refine wpL_call ?_ rfl rfl ?_ ?_ ?_)
                 · rfl
                 · rfl
                 · intro W hW hS
                   have hC := (Ext.facts hW).1
                   unfold growAt
                   go_simp
                   simp only [growUpon]
                   first | (go_at_call 102; ((with_reducible refine Calls.mono (spec_SegmentUsable _ _ _ (t) (u) _ (by exact Rt.out.ext (by repeat (first | (with_reducible exact Ext.refl _) | (with_reducible assumption) | (with_reducible refine Ext.alloc ?_ _) | (with_reducible refine Ext.drew ?_) | (with_reducible refine Ext.drewN ?_ _) | (with_reducible refine Ext.setCell (p := _) ?_ ?ge _; case ge => (dsimp only; omega)) | (with_reducible refine Ext.trans ?_ (by with_reducible assumption))))) (by exact Ru.out.ext (by repeat (first | (with_reducible exact Ext.refl _) | (with_reducible assumption) | (with_reducible refine Ext.alloc ?_ _) | (with_reducible refine Ext.drew ?_) | (with_reducible refine Ext.drewN ?_ _) | (with_reducible refine Ext.setCell (p := _) ?_ ?ge _; case ge => (dsimp only; omega)) | (with_reducible refine Ext.trans ?_ (by with_reducible assumption))))) (by first | omega | (simp [rootData]; done) | (simp [certData]; done) | (simp only [List.length_cons, List.length_nil]; omega))) ?_)); rintro e w9 ⟨rfl, e9⟩; exact ⟨_, rfl, e9, by first | rfl | (simp only [*])⟩) | (go_at_call 103; ((with_reducible refine Calls.mono (spec_SegmentKind _ _ (t) (u) _ (by exact Rt.out.ext (by repeat (first | (with_reducible exact Ext.refl _) | (with_reducible assumption) | (with_reducible refine Ext.alloc ?_ _) | (with_reducible refine Ext.drew ?_) | (with_reducible refine Ext.drewN ?_ _) | (with_reducible refine Ext.setCell (p := _) ?_ ?ge _; case ge => (dsimp only; omega)) | (with_reducible refine Ext.trans ?_ (by with_reducible assumption))))) (by exact Ru.out.ext (by repeat (first | (with_reducible exact Ext.refl _) | (with_reducible assumption) | (with_reducible refine Ext.alloc ?_ _) | (with_reducible refine Ext.drew ?_) | (with_reducible refine Ext.drewN ?_ _) | (with_reducible refine Ext.setCell (p := _) ?_ ?ge _; case ge => (dsimp only; omega)) | (with_reducible refine Ext.trans ?_ (by with_reducible assumption))))) (by first | omega | (simp [rootData]; done) | (simp [certData]; done) | (simp only [List.length_cons, List.length_nil]; omega))) ?_)); rintro e w9 ⟨rfl, e9⟩; exact ⟨_, rfl, e9, by first | rfl | (simp only [*])⟩)
                 first | (with_reducible refine wpL_boolT ?_) | (with_reducible refine wpL_boolF ?_) | (with_reducible refine wpL_bool (fun hB => ?_) (fun hB => ?_)) | skip
                 all_goals simp only [Act.put, List.setIfInBounds_toArray, List.set_cons_zero, List.set_cons_succ])
              | ((refine wpL_grow ?_ rfl rfl ?_ ?_)
                 · rfl
                 · intro W hW hS
                   have hC := (Ext.facts hW).1
                   unfold growAt
                   go_simp
                   simp only [growUpon]
                   first | (go_at_call 102; ((with_reducible refine Calls.mono (spec_SegmentUsable _ _ _ (t) (u) _ (by exact Rt.out.ext (by repeat (first | (with_reducible exact Ext.refl _) | (with_reducible assumption) | (with_reducible refine Ext.alloc ?_ _) | (with_reducible refine Ext.drew ?_) | (with_reducible refine Ext.drewN ?_ _) | (with_reducible refine Ext.setCell (p := _) ?_ ?ge _; case ge => (dsimp only; omega)) | (with_reducible refine Ext.trans ?_ (by with_reducible assumption))))) (by exact Ru.out.ext (by repeat (first | (with_reducible exact Ext.refl _) | (with_reducible assumption) | (with_reducible refine Ext.alloc ?_ _) | (with_reducible refine Ext.drew ?_) | (with_reducible refine Ext.drewN ?_ _) | (with_reducible refine Ext.setCell (p := _) ?_ ?ge _; case ge => (dsimp only; omega)) | (with_reducible refine Ext.trans ?_ (by with_reducible assumption))))) (by first | omega | (simp [rootData]; done) | (simp [certData]; done) | (simp only [List.length_cons, List.length_nil]; omega))) ?_)); rintro e w9 ⟨rfl, e9⟩; exact ⟨_, rfl, e9, by first | rfl | (simp only [*])⟩) | (go_at_call 103; ((with_reducible refine Calls.mono (spec_SegmentKind _ _ (t) (u) _ (by exact Rt.out.ext (by repeat (first | (with_reducible exact Ext.refl _) | (with_reducible assumption) | (with_reducible refine Ext.alloc ?_ _) | (with_reducible refine Ext.drew ?_) | (with_reducible refine Ext.drewN ?_ _) | (with_reducible refine Ext.setCell (p := _) ?_ ?ge _; case ge => (dsimp only; omega)) | (with_reducible refine Ext.trans ?_ (by with_reducible assumption))))) (by exact Ru.out.ext (by repeat (first | (with_reducible exact Ext.refl _) | (with_reducible assumption) | (with_reducible refine Ext.alloc ?_ _) | (with_reducible refine Ext.drew ?_) | (with_reducible refine Ext.drewN ?_ _) | (with_reducible refine Ext.setCell (p := _) ?_ ?ge _; case ge => (dsimp only; omega)) | (with_reducible refine Ext.trans ?_ (by with_reducible assumption))))) (by first | omega | (simp [rootData]; done) | (simp [certData]; done) | (simp only [List.length_cons, List.length_nil]; omega))) ?_)); rintro e w9 ⟨rfl, e9⟩; exact ⟨_, rfl, e9, by first | rfl | (simp only [*])⟩)
                 intro v W' hW' hv
                 first  | (obtain ⟨A5, n5, c5, rfl, -⟩ := id hv; clear hv) | (obtain ⟨A5, n5, c5, rfl⟩ := NO.slice hv) | skip
                 all_goals simp only [Act.put, List.setIfInBounds_toArray, List.set_cons_zero, List.set_cons_succ]))
            refine wpL_nil (fun w4 e4 hL => ?_)
            clear hL h0 h1
            have z4 := e4.size
            have bx := Bx.out.ext (w' := w4) (by repeat (first | (with_reducible exact Ext.refl _) | (with_reducible assumption) | (with_reducible refine Ext.alloc ?_ _) | (with_reducible refine Ext.drew ?_) | (with_reducible refine Ext.drewN ?_ _) | (with_reducible refine Ext.setCell (p := _) ?_ ?ge _; case ge => (dsimp only; omega)) | (with_reducible refine Ext.trans ?_ (by with_reducible assumption))))
            have lx := bx.lt
            obtain ⟨px_0, px_1⟩ := blk2 bx
            clear bx
            obtain ⟨ku_0, ku_1, ku_2⟩ : w4.cell? ⟨b, off + k * 3, none⟩ = some (I u.ts) ∧ w4.cell? ⟨b, off + k * 3 + 1, none⟩ = some (I u.beta) ∧ w4.cell? ⟨b, off + k * 3 + 2, none⟩ = some (.slice Au_2 u.hops.length cu_2) := ⟨(e4.cell hb).trans hu_0, (e4.cell hb).trans hu_1, (e4.cell hb).trans hu_2⟩
            have b5 := HB5.out.ext (w' := w4) (by repeat (first | (with_reducible exact Ext.refl _) | (with_reducible assumption) | (with_reducible refine Ext.alloc ?_ _) | (with_reducible refine Ext.drew ?_) | (with_reducible refine Ext.drewN ?_ _) | (with_reducible refine Ext.setCell (p := _) ?_ ?ge _; case ge => (dsimp only; omega)) | (with_reducible refine Ext.trans ?_ (by with_reducible assumption))))
            have lb5 := b5.lt
            obtain ⟨qb5_0, qb5_1⟩ := blk2 b5
            have fb5_0 := b5.frozen 0
            have fb5_1 := b5.frozen 1
            clear b5
            have hb4 : b < w4.heap.size := by omega
            go_wp2_with fail
            refine wp_region_LT 9 (E := Ext) (w0 := w4) (G := fun τ => match τ with | 79 => some (fun v W => SegmentO w4.heap.size W.heap.size W v u) | 80 => some (fun v W => SegmentSO w4.heap.size W.heap.size W v [u]) | _ => none) Ext.refl (fun h k => Ext.trans h k) (by kernel_rfl) (by kernel_rfl) (by kernel_rfl) (by kernel_rfl) (by kernel_rfl) (by kernel_rfl) (by
                intro t φ hG
                split at hG
                all_goals first | (cases hG; done) | (cases Option.some.inj hG; intro v W W' hE hv; first | exact hv | exact IntS.ext hv hE | exact hv.ext hE | exact Own.up hv hE | exact hv.up hE | exact NO.up (by first | exact SegmentOC.keeps | exact TrustRootOC.keeps | exact BeaconOC.keeps | exact BeaconMessageOC.keeps | exact BeaconStoreOC.keeps) hv hE (Nat.le_refl _) | exact ObjUp.up hv hE)) (Ext.drew (by exact Ext.refl _)) ?_
            simp only [List.take_succ_cons, List.take_zero]
            repeat' (first
              | ((with_reducible refine wpL_skip ?_ ?_ ?_)
                 · rfl
                 · rfl
                 simp only [Act.put, List.setIfInBounds_toArray, List.set_cons_zero, List.set_cons_succ])
              | ((with_reducible refine wpL_quiet ?_ ?_ ?_ ?_)
                 · rfl
                 · rfl
                 · rfl
                 apply Exists.intro
                 refine ⟨fun W hW hS => ?_, ?_⟩
                 · have hC := (Ext.facts hW).1
                   go_simp
                   first | done | (with_reducible rfl) | rfl
                 first | (with_reducible refine wpL_boolT ?_) | (with_reducible refine wpL_boolF ?_) | (with_reducible refine wpL_bool (fun hB => ?_) (fun hB => ?_)) | skip
                 all_goals simp only [Act.put, List.setIfInBounds_toArray, List.set_cons_zero, List.set_cons_succ])
              | ((refine wpL_call ?_ rfl rfl ?_ ?_ ?_)
                 · rfl
                 · rfl
                 · intro W hW hS
                   have hC := (Ext.facts hW).1
                   unfold growAt
                   go_simp
                   simp only [growUpon]
                   first | (go_at_call 76; (with_reducible refine Calls.mono (spec_l9Copy _ u _ (by exact Ru.out.ext (by repeat (first | (with_reducible exact Ext.refl _) | (with_reducible assumption) | (with_reducible refine Ext.alloc ?_ _) | (with_reducible refine Ext.drew ?_) | (with_reducible refine Ext.drewN ?_ _) | (with_reducible refine Ext.setCell (p := _) ?_ ?ge _; case ge => (dsimp only; omega)) | (with_reducible refine Ext.trans ?_ (by with_reducible assumption))))) (by omega)) ?_); rintro e w9 ⟨v9, rfl, o9, e9⟩; exact ⟨_, rfl, e9, SegmentO.more o9 (Ext.size hW) (Nat.le_refl _)⟩) | (exact ⟨(by repeat (first | (with_reducible exact Ext.refl _) | (with_reducible assumption) | (with_reducible refine Ext.alloc ?_ _) | (with_reducible refine Ext.drew ?_) | (with_reducible refine Ext.drewN ?_ _) | (with_reducible refine Ext.setCell (p := _) ?_ ?ge _; case ge => (dsimp only; omega)) | (with_reducible refine Ext.trans ?_ (by with_reducible assumption)))), SegmentO.single (hS 79 (by decide)) (Ext.size hW) rfl⟩)
                 first | (with_reducible refine wpL_boolT ?_) | (with_reducible refine wpL_boolF ?_) | (with_reducible refine wpL_bool (fun hB => ?_) (fun hB => ?_)) | skip
                 all_goals simp only [Act.put, List.setIfInBounds_toArray, List.set_cons_zero, List.set_cons_succ])
              | ((refine wpL_grow ?_ rfl rfl ?_ ?_)
                 · rfl
                 · intro W hW hS
                   have hC := (Ext.facts hW).1
                   unfold growAt
                   go_simp
                   simp only [growUpon]
                   first | (go_at_call 76; (with_reducible refine Calls.mono (spec_l9Copy _ u _ (by exact Ru.out.ext (by repeat (first | (with_reducible exact Ext.refl _) | (with_reducible assumption) | (with_reducible refine Ext.alloc ?_ _) | (with_reducible refine Ext.drew ?_) | (with_reducible refine Ext.drewN ?_ _) | (with_reducible refine Ext.setCell (p := _) ?_ ?ge _; case ge => (dsimp only; omega)) | (with_reducible refine Ext.trans ?_ (by with_reducible assumption))))) (by omega)) ?_); rintro e w9 ⟨v9, rfl, o9, e9⟩; exact ⟨_, rfl, e9, SegmentO.more o9 (Ext.size hW) (Nat.le_refl _)⟩) | (exact ⟨(by repeat (first | (with_reducible exact Ext.refl _) | (with_reducible assumption) | (with_reducible refine Ext.alloc ?_ _) | (with_reducible refine Ext.drew ?_) | (with_reducible refine Ext.drewN ?_ _) | (with_reducible refine Ext.setCell (p := _) ?_ ?ge _; case ge => (dsimp only; omega)) | (with_reducible refine Ext.trans ?_ (by with_reducible assumption)))), SegmentO.single (hS 79 (by decide)) (Ext.size hW) rfl⟩)
                 intro v W' hW' hv
                 first | (obtain ⟨A5, n5, c5, rfl⟩ := SegmentO.shape hv) | (obtain ⟨A6, n6, c6, rfl⟩ := NO.slice hv) | (obtain ⟨A5, n5, c5, rfl, -⟩ := id hv; clear hv) | (obtain ⟨A5, n5, c5, rfl⟩ := NO.slice hv) | skip
                 all_goals simp only [Act.put, List.setIfInBounds_toArray, List.set_cons_zero, List.set_cons_succ]))
            refine wpL_nil (fun w5 e5 hL => ?_)
            have n5_ : SegmentSO w4.heap.size w5.heap.size w5 _ [u] := hL 80
            have N5 := Lib.hid n5_; clear hL n5_
            have z5 := e5.size
            clear lb5 qb5_0 qb5_1 fb5_0 fb5_1 ku_0 ku_1 ku_2
            simp only [List.drop_succ_cons, List.drop_zero]
            go_wp2_with (at_builtin; refine hold ?_)
            refine unhold (wpList_pushN rfl w3.heap.size SegmentOC.keeps SegmentOC.one (.tmp 73) (.tmp 80) _ rfl 31 _ 3 40 Try.underlying85 info_Segment rfl (by omega) _ ds [u] wr.heap.size w4.heap.size w5.heap.size rfl _ _ _ rfl (by exact NO.at' SegmentOC.keeps HO.out (by repeat (first | (with_reducible exact Ext.refl _) | (with_reducible assumption) | (with_reducible refine Ext.alloc ?_ _) | (with_reducible refine Ext.drew ?_) | (with_reducible refine Ext.drewN ?_ _) | (with_reducible refine Ext.setCell (p := _) ?_ ?ge _; case ge => (dsimp only; omega)) | (with_reducible refine Ext.trans ?_ (by with_reducible assumption))))) (by exact N5.out) (by omega) (by omega) (by omega) (Nat.le_refl _) (by omega) (by simp only [List.length_singleton]; omega) (by omega) ?_)
            intro v7 w7 no7 hg7
            obtain ⟨a7, m7, c7, hv7⟩ := NO.slice no7
            subst hv7
            have hnb : (Value.slice av nv cv).ownBlock ≠ some (w.heap.size + 1 + 1 + 1) := NO.not_block HO.out (by omega)
            have B7 := Lib.hid (Blk.grown (w := w5) (HB5.out.ext (by repeat (first | (with_reducible exact Ext.refl _) | (with_reducible assumption) | (with_reducible refine Ext.alloc ?_ _) | (with_reducible refine Ext.drew ?_) | (with_reducible refine Ext.drewN ?_ _) | (with_reducible refine Ext.setCell (p := _) ?_ ?ge _; case ge => (dsimp only; omega)) | (with_reducible refine Ext.trans ?_ (by with_reducible assumption))))) hg7 hnb)
            have E7 := Lib.hid (Ext.grownN (a := wb) (w := w5) (by repeat (first | (with_reducible exact Ext.refl _) | (with_reducible assumption) | (with_reducible refine Ext.alloc ?_ _) | (with_reducible refine Ext.drew ?_) | (with_reducible refine Ext.drewN ?_ _) | (with_reducible refine Ext.setCell (p := _) ?_ ?ge _; case ge => (dsimp only; omega)) | (with_reducible refine Ext.trans ?_ (by with_reducible assumption)))) (NO.at' SegmentOC.keeps HO.out (w' := w5) (by repeat (first | (with_reducible exact Ext.refl _) | (with_reducible assumption) | (with_reducible refine Ext.alloc ?_ _) | (with_reducible refine Ext.drew ?_) | (with_reducible refine Ext.drewN ?_ _) | (with_reducible refine Ext.setCell (p := _) ?_ ?ge _; case ge => (dsimp only; omega)) | (with_reducible refine Ext.trans ?_ (by with_reducible assumption))))) hg7 (by omega))
            have D7 := Lib.hid (NO.keep (w' := w7) SegmentOC.keeps (NO.at' SegmentOC.keeps HD2.out (w' := w5) (by repeat (first | (with_reducible exact Ext.refl _) | (with_reducible assumption) | (with_reducible refine Ext.alloc ?_ _) | (with_reducible refine Ext.drew ?_) | (with_reducible refine Ext.drewN ?_ _) | (with_reducible refine Ext.setCell (p := _) ?_ ?ge _; case ge => (dsimp only; omega)) | (with_reducible refine Ext.trans ?_ (by with_reducible assumption))))) (fun j j1 j2 j3 => hg7.block j j3 (fun e => NO.not_block HO.out (g := j) (by omega) e.symm)))
            have z7 : w5.heap.size ≤ w7.heap.size := hg7.size
            have O7 := Lib.hid no7; clear no7 hg7 hnb
            have b7 := B7.out.ext (w' := w7) (by repeat (first | (with_reducible exact Ext.refl _) | (with_reducible assumption) | (with_reducible refine Ext.alloc ?_ _) | (with_reducible refine Ext.drew ?_) | (with_reducible refine Ext.drewN ?_ _) | (with_reducible refine Ext.setCell (p := _) ?_ ?ge _; case ge => (dsimp only; omega)) | (with_reducible refine Ext.trans ?_ (by with_reducible assumption))))
            have lb7 := b7.lt
            obtain ⟨qb7_0, qb7_1⟩ := blk2 b7
            have fb7_0 := b7.frozen 0
            have fb7_1 := b7.frozen 1
            clear b7
            go_wp2_with (at_builtin; refine hold ?_)
            go_roundw
            case rel => exact ⟨k + 1, _, by omega, by go_num, by simp only [World.size_setCell]; omega, by simpa using B7.out.set_ 1 (.slice a7 m7 c7), by rw [HS.out]; simp only [World.size_setCell]; exact SegmentSO_setCell O7.out (.inl (by dsimp only; omega)) _, Ext.setCell E7.out (by dsimp only; omega) _, SegmentSO_setCell D7.out (.inl (by dsimp only; omega)) _⟩
            case measure => simp [intOf]; omega
          · have HS : Hid ((x.core.take (k + 1)).filter (useB t 1 now) = ds) := by unfold Hid; rw [HX.out]; simp [useB, h1]
            have d1 : (segKind t u == 1) = false := beq_eq_false_iff_ne.2 h1
            clear h1
            go_wp2_with fail
            refine wp_region_L (E := Ext) (w0 := wr) (G := fun τ => match τ with | 61 => some (fun v _ => v = .bool (true)) | 69 => some (fun v _ => v = I (segKind t u)) | _ => none) Ext.refl (fun h k => Ext.trans h k) (by kernel_rfl) (by kernel_rfl) (by
                intro t φ hG
                split at hG
                all_goals first | (cases hG; done) | (cases Option.some.inj hG; intro v W W' hE hv; first | exact hv | exact IntS.ext hv hE | exact hv.ext hE | exact Own.up hv hE | exact hv.up hE | exact NO.up (by first | exact SegmentOC.keeps | exact TrustRootOC.keeps | exact BeaconOC.keeps | exact BeaconMessageOC.keeps | exact BeaconStoreOC.keeps) hv hE (Nat.le_refl _) | exact ObjUp.up hv hE)) (Ext.drew (by exact Ext.refl _)) ?_
            repeat' (first
              | ((with_reducible refine wpL_skip ?_ ?_ ?_)
                 · rfl
                 · rfl
                 simp only [Act.put, List.setIfInBounds_toArray, List.set_cons_zero, List.set_cons_succ])
              | ((with_reducible refine wpL_quiet ?_ ?_ ?_ ?_)
                 · rfl
                 · rfl
                 · rfl
                 apply Exists.intro
                 refine ⟨fun W hW hS => ?_, ?_⟩
                 · have hC := (Ext.facts hW).1
                   go_simp
                   first | done | (with_reducible rfl) | rfl
                 first | (with_reducible refine wpL_boolT ?_) | (with_reducible refine wpL_boolF ?_) | (with_reducible refine wpL_bool (fun hB => ?_) (fun hB => ?_)) | skip
                 all_goals simp only [Act.put, List.setIfInBounds_toArray, List.set_cons_zero, List.set_cons_succ])
              | ((refine wpL_call ?_ rfl rfl ?_ ?_ ?_)
                 · rfl
                 · rfl
                 · intro W hW hS
                   have hC := (Ext.facts hW).1
                   unfold growAt
                   go_simp
                   simp only [growUpon]
                   first | (go_at_call 102; ((with_reducible refine Calls.mono (spec_SegmentUsable _ _ _ (t) (u) _ (by exact Rt.out.ext (by repeat (first | (with_reducible exact Ext.refl _) | (with_reducible assumption) | (with_reducible refine Ext.alloc ?_ _) | (with_reducible refine Ext.drew ?_) | (with_reducible refine Ext.drewN ?_ _) | (with_reducible refine Ext.setCell (p := _) ?_ ?ge _; case ge => (dsimp only; omega)) | (with_reducible refine Ext.trans ?_ (by with_reducible assumption))))) (by exact Ru.out.ext (by repeat (first | (with_reducible exact Ext.refl _) | (with_reducible assumption) | (with_reducible refine Ext.alloc ?_ _) | (with_reducible refine Ext.drew ?_) | (with_reducible refine Ext.drewN ?_ _) | (with_reducible refine Ext.setCell (p := _) ?_ ?ge _; case ge => (dsimp only; omega)) | (with_reducible refine Ext.trans ?_ (by with_reducible assumption))))) (by first | omega | (simp [rootData]; done) | (simp [certData]; done) | (simp only [List.length_cons, List.length_nil]; omega))) ?_)); rintro e w9 ⟨rfl, e9⟩; exact ⟨_, rfl, e9, by first | rfl | (simp only [*])⟩) | (go_at_call 103; ((with_reducible refine Calls.mono (spec_SegmentKind _ _ (t) (u) _ (by exact Rt.out.ext (by repeat (first | (with_reducible exact Ext.refl _) | (with_reducible assumption) | (with_reducible refine Ext.alloc ?_ _) | (with_reducible refine Ext.drew ?_) | (with_reducible refine Ext.drewN ?_ _) | (with_reducible refine Ext.setCell (p := _) ?_ ?ge _; case ge => (dsimp only; omega)) | (with_reducible refine Ext.trans ?_ (by with_reducible assumption))))) (by exact Ru.out.ext (by repeat (first | (with_reducible exact Ext.refl _) | (with_reducible assumption) | (with_reducible refine Ext.alloc ?_ _) | (with_reducible refine Ext.drew ?_) | (with_reducible refine Ext.drewN ?_ _) | (with_reducible refine Ext.setCell (p := _) ?_ ?ge _; case ge => (dsimp only; omega)) | (with_reducible refine Ext.trans ?_ (by with_reducible assumption))))) (by first | omega | (simp [rootData]; done) | (simp [certData]; done) | (simp only [List.length_cons, List.length_nil]; omega))) ?_)); rintro e w9 ⟨rfl, e9⟩; exact ⟨_, rfl, e9, by first | rfl | (simp only [*])⟩)
                 first | (with_reducible refine wpL_boolT ?_) | (with_reducible refine wpL_boolF ?_) | (with_reducible refine wpL_bool (fun hB => ?_) (fun hB => ?_)) | skip
                 all_goals simp only [Act.put, List.setIfInBounds_toArray, List.set_cons_zero, List.set_cons_succ])
              | ((refine wpL_grow ?_ rfl rfl ?_ ?_)
                 · rfl
                 · intro W hW hS
                   have hC := (Ext.facts hW).1
                   unfold growAt
                   go_simp
                   simp only [growUpon]
                   first | (go_at_call 102; ((with_reducible refine Calls.mono (spec_SegmentUsable _ _ _ (t) (u) _ (by exact Rt.out.ext (by repeat (first | (with_reducible exact Ext.refl _) | (with_reducible assumption) | (with_reducible refine Ext.alloc ?_ _) | (with_reducible refine Ext.drew ?_) | (with_reducible refine Ext.drewN ?_ _) | (with_reducible refine Ext.setCell (p := _) ?_ ?ge _; case ge => (dsimp only; omega)) | (with_reducible refine Ext.trans ?_ (by with_reducible assumption))))) (by exact Ru.out.ext (by repeat (first | (with_reducible exact Ext.refl _) | (with_reducible assumption) | (with_reducible refine Ext.alloc ?_ _) | (with_reducible refine Ext.drew ?_) | (with_reducible refine Ext.drewN ?_ _) | (with_reducible refine Ext.setCell (p := _) ?_ ?ge _; case ge => (dsimp only; omega)) | (with_reducible refine Ext.trans ?_ (by with_reducible assumption))))) (by first | omega | (simp [rootData]; done) | (simp [certData]; done) | (simp only [List.length_cons, List.length_nil]; omega))) ?_)); rintro e w9 ⟨rfl, e9⟩; exact ⟨_, rfl, e9, by first | rfl | (simp only [*])⟩) | (go_at_call 103; ((with_reducible refine Calls.mono (spec_SegmentKind _ _ (t) (u) _ (by exact Rt.out.ext (by repeat (first | (with_reducible exact Ext.refl _) | (with_reducible assumption) | (with_reducible refine Ext.alloc ?_ _) | (with_reducible refine Ext.drew ?_) | (with_reducible refine Ext.drewN ?_ _) | (with_reducible refine Ext.setCell (p := _) ?_ ?ge _; case ge => (dsimp only; omega)) | (with_reducible refine Ext.trans ?_ (by with_reducible assumption))))) (by exact Ru.out.ext (by repeat (first | (with_reducible exact Ext.refl _) | (with_reducible assumption) | (with_reducible refine Ext.alloc ?_ _) | (with_reducible refine Ext.drew ?_) | (with_reducible refine Ext.drewN ?_ _) | (with_reducible refine Ext.setCell (p := _) ?_ ?ge _; case ge => (dsimp only; omega)) | (with_reducible refine Ext.trans ?_ (by with_reducible assumption))))) (by first | omega | (simp [rootData]; done) | (simp [certData]; done) | (simp only [List.length_cons, List.length_nil]; omega))) ?_)); rintro e w9 ⟨rfl, e9⟩; exact ⟨_, rfl, e9, by first | rfl | (simp only [*])⟩)
                 intro v W' hW' hv
                 first  | (obtain ⟨A5, n5, c5, rfl, -⟩ := id hv; clear hv) | (obtain ⟨A5, n5, c5, rfl⟩ := NO.slice hv) | skip
                 all_goals simp only [Act.put, List.setIfInBounds_toArray, List.set_cons_zero, List.set_cons_succ]))
            refine wpL_nil (fun w4 e4 hL => ?_)
            clear hL
            have z4 := e4.size
            go_wp2_with fail
            go_roundw
            case rel => exact ⟨k + 1, _, by omega, by go_num, by omega, HB5.out.ext e4, by rw [HS.out]; exact NO.up SegmentOC.keeps HO.out e4 (Nat.le_refl _), (by repeat (first | (with_reducible exact Ext.refl _) | (with_reducible assumption) | (with_reducible refine Ext.alloc ?_ _) | (with_reducible refine Ext.drew ?_) | (with_reducible refine Ext.drewN ?_ _) | (with_reducible refine Ext.setCell (p := _) ?_ ?ge _; case ge => (dsimp only; omega)) | (with_reducible refine Ext.trans ?_ (by with_reducible assumption)))), NO.at' SegmentOC.keeps HD2.out e4⟩
            case measure => simp [intOf]; omega
        · obtain rfl : k = x.core.length := by omega
          rw [List.take_length] at HO
          have b5 := HB5.out.ext (w' := wr) (by repeat (first | (with_reducible exact Ext.refl _) | (with_reducible assumption) | (with_reducible refine Ext.alloc ?_ _) | (with_reducible refine Ext.drew ?_) | (with_reducible refine Ext.drewN ?_ _) | (with_reducible refine Ext.setCell (p := _) ?_ ?ge _; case ge => (dsimp only; omega)) | (with_reducible refine Ext.trans ?_ (by with_reducible assumption))))
          have lb5 := b5.lt
          obtain ⟨qb5_0, qb5_1⟩ := blk2 b5
          have fb5_0 := b5.frozen 0
          have fb5_1 := b5.frozen 1
          clear b5
          have br := BR.out.ext (w' := wr) (by repeat (first | (with_reducible exact Ext.refl _) | (with_reducible assumption) | (with_reducible refine Ext.alloc ?_ _) | (with_reducible refine Ext.drew ?_) | (with_reducible refine Ext.drewN ?_ _) | (with_reducible refine Ext.setCell (p := _) ?_ ?ge _; case ge => (dsimp only; omega)) | (with_reducible refine Ext.trans ?_ (by with_reducible assumption))))
          have lbr := br.lt
          obtain ⟨qbr_0, qbr_1⟩ := blk2 br
          have fbr_0 := br.frozen 0
          have fbr_1 := br.frozen 1
          clear br
          go_wp2_with fail
          have z1 := ew0.size
          refine bodyPost_ret (v := .agg #[.slice a1 n1 c1, .slice av nv cv]) (by simp [results, Try.results39, go_sem, *]) rfl ⟨_, rfl, ?_, ?_⟩
          · simp only [World.size_setCell]
            refine ⟨_, _, w3.heap.size, rfl, NO.more (NO.keep SegmentOC.keeps HD2.out ?_) (by omega) (by omega), NO.more (NO.keep SegmentOC.keeps HO.out ?_) (by omega) (by omega), by omega, by omega⟩
            · intro k h1 h2 h3
              rw [Below.heap_setCell _ _ _ _ (by dsimp only; omega), Below.heap_setCell _ _ _ _ (by dsimp only; omega)]
            · intro k h1 h2 h3
              rw [Below.heap_setCell _ _ _ _ (by dsimp only; omega), Below.heap_setCell _ _ _ _ (by dsimp only; omega)]
          · exact (by repeat (first | (with_reducible exact Ext.refl _) | (with_reducible assumption) | (with_reducible refine Ext.alloc ?_ _) | (with_reducible refine Ext.drew ?_) | (with_reducible refine Ext.drewN ?_ _) | (with_reducible refine Ext.setCell (p := _) ?_ ?ge _; case ge => (dsimp only; omega)) | (with_reducible refine Ext.trans ?_ (by with_reducible assumption))))
end Go.Proofs.Ytcalbcjheenmgaa
