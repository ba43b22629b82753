/- The contract of the reference's l18Draw: all links of its topology are right. No conditions. -/
import Derived.Test.YtddaodemdkjijaaGreatD6
import Derived.Test.YtddaodemdkjijaaGreatD19
namespace Go.Proofs.YtddaodemdkjijaaGreat
open Go.RowKit
set_option linter.unusedVariables false
set_option maxRecDepth 100000 in
set_option maxHeartbeats 1000000 in
theorem spec_l18DrawL (g : Nat) (w : World) (hc : Cur w g) : Calls Tryz.prog 38 #[.pointer (some ⟨g, 0, none⟩)] w fun e w' => (∃ vt vl, e = .returned (.tuple #[vt, vl]) ∧ ∃ t l, TopologyO w.heap.size w'.heap.size w' vt t ∧ (DrawnTopo t ∧ LinksOk t) ∧ TrustRootSO w.heap.size w'.heap.size w' vl l ∧ 0 < l.length ∧ l.length ≤ 5 ∧ ∀ x ∈ l, x.sigs.length ≤ 16 ∧ 0 ≤ x.version ∧ x.version ≤ l.length ∧ 0 ≤ x.notBefore ∧ x.notBefore ≤ 100 * l.length) ∧ D g w w' := by
  have HC := Lib.hid hc
  have hgw := hc.lt
  clear hc
  go_enter Tryz.func38, Tryz.ntmps38
  go_wp2_with fail
  refine name_calls (fun W => D g w W ∧ W.heap.size = w.heap.size + 1 ∧ Blk W w.heap.size 27 [.slice none 0 0, .slice none 0 0]) ⟨D.alloc (D.refl _ _) hgw _, by simp only [World.size_alloc], xb⟩ ?_
  rintro wa ⟨da, za, br⟩
  have BR := Lib.hid br; clear br
  have HCA0 := Lib.hid (da.cur HC.out)
  refine (spec_l5DrawL g wa HCA0.out).mono ?_
  rintro e w1 ⟨v1, rfl, ⟨t, ot, ⟨hn1, hn2, hn3⟩, hlk⟩, d1⟩
  have HLK := Lib.hid hlk; clear hlk
  obtain ⟨At_0, nt_0, ct_0, At_1, nt_1, ct_1, rfl, st_0, st_1⟩ := ot.v
  obtain ⟨lt_0, kt_0, mt_0⟩ := st_0.len
  obtain ⟨lt_1, kt_1, mt_1⟩ := st_1.len
  subst lt_0
  subst lt_1
  unfold maxLen at mt_0 mt_1
  have OT := Lib.hid ot; clear ot st_1
  have z1 := d1.size
  obtain ⟨b0, off0, hA0, hb0, hk0, hc0, -, -⟩ := st_0.at_ (k := 0) (by omega)
  subst hA0
  have hc0 : w1.cell? ⟨b0, off0, none⟩ = some (I t.ases[0].isd) := by simpa using hc0
  generalize t.ases[0].isd = z at *
  clear st_0
  go_wp2_with fail
  refine name_wp (fun W => Ext w1 W ∧ W.heap.size = w1.heap.size + 1 ∧ Blk W w1.heap.size 27 [.slice (some ⟨b0, off0, none⟩) t.ases.length ct_0, .slice At_1 t.links.length ct_1]) ⟨xe, by simp only [World.size_alloc], xb⟩ ?_
  rintro w2 ⟨e2, z2, b4⟩
  have BT4 := Lib.hid b4; clear b4
  have hg2 : g < w2.heap.size := by omega
  have hc2 := (e2.cell hb0).trans hc0
  have hb2 : b0 < w2.heap.size := by omega
  have HTO := Lib.hid (OT.out.ext e2 (Nat.le_refl _))
  have d02 : D g wa w2 := D.trans d1 (D.of_ext e2 (by omega))
  have HCA := Lib.hid (d02.cur HCA0.out)
  have i1 : (0 : Int) < (t.ases.length : Int) := by omega
  have HTV := Lib.hid (TopologyO_rd HTO.out (by omega))
  have b0_ := BT4.out.ext (w' := w2) xe
  have lb0_ := b0_.lt
  obtain ⟨qb0__0, qb0__1⟩ := blk2 b0_
  have fb0__0 := b0_.frozen 0
  have fb0__1 := b0_.frozen 1
  clear b0_
  refine wp_region_L (E := Ext) (w0 := w2) (G := fun τ => match τ with | 20 => some (fun v W => ∃ s : Int, v = I s ∧ ∀ j, contains s j = true → j < (t.ases.length : Int)) | 19 => some (fun v W => CoreL t v W) | _ => none) Ext.refl (fun h k => Ext.trans h k) (by kernel_rfl) (by kernel_rfl) xg (Ext.drew (by exact Ext.refl _)) ?_
  repeat' (first
    | ((with_reducible refine wpL_skip ?_ ?_ ?_)
       · rfl
       · rfl
       simp only [Act.put, List.setIfInBounds_toArray, List.set_cons_zero, List.set_cons_succ])
    | ((with_reducible refine wpL_quiet ?_ ?_ ?_ ?_)
       · rfl
       · rfl
       · rfl
       apply Exists.intro
       refine ⟨fun W hW hS => ?_, ?_⟩
       · have hC := (Ext.facts hW).1
         go_simp
         first | done | (with_reducible rfl) | (rw [if_neg (by omega)]; exact ⟨rfl, rfl⟩) | rfl
       first | (with_reducible refine wpL_boolT ?_) | (with_reducible refine wpL_boolF ?_) | (with_reducible refine wpL_bool (fun hB => ?_) (fun hB => ?_)) | skip
       all_goals simp only [Act.put, List.setIfInBounds_toArray, List.set_cons_zero, List.set_cons_succ])
    | ((refine wpL_grow ?_ rfl rfl ?_ ?_)
       · rfl
       · intro W hW hS
         have hC := (Ext.facts hW).1
         unfold growAt
         go_simp
         simp only [growUpon]
         first | (have h19 : CoreL t _ W := hS 19 (by decide); obtain ⟨lc9, hlc9, hlr9⟩ := h19; go_at_call 81; (with_reducible refine Calls.mono (spec_MakeSet _ lc9 _ hlc9) ?_); rintro e w9 ⟨rfl, e9⟩; exact ⟨_, rfl, e9, ⟨_, rfl, core_set hlr9 (by omega)⟩⟩) | (go_at_call 82; (with_reducible refine Calls.mono (spec_CoreASes _ z t _ (by exact HTV.out.ext xe) (by omega)) ?_); rintro e w9 ⟨v9, rfl, ⟨lc, o9, hr9⟩, e9⟩; exact ⟨_, rfl, e9, ⟨lc, IntSO_rd o9, hr9⟩⟩)
       intro v W' hW' hv
       first | (obtain ⟨who, rfl, hwho⟩ := hv) | (obtain ⟨lc, hlc, hlr⟩ := hv; obtain ⟨A5, n5, c5, rfl, -⟩ := id hlc) | (obtain ⟨A5, n5, c5, rfl, -⟩ := id hv; clear hv) | (obtain ⟨A5, n5, c5, rfl⟩ := NO.slice hv) | skip
       all_goals simp only [Act.put, List.setIfInBounds_toArray, List.set_cons_zero, List.set_cons_succ]))
  refine wpL_nil (fun w3 e3 hL => ?_)
  clear hL lb0_ qb0__0 qb0__1 fb0__0 fb0__1 hc2 hc0
  have z3 := e3.size
  have d23 : D g w2 w3 := D.of_ext e3 (by omega)
  have hg3 : g < w3.heap.size := by omega
  have HC3 := Lib.hid (d23.cur HCA.out)
  have HT3 := Lib.hid (HTO.out.ext e3 (by omega))
  have BT3 := Lib.hid (BT4.out.ext e3)
  have b0_ := BT4.out.ext (w' := w3) xe
  have lb0_ := b0_.lt
  obtain ⟨qb0__0, qb0__1⟩ := blk2 b0_
  have fb0__0 := b0_.frozen 0
  have fb0__1 := b0_.frozen 1
  clear b0_
  have nb0 : ¬ w1.heap.size = g := by omega
  go_wp2_with fail
  refine wp_region_L (E := D g) (w0 := w3) (G := fun τ => match τ with | 28 => some (fun v W => RootSF w3.heap.size 1 v W) | 24 => some (fun v W => ∃ x : Int, v = I x ∧ 0 ≤ x ∧ x < 10) | 27 => some (fun v W => RootF w3.heap.size 1 v W) | _ => none) (D.refl g) (fun h k => D.trans h k) (by kernel_rfl) (by kernel_rfl) (by intro t φ hG; split at hG; all_goals first | (cases hG; done) | (cases Option.some.inj hG; intro v W W' hE hv; first | exact hv | exact hv.d hE (by omega) | (obtain ⟨y, hy⟩ := hv; exact ⟨y, Fresh1.d hy hE (by omega)⟩))) (D.drew (by exact D.refl _ _)) ?_
  repeat' (first
    | ((with_reducible refine wpL_skip ?_ ?_ ?_)
       · rfl
       · rfl
       simp only [Act.put, List.setIfInBounds_toArray, List.set_cons_zero, List.set_cons_succ])
    | ((with_reducible refine wpL_quiet ?_ ?_ ?_ ?_)
       · rfl
       · rfl
       · rfl
       apply Exists.intro
       refine ⟨fun W hW hS => ?_, ?_⟩
       · have hC := (D.facts hW).1
         go_simp
         first | done | (with_reducible rfl) | (rw [if_neg (by omega)]; exact ⟨rfl, rfl⟩) | rfl
       first | (with_reducible refine wpL_boolT ?_) | (with_reducible refine wpL_boolF ?_) | (with_reducible refine wpL_bool (fun hB => ?_) (fun hB => ?_)) | skip
       all_goals simp only [Act.put, List.setIfInBounds_toArray, List.set_cons_zero, List.set_cons_succ])
    | ((refine wpL_grow ?_ rfl rfl ?_ ?_)
       · rfl
       · intro W hW hS
         have hC := (D.facts hW).1
         unfold growAt
         go_simp
         simp only [growUpon]
         first | (have h66 : RootF w3.heap.size 1 _ W := hS 27 (by decide); exact ⟨D.of_ext ((Ext.refl _).alloc _) (by have h5 := D.size hW; omega), RootF.single h66 (D.size hW) rfl⟩) | (go_at_call 17; (with_reducible refine Calls.mono (spec_l1Below g _ _ (hW.cur HC3.out) (by omega)) ?_); rintro e w9_ ⟨x, rfl, hx, d9⟩; exact ⟨_, rfl, d9, ⟨x, rfl, hx.1, hx.2.1 (by omega)⟩⟩) | (go_at_call 83; (with_reducible refine Calls.mono (spec_l18Root g _ _ _ who who t wa.heap.size w1.heap.size _ (hW.cur HC3.out) (by exact HT3.out.d hW (by omega)) (by omega) (by have h5 := D.size hW; omega) hwho (by omega) (by omega)) ?_); rintro e w9_ ⟨v9, rfl, ⟨x, ox, h1x, h2x, h3x, h4x⟩, d9⟩; exact ⟨_, rfl, d9, ⟨x, TrustRootO.more ox (D.size hW) (Nat.le_refl _), h1x, by omega, by omega, by omega, by omega⟩⟩)
       intro v W' hW' hv
       first | (obtain ⟨x67, h67, -⟩ := id hv; obtain ⟨A8, n8, c8, rfl⟩ := NO.slice h67) | (obtain ⟨x24, rfl, x24a, x24b⟩ := hv) | (obtain ⟨x66, ox66, h66a, h66b, h66c, h66d, h66e⟩ := hv; obtain ⟨A7, n7, c7, rfl⟩ := TrustRootO.shape ox66) | (obtain ⟨A5, n5, c5, rfl, -⟩ := id hv; clear hv) | (obtain ⟨A5, n5, c5, rfl⟩ := NO.slice hv) | skip
       all_goals simp only [Act.put, List.setIfInBounds_toArray, List.set_cons_zero, List.set_cons_succ]))
  refine wpL_nil (fun w4 e4 hL => ?_)
  obtain ⟨x28, h28, h28a, h28b, h28c, h28d, h28e⟩ : RootSF w3.heap.size 1 (.slice A8 n8 c8) w4 := hL 28
  clear hL lb0_ qb0__0 qb0__1 fb0__0 fb0__1
  have H28 := Lib.hid h28; clear h28
  have d24 : D g w2 w4 := D.trans d23 e4
  have z4 := e4.size
  go_wp2_with fail
  refine (spec_l1Below g 4 _ (d24.cur HCA.out) (by omega)).mono ?_
  rintro e w5 ⟨x5, rfl, ⟨x5a, x5b, -⟩, d5⟩
  have x5b := x5b (by omega)
  obtain ⟨c5_, rfl⟩ : ∃ c5_ : Nat, x5 = (c5_ : Int) := ⟨x5.toNat, by omega⟩
  have z5 := d5.size
  go_wp2_with fail
  go_loopw [6, 7] (fun v i wr => ∃ (kk : Nat) (l : List DTrustRoot), kk ≤ 3 ∧ i = I kk ∧ TrustRootSO w3.heap.size wr.heap.size wr v l ∧ 0 < l.length ∧ l.length + kk ≤ 5 ∧ (∀ x ∈ l, x.sigs.length ≤ 16 ∧ 0 ≤ x.version ∧ x.version ≤ l.length ∧ 0 ≤ x.notBefore ∧ x.notBefore ≤ 100 * l.length) ∧ D g w3 wr) (fun _ i _ => (intOf i).toNat)
  case atStart => exact ⟨c5_, [x28], by omega, rfl, (NO.d TrustRootOC.keeps H28.out d5 (by omega)).more (Nat.le_refl _) z5, by simp, by simp; omega, fun x hx => by (have e : x = x28 := by simpa using hx); subst e; simp only [List.length_singleton]; omega, D.trans e4 d5⟩
  case round =>
    obtain ⟨kk, l, hkk, rfl, hno, hl0, hlk, hp, hd⟩ := hrel
    have HNO := Lib.hid hno; have HP := Lib.hid hp; clear hno hp
    obtain ⟨av, nv, cv, hvv⟩ := NO.slice HNO.out
    subst hvv
    obtain ⟨A', n', c', e', ln', -, -, -⟩ := id (TrustRootSO_rd HNO.out (Nat.le_refl _))
    cases e'
    subst ln'
    have zr := hd.size
    by_cases hk0 : 0 < kk
    · obtain ⟨km, rfl⟩ : ∃ km : Nat, kk = km + 1 := ⟨kk - 1, by omega⟩
      have i2 : (0 : Int) < ((km + 1 : Nat) : Int) := by omega
      obtain ⟨j, hj⟩ : ∃ j : Nat, l.length = j + 1 := ⟨l.length - 1, by omega⟩
      obtain ⟨bk, off, hA, hbk, hkl, hc⟩ := (TrustRootSO_rd HNO.out (Nat.le_refl _)).at_ (k := j) (by omega)
      have hpx := HP.out l[j] (List.getElem_mem hkl)
      generalize l[j] = x at *
      subst hA
      obtain ⟨Ax_6, nx_6, cx_6, hx_0, hx_1, hx_2, hx_3, hx_4, hx_5, hx_6, sx_6⟩ := hc
      obtain ⟨lx_6, kx_6, mx_6⟩ := sx_6.len
      subst lx_6
      unfold maxLen at mx_6
      have Rx : Hid (TrustRootV wr.heap.size wr (.agg #[I x.isd, I x.version, I x.notBefore, I x.notAfter, I x.voters, I x.quorum, .slice Ax_6 x.sigs.length cx_6]) x) := ⟨_, _, _, rfl, sx_6⟩
      have Sx_6 := Lib.hid sx_6; clear sx_6
      have HJ := Lib.hid hj
      have j0 : (0 : Int) ≤ (l.length : Int) - 1 := by omega
      have j1 : (l.length : Int) - 1 < (l.length : Int) := by omega
      have j2 : ((l.length : Int) - 1).toNat = j := by omega
      clear hj
      obtain ⟨p1, p2, p3, p4, p5⟩ := hpx
      have w1v : IntKind.i64.wrap (x.version + 1) = x.version + 1 := IntWalk.i64_in _ (by omega)
      have w2v : ∀ y : Int, 0 ≤ y → y < 30 → IntKind.i64.wrap (x.notBefore + y) = x.notBefore + y := fun y h1 h2 => IntWalk.i64_in _ (by omega)
      go_wp2_with fail
      refine name_calls (fun W => D g wr W ∧ W.heap.size = wr.heap.size + 1 ∧ Blk W wr.heap.size 64 [I x.isd, I x.version, I x.notBefore, I x.notAfter, I x.voters, I x.quorum, .slice Ax_6 x.sigs.length cx_6]) ⟨D.alloc (D.refl _ _) (by omega) _, by simp only [World.size_alloc], xb⟩ ?_
      rintro wl ⟨dl, zl, bx⟩
      have BX := Lib.hid bx; clear bx
      refine (spec_l1Once g 3 wl ((D.trans hd dl).cur HC3.out) (by omega)).mono ?_
      rintro e wm ⟨b1, rfl, dm⟩
      have zm := dm.size
      have HBM := Lib.hid (BX.out.d dm (by omega))
      have b9_ := HBM.out.ext (w' := wm) xe
      have lb9_ := b9_.lt
      obtain ⟨qb9__0, qb9__1, qb9__2, qb9__3, qb9__4, qb9__5, qb9__6⟩ := blk7 b9_
      have fb9__0 := b9_.frozen 0
      have fb9__1 := b9_.frozen 1
      have fb9__2 := b9_.frozen 2
      have fb9__3 := b9_.frozen 3
      have fb9__4 := b9_.frozen 4
      have fb9__5 := b9_.frozen 5
      have fb9__6 := b9_.frozen 6
      clear b9_
      cases b1
      case' false =>
        by_cases hz : who = 0
        all_goals (first | subst hz | skip)
        all_goals go_wp2_with fail
      case' true =>
        go_wp2_with fail
        refine (spec_RemoveElement who _).mono ?_
        rintro e wn ⟨⟨nx, rfl, hnx⟩, rfl⟩
        have hnw : ∀ j, contains nx j = true → j < (t.ases.length : Int) := fun j hj => hwho j (hnx j hj)
        clear hnx
        by_cases hz : nx = 0
        all_goals go_wp2_with fail
      all_goals
        refine (spec_l1Once g 4 _ ((D.trans (D.trans hd dl) dm).cur HC3.out) (by omega)).mono ?_
        rintro e wv ⟨b2, rfl, dv⟩
        clear lb9_ qb9__0 qb9__1 qb9__2 qb9__3 qb9__4 qb9__5 qb9__6 fb9__0 fb9__1 fb9__2 fb9__3 fb9__4 fb9__5 fb9__6
        have zv := dv.size
        have d2v : D g w3 wv := D.trans (D.trans (D.trans hd dl) dm) dv
        have HBV := Lib.hid (BX.out.d (D.trans dm dv) (by omega))
        have HB4 := Lib.hid (BT3.out.d d2v (by omega))
        have HCV := Lib.hid (d2v.cur HC3.out)
        have HTV2 := Lib.hid (HT3.out.d d2v (by omega))
        have hgv : g < wv.heap.size := by omega
        have nb0 : ¬ w1.heap.size = g := by omega
        have nb9 : ¬ wr.heap.size = g := by omega
        have b0_ := HB4.out.ext (w' := wv) xe
        have lb0_ := b0_.lt
        obtain ⟨qb0__0, qb0__1⟩ := blk2 b0_
        have fb0__0 := b0_.frozen 0
        have fb0__1 := b0_.frozen 1
        clear b0_
        have b9_ := HBV.out.ext (w' := wv) xe
        have lb9_ := b9_.lt
        obtain ⟨qb9__0, qb9__1, qb9__2, qb9__3, qb9__4, qb9__5, qb9__6⟩ := blk7 b9_
        have fb9__0 := b9_.frozen 0
        have fb9__1 := b9_.frozen 1
        have fb9__2 := b9_.frozen 2
        have fb9__3 := b9_.frozen 3
        have fb9__4 := b9_.frozen 4
        have fb9__5 := b9_.frozen 5
        have fb9__6 := b9_.frozen 6
        clear b9_
        cases b2
        all_goals
          go_wp2_with fail
          refine wp_region_LT 15 (E := D g) (w0 := wv) (G := fun τ => match τ with | 62 => some (fun v W => ∃ x : Int, v = I x ∧ 0 ≤ x ∧ x < 30) | 67 => some (fun v W => RootSF wv.heap.size (l.length + 1) v W) | 66 => some (fun v W => RootF wv.heap.size (l.length + 1) v W) | _ => none) (D.refl g) (fun h k => D.trans h k) (by kernel_rfl) (by kernel_rfl) (by kernel_rfl) (by kernel_rfl) (by kernel_rfl) (by kernel_rfl) (by intro t φ hG; split at hG; all_goals first | (cases hG; done) | (cases Option.some.inj hG; intro v W W' hE hv; first | exact hv | exact hv.d hE (by omega) | (obtain ⟨y, hy⟩ := hv; exact ⟨y, Fresh1.d hy hE (by omega)⟩))) (D.drew (by exact D.refl _ _)) ?_
          simp only [List.take_succ_cons, List.take_zero]
          repeat' (first
            | ((with_reducible refine wpL_skip ?_ ?_ ?_)
               · rfl
               · rfl
               simp only [Act.put, List.setIfInBounds_toArray, List.set_cons_zero, List.set_cons_succ])
            | ((with_reducible refine wpL_quiet ?_ ?_ ?_ ?_)
               · rfl
               · rfl
               · rfl
               apply Exists.intro
               refine ⟨fun W hW hS => ?_, ?_⟩
               · have hC := (D.facts hW).1
                 go_simp
                 first | done | (with_reducible rfl) | (rw [if_neg (by omega)]; exact ⟨rfl, rfl⟩) | rfl
               first | (with_reducible refine wpL_boolT ?_) | (with_reducible refine wpL_boolF ?_) | (with_reducible refine wpL_bool (fun hB => ?_) (fun hB => ?_)) | skip
               all_goals simp only [Act.put, List.setIfInBounds_toArray, List.set_cons_zero, List.set_cons_succ])
            | ((refine wpL_grow ?_ rfl rfl ?_ ?_)
               · rfl
               · intro W hW hS
                 have hC := (D.facts hW).1
                 unfold growAt
                 go_simp
                 simp only [growUpon]
                 first | (go_at_call 17; (with_reducible refine Calls.mono (spec_l1Below g _ _ (hW.cur HCV.out) (by omega)) ?_); rintro e w9_ ⟨x9, rfl, hx, d9⟩; exact ⟨_, rfl, d9, ⟨x9, rfl, hx.1, hx.2.1 (by omega)⟩⟩) | (have h66 : RootF wv.heap.size (l.length + 1) _ W := hS 66 (by decide); exact ⟨D.of_ext ((Ext.refl _).alloc _) (by have h5 := D.size hW; omega), RootF.single h66 (D.size hW) rfl⟩) | (have w3v := w2v x62 x62a x62b; go_at_call 83; (with_reducible refine Calls.mono (spec_l18Root g _ _ _ _ _ t wa.heap.size w1.heap.size _ (hW.cur HCV.out) (by exact HTV2.out.d hW (by omega)) (by omega) (by have h5 := D.size hW; omega) (by first | exact hwho | exact hnw | exact (hz ▸ hwho)) (by omega) (by omega)) ?_); rintro e w9_ ⟨v9, rfl, ⟨x9, ox, h1x, h2x, h3x, h4x⟩, d9⟩; exact ⟨_, rfl, d9, ⟨x9, TrustRootO.more ox (D.size hW) (Nat.le_refl _), h1x, by omega, by omega, by omega, by omega⟩⟩)
               intro v W' hW' hv
               first | (obtain ⟨x62, rfl, x62a, x62b⟩ := hv) | (obtain ⟨x67, h67, -⟩ := id hv; obtain ⟨A8, n8, c8, rfl⟩ := NO.slice h67) | (obtain ⟨x66, ox66, h66a, h66b, h66c, h66d, h66e⟩ := hv; obtain ⟨A7, n7, c7, rfl⟩ := TrustRootO.shape ox66) | (obtain ⟨A5, n5, c5, rfl, -⟩ := id hv; clear hv) | (obtain ⟨A5, n5, c5, rfl⟩ := NO.slice hv) | skip
               all_goals simp only [Act.put, List.setIfInBounds_toArray, List.set_cons_zero, List.set_cons_succ]))
          refine wpL_nil (fun w5 e5 hL => ?_)
          obtain ⟨x5, h5x, hp5⟩ : RootSF wv.heap.size (l.length + 1) (.slice A8 n8 c8) w5 := hL 67
          clear hL lb0_ qb0__0 qb0__1 fb0__0 fb0__1 lb9_ qb9__0 qb9__1 qb9__2 qb9__3 qb9__4 qb9__5 qb9__6 fb9__0 fb9__1 fb9__2 fb9__3 fb9__4 fb9__5 fb9__6
          have z5_ := e5.size
          have dr5 : D g wr w5 := D.trans (D.trans (D.trans dl dm) dv) e5
          have HN5 := Lib.hid (NO.d TrustRootOC.keeps HNO.out dr5 hg3)
          have H5X := Lib.hid h5x; clear h5x
          have HP5 := Lib.hid hp5; clear hp5
          simp only [List.drop_succ_cons, List.drop_zero]
          go_wp2_with (at_builtin; refine hold ?_)
          refine unhold (wpList_pushN rfl w3.heap.size TrustRootOC.keeps TrustRootOC.one (.tmp 53) (.tmp 67) _ rfl 64 _ 7 72 Tryz.underlying28 info_TrustRoot rfl (by omega) _ l [x5] wr.heap.size wv.heap.size w5.heap.size rfl _ _ _ rfl (by exact HN5.out) (by exact H5X.out) (by omega) (by omega) (by omega) (Nat.le_refl _) (by omega) (by simp only [List.length_singleton]; omega) (by omega) ?_)
          intro v8 w8 no8 hg8
          obtain ⟨a8, m8, q8, hv8⟩ := NO.slice no8
          subst hv8
          have d8 : D g w3 w8 := by
            obtain ⟨cs7, fp7, hown7, -⟩ := HN5.out
            exact D.grown (D.trans hd dr5) hg3 hg8 (fun j hj => by have := (hown7.1.lt j hj).1; omega)
          have z8 := hg8.size
          have N8 := Lib.hid no8; clear no8 hg8
          go_wp2_with (at_builtin; refine hold ?_)
          go_roundw
          case rel =>
            refine ⟨km, l ++ [x5], by omega, by go_num, N8.out, by simp, by (rw [List.length_append, List.length_singleton]; omega), fun y hy => ?_, d8⟩
            rw [List.length_append, List.length_singleton]
            rcases List.mem_append.1 hy with h6 | h6
            · have := HP.out y h6; omega
            · obtain rfl := List.mem_singleton.1 h6
              have := HP5.out; omega
          case measure => first | (simp [intOf]; done) | (simp [intOf]; omega)
    · have i2 : ¬ (0 : Int) < (kk : Int) := by omega
      have HBR := Lib.hid (BR.out.d (D.trans d1 (D.trans (D.of_ext e2 (by omega)) (D.trans d23 hd))) (by omega))
      have HB4 := Lib.hid (BT3.out.d hd (by omega))
      have HL := Lib.hid HNO.out
      have b0_ := HB4.out.ext (w' := wr) xe
      have lb0_ := b0_.lt
      obtain ⟨qb0__0, qb0__1⟩ := blk2 b0_
      have fb0__0 := b0_.frozen 0
      have fb0__1 := b0_.frozen 1
      clear b0_
      have b8_ := HBR.out.ext (w' := wr) xe
      have lb8_ := b8_.lt
      obtain ⟨qb8__0, qb8__1⟩ := blk2 b8_
      have fb8__0 := b8_.frozen 0
      have fb8__1 := b8_.frozen 1
      clear b8_
      go_wp2_with fail
      refine bodyPost_ret (v := .tuple #[.agg #[.slice (some ⟨b0, off0, none⟩) t.ases.length ct_0, .slice At_1 t.links.length ct_1], .slice av l.length cv]) (by simp [results, Tryz.results38, go_sem, *]) rfl ⟨⟨_, _, rfl, t, ?_, ⟨⟨hn1, hn2, hn3⟩, HLK.out⟩, l, ?_, hl0, by omega, HP.out⟩, ?_⟩
      · simp only [World.size_setCell]
        exact ((HT3.out.d hd (by omega)).keep (fun k h1 h2 _ => (Below.heap_setCell _ _ _ _ (by dsimp only; omega)).trans (Below.heap_setCell _ _ _ _ (by dsimp only; omega)))).more (by omega) (by omega)
      · simp only [World.size_setCell]
        exact NO.more (TrustRootSO_setCell (TrustRootSO_setCell HNO.out (.inl (by dsimp only; omega)) _) (.inl (by dsimp only; omega)) _) (by omega) (Nat.le_refl _)
      · exact D.setNew (D.setNew (D.trans da (D.trans d1 (D.trans (D.of_ext e2 (by omega)) (D.trans d23 hd)))) hgw (by dsimp only; omega) _) hgw (by dsimp only; omega) _
end Go.Proofs.YtddaodemdkjijaaGreat
