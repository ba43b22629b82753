/- Contracts of the program's and the reference's functions on trust roots: copies, UpdateRoots. -/
import Derived.Test.YtmlfnfflpacchaaGL18d
import Derived.Test.YtmlfnfflpacchaaGGrow
namespace Go.Proofs.Ytmlfnfflpacchaa
open Go.RowKit
set_option linter.unusedVariables false
def updRoots (t : DTopology) (l : List DTrustRoot) (x : DTrustRoot) : List DTrustRoot := if validChain t (l ++ [x]) then l ++ [x] else l
theorem updRoots_tot (t : DTopology) (l : List DTrustRoot) (x : DTrustRoot) : totS (fun y : DTrustRoot => y.sigs.length) (updRoots t l x) ≤ totS (fun y => y.sigs.length) l + (1 + x.sigs.length) := by
  unfold updRoots
  split
  · have h : totS (fun y : DTrustRoot => y.sigs.length) [x] = 1 + x.sigs.length := by simp [totS]
    rw [totS_append]
    omega
  · omega
set_option maxRecDepth 100000 in
set_option maxHeartbeats 1000000 in
theorem spec_l18Copy (vx : Value) (x : DTrustRoot) (w : World) (hx : TrustRootV w.heap.size w vx x) (hn : x.sigs.length ≤ 100000000) :
    Calls Try.prog 116 #[vx] w fun e w' => ∃ v', e = .returned v' ∧ TrustRootO w.heap.size w'.heap.size w' v' x ∧ Ext w w' := by
  obtain ⟨Ax_6, nx_6, cx_6, rfl, sx_6⟩ := id hx
  obtain ⟨lx_6, kx_6, mx_6⟩ := sx_6.len
  subst lx_6
  unfold maxLen at mx_6
  have Rx := Lib.hid hx; clear hx
  have Sx_6 := Lib.hid sx_6; clear sx_6
  go_enter Try.func116, Try.ntmps116
  go_wp2_with (at_builtin; refine hold ?_)
  refine unhold (name_wpl (fun W => ∃ wb, Ext w wb ∧ Blk wb w.heap.size 33 [I x.isd, I x.version, I x.notBefore, I x.notAfter, I x.voters, I x.quorum, .slice Ax_6 x.sigs.length cx_6] ∧ Blk wb (w.heap.size + 1) 33 [I 0, I 0, I 0, I 0, I 0, I 0, .slice none 0 0] ∧ Blk wb (w.heap.size + 1 + 1) 33 [I x.isd, I x.version, I x.notBefore, I x.notAfter, I x.voters, I x.quorum, .slice Ax_6 x.sigs.length cx_6] ∧ Ext wb W ∧ Own 36 2 wb.heap.size W.heap.size W (.slice (some ⟨w.heap.size + 1 + 1 + 1, 0, none⟩) 0 0) 0 [] ∧ wb.heap.size = w.heap.size + 1 + 1 + 1) ⟨_, xe, xb, xb, xb, (Ext.refl _).alloc _, own_zero' _ _ _ _ _ (by simp) (Nat.le_refl _), by simp⟩ ?_)
  rintro wz ⟨w0, ew0, bx, br, bc, ez, oz, zz⟩
  have BX := Lib.hid bx; have BR := Lib.hid br; have BC := Lib.hid bc; have ZZ := Lib.hid zz; clear bx br bc
  have zz1 : w.heap.size + 1 + 1 < w0.heap.size := by omega
  clear zz
  refine wpList_app w0 rfl (.tmp 5) (.tmp 7) _ rfl 36 _ 2 16 Try.underlying31 info_Signature rfl (by omega) _ 0 [] rfl Ax_6 x.sigs.length cx_6 (x.sigs.flatMap SignatureC) rfl oz (by exact row_Signature (Sx_6.out.ext xe)) (one_Signature x.sigs) xe (by unfold maxLen; omega) (by omega) ?_
  intro v1 w1 ho1 he1 _ _
  have O1 := Lib.hid ho1; clear ho1 oz
  obtain ⟨a1, m1, q1, hv1⟩ := O1.out.slice
  subst hv1
  have bc := BC.out.ext (he1)
  have lbc := bc.lt
  obtain ⟨qbc_0, qbc_1, qbc_2, qbc_3, qbc_4, qbc_5, qbc_6⟩ := blk7 bc
  have fbc_0 := bc.frozen 0
  have fbc_1 := bc.frozen 1
  have fbc_2 := bc.frozen 2
  have fbc_3 := bc.frozen 3
  have fbc_4 := bc.frozen 4
  have fbc_5 := bc.frozen 5
  have fbc_6 := bc.frozen 6
  clear bc
  have br := BR.out.ext (he1)
  have lbr := br.lt
  obtain ⟨qbr_0, qbr_1, qbr_2, qbr_3, qbr_4, qbr_5, qbr_6⟩ := blk7 br
  have fbr_0 := br.frozen 0
  have fbr_1 := br.frozen 1
  have fbr_2 := br.frozen 2
  have fbr_3 := br.frozen 3
  have fbr_4 := br.frozen 4
  have fbr_5 := br.frozen 5
  have fbr_6 := br.frozen 6
  clear br
  have z1 := he1.size
  go_wp2_with fail
  refine bodyPost_ret (v := .agg #[I x.isd, I x.version, I x.notBefore, I x.notAfter, I x.voters, I x.quorum, .slice a1 m1 q1]) (by simp [results, Try.results116, go_sem, *]) rfl ⟨_, rfl, ?_, ?_⟩
  · simp only [World.size_setCell]
    refine ⟨_, rfl, Own.more (lo := w0.heap.size) (hi := w1.heap.size) (by have h := O1.out; simp only [List.nil_append, Nat.zero_add] at h; exact (by repeat (first | (with_reducible exact h) | (with_reducible refine Own.alloc ?_ _) | (with_reducible refine Own.setCell (p := _) ?_ (.inl ?ge) _; case ge => (first | omega | (dsimp only; omega) | (simp only [World.size_setCell]; omega) | (simp only [World.size_alloc]; omega))) | (with_reducible refine Own.ext ?_ (by with_reducible assumption) ?ge; case ge => (first | omega | (dsimp only; omega) | (simp only [World.size_setCell]; omega) | (simp only [World.size_alloc]; omega)))))) (by have := ew0.size; omega) (by omega), by have := ew0.size; omega⟩
  · exact xe
set_option maxRecDepth 100000 in
set_option maxHeartbeats 1000000 in
theorem spec_l18All (vl : Value) (l : List DTrustRoot) (w : World) (hl : TrustRootS w.heap.size w vl l) (hn : totS (fun y => y.sigs.length) l ≤ 1048576) :
    Calls Try.prog 115 #[vl] w fun e w' => ∃ v', e = .returned v' ∧ TrustRootSO w.heap.size w'.heap.size w' v' l ∧ Ext w w' := by
  obtain ⟨Al, nl, cl, rfl, ll, kl, ml, -⟩ := id hl
  subst ll
  unfold maxLen at ml
  have Rl := Lib.hid hl; clear hl
  have hdl := totS_len (fun y : DTrustRoot => y.sigs.length) l
  go_enter Try.func115, Try.ntmps115
  go_wp2_with fail
  go_loopw [3, 4] (fun v i wr => ∃ k : Nat, k ≤ l.length ∧ i = I k ∧ TrustRootSO w.heap.size wr.heap.size wr v (l.take k) ∧ Ext w wr) (fun _ i _ => l.length - (intOf i).toNat)
  case atStart => exact ⟨0, by omega, rfl, NO.zero _ _ _ _ _ _ rfl (Nat.le_refl _), xe⟩
  case round =>
    obtain ⟨k, hk, rfl, hno, he⟩ := hrel
    have HNO := Lib.hid hno; clear hno
    have zr := he.size
    by_cases hlt : k < l.length
    · obtain ⟨b, off, rfl, hb, hkl, hc⟩ := (Rl.out.ext (w' := wr) xe).at_ hlt
      have hyl : l[k].sigs.length ≤ totS (fun y : DTrustRoot => y.sigs.length) l := totS_get (fun y : DTrustRoot => y.sigs.length) l k hkl
      have HX := Lib.hid (take_snoc l k hkl)
      have hfl := List.length_take_le k l
      generalize l[k] = u at *
      generalize l.take k = ds at *
      have i0 : (0 : Int) ≤ (k : Int) := by omega
      have i1 : (k : Int) < (l.length : Int) := by omega
      obtain ⟨Au_6, nu_6, cu_6, hu_0, hu_1, hu_2, hu_3, hu_4, hu_5, hu_6, su_6⟩ := hc
      obtain ⟨lu_6, ku_6, mu_6⟩ := su_6.len
      subst lu_6
      unfold maxLen at mu_6
      have Ru : Hid (TrustRootV wr.heap.size wr (.agg #[I u.isd, I u.version, I u.notBefore, I u.notAfter, I u.voters, I u.quorum, .slice Au_6 u.sigs.length cu_6]) u) := ⟨_, _, _, rfl, su_6⟩
      have Su_6 := Lib.hid su_6; clear su_6
      go_wp2_with fail
      refine (spec_l18Copy _ u _ (by exact Ru.out.ext xe) (by omega)).mono ?_
      rintro e w5 ⟨v5, rfl, o5, ew5⟩
      obtain ⟨a5, k5, q5, fp5, hv5, hoc5, hn5, hb5⟩ := o5.to_oc
      subst hv5
      have HOC5 := Lib.hid hoc5; have HN5 := Lib.hid hn5; have HB5 := Lib.hid hb5; clear o5 hoc5 hn5 hb5
      have z5 := ew5.size
      go_wp2_with (at_builtin; refine hold ?_)
      refine unhold (wpList_push (OC := TrustRootOC) w TrustRootOC.keeps TrustRootOC.one rfl (.tmp 18) (.tmp 20) _ rfl 33 _ 7 72 Try.underlying28 info_TrustRoot rfl (by omega) _ (ds) [u] wr.heap.size rfl _ 1 1 _ fp5 rfl
        (by exact NO.at' TrustRootOC.keeps HNO.out xe) (by simp only [World.size_alloc]; omega) (row_one _ _ _ _ _ (by first | rfl | simp) rfl) (OL.one (TrustRootOC.keeps _ _ _ _ _ (fun b hb hs => Ext.same (a := w5) xe b hs) HOC5.out) rfl) HN5.out (fun b hb => ⟨(by have := HB5.out b hb; omega), (by have := HB5.out b hb; simp only [World.size_alloc]; omega)⟩) (by omega) xe (by simp only [List.length_singleton]; omega) (by omega) ?_)
      intro v6 w6 no6 e6
      have NO6 := Lib.hid no6; clear no6
      go_wp2_with (at_builtin; refine hold ?_)
      go_roundw
      case rel => exact ⟨k + 1, by omega, by go_num, by rw [HX.out]; exact NO6.out, e6⟩
      case measure => simp [intOf]; omega
    · obtain rfl : k = l.length := by omega
      go_wp2_with fail
      go_ret
      refine ⟨_, rfl, ?_, xe⟩
      have h := HNO.out
      rw [List.take_length] at h
      exact h
theorem keepE' {w0 w2 : World} (h : Ext w0 w2) : w0.heap.size ≤ w2.heap.size ∧ ∀ b o, b < w0.heap.size → w2.cell? ⟨b, o, none⟩ = w0.cell? ⟨b, o, none⟩ := ⟨h.size, fun _ _ hb => h.cell hb⟩
set_option maxRecDepth 100000 in
set_option maxHeartbeats 1000000 in
theorem spec_UpdateRoots (vt vl vx : Value) (t : DTopology) (l : List DTrustRoot) (x : DTrustRoot) (w : World) (ht : TopologyV w.heap.size w vt t) (hl : TrustRootS w.heap.size w vl l) (hx : TrustRootV w.heap.size w vx x) (hn : totS (fun y => y.sigs.length) l ≤ 1048576) (hm : x.sigs.length ≤ 1048576) :
    Calls Try.prog 51 #[vt, vl, vx] w fun e w' => ∃ v', e = .returned v' ∧ TrustRootSO w.heap.size w'.heap.size w' v' (updRoots t l x) ∧ Ext w w' := by
  obtain ⟨At_0, nt_0, ct_0, At_1, nt_1, ct_1, rfl, st_0, st_1⟩ := id ht
  obtain ⟨lt_0, kt_0, mt_0⟩ := st_0.len
  subst lt_0
  unfold maxLen at mt_0
  obtain ⟨lt_1, kt_1, mt_1⟩ := st_1.len
  subst lt_1
  unfold maxLen at mt_1
  have Rt := Lib.hid ht; clear ht
  have St_0 := Lib.hid st_0; clear st_0
  have St_1 := Lib.hid st_1; clear st_1
  obtain ⟨Al, nl, cl, rfl, ll, kl, ml, -⟩ := id hl
  subst ll
  unfold maxLen at ml
  have Rl := Lib.hid hl; clear hl
  obtain ⟨Ax_6, nx_6, cx_6, rfl, sx_6⟩ := id hx
  obtain ⟨lx_6, kx_6, mx_6⟩ := sx_6.len
  subst lx_6
  unfold maxLen at mx_6
  have Rx := Lib.hid hx; clear hx
  have Sx_6 := Lib.hid sx_6; clear sx_6
  have hdl := totS_len (fun y : DTrustRoot => y.sigs.length) l
  go_enter Try.func51, Try.ntmps51
  go_wp2_with fail
  first | refine name_wp ?_ ?_ ?_ | refine name_calls ?_ ?_ ?_
  exact (fun W => Ext w W ∧ Blk W (w.heap.size) 27 [.slice At_0 t.ases.length ct_0, .slice At_1 t.links.length ct_1] ∧ Blk W (w.heap.size + 1) 33 [I x.isd, I x.version, I x.notBefore, I x.notAfter, I x.voters, I x.quorum, .slice Ax_6 x.sigs.length cx_6])
  exact ⟨xe, xb, xb⟩
  rintro w0 ⟨ew0, bt, bx⟩
  have lt := bt.lt
  obtain ⟨pt_0, pt_1⟩ := blk2 bt
  have Bt := Lib.hid bt; clear bt
  have lx := bx.lt
  obtain ⟨px_0, px_1, px_2, px_3, px_4, px_5, px_6⟩ := blk7 bx
  have Bx := Lib.hid bx; clear bx
  go_region_held3 (fun W => w0.heap.size ≤ W.heap.size ∧ ∀ b o, b < w0.heap.size → W.cell? ⟨b, o, none⟩ = w0.cell? ⟨b, o, none⟩)
    (first | exact ⟨Nat.le_refl _, fun _ _ _ => rfl⟩ | exact keepC (by assumption) e5 | exact keepC (by assumption) e7 | exact keepE' e6 | exact keepC (by assumption) ((Ext.refl _).alloc _))
    (first | (go_at_call 115; refine (spec_l18All _ l _ (by exact Rl.out.ext xe) hn).mono ?_; rintro e w5 ⟨v5, rfl, o5, e5⟩; obtain ⟨A5, k5, c5, hv5⟩ := NO.slice o5; subst hv5; have z5 := e5.size; (try simp only [World.size_drew] at o5 z5); obtain ⟨cs5, fp5, hw5, hl5, hn5, hb5⟩ := o5) | (go_at_call 116; refine (spec_l18Copy _ x _ (by exact Rx.out.ext xe) (by omega)).mono ?_; rintro e w7 ⟨v7, rfl, o7, e7⟩; obtain ⟨a7, k7, q7, f7, hv7, hoc7, hn7, hb7⟩ := o7.to_oc; subst hv7; have z7 := e7.size) | (refine step_pushE (OC := TrustRootOC) (by rfl) w0.heap.size TrustRootOC.keeps TrustRootOC.one (.tmp 9) (.tmp 12) _ (by rfl) 33 _ 7 72 Try.underlying28 info_TrustRoot rfl (by omega) _ l [x] cs5 _ fp5 f7 (by rfl) _ _ _ (by rfl) (by exact Own.more (lo := w0.heap.size) (hi := w5.heap.size) (by repeat (first | (with_reducible exact hw5) | (with_reducible refine Own.alloc ?_ _) | (with_reducible refine Own.setCell (p := _) ?_ (.inl ?ge) _; case ge => (first | omega | (dsimp only; omega) | (simp only [World.size_setCell]; omega) | (simp only [World.size_alloc]; omega))) | (with_reducible refine Own.ext ?_ (by with_reducible assumption) ?ge; case ge => (first | omega | (dsimp only; omega) | (simp only [World.size_setCell]; omega) | (simp only [World.size_alloc]; omega))))) (Nat.le_refl _) (by simp only [World.size_alloc]; omega)) (OL.keep TrustRootOC.keeps hl5 (fun b _ hs => Ext.same (a := w5) xe b hs)) hn5 (fun b hb => by have := hb5 b hb; simp only [World.size_alloc]; omega) (row_one _ _ _ _ _ (by first | rfl | simp) rfl) (OL.one (TrustRootOC.keeps _ _ _ _ _ (fun b _ hs => Ext.same (a := w7) xe b hs) hoc7) rfl) hn7 (fun b hb => by have := hb7 b hb; simp only [World.size_alloc]; omega) (fun b hb => ⟨fun hm => by have h1 := hb7 b hb; have h2 := hb5 b hm; omega, fun e => by have h1 := hb7 b hb; have h2 := hw5.2 b e; omega⟩) (by simp only [World.size_alloc]; omega) (by simp only [List.length_singleton]; omega) (by omega) ?_; intro v6 w6 no6 hg6; have e6 : Ext w0 w6 := Ext.grown (w := w7.alloc _) xe hg6 (fun k hk => (hw5.1.lt k hk).1)))
  all_goals
    have N6 := Lib.hid no6
    obtain ⟨A6, k6, c6, hv6⟩ := NO.slice no6
    subst hv6
    have R6 := Lib.hid (TrustRootSO_rd no6 (Nat.le_refl _))
    clear no6 hg6 hl5 hn5 hb5 hw5 hoc7 hn7 hb7
    have bt := Bt.out.ext (w' := w6) xe
    have lt := bt.lt
    obtain ⟨pt_0, pt_1⟩ := blk2 bt
    clear bt
    have HU : Hid (updRoots t l x = if validChain t (l ++ [x]) then l ++ [x] else l) := rfl
    go_wp2_with fail
    refine (spec_ValidRootChain _ _ t (l ++ [x]) _ (by exact Rt.out.ext xe) (by exact R6.out)).mono ?_
    rintro e w8 ⟨rfl, e8⟩
    cases hv : validChain t (l ++ [x])
    · have HV : Hid (updRoots t l x = l) := by unfold Hid; rw [HU.out, hv]; rfl
      go_wp2_with fail
      refine (spec_l18All _ l _ (by exact Rl.out.ext xe) hn).mono ?_
      rintro e w9 ⟨v9, rfl, o9, e9⟩
      go_wp2_with fail
      go_ret
      exact ⟨_, rfl, by rw [HV.out]; exact NO.more o9 (Ext.size (a := w) (b := w8) xe) (Nat.le_refl _), xe⟩
    · have HV : Hid (updRoots t l x = l ++ [x]) := by unfold Hid; rw [HU.out, hv]; rfl
      go_wp2_with fail
      go_ret
      exact ⟨_, rfl, by rw [HV.out]; exact NO.more (NO.up TrustRootOC.keeps N6.out e8 (Nat.le_refl _)) ew0.size (Nat.le_refl _), xe⟩
set_option maxRecDepth 100000 in
set_option maxHeartbeats 1000000 in
theorem impl_UpdateRoots (vt vl vx : Value) (t : DTopology) (l : List DTrustRoot) (x : DTrustRoot) (w : World) (ht : TopologyV w.heap.size w vt t) (hl : TrustRootS w.heap.size w vl l) (hx : TrustRootV w.heap.size w vx x) (hn : totS (fun y => y.sigs.length) l ≤ 1048576) (hm : x.sigs.length ≤ 1048576) :
    Calls Try.prog 15 #[vt, vl, vx] w fun e w' => ∃ v', e = .returned v' ∧ TrustRootSO w.heap.size w'.heap.size w' v' (updRoots t l x) ∧ Ext w w' := by
  obtain ⟨At_0, nt_0, ct_0, At_1, nt_1, ct_1, rfl, st_0, st_1⟩ := id ht
  obtain ⟨lt_0, kt_0, mt_0⟩ := st_0.len
  subst lt_0
  unfold maxLen at mt_0
  obtain ⟨lt_1, kt_1, mt_1⟩ := st_1.len
  subst lt_1
  unfold maxLen at mt_1
  have Rt := Lib.hid ht; clear ht
  have St_0 := Lib.hid st_0; clear st_0
  have St_1 := Lib.hid st_1; clear st_1
  obtain ⟨Al, nl, cl, rfl, ll, kl, ml, -⟩ := id hl
  subst ll
  unfold maxLen at ml
  have Rl := Lib.hid hl; clear hl
  obtain ⟨Ax_6, nx_6, cx_6, rfl, sx_6⟩ := id hx
  obtain ⟨lx_6, kx_6, mx_6⟩ := sx_6.len
  subst lx_6
  unfold maxLen at mx_6
  have Rx := Lib.hid hx; clear hx
  have Sx_6 := Lib.hid sx_6; clear sx_6
  have hdl := totS_len (fun y : DTrustRoot => y.sigs.length) l
  go_enter Try.func15, Try.ntmps15
  go_wp2_with fail
  first | refine name_wp ?_ ?_ ?_ | refine name_calls ?_ ?_ ?_
  exact (fun W => Ext w W ∧ Blk W (w.heap.size) 27 [.slice At_0 t.ases.length ct_0, .slice At_1 t.links.length ct_1] ∧ Blk W (w.heap.size + 1) 33 [I x.isd, I x.version, I x.notBefore, I x.notAfter, I x.voters, I x.quorum, .slice Ax_6 x.sigs.length cx_6])
  exact ⟨xe, xb, xb⟩
  rintro w0 ⟨ew0, bt, bx⟩
  have lt := bt.lt
  obtain ⟨pt_0, pt_1⟩ := blk2 bt
  have Bt := Lib.hid bt; clear bt
  have lx := bx.lt
  obtain ⟨px_0, px_1, px_2, px_3, px_4, px_5, px_6⟩ := blk7 bx
  have Bx := Lib.hid bx; clear bx
  go_loopw [7, 13] (fun v i wr => ∃ k : Nat, k ≤ l.length ∧ i = I k ∧ TrustRootSO w0.heap.size wr.heap.size wr v (l.take k) ∧ Ext w0 wr) (fun _ i _ => l.length - (intOf i).toNat)
  case atStart => exact ⟨0, by omega, rfl, NO.nil _ _ _ _ _ _, xe⟩
  case round =>
    obtain ⟨k, hk, rfl, hno, he⟩ := hrel
    have HNO := Lib.hid hno; clear hno
    have zr := he.size
    by_cases hlt : k < l.length
    · obtain ⟨b, off, rfl, hb, hkl, hc⟩ := (Rl.out.ext (w' := wr) xe).at_ hlt
      have hyl : l[k].sigs.length ≤ totS (fun y : DTrustRoot => y.sigs.length) l := totS_get (fun y : DTrustRoot => y.sigs.length) l k hkl
      have HX := Lib.hid (take_snoc l k hkl)
      have hfl := List.length_take_le k l
      generalize l[k] = u at *
      generalize l.take k = ds at *
      obtain ⟨Au_6, nu_6, cu_6, hu_0, hu_1, hu_2, hu_3, hu_4, hu_5, hu_6, su_6⟩ := hc
      obtain ⟨lu_6, ku_6, mu_6⟩ := su_6.len
      subst lu_6
      unfold maxLen at mu_6
      have Ru : Hid (TrustRootV wr.heap.size wr (.agg #[I u.isd, I u.version, I u.notBefore, I u.notAfter, I u.voters, I u.quorum, .slice Au_6 u.sigs.length cu_6]) u) := ⟨_, _, _, rfl, su_6⟩
      have Su_6 := Lib.hid su_6; clear su_6
      go_wp2_with fail
      first | refine name_wp ?_ ?_ ?_ | refine name_calls ?_ ?_ ?_
      exact (fun W => Ext wr W ∧ Blk W (wr.heap.size) 33 [I u.isd, I u.version, I u.notBefore, I u.notAfter, I u.voters, I u.quorum, .slice Au_6 u.sigs.length cu_6])
      exact ⟨xe, xb⟩
      rintro w3 ⟨ew3, bu⟩
      have lu := bu.lt
      obtain ⟨pu_0, pu_1, pu_2, pu_3, pu_4, pu_5, pu_6⟩ := blk7 bu
      have Bu := Lib.hid bu; clear bu
      refine (impl_copySignatures _ u.sigs _ (by exact Su_6.out.ext xe) (by omega)).mono ?_
      rintro e w5 ⟨v5, rfl, o5, ew5⟩
      have O5 := Lib.hid o5; clear o5
      obtain ⟨a5, k5, q5, hv5⟩ := O5.out.slice
      subst hv5
      clear pu_0 pu_1 pu_2 pu_3 pu_4 pu_5 pu_6
      have bu := Bu.out.ext (ew5)
      have lbu := bu.lt
      obtain ⟨qbu_0, qbu_1, qbu_2, qbu_3, qbu_4, qbu_5, qbu_6⟩ := blk7 bu
      have fbu_0 := bu.frozen 0
      have fbu_1 := bu.frozen 1
      have fbu_2 := bu.frozen 2
      have fbu_3 := bu.frozen 3
      have fbu_4 := bu.frozen 4
      have fbu_5 := bu.frozen 5
      have fbu_6 := bu.frozen 6
      clear bu
      have z3 : wr.heap.size ≤ w3.heap.size := ew3.size
      have z5 := ew5.size
      go_wp2_with (at_builtin; refine hold ?_)
      refine unhold (wpList_push (OC := TrustRootOC) w0 TrustRootOC.keeps TrustRootOC.one rfl (.tmp 21) (.tmp 23) _ rfl 33 _ 7 72 Try.underlying28 info_TrustRoot rfl (by omega) _ ds [u] wr.heap.size rfl _ 1 1 _ (Value.slice a5 k5 q5).ownBlock.toList rfl
        (by exact TrustRootSO_alloc (TrustRootSO_setCell (NO.at' TrustRootOC.keeps HNO.out (w' := w5) xe) (.inr (by dsimp only; omega)) _) _) (by simp only [World.size_alloc, World.size_setCell]; omega) (row_one _ _ _ _ _ (by first | rfl | simp) rfl) (OL.one (by exact ⟨_, rfl, (Own.more (lo' := 0) (lo := w3.heap.size) (hi := w5.heap.size) (by repeat (first | (with_reducible exact O5.out) | (with_reducible refine Own.alloc ?_ _) | (with_reducible refine Own.setCell (p := _) ?_ (.inl ?ge) _; case ge => (first | omega | (dsimp only; omega) | (simp only [World.size_setCell]; omega) | (simp only [World.size_alloc]; omega))) | (with_reducible refine Own.ext ?_ (by with_reducible assumption) ?ge; case ge => (first | omega | (dsimp only; omega) | (simp only [World.size_setCell]; omega) | (simp only [World.size_alloc]; omega))))) (Nat.zero_le _) (Nat.le_refl _)).1, rfl⟩) rfl) (by cases (Value.slice a5 k5 q5).ownBlock <;> simp) (fun b hb => ⟨(by have := (O5.out.1.lt b (by simpa using hb)).1; omega), (by have := (O5.out.1.lt b (by simpa using hb)).2; simp only [World.size_alloc, World.size_setCell]; omega)⟩) (by omega) xe (by simp only [List.length_singleton]; omega) (by omega) ?_)
      intro v6 w6 no6 e6
      have NO6 := Lib.hid no6; clear no6
      go_wp2_with (at_builtin; refine hold ?_)
      go_roundw
      case rel => exact ⟨k + 1, by omega, by go_num, by rw [HX.out]; exact NO6.out, e6⟩
      case measure => simp [intOf]; omega
    · obtain rfl : k = l.length := by omega
      have hno := HNO.out
      rw [List.take_length] at hno
      have HN := Lib.hid hno; clear hno HNO
      have bx := Bx.out.ext (w' := wr) xe
      have lx := bx.lt
      obtain ⟨px_0, px_1, px_2, px_3, px_4, px_5, px_6⟩ := blk7 bx
      clear bx
      go_wp2_with fail
      refine (impl_copySignatures _ x.sigs _ (by exact Sx_6.out.ext xe) (by omega)).mono ?_
      rintro e w7 ⟨v7, rfl, o7, ew7⟩
      have O7 := Lib.hid o7; clear o7
      obtain ⟨a7, k7, q7, hv7⟩ := O7.out.slice
      subst hv7
      have z7 := ew7.size
      have e07 : Ext w0 w7 := he.trans ew7
      have E07 := Lib.hid e07; clear e07
      have bx := Bx.out.ext (E07.out)
      have lbx := bx.lt
      obtain ⟨qbx_0, qbx_1, qbx_2, qbx_3, qbx_4, qbx_5, qbx_6⟩ := blk7 bx
      have fbx_0 := bx.frozen 0
      have fbx_1 := bx.frozen 1
      have fbx_2 := bx.frozen 2
      have fbx_3 := bx.frozen 3
      have fbx_4 := bx.frozen 4
      have fbx_5 := bx.frozen 5
      have fbx_6 := bx.frozen 6
      clear bx
      go_wp2_with fail
      have lx0 := Bx.out.lt
      have lt0 := Bt.out.lt
      refine name_wp (fun W => Ext w W ∧ Blk W w.heap.size 27 [.slice At_0 t.ases.length ct_0, .slice At_1 t.links.length ct_1] ∧ Blk W (w.heap.size + 1) 33 [I x.isd, I x.version, I x.notBefore, I x.notAfter, I x.voters, I x.quorum, .slice a7 k7 q7] ∧ TrustRootSO w0.heap.size wr.heap.size W _ l ∧ Own 36 2 wr.heap.size w7.heap.size W (.slice a7 k7 q7) x.sigs.length (x.sigs.flatMap SignatureC) ∧ w7.heap.size = W.heap.size)
        ⟨(by have h := E07.out; exact xe), (Bt.out.ext E07.out).far (by dsimp only; omega) _, by simpa using (Bx.out.ext E07.out).set_ 6 (.slice a7 k7 q7), TrustRootSO_setCell (NO.at' TrustRootOC.keeps HN.out ew7) (.inl (by dsimp only; omega)) _, Own.setCell O7.out (.inl (by dsimp only; omega)) _, by simp only [World.size_setCell]⟩ ?_
      rintro w8 ⟨ew8, bt8, bx8, no8, o8, z8⟩
      have N8 := Lib.hid no8
      obtain ⟨A8, n8, c8, hv8⟩ := NO.slice no8
      subst hv8
      obtain ⟨cs, fp, hown, hol, hnd, hbd⟩ := no8
      obtain ⟨hn8, hrow⟩ := NO.row hown
      subst hn8
      have HOW := Lib.hid hown; have HOL := Lib.hid hol; have HND := Lib.hid hnd; have HBD := Lib.hid hbd; have O8 := Lib.hid o8; have BT8 := Lib.hid bt8; have BX8 := Lib.hid bx8
      have lx8 := bx8.lt
      obtain ⟨qx_0, qx_1, qx_2, qx_3, qx_4, qx_5, qx_6⟩ := blk7 bx8
      clear hown hol hnd hbd o8 bt8 bx8 hrow
      have zw0 := ew0.size
      refine wp_region_LT 5 (E := Ext) (w0 := w8) (G := fun τ => match τ with | 30 => some (fun v W => Fresh0 33 w8.heap.size v W) | 32 => some (fun v W => Own 33 7 w8.heap.size W.heap.size W v l.length cs) | 34 => some (fun v W => Fresh1 33 w8.heap.size [I x.isd, I x.version, I x.notBefore, I x.notAfter, I x.voters, I x.quorum, .slice a7 k7 q7] v W) | _ => none) Ext.refl (fun h k => Ext.trans h k) (by kernel_rfl) (by kernel_rfl) (by kernel_rfl) (by kernel_rfl) (by kernel_rfl) (by kernel_rfl) xg (Ext.drew (by exact Ext.refl _)) ?_
      simp only [List.take_succ_cons, List.take_zero]
      repeat' (first
        | ((with_reducible refine wpL_skip ?_ ?_ ?_)
           · rfl
           · rfl
           simp only [Act.put, List.setIfInBounds_toArray, List.set_cons_zero, List.set_cons_succ])
        | ((with_reducible refine wpL_quiet ?_ ?_ ?_ ?_)
           · rfl
           · rfl
           · rfl
           apply Exists.intro
           refine ⟨fun W hW hS => ?_, ?_⟩
           · have hC := (Ext.facts hW).1
             go_simp
             first | done | (with_reducible rfl) | (rw [if_neg (by omega)]; exact ⟨rfl, rfl⟩) | rfl
           first | (with_reducible refine wpL_boolT ?_) | (with_reducible refine wpL_boolF ?_) | (with_reducible refine wpL_bool (fun hB => ?_) (fun hB => ?_)) | skip
           all_goals simp only [Act.put, List.setIfInBounds_toArray, List.set_cons_zero, List.set_cons_succ])
        | ((refine wpL_grow ?_ rfl rfl ?_ ?_)
           · rfl
           · intro W hW hS
             first | (exact grow_app0 (.tmp 30) (.tmp 31) _ rfl 33 _ 7 72 Try.underlying28 info_TrustRoot rfl (by omega) w8.heap.size _ rfl (hS 30 (by decide)) _ _ _ cs rfl (NO.row (HOW.out.keep (fun k _ _ h3 => hW.same k h3))).2 (HOL.out.ones TrustRootOC.one) (by unfold maxLen; omega) (by omega) (fun v1 w1 o1 => o1)) | skip
             all_goals have hC := (Ext.facts hW).1
             all_goals unfold growAt
             all_goals go_simp
             all_goals simp only [growUpon]
             all_goals first | (exact ⟨xe, Fresh0.new _ 33 _ _ rfl (Ext.size (by assumption))⟩) | (exact ⟨xe, Fresh1.new _ 33 _ _ _ rfl (Ext.size (by assumption))⟩)
           intro v W' hW' hv
           first | (obtain ⟨g5, rfl, -⟩ := hv) | (obtain ⟨A5, n5, c5, rfl⟩ := Own.slice hv) | (obtain ⟨g5, rfl, -⟩ := hv) | (obtain ⟨A5, n5, c5, rfl, -⟩ := id hv; clear hv) | (obtain ⟨A5, n5, c5, rfl⟩ := NO.slice hv) | skip
           all_goals simp only [Act.put, List.setIfInBounds_toArray, List.set_cons_zero, List.set_cons_succ]))
      refine wpL_nil (fun w9 e9 hL => ?_)
      have o32 : Own 33 7 w8.heap.size w9.heap.size w9 _ l.length cs := hL 32
      have f34 : Fresh1 33 w8.heap.size [I x.isd, I x.version, I x.notBefore, I x.notAfter, I x.voters, I x.quorum, .slice a7 k7 q7] _ w9 := hL 34
      obtain ⟨g34, eg34, hg34, hb34⟩ := f34
      cases eg34
      have O32 := Lib.hid o32; have B34 := Lib.hid hb34; clear o32 hb34 hL
      have z9 := e9.size
      obtain ⟨hw32, hn32⟩ := NO.of_copy (lo := w0.heap.size) (mid := w8.heap.size) O32.out (OL.keep TrustRootOC.keeps HOL.out (fun b _ hs => e9.same b hs)) (List.nodup_append.1 HND.out).2.1 (fun b hb => by have := HBD.out b hb; omega) (by omega)
      have HW32 := Lib.hid hw32; have HN32 := Lib.hid hn32; clear hw32 hn32
      simp only [List.drop_succ_cons, List.drop_zero]
      go_wp2_with (at_builtin; refine hold ?_)
      refine unhold (wpList_pushE (OC := TrustRootOC) rfl w0.heap.size TrustRootOC.keeps TrustRootOC.one (.tmp 32) (.tmp 34) _ rfl 33 _ 7 72 Try.underlying28 info_TrustRoot rfl (by omega) _ l [x] cs [I x.isd, I x.version, I x.notBefore, I x.notAfter, I x.voters, I x.quorum, .slice a7 k7 q7] fp (Value.slice a7 k7 q7).ownBlock.toList rfl _ 1 1 rfl
        HW32.out (OL.keep TrustRootOC.keeps HOL.out (fun b _ hs => e9.same b hs)) HN32.out (fun b hb => by have := HBD.out b hb; omega) (row_blk B34.out rfl) (OL.one (by exact ⟨_, rfl, (Own.more (lo' := 0) (O8.out.ext e9 (by omega)) (Nat.zero_le _) (Nat.le_refl _)).1, rfl⟩) rfl) (by cases (Value.slice a7 k7 q7).ownBlock <;> simp)
        (fun b hb => by have h1 := O8.out.1.lt b (by simpa using hb); omega) (fun b hb => ⟨fun hm => by have h1 := O8.out.1.lt b (by simpa using hb); have h2 := HBD.out b hm; omega, fun e => by have h1 := O8.out.1.lt b (by simpa using hb); have h2 := O32.out.1.lt b e; omega⟩) (by omega) (by simp only [List.length_singleton]; omega) (by omega) ?_)
      intro v10 w10 no10 hg10
      have e10 : Ext w8 w10 := Ext.grown e9 hg10 (fun k hk => (O32.out.1.lt k hk).1)
      have N10 := Lib.hid no10
      obtain ⟨A10, n10, c10, hv10⟩ := NO.slice no10
      subst hv10
      have R10 := Lib.hid (TrustRootSO_rd no10 (Nat.le_refl _))
      clear no10 hg10 qx_0 qx_1 qx_2 qx_3 qx_4 qx_5 qx_6
      have bt10 := BT8.out.ext e10
      have lt10 := bt10.lt
      obtain ⟨qt_0, qt_1⟩ := blk2 bt10
      clear bt10
      have HU : Hid (updRoots t l x = if validChain t (l ++ [x]) then l ++ [x] else l) := rfl
      have z10 := e10.size
      go_wp2_with (at_builtin; refine hold ?_)
      refine unhold ?_
      refine (impl_ValidRootChain _ _ t (l ++ [x]) _ (by exact Rt.out.ext (ew8.trans e10)) (by exact R10.out)).mono ?_
      rintro e w11 ⟨rfl, e11⟩
      have z11 := e11.size
      cases hv : validChain t (l ++ [x])
      · have HV : Hid (updRoots t l x = l) := by unfold Hid; rw [HU.out, hv]; rfl
        go_wp2_with fail
        go_ret
        exact ⟨_, rfl, by rw [HV.out]; exact NO.more (NO.at' TrustRootOC.keeps N8.out (e10.trans e11)) (by omega) (by omega), ew8.trans (e10.trans e11)⟩
      · have HV : Hid (updRoots t l x = l ++ [x]) := by unfold Hid; rw [HU.out, hv]; rfl
        go_wp2_with fail
        go_ret
        exact ⟨_, rfl, by rw [HV.out]; exact NO.more (NO.up TrustRootOC.keeps N10.out e11 (Nat.le_refl _)) (by omega) (Nat.le_refl _), ew8.trans (e10.trans e11)⟩
end Go.Proofs.Ytmlfnfflpacchaa
