/- Contracts of the program's and the reference's functions on signed segments: TruncateSigned. -/
import Derived.Test.YtmlfnfflpacchaaGL20
import Derived.Test.YtmlfnfflpacchaaGL9
import Derived.Test.YtmlfnfflpacchaaGL10a
import Derived.Test.YtmlfnfflpacchaaGGrow
namespace Go.Proofs.Ytmlfnfflpacchaa
open Go.RowKit
set_option linter.unusedVariables false
theorem Own.take {E sz lo hi n c k : Nat} {w : World} {A : Option Addr} {cs : List Value} (h : Own E sz lo hi w (.slice A n c) n cs) (hk : k ≤ n) : Own E sz lo hi w (.slice A k c) k (cs.take (k * sz)) := by
  rcases h.cases with ⟨e, h0, hc⟩ | ⟨g, cap, rest, e, h1, h2, hb, hl, hn, hm, hs⟩
  · cases e
    obtain rfl : k = 0 := by omega
    subst hc
    simpa using h
  · cases e
    have hle : k * sz ≤ n * sz := Nat.mul_le_mul_right _ hk
    have hb' : Blk w g E (cs.take (k * sz) ++ (cs.drop (k * sz) ++ rest)) := by rw [← List.append_assoc, List.take_append_drop]; exact hb
    refine Own.mk' h1 h2 hb' (by rw [List.length_take]; omega) (by omega) hm (by rw [← List.append_assoc, List.take_append_drop]; exact hs)
theorem flat_take {α : Type} (f : α → List Value) (sz : Nat) (hf : ∀ x, (f x).length = sz) : ∀ (ds : List α) (k : Nat), (ds.flatMap f).take (k * sz) = (ds.take k).flatMap f
  | [], k => by simp
  | d :: ds, 0 => by simp
  | d :: ds, k + 1 => by
    rw [List.take_succ_cons, List.flatMap_cons, List.flatMap_cons, List.take_append, hf, List.take_of_length_le (by rw [hf, Nat.add_mul]; omega), show (k + 1) * sz - sz = k * sz by rw [Nat.add_mul]; omega, flat_take f sz hf ds k]
theorem Own.takeHops {lo hi c k : Nat} {w : World} {A : Option Addr} {n : Nat} {l : List DHop} (h : Own 117 5 lo hi w (.slice A n c) l.length (l.flatMap HopC)) (hk : k ≤ l.length) : Own 117 5 lo hi w (.slice A k c) (l.take k).length ((l.take k).flatMap HopC) := by
  have hn : n = l.length := by
    rcases h.cases with ⟨e, h0, _⟩ | ⟨g, cap, rest, e, _⟩
    · cases e; omega
    · cases e; rfl
  subst hn
  rw [← flat_take HopC 5 HopC.len, List.length_take, Nat.min_eq_left hk]
  exact h.take hk
theorem Own.takeInts {lo hi c k : Nat} {w : World} {A : Option Addr} {n : Nat} {l : List Int} (h : Own 3 1 lo hi w (.slice A n c) l.length (l.map I)) (hk : k ≤ l.length) : Own 3 1 lo hi w (.slice A k c) (l.take k).length ((l.take k).map I) := by
  have hn : n = l.length := by
    rcases h.cases with ⟨e, h0, _⟩ | ⟨g, cap, rest, e, _⟩
    · cases e; omega
    · cases e; rfl
  subst hn
  have h2 := h.take hk
  rw [Nat.mul_one, ← List.map_take] at h2
  rw [List.length_take, Nat.min_eq_left hk]
  exact h2
theorem SegmentO.own {lo hi : Nat} {w : World} {ts be : Int} {A : Option Addr} {n c : Nat} {x : DSegment} (h : SegmentO lo hi w (.agg #[I ts, I be, .slice A n c]) x) : Own 117 5 lo hi w (.slice A n c) x.hops.length (x.hops.flatMap HopC) := by
  obtain ⟨u, e, oh, -⟩ := h
  have := congrArg Array.toList (Value.agg.inj e)
  simp only [List.cons.injEq] at this
  rw [this.2.2.1]
  exact oh
def truncSigned (x : DSignedSegment) (i : Int) : DSignedSegment := if inR i 0 x.seg.hops.length && decide (i ≤ x.sigs.length) then ⟨⟨x.seg.ts, x.seg.beta, x.seg.hops.take i.toNat⟩, x.sigs.take i.toNat⟩ else x
theorem truncSigned_len (x : DSignedSegment) (i : Int) : (truncSigned x i).seg.hops.length ≤ x.seg.hops.length ∧ (truncSigned x i).sigs.length ≤ x.sigs.length := by
  unfold truncSigned
  split
  · simp only [List.length_take]; omega
  · simp
theorem SignedSegmentV.shape {B : Nat} {w : World} {v : Value} {x : DSignedSegment} (h : SignedSegmentV B w v x) : ∃ A2 n2 c2, ∃ A3 n3 c3, v = .agg #[I x.seg.ts, I x.seg.beta, .slice A2 n2 c2, .slice A3 n3 c3] := by
  obtain ⟨A2, n2, c2, A3, n3, c3, e, _, _⟩ := h
  exact ⟨A2, n2, c2, A3, n3, c3, e⟩
set_option maxRecDepth 100000 in
set_option maxHeartbeats 1000000 in
theorem impl_copyInts (v : Value) (xs : List Int) (w : World) (h : IntS w.heap.size w v xs) (hl : xs.length ≤ 100000000) :
    Calls Try.prog 130 #[v] w fun e w' => ∃ v', e = .returned v' ∧ IntSO w.heap.size w'.heap.size w' v' xs ∧ Ext w w' := by
  obtain ⟨A, n, c, rfl, hl1, hn, hm, -⟩ := id h
  subst hl1
  have H := Lib.hid h; clear h
  go_enter Try.func130, Try.ntmps130
  go_wp2_with (at_builtin; refine hold ?_)
  refine unhold (wpList_app w rfl (.tmp 3) (.tmp 4) _ rfl 3 _ 1 8 Try.underlying38 info_int rfl (by omega) _ 0 [] rfl A xs.length c (xs.map I) rfl
    (own_zero w _ 1 _ (Nat.le_refl _)) (by exact row_ints (H.out.ext xe)) (one_ints xs) xe (by unfold maxLen; omega) (by omega) ?_)
  intro v1 w1 ho1 he1 _ _
  have O1 := Lib.hid ho1; clear ho1
  go_wp2_with (at_builtin; refine hold ?_)
  go_ret
  exact ⟨_, rfl, by simpa using O1.out, he1⟩
set_option maxRecDepth 100000 in
set_option maxHeartbeats 1000000 in
theorem impl_TruncateSigned (vx : Value) (i : Int) (x : DSignedSegment) (w : World) (hx : SignedSegmentV w.heap.size w vx x) (hn : x.seg.hops.length + x.sigs.length ≤ 100000000) :
    Calls Try.prog 84 #[vx, I i] w fun e w' => ∃ v', e = .returned v' ∧ SignedSegmentO w.heap.size w'.heap.size w' v' (truncSigned x i) ∧ Ext w w' := by
  obtain ⟨Ax_2, nx_2, cx_2, Ax_3, nx_3, cx_3, rfl, sx_2, sx_3⟩ := id hx
  obtain ⟨lx_2, kx_2, mx_2⟩ := sx_2.len
  subst lx_2
  unfold maxLen at mx_2
  obtain ⟨lx_3, kx_3, mx_3⟩ := sx_3.len
  subst lx_3
  unfold maxLen at mx_3
  have Rx := Lib.hid hx; clear hx
  have Sx_2 := Lib.hid sx_2; clear sx_2
  have Sx_3 := Lib.hid sx_3; clear sx_3
  have HG : Hid (SegmentV w.heap.size w (.agg #[I x.seg.ts, I x.seg.beta, .slice Ax_2 x.seg.hops.length cx_2]) x.seg) := ⟨_, _, _, rfl, Sx_2.out⟩
  go_enter Try.func84, Try.ntmps84
  go_wp2_with fail
  refine name_wp (fun W => Ext w W ∧ Blk W w.heap.size 106 [I x.seg.ts, I x.seg.beta, .slice Ax_2 x.seg.hops.length cx_2, .slice Ax_3 x.sigs.length cx_3] ∧ Blk W (w.heap.size + 1) 106 [I 0, I 0, .slice none 0 0, .slice none 0 0]) ⟨xe, xb, xb⟩ ?_
  rintro w0 ⟨ew0, bx, br⟩
  have Bx := Lib.hid bx; have BR := Lib.hid br; clear bx br
  have zw0 : w.heap.size + 1 < w0.heap.size := BR.out.lt
  have bx := Bx.out.ext (w' := w0) xe
  have lx := bx.lt
  obtain ⟨px_0, px_1, px_2, px_3⟩ := blk4 bx
  clear bx
  refine wp_region_CT 8 (E := Ext) (w0 := w0) (G := fun τ => match τ with | 5 => some (fun v W => Zero1 106 w0.heap.size [I 0, I 0, .slice none 0 0, .slice none 0 0] v W) | _ => none) (C := fun τ => match τ with | 8 => some (fun v W W' => SegmentO W.heap.size W'.heap.size W' v x.seg) | 11 => some (fun v W W' => IntSO W.heap.size W'.heap.size W' v x.sigs) | _ => none) Ext.refl (fun h k => Ext.trans h k) (by kernel_rfl) (by kernel_rfl) (by kernel_rfl) (by kernel_rfl) (by kernel_rfl) (by kernel_rfl) (by kernel_rfl) (by
      intro t φ hG
      split at hG
      all_goals first | (cases hG; done) | (cases Option.some.inj hG; intro v W W' hE hv; first | exact hv | exact IntS.ext hv hE | exact hv.ext hE | exact Own.up hv hE | exact hv.up hE | exact NO.up (by first | exact SegmentOC.keeps | exact TrustRootOC.keeps | exact BeaconOC.keeps | exact BeaconMessageOC.keeps | exact BeaconStoreOC.keeps) hv hE (Nat.le_refl _) | exact ObjUp.up hv hE)) (Ext.drew (by exact Ext.refl _)) ?_
  simp only [List.take_succ_cons, List.take_zero]
  repeat' (first
    | ((with_reducible refine wpM_skip (fun h k => Ext.trans h k) xe ?_ ?_ ?_)
       · rfl
       · rfl
       simp only [Act.put, List.setIfInBounds_toArray, List.set_cons_zero, List.set_cons_succ])
    | ((with_reducible refine wpM_quiet (fun h k => Ext.trans h k) xe ?_ ?_ ?_ ?_ ?_)
       · rfl
       · rfl
       · rfl
       · rfl
       apply Exists.intro
       refine ⟨fun W hW hS => ?_, ?_⟩
       · have hC := (Ext.facts hW).1
         go_simp
         first | done | (with_reducible rfl) | rfl
       first | (with_reducible refine wpM_bool (fun hB => ?_) (fun hB => ?_)) | skip
       all_goals simp only [Act.put, List.setIfInBounds_toArray, List.set_cons_zero, List.set_cons_succ])
    | ((refine wpM_chain (d := 8) (fun h k => Ext.trans h k) xe ?_ rfl rfl ?_ ?_ ?_)
       · rfl
       · rfl
       · intro W hW hS
         have hC := (Ext.facts (a := w0) (b := W) xe).1
         unfold growAt
         go_simp
         simp only [growUpon]
         (go_at_call 126; (with_reducible refine Calls.mono (impl_copySegment _ x.seg _ (by exact HG.out.ext xe) (by omega)) ?_); rintro e w9 ⟨v9, rfl, o9, e9⟩; exact ⟨_, rfl, e9, o9⟩)
       intro v wa wb ewa ewb hv
       obtain ⟨u5, rfl, oh5, -⟩ := hv; obtain ⟨A5, n5, c5, rfl⟩ := Own.slice oh5; have O5 := Lib.hid oh5; clear oh5
       all_goals simp only [Act.put, List.setIfInBounds_toArray, List.set_cons_zero, List.set_cons_succ])
    | ((refine wpM_chain (d := 11) (fun h k => Ext.trans h k) xe ?_ rfl rfl ?_ ?_ ?_)
       · rfl
       · rfl
       · intro W hW hS
         have hC := (Ext.facts (a := w0) (b := W) xe).1
         unfold growAt
         go_simp
         simp only [growUpon]
         (go_at_call 130; (with_reducible refine Calls.mono (impl_copyInts _ x.sigs _ (by exact Sx_3.out.ext xe) (by omega)) ?_); rintro e w9 ⟨v9, rfl, o9, e9⟩; exact ⟨_, rfl, e9, o9⟩)
       intro v wc wd ewc ewd hv
       obtain ⟨A7, n7, c7, rfl⟩ := Own.slice hv; have O7 := Lib.hid hv; clear hv
       all_goals simp only [Act.put, List.setIfInBounds_toArray, List.set_cons_zero, List.set_cons_succ])
    | ((refine wpM_grow (fun h k => Ext.trans h k) xe ?_ rfl rfl rfl ?_ ?_)
       · rfl
       · intro W hW hS
         have hC := (Ext.facts hW).1
         unfold growAt
         go_simp
         simp only [growUpon]
         first | (exact ⟨xe, _, rfl, Ext.size (by assumption), Blk.new _ _ _⟩)
       intro v W' hW' hv
       first | (obtain ⟨g5, rfl, -⟩ := hv) | (obtain ⟨A5, n5, c5, rfl, -⟩ := id hv; clear hv) | (obtain ⟨A5, n5, c5, rfl⟩ := NO.slice hv) | skip
       all_goals simp only [Act.put, List.setIfInBounds_toArray, List.set_cons_zero, List.set_cons_succ]))
  have za := ewa.size; have zb := ewb.size; have zc := ewc.size; have zd := ewd.size
  refine wpM_nil (fun w1 ew1 hL => ?_)
  have o1 : Own 117 5 wa.heap.size wb.heap.size w1 (.slice A5 n5 c5) x.seg.hops.length (x.seg.hops.flatMap HopC) := Own.ext O5.out xe (Nat.le_refl _)
  have o2 : Own 3 1 wc.heap.size wd.heap.size w1 (.slice A7 n7 c7) x.sigs.length (x.sigs.map I) := Own.ext O7.out xe (Nat.le_refl _)
  have pz : Zero1 106 w0.heap.size [I 0, I 0, .slice none 0 0, .slice none 0 0] _ w1 := hL 5
  obtain ⟨gz, hgz, hgl, hbz⟩ := pz
  have hge : gz = g5 := by injection hgz with h; injection h with h; injection h with h1; exact h1.symm
  subst hge
  clear hgz hL
  have zw1 := ew1.size
  have lz := hbz.lt
  obtain ⟨yz_0, yz_1, yz_2, yz_3⟩ := blk4 hbz
  have fz_0 := hbz.frozen 0
  have fz_1 := hbz.frozen 1
  have fz_2 := hbz.frozen 2
  have fz_3 := hbz.frozen 3
  have Zo1 := Lib.hid (Own.setT (Own.setT (Own.setT (Own.setT o1 hbz (by decide) 0 (I x.seg.ts)) (Blk.set_ hbz 0 (I x.seg.ts)) (by decide) 1 (I x.seg.beta)) (Blk.set_ (Blk.set_ hbz 0 (I x.seg.ts)) 1 (I x.seg.beta)) (by decide) 2 (.slice A5 n5 c5)) (Blk.set_ (Blk.set_ (Blk.set_ hbz 0 (I x.seg.ts)) 1 (I x.seg.beta)) 2 (.slice A5 n5 c5)) (by decide) 3 (.slice A7 n7 c7))
  have Zo2 := Lib.hid (Own.setT (Own.setT (Own.setT (Own.setT o2 hbz (by decide) 0 (I x.seg.ts)) (Blk.set_ hbz 0 (I x.seg.ts)) (by decide) 1 (I x.seg.beta)) (Blk.set_ (Blk.set_ hbz 0 (I x.seg.ts)) 1 (I x.seg.beta)) (by decide) 2 (.slice A5 n5 c5)) (Blk.set_ (Blk.set_ (Blk.set_ hbz 0 (I x.seg.ts)) 1 (I x.seg.beta)) 2 (.slice A5 n5 c5)) (by decide) 3 (.slice A7 n7 c7))
  have bx := Bx.out.ext (w' := w1) xe
  have lx := bx.lt
  obtain ⟨px_0, px_1, px_2, px_3⟩ := blk4 bx
  clear bx
  have BW := Lib.hid (Blk.set_ (Blk.set_ (Blk.set_ (Blk.set_ hbz 0 (I x.seg.ts)) 1 (I x.seg.beta)) 2 (.slice A5 n5 c5)) 3 (.slice A7 n7 c7))
  clear hbz o1 o2
  simp only [List.drop_succ_cons, List.drop_zero]
  go_wp2_with fail
  clear yz_0 fz_0 yz_1 fz_1 yz_2 fz_2 yz_3 fz_3
  first | refine name_wp ?_ ?_ ?_ | refine name_calls ?_ ?_ ?_
  exact (fun W => Ext w0 W ∧ w1.heap.size = W.heap.size ∧ Blk W gz 106 [I x.seg.ts, I x.seg.beta, .slice A5 n5 c5, .slice A7 n7 c7] ∧ Own 117 5 wa.heap.size wb.heap.size W (.slice A5 n5 c5) x.seg.hops.length (x.seg.hops.flatMap HopC) ∧ Own 3 1 wc.heap.size wd.heap.size W (.slice A7 n7 c7) x.sigs.length (x.sigs.map I))
  exact ⟨xe, (by simp only [World.size_setCell]), (by simpa using BW.out), (by (try simp only [World.size_setCell]); exact Zo1.out), (by (try simp only [World.size_setCell]); exact Zo2.out)⟩
  clear BW Zo1 Zo2
  rintro w2 ⟨ew2, zw2, bz, o1, o2⟩
  have BZ := Lib.hid bz; clear bz
  have Ho1 := Lib.hid o1; clear o1
  have Ho2 := Lib.hid o2; clear o2
  clear O5 O7
  have hn5 : n5 = x.seg.hops.length := by
    rcases Ho1.out.cases with ⟨e, h0, _⟩ | ⟨g, cap, rest, e, _⟩
    · cases e; omega
    · cases e; rfl
  have hn7 : n7 = x.sigs.length := by
    rcases Ho2.out.cases with ⟨e, h0, _⟩ | ⟨g, cap, rest, e, _⟩
    · cases e; omega
    · cases e; rfl
  have hm5 : n5 ≤ c5 := by
    rcases Ho1.out.cases with ⟨e, h0, _⟩ | ⟨g, cap, rest, e, _, _, _, _, hc, _⟩
    · cases e; omega
    · cases e; exact hc
  have hm7 : n7 ≤ c7 := by
    rcases Ho2.out.cases with ⟨e, h0, _⟩ | ⟨g, cap, rest, e, _, _, _, _, hc, _⟩
    · cases e; omega
    · cases e; exact hc
  subst hn5 hn7
  refine (impl_InRange _ _ _ _).mono ?_
  rintro e w3 ⟨rfl, rfl⟩
  cases hv : inR i 0 x.seg.hops.length
  · have HF : Hid (truncSigned x i = x) := by unfold Hid truncSigned; rw [hv]; rfl
    have br := BR.out.ext (w' := w2) xe
    have lbr := br.lt
    obtain ⟨qbr_0, qbr_1, qbr_2, qbr_3⟩ := blk4 br
    have fbr_0 := br.frozen 0
    have fbr_1 := br.frozen 1
    have fbr_2 := br.frozen 2
    have fbr_3 := br.frozen 3
    clear br
    have bz := BZ.out.ext (w' := w2) xe
    have lbz := bz.lt
    obtain ⟨qbz_0, qbz_1, qbz_2, qbz_3⟩ := blk4 bz
    have fbz_0 := bz.frozen 0
    have fbz_1 := bz.frozen 1
    have fbz_2 := bz.frozen 2
    have fbz_3 := bz.frozen 3
    clear bz
    go_wp2_with fail
    refine bodyPost_ret (v := .agg #[I x.seg.ts, I x.seg.beta, .slice A5 x.seg.hops.length c5, .slice A7 x.sigs.length c7]) (by simp [results, Try.results84, go_sem, *]) rfl ⟨_, rfl, ?_, ?_⟩
    · rw [HF.out]
      simp only [World.size_setCell]
      refine ⟨_, _, wb.heap.size, rfl, Own.more (lo := wa.heap.size) (hi := wb.heap.size) (by repeat (first | (with_reducible exact Ho1.out) | (with_reducible refine Own.alloc ?_ _) | (with_reducible refine Own.setCell (p := _) ?_ (.inl ?ge) _; case ge => (first | omega | (dsimp only; omega) | (simp only [World.size_setCell]; omega) | (simp only [World.size_alloc]; omega))) | (with_reducible refine Own.ext ?_ (by with_reducible assumption) ?ge; case ge => (first | omega | (dsimp only; omega) | (simp only [World.size_setCell]; omega) | (simp only [World.size_alloc]; omega))))) (by omega) (by omega), Own.more (lo := wc.heap.size) (hi := wd.heap.size) (by repeat (first | (with_reducible exact Ho2.out) | (with_reducible refine Own.alloc ?_ _) | (with_reducible refine Own.setCell (p := _) ?_ (.inl ?ge) _; case ge => (first | omega | (dsimp only; omega) | (simp only [World.size_setCell]; omega) | (simp only [World.size_alloc]; omega))) | (with_reducible refine Own.ext ?_ (by with_reducible assumption) ?ge; case ge => (first | omega | (dsimp only; omega) | (simp only [World.size_setCell]; omega) | (simp only [World.size_alloc]; omega))))) (by omega) (by omega), by omega, by omega⟩
    · exact xe
  obtain ⟨j0, j1⟩ := inR_iff.1 hv
  obtain ⟨k, rfl⟩ := Int.eq_ofNat_of_zero_le j0
  by_cases h2 : (k : Int) ≤ (x.sigs.length : Int)
  · have HF : Hid (truncSigned x k = ⟨⟨x.seg.ts, x.seg.beta, x.seg.hops.take k⟩, x.sigs.take k⟩) := by unfold Hid truncSigned; rw [hv, decide_eq_true h2, Int.toNat_natCast]; rfl
    clear hv
    have k5 : (k : Int) ≤ (c5 : Int) := by omega
    have k7 : (k : Int) ≤ (c7 : Int) := by omega
    have bx := Bx.out.ext (w' := w2) xe
    have lx := bx.lt
    obtain ⟨px_0, px_1, px_2, px_3⟩ := blk4 bx
    clear bx
    have br := BR.out.ext (w' := w2) xe
    have lbr := br.lt
    obtain ⟨qbr_0, qbr_1, qbr_2, qbr_3⟩ := blk4 br
    have fbr_0 := br.frozen 0
    have fbr_1 := br.frozen 1
    have fbr_2 := br.frozen 2
    have fbr_3 := br.frozen 3
    clear br
    have bz := BZ.out.ext (w' := w2) xe
    have lbz := bz.lt
    obtain ⟨qbz_0, qbz_1, qbz_2, qbz_3⟩ := blk4 bz
    have fbz_0 := bz.frozen 0
    have fbz_1 := bz.frozen 1
    have fbz_2 := bz.frozen 2
    have fbz_3 := bz.frozen 3
    clear bz
    go_wp2_with fail
    have O3 := Lib.hid ((Own.setT (Own.setT Ho1.out BZ.out (by decide) 2 (.slice A5 k c5)) (BZ.out.set_ 2 (.slice A5 k c5)) (by decide) 3 (.slice A7 k c7)).takeHops (k := k) (by omega))
    have O4 := Lib.hid ((Own.setT (Own.setT Ho2.out BZ.out (by decide) 2 (.slice A5 k c5)) (BZ.out.set_ 2 (.slice A5 k c5)) (by decide) 3 (.slice A7 k c7)).takeInts (k := k) (by omega))
    refine bodyPost_ret (v := .agg #[I x.seg.ts, I x.seg.beta, .slice A5 k c5, .slice A7 k c7]) (by simp [results, Try.results84, go_sem, *]) rfl ⟨_, rfl, ?_, ?_⟩
    · rw [HF.out]
      simp only [World.size_setCell]
      refine ⟨_, _, wb.heap.size, rfl, Own.more (lo := wa.heap.size) (hi := wb.heap.size) (by dsimp only; exact (by repeat (first | (with_reducible exact O3.out) | (with_reducible refine Own.alloc ?_ _) | (with_reducible refine Own.setCell (p := _) ?_ (.inl ?ge) _; case ge => (first | omega | (dsimp only; omega) | (simp only [World.size_setCell]; omega) | (simp only [World.size_alloc]; omega))) | (with_reducible refine Own.ext ?_ (by with_reducible assumption) ?ge; case ge => (first | omega | (dsimp only; omega) | (simp only [World.size_setCell]; omega) | (simp only [World.size_alloc]; omega)))))) (by omega) (by omega), Own.more (lo := wc.heap.size) (hi := wd.heap.size) (by dsimp only; exact (by repeat (first | (with_reducible exact O4.out) | (with_reducible refine Own.alloc ?_ _) | (with_reducible refine Own.setCell (p := _) ?_ (.inl ?ge) _; case ge => (first | omega | (dsimp only; omega) | (simp only [World.size_setCell]; omega) | (simp only [World.size_alloc]; omega))) | (with_reducible refine Own.ext ?_ (by with_reducible assumption) ?ge; case ge => (first | omega | (dsimp only; omega) | (simp only [World.size_setCell]; omega) | (simp only [World.size_alloc]; omega)))))) (by omega) (by omega), by omega, by omega⟩
    · exact xe
  · have HF : Hid (truncSigned x k = x) := by unfold Hid truncSigned; rw [decide_eq_false h2, Bool.and_false]; rfl
    clear hv
    have h3 : (x.sigs.length : Int) < (k : Int) := by omega
    have bx := Bx.out.ext (w' := w2) xe
    have lx := bx.lt
    obtain ⟨px_0, px_1, px_2, px_3⟩ := blk4 bx
    clear bx
    have br := BR.out.ext (w' := w2) xe
    have lbr := br.lt
    obtain ⟨qbr_0, qbr_1, qbr_2, qbr_3⟩ := blk4 br
    have fbr_0 := br.frozen 0
    have fbr_1 := br.frozen 1
    have fbr_2 := br.frozen 2
    have fbr_3 := br.frozen 3
    clear br
    have bz := BZ.out.ext (w' := w2) xe
    have lbz := bz.lt
    obtain ⟨qbz_0, qbz_1, qbz_2, qbz_3⟩ := blk4 bz
    have fbz_0 := bz.frozen 0
    have fbz_1 := bz.frozen 1
    have fbz_2 := bz.frozen 2
    have fbz_3 := bz.frozen 3
    clear bz
    go_wp2_with fail
    refine bodyPost_ret (v := .agg #[I x.seg.ts, I x.seg.beta, .slice A5 x.seg.hops.length c5, .slice A7 x.sigs.length c7]) (by simp [results, Try.results84, go_sem, *]) rfl ⟨_, rfl, ?_, ?_⟩
    · rw [HF.out]
      simp only [World.size_setCell]
      refine ⟨_, _, wb.heap.size, rfl, Own.more (lo := wa.heap.size) (hi := wb.heap.size) (by repeat (first | (with_reducible exact Ho1.out) | (with_reducible refine Own.alloc ?_ _) | (with_reducible refine Own.setCell (p := _) ?_ (.inl ?ge) _; case ge => (first | omega | (dsimp only; omega) | (simp only [World.size_setCell]; omega) | (simp only [World.size_alloc]; omega))) | (with_reducible refine Own.ext ?_ (by with_reducible assumption) ?ge; case ge => (first | omega | (dsimp only; omega) | (simp only [World.size_setCell]; omega) | (simp only [World.size_alloc]; omega))))) (by omega) (by omega), Own.more (lo := wc.heap.size) (hi := wd.heap.size) (by repeat (first | (with_reducible exact Ho2.out) | (with_reducible refine Own.alloc ?_ _) | (with_reducible refine Own.setCell (p := _) ?_ (.inl ?ge) _; case ge => (first | omega | (dsimp only; omega) | (simp only [World.size_setCell]; omega) | (simp only [World.size_alloc]; omega))) | (with_reducible refine Own.ext ?_ (by with_reducible assumption) ?ge; case ge => (first | omega | (dsimp only; omega) | (simp only [World.size_setCell]; omega) | (simp only [World.size_alloc]; omega))))) (by omega) (by omega), by omega, by omega⟩
    · exact xe
set_option maxRecDepth 100000 in
set_option maxHeartbeats 1000000 in
theorem spec_TruncateSigned (vx : Value) (i : Int) (x : DSignedSegment) (w : World) (hx : SignedSegmentV w.heap.size w vx x) (hn : x.seg.hops.length + x.sigs.length ≤ 100000000) :
    Calls Try.prog 85 #[vx, I i] w fun e w' => ∃ v', e = .returned v' ∧ SignedSegmentV w'.heap.size w' v' (truncSigned x i) ∧ Ext w w' := by
  obtain ⟨Ax_2, nx_2, cx_2, Ax_3, nx_3, cx_3, rfl, sx_2, sx_3⟩ := id hx
  obtain ⟨lx_2, kx_2, mx_2⟩ := sx_2.len
  subst lx_2
  unfold maxLen at mx_2
  obtain ⟨lx_3, kx_3, mx_3⟩ := sx_3.len
  subst lx_3
  unfold maxLen at mx_3
  have Rx := Lib.hid hx; clear hx
  have Sx_2 := Lib.hid sx_2; clear sx_2
  have Sx_3 := Lib.hid sx_3; clear sx_3
  have HG : Hid (SegmentV w.heap.size w (.agg #[I x.seg.ts, I x.seg.beta, .slice Ax_2 x.seg.hops.length cx_2]) x.seg) := ⟨_, _, _, rfl, Sx_2.out⟩
  go_enter Try.func85, Try.ntmps85
  go_wp2_with fail
  refine name_wp (fun W => Ext w W ∧ Blk W w.heap.size 106 [I x.seg.ts, I x.seg.beta, .slice Ax_2 x.seg.hops.length cx_2, .slice Ax_3 x.sigs.length cx_3] ∧ Blk W (w.heap.size + 1) 106 [I 0, I 0, .slice none 0 0, .slice none 0 0]) ⟨xe, xb, xb⟩ ?_
  rintro w0 ⟨ew0, bx, br⟩
  have Bx := Lib.hid bx; have BR := Lib.hid br; clear bx br
  have zw0 : w.heap.size + 1 < w0.heap.size := BR.out.lt
  have bx := Bx.out.ext (w' := w0) xe
  have lx := bx.lt
  obtain ⟨px_0, px_1, px_2, px_3⟩ := blk4 bx
  clear bx
  refine wp_region_LT 9 (E := Ext) (w0 := w0) (G := fun τ => match τ with | 8 => some (fun v W => SegmentO w0.heap.size W.heap.size W v x.seg) | 9 => some (fun v W => Fresh0 3 w0.heap.size v W) | 12 => some (fun v W => IntSO w0.heap.size W.heap.size W v (x.sigs)) | 5 => some (fun v W => Zero1 106 w0.heap.size [I 0, I 0, .slice none 0 0, .slice none 0 0] v W) | _ => none) Ext.refl (fun h k => Ext.trans h k) (by kernel_rfl) (by kernel_rfl) (by kernel_rfl) (by kernel_rfl) (by kernel_rfl) (by kernel_rfl) xg (Ext.drew (by exact Ext.refl _)) ?_
  simp only [List.take_succ_cons, List.take_zero]
  repeat' (first
    | ((with_reducible refine wpL_skip ?_ ?_ ?_)
       · rfl
       · rfl
       simp only [Act.put, List.setIfInBounds_toArray, List.set_cons_zero, List.set_cons_succ])
    | ((with_reducible refine wpL_quiet ?_ ?_ ?_ ?_)
       · rfl
       · rfl
       · rfl
       apply Exists.intro
       refine ⟨fun W hW hS => ?_, ?_⟩
       · have hC := (Ext.facts hW).1
         go_simp
         first | done | (with_reducible rfl) | (rw [if_neg (by omega)]; exact ⟨rfl, rfl⟩) | rfl
       first | (with_reducible refine wpL_boolT ?_) | (with_reducible refine wpL_boolF ?_) | (with_reducible refine wpL_bool (fun hB => ?_) (fun hB => ?_)) | skip
       all_goals simp only [Act.put, List.setIfInBounds_toArray, List.set_cons_zero, List.set_cons_succ])
    | ((refine wpL_grow ?_ rfl rfl ?_ ?_)
       · rfl
       · intro W hW hS
         first | (exact grow_app0 (.tmp 9) (.tmp 11) _ rfl 3 _ 1 8 Try.underlying38 info_int rfl (by omega) w0.heap.size _ rfl (hS 9 (by decide)) _ _ _ _ rfl (by exact row_ints (Sx_3.out.ext (Ext.trans (by assumption) hW))) (one_ints _) (by unfold maxLen; omega) (by omega) (fun v1 w1 o1 => o1)) | skip
         all_goals have hC := (Ext.facts hW).1
         all_goals unfold growAt
         all_goals go_simp
         all_goals simp only [growUpon]
         all_goals first | (go_at_call 129; (with_reducible refine Calls.mono (spec_l9Copy _ x.seg _ (by exact HG.out.ext xe) (by omega)) ?_); rintro e w9 ⟨v9, rfl, o9, e9⟩; exact ⟨_, rfl, e9, SegmentO.more o9 (Ext.size hW) (Nat.le_refl _)⟩) | (exact ⟨xe, Fresh0.new _ 3 _ _ rfl (Ext.size (by assumption))⟩) | (exact ⟨xe, _, rfl, Ext.size (by assumption), Blk.new _ _ _⟩)
       intro v W' hW' hv
       first | (obtain ⟨u5, rfl, oh5, -⟩ := hv; obtain ⟨A8, n8, c8, rfl⟩ := Own.slice oh5; clear oh5) | (obtain ⟨g5, rfl, -⟩ := hv) | (obtain ⟨A5, n5, c5, rfl⟩ := Own.slice hv) | (obtain ⟨g5, rfl, -⟩ := hv) | (obtain ⟨A5, n5, c5, rfl, -⟩ := id hv; clear hv) | (obtain ⟨A5, n5, c5, rfl⟩ := NO.slice hv) | skip
       all_goals simp only [Act.put, List.setIfInBounds_toArray, List.set_cons_zero, List.set_cons_succ]))
  refine wpL_nil (fun w1 ew1 hL => ?_)
  have o1 : Own 117 5 w0.heap.size w1.heap.size w1 (.slice A8 n8 c8) x.seg.hops.length (x.seg.hops.flatMap HopC) := SegmentO.own (hL 8)
  have o2 : Own 3 1 w0.heap.size w1.heap.size w1 (.slice A5 n5 c5) x.sigs.length (x.sigs.map I) := hL 12
  have pz : Zero1 106 w0.heap.size [I 0, I 0, .slice none 0 0, .slice none 0 0] _ w1 := hL 5
  obtain ⟨gz, hgz, hgl, hbz⟩ := pz
  have hge : gz = g5 := by injection hgz with h; injection h with h; injection h with h1; exact h1.symm
  subst hge
  clear hgz hL
  have zw1 := ew1.size
  have lz := hbz.lt
  obtain ⟨yz_0, yz_1, yz_2, yz_3⟩ := blk4 hbz
  have fz_0 := hbz.frozen 0
  have fz_1 := hbz.frozen 1
  have fz_2 := hbz.frozen 2
  have fz_3 := hbz.frozen 3
  have Zo1 := Lib.hid (Own.setT (Own.setT (Own.setT (Own.setT o1 hbz (by decide) 0 (I x.seg.ts)) (Blk.set_ hbz 0 (I x.seg.ts)) (by decide) 1 (I x.seg.beta)) (Blk.set_ (Blk.set_ hbz 0 (I x.seg.ts)) 1 (I x.seg.beta)) (by decide) 2 (.slice A8 n8 c8)) (Blk.set_ (Blk.set_ (Blk.set_ hbz 0 (I x.seg.ts)) 1 (I x.seg.beta)) 2 (.slice A8 n8 c8)) (by decide) 3 (.slice A5 n5 c5))
  have Zo2 := Lib.hid (Own.setT (Own.setT (Own.setT (Own.setT o2 hbz (by decide) 0 (I x.seg.ts)) (Blk.set_ hbz 0 (I x.seg.ts)) (by decide) 1 (I x.seg.beta)) (Blk.set_ (Blk.set_ hbz 0 (I x.seg.ts)) 1 (I x.seg.beta)) (by decide) 2 (.slice A8 n8 c8)) (Blk.set_ (Blk.set_ (Blk.set_ hbz 0 (I x.seg.ts)) 1 (I x.seg.beta)) 2 (.slice A8 n8 c8)) (by decide) 3 (.slice A5 n5 c5))
  have bx := Bx.out.ext (w' := w1) xe
  have lx := bx.lt
  obtain ⟨px_0, px_1, px_2, px_3⟩ := blk4 bx
  clear bx
  have BW := Lib.hid (Blk.set_ (Blk.set_ (Blk.set_ (Blk.set_ hbz 0 (I x.seg.ts)) 1 (I x.seg.beta)) 2 (.slice A8 n8 c8)) 3 (.slice A5 n5 c5))
  clear hbz o1 o2
  simp only [List.drop_succ_cons, List.drop_zero]
  go_wp2_with fail
  clear yz_0 fz_0 yz_1 fz_1 yz_2 fz_2 yz_3 fz_3
  first | refine name_wp ?_ ?_ ?_ | refine name_calls ?_ ?_ ?_
  exact (fun W => Ext w0 W ∧ w1.heap.size = W.heap.size ∧ Blk W gz 106 [I x.seg.ts, I x.seg.beta, .slice A8 n8 c8, .slice A5 n5 c5] ∧ Own 117 5 w0.heap.size W.heap.size W (.slice A8 n8 c8) x.seg.hops.length (x.seg.hops.flatMap HopC) ∧ Own 3 1 w0.heap.size W.heap.size W (.slice A5 n5 c5) x.sigs.length (x.sigs.map I))
  exact ⟨xe, (by simp only [World.size_setCell]), (by simpa using BW.out), (by (try simp only [World.size_setCell]); exact Zo1.out), (by (try simp only [World.size_setCell]); exact Zo2.out)⟩
  clear BW Zo1 Zo2
  rintro w2 ⟨ew2, zw2, bz, o1, o2⟩
  have BZ := Lib.hid bz; clear bz
  have Ho1 := Lib.hid o1; clear o1
  have Ho2 := Lib.hid o2; clear o2
  have hn8 : n8 = x.seg.hops.length := by
    rcases Ho1.out.cases with ⟨e, h0, _⟩ | ⟨g, cap, rest, e, _⟩
    · cases e; omega
    · cases e; rfl
  have hn5 : n5 = x.sigs.length := by
    rcases Ho2.out.cases with ⟨e, h0, _⟩ | ⟨g, cap, rest, e, _⟩
    · cases e; omega
    · cases e; rfl
  have hm8 : n8 ≤ c8 := by
    rcases Ho1.out.cases with ⟨e, h0, _⟩ | ⟨g, cap, rest, e, _, _, _, _, hc, _⟩
    · cases e; omega
    · cases e; exact hc
  have hm5 : n5 ≤ c5 := by
    rcases Ho2.out.cases with ⟨e, h0, _⟩ | ⟨g, cap, rest, e, _, _, _, _, hc, _⟩
    · cases e; omega
    · cases e; exact hc
  subst hn8 hn5
  refine (spec_Min _ _ _).mono ?_
  rintro e w3 ⟨rfl, rfl⟩
  go_wp2_with fail
  refine (spec_l1In _ _ _ _).mono ?_
  rintro e w3 ⟨rfl, rfl⟩
  have hcond : inR i 0 (minI x.seg.hops.length x.sigs.length) = (inR i 0 x.seg.hops.length && decide (i ≤ x.sigs.length)) := by
    rw [Bool.eq_iff_iff, Bool.and_eq_true, inR_iff, inR_iff, decide_eq_true_iff]
    unfold minI
    split <;> omega
  rw [hcond]
  cases hv : (inR i 0 x.seg.hops.length && decide (i ≤ x.sigs.length))
  · have HF : Hid (truncSigned x i = x) := by unfold Hid truncSigned; rw [hv]; rfl
    clear hcond
    have br := BR.out.ext (w' := w2) xe
    have lbr := br.lt
    obtain ⟨qbr_0, qbr_1, qbr_2, qbr_3⟩ := blk4 br
    have fbr_0 := br.frozen 0
    have fbr_1 := br.frozen 1
    have fbr_2 := br.frozen 2
    have fbr_3 := br.frozen 3
    clear br
    have bz := BZ.out.ext (w' := w2) xe
    have lbz := bz.lt
    obtain ⟨qbz_0, qbz_1, qbz_2, qbz_3⟩ := blk4 bz
    have fbz_0 := bz.frozen 0
    have fbz_1 := bz.frozen 1
    have fbz_2 := bz.frozen 2
    have fbz_3 := bz.frozen 3
    clear bz
    go_wp2_with fail
    refine bodyPost_ret (v := .agg #[I x.seg.ts, I x.seg.beta, .slice A8 x.seg.hops.length c8, .slice A5 x.sigs.length c5]) (by simp [results, Try.results85, go_sem, *]) rfl ⟨_, rfl, ?_, ?_⟩
    · rw [HF.out]
      simp only [World.size_setCell]
      refine ⟨_, _, _, _, _, _, rfl, Own.sl (At := HopAt) (E := 117) (n := x.seg.hops.length) (lo := w0.heap.size) (hi := w2.heap.size) (by repeat (first | (with_reducible exact Ho1.out) | (with_reducible refine Own.alloc ?_ _) | (with_reducible refine Own.setCell (p := _) ?_ (.inl ?ge) _; case ge => (first | omega | (dsimp only; omega) | (simp only [World.size_setCell]; omega) | (simp only [World.size_alloc]; omega))) | (with_reducible refine Own.ext ?_ (by with_reducible assumption) ?ge; case ge => (first | omega | (dsimp only; omega) | (simp only [World.size_setCell]; omega) | (simp only [World.size_alloc]; omega))))) HopC.len (by omega) HopC.at_, Own.ints (E := 3) (n := x.sigs.length) (lo := w0.heap.size) (hi := w2.heap.size) (by repeat (first | (with_reducible exact Ho2.out) | (with_reducible refine Own.alloc ?_ _) | (with_reducible refine Own.setCell (p := _) ?_ (.inl ?ge) _; case ge => (first | omega | (dsimp only; omega) | (simp only [World.size_setCell]; omega) | (simp only [World.size_alloc]; omega))) | (with_reducible refine Own.ext ?_ (by with_reducible assumption) ?ge; case ge => (first | omega | (dsimp only; omega) | (simp only [World.size_setCell]; omega) | (simp only [World.size_alloc]; omega)))))⟩
    · exact xe
  · rw [Bool.and_eq_true] at hv
    obtain ⟨j0, j1⟩ := inR_iff.1 hv.1
    have j2 := of_decide_eq_true hv.2
    obtain ⟨k, rfl⟩ := Int.eq_ofNat_of_zero_le j0
    have HF : Hid (truncSigned x k = ⟨⟨x.seg.ts, x.seg.beta, x.seg.hops.take k⟩, x.sigs.take k⟩) := by unfold Hid truncSigned; rw [hv.1, hv.2, Int.toNat_natCast]; rfl
    clear hv hcond
    have k8 : (k : Int) ≤ (c8 : Int) := by omega
    have k5 : (k : Int) ≤ (c5 : Int) := by omega
    have br := BR.out.ext (w' := w2) xe
    have lbr := br.lt
    obtain ⟨qbr_0, qbr_1, qbr_2, qbr_3⟩ := blk4 br
    have fbr_0 := br.frozen 0
    have fbr_1 := br.frozen 1
    have fbr_2 := br.frozen 2
    have fbr_3 := br.frozen 3
    clear br
    have bz := BZ.out.ext (w' := w2) xe
    have lbz := bz.lt
    obtain ⟨qbz_0, qbz_1, qbz_2, qbz_3⟩ := blk4 bz
    have fbz_0 := bz.frozen 0
    have fbz_1 := bz.frozen 1
    have fbz_2 := bz.frozen 2
    have fbz_3 := bz.frozen 3
    clear bz
    go_wp2_with fail
    have O3 := Lib.hid ((Own.setT (Own.setT Ho1.out BZ.out (by decide) 2 (.slice A8 k c8)) (BZ.out.set_ 2 (.slice A8 k c8)) (by decide) 3 (.slice A5 k c5)).takeHops (k := k) (by omega))
    have O4 := Lib.hid ((Own.setT (Own.setT Ho2.out BZ.out (by decide) 2 (.slice A8 k c8)) (BZ.out.set_ 2 (.slice A8 k c8)) (by decide) 3 (.slice A5 k c5)).takeInts (k := k) (by omega))
    refine bodyPost_ret (v := .agg #[I x.seg.ts, I x.seg.beta, .slice A8 k c8, .slice A5 k c5]) (by simp [results, Try.results85, go_sem, *]) rfl ⟨_, rfl, ?_, ?_⟩
    · rw [HF.out]
      simp only [World.size_setCell]
      refine ⟨_, _, _, _, _, _, rfl, Own.sl (At := HopAt) (E := 117) (n := (x.seg.hops.take k).length) (lo := w0.heap.size) (hi := w2.heap.size) (by dsimp only; exact (by repeat (first | (with_reducible exact O3.out) | (with_reducible refine Own.alloc ?_ _) | (with_reducible refine Own.setCell (p := _) ?_ (.inl ?ge) _; case ge => (first | omega | (dsimp only; omega) | (simp only [World.size_setCell]; omega) | (simp only [World.size_alloc]; omega))) | (with_reducible refine Own.ext ?_ (by with_reducible assumption) ?ge; case ge => (first | omega | (dsimp only; omega) | (simp only [World.size_setCell]; omega) | (simp only [World.size_alloc]; omega)))))) HopC.len (by omega) HopC.at_, Own.ints (E := 3) (n := (x.sigs.take k).length) (lo := w0.heap.size) (hi := w2.heap.size) (by dsimp only; exact (by repeat (first | (with_reducible exact O4.out) | (with_reducible refine Own.alloc ?_ _) | (with_reducible refine Own.setCell (p := _) ?_ (.inl ?ge) _; case ge => (first | omega | (dsimp only; omega) | (simp only [World.size_setCell]; omega) | (simp only [World.size_alloc]; omega))) | (with_reducible refine Own.ext ?_ (by with_reducible assumption) ?ge; case ge => (first | omega | (dsimp only; omega) | (simp only [World.size_setCell]; omega) | (simp only [World.size_alloc]; omega))))))⟩
    · exact xe
end Go.Proofs.Ytmlfnfflpacchaa
