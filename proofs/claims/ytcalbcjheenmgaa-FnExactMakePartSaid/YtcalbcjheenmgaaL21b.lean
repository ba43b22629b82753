/- Contracts of the program's and the reference's functions on path parts: MakePart. -/
import Derived.Test.YtcalbcjheenmgaaL21
import Derived.Test.YtcalbcjheenmgaaL10b
import Derived.Test.YtcalbcjheenmgaaPushD
import Derived.Test.YtcalbcjheenmgaaTyped
import Derived.Test.YtcalbcjheenmgaaPushE
namespace Go.Proofs.Ytcalbcjheenmgaa
open Go.RowKit
set_option linter.unusedVariables false
theorem HopS.drop {B : Nat} {w : World} {b off n c k : Nat} {ds : List DHop} (h : HopS B w (.slice (some ⟨b, off, none⟩) n c) ds) (hk : k < n) : HopS B w (.slice (some ⟨b, off + k * 5, none⟩) (n - k) (c - k)) (ds.drop k) := by
  obtain ⟨A, n', c', e, hl, hn, hc, hr⟩ := h
  cases e
  obtain ⟨b', off', e, hb, hat⟩ := hr (by omega)
  cases e
  refine ⟨_, _, _, rfl, by rw [List.length_drop, hl], by omega, by omega, fun _ => ⟨b, _, rfl, hb, fun j hj => ?_⟩⟩
  rw [List.length_drop] at hj
  have := hat (k + j) (by omega)
  rw [List.getElem_drop]
  have e : off + k * 5 + j * 5 = off + (k + j) * 5 := by omega
  show HopAt B w b (off + k * 5 + j * 5) _
  rw [e]
  exact this
/-- The hops from the end down to number k. -/
def revTo (l : List DHop) (k : Nat) : List DHop := (l.drop k).reverse
theorem revTo_snoc (l : List DHop) (k : Nat) (h : k < l.length) : revTo l k = revTo l (k + 1) ++ [l[k]] := by
  unfold revTo
  rw [List.drop_eq_getElem_cons h, List.reverse_cons]
theorem revTo_len (l : List DHop) (k : Nat) : (revTo l k).length = l.length - k := by simp [revTo]
def makePart (s : DSegment) (kind from_ : Int) : DPathPart :=
  if inR from_ 0 (s.hops.length - 1) && inR kind 1 4 then (if isRev kind then ⟨kind, s.ts, betaAt s s.hops.length, revTo s.hops from_.toNat⟩ else ⟨kind, s.ts, betaAt s from_, s.hops.drop from_.toNat⟩) else ⟨0, 0, 0, []⟩
theorem makePart_len (s : DSegment) (kind from_ : Int) : (makePart s kind from_).hops.length ≤ s.hops.length := by
  unfold makePart
  split
  · split
    · simp [revTo]
    · simp
  · simp
set_option maxRecDepth 100000 in
set_option maxHeartbeats 1000000 in
theorem impl_reversedHops (vl : Value) (l : List DHop) (w : World) (hl : HopS w.heap.size w vl l) (hn : l.length ≤ 100000000) :
    Calls Try.prog 71 #[vl] w fun e w' => ∃ v', e = .returned v' ∧ HopSO w.heap.size w'.heap.size w' v' l.reverse ∧ Ext w w' := by
  obtain ⟨Al, nl, cl, rfl, ll, kl, ml, -⟩ := id hl
  subst ll
  unfold maxLen at ml
  have Rl := Lib.hid hl; clear hl
  go_enter Try.func71, Try.ntmps71
  go_wp2_with fail
  go_loopw [3, 4] (fun v i wr => ∃ k : Nat, k ≤ l.length ∧ i = I ((k : Int) - 1) ∧ HopSO w.heap.size wr.heap.size wr v (revTo l k) ∧ Ext w wr) (fun _ i _ => ((intOf i) + 1).toNat)
  case atStart => exact ⟨l.length, by omega, rfl, by unfold revTo; rw [List.drop_length]; exact Own.nil _ _ _ _ _, (by repeat (first | (with_reducible exact Ext.refl _) | (with_reducible assumption) | (with_reducible refine Ext.alloc ?_ _) | (with_reducible refine Ext.drew ?_) | (with_reducible refine Ext.drewN ?_ _) | (with_reducible refine Ext.setCell (p := _) ?_ ?ge _; case ge => (dsimp only; omega)) | (with_reducible refine Ext.trans ?_ (by with_reducible assumption))))⟩
  case round =>
    obtain ⟨k, hk, rfl, ho, he⟩ := hrel
    have HO := Lib.hid ho; clear ho
    rcases Nat.eq_zero_or_pos k with h0 | h0
    · subst h0
      go_wp2_with fail
      go_ret
      exact ⟨_, rfl, by have h := HO.out; unfold revTo at h; rw [List.drop_zero] at h; exact h, he⟩
    · obtain ⟨m, rfl⟩ : ∃ m, k = m + 1 := ⟨k - 1, by omega⟩
      have hlt : m < l.length := by omega
      obtain ⟨b, off, rfl, hb, hkl, hc⟩ := (Rl.out.ext (w' := wr) (by repeat (first | (with_reducible exact Ext.refl _) | (with_reducible assumption) | (with_reducible refine Ext.alloc ?_ _) | (with_reducible refine Ext.drew ?_) | (with_reducible refine Ext.drewN ?_ _) | (with_reducible refine Ext.setCell (p := _) ?_ ?ge _; case ge => (dsimp only; omega)) | (with_reducible refine Ext.trans ?_ (by with_reducible assumption))))).at_ hlt
      have HX := Lib.hid (revTo_snoc l m hkl)
      have hml : (revTo l (m + 1)).length ≤ l.length := by rw [revTo_len]; omega
      generalize l[m] = x at *
      generalize revTo l (m + 1) = sl at *
      obtain ⟨h0, h1, h2, h3, h4⟩ := hc
      have em : ((m + 1 : Nat) : Int) - 1 = (m : Int) := by omega
      rw [em]
      have i0 : (0 : Int) ≤ (m : Int) := by omega
      go_wp2_with (at_builtin; refine hold ?_)
      refine unhold (wpList_app w rfl (.tmp 12) (.tmp 17) _ rfl 117 _ 5 40 Try.underlying26 info_Hop rfl (by omega) _ sl.length (sl.flatMap HopC) rfl _ 1 1 (HopC x) rfl
        (by exact (HO.out.alloc _).lt_size) (row_newN _ _ _ _ _ _ (by first | rfl | simp) rfl) (by simpa using one_Hop [x]) (by repeat (first | (with_reducible exact Ext.refl _) | (with_reducible assumption) | (with_reducible refine Ext.alloc ?_ _) | (with_reducible refine Ext.drew ?_) | (with_reducible refine Ext.drewN ?_ _) | (with_reducible refine Ext.setCell (p := _) ?_ ?ge _; case ge => (dsimp only; omega)) | (with_reducible refine Ext.trans ?_ (by with_reducible assumption)))) (by unfold maxLen; omega) (by omega) ?_)
      intro v1 w1 ho1 he1 _ _
      have O1 := Lib.hid ho1; clear ho1
      go_wp2_with (at_builtin; refine hold ?_)
      go_roundw
      case rel => exact ⟨m, by omega, by go_num, by rw [HX.out]; unfold HopSO; simpa using O1.out, he1⟩
      case measure => simp [intOf]
set_option maxRecDepth 100000 in
set_option maxHeartbeats 1000000 in
theorem impl_MakePart (vs : Value) (kind from_ : Int) (s : DSegment) (w : World) (hs : SegmentV w.heap.size w vs s) (hn : s.hops.length ≤ 100000000) :
    Calls Try.prog 14 #[vs, I kind, I from_] w fun e w' => ∃ v', e = .returned v' ∧ PathPartO w.heap.size w'.heap.size w' v' (makePart s kind from_) ∧ Ext w w' := by
  obtain ⟨As_2, ns_2, cs_2, rfl, ss_2⟩ := id hs
  obtain ⟨ls_2, ks_2, ms_2⟩ := ss_2.len
  subst ls_2
  unfold maxLen at ms_2
  have Rs := Lib.hid hs; clear hs
  have Ss_2 := Lib.hid ss_2; clear ss_2
  go_enter Try.func14, Try.ntmps14
  go_wp2_with fail
  refine name_calls (fun W => Ext w W ∧ Blk W w.heap.size 31 [I s.ts, I s.beta, .slice As_2 s.hops.length cs_2] ∧ Blk W (w.heap.size + 1) 28 [I 0, I 0, I 0, .slice none 0 0]) ⟨(by repeat (first | (with_reducible exact Ext.refl _) | (with_reducible assumption) | (with_reducible refine Ext.alloc ?_ _) | (with_reducible refine Ext.drew ?_) | (with_reducible refine Ext.drewN ?_ _) | (with_reducible refine Ext.setCell (p := _) ?_ ?ge _; case ge => (dsimp only; omega)) | (with_reducible refine Ext.trans ?_ (by with_reducible assumption)))), (by repeat (first | (with_reducible exact Blk.new _ _ _) | ((with_reducible refine Blk.new' _ _ _ _ ?_) <;> (simp; done)) | (with_reducible refine Blk.alloc ?_ _) | (with_reducible refine Blk.drew ?_))), (by repeat (first | (with_reducible exact Blk.new _ _ _) | ((with_reducible refine Blk.new' _ _ _ _ ?_) <;> (simp; done)) | (with_reducible refine Blk.alloc ?_ _) | (with_reducible refine Blk.drew ?_)))⟩ ?_
  rintro w0 ⟨ew0, bs, br⟩
  have Bs := Lib.hid bs; have BR := Lib.hid br; clear bs br
  have zw0 : w.heap.size + 1 < w0.heap.size := BR.out.lt
  refine (impl_InRange _ _ _ _).mono ?_
  rintro e w1 ⟨rfl, rfl⟩
  cases hr1 : inR from_ 0 (s.hops.length - 1)
  · have HF : Hid (makePart s kind from_ = ⟨0, 0, 0, []⟩) := by unfold Hid makePart; rw [hr1]; rfl
    have br := BR.out.ext (w' := w0) (by repeat (first | (with_reducible exact Ext.refl _) | (with_reducible assumption) | (with_reducible refine Ext.alloc ?_ _) | (with_reducible refine Ext.drew ?_) | (with_reducible refine Ext.drewN ?_ _) | (with_reducible refine Ext.setCell (p := _) ?_ ?ge _; case ge => (dsimp only; omega)) | (with_reducible refine Ext.trans ?_ (by with_reducible assumption))))
    have lbr := br.lt
    obtain ⟨qbr_0, qbr_1, qbr_2, qbr_3⟩ := blk4 br
    have fbr_0 := br.frozen 0
    have fbr_1 := br.frozen 1
    have fbr_2 := br.frozen 2
    have fbr_3 := br.frozen 3
    clear br
    go_wp2_with fail
    refine bodyPost_ret (v := .agg #[I 0, I 0, I 0, .slice none 0 0]) (by simp [results, Try.results14, go_sem, *]) rfl ⟨_, rfl, ?_, ?_⟩
    · rw [HF.out]
      simp only [World.size_setCell]
      exact ⟨_, rfl, Own.nil _ _ _ _ _, by omega⟩
    · exact (by repeat (first | (with_reducible exact Ext.refl _) | (with_reducible assumption) | (with_reducible refine Ext.alloc ?_ _) | (with_reducible refine Ext.drew ?_) | (with_reducible refine Ext.drewN ?_ _) | (with_reducible refine Ext.setCell (p := _) ?_ ?ge _; case ge => (dsimp only; omega)) | (with_reducible refine Ext.trans ?_ (by with_reducible assumption))))
  have H1 := Lib.hid hr1
  obtain ⟨j0, j1⟩ := inR_iff.1 hr1
  clear hr1
  obtain ⟨k, rfl⟩ := Int.eq_ofNat_of_zero_le j0
  have hkl : k < s.hops.length := by omega
  go_wp2_with fail
  refine (impl_InRange _ _ _ _).mono ?_
  rintro e w1 ⟨rfl, rfl⟩
  cases hr2 : inR kind 1 4
  · have HF : Hid (makePart s kind k = ⟨0, 0, 0, []⟩) := by unfold Hid makePart; rw [hr2, Bool.and_false]; rfl
    have br := BR.out.ext (w' := w0) (by repeat (first | (with_reducible exact Ext.refl _) | (with_reducible assumption) | (with_reducible refine Ext.alloc ?_ _) | (with_reducible refine Ext.drew ?_) | (with_reducible refine Ext.drewN ?_ _) | (with_reducible refine Ext.setCell (p := _) ?_ ?ge _; case ge => (dsimp only; omega)) | (with_reducible refine Ext.trans ?_ (by with_reducible assumption))))
    have lbr := br.lt
    obtain ⟨qbr_0, qbr_1, qbr_2, qbr_3⟩ := blk4 br
    have fbr_0 := br.frozen 0
    have fbr_1 := br.frozen 1
    have fbr_2 := br.frozen 2
    have fbr_3 := br.frozen 3
    clear br
    go_wp2_with fail
    refine bodyPost_ret (v := .agg #[I 0, I 0, I 0, .slice none 0 0]) (by simp [results, Try.results14, go_sem, *]) rfl ⟨_, rfl, ?_, ?_⟩
    · rw [HF.out]
      simp only [World.size_setCell]
      exact ⟨_, rfl, Own.nil _ _ _ _ _, by omega⟩
    · exact (by repeat (first | (with_reducible exact Ext.refl _) | (with_reducible assumption) | (with_reducible refine Ext.alloc ?_ _) | (with_reducible refine Ext.drew ?_) | (with_reducible refine Ext.drewN ?_ _) | (with_reducible refine Ext.setCell (p := _) ?_ ?ge _; case ge => (dsimp only; omega)) | (with_reducible refine Ext.trans ?_ (by with_reducible assumption))))
  have HF : Hid (makePart s kind k = if isRev kind then ⟨kind, s.ts, betaAt s s.hops.length, revTo s.hops k⟩ else ⟨kind, s.ts, betaAt s k, s.hops.drop k⟩) := by unfold Hid makePart; rw [H1.out, hr2, Int.toNat_natCast]; rfl
  clear hr2
  obtain ⟨b, off, rfl, hb, -, -⟩ := (Ss_2.out).at_ hkl
  have hkc : (k : Int) ≤ (s.hops.length : Int) := by omega
  have bs := Bs.out.ext (w' := w0) (by repeat (first | (with_reducible exact Ext.refl _) | (with_reducible assumption) | (with_reducible refine Ext.alloc ?_ _) | (with_reducible refine Ext.drew ?_) | (with_reducible refine Ext.drewN ?_ _) | (with_reducible refine Ext.setCell (p := _) ?_ ?ge _; case ge => (dsimp only; omega)) | (with_reducible refine Ext.trans ?_ (by with_reducible assumption))))
  have ls := bs.lt
  obtain ⟨ps_0, ps_1, ps_2⟩ := blk3 bs
  clear bs
  go_wp2_with fail
  refine wp_region_LT 13 (E := Ext) (w0 := w0) (G := fun τ => match τ with | 26 => some (fun v _ => v = I (betaAt s k)) | 31 => some (fun v W => HopSO w0.heap.size W.heap.size W v (s.hops.drop k)) | 7 => some (fun v W => Zero1 28 w0.heap.size [I 0, I 0, I 0, .slice none 0 0] v W) | _ => none) Ext.refl (fun h k => Ext.trans h k) (by kernel_rfl) (by kernel_rfl) (by kernel_rfl) (by kernel_rfl) (by kernel_rfl) (by kernel_rfl) (by
      intro t φ hG
      split at hG
      all_goals first | (cases hG; done) | (cases Option.some.inj hG; intro v W W' hE hv; first | exact hv | exact IntS.ext hv hE | exact hv.ext hE | exact Own.up hv hE | exact hv.up hE | exact NO.up (by first | exact SegmentOC.keeps | exact TrustRootOC.keeps | exact BeaconOC.keeps | exact BeaconMessageOC.keeps | exact BeaconStoreOC.keeps) hv hE (Nat.le_refl _) | exact ObjUp.up hv hE)) (Ext.drew (by exact Ext.refl _)) ?_
  simp only [List.take_succ_cons, List.take_zero]
  repeat' (first
    | ((with_reducible refine wpL_skip ?_ ?_ ?_)
       · rfl
       · rfl
       simp only [Act.put, List.setIfInBounds_toArray, List.set_cons_zero, List.set_cons_succ])
    | ((with_reducible refine wpL_quiet ?_ ?_ ?_ ?_)
       · rfl
       · rfl
       · rfl
       apply Exists.intro
       refine ⟨fun W hW hS => ?_, ?_⟩
       · have hC := (Ext.facts hW).1
         go_simp
         first | done | (with_reducible rfl) | rfl
       first | (with_reducible refine wpL_boolT ?_) | (with_reducible refine wpL_boolF ?_) | (with_reducible refine wpL_bool (fun hB => ?_) (fun hB => ?_)) | skip
       all_goals simp only [Act.put, List.setIfInBounds_toArray, List.set_cons_zero, List.set_cons_succ])
    | ((refine wpL_call ?_ rfl rfl ?_ ?_ ?_)
       · rfl
       · rfl
       · intro W hW hS
         have hC := (Ext.facts hW).1
         unfold growAt
         go_simp
         simp only [growUpon]
         first | (go_at_call 68; ((with_reducible refine Calls.mono (impl_BetaAt _ _ (s) _ (by exact Rs.out.ext (by repeat (first | (with_reducible exact Ext.refl _) | (with_reducible assumption) | (with_reducible refine Ext.alloc ?_ _) | (with_reducible refine Ext.drew ?_) | (with_reducible refine Ext.drewN ?_ _) | (with_reducible refine Ext.setCell (p := _) ?_ ?ge _; case ge => (dsimp only; omega)) | (with_reducible refine Ext.trans ?_ (by with_reducible assumption))))) (by first | omega | (simp [rootData]; done) | (simp [certData]; done) | (simp only [List.length_cons, List.length_nil]; omega))) ?_)); rintro e w9 ⟨rfl, e9⟩; exact ⟨_, rfl, e9, by first | rfl | (simp only [*])⟩) | (go_at_call 69; (try rw [if_neg (by omega)]); (with_reducible refine Calls.mono (impl_copyHops _ (s.hops.drop k) _ (by exact (Ss_2.out.ext (by repeat (first | (with_reducible exact Ext.refl _) | (with_reducible assumption) | (with_reducible refine Ext.alloc ?_ _) | (with_reducible refine Ext.drew ?_) | (with_reducible refine Ext.drewN ?_ _) | (with_reducible refine Ext.setCell (p := _) ?_ ?ge _; case ge => (dsimp only; omega)) | (with_reducible refine Ext.trans ?_ (by with_reducible assumption))))).drop hkl) (by rw [List.length_drop]; omega)) ?_); rintro e w9 ⟨v9, rfl, o9, e9⟩; exact ⟨_, rfl, e9, Own.more o9 (Ext.size hW) (Nat.le_refl _)⟩) | (exact ⟨(by repeat (first | (with_reducible exact Ext.refl _) | (with_reducible assumption) | (with_reducible refine Ext.alloc ?_ _) | (with_reducible refine Ext.drew ?_) | (with_reducible refine Ext.drewN ?_ _) | (with_reducible refine Ext.setCell (p := _) ?_ ?ge _; case ge => (dsimp only; omega)) | (with_reducible refine Ext.trans ?_ (by with_reducible assumption)))), _, rfl, Ext.size (by assumption), Blk.new _ _ _⟩)
       first | (with_reducible refine wpL_boolT ?_) | (with_reducible refine wpL_boolF ?_) | (with_reducible refine wpL_bool (fun hB => ?_) (fun hB => ?_)) | skip
       all_goals simp only [Act.put, List.setIfInBounds_toArray, List.set_cons_zero, List.set_cons_succ])
    | ((refine wpL_grow ?_ rfl rfl ?_ ?_)
       · rfl
       · intro W hW hS
         have hC := (Ext.facts hW).1
         unfold growAt
         go_simp
         simp only [growUpon]
         first | (go_at_call 68; ((with_reducible refine Calls.mono (impl_BetaAt _ _ (s) _ (by exact Rs.out.ext (by repeat (first | (with_reducible exact Ext.refl _) | (with_reducible assumption) | (with_reducible refine Ext.alloc ?_ _) | (with_reducible refine Ext.drew ?_) | (with_reducible refine Ext.drewN ?_ _) | (with_reducible refine Ext.setCell (p := _) ?_ ?ge _; case ge => (dsimp only; omega)) | (with_reducible refine Ext.trans ?_ (by with_reducible assumption))))) (by first | omega | (simp [rootData]; done) | (simp [certData]; done) | (simp only [List.length_cons, List.length_nil]; omega))) ?_)); rintro e w9 ⟨rfl, e9⟩; exact ⟨_, rfl, e9, by first | rfl | (simp only [*])⟩) | (go_at_call 69; (try rw [if_neg (by omega)]); (with_reducible refine Calls.mono (impl_copyHops _ (s.hops.drop k) _ (by exact (Ss_2.out.ext (by repeat (first | (with_reducible exact Ext.refl _) | (with_reducible assumption) | (with_reducible refine Ext.alloc ?_ _) | (with_reducible refine Ext.drew ?_) | (with_reducible refine Ext.drewN ?_ _) | (with_reducible refine Ext.setCell (p := _) ?_ ?ge _; case ge => (dsimp only; omega)) | (with_reducible refine Ext.trans ?_ (by with_reducible assumption))))).drop hkl) (by rw [List.length_drop]; omega)) ?_); rintro e w9 ⟨v9, rfl, o9, e9⟩; exact ⟨_, rfl, e9, Own.more o9 (Ext.size hW) (Nat.le_refl _)⟩) | (exact ⟨(by repeat (first | (with_reducible exact Ext.refl _) | (with_reducible assumption) | (with_reducible refine Ext.alloc ?_ _) | (with_reducible refine Ext.drew ?_) | (with_reducible refine Ext.drewN ?_ _) | (with_reducible refine Ext.setCell (p := _) ?_ ?ge _; case ge => (dsimp only; omega)) | (with_reducible refine Ext.trans ?_ (by with_reducible assumption)))), _, rfl, Ext.size (by assumption), Blk.new _ _ _⟩)
       intro v W' hW' hv
       first | (obtain ⟨A5, n5, c5, rfl⟩ := Own.slice hv) | (obtain ⟨g5, rfl, -⟩ := hv) | (obtain ⟨A5, n5, c5, rfl, -⟩ := id hv; clear hv) | (obtain ⟨A5, n5, c5, rfl⟩ := NO.slice hv) | skip
       all_goals simp only [Act.put, List.setIfInBounds_toArray, List.set_cons_zero, List.set_cons_succ]))
  refine wpL_nil (fun w1 ew1 hL => ?_)
  have o1 : HopSO w0.heap.size w1.heap.size w1 (.slice A5 n5 c5) (s.hops.drop k) := hL 31
  have pz : Zero1 28 w0.heap.size [I 0, I 0, I 0, .slice none 0 0] _ w1 := hL 7
  obtain ⟨gz, hgz, hgl, hbz⟩ := pz
  have hge : gz = g5 := by injection hgz with h; injection h with h; injection h with h1; exact h1.symm
  subst hge
  clear hgz hL
  have zw1 := ew1.size
  have lz := hbz.lt
  obtain ⟨yz_0, yz_1, yz_2, yz_3⟩ := blk4 hbz
  have fz_0 := hbz.frozen 0
  have fz_1 := hbz.frozen 1
  have fz_2 := hbz.frozen 2
  have fz_3 := hbz.frozen 3
  have Zo1 := Lib.hid (Own.setT (Own.setT (Own.setT (Own.setT o1 hbz (by decide) 0 (I kind)) (Blk.set_ hbz 0 (I kind)) (by decide) 1 (I s.ts)) (Blk.set_ (Blk.set_ hbz 0 (I kind)) 1 (I s.ts)) (by decide) 2 (I (betaAt s k))) (Blk.set_ (Blk.set_ (Blk.set_ hbz 0 (I kind)) 1 (I s.ts)) 2 (I (betaAt s k))) (by decide) 3 (.slice A5 n5 c5))
  have BW := Lib.hid (Blk.set_ (Blk.set_ (Blk.set_ (Blk.set_ hbz 0 (I kind)) 1 (I s.ts)) 2 (I (betaAt s k))) 3 (.slice A5 n5 c5))
  clear hbz o1
  simp only [List.drop_succ_cons, List.drop_zero]
  go_wp2_with fail
  clear yz_0 fz_0 yz_1 fz_1 yz_2 fz_2 yz_3 fz_3
  first | refine name_wp (fun W => Ext w0 W ∧ w1.heap.size = W.heap.size ∧ Blk W gz 28 [I kind, I s.ts, I (betaAt s k), .slice A5 n5 c5] ∧ HopSO w0.heap.size W.heap.size W (.slice A5 n5 c5) (s.hops.drop k)) ⟨(by repeat (first | (with_reducible exact Ext.refl _) | (with_reducible assumption) | (with_reducible refine Ext.alloc ?_ _) | (with_reducible refine Ext.drew ?_) | (with_reducible refine Ext.drewN ?_ _) | (with_reducible refine Ext.setCell (p := _) ?_ ?ge _; case ge => (dsimp only; omega)) | (with_reducible refine Ext.trans ?_ (by with_reducible assumption)))), (by simp only [World.size_setCell]), (by simpa using BW.out), (by simp only [World.size_setCell]; exact Zo1.out)⟩ ?_ | refine name_calls (fun W => Ext w0 W ∧ w1.heap.size = W.heap.size ∧ Blk W gz 28 [I kind, I s.ts, I (betaAt s k), .slice A5 n5 c5] ∧ HopSO w0.heap.size W.heap.size W (.slice A5 n5 c5) (s.hops.drop k)) ⟨(by repeat (first | (with_reducible exact Ext.refl _) | (with_reducible assumption) | (with_reducible refine Ext.alloc ?_ _) | (with_reducible refine Ext.drew ?_) | (with_reducible refine Ext.drewN ?_ _) | (with_reducible refine Ext.setCell (p := _) ?_ ?ge _; case ge => (dsimp only; omega)) | (with_reducible refine Ext.trans ?_ (by with_reducible assumption)))), (by simp only [World.size_setCell]), (by simpa using BW.out), (by simp only [World.size_setCell]; exact Zo1.out)⟩ ?_
  clear BW Zo1
  rintro w2 ⟨ew2, zw2, bz, o1⟩
  have BZ := Lib.hid bz; clear bz
  have Ho1 := Lib.hid o1; clear o1
  refine (impl_IsReversed _ _).mono ?_
  rintro e w3 ⟨rfl, rfl⟩
  cases hv : isRev kind
  · have HG : Hid (makePart s kind k = ⟨kind, s.ts, betaAt s k, s.hops.drop k⟩) := by unfold Hid; rw [HF.out, hv]; rfl
    have br := BR.out.ext (w' := w2) (by repeat (first | (with_reducible exact Ext.refl _) | (with_reducible assumption) | (with_reducible refine Ext.alloc ?_ _) | (with_reducible refine Ext.drew ?_) | (with_reducible refine Ext.drewN ?_ _) | (with_reducible refine Ext.setCell (p := _) ?_ ?ge _; case ge => (dsimp only; omega)) | (with_reducible refine Ext.trans ?_ (by with_reducible assumption))))
    have lbr := br.lt
    obtain ⟨qbr_0, qbr_1, qbr_2, qbr_3⟩ := blk4 br
    have fbr_0 := br.frozen 0
    have fbr_1 := br.frozen 1
    have fbr_2 := br.frozen 2
    have fbr_3 := br.frozen 3
    clear br
    have bz := BZ.out.ext (w' := w2) (by repeat (first | (with_reducible exact Ext.refl _) | (with_reducible assumption) | (with_reducible refine Ext.alloc ?_ _) | (with_reducible refine Ext.drew ?_) | (with_reducible refine Ext.drewN ?_ _) | (with_reducible refine Ext.setCell (p := _) ?_ ?ge _; case ge => (dsimp only; omega)) | (with_reducible refine Ext.trans ?_ (by with_reducible assumption))))
    have lbz := bz.lt
    obtain ⟨qbz_0, qbz_1, qbz_2, qbz_3⟩ := blk4 bz
    have fbz_0 := bz.frozen 0
    have fbz_1 := bz.frozen 1
    have fbz_2 := bz.frozen 2
    have fbz_3 := bz.frozen 3
    clear bz
    go_wp2_with fail
    refine bodyPost_ret (v := .agg #[I kind, I s.ts, I (betaAt s k), .slice A5 n5 c5]) (by simp [results, Try.results14, go_sem, *]) rfl ⟨_, rfl, ?_, ?_⟩
    · rw [HG.out]
      simp only [World.size_setCell]
      refine ⟨_, rfl, Own.more (lo := w0.heap.size) (hi := w2.heap.size) (by repeat (first | (with_reducible exact Ho1.out) | (with_reducible refine Own.alloc ?_ _) | (with_reducible refine Own.setCell (p := _) ?_ (.inl ?ge) _; case ge => (first | omega | (dsimp only; omega) | (simp only [World.size_setCell]; omega) | (simp only [World.size_alloc]; omega))) | (with_reducible refine Own.ext ?_ (by with_reducible assumption) ?ge; case ge => (first | omega | (dsimp only; omega) | (simp only [World.size_setCell]; omega) | (simp only [World.size_alloc]; omega))))) (by omega) (by omega), by omega⟩
    · exact (by repeat (first | (with_reducible exact Ext.refl _) | (with_reducible assumption) | (with_reducible refine Ext.alloc ?_ _) | (with_reducible refine Ext.drew ?_) | (with_reducible refine Ext.drewN ?_ _) | (with_reducible refine Ext.setCell (p := _) ?_ ?ge _; case ge => (dsimp only; omega)) | (with_reducible refine Ext.trans ?_ (by with_reducible assumption))))
  · have HG : Hid (makePart s kind k = ⟨kind, s.ts, betaAt s s.hops.length, revTo s.hops k⟩) := by unfold Hid; rw [HF.out, hv]; rfl
    have bs := Bs.out.ext (w' := w2) (by repeat (first | (with_reducible exact Ext.refl _) | (with_reducible assumption) | (with_reducible refine Ext.alloc ?_ _) | (with_reducible refine Ext.drew ?_) | (with_reducible refine Ext.drewN ?_ _) | (with_reducible refine Ext.setCell (p := _) ?_ ?ge _; case ge => (dsimp only; omega)) | (with_reducible refine Ext.trans ?_ (by with_reducible assumption))))
    have ls := bs.lt
    obtain ⟨ps_0, ps_1, ps_2⟩ := blk3 bs
    clear bs
    go_wp2_with fail
    refine (impl_BetaAt _ _ (s) _ (by exact Rs.out.ext (by repeat (first | (with_reducible exact Ext.refl _) | (with_reducible assumption) | (with_reducible refine Ext.alloc ?_ _) | (with_reducible refine Ext.drew ?_) | (with_reducible refine Ext.drewN ?_ _) | (with_reducible refine Ext.setCell (p := _) ?_ ?ge _; case ge => (dsimp only; omega)) | (with_reducible refine Ext.trans ?_ (by with_reducible assumption))))) (by first | omega | (simp [rootData]; done) | (simp [certData]; done) | (simp only [List.length_cons, List.length_nil]; omega))).mono ?_
    rintro e w3 ⟨rfl, ew3⟩
    have bz := BZ.out.ext (w' := w3) (by repeat (first | (with_reducible exact Ext.refl _) | (with_reducible assumption) | (with_reducible refine Ext.alloc ?_ _) | (with_reducible refine Ext.drew ?_) | (with_reducible refine Ext.drewN ?_ _) | (with_reducible refine Ext.setCell (p := _) ?_ ?ge _; case ge => (dsimp only; omega)) | (with_reducible refine Ext.trans ?_ (by with_reducible assumption))))
    have lbz := bz.lt
    obtain ⟨qbz_0, qbz_1, qbz_2, qbz_3⟩ := blk4 bz
    have fbz_0 := bz.frozen 0
    have fbz_1 := bz.frozen 1
    have fbz_2 := bz.frozen 2
    have fbz_3 := bz.frozen 3
    clear bz
    have zw3 := ew3.size
    go_wp2_with fail
    refine name_calls (fun W => Ext w0 W ∧ w3.heap.size = W.heap.size ∧ Blk W gz 28 [I kind, I s.ts, I (betaAt s s.hops.length), .slice A5 n5 c5] ∧ HopSO w0.heap.size W.heap.size W (.slice A5 n5 c5) (s.hops.drop k)) ⟨(by repeat (first | (with_reducible exact Ext.refl _) | (with_reducible assumption) | (with_reducible refine Ext.alloc ?_ _) | (with_reducible refine Ext.drew ?_) | (with_reducible refine Ext.drewN ?_ _) | (with_reducible refine Ext.setCell (p := _) ?_ ?ge _; case ge => (dsimp only; omega)) | (with_reducible refine Ext.trans ?_ (by with_reducible assumption)))), (by simp only [World.size_setCell]), (by simpa using (BZ.out.ext ew3).set_ 2 (I (betaAt s s.hops.length))), (by simp only [World.size_setCell]; exact Own.setT (Own.up Ho1.out ew3) (BZ.out.ext ew3) (by decide) 2 _)⟩ ?_
    rintro w4 ⟨ew4, zw4, b4, o4⟩
    clear lbz qbz_0 qbz_1 qbz_2 qbz_3 fbz_0 fbz_1 fbz_2 fbz_3
    have B4 := Lib.hid b4; have O4 := Lib.hid o4; clear b4 o4
    refine (impl_reversedHops _ (s.hops.drop k) _ (by exact HopSO_rd O4.out) (by rw [List.length_drop]; omega)).mono ?_
    rintro e w5 ⟨v5, rfl, o5, e5⟩
    have O5 := Lib.hid o5; clear o5
    obtain ⟨a6, m6, c6, hv6⟩ := O5.out.slice
    subst hv6
    have z5 := e5.size
    have br := BR.out.ext (w' := w5) (by repeat (first | (with_reducible exact Ext.refl _) | (with_reducible assumption) | (with_reducible refine Ext.alloc ?_ _) | (with_reducible refine Ext.drew ?_) | (with_reducible refine Ext.drewN ?_ _) | (with_reducible refine Ext.setCell (p := _) ?_ ?ge _; case ge => (dsimp only; omega)) | (with_reducible refine Ext.trans ?_ (by with_reducible assumption))))
    have lbr := br.lt
    obtain ⟨qbr_0, qbr_1, qbr_2, qbr_3⟩ := blk4 br
    have fbr_0 := br.frozen 0
    have fbr_1 := br.frozen 1
    have fbr_2 := br.frozen 2
    have fbr_3 := br.frozen 3
    clear br
    have b4 := B4.out.ext (e5)
    have lb4 := b4.lt
    obtain ⟨qb4_0, qb4_1, qb4_2, qb4_3⟩ := blk4 b4
    have fb4_0 := b4.frozen 0
    have fb4_1 := b4.frozen 1
    have fb4_2 := b4.frozen 2
    have fb4_3 := b4.frozen 3
    clear b4
    go_wp2_with fail
    refine bodyPost_ret (v := .agg #[I kind, I s.ts, I (betaAt s s.hops.length), .slice a6 m6 c6]) (by simp [results, Try.results14, go_sem, *]) rfl ⟨_, rfl, ?_, ?_⟩
    · rw [HG.out]
      simp only [World.size_setCell]
      refine ⟨_, rfl, Own.more (lo := w4.heap.size) (hi := w5.heap.size) (by dsimp only; unfold revTo; exact (by repeat (first | (with_reducible exact O5.out) | (with_reducible refine Own.alloc ?_ _) | (with_reducible refine Own.setCell (p := _) ?_ (.inl ?ge) _; case ge => (first | omega | (dsimp only; omega) | (simp only [World.size_setCell]; omega) | (simp only [World.size_alloc]; omega))) | (with_reducible refine Own.ext ?_ (by with_reducible assumption) ?ge; case ge => (first | omega | (dsimp only; omega) | (simp only [World.size_setCell]; omega) | (simp only [World.size_alloc]; omega)))))) (by omega) (by omega), by omega⟩
    · exact (by repeat (first | (with_reducible exact Ext.refl _) | (with_reducible assumption) | (with_reducible refine Ext.alloc ?_ _) | (with_reducible refine Ext.drew ?_) | (with_reducible refine Ext.drewN ?_ _) | (with_reducible refine Ext.setCell (p := _) ?_ ?ge _; case ge => (dsimp only; omega)) | (with_reducible refine Ext.trans ?_ (by with_reducible assumption))))
set_option maxRecDepth 100000 in
set_option maxHeartbeats 1000000 in
theorem spec_MakePart (vs : Value) (kind from_ : Int) (s : DSegment) (w : World) (hs : SegmentV w.heap.size w vs s) (hn : s.hops.length ≤ 100000000) :
    Calls Try.prog 12 #[vs, I kind, I from_] w fun e w' => ∃ v', e = .returned v' ∧ PathPartO w.heap.size w'.heap.size w' v' (makePart s kind from_) ∧ Ext w w' := by
  obtain ⟨As_2, ns_2, cs_2, rfl, ss_2⟩ := id hs
  obtain ⟨ls_2, ks_2, ms_2⟩ := ss_2.len
  subst ls_2
  unfold maxLen at ms_2
  have Rs := Lib.hid hs; clear hs
  have Ss_2 := Lib.hid ss_2; clear ss_2
  go_enter Try.func12, Try.ntmps12
  go_wp2_with fail
  refine name_calls (fun W => Ext w W ∧ Blk W w.heap.size 31 [I s.ts, I s.beta, .slice As_2 s.hops.length cs_2] ∧ Blk W (w.heap.size + 1) 28 [I 0, I 0, I 0, .slice none 0 0]) ⟨(by repeat (first | (with_reducible exact Ext.refl _) | (with_reducible assumption) | (with_reducible refine Ext.alloc ?_ _) | (with_reducible refine Ext.drew ?_) | (with_reducible refine Ext.drewN ?_ _) | (with_reducible refine Ext.setCell (p := _) ?_ ?ge _; case ge => (dsimp only; omega)) | (with_reducible refine Ext.trans ?_ (by with_reducible assumption)))), (by repeat (first | (with_reducible exact Blk.new _ _ _) | ((with_reducible refine Blk.new' _ _ _ _ ?_) <;> (simp; done)) | (with_reducible refine Blk.alloc ?_ _) | (with_reducible refine Blk.drew ?_))), (by repeat (first | (with_reducible exact Blk.new _ _ _) | ((with_reducible refine Blk.new' _ _ _ _ ?_) <;> (simp; done)) | (with_reducible refine Blk.alloc ?_ _) | (with_reducible refine Blk.drew ?_)))⟩ ?_
  rintro w0 ⟨ew0, bs, br⟩
  have Bs := Lib.hid bs; have BR := Lib.hid br; clear bs br
  have zw0 : w.heap.size + 1 < w0.heap.size := BR.out.lt
  refine (spec_l1In _ _ _ _).mono ?_
  rintro e w1 ⟨rfl, rfl⟩
  cases hr1 : inR from_ 0 (s.hops.length - 1)
  · have HF : Hid (makePart s kind from_ = ⟨0, 0, 0, []⟩) := by unfold Hid makePart; rw [hr1]; rfl
    have br := BR.out.ext (w' := w0) (by repeat (first | (with_reducible exact Ext.refl _) | (with_reducible assumption) | (with_reducible refine Ext.alloc ?_ _) | (with_reducible refine Ext.drew ?_) | (with_reducible refine Ext.drewN ?_ _) | (with_reducible refine Ext.setCell (p := _) ?_ ?ge _; case ge => (dsimp only; omega)) | (with_reducible refine Ext.trans ?_ (by with_reducible assumption))))
    have lbr := br.lt
    obtain ⟨qbr_0, qbr_1, qbr_2, qbr_3⟩ := blk4 br
    have fbr_0 := br.frozen 0
    have fbr_1 := br.frozen 1
    have fbr_2 := br.frozen 2
    have fbr_3 := br.frozen 3
    clear br
    go_wp2_with fail
    refine bodyPost_ret (v := .agg #[I 0, I 0, I 0, .slice none 0 0]) (by simp [results, Try.results12, go_sem, *]) rfl ⟨_, rfl, ?_, ?_⟩
    · rw [HF.out]
      simp only [World.size_setCell]
      exact ⟨_, rfl, Own.nil _ _ _ _ _, by omega⟩
    · exact (by repeat (first | (with_reducible exact Ext.refl _) | (with_reducible assumption) | (with_reducible refine Ext.alloc ?_ _) | (with_reducible refine Ext.drew ?_) | (with_reducible refine Ext.drewN ?_ _) | (with_reducible refine Ext.setCell (p := _) ?_ ?ge _; case ge => (dsimp only; omega)) | (with_reducible refine Ext.trans ?_ (by with_reducible assumption))))
  have H1 := Lib.hid hr1
  obtain ⟨j0, j1⟩ := inR_iff.1 hr1
  clear hr1
  obtain ⟨k, rfl⟩ := Int.eq_ofNat_of_zero_le j0
  have hkl : k < s.hops.length := by omega
  go_wp2_with fail
  refine (spec_l1In _ _ _ _).mono ?_
  rintro e w1 ⟨rfl, rfl⟩
  cases hr2 : inR kind 1 4
  · have HF : Hid (makePart s kind k = ⟨0, 0, 0, []⟩) := by unfold Hid makePart; rw [hr2, Bool.and_false]; rfl
    have br := BR.out.ext (w' := w0) (by repeat (first | (with_reducible exact Ext.refl _) | (with_reducible assumption) | (with_reducible refine Ext.alloc ?_ _) | (with_reducible refine Ext.drew ?_) | (with_reducible refine Ext.drewN ?_ _) | (with_reducible refine Ext.setCell (p := _) ?_ ?ge _; case ge => (dsimp only; omega)) | (with_reducible refine Ext.trans ?_ (by with_reducible assumption))))
    have lbr := br.lt
    obtain ⟨qbr_0, qbr_1, qbr_2, qbr_3⟩ := blk4 br
    have fbr_0 := br.frozen 0
    have fbr_1 := br.frozen 1
    have fbr_2 := br.frozen 2
    have fbr_3 := br.frozen 3
    clear br
    go_wp2_with fail
    refine bodyPost_ret (v := .agg #[I 0, I 0, I 0, .slice none 0 0]) (by simp [results, Try.results12, go_sem, *]) rfl ⟨_, rfl, ?_, ?_⟩
    · rw [HF.out]
      simp only [World.size_setCell]
      exact ⟨_, rfl, Own.nil _ _ _ _ _, by omega⟩
    · exact (by repeat (first | (with_reducible exact Ext.refl _) | (with_reducible assumption) | (with_reducible refine Ext.alloc ?_ _) | (with_reducible refine Ext.drew ?_) | (with_reducible refine Ext.drewN ?_ _) | (with_reducible refine Ext.setCell (p := _) ?_ ?ge _; case ge => (dsimp only; omega)) | (with_reducible refine Ext.trans ?_ (by with_reducible assumption))))
  have HF : Hid (makePart s kind k = if isRev kind then ⟨kind, s.ts, betaAt s s.hops.length, revTo s.hops k⟩ else ⟨kind, s.ts, betaAt s k, s.hops.drop k⟩) := by unfold Hid makePart; rw [H1.out, hr2, Int.toNat_natCast]; rfl
  clear hr2
  obtain ⟨b, off, rfl, hb, -, -⟩ := (Ss_2.out).at_ hkl
  have hkc : (k : Int) ≤ (s.hops.length : Int) := by omega
  have bs := Bs.out.ext (w' := w0) (by repeat (first | (with_reducible exact Ext.refl _) | (with_reducible assumption) | (with_reducible refine Ext.alloc ?_ _) | (with_reducible refine Ext.drew ?_) | (with_reducible refine Ext.drewN ?_ _) | (with_reducible refine Ext.setCell (p := _) ?_ ?ge _; case ge => (dsimp only; omega)) | (with_reducible refine Ext.trans ?_ (by with_reducible assumption))))
  have ls := bs.lt
  obtain ⟨ps_0, ps_1, ps_2⟩ := blk3 bs
  clear bs
  go_wp2_with fail
  refine wp_region_LT 8 (E := Ext) (w0 := w0) (G := fun τ => match τ with | 27 => some (fun v _ => v = I (betaAt s k)) | 7 => some (fun v W => Zero1 28 w0.heap.size [I 0, I 0, I 0, .slice none 0 0] v W) | _ => none) Ext.refl (fun h k => Ext.trans h k) (by kernel_rfl) (by kernel_rfl) (by kernel_rfl) (by kernel_rfl) (by kernel_rfl) (by kernel_rfl) (by
      intro t φ hG
      split at hG
      all_goals first | (cases hG; done) | (cases Option.some.inj hG; intro v W W' hE hv; first | exact hv | exact IntS.ext hv hE | exact hv.ext hE | exact Own.up hv hE | exact hv.up hE | exact NO.up (by first | exact SegmentOC.keeps | exact TrustRootOC.keeps | exact BeaconOC.keeps | exact BeaconMessageOC.keeps | exact BeaconStoreOC.keeps) hv hE (Nat.le_refl _) | exact ObjUp.up hv hE)) (Ext.drew (by exact Ext.refl _)) ?_
  simp only [List.take_succ_cons, List.take_zero]
  repeat' (first
    | ((with_reducible refine wpL_skip ?_ ?_ ?_)
       · rfl
       · rfl
       simp only [Act.put, List.setIfInBounds_toArray, List.set_cons_zero, List.set_cons_succ])
    | ((with_reducible refine wpL_quiet ?_ ?_ ?_ ?_)
       · rfl
       · rfl
       · rfl
       apply Exists.intro
       refine ⟨fun W hW hS => ?_, ?_⟩
       · have hC := (Ext.facts hW).1
         go_simp
         first | done | (with_reducible rfl) | rfl
       first | (with_reducible refine wpL_boolT ?_) | (with_reducible refine wpL_boolF ?_) | (with_reducible refine wpL_bool (fun hB => ?_) (fun hB => ?_)) | skip
       all_goals simp only [Act.put, List.setIfInBounds_toArray, List.set_cons_zero, List.set_cons_succ])
    | ((refine wpL_call ?_ rfl rfl ?_ ?_ ?_)
       · rfl
       · rfl
       · intro W hW hS
         have hC := (Ext.facts hW).1
         unfold growAt
         go_simp
         simp only [growUpon]
         first | (go_at_call 64; ((with_reducible refine Calls.mono (spec_BetaAt _ _ (s) _ (by exact Rs.out.ext (by repeat (first | (with_reducible exact Ext.refl _) | (with_reducible assumption) | (with_reducible refine Ext.alloc ?_ _) | (with_reducible refine Ext.drew ?_) | (with_reducible refine Ext.drewN ?_ _) | (with_reducible refine Ext.setCell (p := _) ?_ ?ge _; case ge => (dsimp only; omega)) | (with_reducible refine Ext.trans ?_ (by with_reducible assumption))))) (by first | omega | (simp [rootData]; done) | (simp [certData]; done) | (simp only [List.length_cons, List.length_nil]; omega))) ?_)); rintro e w9 ⟨rfl, e9⟩; exact ⟨_, rfl, e9, by first | rfl | (simp only [*])⟩) | (exact ⟨(by repeat (first | (with_reducible exact Ext.refl _) | (with_reducible assumption) | (with_reducible refine Ext.alloc ?_ _) | (with_reducible refine Ext.drew ?_) | (with_reducible refine Ext.drewN ?_ _) | (with_reducible refine Ext.setCell (p := _) ?_ ?ge _; case ge => (dsimp only; omega)) | (with_reducible refine Ext.trans ?_ (by with_reducible assumption)))), _, rfl, Ext.size (by assumption), Blk.new _ _ _⟩)
       first | (with_reducible refine wpL_boolT ?_) | (with_reducible refine wpL_boolF ?_) | (with_reducible refine wpL_bool (fun hB => ?_) (fun hB => ?_)) | skip
       all_goals simp only [Act.put, List.setIfInBounds_toArray, List.set_cons_zero, List.set_cons_succ])
    | ((refine wpL_grow ?_ rfl rfl ?_ ?_)
       · rfl
       · intro W hW hS
         have hC := (Ext.facts hW).1
         unfold growAt
         go_simp
         simp only [growUpon]
         first | (go_at_call 64; ((with_reducible refine Calls.mono (spec_BetaAt _ _ (s) _ (by exact Rs.out.ext (by repeat (first | (with_reducible exact Ext.refl _) | (with_reducible assumption) | (with_reducible refine Ext.alloc ?_ _) | (with_reducible refine Ext.drew ?_) | (with_reducible refine Ext.drewN ?_ _) | (with_reducible refine Ext.setCell (p := _) ?_ ?ge _; case ge => (dsimp only; omega)) | (with_reducible refine Ext.trans ?_ (by with_reducible assumption))))) (by first | omega | (simp [rootData]; done) | (simp [certData]; done) | (simp only [List.length_cons, List.length_nil]; omega))) ?_)); rintro e w9 ⟨rfl, e9⟩; exact ⟨_, rfl, e9, by first | rfl | (simp only [*])⟩) | (exact ⟨(by repeat (first | (with_reducible exact Ext.refl _) | (with_reducible assumption) | (with_reducible refine Ext.alloc ?_ _) | (with_reducible refine Ext.drew ?_) | (with_reducible refine Ext.drewN ?_ _) | (with_reducible refine Ext.setCell (p := _) ?_ ?ge _; case ge => (dsimp only; omega)) | (with_reducible refine Ext.trans ?_ (by with_reducible assumption)))), _, rfl, Ext.size (by assumption), Blk.new _ _ _⟩)
       intro v W' hW' hv
       first | (obtain ⟨g5, rfl, -⟩ := hv) | (obtain ⟨A5, n5, c5, rfl, -⟩ := id hv; clear hv) | (obtain ⟨A5, n5, c5, rfl⟩ := NO.slice hv) | skip
       all_goals simp only [Act.put, List.setIfInBounds_toArray, List.set_cons_zero, List.set_cons_succ]))
  refine wpL_nil (fun w1 ew1 hL => ?_)
  have pz : Zero1 28 w0.heap.size [I 0, I 0, I 0, .slice none 0 0] _ w1 := hL 7
  obtain ⟨gz, hgz, hgl, hbz⟩ := pz
  have hge : gz = g5 := by injection hgz with h; injection h with h; injection h with h1; exact h1.symm
  subst hge
  clear hgz hL
  have zw1 := ew1.size
  have lz := hbz.lt
  obtain ⟨yz_0, yz_1, yz_2, yz_3⟩ := blk4 hbz
  have fz_0 := hbz.frozen 0
  have fz_1 := hbz.frozen 1
  have fz_2 := hbz.frozen 2
  have fz_3 := hbz.frozen 3
  have BW := Lib.hid (Blk.set_ (Blk.set_ (Blk.set_ (Blk.set_ hbz 0 (I kind)) 1 (I s.ts)) 2 (I (betaAt s k))) 3 (.slice none 0 0))
  clear hbz 
  simp only [List.drop_succ_cons, List.drop_zero]
  go_wp2_with fail
  clear yz_0 fz_0 yz_1 fz_1 yz_2 fz_2 yz_3 fz_3
  first | refine name_wp (fun W => Ext w0 W ∧ w1.heap.size = W.heap.size ∧ Blk W gz 28 [I kind, I s.ts, I (betaAt s k), .slice none 0 0]) ⟨(by repeat (first | (with_reducible exact Ext.refl _) | (with_reducible assumption) | (with_reducible refine Ext.alloc ?_ _) | (with_reducible refine Ext.drew ?_) | (with_reducible refine Ext.drewN ?_ _) | (with_reducible refine Ext.setCell (p := _) ?_ ?ge _; case ge => (dsimp only; omega)) | (with_reducible refine Ext.trans ?_ (by with_reducible assumption)))), (by simp only [World.size_setCell]), (by simpa using BW.out)⟩ ?_ | refine name_calls (fun W => Ext w0 W ∧ w1.heap.size = W.heap.size ∧ Blk W gz 28 [I kind, I s.ts, I (betaAt s k), .slice none 0 0]) ⟨(by repeat (first | (with_reducible exact Ext.refl _) | (with_reducible assumption) | (with_reducible refine Ext.alloc ?_ _) | (with_reducible refine Ext.drew ?_) | (with_reducible refine Ext.drewN ?_ _) | (with_reducible refine Ext.setCell (p := _) ?_ ?ge _; case ge => (dsimp only; omega)) | (with_reducible refine Ext.trans ?_ (by with_reducible assumption)))), (by simp only [World.size_setCell]), (by simpa using BW.out)⟩ ?_
  clear BW 
  rintro w2 ⟨ew2, zw2, bz⟩
  have BZ := Lib.hid bz; clear bz
  refine (spec_IsReversed _ _).mono ?_
  rintro e w3 ⟨rfl, rfl⟩
  cases hv : isRev kind
  · have HG : Hid (makePart s kind k = ⟨kind, s.ts, betaAt s k, s.hops.drop k⟩) := by unfold Hid; rw [HF.out, hv]; rfl
    have bs := Bs.out.ext (w' := w2) (by repeat (first | (with_reducible exact Ext.refl _) | (with_reducible assumption) | (with_reducible refine Ext.alloc ?_ _) | (with_reducible refine Ext.drew ?_) | (with_reducible refine Ext.drewN ?_ _) | (with_reducible refine Ext.setCell (p := _) ?_ ?ge _; case ge => (dsimp only; omega)) | (with_reducible refine Ext.trans ?_ (by with_reducible assumption))))
    have ls := bs.lt
    obtain ⟨ps_0, ps_1, ps_2⟩ := blk3 bs
    clear bs
    have bz := BZ.out.ext (w' := w2) (by repeat (first | (with_reducible exact Ext.refl _) | (with_reducible assumption) | (with_reducible refine Ext.alloc ?_ _) | (with_reducible refine Ext.drew ?_) | (with_reducible refine Ext.drewN ?_ _) | (with_reducible refine Ext.setCell (p := _) ?_ ?ge _; case ge => (dsimp only; omega)) | (with_reducible refine Ext.trans ?_ (by with_reducible assumption))))
    have lbz := bz.lt
    obtain ⟨qbz_0, qbz_1, qbz_2, qbz_3⟩ := blk4 bz
    have fbz_0 := bz.frozen 0
    have fbz_1 := bz.frozen 1
    have fbz_2 := bz.frozen 2
    have fbz_3 := bz.frozen 3
    clear bz
    have hck : ¬ cs_2 = k := by omega
    go_wp2_with (at_builtin; refine hold ?_)
    refine unhold (wpList_app w2 rfl (.tmp 32) (.tmp 36) _ rfl 117 _ 5 40 Try.underlying26 info_Hop rfl (by omega) _ 0 [] rfl _ (s.hops.length - k) (cs_2 - k) ((s.hops.drop k).flatMap HopC) rfl
      (own_zero w2 _ 5 _ (Nat.le_refl _)) (by exact row_Hop ((Ss_2.out.ext (by repeat (first | (with_reducible exact Ext.refl _) | (with_reducible assumption) | (with_reducible refine Ext.alloc ?_ _) | (with_reducible refine Ext.drew ?_) | (with_reducible refine Ext.drewN ?_ _) | (with_reducible refine Ext.setCell (p := _) ?_ ?ge _; case ge => (dsimp only; omega)) | (with_reducible refine Ext.trans ?_ (by with_reducible assumption))))).drop hkl)) (one_Hop _) (by repeat (first | (with_reducible exact Ext.refl _) | (with_reducible assumption) | (with_reducible refine Ext.alloc ?_ _) | (with_reducible refine Ext.drew ?_) | (with_reducible refine Ext.drewN ?_ _) | (with_reducible refine Ext.setCell (p := _) ?_ ?ge _; case ge => (dsimp only; omega)) | (with_reducible refine Ext.trans ?_ (by with_reducible assumption)))) (by unfold maxLen; omega) (by omega) ?_)
    intro v3 w3 ho3 he3 _ _
    obtain ⟨a4, m4, c4, hv4⟩ := ho3.slice
    subst hv4
    have O3 := Lib.hid ho3; clear ho3
    have z3 := he3.size
    clear lbz qbz_0 qbz_1 qbz_2 qbz_3 fbz_0 fbz_1 fbz_2 fbz_3
    have br := BR.out.ext (w' := w3) (by repeat (first | (with_reducible exact Ext.refl _) | (with_reducible assumption) | (with_reducible refine Ext.alloc ?_ _) | (with_reducible refine Ext.drew ?_) | (with_reducible refine Ext.drewN ?_ _) | (with_reducible refine Ext.setCell (p := _) ?_ ?ge _; case ge => (dsimp only; omega)) | (with_reducible refine Ext.trans ?_ (by with_reducible assumption))))
    have lbr := br.lt
    obtain ⟨qbr_0, qbr_1, qbr_2, qbr_3⟩ := blk4 br
    have fbr_0 := br.frozen 0
    have fbr_1 := br.frozen 1
    have fbr_2 := br.frozen 2
    have fbr_3 := br.frozen 3
    clear br
    have bz := BZ.out.ext (w' := w3) (by repeat (first | (with_reducible exact Ext.refl _) | (with_reducible assumption) | (with_reducible refine Ext.alloc ?_ _) | (with_reducible refine Ext.drew ?_) | (with_reducible refine Ext.drewN ?_ _) | (with_reducible refine Ext.setCell (p := _) ?_ ?ge _; case ge => (dsimp only; omega)) | (with_reducible refine Ext.trans ?_ (by with_reducible assumption))))
    have lbz := bz.lt
    obtain ⟨qbz_0, qbz_1, qbz_2, qbz_3⟩ := blk4 bz
    have fbz_0 := bz.frozen 0
    have fbz_1 := bz.frozen 1
    have fbz_2 := bz.frozen 2
    have fbz_3 := bz.frozen 3
    clear bz
    go_wp2_with fail
    refine bodyPost_ret (v := .agg #[I kind, I s.ts, I (betaAt s k), .slice a4 m4 c4]) (by simp [results, Try.results12, go_sem, *]) rfl ⟨_, rfl, ?_, ?_⟩
    · rw [HG.out]
      simp only [World.size_setCell]
      refine ⟨_, rfl, Own.more (lo := w2.heap.size) (hi := w3.heap.size) (by dsimp only; rw [List.length_drop]; have h := O3.out; simp only [Nat.zero_add, List.nil_append] at h; exact (by repeat (first | (with_reducible exact h) | (with_reducible refine Own.alloc ?_ _) | (with_reducible refine Own.setCell (p := _) ?_ (.inl ?ge) _; case ge => (first | omega | (dsimp only; omega) | (simp only [World.size_setCell]; omega) | (simp only [World.size_alloc]; omega))) | (with_reducible refine Own.ext ?_ (by with_reducible assumption) ?ge; case ge => (first | omega | (dsimp only; omega) | (simp only [World.size_setCell]; omega) | (simp only [World.size_alloc]; omega)))))) (by omega) (by omega), by omega⟩
    · exact (by repeat (first | (with_reducible exact Ext.refl _) | (with_reducible assumption) | (with_reducible refine Ext.alloc ?_ _) | (with_reducible refine Ext.drew ?_) | (with_reducible refine Ext.drewN ?_ _) | (with_reducible refine Ext.setCell (p := _) ?_ ?ge _; case ge => (dsimp only; omega)) | (with_reducible refine Ext.trans ?_ (by with_reducible assumption))))
  · have HG : Hid (makePart s kind k = ⟨kind, s.ts, betaAt s s.hops.length, revTo s.hops k⟩) := by unfold Hid; rw [HF.out, hv]; rfl
    have bs := Bs.out.ext (w' := w2) (by repeat (first | (with_reducible exact Ext.refl _) | (with_reducible assumption) | (with_reducible refine Ext.alloc ?_ _) | (with_reducible refine Ext.drew ?_) | (with_reducible refine Ext.drewN ?_ _) | (with_reducible refine Ext.setCell (p := _) ?_ ?ge _; case ge => (dsimp only; omega)) | (with_reducible refine Ext.trans ?_ (by with_reducible assumption))))
    have ls := bs.lt
    obtain ⟨ps_0, ps_1, ps_2⟩ := blk3 bs
    clear bs
    have bz := BZ.out.ext (w' := w2) (by repeat (first | (with_reducible exact Ext.refl _) | (with_reducible assumption) | (with_reducible refine Ext.alloc ?_ _) | (with_reducible refine Ext.drew ?_) | (with_reducible refine Ext.drewN ?_ _) | (with_reducible refine Ext.setCell (p := _) ?_ ?ge _; case ge => (dsimp only; omega)) | (with_reducible refine Ext.trans ?_ (by with_reducible assumption))))
    have lbz := bz.lt
    obtain ⟨qbz_0, qbz_1, qbz_2, qbz_3⟩ := blk4 bz
    have fbz_0 := bz.frozen 0
    have fbz_1 := bz.frozen 1
    have fbz_2 := bz.frozen 2
    have fbz_3 := bz.frozen 3
    clear bz
    go_wp2_with fail
    refine (spec_BetaAt _ _ (s) _ (by exact Rs.out.ext (by repeat (first | (with_reducible exact Ext.refl _) | (with_reducible assumption) | (with_reducible refine Ext.alloc ?_ _) | (with_reducible refine Ext.drew ?_) | (with_reducible refine Ext.drewN ?_ _) | (with_reducible refine Ext.setCell (p := _) ?_ ?ge _; case ge => (dsimp only; omega)) | (with_reducible refine Ext.trans ?_ (by with_reducible assumption))))) (by first | omega | (simp [rootData]; done) | (simp [certData]; done) | (simp only [List.length_cons, List.length_nil]; omega))).mono ?_
    rintro e w3 ⟨rfl, ew3⟩
    have bs := Bs.out.ext (w' := w3) (by repeat (first | (with_reducible exact Ext.refl _) | (with_reducible assumption) | (with_reducible refine Ext.alloc ?_ _) | (with_reducible refine Ext.drew ?_) | (with_reducible refine Ext.drewN ?_ _) | (with_reducible refine Ext.setCell (p := _) ?_ ?ge _; case ge => (dsimp only; omega)) | (with_reducible refine Ext.trans ?_ (by with_reducible assumption))))
    have ls := bs.lt
    obtain ⟨ps_0, ps_1, ps_2⟩ := blk3 bs
    clear bs
    clear lbz qbz_0 qbz_1 qbz_2 qbz_3 fbz_0 fbz_1 fbz_2 fbz_3
    have bz := BZ.out.ext (w' := w3) (by repeat (first | (with_reducible exact Ext.refl _) | (with_reducible assumption) | (with_reducible refine Ext.alloc ?_ _) | (with_reducible refine Ext.drew ?_) | (with_reducible refine Ext.drewN ?_ _) | (with_reducible refine Ext.setCell (p := _) ?_ ?ge _; case ge => (dsimp only; omega)) | (with_reducible refine Ext.trans ?_ (by with_reducible assumption))))
    have lbz := bz.lt
    obtain ⟨qbz_0, qbz_1, qbz_2, qbz_3⟩ := blk4 bz
    have fbz_0 := bz.frozen 0
    have fbz_1 := bz.frozen 1
    have fbz_2 := bz.frozen 2
    have fbz_3 := bz.frozen 3
    clear bz
    have zw3 := ew3.size
    go_wp2_with fail
    refine name_wp (fun W => Ext w0 W ∧ w3.heap.size = W.heap.size ∧ Blk W gz 28 [I kind, I s.ts, I (betaAt s s.hops.length), .slice none 0 0]) ⟨(by repeat (first | (with_reducible exact Ext.refl _) | (with_reducible assumption) | (with_reducible refine Ext.alloc ?_ _) | (with_reducible refine Ext.drew ?_) | (with_reducible refine Ext.drewN ?_ _) | (with_reducible refine Ext.setCell (p := _) ?_ ?ge _; case ge => (dsimp only; omega)) | (with_reducible refine Ext.trans ?_ (by with_reducible assumption)))), (by simp only [World.size_setCell]), (by simpa using (BZ.out.ext ew3).set_ 2 (I (betaAt s s.hops.length)))⟩ ?_
    rintro w4 ⟨ew4, zw4, b4⟩
    clear lbz qbz_0 qbz_1 qbz_2 qbz_3 fbz_0 fbz_1 fbz_2 fbz_3
    have B4 := Lib.hid b4; clear b4
    generalize betaAt s s.hops.length = be at *
    have lg : gz < w4.heap.size := B4.out.lt
    go_loopw [8] (fun i wr => ∃ (m : Nat) (u : Value), k ≤ m ∧ m ≤ s.hops.length ∧ i = I ((m : Int) - 1) ∧ w4.heap.size ≤ wr.heap.size ∧ Blk wr gz 28 [I kind, I s.ts, I be, u] ∧ HopSO w4.heap.size wr.heap.size wr u (revTo s.hops m) ∧ Ext w0 wr) (fun i _ => ((intOf i) + 1).toNat)
    case atStart => exact ⟨s.hops.length, _, by omega, by omega, rfl, by omega, B4.out, by unfold revTo; rw [List.drop_length]; exact Own.nil _ _ _ _ _, ew4⟩
    case round =>
      obtain ⟨m, u, hm0, hm, rfl, hz, hb4, ho, he⟩ := hrel
      have HB4 := Lib.hid hb4; have HO := Lib.hid ho; clear hb4 ho
      obtain ⟨au, mu, cu, hu⟩ := HO.out.slice
      subst hu
      by_cases hlt : k < m
      · obtain ⟨j, rfl⟩ : ∃ j, m = j + 1 := ⟨m - 1, by omega⟩
        have hjl : j < s.hops.length := by omega
        obtain ⟨b2, off2, hA2, hb2, hjl2, hc⟩ := (Ss_2.out.ext (w' := wr) (by repeat (first | (with_reducible exact Ext.refl _) | (with_reducible assumption) | (with_reducible refine Ext.alloc ?_ _) | (with_reducible refine Ext.drew ?_) | (with_reducible refine Ext.drewN ?_ _) | (with_reducible refine Ext.setCell (p := _) ?_ ?ge _; case ge => (dsimp only; omega)) | (with_reducible refine Ext.trans ?_ (by with_reducible assumption))))).at_ hjl
        cases hA2
        have HX := Lib.hid (revTo_snoc s.hops j hjl2)
        have hml : (revTo s.hops (j + 1)).length ≤ s.hops.length := by rw [revTo_len]; omega
        generalize s.hops[j] = x at *
        generalize revTo s.hops (j + 1) = sl at *
        obtain ⟨h0, h1, h2, h3, h4⟩ := hc
        have em : ((j + 1 : Nat) : Int) - 1 = (j : Int) := by omega
        rw [em]
        have i0 : (k : Int) ≤ (j : Int) := by omega
        have i1 : (0 : Int) ≤ (j : Int) := by omega
        have i2 : (j : Int) < (s.hops.length : Int) := by omega
        have bs := Bs.out.ext (w' := wr) (by repeat (first | (with_reducible exact Ext.refl _) | (with_reducible assumption) | (with_reducible refine Ext.alloc ?_ _) | (with_reducible refine Ext.drew ?_) | (with_reducible refine Ext.drewN ?_ _) | (with_reducible refine Ext.setCell (p := _) ?_ ?ge _; case ge => (dsimp only; omega)) | (with_reducible refine Ext.trans ?_ (by with_reducible assumption))))
        have ls := bs.lt
        obtain ⟨ps_0, ps_1, ps_2⟩ := blk3 bs
        clear bs
        have b4 := HB4.out.ext (w' := wr) (by repeat (first | (with_reducible exact Ext.refl _) | (with_reducible assumption) | (with_reducible refine Ext.alloc ?_ _) | (with_reducible refine Ext.drew ?_) | (with_reducible refine Ext.drewN ?_ _) | (with_reducible refine Ext.setCell (p := _) ?_ ?ge _; case ge => (dsimp only; omega)) | (with_reducible refine Ext.trans ?_ (by with_reducible assumption))))
        have lb4 := b4.lt
        obtain ⟨qb4_0, qb4_1, qb4_2, qb4_3⟩ := blk4 b4
        have fb4_0 := b4.frozen 0
        have fb4_1 := b4.frozen 1
        have fb4_2 := b4.frozen 2
        have fb4_3 := b4.frozen 3
        clear b4
        go_wp2_with fail
        refine wp_region_LT 8 (E := Ext) (w0 := wr) (G := fun τ => match τ with | 62 => some (fun v W => Fresh1 117 wr.heap.size [I x.asn, I x.ing, I x.egr, I x.exp, I x.mac] v W) | _ => none) Ext.refl (fun h k => Ext.trans h k) (by kernel_rfl) (by kernel_rfl) (by kernel_rfl) (by kernel_rfl) (by kernel_rfl) (by kernel_rfl) (by
            intro t φ hG
            split at hG
            all_goals first | (cases hG; done) | (cases Option.some.inj hG; intro v W W' hE hv; first | exact hv | exact IntS.ext hv hE | exact hv.ext hE | exact Own.up hv hE | exact hv.up hE | exact NO.up (by first | exact SegmentOC.keeps | exact TrustRootOC.keeps | exact BeaconOC.keeps | exact BeaconMessageOC.keeps | exact BeaconStoreOC.keeps) hv hE (Nat.le_refl _) | exact ObjUp.up hv hE)) (Ext.drew (by exact Ext.refl _)) ?_
        simp only [List.take_succ_cons, List.take_zero]
        repeat' (first
          | ((with_reducible refine wpL_skip ?_ ?_ ?_)
             · rfl
             · rfl
             simp only [Act.put, List.setIfInBounds_toArray, List.set_cons_zero, List.set_cons_succ])
          | ((with_reducible refine wpL_quiet ?_ ?_ ?_ ?_)
             · rfl
             · rfl
             · rfl
             apply Exists.intro
             refine ⟨fun W hW hS => ?_, ?_⟩
             · have hC := (Ext.facts hW).1
               go_simp
               first | done | (with_reducible rfl) | rfl
             first | (with_reducible refine wpL_boolT ?_) | (with_reducible refine wpL_boolF ?_) | (with_reducible refine wpL_bool (fun hB => ?_) (fun hB => ?_)) | skip
             all_goals simp only [Act.put, List.setIfInBounds_toArray, List.set_cons_zero, List.set_cons_succ])
          | ((refine wpL_call ?_ rfl rfl ?_ ?_ ?_)
             · rfl
             · rfl
             · intro W hW hS
               have hC := (Ext.facts hW).1
               unfold growAt
               go_simp
               simp only [growUpon]
               first | (exact ⟨(by repeat (first | (with_reducible exact Ext.refl _) | (with_reducible assumption) | (with_reducible refine Ext.alloc ?_ _) | (with_reducible refine Ext.drew ?_) | (with_reducible refine Ext.drewN ?_ _) | (with_reducible refine Ext.setCell (p := _) ?_ ?ge _; case ge => (dsimp only; omega)) | (with_reducible refine Ext.trans ?_ (by with_reducible assumption)))), Fresh1.new _ 117 _ _ _ rfl (Ext.size (by assumption))⟩)
             first | (with_reducible refine wpL_boolT ?_) | (with_reducible refine wpL_boolF ?_) | (with_reducible refine wpL_bool (fun hB => ?_) (fun hB => ?_)) | skip
             all_goals simp only [Act.put, List.setIfInBounds_toArray, List.set_cons_zero, List.set_cons_succ])
          | ((refine wpL_grow ?_ rfl rfl ?_ ?_)
             · rfl
             · intro W hW hS
               have hC := (Ext.facts hW).1
               unfold growAt
               go_simp
               simp only [growUpon]
               first | (exact ⟨(by repeat (first | (with_reducible exact Ext.refl _) | (with_reducible assumption) | (with_reducible refine Ext.alloc ?_ _) | (with_reducible refine Ext.drew ?_) | (with_reducible refine Ext.drewN ?_ _) | (with_reducible refine Ext.setCell (p := _) ?_ ?ge _; case ge => (dsimp only; omega)) | (with_reducible refine Ext.trans ?_ (by with_reducible assumption)))), Fresh1.new _ 117 _ _ _ rfl (Ext.size (by assumption))⟩)
             intro v W' hW' hv
             first | (obtain ⟨g5, rfl, -⟩ := hv) | (obtain ⟨A5, n5, c5, rfl, -⟩ := id hv; clear hv) | (obtain ⟨A5, n5, c5, rfl⟩ := NO.slice hv) | skip
             all_goals simp only [Act.put, List.setIfInBounds_toArray, List.set_cons_zero, List.set_cons_succ]))
        refine wpL_nil (fun w5 e5 hL => ?_)
        have f5 : Fresh1 117 wr.heap.size [I x.asn, I x.ing, I x.egr, I x.exp, I x.mac] _ w5 := hL 62
        clear hL
        obtain ⟨g6, hg6, hgl6, hb6⟩ := f5
        cases hg6
        have z5 := e5.size
        clear lb4 qb4_0 qb4_1 qb4_2 qb4_3 fb4_0 fb4_1 fb4_2 fb4_3
        simp only [List.drop_succ_cons, List.drop_zero]
        go_wp2_with (at_builtin; refine hold ?_)
        refine unhold (wpList_appB w4.heap.size rfl (.tmp 56) (.tmp 62) _ rfl 117 _ 5 40 Try.underlying26 info_Hop rfl (by omega) (.slice au mu cu) sl.length (sl.flatMap HopC) rfl _ 1 1 (HopC x) rfl
          (by exact Own.up HO.out e5) (by exact row_blk hb6 rfl) (by simpa using one_Hop [x]) (by omega) (by unfold maxLen; omega) (by omega) ?_)
        intro v6 w6 ho6 hg6
        obtain ⟨a7, m7, c7, hv7⟩ := ho6.slice
        subst hv7
        have hnb : (Value.slice au mu cu).ownBlock ≠ some gz := HO.out.not_block (by omega)
        have B6 := Lib.hid (Blk.grown (HB4.out.ext e5) hg6 hnb)
        have E6 := Lib.hid (Ext.grownB (a := w0) (Ext.trans he e5) (Own.up HO.out e5) hg6 (by omega))
        have z6 : w5.heap.size ≤ w6.heap.size := hg6.size
        have O6 := Lib.hid ho6; clear ho6 hg6 hnb
        have b6 := B6.out.ext (w' := w6) (by repeat (first | (with_reducible exact Ext.refl _) | (with_reducible assumption) | (with_reducible refine Ext.alloc ?_ _) | (with_reducible refine Ext.drew ?_) | (with_reducible refine Ext.drewN ?_ _) | (with_reducible refine Ext.setCell (p := _) ?_ ?ge _; case ge => (dsimp only; omega)) | (with_reducible refine Ext.trans ?_ (by with_reducible assumption))))
        have lb6 := b6.lt
        obtain ⟨qb6_0, qb6_1, qb6_2, qb6_3⟩ := blk4 b6
        have fb6_0 := b6.frozen 0
        have fb6_1 := b6.frozen 1
        have fb6_2 := b6.frozen 2
        have fb6_3 := b6.frozen 3
        clear b6
        go_wp2_with (at_builtin; refine hold ?_)
        go_roundw
        case rel => exact ⟨j, _, by omega, by omega, by go_num, by simp only [World.size_setCell]; omega, by simpa using B6.out.set_ 3 (.slice a7 m7 c7), by
          rw [HX.out]
          have h := Own.setCell (p := ⟨gz, 3, none⟩) O6.out (.inl (by dsimp only; omega)) (.slice a7 m7 c7)
          unfold HopSO
          simp only [World.size_setCell]
          simpa using h, Ext.setCell E6.out (by dsimp only; omega) _⟩
        case measure => simp [intOf]
      · obtain rfl : m = k := by omega
        have i0 : (m : Int) - 1 < (m : Int) := by omega
        have br := BR.out.ext (w' := wr) (by repeat (first | (with_reducible exact Ext.refl _) | (with_reducible assumption) | (with_reducible refine Ext.alloc ?_ _) | (with_reducible refine Ext.drew ?_) | (with_reducible refine Ext.drewN ?_ _) | (with_reducible refine Ext.setCell (p := _) ?_ ?ge _; case ge => (dsimp only; omega)) | (with_reducible refine Ext.trans ?_ (by with_reducible assumption))))
        have lbr := br.lt
        obtain ⟨qbr_0, qbr_1, qbr_2, qbr_3⟩ := blk4 br
        have fbr_0 := br.frozen 0
        have fbr_1 := br.frozen 1
        have fbr_2 := br.frozen 2
        have fbr_3 := br.frozen 3
        clear br
        have b4 := HB4.out.ext (w' := wr) (by repeat (first | (with_reducible exact Ext.refl _) | (with_reducible assumption) | (with_reducible refine Ext.alloc ?_ _) | (with_reducible refine Ext.drew ?_) | (with_reducible refine Ext.drewN ?_ _) | (with_reducible refine Ext.setCell (p := _) ?_ ?ge _; case ge => (dsimp only; omega)) | (with_reducible refine Ext.trans ?_ (by with_reducible assumption))))
        have lb4 := b4.lt
        obtain ⟨qb4_0, qb4_1, qb4_2, qb4_3⟩ := blk4 b4
        have fb4_0 := b4.frozen 0
        have fb4_1 := b4.frozen 1
        have fb4_2 := b4.frozen 2
        have fb4_3 := b4.frozen 3
        clear b4
        go_wp2_with fail
        refine bodyPost_ret (v := .agg #[I kind, I s.ts, I be, .slice au mu cu]) (by simp [results, Try.results12, go_sem, *]) rfl ⟨_, rfl, ?_, ?_⟩
        · rw [HG.out]
          simp only [World.size_setCell]
          refine ⟨_, rfl, Own.more (lo := w4.heap.size) (hi := wr.heap.size) (by dsimp only; exact (by repeat (first | (with_reducible exact HO.out) | (with_reducible refine Own.alloc ?_ _) | (with_reducible refine Own.setCell (p := _) ?_ (.inl ?ge) _; case ge => (first | omega | (dsimp only; omega) | (simp only [World.size_setCell]; omega) | (simp only [World.size_alloc]; omega))) | (with_reducible refine Own.ext ?_ (by with_reducible assumption) ?ge; case ge => (first | omega | (dsimp only; omega) | (simp only [World.size_setCell]; omega) | (simp only [World.size_alloc]; omega)))))) (by omega) (by omega), by omega⟩
        · exact (by repeat (first | (with_reducible exact Ext.refl _) | (with_reducible assumption) | (with_reducible refine Ext.alloc ?_ _) | (with_reducible refine Ext.drew ?_) | (with_reducible refine Ext.drewN ?_ _) | (with_reducible refine Ext.setCell (p := _) ?_ ?ge _; case ge => (dsimp only; omega)) | (with_reducible refine Ext.trans ?_ (by with_reducible assumption))))
end Go.Proofs.Ytcalbcjheenmgaa
