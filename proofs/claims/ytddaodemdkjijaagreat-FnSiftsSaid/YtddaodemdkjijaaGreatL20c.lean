/- Contracts of the program's and the reference's functions on signed segments: SignSegment. -/
import Derived.Test.YtddaodemdkjijaaGreatGL9
import Derived.Test.YtddaodemdkjijaaGreatGL20
import Derived.Test.YtddaodemdkjijaaGreatGL17
import Derived.Test.YtddaodemdkjijaaGreatGGrow
namespace Go.Proofs.YtddaodemdkjijaaGreat
open Go.RowKit
set_option linter.unusedVariables false
def sigAt (t : DTopology) (s : DSegment) (k : Nat) : Int := if isAs t (s.hops.getD k dHop).asn then sign (asAt t (s.hops.getD k dHop).asn).key (signedData s ((k : Int) + 1)) else 0
def signSeg (t : DTopology) (s : DSegment) : DSignedSegment := ⟨s, (List.range s.hops.length).map (sigAt t s)⟩
theorem sigAt_at {t : DTopology} {s : DSegment} {k : Nat} (hk : k < s.hops.length) : sigAt t s k = if isAs t s.hops[k].asn then sign (asAt t s.hops[k].asn).key (signedData s ((k : Int) + 1)) else 0 := by
  unfold sigAt
  rw [getD_is hk]
theorem range_map_snoc {α : Type} (f : Nat → α) (k : Nat) : (List.range (k + 1)).map f = (List.range k).map f ++ [f k] := by rw [List.range_succ, List.map_append]; rfl
set_option maxRecDepth 100000 in
set_option maxHeartbeats 1000000 in
theorem spec_SignSegment (vt vs : Value) (t : DTopology) (s : DSegment) (w : World) (ht : TopologyV w.heap.size w vt t) (hs : SegmentV w.heap.size w vs s) (hn : s.hops.length ≤ 1048576) :
    Calls Tryz.prog 18 #[vt, vs] w fun e w' => ∃ v', e = .returned v' ∧ SignedSegmentO w.heap.size w'.heap.size w' v' (signSeg t s) ∧ Ext w w' := by
  obtain ⟨At_0, nt_0, ct_0, At_1, nt_1, ct_1, rfl, st_0, st_1⟩ := id ht
  obtain ⟨lt_0, kt_0, mt_0⟩ := st_0.len
  subst lt_0
  unfold maxLen at mt_0
  obtain ⟨lt_1, kt_1, mt_1⟩ := st_1.len
  subst lt_1
  unfold maxLen at mt_1
  have Rt := Lib.hid ht; clear ht
  have St_0 := Lib.hid st_0; clear st_0
  have St_1 := Lib.hid st_1; clear st_1
  obtain ⟨As_2, ns_2, cs_2, rfl, ss_2⟩ := id hs
  obtain ⟨ls_2, ks_2, ms_2⟩ := ss_2.len
  subst ls_2
  unfold maxLen at ms_2
  have Rs := Lib.hid hs; clear hs
  have Ss_2 := Lib.hid ss_2; clear ss_2
  go_enter Tryz.func18, Tryz.ntmps18
  go_wp2_with fail
  refine name_calls (fun W => Ext w W ∧ Blk W w.heap.size 27 [.slice At_0 t.ases.length ct_0, .slice At_1 t.links.length ct_1] ∧ Blk W (w.heap.size + 1) 37 [I s.ts, I s.beta, .slice As_2 s.hops.length cs_2] ∧ Blk W (w.heap.size + 1 + 1) 40 [I 0, I 0, .slice none 0 0, .slice none 0 0]) ⟨xe, xb, xb, xb⟩ ?_
  rintro w0 ⟨ew0, bt, bs, br⟩
  have Bt := Lib.hid bt; have Bs := Lib.hid bs; have BR := Lib.hid br; clear bt bs br
  refine (spec_l9Copy _ s _ (by exact Rs.out.ext xe) (by omega)).mono ?_
  rintro e w1 ⟨v1, rfl, o1, e1⟩
  obtain ⟨u1, hv1, oh1, lh1⟩ := o1
  subst hv1
  have OH := Lib.hid oh1; clear oh1
  obtain ⟨a1, m1, q1, hu1⟩ := OH.out.slice
  subst hu1
  have bt := Bt.out.ext (e1)
  have lt := bt.lt
  obtain ⟨pt_0, pt_1⟩ := blk2 bt
  clear bt
  have bs := Bs.out.ext (e1)
  have ls := bs.lt
  obtain ⟨ps_0, ps_1, ps_2⟩ := blk3 bs
  clear bs
  have zr1 := (BR.out.ext e1).lt
  go_wp2_with fail
  refine name_wp (fun W => Ext w1 W ∧ Blk W w1.heap.size 40 [I s.ts, I s.beta, .slice a1 m1 q1, .slice none 0 0]) ⟨xe, xb⟩ ?_
  rintro w2 ⟨ew2, b5⟩
  have B5 := Lib.hid b5; clear b5
  go_loopw [6] (fun i wr => ∃ (k : Nat) (u : Value), k ≤ s.hops.length ∧ i = I k ∧ Blk wr w1.heap.size 40 [I s.ts, I s.beta, .slice a1 m1 q1, u] ∧ IntSO (w1.heap.size + 1) wr.heap.size wr u ((List.range k).map (sigAt t s)) ∧ Ext w1 wr) (fun i _ => s.hops.length - (intOf i).toNat)
  case atStart => exact ⟨0, _, by omega, rfl, B5.out, Own.nil _ _ _ _ _, ew2⟩
  case round =>
    obtain ⟨k, u, hk, rfl, hb5, ho, he⟩ := hrel
    have HB5 := Lib.hid hb5; have HO := Lib.hid ho; clear hb5 ho
    obtain ⟨au, mu, cu, hu⟩ := HO.out.slice
    subst hu
    have l5 := HB5.out.lt
    have zr := he.size
    have bt := Bt.out.ext (w' := wr) xe
    have lt := bt.lt
    obtain ⟨pt_0, pt_1⟩ := blk2 bt
    clear bt
    have bs := Bs.out.ext (w' := wr) xe
    have ls := bs.lt
    obtain ⟨ps_0, ps_1, ps_2⟩ := blk3 bs
    clear bs
    by_cases hlt : k < s.hops.length
    · obtain ⟨b, off, rfl, hb, hkl, hc⟩ := (Ss_2.out.ext (w' := wr) xe).at_ hlt
      have HV := Lib.hid (sigAt_at (t := t) hkl)
      have HR := Lib.hid (range_map_snoc (sigAt t s) k)
      have hsl1 : ((List.range k).map (sigAt t s)).length ≤ k := by simp
      generalize (List.range k).map (sigAt t s) = sl at *
      have hf := signedData_len s ((k : Int) + 1)
      generalize s.hops[k] = h at *
      obtain ⟨h0, h1, h2, h3, h4⟩ := hc
      have i0 : (0 : Int) ≤ (k : Int) := by omega
      have i1 : (k : Int) < (s.hops.length : Int) := by omega
      cases hv : isAs t h.asn
      · have HVV : Hid (sigAt t s k = 0) := by unfold Hid; rw [HV.out, hv]; rfl
        go_wp2_with fail
        refine wp_region_L (E := Ext) (w0 := wr) (G := fun τ => match τ with | 25 => some (fun v _ => v = .bool (false)) | _ => none) Ext.refl (fun h k => Ext.trans h k) (by kernel_rfl) (by kernel_rfl) xg (Ext.drew (by exact Ext.refl _)) ?_
        repeat' (first
          | ((with_reducible refine wpL_skip ?_ ?_ ?_)
             · rfl
             · rfl
             simp only [Act.put, List.setIfInBounds_toArray, List.set_cons_zero, List.set_cons_succ])
          | ((with_reducible refine wpL_quiet ?_ ?_ ?_ ?_)
             · rfl
             · rfl
             · rfl
             apply Exists.intro
             refine ⟨fun W hW hS => ?_, ?_⟩
             · have hC := (Ext.facts hW).1
               go_simp
               first | done | (with_reducible rfl) | (rw [if_neg (by omega)]; exact ⟨rfl, rfl⟩) | rfl
             first | (with_reducible refine wpL_boolT ?_) | (with_reducible refine wpL_boolF ?_) | (with_reducible refine wpL_bool (fun hB => ?_) (fun hB => ?_)) | skip
             all_goals simp only [Act.put, List.setIfInBounds_toArray, List.set_cons_zero, List.set_cons_succ])
          | ((refine wpL_call ?_ rfl rfl ?_ ?_ ?_)
             · rfl
             · rfl
             · intro W hW hS
               have hC := (Ext.facts hW).1
               unfold growAt
               go_simp
               simp only [growUpon]
               first | (go_at_call 44; ((with_reducible refine Calls.mono (spec_l5Realm _ _ (t) _ (by exact Rt.out.ext xe)) ?_)); rintro e w9 ⟨rfl, e9⟩; exact ⟨_, rfl, e9, by first | rfl | (simp only [*])⟩)
             first | (with_reducible refine wpL_boolT ?_) | (with_reducible refine wpL_boolF ?_) | (with_reducible refine wpL_bool (fun hB => ?_) (fun hB => ?_)) | skip
             all_goals simp only [Act.put, List.setIfInBounds_toArray, List.set_cons_zero, List.set_cons_succ]))
        refine wpL_nil (fun w4 e4 hL => ?_)
        clear hL hv
        have z4 : wr.heap.size ≤ w4.heap.size := Ext.size xe
        have b5 := HB5.out.ext (w' := w4) xe
        have lb5 := b5.lt
        obtain ⟨qb5_0, qb5_1, qb5_2, qb5_3⟩ := blk4 b5
        have fb5_0 := b5.frozen 0
        have fb5_1 := b5.frozen 1
        have fb5_2 := b5.frozen 2
        have fb5_3 := b5.frozen 3
        clear b5
        go_wp2_with (at_builtin; refine hold ?_)
        refine unhold (wpList_appB (w1.heap.size + 1) rfl (.tmp 43) (.tmp 45) _ rfl 3 (.int .i64 0) 1 8 Tryz.underlying38 info_int rfl (by omega) (.slice au mu cu) sl.length (sl.map I) rfl _ 1 1 [I 0] rfl
          (by exact Own.more (lo := w1.heap.size + 1) (hi := wr.heap.size) (by repeat (first | (with_reducible exact HO.out) | (with_reducible refine Own.alloc ?_ _) | (with_reducible refine Own.setCell (p := _) ?_ (.inl ?ge) _; case ge => (first | omega | (dsimp only; omega) | (simp only [World.size_setCell]; omega) | (simp only [World.size_alloc]; omega))) | (with_reducible refine Own.ext ?_ (by with_reducible assumption) ?ge; case ge => (first | omega | (dsimp only; omega) | (simp only [World.size_setCell]; omega) | (simp only [World.size_alloc]; omega))))) (Nat.le_refl _) (by simp only [World.size_alloc]; omega)) (row_one _ _ _ _ _ rfl rfl) (one_ints [0]) (by simp only [World.size_alloc]; omega) (by unfold maxLen; omega) (by omega) ?_)
        intro v6 w6 ho6 hg6
        obtain ⟨a6, m6, c6, hv6⟩ := ho6.slice
        subst hv6
        have hnb : (Value.slice au mu cu).ownBlock ≠ some w1.heap.size := HO.out.not_block (by omega)
        have B6 := Lib.hid (Blk.grown (w := w4.alloc _) ((HB5.out.ext (w' := w4) xe).alloc _) hg6 hnb)
        have E6 := Lib.hid (Ext.grownB (a := w1) (lo := w1.heap.size + 1) (hi := wr.heap.size) (w := w4.alloc _) xe (n := sl.length) (cs := sl.map I) (v := .slice au mu cu) (E := 3) (sz := 1) (by repeat (first | (with_reducible exact HO.out) | (with_reducible refine Own.alloc ?_ _) | (with_reducible refine Own.setCell (p := _) ?_ (.inl ?ge) _; case ge => (first | omega | (dsimp only; omega) | (simp only [World.size_setCell]; omega) | (simp only [World.size_alloc]; omega))) | (with_reducible refine Own.ext ?_ (by with_reducible assumption) ?ge; case ge => (first | omega | (dsimp only; omega) | (simp only [World.size_setCell]; omega) | (simp only [World.size_alloc]; omega))))) hg6 (by omega))
        have O6 := Lib.hid ho6; clear ho6 hg6 hnb
        clear lb5 qb5_0 qb5_1 qb5_2 qb5_3 fb5_0 fb5_1 fb5_2 fb5_3
        have b6 := B6.out
        have lb6 := b6.lt
        obtain ⟨qb6_0, qb6_1, qb6_2, qb6_3⟩ := blk4 b6
        have fb6_3 := b6.frozen 3
        clear b6
        go_wp2_with (at_builtin; refine hold ?_)
        go_roundw
        case rel => exact ⟨k + 1, _, by omega, by go_num, by simpa using B6.out.set_ 3 (.slice a6 m6 c6), by
          rw [HR.out, HVV.out]
          have h := Own.setCell (p := ⟨w1.heap.size, 3, none⟩) O6.out (.inl (by dsimp only; omega)) (.slice a6 m6 c6)
          simpa [IntSO] using h, Ext.setCell E6.out (by dsimp only; omega) _⟩
        case measure => simp [intOf]; omega
      · obtain ⟨m, hxm, hm⟩ := isAs_nat hv
        have HVV : Hid (sigAt t s k = sign (t.ases[m]).key (signedData s ((k : Int) + 1))) := by unfold Hid; rw [HV.out, hv, hxm, asAt_nat t m hm]; rfl
        have HXM := Lib.hid hxm; clear hxm
        obtain ⟨b2, off2, rfl, hb2, hkl2, hc2⟩ := (St_0.out.ext (w' := wr) xe).at_ hm
        generalize t.ases[m] = y at *
        obtain ⟨y0, y1, y2⟩ := hc2
        have i2 : (0 : Int) ≤ (m : Int) := by omega
        have i3 : (m : Int) < (t.ases.length : Int) := by omega
        have HWR : Hid (IntKind.i64.wrap ((k : Int) + 1) = (k : Int) + 1) := IntWalk.i64_in _ (by omega)
        go_wp2_with fail
        refine wp_region_L (E := Ext) (w0 := wr) (G := fun τ => match τ with | 25 => some (fun v _ => v = .bool (true)) | _ => none) Ext.refl (fun h k => Ext.trans h k) (by kernel_rfl) (by kernel_rfl) xg (Ext.drew (by exact Ext.refl _)) ?_
        repeat' (first
          | ((with_reducible refine wpL_skip ?_ ?_ ?_)
             · rfl
             · rfl
             simp only [Act.put, List.setIfInBounds_toArray, List.set_cons_zero, List.set_cons_succ])
          | ((with_reducible refine wpL_quiet ?_ ?_ ?_ ?_)
             · rfl
             · rfl
             · rfl
             apply Exists.intro
             refine ⟨fun W hW hS => ?_, ?_⟩
             · have hC := (Ext.facts hW).1
               go_simp
               first | done | (with_reducible rfl) | (rw [if_neg (by omega)]; exact ⟨rfl, rfl⟩) | rfl
             first | (with_reducible refine wpL_boolT ?_) | (with_reducible refine wpL_boolF ?_) | (with_reducible refine wpL_bool (fun hB => ?_) (fun hB => ?_)) | skip
             all_goals simp only [Act.put, List.setIfInBounds_toArray, List.set_cons_zero, List.set_cons_succ])
          | ((refine wpL_call ?_ rfl rfl ?_ ?_ ?_)
             · rfl
             · rfl
             · intro W hW hS
               have hC := (Ext.facts hW).1
               unfold growAt
               go_simp
               simp only [growUpon]
               first | (go_at_call 44; ((with_reducible refine Calls.mono (spec_l5Realm _ _ (t) _ (by exact Rt.out.ext xe)) ?_)); rintro e w9 ⟨rfl, e9⟩; exact ⟨_, rfl, e9, by first | rfl | (simp only [*])⟩)
             first | (with_reducible refine wpL_boolT ?_) | (with_reducible refine wpL_boolF ?_) | (with_reducible refine wpL_bool (fun hB => ?_) (fun hB => ?_)) | skip
             all_goals simp only [Act.put, List.setIfInBounds_toArray, List.set_cons_zero, List.set_cons_succ]))
        refine wpL_nil (fun w4 e4 hL => ?_)
        clear hL hv
        go_wp2_with fail
        have hwr := HWR.out
        have hxm := HXM.out
        refine wp_region_L (E := Ext) (w0 := wr) (G := fun τ => match τ with | 40 => some (fun v W => IntS W.heap.size W v (signedData s ((k : Int) + 1))) | 41 => some (fun v _ => v = I (sign y.key (signedData s ((k : Int) + 1)))) | _ => none) Ext.refl (fun h k => Ext.trans h k) (by kernel_rfl) (by kernel_rfl) xg (Ext.drew (by exact e4)) ?_
        repeat' (first
          | ((with_reducible refine wpL_skip ?_ ?_ ?_)
             · rfl
             · rfl
             simp only [Act.put, List.setIfInBounds_toArray, List.set_cons_zero, List.set_cons_succ])
          | ((with_reducible refine wpL_quiet ?_ ?_ ?_ ?_)
             · rfl
             · rfl
             · rfl
             apply Exists.intro
             refine ⟨fun W hW hS => ?_, ?_⟩
             · have hC := (Ext.facts hW).1
               go_simp
               first | done | (with_reducible rfl) | (rw [if_neg (by omega)]; exact ⟨rfl, rfl⟩) | rfl
             first | (with_reducible refine wpL_boolT ?_) | (with_reducible refine wpL_boolF ?_) | (with_reducible refine wpL_bool (fun hB => ?_) (fun hB => ?_)) | skip
             all_goals simp only [Act.put, List.setIfInBounds_toArray, List.set_cons_zero, List.set_cons_succ])
          | ((refine wpL_call ?_ rfl rfl ?_ ?_ ?_)
             · rfl
             · rfl
             · intro W hW hS
               have hC := (Ext.facts hW).1
               unfold growAt
               go_simp
               simp only [growUpon]
               first | (go_at_call 46; ((with_reducible refine Calls.mono (spec_SignedData _ _ (s) _ (by exact Rs.out.ext xe) (by first | omega | (simp [rootData]; done) | (simp [certData]; done) | (simp only [List.length_cons, List.length_nil]; omega))) ?_)); rintro e w9 ⟨v9, rfl, o9, e9⟩; exact ⟨_, rfl, e9, IntSO_rd o9⟩) | (go_at_call 45; have hs40 : IntS W.heap.size W _ (signedData s ((k : Int) + 1)) := hS 40 (by decide); ((with_reducible refine Calls.mono (spec_Sign _ _ (signedData s ((k : Int) + 1)) _ (by exact hs40) (by first | omega | (simp [rootData]; done) | (simp [certData]; done) | (simp only [List.length_cons, List.length_nil]; omega))) ?_)); rintro e w9 ⟨rfl, e9⟩; exact ⟨_, rfl, e9, by first | rfl | (simp only [*])⟩)
             first | (with_reducible refine wpL_boolT ?_) | (with_reducible refine wpL_boolF ?_) | (with_reducible refine wpL_bool (fun hB => ?_) (fun hB => ?_)) | skip
             all_goals simp only [Act.put, List.setIfInBounds_toArray, List.set_cons_zero, List.set_cons_succ])
          | ((refine wpL_grow ?_ rfl rfl ?_ ?_)
             · rfl
             · intro W hW hS
               have hC := (Ext.facts hW).1
               unfold growAt
               go_simp
               simp only [growUpon]
               first | (go_at_call 46; ((with_reducible refine Calls.mono (spec_SignedData _ _ (s) _ (by exact Rs.out.ext xe) (by first | omega | (simp [rootData]; done) | (simp [certData]; done) | (simp only [List.length_cons, List.length_nil]; omega))) ?_)); rintro e w9 ⟨v9, rfl, o9, e9⟩; exact ⟨_, rfl, e9, IntSO_rd o9⟩) | (go_at_call 45; have hs40 : IntS W.heap.size W _ (signedData s ((k : Int) + 1)) := hS 40 (by decide); ((with_reducible refine Calls.mono (spec_Sign _ _ (signedData s ((k : Int) + 1)) _ (by exact hs40) (by first | omega | (simp [rootData]; done) | (simp [certData]; done) | (simp only [List.length_cons, List.length_nil]; omega))) ?_)); rintro e w9 ⟨rfl, e9⟩; exact ⟨_, rfl, e9, by first | rfl | (simp only [*])⟩)
             intro v W' hW' hv
             first  | (obtain ⟨A5, n5, c5, rfl, -⟩ := id hv; clear hv) | (obtain ⟨A5, n5, c5, rfl⟩ := NO.slice hv) | skip
             all_goals simp only [Act.put, List.setIfInBounds_toArray, List.set_cons_zero, List.set_cons_succ]))
        refine wpL_nil (fun w5 e5 hL => ?_)
        clear hL hwr hxm
        generalize sign y.key (signedData s ((k : Int) + 1)) = sg at *
        have z5 : wr.heap.size ≤ w5.heap.size := Ext.size xe
        have b5 := HB5.out.ext (w' := w5) xe
        have lb5 := b5.lt
        obtain ⟨qb5_0, qb5_1, qb5_2, qb5_3⟩ := blk4 b5
        have fb5_0 := b5.frozen 0
        have fb5_1 := b5.frozen 1
        have fb5_2 := b5.frozen 2
        have fb5_3 := b5.frozen 3
        clear b5
        go_wp2_with (at_builtin; refine hold ?_)
        refine unhold (wpList_appB (w1.heap.size + 1) rfl (.tmp 43) (.tmp 45) _ rfl 3 (.int .i64 0) 1 8 Tryz.underlying38 info_int rfl (by omega) (.slice au mu cu) sl.length (sl.map I) rfl _ 1 1 [I sg] rfl
          (by exact Own.more (lo := w1.heap.size + 1) (hi := wr.heap.size) (by repeat (first | (with_reducible exact HO.out) | (with_reducible refine Own.alloc ?_ _) | (with_reducible refine Own.setCell (p := _) ?_ (.inl ?ge) _; case ge => (first | omega | (dsimp only; omega) | (simp only [World.size_setCell]; omega) | (simp only [World.size_alloc]; omega))) | (with_reducible refine Own.ext ?_ (by with_reducible assumption) ?ge; case ge => (first | omega | (dsimp only; omega) | (simp only [World.size_setCell]; omega) | (simp only [World.size_alloc]; omega))))) (Nat.le_refl _) (by simp only [World.size_alloc]; omega)) (row_one _ _ _ _ _ rfl rfl) (one_ints [sg]) (by simp only [World.size_alloc]; omega) (by unfold maxLen; omega) (by omega) ?_)
        intro v6 w6 ho6 hg6
        obtain ⟨a6, m6, c6, hv6⟩ := ho6.slice
        subst hv6
        have hnb : (Value.slice au mu cu).ownBlock ≠ some w1.heap.size := HO.out.not_block (by omega)
        have B6 := Lib.hid (Blk.grown (w := w5.alloc _) ((HB5.out.ext (w' := w5) xe).alloc _) hg6 hnb)
        have E6 := Lib.hid (Ext.grownB (a := w1) (lo := w1.heap.size + 1) (hi := wr.heap.size) (w := w5.alloc _) xe (n := sl.length) (cs := sl.map I) (v := .slice au mu cu) (E := 3) (sz := 1) (by repeat (first | (with_reducible exact HO.out) | (with_reducible refine Own.alloc ?_ _) | (with_reducible refine Own.setCell (p := _) ?_ (.inl ?ge) _; case ge => (first | omega | (dsimp only; omega) | (simp only [World.size_setCell]; omega) | (simp only [World.size_alloc]; omega))) | (with_reducible refine Own.ext ?_ (by with_reducible assumption) ?ge; case ge => (first | omega | (dsimp only; omega) | (simp only [World.size_setCell]; omega) | (simp only [World.size_alloc]; omega))))) hg6 (by omega))
        have O6 := Lib.hid ho6; clear ho6 hg6 hnb
        clear lb5 qb5_0 qb5_1 qb5_2 qb5_3 fb5_0 fb5_1 fb5_2 fb5_3
        have b6 := B6.out
        have lb6 := b6.lt
        obtain ⟨qb6_0, qb6_1, qb6_2, qb6_3⟩ := blk4 b6
        have fb6_3 := b6.frozen 3
        clear b6
        go_wp2_with (at_builtin; refine hold ?_)
        go_roundw
        case rel => exact ⟨k + 1, _, by omega, by go_num, by simpa using B6.out.set_ 3 (.slice a6 m6 c6), by
          rw [HR.out, HVV.out]
          have h := Own.setCell (p := ⟨w1.heap.size, 3, none⟩) O6.out (.inl (by dsimp only; omega)) (.slice a6 m6 c6)
          simpa [IntSO] using h, Ext.setCell E6.out (by dsimp only; omega) _⟩
        case measure => simp [intOf]; omega
    · obtain rfl : k = s.hops.length := by omega
      have b5 := HB5.out.ext (w' := wr) xe
      have lb5 := b5.lt
      obtain ⟨qb5_0, qb5_1, qb5_2, qb5_3⟩ := blk4 b5
      have fb5_0 := b5.frozen 0
      have fb5_1 := b5.frozen 1
      have fb5_2 := b5.frozen 2
      have fb5_3 := b5.frozen 3
      clear b5
      have br := BR.out.ext (w' := wr) xe
      have lbr := br.lt
      obtain ⟨qbr_0, qbr_1, qbr_2, qbr_3⟩ := blk4 br
      have fbr_0 := br.frozen 0
      have fbr_1 := br.frozen 1
      have fbr_2 := br.frozen 2
      have fbr_3 := br.frozen 3
      clear br
      go_wp2_with fail
      have z0 : w.heap.size ≤ wr.heap.size := Ext.size (a := w) (b := wr) xe
      have z1 := e1.size
      have lr0 := BR.out.lt
      refine bodyPost_ret (v := .agg #[I s.ts, I s.beta, .slice a1 m1 q1, .slice au mu cu]) (by simp [results, Tryz.results18, go_sem, *]) rfl ⟨_, rfl, ?_, ?_⟩
      · simp only [World.size_setCell]
        refine ⟨_, _, w1.heap.size, rfl, Own.more (lo := w0.heap.size) (hi := w1.heap.size) (by unfold signSeg; dsimp only; exact (by repeat (first | (with_reducible exact OH.out) | (with_reducible refine Own.alloc ?_ _) | (with_reducible refine Own.setCell (p := _) ?_ (.inl ?ge) _; case ge => (first | omega | (dsimp only; omega) | (simp only [World.size_setCell]; omega) | (simp only [World.size_alloc]; omega))) | (with_reducible refine Own.ext ?_ (by with_reducible assumption) ?ge; case ge => (first | omega | (dsimp only; omega) | (simp only [World.size_setCell]; omega) | (simp only [World.size_alloc]; omega)))))) (by have := ew0.size; omega) (by omega), Own.more (lo := w1.heap.size + 1) (hi := wr.heap.size) (by unfold signSeg; dsimp only; exact (by repeat (first | (with_reducible exact HO.out) | (with_reducible refine Own.alloc ?_ _) | (with_reducible refine Own.setCell (p := _) ?_ (.inl ?ge) _; case ge => (first | omega | (dsimp only; omega) | (simp only [World.size_setCell]; omega) | (simp only [World.size_alloc]; omega))) | (with_reducible refine Own.ext ?_ (by with_reducible assumption) ?ge; case ge => (first | omega | (dsimp only; omega) | (simp only [World.size_setCell]; omega) | (simp only [World.size_alloc]; omega)))))) (by omega) (by omega), by have := ew0.size; omega, by omega⟩
      · exact xe
end Go.Proofs.YtddaodemdkjijaaGreat
