/- Contracts of the program's and the reference's functions on signed segments: SignedDataSize. -/
import Derived.Test.YtddaodemdkjijaaGreatGL17
import Derived.Test.YtddaodemdkjijaaGreatHSignedSegment
import Derived.Test.YtddaodemdkjijaaGreatGGrow
namespace Go.Proofs.YtddaodemdkjijaaGreat
open Go.RowKit
set_option linter.unusedVariables false
def sizeTo (s : DSegment) (k : Nat) : Nat := ((List.range k).map fun i : Nat => (signedData s ((i : Int) + 1)).length).sum
def signedSize (x : DSignedSegment) : Int := (sizeTo x.seg x.seg.hops.length : Nat)
theorem sizeTo_succ (s : DSegment) (k : Nat) : sizeTo s (k + 1) = sizeTo s k + (signedData s ((k : Int) + 1)).length := by
  unfold sizeTo
  rw [List.range_succ, List.map_append, List.sum_append]
  simp
theorem sizeTo_le (s : DSegment) (k : Nat) : sizeTo s k ≤ k * (3 + 5 * s.hops.length) := by
  induction k with
  | zero => simp [sizeTo]
  | succ k ih =>
    have h := signedData_len s ((k : Int) + 1)
    rw [sizeTo_succ, Nat.succ_mul]
    omega
theorem sizeTo_small (s : DSegment) (k : Nat) (hk : k ≤ s.hops.length) (hn : s.hops.length ≤ 1048576) : sizeTo s k ≤ 8796093022208 := by
  have h := sizeTo_le s k
  have h2 : k * (3 + 5 * s.hops.length) ≤ 1048576 * (3 + 5 * 1048576) := Nat.mul_le_mul (by omega) (by omega)
  omega
end Go.Proofs.YtddaodemdkjijaaGreat
namespace Go.Proofs.YtddaodemdkjijaaGreat
open Go.RowKit
set_option linter.unusedVariables false
/-- The first index below n with p, or -1. -/
def firstIdx (p : Nat → Bool) (n : Nat) : Int := match (List.range n).find? p with | some k => k | none => -1
theorem firstIdx_none {p : Nat → Bool} {n : Nat} (h : ∀ j, j < n → p j = false) : firstIdx p n = -1 := by
  unfold firstIdx
  rw [List.find?_eq_none.2 (fun x hx => by simp [h x (List.mem_range.1 hx)])]
theorem firstIdx_at {p : Nat → Bool} {n k : Nat} (h : ∀ j, j < k → p j = false) (hk : k < n) (hp : p k = true) : firstIdx p n = k := by
  unfold firstIdx
  have : (List.range n).find? p = some k := by
    rw [List.find?_range_eq_some]
    exact ⟨hp, List.mem_range.2 hk, fun j hj => by simp [h j hj]⟩
  rw [this]
def badSig (t : DTopology) (x : DSignedSegment) (k : Nat) : Bool :=
  !(decide (k < x.sigs.length) && verifySig t ⟨(x.seg.hops.getD k ⟨0, 0, 0, 0, 0⟩).asn, x.sigs.getD k 0⟩ (signedData x.seg ((k : Int) + 1)))
def firstBad (t : DTopology) (x : DSignedSegment) : Int := firstIdx (badSig t x) x.seg.hops.length
set_option maxRecDepth 100000 in
set_option maxHeartbeats 1000000 in
theorem impl_FirstBadSignature (vt vx : Value) (t : DTopology) (x : DSignedSegment) (w : World) (ht : TopologyV w.heap.size w vt t) (hx : SignedSegmentV w.heap.size w vx x) (hn : x.seg.hops.length ≤ 1048576) :
    Calls Tryz.prog 14 #[vt, vx] w fun e w' => e = .returned (I (firstBad t x)) ∧ Ext w w' := by
  have HT := Lib.hid ht
  obtain ⟨A0, n0, c0, A1, n1, c1, rfl, -⟩ := ht
  have HX := Lib.hid hx
  obtain ⟨A2, n2, c2, A3, n3, c3, rfl, s2, s3⟩ := hx
  obtain ⟨l2, _, m2⟩ := s2.len
  obtain ⟨l3, _, m3⟩ := s3.len
  subst l2; subst l3
  unfold maxLen at m2 m3
  have S2 := Lib.hid s2; have S3 := Lib.hid s3; clear s2 s3
  go_enter Tryz.func14, Tryz.ntmps14
  go_wp2_with fail
  have bt : Blk ((w.alloc (.cells #[.slice A0 n0 c0, .slice A1 n1 c1] 27)).alloc (.cells #[I x.seg.ts, I x.seg.beta, .slice A2 x.seg.hops.length c2, .slice A3 x.sigs.length c3] 40)) w.heap.size 27 [.slice A0 n0 c0, .slice A1 n1 c1] := (Blk.new w _ _).alloc _
  have bx : Blk ((w.alloc (.cells #[.slice A0 n0 c0, .slice A1 n1 c1] 27)).alloc (.cells #[I x.seg.ts, I x.seg.beta, .slice A2 x.seg.hops.length c2, .slice A3 x.sigs.length c3] 40)) (w.heap.size + 1) 40 [I x.seg.ts, I x.seg.beta, .slice A2 x.seg.hops.length c2, .slice A3 x.sigs.length c3] := by simpa using Blk.new (w.alloc (.cells #[.slice A0 n0 c0, .slice A1 n1 c1] 27)) 40 _
  have ew : Ext w ((w.alloc (.cells #[.slice A0 n0 c0, .slice A1 n1 c1] 27)).alloc (.cells #[I x.seg.ts, I x.seg.beta, .slice A2 x.seg.hops.length c2, .slice A3 x.sigs.length c3] 40)) := ((Ext.refl _).alloc _).alloc _
  generalize ((w.alloc (.cells #[.slice A0 n0 c0, .slice A1 n1 c1] 27)).alloc (.cells #[I x.seg.ts, I x.seg.beta, .slice A2 x.seg.hops.length c2, .slice A3 x.sigs.length c3] 40)) = w0 at *
  have BT := Lib.hid bt; have BX := Lib.hid bx; clear bt bx
  go_loopw [11] (fun i wr => ∃ k : Nat, k ≤ x.seg.hops.length ∧ i = I k ∧ (∀ j, j < k → badSig t x j = false) ∧ Ext w0 wr) (fun i _ => x.seg.hops.length - (intOf i).toNat)
  case atStart => exact ⟨0, by omega, rfl, fun j hj => absurd hj (by omega), Ext.refl _⟩
  case round =>
    obtain ⟨k, hk, rfl, hq, he⟩ := hrel
    have HQ := Lib.hid hq; clear hq
    have bt := BT.out.ext he
    have lt := bt.lt
    obtain ⟨p0, p1⟩ := blk2 bt
    have bx := BX.out.ext he
    have lx := bx.lt
    obtain ⟨q0, q1, q2, q3⟩ := blk4 bx
    clear bt bx
    by_cases hlt : k < x.seg.hops.length
    · obtain ⟨b, off, rfl, hb, hkl, hc⟩ := (S2.out.ext (ew.trans he)).at_ hlt
      have HB : Hid (badSig t x k = !(decide (k < x.sigs.length) && verifySig t ⟨x.seg.hops[k].asn, x.sigs.getD k 0⟩ (signedData x.seg ((k : Int) + 1)))) := by
        unfold Hid badSig
        rw [List.getD_eq_getElem?_getD, List.getElem?_eq_getElem hkl]
        rfl
      generalize x.seg.hops[k] = h at *
      obtain ⟨h0, h1, h2, h3, h4⟩ := hc
      have hf := signedData_len x.seg ((k : Int) + 1)
      by_cases hs : k < x.sigs.length
      · obtain ⟨b2, off2, rfl, hb2, hkl2, hc2⟩ := (S3.out.ext (ew.trans he)).at_ hs
        have HG : Hid (x.sigs.getD k 0 = x.sigs[k]) := by unfold Hid; simp [List.getD_eq_getElem?_getD, hs]
        generalize x.sigs[k] = z at *
        have hc2 : wr.cell? ⟨b2, off2 + k, none⟩ = some (I z) := hc2
        have hd : decide (x.sigs.length ≤ k) = false := by simp; omega
        have hwr : IntKind.i64.wrap ((k : Int) + 1) = (k : Int) + 1 := IntWalk.i64_in _ (by omega)
        go_wp2_with fail
        refine name_wp (fun w1 => Ext wr w1 ∧ Blk w1 wr.heap.size 67 [I h.asn, I h.ing, I h.egr, I h.exp, I h.mac]) ⟨(Ext.refl _).alloc _, Blk.new _ _ _⟩ ?_
        rintro w1 ⟨e1, bh⟩
        obtain ⟨hC1, -, hz1⟩ := e1.facts
        have lh := bh.lt
        obtain ⟨r0, r1, r2, r3, r4⟩ := blk5 bh
        have la : w.heap.size < w1.heap.size := by omega
        have lb : w.heap.size + 1 < w1.heap.size := by omega
        have lc : b < w1.heap.size := by omega
        have ld : b2 < w1.heap.size := by omega
        refine wp_region_L (E := Ext) (w0 := w1) (G := fun τ => match τ with | 35 => some (fun v W => IntS W.heap.size W v (signedData x.seg ((k : Int) + 1))) | 36 => some (fun v _ => v = .bool (verifySig t ⟨h.asn, z⟩ (signedData x.seg ((k : Int) + 1)))) | _ => none) Ext.refl (fun h k => Ext.trans h k) (by kernel_rfl) (by kernel_rfl) (by
            intro t φ hG
            split at hG
            all_goals first | (cases hG; done) | (cases Option.some.inj hG; intro v W W' hE hv; first | exact hv | exact IntS.ext hv hE | exact hv.ext hE)) (Ext.drew (by exact Ext.refl _)) ?_
        repeat' (first
          | ((with_reducible refine wpL_skip ?_ ?_ ?_)
             · rfl
             · rfl
             simp only [Act.put, List.setIfInBounds_toArray, List.set_cons_zero, List.set_cons_succ])
          | ((with_reducible refine wpL_quiet ?_ ?_ ?_ ?_)
             · rfl
             · rfl
             · rfl
             apply Exists.intro
             refine ⟨fun W hW hS => ?_, ?_⟩
             · have hC := (Ext.facts hW).1
               go_simp
               first | done | (with_reducible rfl) | (rw [if_neg (by omega)]; exact ⟨rfl, rfl⟩) | rfl
             first | (with_reducible refine wpL_boolT ?_) | (with_reducible refine wpL_boolF ?_) | (with_reducible refine wpL_bool (fun hB => ?_) (fun hB => ?_)) | skip
             all_goals simp only [Act.put, List.setIfInBounds_toArray, List.set_cons_zero, List.set_cons_succ])
          | ((refine wpL_call ?_ rfl rfl ?_ ?_ ?_)
             · rfl
             · rfl
             · intro W hW hS
               have hC := (Ext.facts hW).1
               unfold growAt
               go_simp
               simp only [growUpon]
               first | (go_at_call 37; refine (impl_SignedData _ _ x.seg _ (by exact ⟨_, _, _, rfl, S2.out.ext (((ew.trans he).trans e1).trans hW)⟩) (by omega)).mono ?_; rintro e w2 ⟨v2, rfl, o2, e2⟩; exact ⟨_, rfl, e2, IntSO_rd o2⟩) | (go_at_call 36; refine (impl_VerifySignature _ ⟨h.asn, z⟩ _ t (signedData x.seg ((k : Int) + 1)) _ (by exact HT.out.ext (((ew.trans he).trans e1).trans hW)) (by exact hS 35 (by decide)) (by omega)).mono ?_; rintro e w2 ⟨rfl, e2⟩; exact ⟨_, rfl, e2, rfl⟩)
             first | (with_reducible refine wpL_boolT ?_) | (with_reducible refine wpL_boolF ?_) | (with_reducible refine wpL_bool (fun hB => ?_) (fun hB => ?_)) | skip
             all_goals simp only [Act.put, List.setIfInBounds_toArray, List.set_cons_zero, List.set_cons_succ])
          | ((refine wpL_grow ?_ rfl rfl ?_ ?_)
             · rfl
             · intro W hW hS
               have hC := (Ext.facts hW).1
               unfold growAt
               go_simp
               simp only [growUpon]
               first | (go_at_call 37; refine (impl_SignedData _ _ x.seg _ (by exact ⟨_, _, _, rfl, S2.out.ext (((ew.trans he).trans e1).trans hW)⟩) (by omega)).mono ?_; rintro e w2 ⟨v2, rfl, o2, e2⟩; exact ⟨_, rfl, e2, IntSO_rd o2⟩) | (go_at_call 36; refine (impl_VerifySignature _ ⟨h.asn, z⟩ _ t (signedData x.seg ((k : Int) + 1)) _ (by exact HT.out.ext (((ew.trans he).trans e1).trans hW)) (by exact hS 35 (by decide)) (by omega)).mono ?_; rintro e w2 ⟨rfl, e2⟩; exact ⟨_, rfl, e2, rfl⟩)
             intro v W' hW' hv
             first | (obtain ⟨A5, n5, c5, rfl, -⟩ := id hv; clear hv)
             all_goals simp only [Act.put, List.setIfInBounds_toArray, List.set_cons_zero, List.set_cons_succ]))
        all_goals (refine wpL_nil (fun W hW hL => ?_); clear hL)
        · have hB' : verifySig t ⟨h.asn, z⟩ (signedData x.seg ((k : Int) + 1)) = true := by assumption
          go_wp2_with fail
          go_roundw
          case rel => exact ⟨k + 1, by omega, by go_num, fun j hj => by
            rcases Nat.lt_succ_iff_lt_or_eq.1 hj with hj | rfl
            · exact HQ.out j hj
            · rw [HB.out, HG.out, hB']; simp [hs], (he.trans e1).trans hW⟩
          case measure => simp [intOf]; omega
        · have hB' : verifySig t ⟨h.asn, z⟩ (signedData x.seg ((k : Int) + 1)) = false := by assumption
          go_wp2_with fail
          go_ret
          exact ⟨ret_int (firstIdx_at HQ.out hlt (by rw [HB.out, HG.out, hB']; simp)).symm, ew.trans ((he.trans e1).trans hW)⟩
      · have hd : decide (x.sigs.length ≤ k) = true := by simp; omega
        go_wp2_with fail
        refine name_wp (fun w1 => Ext wr w1 ∧ Blk w1 wr.heap.size 67 [I h.asn, I h.ing, I h.egr, I h.exp, I h.mac]) ⟨(Ext.refl _).alloc _, Blk.new _ _ _⟩ ?_
        rintro w1 ⟨e1, bh⟩
        obtain ⟨hC1, -, hz1⟩ := e1.facts
        have lh := bh.lt
        have la : w.heap.size < w1.heap.size := by omega
        have lb : w.heap.size + 1 < w1.heap.size := by omega
        have lc : b < w1.heap.size := by omega
        refine wp_region_L (E := Ext) (w0 := w1) (G := fun τ => match τ with | 0 => none | _ => none) Ext.refl (fun h k => Ext.trans h k) (by kernel_rfl) (by kernel_rfl) (by
            intro t φ hG
            split at hG
            all_goals first | (cases hG; done) | (cases Option.some.inj hG; intro v W W' hE hv; first | exact hv | exact IntS.ext hv hE | exact hv.ext hE)) (Ext.drew (by exact Ext.refl _)) ?_
        repeat' (first
          | ((with_reducible refine wpL_skip ?_ ?_ ?_)
             · rfl
             · rfl
             simp only [Act.put, List.setIfInBounds_toArray, List.set_cons_zero, List.set_cons_succ])
          | ((with_reducible refine wpL_quiet ?_ ?_ ?_ ?_)
             · rfl
             · rfl
             · rfl
             apply Exists.intro
             refine ⟨fun W hW hS => ?_, ?_⟩
             · have hC := (Ext.facts hW).1
               go_simp
               first | done | (with_reducible rfl) | (rw [if_neg (by omega)]; exact ⟨rfl, rfl⟩) | rfl
             first | (with_reducible refine wpL_boolT ?_) | (with_reducible refine wpL_boolF ?_) | (with_reducible refine wpL_bool (fun hB => ?_) (fun hB => ?_)) | skip
             all_goals simp only [Act.put, List.setIfInBounds_toArray, List.set_cons_zero, List.set_cons_succ])
          | ((refine wpL_call ?_ rfl rfl ?_ ?_ ?_)
             · rfl
             · rfl
             · intro W hW hS
               have hC := (Ext.facts hW).1
               unfold growAt
               go_simp
               simp only [growUpon]
               first | fail
             first | (with_reducible refine wpL_boolT ?_) | (with_reducible refine wpL_boolF ?_) | (with_reducible refine wpL_bool (fun hB => ?_) (fun hB => ?_)) | skip
             all_goals simp only [Act.put, List.setIfInBounds_toArray, List.set_cons_zero, List.set_cons_succ])
          | ((refine wpL_grow ?_ rfl rfl ?_ ?_)
             · rfl
             · intro W hW hS
               have hC := (Ext.facts hW).1
               unfold growAt
               go_simp
               simp only [growUpon]
               first | fail
             intro v W' hW' hv
             first | fail
             all_goals simp only [Act.put, List.setIfInBounds_toArray, List.set_cons_zero, List.set_cons_succ]))
        refine wpL_nil (fun W hW hL => ?_)
        go_wp2_with fail
        go_ret
        exact ⟨ret_int (firstIdx_at HQ.out hlt (by rw [HB.out]; simp [hs])).symm, ew.trans ((he.trans e1).trans hW)⟩
    · go_wp2_with fail
      go_ret
      exact ⟨ret_int (firstIdx_none (fun j hj => HQ.out j (by omega))).symm, ew.trans he⟩
set_option maxRecDepth 100000 in
set_option maxHeartbeats 1000000 in
theorem spec_FirstBadSignature (vt vx : Value) (t : DTopology) (x : DSignedSegment) (w : World) (ht : TopologyV w.heap.size w vt t) (hx : SignedSegmentV w.heap.size w vx x) (hn : x.seg.hops.length ≤ 1048576) :
    Calls Tryz.prog 28 #[vt, vx] w fun e w' => e = .returned (I (firstBad t x)) ∧ Ext w w' := by
  obtain ⟨At_0, nt_0, ct_0, At_1, nt_1, ct_1, rfl, st_0, st_1⟩ := id ht
  obtain ⟨lt_0, kt_0, mt_0⟩ := st_0.len
  subst lt_0
  unfold maxLen at mt_0
  obtain ⟨lt_1, kt_1, mt_1⟩ := st_1.len
  subst lt_1
  unfold maxLen at mt_1
  have Rt := Lib.hid ht; clear ht
  have St_0 := Lib.hid st_0; clear st_0
  have St_1 := Lib.hid st_1; clear st_1
  obtain ⟨Ax_2, nx_2, cx_2, Ax_3, nx_3, cx_3, rfl, sx_2, sx_3⟩ := id hx
  obtain ⟨lx_2, kx_2, mx_2⟩ := sx_2.len
  subst lx_2
  unfold maxLen at mx_2
  obtain ⟨lx_3, kx_3, mx_3⟩ := sx_3.len
  subst lx_3
  unfold maxLen at mx_3
  have Rx := Lib.hid hx; clear hx
  have Sx_2 := Lib.hid sx_2; clear sx_2
  have Sx_3 := Lib.hid sx_3; clear sx_3
  go_enter Tryz.func28, Tryz.ntmps28
  go_wp2_with fail
  first | refine name_wp ?_ ?_ ?_ | refine name_calls ?_ ?_ ?_
  exact (fun W => Ext w W ∧ Blk W (w.heap.size) 27 [.slice At_0 t.ases.length ct_0, .slice At_1 t.links.length ct_1] ∧ Blk W (w.heap.size + 1) 40 [I x.seg.ts, I x.seg.beta, .slice Ax_2 x.seg.hops.length cx_2, .slice Ax_3 x.sigs.length cx_3])
  exact ⟨xe, xb, xb⟩
  rintro w0 ⟨ew0, bt, bx⟩
  have lt := bt.lt
  obtain ⟨pt_0, pt_1⟩ := blk2 bt
  have Bt := Lib.hid bt; clear bt
  have lx := bx.lt
  obtain ⟨px_0, px_1, px_2, px_3⟩ := blk4 bx
  have Bx := Lib.hid bx; clear bx
  go_loopw [5] (fun i wr => ∃ k : Nat, k ≤ x.seg.hops.length ∧ i = I k ∧ (∀ j, j < k → badSig t x j = false) ∧ Ext w0 wr) (fun i _ => x.seg.hops.length - (intOf i).toNat)
  case atStart => exact ⟨0, by omega, rfl, fun j hj => absurd hj (by omega), Ext.refl _⟩
  case round =>
    obtain ⟨k, hk, rfl, hq, he⟩ := hrel
    have HQ := Lib.hid hq; clear hq
    have bt := Bt.out.ext (w' := wr) xe
    have lt := bt.lt
    obtain ⟨pt_0, pt_1⟩ := blk2 bt
    clear bt
    have bx := Bx.out.ext (w' := wr) xe
    have lx := bx.lt
    obtain ⟨px_0, px_1, px_2, px_3⟩ := blk4 bx
    clear bx
    by_cases hlt : k < x.seg.hops.length
    · obtain ⟨b, off, rfl, hb, hkl, hc⟩ := (Sx_2.out.ext (w' := wr) xe).at_ hlt
      have HB : Hid (badSig t x k = !(decide (k < x.sigs.length) && verifySig t ⟨x.seg.hops[k].asn, x.sigs.getD k 0⟩ (signedData x.seg ((k : Int) + 1)))) := by
        unfold Hid badSig
        rw [List.getD_eq_getElem?_getD, List.getElem?_eq_getElem hkl]
        rfl
      generalize x.seg.hops[k] = h at *
      obtain ⟨h0, h1, h2, h3, h4⟩ := hc
      have hf := signedData_len x.seg ((k : Int) + 1)
      have i0 : (0 : Int) ≤ (k : Int) := by omega
      have i1 : (k : Int) < (x.seg.hops.length : Int) := by omega
      by_cases hs : k < x.sigs.length
      · obtain ⟨b2, off2, rfl, hb2, hkl2, hc2⟩ := (Sx_3.out.ext (w' := wr) xe).at_ hs
        have HG : Hid (x.sigs.getD k 0 = x.sigs[k]) := by unfold Hid; simp [List.getD_eq_getElem?_getD, hs]
        generalize x.sigs[k] = z at *
        have hc2 : wr.cell? ⟨b2, off2 + k, none⟩ = some (I z) := hc2
        have hd : decide (x.sigs.length ≤ k) = false := by simp; omega
        have i2 : (k : Int) < (x.sigs.length : Int) := by omega
        have hwr : IntKind.i64.wrap ((k : Int) + 1) = (k : Int) + 1 := IntWalk.i64_in _ (by omega)
        have HW := Lib.hid hwr; clear hwr
        go_wp2_with fail
        have hwr := HW.out
        refine wp_region_L (E := Ext) (w0 := wr) (G := fun τ => match τ with | 38 => some (fun v W => IntS W.heap.size W v (signedData x.seg ((k : Int) + 1))) | 39 => some (fun v _ => v = .bool (verifySig t ⟨h.asn, z⟩ (signedData x.seg ((k : Int) + 1)))) | _ => none) Ext.refl (fun h k => Ext.trans h k) (by kernel_rfl) (by kernel_rfl) (by
            intro t φ hG
            split at hG
            all_goals first | (cases hG; done) | (cases Option.some.inj hG; intro v W W' hE hv; first | exact hv | exact IntS.ext hv hE | exact hv.ext hE)) (Ext.drew (by exact Ext.refl _)) ?_
        repeat' (first
          | ((with_reducible refine wpL_skip ?_ ?_ ?_)
             · rfl
             · rfl
             simp only [Act.put, List.setIfInBounds_toArray, List.set_cons_zero, List.set_cons_succ])
          | ((with_reducible refine wpL_quiet ?_ ?_ ?_ ?_)
             · rfl
             · rfl
             · rfl
             apply Exists.intro
             refine ⟨fun W hW hS => ?_, ?_⟩
             · have hC := (Ext.facts hW).1
               go_simp
               first | done | (with_reducible rfl) | (rw [if_neg (by omega)]; exact ⟨rfl, rfl⟩) | rfl
             first | (with_reducible refine wpL_boolT ?_) | (with_reducible refine wpL_boolF ?_) | (with_reducible refine wpL_bool (fun hB => ?_) (fun hB => ?_)) | skip
             all_goals simp only [Act.put, List.setIfInBounds_toArray, List.set_cons_zero, List.set_cons_succ])
          | ((refine wpL_call ?_ rfl rfl ?_ ?_ ?_)
             · rfl
             · rfl
             · intro W hW hS
               have hC := (Ext.facts hW).1
               unfold growAt
               go_simp
               simp only [growUpon]
               first | (go_at_call 46; refine (spec_SignedData _ _ x.seg _ (by exact ⟨_, _, _, rfl, Sx_2.out.ext (Ext.trans (by first | exact ew0.trans he | exact he) hW)⟩) (by omega)).mono ?_; rintro e w2 ⟨v2, rfl, o2, e2⟩; exact ⟨_, rfl, e2, IntSO_rd o2⟩) | (go_at_call 64; refine (spec_VerifySignature _ ⟨h.asn, z⟩ _ t (signedData x.seg ((k : Int) + 1)) _ (by exact Rt.out.ext ((ew0.trans he).trans hW)) (by exact hS 38 (by decide)) (by omega)).mono ?_; rintro e w2 ⟨rfl, e2⟩; exact ⟨_, rfl, e2, rfl⟩)
             first | (with_reducible refine wpL_boolT ?_) | (with_reducible refine wpL_boolF ?_) | (with_reducible refine wpL_bool (fun hB => ?_) (fun hB => ?_)) | skip
             all_goals simp only [Act.put, List.setIfInBounds_toArray, List.set_cons_zero, List.set_cons_succ])
          | ((refine wpL_grow ?_ rfl rfl ?_ ?_)
             · rfl
             · intro W hW hS
               have hC := (Ext.facts hW).1
               unfold growAt
               go_simp
               simp only [growUpon]
               first | (go_at_call 46; refine (spec_SignedData _ _ x.seg _ (by exact ⟨_, _, _, rfl, Sx_2.out.ext (Ext.trans (by first | exact ew0.trans he | exact he) hW)⟩) (by omega)).mono ?_; rintro e w2 ⟨v2, rfl, o2, e2⟩; exact ⟨_, rfl, e2, IntSO_rd o2⟩) | (go_at_call 64; refine (spec_VerifySignature _ ⟨h.asn, z⟩ _ t (signedData x.seg ((k : Int) + 1)) _ (by exact Rt.out.ext ((ew0.trans he).trans hW)) (by exact hS 38 (by decide)) (by omega)).mono ?_; rintro e w2 ⟨rfl, e2⟩; exact ⟨_, rfl, e2, rfl⟩)
             intro v W' hW' hv
             first | (obtain ⟨A5, n5, c5, rfl, -⟩ := id hv; clear hv)
             all_goals simp only [Act.put, List.setIfInBounds_toArray, List.set_cons_zero, List.set_cons_succ]))
        all_goals (refine wpL_nil (fun W hW hL => ?_); clear hL hwr)
        · have hB' : verifySig t ⟨h.asn, z⟩ (signedData x.seg ((k : Int) + 1)) = true := by assumption
          go_wp2_with fail
          go_roundw
          case rel => exact ⟨k + 1, by omega, by go_num, fun j hj => by
            rcases Nat.lt_succ_iff_lt_or_eq.1 hj with hj | rfl
            · exact HQ.out j hj
            · rw [HB.out, HG.out, hB']; simp [hs], he.trans hW⟩
          case measure => simp [intOf]; omega
        · have hB' : verifySig t ⟨h.asn, z⟩ (signedData x.seg ((k : Int) + 1)) = false := by assumption
          go_wp2_with fail
          go_ret
          exact ⟨ret_int (firstIdx_at HQ.out hlt (by rw [HB.out, HG.out, hB']; simp)).symm, ew0.trans (he.trans hW)⟩
      · have hd : decide (x.sigs.length ≤ k) = true := by simp; omega
        go_wp2_with fail
        refine wp_region_L (E := Ext) (w0 := wr) (G := fun τ => match τ with | 0 => none | _ => none) Ext.refl (fun h k => Ext.trans h k) (by kernel_rfl) (by kernel_rfl) (by
            intro t φ hG
            split at hG
            all_goals first | (cases hG; done) | (cases Option.some.inj hG; intro v W W' hE hv; first | exact hv | exact IntS.ext hv hE | exact hv.ext hE)) (Ext.drew (by exact Ext.refl _)) ?_
        repeat' (first
          | ((with_reducible refine wpL_skip ?_ ?_ ?_)
             · rfl
             · rfl
             simp only [Act.put, List.setIfInBounds_toArray, List.set_cons_zero, List.set_cons_succ])
          | ((with_reducible refine wpL_quiet ?_ ?_ ?_ ?_)
             · rfl
             · rfl
             · rfl
             apply Exists.intro
             refine ⟨fun W hW hS => ?_, ?_⟩
             · have hC := (Ext.facts hW).1
               go_simp
               first | done | (with_reducible rfl) | (rw [if_neg (by omega)]; exact ⟨rfl, rfl⟩) | rfl
             first | (with_reducible refine wpL_boolT ?_) | (with_reducible refine wpL_boolF ?_) | (with_reducible refine wpL_bool (fun hB => ?_) (fun hB => ?_)) | skip
             all_goals simp only [Act.put, List.setIfInBounds_toArray, List.set_cons_zero, List.set_cons_succ])
          | ((refine wpL_call ?_ rfl rfl ?_ ?_ ?_)
             · rfl
             · rfl
             · intro W hW hS
               have hC := (Ext.facts hW).1
               unfold growAt
               go_simp
               simp only [growUpon]
               first | fail
             first | (with_reducible refine wpL_boolT ?_) | (with_reducible refine wpL_boolF ?_) | (with_reducible refine wpL_bool (fun hB => ?_) (fun hB => ?_)) | skip
             all_goals simp only [Act.put, List.setIfInBounds_toArray, List.set_cons_zero, List.set_cons_succ])
          | ((refine wpL_grow ?_ rfl rfl ?_ ?_)
             · rfl
             · intro W hW hS
               have hC := (Ext.facts hW).1
               unfold growAt
               go_simp
               simp only [growUpon]
               first | fail
             intro v W' hW' hv
             first | fail
             all_goals simp only [Act.put, List.setIfInBounds_toArray, List.set_cons_zero, List.set_cons_succ]))
        refine wpL_nil (fun W hW hL => ?_)
        go_wp2_with fail
        go_ret
        exact ⟨ret_int (firstIdx_at HQ.out hlt (by rw [HB.out]; simp [hs])).symm, ew0.trans (he.trans hW)⟩
    · go_wp2_with fail
      go_ret
      exact ⟨ret_int (firstIdx_none (fun j hj => HQ.out j (by omega))).symm, ew0.trans he⟩
end Go.Proofs.YtddaodemdkjijaaGreat
