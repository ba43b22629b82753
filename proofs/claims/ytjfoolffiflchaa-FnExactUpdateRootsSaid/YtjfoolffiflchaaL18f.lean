/- Contracts of the program's and the reference's functions on trust roots: ActiveRoot. -/
import Derived.Test.YtjfoolffiflchaaL18e
namespace Go.Proofs.Ytjfoolffiflchaa
open Go.RowKit
set_option linter.unusedVariables false
def rootOkAt (x : DTrustRoot) (now : Int) : Bool := inR now x.notBefore x.notAfter
/-- The last index below n with p, or -1. -/
def lastIdx (p : Nat → Bool) : Nat → Int
  | 0 => -1
  | n + 1 => if p n then n else lastIdx p n
theorem lastIdx_none {p : Nat → Bool} : ∀ {n : Nat}, (∀ j, j < n → p j = false) → lastIdx p n = -1
  | 0, _ => rfl
  | n + 1, h => by rw [lastIdx, h n (by omega)]; exact lastIdx_none (n := n) fun j hj => h j (by omega)
theorem lastIdx_skip {p : Nat → Bool} {n : Nat} (h : p n = false) : lastIdx p (n + 1) = lastIdx p n := by rw [lastIdx, h]; rfl
theorem lastIdx_at {p : Nat → Bool} {n : Nat} (h : p n = true) : lastIdx p (n + 1) = n := by rw [lastIdx, h]; rfl
theorem lastIdx_bounds {p : Nat → Bool} : ∀ {n : Nat}, -1 ≤ lastIdx p n ∧ lastIdx p n < n
  | 0 => by simp [lastIdx]
  | n + 1 => by
    have := lastIdx_bounds (p := p) (n := n)
    rw [lastIdx]
    split <;> omega
def activeRoot (t : DTopology) (l : List DTrustRoot) (now : Int) : Int := if validChain t l then lastIdx (fun k => rootOkAt (l.getD k dRoot) now) l.length else -1
theorem activeRoot_bounds (t : DTopology) (l : List DTrustRoot) (now : Int) : -1 ≤ activeRoot t l now ∧ activeRoot t l now < l.length := by
  unfold activeRoot
  split
  · exact lastIdx_bounds
  · omega
theorem getD_at {α : Type} {l : List α} {k : Nat} {d : α} (h : k < l.length) : l.getD k d = l[k] := by simp [List.getD_eq_getElem?_getD, h]
set_option maxRecDepth 100000 in
set_option maxHeartbeats 1000000 in
theorem impl_rootValidAt (vx : Value) (now : Int) (x : DTrustRoot) (w : World) (hx : TrustRootV w.heap.size w vx x) :
    Calls Try.prog 88 #[vx, I now] w fun e w' => e = .returned (.bool (rootOkAt x now)) ∧ Ext w w' := by
  obtain ⟨Ax_6, nx_6, cx_6, rfl, sx_6⟩ := id hx
  obtain ⟨lx_6, kx_6, mx_6⟩ := sx_6.len
  subst lx_6
  unfold maxLen at mx_6
  have Rx := Lib.hid hx; clear hx
  have Sx_6 := Lib.hid sx_6; clear sx_6
  go_enter Try.func88, Try.ntmps88
  go_wp2_with fail
  refine (impl_InRange _ _ _ _).mono ?_
  rintro e w1 ⟨rfl, rfl⟩
  go_wp2_with fail
  go_ret
  exact ⟨rfl, (by repeat (first | (with_reducible exact Ext.refl _) | (with_reducible assumption) | (with_reducible refine Ext.alloc ?_ _) | (with_reducible refine Ext.drew ?_) | (with_reducible refine Ext.drewN ?_ _) | (with_reducible refine Ext.setCell (p := _) ?_ ?ge _; case ge => (dsimp only; omega)) | (with_reducible refine Ext.trans ?_ (by with_reducible assumption))))⟩
set_option maxRecDepth 100000 in
set_option maxHeartbeats 1000000 in
theorem impl_ActiveRoot (vt vl : Value) (now : Int) (t : DTopology) (l : List DTrustRoot) (w : World) (ht : TopologyV w.heap.size w vt t) (hl : TrustRootS w.heap.size w vl l) :
    Calls Try.prog 40 #[vt, vl, I now] w fun e w' => e = .returned (I (activeRoot t l now)) ∧ Ext w w' := by
  obtain ⟨At_0, nt_0, ct_0, At_1, nt_1, ct_1, rfl, st_0, st_1⟩ := id ht
  obtain ⟨lt_0, kt_0, mt_0⟩ := st_0.len
  subst lt_0
  unfold maxLen at mt_0
  obtain ⟨lt_1, kt_1, mt_1⟩ := st_1.len
  subst lt_1
  unfold maxLen at mt_1
  have Rt := Lib.hid ht; clear ht
  have St_0 := Lib.hid st_0; clear st_0
  have St_1 := Lib.hid st_1; clear st_1
  obtain ⟨Al, nl, cl, rfl, ll, kl, ml, -⟩ := id hl
  subst ll
  unfold maxLen at ml
  have Rl := Lib.hid hl; clear hl
  cases hv : validChain t l
  · have HF : Hid (activeRoot t l now = -1) := by unfold Hid; simp [activeRoot, hv]
    go_enter Try.func40, Try.ntmps40
    go_wp2_with fail
    refine (impl_ValidRootChain _ _ (t) (l) _ (by exact Rt.out.ext (by repeat (first | (with_reducible exact Ext.refl _) | (with_reducible assumption) | (with_reducible refine Ext.alloc ?_ _) | (with_reducible refine Ext.drew ?_) | (with_reducible refine Ext.drewN ?_ _) | (with_reducible refine Ext.setCell (p := _) ?_ ?ge _; case ge => (dsimp only; omega)) | (with_reducible refine Ext.trans ?_ (by with_reducible assumption))))) (by exact Rl.out.ext (by repeat (first | (with_reducible exact Ext.refl _) | (with_reducible assumption) | (with_reducible refine Ext.alloc ?_ _) | (with_reducible refine Ext.drew ?_) | (with_reducible refine Ext.drewN ?_ _) | (with_reducible refine Ext.setCell (p := _) ?_ ?ge _; case ge => (dsimp only; omega)) | (with_reducible refine Ext.trans ?_ (by with_reducible assumption)))))).mono ?_
    rintro e w1 ⟨rfl, ew1⟩
    rw [hv]
    go_wp2_with fail
    go_ret
    exact ⟨ret_int HF.out.symm, (by repeat (first | (with_reducible exact Ext.refl _) | (with_reducible assumption) | (with_reducible refine Ext.alloc ?_ _) | (with_reducible refine Ext.drew ?_) | (with_reducible refine Ext.drewN ?_ _) | (with_reducible refine Ext.setCell (p := _) ?_ ?ge _; case ge => (dsimp only; omega)) | (with_reducible refine Ext.trans ?_ (by with_reducible assumption))))⟩
  · have HF : Hid (activeRoot t l now = lastIdx (fun k => rootOkAt (l.getD k dRoot) now) l.length) := by unfold Hid; simp [activeRoot, hv]
    go_enter Try.func40, Try.ntmps40
    go_wp2_with fail
    refine (impl_ValidRootChain _ _ (t) (l) _ (by exact Rt.out.ext (by repeat (first | (with_reducible exact Ext.refl _) | (with_reducible assumption) | (with_reducible refine Ext.alloc ?_ _) | (with_reducible refine Ext.drew ?_) | (with_reducible refine Ext.drewN ?_ _) | (with_reducible refine Ext.setCell (p := _) ?_ ?ge _; case ge => (dsimp only; omega)) | (with_reducible refine Ext.trans ?_ (by with_reducible assumption))))) (by exact Rl.out.ext (by repeat (first | (with_reducible exact Ext.refl _) | (with_reducible assumption) | (with_reducible refine Ext.alloc ?_ _) | (with_reducible refine Ext.drew ?_) | (with_reducible refine Ext.drewN ?_ _) | (with_reducible refine Ext.setCell (p := _) ?_ ?ge _; case ge => (dsimp only; omega)) | (with_reducible refine Ext.trans ?_ (by with_reducible assumption)))))).mono ?_
    rintro e w1 ⟨rfl, ew1⟩
    rw [hv]
    clear hv
    go_wp2_with fail
    go_loopw [7] (fun i wr => ∃ k : Nat, k ≤ l.length ∧ i = I ((k : Int) - 1) ∧ activeRoot t l now = lastIdx (fun k => rootOkAt (l.getD k dRoot) now) k ∧ Ext w1 wr) (fun i _ => (intOf i + 1).toNat)
    case atStart => exact ⟨l.length, by omega, rfl, HF.out, Ext.refl _⟩
    case round =>
      obtain ⟨k, hk, rfl, hq, he⟩ := hrel
      have HQ := Lib.hid hq; clear hq
      by_cases hlt : 0 < k
      · obtain ⟨m, rfl⟩ : ∃ m, k = m + 1 := ⟨k - 1, by omega⟩
        have e1 : ((m + 1 : Nat) : Int) - 1 = (m : Int) := by omega
        rw [e1]
        have hml : m < l.length := by omega
        obtain ⟨b, off, rfl, hb, hkl, hc⟩ := (Rl.out.ext (w' := wr) (by repeat (first | (with_reducible exact Ext.refl _) | (with_reducible assumption) | (with_reducible refine Ext.alloc ?_ _) | (with_reducible refine Ext.drew ?_) | (with_reducible refine Ext.drewN ?_ _) | (with_reducible refine Ext.setCell (p := _) ?_ ?ge _; case ge => (dsimp only; omega)) | (with_reducible refine Ext.trans ?_ (by with_reducible assumption))))).at_ hml
        have HG : Hid (l.getD m dRoot = l[m]) := getD_at hkl
        have i0 : (0 : Int) ≤ (m : Int) := by omega
        have i1 : (m : Int) < (l.length : Int) := by omega
        clear e1
        generalize l[m] = x at *
        obtain ⟨Ax_6, nx_6, cx_6, hx_0, hx_1, hx_2, hx_3, hx_4, hx_5, hx_6, sx_6⟩ := hc
        obtain ⟨lx_6, kx_6, mx_6⟩ := sx_6.len
        subst lx_6
        unfold maxLen at mx_6
        have Rx : Hid (TrustRootV wr.heap.size wr (.agg #[I x.isd, I x.version, I x.notBefore, I x.notAfter, I x.voters, I x.quorum, .slice Ax_6 x.sigs.length cx_6]) x) := ⟨_, _, _, rfl, sx_6⟩
        have Sx_6 := Lib.hid sx_6; clear sx_6
        cases hv : rootOkAt x now
        · have HN : Hid (activeRoot t l now = lastIdx (fun k => rootOkAt (l.getD k dRoot) now) m) := by
            unfold Hid
            rw [HQ.out, lastIdx_skip (by rw [HG.out]; exact hv)]
          go_wp2_with fail
          refine (impl_rootValidAt _ _ (x) _ (by exact Rx.out.ext (by repeat (first | (with_reducible exact Ext.refl _) | (with_reducible assumption) | (with_reducible refine Ext.alloc ?_ _) | (with_reducible refine Ext.drew ?_) | (with_reducible refine Ext.drewN ?_ _) | (with_reducible refine Ext.setCell (p := _) ?_ ?ge _; case ge => (dsimp only; omega)) | (with_reducible refine Ext.trans ?_ (by with_reducible assumption)))))).mono ?_
          rintro e w2 ⟨rfl, ew2⟩
          rw [hv]
          go_wp2_with fail
          go_roundw
          case rel => exact ⟨m, by omega, rfl, HN.out, (by repeat (first | (with_reducible exact Ext.refl _) | (with_reducible assumption) | (with_reducible refine Ext.alloc ?_ _) | (with_reducible refine Ext.drew ?_) | (with_reducible refine Ext.drewN ?_ _) | (with_reducible refine Ext.setCell (p := _) ?_ ?ge _; case ge => (dsimp only; omega)) | (with_reducible refine Ext.trans ?_ (by with_reducible assumption))))⟩
          case measure => first | (simp [intOf]; done) | (simp [intOf]; omega)
        · have HN : Hid (activeRoot t l now = m) := by
            unfold Hid
            rw [HQ.out, lastIdx_at (by rw [HG.out]; exact hv)]
          go_wp2_with fail
          refine (impl_rootValidAt _ _ (x) _ (by exact Rx.out.ext (by repeat (first | (with_reducible exact Ext.refl _) | (with_reducible assumption) | (with_reducible refine Ext.alloc ?_ _) | (with_reducible refine Ext.drew ?_) | (with_reducible refine Ext.drewN ?_ _) | (with_reducible refine Ext.setCell (p := _) ?_ ?ge _; case ge => (dsimp only; omega)) | (with_reducible refine Ext.trans ?_ (by with_reducible assumption)))))).mono ?_
          rintro e w2 ⟨rfl, ew2⟩
          rw [hv]
          go_wp2_with fail
          go_ret
          exact ⟨ret_int HN.out.symm, (by repeat (first | (with_reducible exact Ext.refl _) | (with_reducible assumption) | (with_reducible refine Ext.alloc ?_ _) | (with_reducible refine Ext.drew ?_) | (with_reducible refine Ext.drewN ?_ _) | (with_reducible refine Ext.setCell (p := _) ?_ ?ge _; case ge => (dsimp only; omega)) | (with_reducible refine Ext.trans ?_ (by with_reducible assumption))))⟩
      · obtain rfl : k = 0 := by omega
        go_wp2_with fail
        go_ret
        exact ⟨ret_int HQ.out.symm, (by repeat (first | (with_reducible exact Ext.refl _) | (with_reducible assumption) | (with_reducible refine Ext.alloc ?_ _) | (with_reducible refine Ext.drew ?_) | (with_reducible refine Ext.drewN ?_ _) | (with_reducible refine Ext.setCell (p := _) ?_ ?ge _; case ge => (dsimp only; omega)) | (with_reducible refine Ext.trans ?_ (by with_reducible assumption))))⟩
set_option maxRecDepth 100000 in
set_option maxHeartbeats 1000000 in
theorem spec_ActiveRoot (vt vl : Value) (now : Int) (t : DTopology) (l : List DTrustRoot) (w : World) (ht : TopologyV w.heap.size w vt t) (hl : TrustRootS w.heap.size w vl l) :
    Calls Try.prog 39 #[vt, vl, I now] w fun e w' => e = .returned (I (activeRoot t l now)) ∧ Ext w w' := by
  obtain ⟨At_0, nt_0, ct_0, At_1, nt_1, ct_1, rfl, st_0, st_1⟩ := id ht
  obtain ⟨lt_0, kt_0, mt_0⟩ := st_0.len
  subst lt_0
  unfold maxLen at mt_0
  obtain ⟨lt_1, kt_1, mt_1⟩ := st_1.len
  subst lt_1
  unfold maxLen at mt_1
  have Rt := Lib.hid ht; clear ht
  have St_0 := Lib.hid st_0; clear st_0
  have St_1 := Lib.hid st_1; clear st_1
  obtain ⟨Al, nl, cl, rfl, ll, kl, ml, -⟩ := id hl
  subst ll
  unfold maxLen at ml
  have Rl := Lib.hid hl; clear hl
  cases hv : validChain t l
  · have HF : Hid (activeRoot t l now = -1) := by unfold Hid; simp [activeRoot, hv]
    go_enter Try.func39, Try.ntmps39
    go_wp2_with fail
    refine (spec_ValidRootChain _ _ (t) (l) _ (by exact Rt.out.ext (by repeat (first | (with_reducible exact Ext.refl _) | (with_reducible assumption) | (with_reducible refine Ext.alloc ?_ _) | (with_reducible refine Ext.drew ?_) | (with_reducible refine Ext.drewN ?_ _) | (with_reducible refine Ext.setCell (p := _) ?_ ?ge _; case ge => (dsimp only; omega)) | (with_reducible refine Ext.trans ?_ (by with_reducible assumption))))) (by exact Rl.out.ext (by repeat (first | (with_reducible exact Ext.refl _) | (with_reducible assumption) | (with_reducible refine Ext.alloc ?_ _) | (with_reducible refine Ext.drew ?_) | (with_reducible refine Ext.drewN ?_ _) | (with_reducible refine Ext.setCell (p := _) ?_ ?ge _; case ge => (dsimp only; omega)) | (with_reducible refine Ext.trans ?_ (by with_reducible assumption)))))).mono ?_
    rintro e w1 ⟨rfl, ew1⟩
    rw [hv]
    go_wp2_with fail
    go_ret
    exact ⟨ret_int HF.out.symm, (by repeat (first | (with_reducible exact Ext.refl _) | (with_reducible assumption) | (with_reducible refine Ext.alloc ?_ _) | (with_reducible refine Ext.drew ?_) | (with_reducible refine Ext.drewN ?_ _) | (with_reducible refine Ext.setCell (p := _) ?_ ?ge _; case ge => (dsimp only; omega)) | (with_reducible refine Ext.trans ?_ (by with_reducible assumption))))⟩
  · have HF : Hid (activeRoot t l now = lastIdx (fun k => rootOkAt (l.getD k dRoot) now) l.length) := by unfold Hid; simp [activeRoot, hv]
    go_enter Try.func39, Try.ntmps39
    go_wp2_with fail
    refine (spec_ValidRootChain _ _ (t) (l) _ (by exact Rt.out.ext (by repeat (first | (with_reducible exact Ext.refl _) | (with_reducible assumption) | (with_reducible refine Ext.alloc ?_ _) | (with_reducible refine Ext.drew ?_) | (with_reducible refine Ext.drewN ?_ _) | (with_reducible refine Ext.setCell (p := _) ?_ ?ge _; case ge => (dsimp only; omega)) | (with_reducible refine Ext.trans ?_ (by with_reducible assumption))))) (by exact Rl.out.ext (by repeat (first | (with_reducible exact Ext.refl _) | (with_reducible assumption) | (with_reducible refine Ext.alloc ?_ _) | (with_reducible refine Ext.drew ?_) | (with_reducible refine Ext.drewN ?_ _) | (with_reducible refine Ext.setCell (p := _) ?_ ?ge _; case ge => (dsimp only; omega)) | (with_reducible refine Ext.trans ?_ (by with_reducible assumption)))))).mono ?_
    rintro e w1 ⟨rfl, ew1⟩
    rw [hv]
    clear hv
    go_wp2_with fail
    go_loopw [7] (fun i wr => ∃ k : Nat, k ≤ l.length ∧ i = I ((k : Int) - 1) ∧ activeRoot t l now = lastIdx (fun k => rootOkAt (l.getD k dRoot) now) k ∧ Ext w1 wr) (fun i _ => (intOf i + 1).toNat)
    case atStart => exact ⟨l.length, by omega, rfl, HF.out, Ext.refl _⟩
    case round =>
      obtain ⟨k, hk, rfl, hq, he⟩ := hrel
      have HQ := Lib.hid hq; clear hq
      by_cases hlt : 0 < k
      · obtain ⟨m, rfl⟩ : ∃ m, k = m + 1 := ⟨k - 1, by omega⟩
        have e1 : ((m + 1 : Nat) : Int) - 1 = (m : Int) := by omega
        rw [e1]
        have hml : m < l.length := by omega
        obtain ⟨b, off, rfl, hb, hkl, hc⟩ := (Rl.out.ext (w' := wr) (by repeat (first | (with_reducible exact Ext.refl _) | (with_reducible assumption) | (with_reducible refine Ext.alloc ?_ _) | (with_reducible refine Ext.drew ?_) | (with_reducible refine Ext.drewN ?_ _) | (with_reducible refine Ext.setCell (p := _) ?_ ?ge _; case ge => (dsimp only; omega)) | (with_reducible refine Ext.trans ?_ (by with_reducible assumption))))).at_ hml
        have HG : Hid (l.getD m dRoot = l[m]) := getD_at hkl
        have i0 : (0 : Int) ≤ (m : Int) := by omega
        have i1 : (m : Int) < (l.length : Int) := by omega
        clear e1
        generalize l[m] = x at *
        obtain ⟨Ax_6, nx_6, cx_6, hx_0, hx_1, hx_2, hx_3, hx_4, hx_5, hx_6, sx_6⟩ := hc
        obtain ⟨lx_6, kx_6, mx_6⟩ := sx_6.len
        subst lx_6
        unfold maxLen at mx_6
        have Rx : Hid (TrustRootV wr.heap.size wr (.agg #[I x.isd, I x.version, I x.notBefore, I x.notAfter, I x.voters, I x.quorum, .slice Ax_6 x.sigs.length cx_6]) x) := ⟨_, _, _, rfl, sx_6⟩
        have Sx_6 := Lib.hid sx_6; clear sx_6
        go_wp2_with fail
        refine wp_region_L (E := Ext) (w0 := wr) (G := fun τ => match τ with | 30 => some (fun v _ => v = .bool (rootOkAt x now)) | _ => none) Ext.refl (fun h k => Ext.trans h k) (by kernel_rfl) (by kernel_rfl) (by
            intro t φ hG
            split at hG
            all_goals first | (cases hG; done) | (cases Option.some.inj hG; intro v W W' hE hv; first | exact hv | exact IntS.ext hv hE | exact hv.ext hE | exact Own.up hv hE | exact NO.up (by first | exact SegmentOC.keeps | exact TrustRootOC.keeps | exact BeaconOC.keeps | exact BeaconMessageOC.keeps | exact BeaconStoreOC.keeps) hv hE (Nat.le_refl _) | exact ObjUp.up hv hE)) (Ext.drew (by exact Ext.refl _)) ?_
        repeat' (first
          | ((with_reducible refine wpL_skip ?_ ?_ ?_)
             · rfl
             · rfl
             simp only [Act.put, List.setIfInBounds_toArray, List.set_cons_zero, List.set_cons_succ])
          | ((with_reducible refine wpL_quiet ?_ ?_ ?_ ?_)
             · rfl
             · rfl
             · rfl
             apply Exists.intro
             refine ⟨fun W hW hS => ?_, ?_⟩
             · have hC := (Ext.facts hW).1
               go_simp
               first | done | (with_reducible rfl) | rfl
             first | (with_reducible refine wpL_boolT ?_) | (with_reducible refine wpL_boolF ?_) | (with_reducible refine wpL_bool (fun hB => ?_) (fun hB => ?_)) | skip
             all_goals simp only [Act.put, List.setIfInBounds_toArray, List.set_cons_zero, List.set_cons_succ])
          | ((refine wpL_call ?_ rfl rfl ?_ ?_ ?_)
             · rfl
             · rfl
             · intro W hW hS
               have hC := (Ext.facts hW).1
               unfold growAt
               go_simp
               simp only [growUpon]
               first | (go_at_call 68; ((with_reducible refine Calls.mono (spec_l1In _ _ _ _) ?_)); rintro e w9 ⟨rfl, rfl⟩; exact ⟨_, rfl, Ext.refl _, by first | rfl | (simp only [*])⟩)
             first | (with_reducible refine wpL_boolT ?_) | (with_reducible refine wpL_boolF ?_) | (with_reducible refine wpL_bool (fun hB => ?_) (fun hB => ?_)) | skip
             all_goals simp only [Act.put, List.setIfInBounds_toArray, List.set_cons_zero, List.set_cons_succ])
          | ((refine wpL_grow ?_ rfl rfl ?_ ?_)
             · rfl
             · intro W hW hS
               have hC := (Ext.facts hW).1
               unfold growAt
               go_simp
               simp only [growUpon]
               first | (go_at_call 68; ((with_reducible refine Calls.mono (spec_l1In _ _ _ _) ?_)); rintro e w9 ⟨rfl, rfl⟩; exact ⟨_, rfl, Ext.refl _, by first | rfl | (simp only [*])⟩)
             intro v W' hW' hv
             first  | (obtain ⟨A5, n5, c5, rfl, -⟩ := id hv; clear hv) | (obtain ⟨A5, n5, c5, rfl⟩ := NO.slice hv) | skip
             all_goals simp only [Act.put, List.setIfInBounds_toArray, List.set_cons_zero, List.set_cons_succ]))
        all_goals (refine wpL_nil (fun w2 e2 hL => ?_); clear hL)
        all_goals go_wp2_with fail
        · have HN : Hid (activeRoot t l now = m) := by
            unfold Hid
            rw [HQ.out, lastIdx_at (by rw [HG.out]; assumption)]
          go_ret
          exact ⟨ret_int HN.out.symm, (by repeat (first | (with_reducible exact Ext.refl _) | (with_reducible assumption) | (with_reducible refine Ext.alloc ?_ _) | (with_reducible refine Ext.drew ?_) | (with_reducible refine Ext.drewN ?_ _) | (with_reducible refine Ext.setCell (p := _) ?_ ?ge _; case ge => (dsimp only; omega)) | (with_reducible refine Ext.trans ?_ (by with_reducible assumption))))⟩
        · have HN : Hid (activeRoot t l now = lastIdx (fun k => rootOkAt (l.getD k dRoot) now) m) := by
            unfold Hid
            rw [HQ.out, lastIdx_skip (by rw [HG.out]; assumption)]
          go_roundw
          case rel => exact ⟨m, by omega, rfl, HN.out, (by repeat (first | (with_reducible exact Ext.refl _) | (with_reducible assumption) | (with_reducible refine Ext.alloc ?_ _) | (with_reducible refine Ext.drew ?_) | (with_reducible refine Ext.drewN ?_ _) | (with_reducible refine Ext.setCell (p := _) ?_ ?ge _; case ge => (dsimp only; omega)) | (with_reducible refine Ext.trans ?_ (by with_reducible assumption))))⟩
          case measure => first | (simp [intOf]; done) | (simp [intOf]; omega)
      · obtain rfl : k = 0 := by omega
        go_wp2_with fail
        go_ret
        exact ⟨ret_int HQ.out.symm, (by repeat (first | (with_reducible exact Ext.refl _) | (with_reducible assumption) | (with_reducible refine Ext.alloc ?_ _) | (with_reducible refine Ext.drew ?_) | (with_reducible refine Ext.drewN ?_ _) | (with_reducible refine Ext.setCell (p := _) ?_ ?ge _; case ge => (dsimp only; omega)) | (with_reducible refine Ext.trans ?_ (by with_reducible assumption))))⟩
end Go.Proofs.Ytjfoolffiflchaa
