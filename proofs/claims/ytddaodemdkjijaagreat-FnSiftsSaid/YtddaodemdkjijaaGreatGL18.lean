/- Contracts of the program's and the reference's functions on trust roots: RootData. -/
import Derived.Test.YtddaodemdkjijaaGreatGL17
import Derived.Test.YtddaodemdkjijaaGreatGHR
import Derived.Test.YtddaodemdkjijaaGreatGL0
namespace Go.Proofs.YtddaodemdkjijaaGreat
open Go.RowKit
set_option linter.unusedVariables false
def rootData (x : DTrustRoot) : List Int := [x.isd, x.version, x.notBefore, x.notAfter, x.voters, x.quorum]
set_option maxRecDepth 100000 in
set_option maxHeartbeats 1000000 in
theorem impl_RootData (v : Value) (x : DTrustRoot) (w : World) (h : TrustRootV w.heap.size w v x) :
    Calls Tryz.prog 75 #[v] w fun e w' => ∃ v', e = .returned v' ∧ IntSO w.heap.size w'.heap.size w' v' (rootData x) ∧ Ext w w' := by
  obtain ⟨A, n, c, rfl, -⟩ := h
  go_enter Tryz.func75, Tryz.ntmps75
  go_wp2
  go_ret
  refine ⟨_, rfl, ?_, xe⟩
  refine Own.of_blk (cs := (rootData x).map I) ?_ rfl (by unfold maxLen; simp) (by simp) (by simp)
  unfold Blk
  rw [← World.size_alloc]
  exact heap_alloc_new _ _
set_option maxRecDepth 100000 in
set_option maxHeartbeats 1000000 in
theorem spec_RootData (v : Value) (x : DTrustRoot) (w : World) (h : TrustRootV w.heap.size w v x) :
    Calls Tryz.prog 105 #[v] w fun e w' => ∃ v', e = .returned v' ∧ IntSO w.heap.size w'.heap.size w' v' (rootData x) ∧ Ext w w' := by
  obtain ⟨A, n, c, rfl, -⟩ := h
  go_enter Tryz.func105, Tryz.ntmps105
  go_wp2
  go_ret
  refine ⟨_, rfl, ?_, xe⟩
  refine Own.of_blk (cs := (rootData x).map I) ?_ rfl (by unfold maxLen; simp) (by simp) (by simp)
  unfold Blk
  rw [← World.size_alloc]
  exact heap_alloc_new _ _
end Go.Proofs.YtddaodemdkjijaaGreat
namespace Go.Proofs.YtddaodemdkjijaaGreat
open Go.RowKit
set_option linter.unusedVariables false
def sig1 (t : DTopology) (voters : Int) (l : List Int) (s : Int) (x : DSignature) : Int := if contains voters x.asn && verifySig t x l then addElem s x.asn else s
def signers (t : DTopology) (v : List DSignature) (voters : Int) (l : List Int) : Int := v.foldl (sig1 t voters l) 0
set_option maxRecDepth 100000 in
set_option maxHeartbeats 1000000 in
theorem impl_Signers (vt vv : Value) (voters : Int) (vl : Value) (t : DTopology) (v : List DSignature) (l : List Int) (w : World) (ht : TopologyV w.heap.size w vt t) (hv : SignatureS w.heap.size w vv v) (hl : IntS w.heap.size w vl l) (hn : l.length ≤ 100000000) :
    Calls Tryz.prog 74 #[vt, vv, I voters, vl] w fun e w' => e = .returned (I (signers t v voters l)) ∧ Ext w w' := by
  obtain ⟨At_0, nt_0, ct_0, At_1, nt_1, ct_1, rfl, st_0, st_1⟩ := id ht
  obtain ⟨lt_0, kt_0, mt_0⟩ := st_0.len
  subst lt_0
  unfold maxLen at mt_0
  obtain ⟨lt_1, kt_1, mt_1⟩ := st_1.len
  subst lt_1
  unfold maxLen at mt_1
  have Rt := Lib.hid ht; clear ht
  have St_0 := Lib.hid st_0; clear st_0
  have St_1 := Lib.hid st_1; clear st_1
  obtain ⟨Av, nv, cv, rfl, lv, kv, mv, -⟩ := id hv
  subst lv
  unfold maxLen at mv
  have Rv := Lib.hid hv; clear hv
  obtain ⟨Al, nl, cl, rfl, ll, kl, ml, -⟩ := id hl
  subst ll
  unfold maxLen at ml
  have Rl := Lib.hid hl; clear hl
  go_enter Tryz.func74, Tryz.ntmps74
  go_wp2_with fail
  first | refine name_wp ?_ ?_ ?_ | refine name_calls ?_ ?_ ?_
  exact (fun W => Ext w W ∧ Blk W (w.heap.size) 27 [.slice At_0 t.ases.length ct_0, .slice At_1 t.links.length ct_1])
  exact ⟨xe, xb⟩
  rintro w0 ⟨ew0, bt⟩
  have lt := bt.lt
  obtain ⟨pt_0, pt_1⟩ := blk2 bt
  have Bt := Lib.hid bt; clear bt
  go_loopw [9, 14] (fun s i wr => ∃ k : Nat, k ≤ v.length ∧ i = I k ∧ s = I ((v.take k).foldl (sig1 t voters l) 0) ∧ Ext w0 wr) (fun _ i _ => v.length - (intOf i).toNat)
  case atStart => exact ⟨0, by omega, rfl, rfl, Ext.refl _⟩
  case round =>
    obtain ⟨k, hk, rfl, rfl, he⟩ := hrel
    have bt := Bt.out.ext (he)
    have lt := bt.lt
    obtain ⟨pt_0, pt_1⟩ := blk2 bt
    clear bt
    by_cases hlt : k < v.length
    · obtain ⟨b, off, rfl, hb, hkl, hc⟩ := (Rv.out.ext (w' := wr) xe).at_ hlt
      have HX := Lib.hid (foldl_snoc (sig1 t voters l) 0 v k hkl)
      generalize v[k] = x at *
      generalize (v.take k).foldl (sig1 t voters l) 0 = s at *
      obtain ⟨h0, h1⟩ := hc
      go_wp2_with fail
      first | refine name_wp ?_ ?_ ?_ | refine name_calls ?_ ?_ ?_
      exact (fun W => Ext wr W ∧ Blk W (wr.heap.size) 76 [I x.asn, I x.value])
      exact ⟨xe, xb⟩
      rintro w1 ⟨ew1, bx⟩
      have lx := bx.lt
      obtain ⟨px_0, px_1⟩ := blk2 bx
      have Bx := Lib.hid bx; clear bx
      have bt := Bt.out.ext (w' := w1) xe
      have lt := bt.lt
      obtain ⟨pt_0, pt_1⟩ := blk2 bt
      clear bt
      cases c1 : contains voters x.asn
      · have HS : Hid (sig1 t voters l s x = s) := by unfold Hid; simp [sig1, c1]
        refine (impl_Contains _ _ _).mono ?_
        rintro e w2 ⟨rfl, rfl⟩
        rw [c1]
        clear c1
        go_wp2_with fail
        go_roundw
        case rel => exact ⟨k + 1, by omega, by go_num, by rw [HX.out, HS.out], xe⟩
        case measure => simp [intOf]; omega
      · cases c2 : verifySig t x l
        · have HS : Hid (sig1 t voters l s x = s) := by unfold Hid; simp [sig1, c2]
          refine (impl_Contains _ _ _).mono ?_
          rintro e w2 ⟨rfl, rfl⟩
          rw [c1]
          go_wp2_with fail
          refine (impl_VerifySignature _ (x) _ (t) (l) _ (by exact Rt.out.ext xe) (by exact Rl.out.ext xe) (by first | omega | (simp [rootData]; done) | (simp [certData]; done) | (simp only [List.length_cons, List.length_nil]; omega))).mono ?_
          rintro e w3 ⟨rfl, ew3⟩
          have bt := Bt.out.ext (w' := w3) xe
          have lt := bt.lt
          obtain ⟨pt_0, pt_1⟩ := blk2 bt
          clear bt
          have bx := Bx.out.ext (w' := w3) xe
          have lx := bx.lt
          obtain ⟨px_0, px_1⟩ := blk2 bx
          clear bx
          rw [c2]
          clear c1 c2
          go_wp2_with fail
          go_roundw
          case rel => exact ⟨k + 1, by omega, by go_num, by rw [HX.out, HS.out], xe⟩
          case measure => simp [intOf]; omega
        · have HS : Hid (sig1 t voters l s x = addElem s x.asn) := by unfold Hid; simp [sig1, c1, c2]
          refine (impl_Contains _ _ _).mono ?_
          rintro e w2 ⟨rfl, rfl⟩
          rw [c1]
          go_wp2_with fail
          refine (impl_VerifySignature _ (x) _ (t) (l) _ (by exact Rt.out.ext xe) (by exact Rl.out.ext xe) (by first | omega | (simp [rootData]; done) | (simp [certData]; done) | (simp only [List.length_cons, List.length_nil]; omega))).mono ?_
          rintro e w3 ⟨rfl, ew3⟩
          have bt := Bt.out.ext (w' := w3) xe
          have lt := bt.lt
          obtain ⟨pt_0, pt_1⟩ := blk2 bt
          clear bt
          have bx := Bx.out.ext (w' := w3) xe
          have lx := bx.lt
          obtain ⟨px_0, px_1⟩ := blk2 bx
          clear bx
          rw [c2]
          clear c1 c2
          go_wp2_with fail
          refine (impl_AddElement _ _ _).mono ?_
          rintro e w4 ⟨rfl, rfl⟩
          go_wp2_with fail
          go_roundw
          case rel => exact ⟨k + 1, by omega, by go_num, by rw [HX.out, HS.out], xe⟩
          case measure => simp [intOf]; omega
    · obtain rfl : k = v.length := by omega
      go_wp2_with fail
      go_ret
      exact ⟨ret_int (by rw [List.take_length]; rfl), xe⟩
set_option maxRecDepth 100000 in
set_option maxHeartbeats 1000000 in
theorem spec_Signers (vt vv : Value) (voters : Int) (vl : Value) (t : DTopology) (v : List DSignature) (l : List Int) (w : World) (ht : TopologyV w.heap.size w vt t) (hv : SignatureS w.heap.size w vv v) (hl : IntS w.heap.size w vl l) (hn : l.length ≤ 100000000) :
    Calls Tryz.prog 104 #[vt, vv, I voters, vl] w fun e w' => e = .returned (I (signers t v voters l)) ∧ Ext w w' := by
  obtain ⟨At_0, nt_0, ct_0, At_1, nt_1, ct_1, rfl, st_0, st_1⟩ := id ht
  obtain ⟨lt_0, kt_0, mt_0⟩ := st_0.len
  subst lt_0
  unfold maxLen at mt_0
  obtain ⟨lt_1, kt_1, mt_1⟩ := st_1.len
  subst lt_1
  unfold maxLen at mt_1
  have Rt := Lib.hid ht; clear ht
  have St_0 := Lib.hid st_0; clear st_0
  have St_1 := Lib.hid st_1; clear st_1
  obtain ⟨Av, nv, cv, rfl, lv, kv, mv, -⟩ := id hv
  subst lv
  unfold maxLen at mv
  have Rv := Lib.hid hv; clear hv
  obtain ⟨Al, nl, cl, rfl, ll, kl, ml, -⟩ := id hl
  subst ll
  unfold maxLen at ml
  have Rl := Lib.hid hl; clear hl
  go_enter Tryz.func104, Tryz.ntmps104
  go_wp2_with fail
  first | refine name_wp ?_ ?_ ?_ | refine name_calls ?_ ?_ ?_
  exact (fun W => Ext w W ∧ Blk W (w.heap.size) 27 [.slice At_0 t.ases.length ct_0, .slice At_1 t.links.length ct_1])
  exact ⟨xe, xb⟩
  rintro w0 ⟨ew0, bt⟩
  have lt := bt.lt
  obtain ⟨pt_0, pt_1⟩ := blk2 bt
  have Bt := Lib.hid bt; clear bt
  go_loopw [9, 10] (fun s i wr => ∃ k : Nat, k ≤ v.length ∧ i = I k ∧ s = I ((v.take k).foldl (sig1 t voters l) 0) ∧ Ext w0 wr) (fun _ i _ => v.length - (intOf i).toNat)
  case atStart => exact ⟨0, by omega, rfl, rfl, Ext.refl _⟩
  case round =>
    obtain ⟨k, hk, rfl, rfl, he⟩ := hrel
    have bt := Bt.out.ext (he)
    have lt := bt.lt
    obtain ⟨pt_0, pt_1⟩ := blk2 bt
    clear bt
    by_cases hlt : k < v.length
    · obtain ⟨b, off, rfl, hb, hkl, hc⟩ := (Rv.out.ext (w' := wr) xe).at_ hlt
      have i0 : (0 : Int) ≤ (k : Int) := by omega
      have i1 : (k : Int) < (v.length : Int) := by omega
      have HX := Lib.hid (foldl_snoc (sig1 t voters l) 0 v k hkl)
      generalize v[k] = x at *
      generalize (v.take k).foldl (sig1 t voters l) 0 = s at *
      obtain ⟨h0, h1⟩ := hc
      go_wp2_with fail
      refine wp_region_L (E := Ext) (w0 := wr) (G := fun τ => match τ with | 23 => some (fun v _ => v = .bool (contains voters x.asn)) | 31 => some (fun v _ => v = .bool (verifySig t x l)) | _ => none) Ext.refl (fun h k => Ext.trans h k) (by kernel_rfl) (by kernel_rfl) xg (Ext.drew (by exact Ext.refl _)) ?_
      repeat' (first
        | ((with_reducible refine wpL_skip ?_ ?_ ?_)
           · rfl
           · rfl
           simp only [Act.put, List.setIfInBounds_toArray, List.set_cons_zero, List.set_cons_succ])
        | ((with_reducible refine wpL_quiet ?_ ?_ ?_ ?_)
           · rfl
           · rfl
           · rfl
           apply Exists.intro
           refine ⟨fun W hW hS => ?_, ?_⟩
           · have hC := (Ext.facts hW).1
             go_simp
             first | done | (with_reducible rfl) | (rw [if_neg (by omega)]; exact ⟨rfl, rfl⟩) | rfl
           first | (with_reducible refine wpL_boolT ?_) | (with_reducible refine wpL_boolF ?_) | (with_reducible refine wpL_bool (fun hB => ?_) (fun hB => ?_)) | skip
           all_goals simp only [Act.put, List.setIfInBounds_toArray, List.set_cons_zero, List.set_cons_succ])
        | ((refine wpL_call ?_ rfl rfl ?_ ?_ ?_)
           · rfl
           · rfl
           · intro W hW hS
             have hC := (Ext.facts hW).1
             unfold growAt
             go_simp
             simp only [growUpon]
             first | (go_at_call 85; ((with_reducible refine Calls.mono (spec_Contains _ _ _) ?_)); rintro e w9 ⟨rfl, rfl⟩; exact ⟨_, rfl, Ext.refl _, by first | rfl | (simp only [*])⟩) | (go_at_call 64; ((with_reducible refine Calls.mono (spec_VerifySignature _ (x) _ (t) (l) _ (by exact Rt.out.ext xe) (by exact Rl.out.ext xe) (by first | omega | (simp [rootData]; done) | (simp [certData]; done) | (simp only [List.length_cons, List.length_nil]; omega))) ?_)); rintro e w9 ⟨rfl, e9⟩; exact ⟨_, rfl, e9, by first | rfl | (simp only [*])⟩)
           first | (with_reducible refine wpL_boolT ?_) | (with_reducible refine wpL_boolF ?_) | (with_reducible refine wpL_bool (fun hB => ?_) (fun hB => ?_)) | skip
           all_goals simp only [Act.put, List.setIfInBounds_toArray, List.set_cons_zero, List.set_cons_succ]))
      all_goals (refine wpL_nil (fun w1 e1 hL => ?_); clear hL; obtain ⟨hC1, -, -⟩ := e1.facts)
      all_goals go_wp2_with fail
      · have c1 : contains voters x.asn = true := by assumption
        have c2 : verifySig t x l = true := by assumption
        have HS : Hid (sig1 t voters l s x = addElem s x.asn) := by unfold Hid; simp [sig1, c1, c2]
        refine (spec_AddElement _ _ _).mono ?_
        rintro e w4 ⟨rfl, rfl⟩
        go_wp2_with fail
        go_roundw
        case rel => exact ⟨k + 1, by omega, by go_num, by rw [HX.out, HS.out], xe⟩
        case measure => simp [intOf]; omega
      all_goals
        have HS : Hid (sig1 t voters l s x = s) := by unfold Hid; simp [sig1, *]
        go_roundw
        case rel => exact ⟨k + 1, by omega, by go_num, by rw [HX.out, HS.out], xe⟩
        case measure => simp [intOf]; omega
    · obtain rfl : k = v.length := by omega
      go_wp2_with fail
      go_ret
      exact ⟨ret_int (by rw [List.take_length]; rfl), xe⟩
end Go.Proofs.YtddaodemdkjijaaGreat
namespace Go.Proofs.YtddaodemdkjijaaGreat
open Go.RowKit
set_option linter.unusedVariables false
def rootVoter (t : DTopology) (isd r : Int) : Bool := isCore t r && (asAt t r).isd == isd
def validRoot (t : DTopology) (x : DTrustRoot) : Bool :=
  inR x.version 1 1000000 && (inR x.notBefore 0 1000000 && (inR x.notAfter x.notBefore 1000000 && (inR x.quorum 1 (elements x.voters).length && (elements x.voters).all (rootVoter t x.isd))))
theorem elements_bad {s : Int} (h : validSet s = false) : elements s = [] := by
  unfold elements elemsTo
  rw [List.filter_eq_nil_iff.2 (fun i _ => by simp [contains, h])]
  rfl
theorem validRoot_alt (t : DTopology) (x : DTrustRoot) : validRoot t x =
    (inR x.version 1 1000000 && (inR x.notBefore 0 1000000 && (inR x.notAfter 0 1000000 && (!decide (x.notAfter < x.notBefore) && (validSet x.voters && (inR x.quorum 1 (elements x.voters).length && (elements x.voters).all (rootVoter t x.isd))))))) := by
  unfold validRoot
  generalize (elements x.voters).all (rootVoter t x.isd) = A
  cases h2 : inR x.notBefore 0 1000000
  · simp
  cases hv : validSet x.voters
  · rw [elements_bad hv]
    have : inR x.quorum 1 (([] : List Int).length : Nat) = false := inR_false (by simp; omega)
    rw [this]
    simp
  · have h0 := (inR_iff.1 h2).1
    have e : inR x.notAfter x.notBefore 1000000 = (inR x.notAfter 0 1000000 && !decide (x.notAfter < x.notBefore)) := by
      rw [Bool.eq_iff_iff]
      simp only [Bool.and_eq_true, inR_iff, Bool.not_eq_true', decide_eq_false_iff_not]
      omega
    rw [e]
    simp [Bool.and_assoc]
theorem all_false {α : Type} {p : α → Bool} {l : List α} {k : Nat} (hk : k < l.length) (h : p l[k] = false) : l.all p = false := by
  rw [List.all_eq_false]
  exact ⟨l[k], List.getElem_mem hk, by simp [h]⟩
theorem all_true {α : Type} {p : α → Bool} {l : List α} (h : ∀ j (hj : j < l.length), p l[j] = true) : l.all p = true := by
  rw [List.all_eq_true]
  intro x hx
  obtain ⟨j, hj, rfl⟩ := List.getElem_of_mem hx
  exact h j hj
set_option maxRecDepth 100000 in
set_option maxHeartbeats 1000000 in
theorem impl_ValidRoot (vt vx : Value) (t : DTopology) (x : DTrustRoot) (w : World) (ht : TopologyV w.heap.size w vt t) (hx : TrustRootV w.heap.size w vx x) :
    Calls Tryz.prog 73 #[vt, vx] w fun e w' => e = .returned (.bool (validRoot t x)) ∧ Ext w w' := by
  obtain ⟨At_0, nt_0, ct_0, At_1, nt_1, ct_1, rfl, st_0, st_1⟩ := id ht
  obtain ⟨lt_0, kt_0, mt_0⟩ := st_0.len
  subst lt_0
  unfold maxLen at mt_0
  obtain ⟨lt_1, kt_1, mt_1⟩ := st_1.len
  subst lt_1
  unfold maxLen at mt_1
  have Rt := Lib.hid ht; clear ht
  have St_0 := Lib.hid st_0; clear st_0
  have St_1 := Lib.hid st_1; clear st_1
  obtain ⟨Ax_6, nx_6, cx_6, rfl, sx_6⟩ := id hx
  obtain ⟨lx_6, kx_6, mx_6⟩ := sx_6.len
  subst lx_6
  unfold maxLen at mx_6
  have Rx := Lib.hid hx; clear hx
  have Sx_6 := Lib.hid sx_6; clear sx_6
  go_enter Tryz.func73, Tryz.ntmps73
  go_wp2_with fail
  first | refine name_wp ?_ ?_ ?_ | refine name_calls ?_ ?_ ?_
  exact (fun W => Ext w W ∧ Blk W (w.heap.size) 27 [.slice At_0 t.ases.length ct_0, .slice At_1 t.links.length ct_1] ∧ Blk W (w.heap.size + 1) 64 [I x.isd, I x.version, I x.notBefore, I x.notAfter, I x.voters, I x.quorum, .slice Ax_6 x.sigs.length cx_6])
  exact ⟨xe, xb, xb⟩
  rintro w0 ⟨ew0, bt, bx⟩
  have lt := bt.lt
  obtain ⟨pt_0, pt_1⟩ := blk2 bt
  have Bt := Lib.hid bt; clear bt
  have lx := bx.lt
  obtain ⟨px_0, px_1, px_2, px_3, px_4, px_5, px_6⟩ := blk7 bx
  have Bx := Lib.hid bx; clear bx
  refine wp_region_L (E := Ext) (w0 := w0) (G := fun τ => match τ with | 9 => some (fun v _ => v = .bool (inR x.version 1 1000000)) | 14 => some (fun v _ => v = .bool (inR x.notBefore 0 1000000)) | 20 => some (fun v _ => v = .bool (inR x.notAfter 0 1000000)) | 33 => some (fun v _ => v = .bool (validSet x.voters)) | 41 => some (fun v _ => v = I (((elements x.voters).length : Nat))) | 42 => some (fun v _ => v = .bool (inR x.quorum 1 ((elements x.voters).length : Nat))) | _ => none) Ext.refl (fun h k => Ext.trans h k) (by kernel_rfl) (by kernel_rfl) xg (Ext.drew (by exact Ext.refl _)) ?_
  repeat' (first
    | ((with_reducible refine wpL_skip ?_ ?_ ?_)
       · rfl
       · rfl
       simp only [Act.put, List.setIfInBounds_toArray, List.set_cons_zero, List.set_cons_succ])
    | ((with_reducible refine wpL_quiet ?_ ?_ ?_ ?_)
       · rfl
       · rfl
       · rfl
       apply Exists.intro
       refine ⟨fun W hW hS => ?_, ?_⟩
       · have hC := (Ext.facts hW).1
         go_simp
         first | done | (with_reducible rfl) | (rw [if_neg (by omega)]; exact ⟨rfl, rfl⟩) | rfl
       first | (with_reducible refine wpL_boolT ?_) | (with_reducible refine wpL_boolF ?_) | (with_reducible refine wpL_bool (fun hB => ?_) (fun hB => ?_)) | skip
       all_goals simp only [Act.put, List.setIfInBounds_toArray, List.set_cons_zero, List.set_cons_succ])
    | ((refine wpL_call ?_ rfl rfl ?_ ?_ ?_)
       · rfl
       · rfl
       · intro W hW hS
         have hC := (Ext.facts hW).1
         unfold growAt
         go_simp
         simp only [growUpon]
         first | (go_at_call 60; ((with_reducible refine Calls.mono (impl_InRange _ _ _ _) ?_)); rintro e w9 ⟨rfl, rfl⟩; exact ⟨_, rfl, Ext.refl _, by first | rfl | (simp only [*])⟩) | (go_at_call 60; ((with_reducible refine Calls.mono (impl_InRange _ _ _ _) ?_)); rintro e w9 ⟨rfl, rfl⟩; exact ⟨_, rfl, Ext.refl _, by first | rfl | (simp only [*])⟩) | (go_at_call 60; ((with_reducible refine Calls.mono (impl_InRange _ _ _ _) ?_)); rintro e w9 ⟨rfl, rfl⟩; exact ⟨_, rfl, Ext.refl _, by first | rfl | (simp only [*])⟩) | (go_at_call 59; ((with_reducible refine Calls.mono (impl_ValidSet _ _) ?_)); rintro e w9 ⟨rfl, rfl⟩; exact ⟨_, rfl, Ext.refl _, by first | rfl | (simp only [*])⟩) | (go_at_call 76; ((with_reducible refine Calls.mono (impl_SetSize _ _) ?_)); rintro e w9 ⟨rfl, e9⟩; exact ⟨_, rfl, e9, by first | rfl | (simp only [*])⟩) | (go_at_call 60; ((with_reducible refine Calls.mono (impl_InRange _ _ _ _) ?_)); rintro e w9 ⟨rfl, rfl⟩; exact ⟨_, rfl, Ext.refl _, by first | rfl | (simp only [*])⟩)
       first | (with_reducible refine wpL_boolT ?_) | (with_reducible refine wpL_boolF ?_) | (with_reducible refine wpL_bool (fun hB => ?_) (fun hB => ?_)) | skip
       all_goals simp only [Act.put, List.setIfInBounds_toArray, List.set_cons_zero, List.set_cons_succ]))
  all_goals (refine wpL_nil (fun w1 e1 hL => ?_); clear hL)
  all_goals first | (go_wp2_with fail; go_ret; exact ⟨ret_bool (by rw [validRoot_alt]; simp [*]), xe⟩) | skip
  have HM : Hid (validRoot t x = (elements x.voters).all (rootVoter t x.isd)) := by unfold Hid; rw [validRoot_alt]; simp [*]
  have bt := Bt.out.ext (e1)
  have lt := bt.lt
  obtain ⟨pt_0, pt_1⟩ := blk2 bt
  clear bt
  have bx := Bx.out.ext (e1)
  have lx := bx.lt
  obtain ⟨px_0, px_1, px_2, px_3, px_4, px_5, px_6⟩ := blk7 bx
  clear bx
  go_wp2_with fail
  refine (impl_Elements _ _).mono ?_
  rintro e w2 ⟨v2, rfl, o2, e2⟩
  obtain ⟨Al, nl, cl, rfl, ll, kl, ml, -⟩ := id (IntSO_rd o2)
  have hs16 := elemsTo_len x.voters 16
  have Rl := Lib.hid (IntSO_rd o2); clear o2
  change (elements x.voters).length ≤ 16 at hs16
  generalize elements x.voters = l at *
  subst ll
  unfold maxLen at ml
  clear hB
  go_wp2_with fail
  go_loopw [49] (fun i wr => ∃ k : Nat, k ≤ l.length ∧ i = I k ∧ (∀ j (hj : j < l.length), j < k → rootVoter t x.isd l[j] = true) ∧ Ext w2 wr) (fun i _ => l.length - (intOf i).toNat)
  case atStart => exact ⟨0, by omega, rfl, fun _ _ h => absurd h (by omega), Ext.refl _⟩
  case round =>
    obtain ⟨k, hk, rfl, hq, he⟩ := hrel
    have HQ := Lib.hid hq; clear hq
    have bt := Bt.out.ext (w' := wr) xe
    have lt := bt.lt
    obtain ⟨pt_0, pt_1⟩ := blk2 bt
    clear bt
    have bx := Bx.out.ext (w' := wr) xe
    have lx := bx.lt
    obtain ⟨px_0, px_1, px_2, px_3, px_4, px_5, px_6⟩ := blk7 bx
    clear bx
    by_cases hlt : k < l.length
    · obtain ⟨b, off, rfl, hb, hkl, hc⟩ := (Rl.out.ext (w' := wr) xe).at_ hlt
      have HN := Lib.hid (all_false (p := rootVoter t x.isd) hkl)
      have HY : Hid (rootVoter t x.isd l[k] = true → ∀ j (hj : j < l.length), j < k + 1 → rootVoter t x.isd l[j] = true) := fun h j hj hjk => by
        rcases Nat.lt_succ_iff_lt_or_eq.1 hjk with h1 | rfl
        · exact HQ.out j hj h1
        · exact h
      generalize l[k] = r at *
      have hc : wr.cell? ⟨b, off + k, none⟩ = some (I r) := hc
      cases hv : isCore t r
      · have HV : Hid (rootVoter t x.isd r = false) := by unfold Hid; simp [rootVoter, hv]
        go_wp2_with fail
        refine wp_region_L (E := Ext) (w0 := wr) (G := fun τ => match τ with | 55 => some (fun v _ => v = .bool (false)) | _ => none) Ext.refl (fun h k => Ext.trans h k) (by kernel_rfl) (by kernel_rfl) xg (Ext.drew (by exact Ext.refl _)) ?_
        repeat' (first
          | ((with_reducible refine wpL_skip ?_ ?_ ?_)
             · rfl
             · rfl
             simp only [Act.put, List.setIfInBounds_toArray, List.set_cons_zero, List.set_cons_succ])
          | ((with_reducible refine wpL_quiet ?_ ?_ ?_ ?_)
             · rfl
             · rfl
             · rfl
             apply Exists.intro
             refine ⟨fun W hW hS => ?_, ?_⟩
             · have hC := (Ext.facts hW).1
               go_simp
               first | done | (with_reducible rfl) | (rw [if_neg (by omega)]; exact ⟨rfl, rfl⟩) | rfl
             first | (with_reducible refine wpL_boolT ?_) | (with_reducible refine wpL_boolF ?_) | (with_reducible refine wpL_bool (fun hB => ?_) (fun hB => ?_)) | skip
             all_goals simp only [Act.put, List.setIfInBounds_toArray, List.set_cons_zero, List.set_cons_succ])
          | ((refine wpL_call ?_ rfl rfl ?_ ?_ ?_)
             · rfl
             · rfl
             · intro W hW hS
               have hC := (Ext.facts hW).1
               unfold growAt
               go_simp
               simp only [growUpon]
               first | (go_at_call 112; ((with_reducible refine Calls.mono (impl_isCore _ _ (t) _ (by exact Rt.out.ext xe)) ?_)); rintro e w9 ⟨rfl, e9⟩; exact ⟨_, rfl, e9, by first | rfl | (simp only [*])⟩)
             first | (with_reducible refine wpL_boolT ?_) | (with_reducible refine wpL_boolF ?_) | (with_reducible refine wpL_bool (fun hB => ?_) (fun hB => ?_)) | skip
             all_goals simp only [Act.put, List.setIfInBounds_toArray, List.set_cons_zero, List.set_cons_succ]))
        refine wpL_nil (fun w3 e3 hL => ?_)
        go_wp2_with fail
        go_ret
        exact ⟨ret_bool (by rw [HM.out, HN.out HV.out]), xe⟩
      · have hv1 : isAs t r = true := by
          unfold isCore at hv
          simp at hv
          exact hv.1
        obtain ⟨m, rfl, hm⟩ := isAs_nat hv1
        obtain ⟨b2, off2, rfl, hb2, hkl2, hc2⟩ := (St_0.out.ext (w' := wr) xe).at_ hm
        have HV : Hid (rootVoter t x.isd m = (t.ases[m].isd == x.isd)) := by unfold Hid; simp [rootVoter, hv, asAt_nat t m hm]
        clear hv1
        generalize t.ases[m] = y at *
        obtain ⟨h0, h1, h2⟩ := hc2
        have i0 : (0 : Int) ≤ (m : Int) := by omega
        have i1 : (m : Int) < (t.ases.length : Int) := by omega
        go_wp2_with fail
        refine wp_region_L (E := Ext) (w0 := wr) (G := fun τ => match τ with | 55 => some (fun v _ => v = .bool (true)) | _ => none) Ext.refl (fun h k => Ext.trans h k) (by kernel_rfl) (by kernel_rfl) xg (Ext.drew (by exact Ext.refl _)) ?_
        repeat' (first
          | ((with_reducible refine wpL_skip ?_ ?_ ?_)
             · rfl
             · rfl
             simp only [Act.put, List.setIfInBounds_toArray, List.set_cons_zero, List.set_cons_succ])
          | ((with_reducible refine wpL_quiet ?_ ?_ ?_ ?_)
             · rfl
             · rfl
             · rfl
             apply Exists.intro
             refine ⟨fun W hW hS => ?_, ?_⟩
             · have hC := (Ext.facts hW).1
               go_simp
               first | done | (with_reducible rfl) | (rw [if_neg (by omega)]; exact ⟨rfl, rfl⟩) | rfl
             first | (with_reducible refine wpL_boolT ?_) | (with_reducible refine wpL_boolF ?_) | (with_reducible refine wpL_bool (fun hB => ?_) (fun hB => ?_)) | skip
             all_goals simp only [Act.put, List.setIfInBounds_toArray, List.set_cons_zero, List.set_cons_succ])
          | ((refine wpL_call ?_ rfl rfl ?_ ?_ ?_)
             · rfl
             · rfl
             · intro W hW hS
               have hC := (Ext.facts hW).1
               unfold growAt
               go_simp
               simp only [growUpon]
               first | (go_at_call 112; ((with_reducible refine Calls.mono (impl_isCore _ _ (t) _ (by exact Rt.out.ext xe)) ?_)); rintro e w9 ⟨rfl, e9⟩; exact ⟨_, rfl, e9, by first | rfl | (simp only [*])⟩)
             first | (with_reducible refine wpL_boolT ?_) | (with_reducible refine wpL_boolF ?_) | (with_reducible refine wpL_bool (fun hB => ?_) (fun hB => ?_)) | skip
             all_goals simp only [Act.put, List.setIfInBounds_toArray, List.set_cons_zero, List.set_cons_succ]))
        all_goals (refine wpL_nil (fun w3 e3 hL => ?_); clear hL)
        all_goals go_wp2_with fail
        · go_ret
          exact ⟨ret_bool (by rw [HM.out, HN.out (by rw [HV.out]; simp_all)]), xe⟩
        · go_roundw
          case rel => exact ⟨k + 1, by omega, by go_num, HY.out (by rw [HV.out]; simp_all), xe⟩
          case measure => simp [intOf]; omega
    · go_wp2_with fail
      go_ret
      exact ⟨ret_bool (by rw [HM.out, all_true (fun j hj => HQ.out j hj (by omega))]), xe⟩
set_option maxRecDepth 100000 in
set_option maxHeartbeats 1000000 in
theorem spec_ValidRoot (vt vx : Value) (t : DTopology) (x : DTrustRoot) (w : World) (ht : TopologyV w.heap.size w vt t) (hx : TrustRootV w.heap.size w vx x) :
    Calls Tryz.prog 103 #[vt, vx] w fun e w' => e = .returned (.bool (validRoot t x)) ∧ Ext w w' := by
  obtain ⟨At_0, nt_0, ct_0, At_1, nt_1, ct_1, rfl, st_0, st_1⟩ := id ht
  obtain ⟨lt_0, kt_0, mt_0⟩ := st_0.len
  subst lt_0
  unfold maxLen at mt_0
  obtain ⟨lt_1, kt_1, mt_1⟩ := st_1.len
  subst lt_1
  unfold maxLen at mt_1
  have Rt := Lib.hid ht; clear ht
  have St_0 := Lib.hid st_0; clear st_0
  have St_1 := Lib.hid st_1; clear st_1
  obtain ⟨Ax_6, nx_6, cx_6, rfl, sx_6⟩ := id hx
  obtain ⟨lx_6, kx_6, mx_6⟩ := sx_6.len
  subst lx_6
  unfold maxLen at mx_6
  have Rx := Lib.hid hx; clear hx
  have Sx_6 := Lib.hid sx_6; clear sx_6
  go_enter Tryz.func103, Tryz.ntmps103
  go_wp2_with fail
  first | refine name_wp ?_ ?_ ?_ | refine name_calls ?_ ?_ ?_
  exact (fun W => Ext w W ∧ Blk W (w.heap.size) 27 [.slice At_0 t.ases.length ct_0, .slice At_1 t.links.length ct_1] ∧ Blk W (w.heap.size + 1) 64 [I x.isd, I x.version, I x.notBefore, I x.notAfter, I x.voters, I x.quorum, .slice Ax_6 x.sigs.length cx_6])
  exact ⟨xe, xb, xb⟩
  rintro w0 ⟨ew0, bt, bx⟩
  have lt := bt.lt
  obtain ⟨pt_0, pt_1⟩ := blk2 bt
  have Bt := Lib.hid bt; clear bt
  have lx := bx.lt
  obtain ⟨px_0, px_1, px_2, px_3, px_4, px_5, px_6⟩ := blk7 bx
  have Bx := Lib.hid bx; clear bx
  refine wp_region_L (E := Ext) (w0 := w0) (G := fun τ => match τ with | 9 => some (fun v _ => v = .bool (inR x.version 1 1000000)) | 14 => some (fun v _ => v = .bool (inR x.notBefore 0 1000000)) | 22 => some (fun v _ => v = .bool (inR x.notAfter x.notBefore 1000000)) | 30 => some (fun v _ => v = I (((elements x.voters).length : Nat))) | 31 => some (fun v _ => v = .bool (inR x.quorum 1 ((elements x.voters).length : Nat))) | _ => none) Ext.refl (fun h k => Ext.trans h k) (by kernel_rfl) (by kernel_rfl) xg (Ext.drew (by exact Ext.refl _)) ?_
  repeat' (first
    | ((with_reducible refine wpL_skip ?_ ?_ ?_)
       · rfl
       · rfl
       simp only [Act.put, List.setIfInBounds_toArray, List.set_cons_zero, List.set_cons_succ])
    | ((with_reducible refine wpL_quiet ?_ ?_ ?_ ?_)
       · rfl
       · rfl
       · rfl
       apply Exists.intro
       refine ⟨fun W hW hS => ?_, ?_⟩
       · have hC := (Ext.facts hW).1
         go_simp
         first | done | (with_reducible rfl) | (rw [if_neg (by omega)]; exact ⟨rfl, rfl⟩) | rfl
       first | (with_reducible refine wpL_boolT ?_) | (with_reducible refine wpL_boolF ?_) | (with_reducible refine wpL_bool (fun hB => ?_) (fun hB => ?_)) | skip
       all_goals simp only [Act.put, List.setIfInBounds_toArray, List.set_cons_zero, List.set_cons_succ])
    | ((refine wpL_call ?_ rfl rfl ?_ ?_ ?_)
       · rfl
       · rfl
       · intro W hW hS
         have hC := (Ext.facts hW).1
         unfold growAt
         go_simp
         simp only [growUpon]
         first | (go_at_call 89; ((with_reducible refine Calls.mono (spec_l1In _ _ _ _) ?_)); rintro e w9 ⟨rfl, rfl⟩; exact ⟨_, rfl, Ext.refl _, by first | rfl | (simp only [*])⟩) | (go_at_call 89; ((with_reducible refine Calls.mono (spec_l1In _ _ _ _) ?_)); rintro e w9 ⟨rfl, rfl⟩; exact ⟨_, rfl, Ext.refl _, by first | rfl | (simp only [*])⟩) | (go_at_call 89; ((with_reducible refine Calls.mono (spec_l1In _ _ _ _) ?_)); rintro e w9 ⟨rfl, rfl⟩; exact ⟨_, rfl, Ext.refl _, by first | rfl | (simp only [*])⟩) | (go_at_call 106; ((with_reducible refine Calls.mono (spec_SetSize _ _) ?_)); rintro e w9 ⟨rfl, e9⟩; exact ⟨_, rfl, e9, by first | rfl | (simp only [*])⟩) | (go_at_call 89; ((with_reducible refine Calls.mono (spec_l1In _ _ _ _) ?_)); rintro e w9 ⟨rfl, rfl⟩; exact ⟨_, rfl, Ext.refl _, by first | rfl | (simp only [*])⟩)
       first | (with_reducible refine wpL_boolT ?_) | (with_reducible refine wpL_boolF ?_) | (with_reducible refine wpL_bool (fun hB => ?_) (fun hB => ?_)) | skip
       all_goals simp only [Act.put, List.setIfInBounds_toArray, List.set_cons_zero, List.set_cons_succ]))
  all_goals (refine wpL_nil (fun w1 e1 hL => ?_); clear hL)
  all_goals first | (go_wp2_with fail; go_ret; exact ⟨ret_bool (by simp [validRoot, *]), xe⟩) | skip
  have HM : Hid (validRoot t x = (elements x.voters).all (rootVoter t x.isd)) := by unfold Hid; simp [validRoot, *]
  have bt := Bt.out.ext (e1)
  have lt := bt.lt
  obtain ⟨pt_0, pt_1⟩ := blk2 bt
  clear bt
  have bx := Bx.out.ext (e1)
  have lx := bx.lt
  obtain ⟨px_0, px_1, px_2, px_3, px_4, px_5, px_6⟩ := blk7 bx
  clear bx
  go_wp2_with fail
  refine (spec_Elements _ _).mono ?_
  rintro e w2 ⟨v2, rfl, o2, e2⟩
  obtain ⟨Al, nl, cl, rfl, ll, kl, ml, -⟩ := id (IntSO_rd o2)
  have hs16 := elemsTo_len x.voters 16
  have Rl := Lib.hid (IntSO_rd o2); clear o2
  change (elements x.voters).length ≤ 16 at hs16
  generalize elements x.voters = l at *
  subst ll
  unfold maxLen at ml
  clear hB
  go_wp2_with fail
  go_loopw [6] (fun i wr => ∃ k : Nat, k ≤ l.length ∧ i = I k ∧ (∀ j (hj : j < l.length), j < k → rootVoter t x.isd l[j] = true) ∧ Ext w2 wr) (fun i _ => l.length - (intOf i).toNat)
  case atStart => exact ⟨0, by omega, rfl, fun _ _ h => absurd h (by omega), Ext.refl _⟩
  case round =>
    obtain ⟨k, hk, rfl, hq, he⟩ := hrel
    have HQ := Lib.hid hq; clear hq
    have bt := Bt.out.ext (w' := wr) xe
    have lt := bt.lt
    obtain ⟨pt_0, pt_1⟩ := blk2 bt
    clear bt
    have bx := Bx.out.ext (w' := wr) xe
    have lx := bx.lt
    obtain ⟨px_0, px_1, px_2, px_3, px_4, px_5, px_6⟩ := blk7 bx
    clear bx
    by_cases hlt : k < l.length
    · obtain ⟨b, off, rfl, hb, hkl, hc⟩ := (Rl.out.ext (w' := wr) xe).at_ hlt
      have HN := Lib.hid (all_false (p := rootVoter t x.isd) hkl)
      have HY : Hid (rootVoter t x.isd l[k] = true → ∀ j (hj : j < l.length), j < k + 1 → rootVoter t x.isd l[j] = true) := fun h j hj hjk => by
        rcases Nat.lt_succ_iff_lt_or_eq.1 hjk with h1 | rfl
        · exact HQ.out j hj h1
        · exact h
      generalize l[k] = r at *
      have hc : wr.cell? ⟨b, off + k, none⟩ = some (I r) := hc
      have i0 : (0 : Int) ≤ (k : Int) := by omega
      have i1 : (k : Int) < (l.length : Int) := by omega
      cases hv : isAs t r
      · have HV : Hid (rootVoter t x.isd r = false) := by unfold Hid; simp [rootVoter, isCore, hv]
        go_wp2_with fail
        refine wp_region_L (E := Ext) (w0 := wr) (G := fun τ => match τ with | 48 => some (fun v _ => v = .bool (false)) | _ => none) Ext.refl (fun h k => Ext.trans h k) (by kernel_rfl) (by kernel_rfl) xg (Ext.drew (by exact Ext.refl _)) ?_
        repeat' (first
          | ((with_reducible refine wpL_skip ?_ ?_ ?_)
             · rfl
             · rfl
             simp only [Act.put, List.setIfInBounds_toArray, List.set_cons_zero, List.set_cons_succ])
          | ((with_reducible refine wpL_quiet ?_ ?_ ?_ ?_)
             · rfl
             · rfl
             · rfl
             apply Exists.intro
             refine ⟨fun W hW hS => ?_, ?_⟩
             · have hC := (Ext.facts hW).1
               go_simp
               first | done | (with_reducible rfl) | (rw [if_neg (by omega)]; exact ⟨rfl, rfl⟩) | rfl
             first | (with_reducible refine wpL_boolT ?_) | (with_reducible refine wpL_boolF ?_) | (with_reducible refine wpL_bool (fun hB => ?_) (fun hB => ?_)) | skip
             all_goals simp only [Act.put, List.setIfInBounds_toArray, List.set_cons_zero, List.set_cons_succ])
          | ((refine wpL_call ?_ rfl rfl ?_ ?_ ?_)
             · rfl
             · rfl
             · intro W hW hS
               have hC := (Ext.facts hW).1
               unfold growAt
               go_simp
               simp only [growUpon]
               first | (go_at_call 44; ((with_reducible refine Calls.mono (spec_l5Realm _ _ (t) _ (by exact Rt.out.ext xe)) ?_)); rintro e w9 ⟨rfl, e9⟩; exact ⟨_, rfl, e9, by first | rfl | (simp only [*])⟩)
             first | (with_reducible refine wpL_boolT ?_) | (with_reducible refine wpL_boolF ?_) | (with_reducible refine wpL_bool (fun hB => ?_) (fun hB => ?_)) | skip
             all_goals simp only [Act.put, List.setIfInBounds_toArray, List.set_cons_zero, List.set_cons_succ]))
        refine wpL_nil (fun w3 e3 hL => ?_)
        go_wp2_with fail
        go_ret
        exact ⟨ret_bool (by rw [HM.out, HN.out HV.out]), xe⟩
      · obtain ⟨m, rfl, hm⟩ := isAs_nat hv
        obtain ⟨b2, off2, rfl, hb2, hkl2, hc2⟩ := (St_0.out.ext (w' := wr) xe).at_ hm
        have HV : Hid (rootVoter t x.isd m = (t.ases[m].core && t.ases[m].isd == x.isd)) := by unfold Hid; simp [rootVoter, isCore, hv, asAt_nat t m hm]
        generalize t.ases[m] = y at *
        obtain ⟨h0, h1, h2⟩ := hc2
        have j0 : (0 : Int) ≤ (m : Int) := by omega
        have j1 : (m : Int) < (t.ases.length : Int) := by omega
        go_wp2_with fail
        refine wp_region_L (E := Ext) (w0 := wr) (G := fun τ => match τ with | 48 => some (fun v _ => v = .bool (true)) | _ => none) Ext.refl (fun h k => Ext.trans h k) (by kernel_rfl) (by kernel_rfl) xg (Ext.drew (by exact Ext.refl _)) ?_
        repeat' (first
          | ((with_reducible refine wpL_skip ?_ ?_ ?_)
             · rfl
             · rfl
             simp only [Act.put, List.setIfInBounds_toArray, List.set_cons_zero, List.set_cons_succ])
          | ((with_reducible refine wpL_quiet ?_ ?_ ?_ ?_)
             · rfl
             · rfl
             · rfl
             apply Exists.intro
             refine ⟨fun W hW hS => ?_, ?_⟩
             · have hC := (Ext.facts hW).1
               go_simp
               first | done | (with_reducible rfl) | (rw [if_neg (by omega)]; exact ⟨rfl, rfl⟩) | rfl
             first | (with_reducible refine wpL_boolT ?_) | (with_reducible refine wpL_boolF ?_) | (with_reducible refine wpL_bool (fun hB => ?_) (fun hB => ?_)) | skip
             all_goals simp only [Act.put, List.setIfInBounds_toArray, List.set_cons_zero, List.set_cons_succ])
          | ((refine wpL_call ?_ rfl rfl ?_ ?_ ?_)
             · rfl
             · rfl
             · intro W hW hS
               have hC := (Ext.facts hW).1
               unfold growAt
               go_simp
               simp only [growUpon]
               first | (go_at_call 44; ((with_reducible refine Calls.mono (spec_l5Realm _ _ (t) _ (by exact Rt.out.ext xe)) ?_)); rintro e w9 ⟨rfl, e9⟩; exact ⟨_, rfl, e9, by first | rfl | (simp only [*])⟩)
             first | (with_reducible refine wpL_boolT ?_) | (with_reducible refine wpL_boolF ?_) | (with_reducible refine wpL_bool (fun hB => ?_) (fun hB => ?_)) | skip
             all_goals simp only [Act.put, List.setIfInBounds_toArray, List.set_cons_zero, List.set_cons_succ]))
        all_goals (refine wpL_nil (fun w3 e3 hL => ?_); clear hL)
        all_goals go_wp2_with fail
        all_goals first
          | (go_ret; exact ⟨ret_bool (by rw [HM.out, HN.out (by rw [HV.out]; simp_all)]), xe⟩)
          | (go_roundw
             case rel => exact ⟨k + 1, by omega, by go_num, HY.out (by rw [HV.out]; simp_all), xe⟩
             case measure => simp [intOf]; omega)
    · go_wp2_with fail
      go_ret
      exact ⟨ret_bool (by rw [HM.out, all_true (fun j hj => HQ.out j hj (by omega))]), xe⟩
end Go.Proofs.YtddaodemdkjijaaGreat
