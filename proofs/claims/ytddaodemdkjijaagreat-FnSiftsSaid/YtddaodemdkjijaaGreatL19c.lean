/- Contracts of the program's and the reference's functions on certificates and roots: CertificateValid, FindCertificate, CertifiedASes. -/
import Derived.Test.YtddaodemdkjijaaGreatGL18d
import Derived.Test.YtddaodemdkjijaaGreatL19
namespace Go.Proofs.YtddaodemdkjijaaGreat
open Go.RowKit
set_option linter.unusedVariables false
theorem find_at {p : Nat → Bool} {n k : Nat} (hk : k < n) (h : ∀ j, j < k → p j = false) (hp : p k = true) : (List.range n).find? p = some k := by
  rw [List.find?_range_eq_some]
  exact ⟨hp, List.mem_range.2 hk, fun j hj => by simp [h j hj]⟩
theorem find_none {p : Nat → Bool} {n : Nat} (h : ∀ j, j < n → p j = false) : (List.range n).find? p = none := by
  rw [List.find?_range_eq_none]
  exact fun j hj => by simp [h j hj]
theorem below_succF {p : Nat → Bool} {k : Nat} (h : ∀ j, j < k → p j = false) (hk : p k = false) : ∀ j, j < k + 1 → p j = false := fun j hj => by
  rcases Nat.lt_succ_iff_lt_or_eq.1 hj with hj | rfl
  · exact h j hj
  · exact hk
def certAt (l : List DTrustRoot) (x : DCertificate) (now act : Int) (k : Nat) : Bool :=
  (l.getD k dRoot).version == x.rootVersion && (rootOkAt (l.getD k dRoot) now || ((k : Int) == act - 1))
def certSig (t : DTopology) (y : DTrustRoot) (x : DCertificate) : Bool := contains y.voters x.sig.asn && verifySig t x.sig (certData x)
def certScan (t : DTopology) (l : List DTrustRoot) (x : DCertificate) (now act : Int) : Bool :=
  match (List.range l.length).find? (certAt l x now act) with
  | some k => certSig t (l.getD k dRoot) x
  | none => false
def certHead (t : DTopology) (l : List DTrustRoot) (x : DCertificate) (now : Int) : Bool :=
  validChain t l && (isAs t x.asn && ((asAt t x.asn).isd == (l.getD 0 dRoot).isd && (x.keyDigest == digest [(asAt t x.asn).key] && inR now x.notBefore x.notAfter)))
def certValid (t : DTopology) (l : List DTrustRoot) (x : DCertificate) (now : Int) : Bool := certHead t l x now && certScan t l x now (activeRoot t l now)
theorem certScan_at {t : DTopology} {l : List DTrustRoot} {x : DCertificate} {now act : Int} {k : Nat} (hk : k < l.length) (h : ∀ j, j < k → certAt l x now act j = false) (hp : certAt l x now act k = true) : certScan t l x now act = certSig t l[k] x := by
  unfold certScan
  rw [find_at hk h hp]
  simp [List.getD_eq_getElem?_getD, hk]
theorem certScan_no {t : DTopology} {l : List DTrustRoot} {x : DCertificate} {now act : Int} (h : ∀ j, j < l.length → certAt l x now act j = false) : certScan t l x now act = false := by
  unfold certScan
  rw [find_none h]
theorem certAt_at {l : List DTrustRoot} {x : DCertificate} {now act : Int} {k : Nat} (hk : k < l.length) : certAt l x now act k = (l[k].version == x.rootVersion && (rootOkAt l[k] now || ((k : Int) == act - 1))) := by
  simp [certAt, List.getD_eq_getElem?_getD, hk]
theorem validChain_pos {t : DTopology} {l : List DTrustRoot} (h : validChain t l = true) : 0 < l.length := by
  unfold validChain at h
  simp at h
  exact h.1
set_option maxRecDepth 100000 in
set_option maxHeartbeats 1000000 in
theorem impl_CertificateValid (vt vl : Value) (x : DCertificate) (now : Int) (t : DTopology) (l : List DTrustRoot) (w : World) (ht : TopologyV w.heap.size w vt t) (hl : TrustRootS w.heap.size w vl l) :
    Calls Tryz.prog 97 #[vt, vl, .agg #[I x.asn, I x.keyDigest, I x.rootVersion, I x.notBefore, I x.notAfter, I x.sig.asn, I x.sig.value], I now] w fun e w' => e = .returned (.bool (certValid t l x now)) ∧ Ext w w' := by
  obtain ⟨At_0, nt_0, ct_0, At_1, nt_1, ct_1, rfl, st_0, st_1⟩ := id ht
  obtain ⟨lt_0, kt_0, mt_0⟩ := st_0.len
  subst lt_0
  unfold maxLen at mt_0
  obtain ⟨lt_1, kt_1, mt_1⟩ := st_1.len
  subst lt_1
  unfold maxLen at mt_1
  have Rt := Lib.hid ht; clear ht
  have St_0 := Lib.hid st_0; clear st_0
  have St_1 := Lib.hid st_1; clear st_1
  obtain ⟨Al, nl, cl, rfl, ll, kl, ml, -⟩ := id hl
  subst ll
  unfold maxLen at ml
  have Rl := Lib.hid hl; clear hl
  cases hvc : validChain t l
  · have HF : Hid (certValid t l x now = false) := by unfold Hid; simp [certValid, certHead, hvc]
    go_enter Tryz.func97, Tryz.ntmps97
    go_wp2_with fail
    first | refine name_wp ?_ ?_ ?_ | refine name_calls ?_ ?_ ?_
    exact (fun W => Ext w W ∧ Blk W (w.heap.size) 27 [.slice At_0 t.ases.length ct_0, .slice At_1 t.links.length ct_1] ∧ Blk W (w.heap.size + 1) 85 [I x.asn, I x.keyDigest, I x.rootVersion, I x.notBefore, I x.notAfter, I x.sig.asn, I x.sig.value])
    exact ⟨xe, xb, xb⟩
    rintro w0 ⟨ew0, bt, bx⟩
    have lt := bt.lt
    obtain ⟨pt_0, pt_1⟩ := blk2 bt
    have Bt := Lib.hid bt; clear bt
    have lx := bx.lt
    obtain ⟨px_0, px_1, px_2, px_3, px_4, px_5, px_6⟩ := blk7 bx
    have Bx := Lib.hid bx; clear bx
    refine wp_region_L (E := Ext) (w0 := w0) (G := fun τ => match τ with | 14 => some (fun v _ => v = .bool (false)) | _ => none) Ext.refl (fun h k => Ext.trans h k) (by kernel_rfl) (by kernel_rfl) xg (Ext.drew (by exact Ext.refl _)) ?_
    repeat' (first
      | ((with_reducible refine wpL_skip ?_ ?_ ?_)
         · rfl
         · rfl
         simp only [Act.put, List.setIfInBounds_toArray, List.set_cons_zero, List.set_cons_succ])
      | ((with_reducible refine wpL_quiet ?_ ?_ ?_ ?_)
         · rfl
         · rfl
         · rfl
         apply Exists.intro
         refine ⟨fun W hW hS => ?_, ?_⟩
         · have hC := (Ext.facts hW).1
           go_simp
           first | done | (with_reducible rfl) | (rw [if_neg (by omega)]; exact ⟨rfl, rfl⟩) | rfl
         first | (with_reducible refine wpL_boolT ?_) | (with_reducible refine wpL_boolF ?_) | (with_reducible refine wpL_bool (fun hB => ?_) (fun hB => ?_)) | skip
         all_goals simp only [Act.put, List.setIfInBounds_toArray, List.set_cons_zero, List.set_cons_succ])
      | ((refine wpL_call ?_ rfl rfl ?_ ?_ ?_)
         · rfl
         · rfl
         · intro W hW hS
           have hC := (Ext.facts hW).1
           unfold growAt
           go_simp
           simp only [growUpon]
           first | (go_at_call 13; ((with_reducible refine Calls.mono (impl_ValidRootChain _ _ (t) (l) _ (by exact Rt.out.ext xe) (by exact Rl.out.ext xe)) ?_)); rintro e w9 ⟨rfl, e9⟩; exact ⟨_, rfl, e9, by first | rfl | (simp only [*])⟩)
         first | (with_reducible refine wpL_boolT ?_) | (with_reducible refine wpL_boolF ?_) | (with_reducible refine wpL_bool (fun hB => ?_) (fun hB => ?_)) | skip
         all_goals simp only [Act.put, List.setIfInBounds_toArray, List.set_cons_zero, List.set_cons_succ]))
    all_goals (refine wpL_nil (fun w1 e1 hL => ?_); clear hL)
    all_goals (go_wp2_with fail; go_ret; exact ⟨ret_bool HF.out.symm, xe⟩)
  · cases hva : isAs t x.asn
    · have HF : Hid (certValid t l x now = false) := by unfold Hid; simp [certValid, certHead, hva]
      go_enter Tryz.func97, Tryz.ntmps97
      go_wp2_with fail
      first | refine name_wp ?_ ?_ ?_ | refine name_calls ?_ ?_ ?_
      exact (fun W => Ext w W ∧ Blk W (w.heap.size) 27 [.slice At_0 t.ases.length ct_0, .slice At_1 t.links.length ct_1] ∧ Blk W (w.heap.size + 1) 85 [I x.asn, I x.keyDigest, I x.rootVersion, I x.notBefore, I x.notAfter, I x.sig.asn, I x.sig.value])
      exact ⟨xe, xb, xb⟩
      rintro w0 ⟨ew0, bt, bx⟩
      have lt := bt.lt
      obtain ⟨pt_0, pt_1⟩ := blk2 bt
      have Bt := Lib.hid bt; clear bt
      have lx := bx.lt
      obtain ⟨px_0, px_1, px_2, px_3, px_4, px_5, px_6⟩ := blk7 bx
      have Bx := Lib.hid bx; clear bx
      refine wp_region_L (E := Ext) (w0 := w0) (G := fun τ => match τ with | 14 => some (fun v _ => v = .bool (true)) | 20 => some (fun v _ => v = .bool (false)) | _ => none) Ext.refl (fun h k => Ext.trans h k) (by kernel_rfl) (by kernel_rfl) xg (Ext.drew (by exact Ext.refl _)) ?_
      repeat' (first
        | ((with_reducible refine wpL_skip ?_ ?_ ?_)
           · rfl
           · rfl
           simp only [Act.put, List.setIfInBounds_toArray, List.set_cons_zero, List.set_cons_succ])
        | ((with_reducible refine wpL_quiet ?_ ?_ ?_ ?_)
           · rfl
           · rfl
           · rfl
           apply Exists.intro
           refine ⟨fun W hW hS => ?_, ?_⟩
           · have hC := (Ext.facts hW).1
             go_simp
             first | done | (with_reducible rfl) | (rw [if_neg (by omega)]; exact ⟨rfl, rfl⟩) | rfl
           first | (with_reducible refine wpL_boolT ?_) | (with_reducible refine wpL_boolF ?_) | (with_reducible refine wpL_bool (fun hB => ?_) (fun hB => ?_)) | skip
           all_goals simp only [Act.put, List.setIfInBounds_toArray, List.set_cons_zero, List.set_cons_succ])
        | ((refine wpL_call ?_ rfl rfl ?_ ?_ ?_)
           · rfl
           · rfl
           · intro W hW hS
             have hC := (Ext.facts hW).1
             unfold growAt
             go_simp
             simp only [growUpon]
             first | (go_at_call 13; ((with_reducible refine Calls.mono (impl_ValidRootChain _ _ (t) (l) _ (by exact Rt.out.ext xe) (by exact Rl.out.ext xe)) ?_)); rintro e w9 ⟨rfl, e9⟩; exact ⟨_, rfl, e9, by first | rfl | (simp only [*])⟩) | (go_at_call 77; ((with_reducible refine Calls.mono (impl_isAS _ _ (t) _ (by exact Rt.out.ext xe)) ?_)); rintro e w9 ⟨rfl, e9⟩; exact ⟨_, rfl, e9, by first | rfl | (simp only [*])⟩)
           first | (with_reducible refine wpL_boolT ?_) | (with_reducible refine wpL_boolF ?_) | (with_reducible refine wpL_bool (fun hB => ?_) (fun hB => ?_)) | skip
           all_goals simp only [Act.put, List.setIfInBounds_toArray, List.set_cons_zero, List.set_cons_succ]))
      all_goals (refine wpL_nil (fun w1 e1 hL => ?_); clear hL)
      all_goals (go_wp2_with fail; go_ret; exact ⟨ret_bool HF.out.symm, xe⟩)
    · have h0 := validChain_pos hvc
      obtain ⟨m, hxm, hm⟩ := isAs_nat hva
      have i0 : (0 : Int) ≤ (m : Int) := by omega
      have i1 : (m : Int) < (t.ases.length : Int) := by omega
      have i2 : (0 : Int) < (l.length : Int) := by omega
      have hva' : isAs t m = true := by rw [← hxm]; exact hva
      have HVA := Lib.hid hva'; clear hva'
      have HXM := Lib.hid hxm; clear hxm
      go_enter Tryz.func97, Tryz.ntmps97
      go_wp2_with fail
      first | refine name_wp ?_ ?_ ?_ | refine name_calls ?_ ?_ ?_
      exact (fun W => Ext w W ∧ Blk W (w.heap.size) 27 [.slice At_0 t.ases.length ct_0, .slice At_1 t.links.length ct_1] ∧ Blk W (w.heap.size + 1) 85 [I x.asn, I x.keyDigest, I x.rootVersion, I x.notBefore, I x.notAfter, I x.sig.asn, I x.sig.value])
      exact ⟨xe, xb, xb⟩
      rintro w0 ⟨ew0, bt, bx⟩
      have lt := bt.lt
      obtain ⟨pt_0, pt_1⟩ := blk2 bt
      have Bt := Lib.hid bt; clear bt
      have lx := bx.lt
      obtain ⟨px_0, px_1, px_2, px_3, px_4, px_5, px_6⟩ := blk7 bx
      have Bx := Lib.hid bx; clear bx
      have hxm := HXM.out
      have hva' := HVA.out
      obtain ⟨b, off, rfl, hb, hkl, hc⟩ := (Rl.out.ext (w' := w0) xe).at_ h0
      obtain ⟨b2, off2, rfl, hb2, hkl2, hc2⟩ := (St_0.out.ext (w' := w0) xe).at_ hm
      have HH : Hid (certHead t l x now = (t.ases[m].isd == l[0].isd && (x.keyDigest == digest [t.ases[m].key] && inR now x.notBefore x.notAfter))) := by
        unfold Hid
        simp [certHead, hvc, HVA.out, hxm, asAt_nat t m hm, List.getD_eq_getElem?_getD, hkl]
      generalize l[0] = z at *
      generalize t.ases[m] = y at *
      simp only [TrustRootAt, Nat.zero_mul, Nat.add_zero] at hc
      obtain ⟨Az_6, nz_6, cz_6, hz_0, hz_1, hz_2, hz_3, hz_4, hz_5, hz_6, sz_6⟩ := hc
      obtain ⟨lz_6, kz_6, mz_6⟩ := sz_6.len
      subst lz_6
      unfold maxLen at mz_6
      have Rz : Hid (TrustRootV w0.heap.size w0 (.agg #[I z.isd, I z.version, I z.notBefore, I z.notAfter, I z.voters, I z.quorum, .slice Az_6 z.sigs.length cz_6]) z) := ⟨_, _, _, rfl, sz_6⟩
      have Sz_6 := Lib.hid sz_6; clear sz_6
      obtain ⟨h0y, h1y, h2y⟩ := hc2
      refine wp_region_L (E := Ext) (w0 := w0) (G := fun τ => match τ with | 14 => some (fun v _ => v = .bool (true)) | 20 => some (fun v _ => v = .bool (true)) | 47 => some (fun v W => IntS W.heap.size W v ([y.key])) | 48 => some (fun v _ => v = I (digest [y.key])) | 57 => some (fun v _ => v = .bool (inR now x.notBefore x.notAfter)) | _ => none) Ext.refl (fun h k => Ext.trans h k) (by kernel_rfl) (by kernel_rfl) xg (Ext.drew (by exact Ext.refl _)) ?_
      repeat' (first
        | ((with_reducible refine wpL_skip ?_ ?_ ?_)
           · rfl
           · rfl
           simp only [Act.put, List.setIfInBounds_toArray, List.set_cons_zero, List.set_cons_succ])
        | ((with_reducible refine wpL_quiet ?_ ?_ ?_ ?_)
           · rfl
           · rfl
           · rfl
           apply Exists.intro
           refine ⟨fun W hW hS => ?_, ?_⟩
           · have hC := (Ext.facts hW).1
             go_simp
             first | done | (with_reducible rfl) | (rw [if_neg (by omega)]; exact ⟨rfl, rfl⟩) | rfl
           first | (with_reducible refine wpL_boolT ?_) | (with_reducible refine wpL_boolF ?_) | (with_reducible refine wpL_bool (fun hB => ?_) (fun hB => ?_)) | skip
           all_goals simp only [Act.put, List.setIfInBounds_toArray, List.set_cons_zero, List.set_cons_succ])
        | ((refine wpL_call ?_ rfl rfl ?_ ?_ ?_)
           · rfl
           · rfl
           · intro W hW hS
             have hC := (Ext.facts hW).1
             unfold growAt
             go_simp
             simp only [growUpon]
             first | (go_at_call 13; ((with_reducible refine Calls.mono (impl_ValidRootChain _ _ (t) (l) _ (by exact Rt.out.ext xe) (by exact Rl.out.ext xe)) ?_)); rintro e w9 ⟨rfl, e9⟩; exact ⟨_, rfl, e9, by first | rfl | (simp only [*])⟩) | (go_at_call 77; ((with_reducible refine Calls.mono (impl_isAS _ _ (t) _ (by exact Rt.out.ext xe)) ?_)); rintro e w9 ⟨rfl, e9⟩; exact ⟨_, rfl, e9, by first | rfl | (simp only [*])⟩) | (refine ⟨xe, Own.ints (E := 3) (n := 1) (lo := 0) ?_⟩; (first | exact own_new _ _ _ _ _ rfl (Nat.zero_le _) | exact own_newN _ _ _ _ _ _ _ rfl (by simp) (by unfold maxLen; omega) (Nat.zero_le _))) | (go_at_call 125; have hs47 : IntS W.heap.size W _ ([y.key]) := hS 47 (by decide); ((with_reducible refine Calls.mono (impl_Digest _ ([y.key]) _ (by exact hs47)) ?_)); rintro e w9 ⟨rfl, rfl⟩; exact ⟨_, rfl, Ext.refl _, by first | rfl | (simp only [*])⟩) | (go_at_call 60; ((with_reducible refine Calls.mono (impl_InRange _ _ _ _) ?_)); rintro e w9 ⟨rfl, rfl⟩; exact ⟨_, rfl, Ext.refl _, by first | rfl | (simp only [*])⟩)
           first | (with_reducible refine wpL_boolT ?_) | (with_reducible refine wpL_boolF ?_) | (with_reducible refine wpL_bool (fun hB => ?_) (fun hB => ?_)) | skip
           all_goals simp only [Act.put, List.setIfInBounds_toArray, List.set_cons_zero, List.set_cons_succ])
        | ((refine wpL_grow ?_ rfl rfl ?_ ?_)
           · rfl
           · intro W hW hS
             have hC := (Ext.facts hW).1
             unfold growAt
             go_simp
             simp only [growUpon]
             first | (go_at_call 13; ((with_reducible refine Calls.mono (impl_ValidRootChain _ _ (t) (l) _ (by exact Rt.out.ext xe) (by exact Rl.out.ext xe)) ?_)); rintro e w9 ⟨rfl, e9⟩; exact ⟨_, rfl, e9, by first | rfl | (simp only [*])⟩) | (go_at_call 77; ((with_reducible refine Calls.mono (impl_isAS _ _ (t) _ (by exact Rt.out.ext xe)) ?_)); rintro e w9 ⟨rfl, e9⟩; exact ⟨_, rfl, e9, by first | rfl | (simp only [*])⟩) | (refine ⟨xe, Own.ints (E := 3) (n := 1) (lo := 0) ?_⟩; (first | exact own_new _ _ _ _ _ rfl (Nat.zero_le _) | exact own_newN _ _ _ _ _ _ _ rfl (by simp) (by unfold maxLen; omega) (Nat.zero_le _))) | (go_at_call 125; have hs47 : IntS W.heap.size W _ ([y.key]) := hS 47 (by decide); ((with_reducible refine Calls.mono (impl_Digest _ ([y.key]) _ (by exact hs47)) ?_)); rintro e w9 ⟨rfl, rfl⟩; exact ⟨_, rfl, Ext.refl _, by first | rfl | (simp only [*])⟩) | (go_at_call 60; ((with_reducible refine Calls.mono (impl_InRange _ _ _ _) ?_)); rintro e w9 ⟨rfl, rfl⟩; exact ⟨_, rfl, Ext.refl _, by first | rfl | (simp only [*])⟩)
           intro v W' hW' hv
           first  | (obtain ⟨A5, n5, c5, rfl, -⟩ := id hv; clear hv) | (obtain ⟨A5, n5, c5, rfl⟩ := NO.slice hv) | skip
           all_goals simp only [Act.put, List.setIfInBounds_toArray, List.set_cons_zero, List.set_cons_succ]))
      all_goals (refine wpL_nil (fun w1 e1 hL => ?_); clear hL)
      all_goals first
        | (go_wp2_with fail; go_ret; exact ⟨ret_bool (by unfold certValid; rw [HH.out]; simp_all), xe⟩)
        | skip
      have HM : Hid (certValid t l x now = certScan t l x now (activeRoot t l now)) := by unfold Hid certValid; rw [HH.out]; simp_all
      clear hvc hva hva' HH hxm
      clear hz_0 hz_1 hz_2 hz_3 hz_4 hz_5 hz_6 h0y h1y h2y i0 i1 i2 hB
      have bt := Bt.out.ext (w' := w1) xe
      have lt := bt.lt
      obtain ⟨pt_0, pt_1⟩ := blk2 bt
      clear bt
      have bx := Bx.out.ext (w' := w1) xe
      have lx := bx.lt
      obtain ⟨px_0, px_1, px_2, px_3, px_4, px_5, px_6⟩ := blk7 bx
      clear bx
      go_wp2_with fail
      refine (impl_ActiveRoot _ _ _ (t) (l) _ (by exact Rt.out.ext xe) (by exact Rl.out.ext xe)).mono ?_
      rintro e w2 ⟨rfl, ew2⟩
      have hab := activeRoot_bounds t l now
      generalize activeRoot t l now = act at *
      obtain ⟨ha0, ha1⟩ := hab
      go_wp2_with fail
      go_loopw [66] (fun i wr => ∃ k : Nat, k ≤ l.length ∧ i = I k ∧ (∀ j, j < k → certAt l x now act j = false) ∧ Ext w2 wr) (fun i _ => l.length - (intOf i).toNat)
      case atStart => exact ⟨0, by omega, rfl, fun _ h => absurd h (by omega), Ext.refl _⟩
      case round =>
        obtain ⟨k, hk, rfl, hq, he⟩ := hrel
        have HQ := Lib.hid hq; clear hq
        have bt := Bt.out.ext (w' := wr) xe
        have lt := bt.lt
        obtain ⟨pt_0, pt_1⟩ := blk2 bt
        clear bt
        have bx := Bx.out.ext (w' := wr) xe
        have lx := bx.lt
        obtain ⟨px_0, px_1, px_2, px_3, px_4, px_5, px_6⟩ := blk7 bx
        clear bx
        by_cases hlt : k < l.length
        · obtain ⟨b3, off3, hA3, hb3, hkl3, hc3⟩ := (Rl.out.ext (w' := wr) xe).at_ hlt
          cases hA3
          have HP := Lib.hid (certAt_at (x := x) (now := now) (act := act) hkl3)
          have HS := Lib.hid (fun hp => certScan_at (t := t) hkl3 HQ.out hp)
          generalize l[k] = u at *
          obtain ⟨Au_6, nu_6, cu_6, hu_0, hu_1, hu_2, hu_3, hu_4, hu_5, hu_6, su_6⟩ := hc3
          obtain ⟨lu_6, ku_6, mu_6⟩ := su_6.len
          subst lu_6
          unfold maxLen at mu_6
          have Ru : Hid (TrustRootV wr.heap.size wr (.agg #[I u.isd, I u.version, I u.notBefore, I u.notAfter, I u.voters, I u.quorum, .slice Au_6 u.sigs.length cu_6]) u) := ⟨_, _, _, rfl, su_6⟩
          have Su_6 := Lib.hid su_6; clear su_6
          cases hq : u.version == x.rootVersion
          · have HN : Hid (certAt l x now act k = false) := by unfold Hid; rw [HP.out, hq]; rfl
            go_wp2_with fail
            go_roundw
            case rel => exact ⟨k + 1, by omega, by go_num, below_succF HQ.out HN.out, xe⟩
            case measure => simp [intOf]; omega
          · have hqe : x.rootVersion = u.version := (beq_iff_eq.1 hq).symm
            cases hr : rootOkAt u now
            · by_cases ha : (k : Int) = act - 1
              · have HY : Hid (certScan t l x now act = certSig t u x) := HS.out (by rw [HP.out, hq, hr]; simp [ha])
                clear hq
                obtain rfl : act = (k : Int) + 1 := by omega
                clear ha
                go_wp2_with fail
                first | refine name_wp ?_ ?_ ?_ | refine name_calls ?_ ?_ ?_
                exact (fun W => Ext wr W ∧ Blk W (wr.heap.size) 64 [I u.isd, I u.version, I u.notBefore, I u.notAfter, I u.voters, I u.quorum, .slice Au_6 u.sigs.length cu_6])
                exact ⟨xe, xb⟩
                rintro w4 ⟨ew4, bu⟩
                have lu := bu.lt
                obtain ⟨pu_0, pu_1, pu_2, pu_3, pu_4, pu_5, pu_6⟩ := blk7 bu
                have Bu := Lib.hid bu; clear bu
                have bt := Bt.out.ext (w' := w4) xe
                have lt := bt.lt
                obtain ⟨pt_0, pt_1⟩ := blk2 bt
                clear bt
                have bx := Bx.out.ext (w' := w4) xe
                have lx := bx.lt
                obtain ⟨px_0, px_1, px_2, px_3, px_4, px_5, px_6⟩ := blk7 bx
                clear bx
                refine (impl_rootValidAt _ _ (u) _ (by exact Ru.out.ext xe)).mono ?_
                rintro e w5 ⟨rfl, ew5⟩
                have bt := Bt.out.ext (w' := w5) xe
                have lt := bt.lt
                obtain ⟨pt_0, pt_1⟩ := blk2 bt
                clear bt
                have bx := Bx.out.ext (w' := w5) xe
                have lx := bx.lt
                obtain ⟨px_0, px_1, px_2, px_3, px_4, px_5, px_6⟩ := blk7 bx
                clear bx
                have bu := Bu.out.ext (w' := w5) xe
                have lu := bu.lt
                obtain ⟨pu_0, pu_1, pu_2, pu_3, pu_4, pu_5, pu_6⟩ := blk7 bu
                clear bu
                rw [hr]
                clear hr hqe
                go_wp2_with fail
                refine wp_region_L (E := Ext) (w0 := w5) (G := fun τ => match τ with | 92 => some (fun v _ => v = .bool (contains u.voters x.sig.asn)) | 98 => some (fun v W => IntS W.heap.size W v (certData x)) | 99 => some (fun v _ => v = .bool (verifySig t x.sig (certData x))) | _ => none) Ext.refl (fun h k => Ext.trans h k) (by kernel_rfl) (by kernel_rfl) xg (Ext.drew (by exact Ext.refl _)) ?_
                repeat' (first
                  | ((with_reducible refine wpL_skip ?_ ?_ ?_)
                     · rfl
                     · rfl
                     simp only [Act.put, List.setIfInBounds_toArray, List.set_cons_zero, List.set_cons_succ])
                  | ((with_reducible refine wpL_quiet ?_ ?_ ?_ ?_)
                     · rfl
                     · rfl
                     · rfl
                     apply Exists.intro
                     refine ⟨fun W hW hS => ?_, ?_⟩
                     · have hC := (Ext.facts hW).1
                       go_simp
                       first | done | (with_reducible rfl) | (rw [if_neg (by omega)]; exact ⟨rfl, rfl⟩) | rfl
                     first | (with_reducible refine wpL_boolT ?_) | (with_reducible refine wpL_boolF ?_) | (with_reducible refine wpL_bool (fun hB => ?_) (fun hB => ?_)) | skip
                     all_goals simp only [Act.put, List.setIfInBounds_toArray, List.set_cons_zero, List.set_cons_succ])
                  | ((refine wpL_call ?_ rfl rfl ?_ ?_ ?_)
                     · rfl
                     · rfl
                     · intro W hW hS
                       have hC := (Ext.facts hW).1
                       unfold growAt
                       go_simp
                       simp only [growUpon]
                       first | (go_at_call 26; ((with_reducible refine Calls.mono (impl_Contains _ _ _) ?_)); rintro e w9 ⟨rfl, rfl⟩; exact ⟨_, rfl, Ext.refl _, by first | rfl | (simp only [*])⟩) | (go_at_call 128; ((with_reducible refine Calls.mono (impl_CertificateData (x) _) ?_)); rintro e w9 ⟨v9, rfl, o9, e9⟩; exact ⟨_, rfl, e9, IntSO_rd o9⟩) | (go_at_call 36; have hs98 : IntS W.heap.size W _ (certData x) := hS 98 (by decide); ((with_reducible refine Calls.mono (impl_VerifySignature _ (x.sig) _ (t) (certData x) _ (by exact Rt.out.ext xe) (by exact hs98) (by first | omega | (simp [rootData]; done) | (simp [certData]; done) | (simp only [List.length_cons, List.length_nil]; omega))) ?_)); rintro e w9 ⟨rfl, e9⟩; exact ⟨_, rfl, e9, by first | rfl | (simp only [*])⟩)
                     first | (with_reducible refine wpL_boolT ?_) | (with_reducible refine wpL_boolF ?_) | (with_reducible refine wpL_bool (fun hB => ?_) (fun hB => ?_)) | skip
                     all_goals simp only [Act.put, List.setIfInBounds_toArray, List.set_cons_zero, List.set_cons_succ])
                  | ((refine wpL_grow ?_ rfl rfl ?_ ?_)
                     · rfl
                     · intro W hW hS
                       have hC := (Ext.facts hW).1
                       unfold growAt
                       go_simp
                       simp only [growUpon]
                       first | (go_at_call 26; ((with_reducible refine Calls.mono (impl_Contains _ _ _) ?_)); rintro e w9 ⟨rfl, rfl⟩; exact ⟨_, rfl, Ext.refl _, by first | rfl | (simp only [*])⟩) | (go_at_call 128; ((with_reducible refine Calls.mono (impl_CertificateData (x) _) ?_)); rintro e w9 ⟨v9, rfl, o9, e9⟩; exact ⟨_, rfl, e9, IntSO_rd o9⟩) | (go_at_call 36; have hs98 : IntS W.heap.size W _ (certData x) := hS 98 (by decide); ((with_reducible refine Calls.mono (impl_VerifySignature _ (x.sig) _ (t) (certData x) _ (by exact Rt.out.ext xe) (by exact hs98) (by first | omega | (simp [rootData]; done) | (simp [certData]; done) | (simp only [List.length_cons, List.length_nil]; omega))) ?_)); rintro e w9 ⟨rfl, e9⟩; exact ⟨_, rfl, e9, by first | rfl | (simp only [*])⟩)
                     intro v W' hW' hv
                     first  | (obtain ⟨A5, n5, c5, rfl, -⟩ := id hv; clear hv) | (obtain ⟨A5, n5, c5, rfl⟩ := NO.slice hv) | skip
                     all_goals simp only [Act.put, List.setIfInBounds_toArray, List.set_cons_zero, List.set_cons_succ]))
                all_goals (refine wpL_nil (fun w6 e6 hL => ?_); clear hL)
                all_goals (go_wp2_with fail; go_ret; exact ⟨ret_bool (by rw [HM.out, HY.out]; simp [certSig, *]), xe⟩)
              · have HN : Hid (certAt l x now act k = false) := by unfold Hid; rw [HP.out, hr]; simp [ha]
                clear hq
                have hb' : ((k : Int) == act - 1) = false := beq_eq_false_iff_ne.2 ha
                go_wp2_with fail
                first | refine name_wp ?_ ?_ ?_ | refine name_calls ?_ ?_ ?_
                exact (fun W => Ext wr W ∧ Blk W (wr.heap.size) 64 [I u.isd, I u.version, I u.notBefore, I u.notAfter, I u.voters, I u.quorum, .slice Au_6 u.sigs.length cu_6])
                exact ⟨xe, xb⟩
                rintro w4 ⟨ew4, bu⟩
                have lu := bu.lt
                obtain ⟨pu_0, pu_1, pu_2, pu_3, pu_4, pu_5, pu_6⟩ := blk7 bu
                have Bu := Lib.hid bu; clear bu
                have bt := Bt.out.ext (w' := w4) xe
                have lt := bt.lt
                obtain ⟨pt_0, pt_1⟩ := blk2 bt
                clear bt
                have bx := Bx.out.ext (w' := w4) xe
                have lx := bx.lt
                obtain ⟨px_0, px_1, px_2, px_3, px_4, px_5, px_6⟩ := blk7 bx
                clear bx
                refine (impl_rootValidAt _ _ (u) _ (by exact Ru.out.ext xe)).mono ?_
                rintro e w5 ⟨rfl, ew5⟩
                have bt := Bt.out.ext (w' := w5) xe
                have lt := bt.lt
                obtain ⟨pt_0, pt_1⟩ := blk2 bt
                clear bt
                have bx := Bx.out.ext (w' := w5) xe
                have lx := bx.lt
                obtain ⟨px_0, px_1, px_2, px_3, px_4, px_5, px_6⟩ := blk7 bx
                clear bx
                have bu := Bu.out.ext (w' := w5) xe
                have lu := bu.lt
                obtain ⟨pu_0, pu_1, pu_2, pu_3, pu_4, pu_5, pu_6⟩ := blk7 bu
                clear bu
                rw [hr]
                clear hr hqe
                go_wp2_with fail
                go_roundw
                case rel => exact ⟨k + 1, by omega, by go_num, below_succF HQ.out HN.out, xe⟩
                case measure => simp [intOf]; omega
            · have HY : Hid (certScan t l x now act = certSig t u x) := HS.out (by rw [HP.out, hq, hr]; rfl)
              clear hq
              go_wp2_with fail
              first | refine name_wp ?_ ?_ ?_ | refine name_calls ?_ ?_ ?_
              exact (fun W => Ext wr W ∧ Blk W (wr.heap.size) 64 [I u.isd, I u.version, I u.notBefore, I u.notAfter, I u.voters, I u.quorum, .slice Au_6 u.sigs.length cu_6])
              exact ⟨xe, xb⟩
              rintro w4 ⟨ew4, bu⟩
              have lu := bu.lt
              obtain ⟨pu_0, pu_1, pu_2, pu_3, pu_4, pu_5, pu_6⟩ := blk7 bu
              have Bu := Lib.hid bu; clear bu
              have bt := Bt.out.ext (w' := w4) xe
              have lt := bt.lt
              obtain ⟨pt_0, pt_1⟩ := blk2 bt
              clear bt
              have bx := Bx.out.ext (w' := w4) xe
              have lx := bx.lt
              obtain ⟨px_0, px_1, px_2, px_3, px_4, px_5, px_6⟩ := blk7 bx
              clear bx
              refine (impl_rootValidAt _ _ (u) _ (by exact Ru.out.ext xe)).mono ?_
              rintro e w5 ⟨rfl, ew5⟩
              have bt := Bt.out.ext (w' := w5) xe
              have lt := bt.lt
              obtain ⟨pt_0, pt_1⟩ := blk2 bt
              clear bt
              have bx := Bx.out.ext (w' := w5) xe
              have lx := bx.lt
              obtain ⟨px_0, px_1, px_2, px_3, px_4, px_5, px_6⟩ := blk7 bx
              clear bx
              have bu := Bu.out.ext (w' := w5) xe
              have lu := bu.lt
              obtain ⟨pu_0, pu_1, pu_2, pu_3, pu_4, pu_5, pu_6⟩ := blk7 bu
              clear bu
              rw [hr]
              clear hr hqe
              go_wp2_with fail
              refine wp_region_L (E := Ext) (w0 := w5) (G := fun τ => match τ with | 92 => some (fun v _ => v = .bool (contains u.voters x.sig.asn)) | 98 => some (fun v W => IntS W.heap.size W v (certData x)) | 99 => some (fun v _ => v = .bool (verifySig t x.sig (certData x))) | _ => none) Ext.refl (fun h k => Ext.trans h k) (by kernel_rfl) (by kernel_rfl) xg (Ext.drew (by exact Ext.refl _)) ?_
              repeat' (first
                | ((with_reducible refine wpL_skip ?_ ?_ ?_)
                   · rfl
                   · rfl
                   simp only [Act.put, List.setIfInBounds_toArray, List.set_cons_zero, List.set_cons_succ])
                | ((with_reducible refine wpL_quiet ?_ ?_ ?_ ?_)
                   · rfl
                   · rfl
                   · rfl
                   apply Exists.intro
                   refine ⟨fun W hW hS => ?_, ?_⟩
                   · have hC := (Ext.facts hW).1
                     go_simp
                     first | done | (with_reducible rfl) | (rw [if_neg (by omega)]; exact ⟨rfl, rfl⟩) | rfl
                   first | (with_reducible refine wpL_boolT ?_) | (with_reducible refine wpL_boolF ?_) | (with_reducible refine wpL_bool (fun hB => ?_) (fun hB => ?_)) | skip
                   all_goals simp only [Act.put, List.setIfInBounds_toArray, List.set_cons_zero, List.set_cons_succ])
                | ((refine wpL_call ?_ rfl rfl ?_ ?_ ?_)
                   · rfl
                   · rfl
                   · intro W hW hS
                     have hC := (Ext.facts hW).1
                     unfold growAt
                     go_simp
                     simp only [growUpon]
                     first | (go_at_call 26; ((with_reducible refine Calls.mono (impl_Contains _ _ _) ?_)); rintro e w9 ⟨rfl, rfl⟩; exact ⟨_, rfl, Ext.refl _, by first | rfl | (simp only [*])⟩) | (go_at_call 128; ((with_reducible refine Calls.mono (impl_CertificateData (x) _) ?_)); rintro e w9 ⟨v9, rfl, o9, e9⟩; exact ⟨_, rfl, e9, IntSO_rd o9⟩) | (go_at_call 36; have hs98 : IntS W.heap.size W _ (certData x) := hS 98 (by decide); ((with_reducible refine Calls.mono (impl_VerifySignature _ (x.sig) _ (t) (certData x) _ (by exact Rt.out.ext xe) (by exact hs98) (by first | omega | (simp [rootData]; done) | (simp [certData]; done) | (simp only [List.length_cons, List.length_nil]; omega))) ?_)); rintro e w9 ⟨rfl, e9⟩; exact ⟨_, rfl, e9, by first | rfl | (simp only [*])⟩)
                   first | (with_reducible refine wpL_boolT ?_) | (with_reducible refine wpL_boolF ?_) | (with_reducible refine wpL_bool (fun hB => ?_) (fun hB => ?_)) | skip
                   all_goals simp only [Act.put, List.setIfInBounds_toArray, List.set_cons_zero, List.set_cons_succ])
                | ((refine wpL_grow ?_ rfl rfl ?_ ?_)
                   · rfl
                   · intro W hW hS
                     have hC := (Ext.facts hW).1
                     unfold growAt
                     go_simp
                     simp only [growUpon]
                     first | (go_at_call 26; ((with_reducible refine Calls.mono (impl_Contains _ _ _) ?_)); rintro e w9 ⟨rfl, rfl⟩; exact ⟨_, rfl, Ext.refl _, by first | rfl | (simp only [*])⟩) | (go_at_call 128; ((with_reducible refine Calls.mono (impl_CertificateData (x) _) ?_)); rintro e w9 ⟨v9, rfl, o9, e9⟩; exact ⟨_, rfl, e9, IntSO_rd o9⟩) | (go_at_call 36; have hs98 : IntS W.heap.size W _ (certData x) := hS 98 (by decide); ((with_reducible refine Calls.mono (impl_VerifySignature _ (x.sig) _ (t) (certData x) _ (by exact Rt.out.ext xe) (by exact hs98) (by first | omega | (simp [rootData]; done) | (simp [certData]; done) | (simp only [List.length_cons, List.length_nil]; omega))) ?_)); rintro e w9 ⟨rfl, e9⟩; exact ⟨_, rfl, e9, by first | rfl | (simp only [*])⟩)
                   intro v W' hW' hv
                   first  | (obtain ⟨A5, n5, c5, rfl, -⟩ := id hv; clear hv) | (obtain ⟨A5, n5, c5, rfl⟩ := NO.slice hv) | skip
                   all_goals simp only [Act.put, List.setIfInBounds_toArray, List.set_cons_zero, List.set_cons_succ]))
              all_goals (refine wpL_nil (fun w6 e6 hL => ?_); clear hL)
              all_goals (go_wp2_with fail; go_ret; exact ⟨ret_bool (by rw [HM.out, HY.out]; simp [certSig, *]), xe⟩)
        · go_wp2_with fail
          go_ret
          exact ⟨ret_bool (by rw [HM.out, certScan_no (fun j hj => HQ.out j (by omega))]), xe⟩
set_option maxRecDepth 100000 in
set_option maxHeartbeats 1000000 in
theorem spec_CertificateValid (vt vl : Value) (x : DCertificate) (now : Int) (t : DTopology) (l : List DTrustRoot) (w : World) (ht : TopologyV w.heap.size w vt t) (hl : TrustRootS w.heap.size w vl l) :
    Calls Tryz.prog 67 #[vt, vl, .agg #[I x.asn, I x.keyDigest, I x.rootVersion, I x.notBefore, I x.notAfter, I x.sig.asn, I x.sig.value], I now] w fun e w' => e = .returned (.bool (certValid t l x now)) ∧ Ext w w' := by
  obtain ⟨At_0, nt_0, ct_0, At_1, nt_1, ct_1, rfl, st_0, st_1⟩ := id ht
  obtain ⟨lt_0, kt_0, mt_0⟩ := st_0.len
  subst lt_0
  unfold maxLen at mt_0
  obtain ⟨lt_1, kt_1, mt_1⟩ := st_1.len
  subst lt_1
  unfold maxLen at mt_1
  have Rt := Lib.hid ht; clear ht
  have St_0 := Lib.hid st_0; clear st_0
  have St_1 := Lib.hid st_1; clear st_1
  obtain ⟨Al, nl, cl, rfl, ll, kl, ml, -⟩ := id hl
  subst ll
  unfold maxLen at ml
  have Rl := Lib.hid hl; clear hl
  have hab := activeRoot_bounds t l now
  have HCV : Hid (certValid t l x now = (certHead t l x now && certScan t l x now (activeRoot t l now))) := rfl
  cases hvc : validChain t l
  · have HF : Hid (certValid t l x now = false) := by unfold Hid; simp [certValid, certHead, hvc]
    go_enter Tryz.func67, Tryz.ntmps67
    go_wp2_with fail
    first | refine name_wp ?_ ?_ ?_ | refine name_calls ?_ ?_ ?_
    exact (fun W => Ext w W ∧ Blk W (w.heap.size) 27 [.slice At_0 t.ases.length ct_0, .slice At_1 t.links.length ct_1] ∧ Blk W (w.heap.size + 1) 85 [I x.asn, I x.keyDigest, I x.rootVersion, I x.notBefore, I x.notAfter, I x.sig.asn, I x.sig.value])
    exact ⟨xe, xb, xb⟩
    rintro w0 ⟨ew0, bt, bx⟩
    have lt := bt.lt
    obtain ⟨pt_0, pt_1⟩ := blk2 bt
    have Bt := Lib.hid bt; clear bt
    have lx := bx.lt
    obtain ⟨px_0, px_1, px_2, px_3, px_4, px_5, px_6⟩ := blk7 bx
    have Bx := Lib.hid bx; clear bx
    refine (spec_ActiveRoot _ _ _ (t) (l) _ (by exact Rt.out.ext xe) (by exact Rl.out.ext xe)).mono ?_
    rintro e w2 ⟨rfl, ew2⟩
    have bt := Bt.out.ext (w' := w2) xe
    have lt := bt.lt
    obtain ⟨pt_0, pt_1⟩ := blk2 bt
    clear bt
    have bx := Bx.out.ext (w' := w2) xe
    have lx := bx.lt
    obtain ⟨px_0, px_1, px_2, px_3, px_4, px_5, px_6⟩ := blk7 bx
    clear bx
    generalize activeRoot t l now = act at *
    go_wp2_with fail
    refine wp_region_L (E := Ext) (w0 := w2) (G := fun τ => match τ with | 17 => some (fun v _ => v = .bool (false)) | _ => none) Ext.refl (fun h k => Ext.trans h k) (by kernel_rfl) (by kernel_rfl) xg (Ext.drew (by exact Ext.refl _)) ?_
    repeat' (first
      | ((with_reducible refine wpL_skip ?_ ?_ ?_)
         · rfl
         · rfl
         simp only [Act.put, List.setIfInBounds_toArray, List.set_cons_zero, List.set_cons_succ])
      | ((with_reducible refine wpL_quiet ?_ ?_ ?_ ?_)
         · rfl
         · rfl
         · rfl
         apply Exists.intro
         refine ⟨fun W hW hS => ?_, ?_⟩
         · have hC := (Ext.facts hW).1
           go_simp
           first | done | (with_reducible rfl) | (rw [if_neg (by omega)]; exact ⟨rfl, rfl⟩) | rfl
         first | (with_reducible refine wpL_boolT ?_) | (with_reducible refine wpL_boolF ?_) | (with_reducible refine wpL_bool (fun hB => ?_) (fun hB => ?_)) | skip
         all_goals simp only [Act.put, List.setIfInBounds_toArray, List.set_cons_zero, List.set_cons_succ])
      | ((refine wpL_call ?_ rfl rfl ?_ ?_ ?_)
         · rfl
         · rfl
         · intro W hW hS
           have hC := (Ext.facts hW).1
           unfold growAt
           go_simp
           simp only [growUpon]
           first | (go_at_call 29; ((with_reducible refine Calls.mono (spec_ValidRootChain _ _ (t) (l) _ (by exact Rt.out.ext xe) (by exact Rl.out.ext xe)) ?_)); rintro e w9 ⟨rfl, e9⟩; exact ⟨_, rfl, e9, by first | rfl | (simp only [*])⟩)
         first | (with_reducible refine wpL_boolT ?_) | (with_reducible refine wpL_boolF ?_) | (with_reducible refine wpL_bool (fun hB => ?_) (fun hB => ?_)) | skip
         all_goals simp only [Act.put, List.setIfInBounds_toArray, List.set_cons_zero, List.set_cons_succ]))
    all_goals (refine wpL_nil (fun w1 e1 hL => ?_); clear hL)
    all_goals (go_wp2_with fail; go_ret; exact ⟨ret_bool HF.out.symm, xe⟩)
  · cases hva : isAs t x.asn
    · have HF : Hid (certValid t l x now = false) := by unfold Hid; simp [certValid, certHead, hva]
      go_enter Tryz.func67, Tryz.ntmps67
      go_wp2_with fail
      first | refine name_wp ?_ ?_ ?_ | refine name_calls ?_ ?_ ?_
      exact (fun W => Ext w W ∧ Blk W (w.heap.size) 27 [.slice At_0 t.ases.length ct_0, .slice At_1 t.links.length ct_1] ∧ Blk W (w.heap.size + 1) 85 [I x.asn, I x.keyDigest, I x.rootVersion, I x.notBefore, I x.notAfter, I x.sig.asn, I x.sig.value])
      exact ⟨xe, xb, xb⟩
      rintro w0 ⟨ew0, bt, bx⟩
      have lt := bt.lt
      obtain ⟨pt_0, pt_1⟩ := blk2 bt
      have Bt := Lib.hid bt; clear bt
      have lx := bx.lt
      obtain ⟨px_0, px_1, px_2, px_3, px_4, px_5, px_6⟩ := blk7 bx
      have Bx := Lib.hid bx; clear bx
      refine (spec_ActiveRoot _ _ _ (t) (l) _ (by exact Rt.out.ext xe) (by exact Rl.out.ext xe)).mono ?_
      rintro e w2 ⟨rfl, ew2⟩
      have bt := Bt.out.ext (w' := w2) xe
      have lt := bt.lt
      obtain ⟨pt_0, pt_1⟩ := blk2 bt
      clear bt
      have bx := Bx.out.ext (w' := w2) xe
      have lx := bx.lt
      obtain ⟨px_0, px_1, px_2, px_3, px_4, px_5, px_6⟩ := blk7 bx
      clear bx
      generalize activeRoot t l now = act at *
      go_wp2_with fail
      refine wp_region_L (E := Ext) (w0 := w2) (G := fun τ => match τ with | 17 => some (fun v _ => v = .bool (true)) | 23 => some (fun v _ => v = .bool (false)) | _ => none) Ext.refl (fun h k => Ext.trans h k) (by kernel_rfl) (by kernel_rfl) xg (Ext.drew (by exact Ext.refl _)) ?_
      repeat' (first
        | ((with_reducible refine wpL_skip ?_ ?_ ?_)
           · rfl
           · rfl
           simp only [Act.put, List.setIfInBounds_toArray, List.set_cons_zero, List.set_cons_succ])
        | ((with_reducible refine wpL_quiet ?_ ?_ ?_ ?_)
           · rfl
           · rfl
           · rfl
           apply Exists.intro
           refine ⟨fun W hW hS => ?_, ?_⟩
           · have hC := (Ext.facts hW).1
             go_simp
             first | done | (with_reducible rfl) | (rw [if_neg (by omega)]; exact ⟨rfl, rfl⟩) | rfl
           first | (with_reducible refine wpL_boolT ?_) | (with_reducible refine wpL_boolF ?_) | (with_reducible refine wpL_bool (fun hB => ?_) (fun hB => ?_)) | skip
           all_goals simp only [Act.put, List.setIfInBounds_toArray, List.set_cons_zero, List.set_cons_succ])
        | ((refine wpL_call ?_ rfl rfl ?_ ?_ ?_)
           · rfl
           · rfl
           · intro W hW hS
             have hC := (Ext.facts hW).1
             unfold growAt
             go_simp
             simp only [growUpon]
             first | (go_at_call 29; ((with_reducible refine Calls.mono (spec_ValidRootChain _ _ (t) (l) _ (by exact Rt.out.ext xe) (by exact Rl.out.ext xe)) ?_)); rintro e w9 ⟨rfl, e9⟩; exact ⟨_, rfl, e9, by first | rfl | (simp only [*])⟩) | (go_at_call 44; ((with_reducible refine Calls.mono (spec_l5Realm _ _ (t) _ (by exact Rt.out.ext xe)) ?_)); rintro e w9 ⟨rfl, e9⟩; exact ⟨_, rfl, e9, by first | rfl | (simp only [*])⟩)
           first | (with_reducible refine wpL_boolT ?_) | (with_reducible refine wpL_boolF ?_) | (with_reducible refine wpL_bool (fun hB => ?_) (fun hB => ?_)) | skip
           all_goals simp only [Act.put, List.setIfInBounds_toArray, List.set_cons_zero, List.set_cons_succ]))
      all_goals (refine wpL_nil (fun w1 e1 hL => ?_); clear hL)
      all_goals (go_wp2_with fail; go_ret; exact ⟨ret_bool HF.out.symm, xe⟩)
    · have h0 := validChain_pos hvc
      obtain ⟨m, hxm, hm⟩ := isAs_nat hva
      have i0 : (0 : Int) ≤ (m : Int) := by omega
      have i1 : (m : Int) < (t.ases.length : Int) := by omega
      have i2 : (0 : Int) < (l.length : Int) := by omega
      have hva' : isAs t m = true := by rw [← hxm]; exact hva
      have HVA := Lib.hid hva'; clear hva'
      go_enter Tryz.func67, Tryz.ntmps67
      have HXM := Lib.hid hxm; clear hxm
      go_wp2_with fail
      first | refine name_wp ?_ ?_ ?_ | refine name_calls ?_ ?_ ?_
      exact (fun W => Ext w W ∧ Blk W (w.heap.size) 27 [.slice At_0 t.ases.length ct_0, .slice At_1 t.links.length ct_1] ∧ Blk W (w.heap.size + 1) 85 [I x.asn, I x.keyDigest, I x.rootVersion, I x.notBefore, I x.notAfter, I x.sig.asn, I x.sig.value])
      exact ⟨xe, xb, xb⟩
      rintro w0 ⟨ew0, bt, bx⟩
      have lt := bt.lt
      obtain ⟨pt_0, pt_1⟩ := blk2 bt
      have Bt := Lib.hid bt; clear bt
      have lx := bx.lt
      obtain ⟨px_0, px_1, px_2, px_3, px_4, px_5, px_6⟩ := blk7 bx
      have Bx := Lib.hid bx; clear bx
      refine (spec_ActiveRoot _ _ _ (t) (l) _ (by exact Rt.out.ext xe) (by exact Rl.out.ext xe)).mono ?_
      rintro e w2 ⟨rfl, ew2⟩
      have bt := Bt.out.ext (w' := w2) xe
      have lt := bt.lt
      obtain ⟨pt_0, pt_1⟩ := blk2 bt
      clear bt
      have bx := Bx.out.ext (w' := w2) xe
      have lx := bx.lt
      obtain ⟨px_0, px_1, px_2, px_3, px_4, px_5, px_6⟩ := blk7 bx
      clear bx
      generalize activeRoot t l now = act at *
      obtain ⟨ha0, ha1⟩ := hab
      go_wp2_with fail
      have hxm := HXM.out
      have hva' := HVA.out
      obtain ⟨b, off, rfl, hb, hkl, hc⟩ := (Rl.out.ext (w' := w2) xe).at_ h0
      obtain ⟨b2, off2, rfl, hb2, hkl2, hc2⟩ := (St_0.out.ext (w' := w2) xe).at_ hm
      have HH : Hid (certHead t l x now = (t.ases[m].isd == l[0].isd && (x.keyDigest == digest [t.ases[m].key] && inR now x.notBefore x.notAfter))) := by
        unfold Hid
        simp [certHead, hvc, HVA.out, hxm, asAt_nat t m hm, List.getD_eq_getElem?_getD, hkl]
      generalize l[0] = z at *
      generalize t.ases[m] = y at *
      simp only [TrustRootAt, Nat.zero_mul, Nat.add_zero] at hc
      obtain ⟨Az_6, nz_6, cz_6, hz_0, hz_1, hz_2, hz_3, hz_4, hz_5, hz_6, sz_6⟩ := hc
      obtain ⟨lz_6, kz_6, mz_6⟩ := sz_6.len
      subst lz_6
      unfold maxLen at mz_6
      have Rz : Hid (TrustRootV w2.heap.size w2 (.agg #[I z.isd, I z.version, I z.notBefore, I z.notAfter, I z.voters, I z.quorum, .slice Az_6 z.sigs.length cz_6]) z) := ⟨_, _, _, rfl, sz_6⟩
      have Sz_6 := Lib.hid sz_6; clear sz_6
      obtain ⟨h0y, h1y, h2y⟩ := hc2
      refine wp_region_L (E := Ext) (w0 := w2) (G := fun τ => match τ with | 17 => some (fun v _ => v = .bool (true)) | 23 => some (fun v _ => v = .bool (true)) | 50 => some (fun v W => IntS W.heap.size W v ([y.key])) | 51 => some (fun v _ => v = I (digest [y.key])) | 60 => some (fun v _ => v = .bool (inR now x.notBefore x.notAfter)) | _ => none) Ext.refl (fun h k => Ext.trans h k) (by kernel_rfl) (by kernel_rfl) xg (Ext.drew (by exact Ext.refl _)) ?_
      repeat' (first
        | ((with_reducible refine wpL_skip ?_ ?_ ?_)
           · rfl
           · rfl
           simp only [Act.put, List.setIfInBounds_toArray, List.set_cons_zero, List.set_cons_succ])
        | ((with_reducible refine wpL_quiet ?_ ?_ ?_ ?_)
           · rfl
           · rfl
           · rfl
           apply Exists.intro
           refine ⟨fun W hW hS => ?_, ?_⟩
           · have hC := (Ext.facts hW).1
             go_simp
             first | done | (with_reducible rfl) | (rw [if_neg (by omega)]; exact ⟨rfl, rfl⟩) | rfl
           first | (with_reducible refine wpL_boolT ?_) | (with_reducible refine wpL_boolF ?_) | (with_reducible refine wpL_bool (fun hB => ?_) (fun hB => ?_)) | skip
           all_goals simp only [Act.put, List.setIfInBounds_toArray, List.set_cons_zero, List.set_cons_succ])
        | ((refine wpL_call ?_ rfl rfl ?_ ?_ ?_)
           · rfl
           · rfl
           · intro W hW hS
             have hC := (Ext.facts hW).1
             unfold growAt
             go_simp
             simp only [growUpon]
             first | (go_at_call 29; ((with_reducible refine Calls.mono (spec_ValidRootChain _ _ (t) (l) _ (by exact Rt.out.ext xe) (by exact Rl.out.ext xe)) ?_)); rintro e w9 ⟨rfl, e9⟩; exact ⟨_, rfl, e9, by first | rfl | (simp only [*])⟩) | (go_at_call 44; ((with_reducible refine Calls.mono (spec_l5Realm _ _ (t) _ (by exact Rt.out.ext xe)) ?_)); rintro e w9 ⟨rfl, e9⟩; exact ⟨_, rfl, e9, by first | rfl | (simp only [*])⟩) | (refine ⟨xe, Own.ints (E := 3) (n := 1) (lo := 0) ?_⟩; (first | exact own_new _ _ _ _ _ rfl (Nat.zero_le _) | exact own_newN _ _ _ _ _ _ _ rfl (by simp) (by unfold maxLen; omega) (Nat.zero_le _))) | (go_at_call 86; have hs50 : IntS W.heap.size W _ ([y.key]) := hS 50 (by decide); ((with_reducible refine Calls.mono (spec_Digest _ ([y.key]) _ (by exact hs50)) ?_)); rintro e w9 ⟨rfl, rfl⟩; exact ⟨_, rfl, Ext.refl _, by first | rfl | (simp only [*])⟩) | (go_at_call 89; ((with_reducible refine Calls.mono (spec_l1In _ _ _ _) ?_)); rintro e w9 ⟨rfl, rfl⟩; exact ⟨_, rfl, Ext.refl _, by first | rfl | (simp only [*])⟩)
           first | (with_reducible refine wpL_boolT ?_) | (with_reducible refine wpL_boolF ?_) | (with_reducible refine wpL_bool (fun hB => ?_) (fun hB => ?_)) | skip
           all_goals simp only [Act.put, List.setIfInBounds_toArray, List.set_cons_zero, List.set_cons_succ])
        | ((refine wpL_grow ?_ rfl rfl ?_ ?_)
           · rfl
           · intro W hW hS
             have hC := (Ext.facts hW).1
             unfold growAt
             go_simp
             simp only [growUpon]
             first | (go_at_call 29; ((with_reducible refine Calls.mono (spec_ValidRootChain _ _ (t) (l) _ (by exact Rt.out.ext xe) (by exact Rl.out.ext xe)) ?_)); rintro e w9 ⟨rfl, e9⟩; exact ⟨_, rfl, e9, by first | rfl | (simp only [*])⟩) | (go_at_call 44; ((with_reducible refine Calls.mono (spec_l5Realm _ _ (t) _ (by exact Rt.out.ext xe)) ?_)); rintro e w9 ⟨rfl, e9⟩; exact ⟨_, rfl, e9, by first | rfl | (simp only [*])⟩) | (refine ⟨xe, Own.ints (E := 3) (n := 1) (lo := 0) ?_⟩; (first | exact own_new _ _ _ _ _ rfl (Nat.zero_le _) | exact own_newN _ _ _ _ _ _ _ rfl (by simp) (by unfold maxLen; omega) (Nat.zero_le _))) | (go_at_call 86; have hs50 : IntS W.heap.size W _ ([y.key]) := hS 50 (by decide); ((with_reducible refine Calls.mono (spec_Digest _ ([y.key]) _ (by exact hs50)) ?_)); rintro e w9 ⟨rfl, rfl⟩; exact ⟨_, rfl, Ext.refl _, by first | rfl | (simp only [*])⟩) | (go_at_call 89; ((with_reducible refine Calls.mono (spec_l1In _ _ _ _) ?_)); rintro e w9 ⟨rfl, rfl⟩; exact ⟨_, rfl, Ext.refl _, by first | rfl | (simp only [*])⟩)
           intro v W' hW' hv
           first  | (obtain ⟨A5, n5, c5, rfl, -⟩ := id hv; clear hv) | (obtain ⟨A5, n5, c5, rfl⟩ := NO.slice hv) | skip
           all_goals simp only [Act.put, List.setIfInBounds_toArray, List.set_cons_zero, List.set_cons_succ]))
      all_goals (refine wpL_nil (fun w1 e1 hL => ?_); clear hL)
      all_goals first
        | (go_wp2_with fail; go_ret; exact ⟨ret_bool (by rw [HCV.out, HH.out]; simp_all), xe⟩)
        | skip
      have HM : Hid (certValid t l x now = certScan t l x now act) := by unfold Hid; rw [HCV.out, HH.out]; simp_all
      clear hvc hva hva' HH HCV hxm
      clear hz_0 hz_1 hz_2 hz_3 hz_4 hz_5 hz_6 h0y h1y h2y i0 i1 i2 hB
      go_wp2_with fail
      go_loopw [10] (fun i wr => ∃ k : Nat, k ≤ l.length ∧ i = I k ∧ (∀ j, j < k → certAt l x now act j = false) ∧ Ext w1 wr) (fun i _ => l.length - (intOf i).toNat)
      case atStart => exact ⟨0, by omega, rfl, fun _ h => absurd h (by omega), Ext.refl _⟩
      case round =>
        obtain ⟨k, hk, rfl, hq, he⟩ := hrel
        have HQ := Lib.hid hq; clear hq
        have bt := Bt.out.ext (w' := wr) xe
        have lt := bt.lt
        obtain ⟨pt_0, pt_1⟩ := blk2 bt
        clear bt
        have bx := Bx.out.ext (w' := wr) xe
        have lx := bx.lt
        obtain ⟨px_0, px_1, px_2, px_3, px_4, px_5, px_6⟩ := blk7 bx
        clear bx
        by_cases hlt : k < l.length
        · obtain ⟨b3, off3, hA3, hb3, hkl3, hc3⟩ := (Rl.out.ext (w' := wr) xe).at_ hlt
          cases hA3
          have HP := Lib.hid (certAt_at (x := x) (now := now) (act := act) hkl3)
          have HS := Lib.hid (fun hp => certScan_at (t := t) hkl3 HQ.out hp)
          have i0 : (0 : Int) ≤ (k : Int) := by omega
          have i1 : (k : Int) < (l.length : Int) := by omega
          have HWR : Hid (IntKind.i64.wrap (act - 1) = act - 1) := IntWalk.i64_in _ (by omega)
          generalize l[k] = u at *
          obtain ⟨Au_6, nu_6, cu_6, hu_0, hu_1, hu_2, hu_3, hu_4, hu_5, hu_6, su_6⟩ := hc3
          obtain ⟨lu_6, ku_6, mu_6⟩ := su_6.len
          subst lu_6
          unfold maxLen at mu_6
          have Ru : Hid (TrustRootV wr.heap.size wr (.agg #[I u.isd, I u.version, I u.notBefore, I u.notAfter, I u.voters, I u.quorum, .slice Au_6 u.sigs.length cu_6]) u) := ⟨_, _, _, rfl, su_6⟩
          have Su_6 := Lib.hid su_6; clear su_6
          go_wp2_with fail
          have hwr := HWR.out
          refine wp_region_L (E := Ext) (w0 := wr) (G := fun τ => match τ with | 89 => some (fun v _ => v = .bool (rootOkAt u now)) | _ => none) Ext.refl (fun h k => Ext.trans h k) (by kernel_rfl) (by kernel_rfl) xg (Ext.drew (by exact Ext.refl _)) ?_
          repeat' (first
            | ((with_reducible refine wpL_skip ?_ ?_ ?_)
               · rfl
               · rfl
               simp only [Act.put, List.setIfInBounds_toArray, List.set_cons_zero, List.set_cons_succ])
            | ((with_reducible refine wpL_quiet ?_ ?_ ?_ ?_)
               · rfl
               · rfl
               · rfl
               apply Exists.intro
               refine ⟨fun W hW hS => ?_, ?_⟩
               · have hC := (Ext.facts hW).1
                 go_simp
                 first | done | (with_reducible rfl) | (rw [if_neg (by omega)]; exact ⟨rfl, rfl⟩) | rfl
               first | (with_reducible refine wpL_boolT ?_) | (with_reducible refine wpL_boolF ?_) | (with_reducible refine wpL_bool (fun hB => ?_) (fun hB => ?_)) | skip
               all_goals simp only [Act.put, List.setIfInBounds_toArray, List.set_cons_zero, List.set_cons_succ])
            | ((refine wpL_call ?_ rfl rfl ?_ ?_ ?_)
               · rfl
               · rfl
               · intro W hW hS
                 have hC := (Ext.facts hW).1
                 unfold growAt
                 go_simp
                 simp only [growUpon]
                 first | (go_at_call 89; ((with_reducible refine Calls.mono (spec_l1In _ _ _ _) ?_)); rintro e w9 ⟨rfl, rfl⟩; exact ⟨_, rfl, Ext.refl _, by first | rfl | (simp only [*])⟩)
               first | (with_reducible refine wpL_boolT ?_) | (with_reducible refine wpL_boolF ?_) | (with_reducible refine wpL_bool (fun hB => ?_) (fun hB => ?_)) | skip
               all_goals simp only [Act.put, List.setIfInBounds_toArray, List.set_cons_zero, List.set_cons_succ]))
          all_goals (refine wpL_nil (fun w5 e5 hL => ?_); clear hL hwr)
          all_goals first
            | (have HN : Hid (certAt l x now act k = false) := by unfold Hid; rw [HP.out]; first | (simp [*]; done) | (have hna := of_decide_eq_false (by assumption : decide (0 < act) = false); have hnb : ((k : Int) == act - 1) = false := beq_eq_false_iff_ne.2 (by omega); simp [*])
               go_wp2_with fail
               go_roundw
               case rel => exact ⟨k + 1, by omega, by go_num, below_succF HQ.out HN.out, xe⟩
               case measure => simp [intOf]; omega)
            | (have HY : Hid (certScan t l x now act = certSig t u x) := HS.out (by rw [HP.out]; first | (simp [*]; done) | (simp [*]; have := beq_iff_eq.1 (by assumption : ((k : Int) == act - 1) = true); omega))
               go_wp2_with fail
               refine wp_region_L (E := Ext) (w0 := wr) (G := fun τ => match τ with | 109 => some (fun v _ => v = .bool (contains u.voters x.sig.asn)) | 115 => some (fun v W => IntS W.heap.size W v (certData x)) | 116 => some (fun v _ => v = .bool (verifySig t x.sig (certData x))) | _ => none) Ext.refl (fun h k => Ext.trans h k) (by kernel_rfl) (by kernel_rfl) xg (Ext.drew (by exact e5)) ?_
               repeat' (first
                 | ((with_reducible refine wpL_skip ?_ ?_ ?_)
                    · rfl
                    · rfl
                    simp only [Act.put, List.setIfInBounds_toArray, List.set_cons_zero, List.set_cons_succ])
                 | ((with_reducible refine wpL_quiet ?_ ?_ ?_ ?_)
                    · rfl
                    · rfl
                    · rfl
                    apply Exists.intro
                    refine ⟨fun W hW hS => ?_, ?_⟩
                    · have hC := (Ext.facts hW).1
                      go_simp
                      first | done | (with_reducible rfl) | (rw [if_neg (by omega)]; exact ⟨rfl, rfl⟩) | rfl
                    first | (with_reducible refine wpL_boolT ?_) | (with_reducible refine wpL_boolF ?_) | (with_reducible refine wpL_bool (fun hB => ?_) (fun hB => ?_)) | skip
                    all_goals simp only [Act.put, List.setIfInBounds_toArray, List.set_cons_zero, List.set_cons_succ])
                 | ((refine wpL_call ?_ rfl rfl ?_ ?_ ?_)
                    · rfl
                    · rfl
                    · intro W hW hS
                      have hC := (Ext.facts hW).1
                      unfold growAt
                      go_simp
                      simp only [growUpon]
                      first | (go_at_call 85; ((with_reducible refine Calls.mono (spec_Contains _ _ _) ?_)); rintro e w9 ⟨rfl, rfl⟩; exact ⟨_, rfl, Ext.refl _, by first | rfl | (simp only [*])⟩) | (go_at_call 88; ((with_reducible refine Calls.mono (spec_CertificateData (x) _) ?_)); rintro e w9 ⟨v9, rfl, o9, e9⟩; exact ⟨_, rfl, e9, IntSO_rd o9⟩) | (go_at_call 64; have hs115 : IntS W.heap.size W _ (certData x) := hS 115 (by decide); ((with_reducible refine Calls.mono (spec_VerifySignature _ (x.sig) _ (t) (certData x) _ (by exact Rt.out.ext xe) (by exact hs115) (by first | omega | (simp [rootData]; done) | (simp [certData]; done) | (simp only [List.length_cons, List.length_nil]; omega))) ?_)); rintro e w9 ⟨rfl, e9⟩; exact ⟨_, rfl, e9, by first | rfl | (simp only [*])⟩)
                    first | (with_reducible refine wpL_boolT ?_) | (with_reducible refine wpL_boolF ?_) | (with_reducible refine wpL_bool (fun hB => ?_) (fun hB => ?_)) | skip
                    all_goals simp only [Act.put, List.setIfInBounds_toArray, List.set_cons_zero, List.set_cons_succ])
                 | ((refine wpL_grow ?_ rfl rfl ?_ ?_)
                    · rfl
                    · intro W hW hS
                      have hC := (Ext.facts hW).1
                      unfold growAt
                      go_simp
                      simp only [growUpon]
                      first | (go_at_call 85; ((with_reducible refine Calls.mono (spec_Contains _ _ _) ?_)); rintro e w9 ⟨rfl, rfl⟩; exact ⟨_, rfl, Ext.refl _, by first | rfl | (simp only [*])⟩) | (go_at_call 88; ((with_reducible refine Calls.mono (spec_CertificateData (x) _) ?_)); rintro e w9 ⟨v9, rfl, o9, e9⟩; exact ⟨_, rfl, e9, IntSO_rd o9⟩) | (go_at_call 64; have hs115 : IntS W.heap.size W _ (certData x) := hS 115 (by decide); ((with_reducible refine Calls.mono (spec_VerifySignature _ (x.sig) _ (t) (certData x) _ (by exact Rt.out.ext xe) (by exact hs115) (by first | omega | (simp [rootData]; done) | (simp [certData]; done) | (simp only [List.length_cons, List.length_nil]; omega))) ?_)); rintro e w9 ⟨rfl, e9⟩; exact ⟨_, rfl, e9, by first | rfl | (simp only [*])⟩)
                    intro v W' hW' hv
                    first  | (obtain ⟨A5, n5, c5, rfl, -⟩ := id hv; clear hv) | (obtain ⟨A5, n5, c5, rfl⟩ := NO.slice hv) | skip
                    all_goals simp only [Act.put, List.setIfInBounds_toArray, List.set_cons_zero, List.set_cons_succ]))
               all_goals (refine wpL_nil (fun w6 e6 hL => ?_); clear hL)
               all_goals (go_wp2_with fail; go_ret; exact ⟨ret_bool (by rw [HM.out, HY.out]; simp [certSig, *]), xe⟩))
        · go_wp2_with fail
          go_ret
          exact ⟨ret_bool (by rw [HM.out, certScan_no (fun j hj => HQ.out j (by omega))]), xe⟩
def dCert : DCertificate := ⟨0, 0, 0, 0, 0, ⟨0, 0⟩⟩
def findAt (t : DTopology) (l : List DTrustRoot) (m : List DCertificate) (r now : Int) (k : Nat) : Bool := (m.getD k dCert).asn == r && certValid t l (m.getD k dCert) now
def findCert (t : DTopology) (l : List DTrustRoot) (m : List DCertificate) (r now : Int) : Int :=
  match (List.range m.length).find? (findAt t l m r now) with
  | some k => k
  | none => -1
theorem findAt_at {t : DTopology} {l : List DTrustRoot} {m : List DCertificate} {r now : Int} {k : Nat} (hk : k < m.length) : findAt t l m r now k = (m[k].asn == r && certValid t l m[k] now) := by
  simp [findAt, List.getD_eq_getElem?_getD, hk]
theorem findCert_at {t : DTopology} {l : List DTrustRoot} {m : List DCertificate} {r now : Int} {k : Nat} (hk : k < m.length) (h : ∀ j, j < k → findAt t l m r now j = false) (hp : findAt t l m r now k = true) : findCert t l m r now = k := by
  unfold findCert
  rw [find_at hk h hp]
theorem findCert_no {t : DTopology} {l : List DTrustRoot} {m : List DCertificate} {r now : Int} (h : ∀ j, j < m.length → findAt t l m r now j = false) : findCert t l m r now = -1 := by
  unfold findCert
  rw [find_none h]
theorem findCert_as {t : DTopology} {l : List DTrustRoot} {m : List DCertificate} {r now : Int} (h : isAs t r = false) : findCert t l m r now = -1 := by
  refine findCert_no fun j hj => ?_
  rw [findAt_at hj]
  cases hq : m[j].asn == r
  · rfl
  · have e := beq_iff_eq.1 hq
    simp [certValid, certHead, e, h]
set_option maxRecDepth 100000 in
set_option maxHeartbeats 1000000 in
theorem impl_FindCertificate (vt vl vm : Value) (r now : Int) (t : DTopology) (l : List DTrustRoot) (m : List DCertificate) (w : World) (ht : TopologyV w.heap.size w vt t) (hl : TrustRootS w.heap.size w vl l) (hm : CertificateS w.heap.size w vm m) :
    Calls Tryz.prog 56 #[vt, vl, vm, I r, I now] w fun e w' => e = .returned (I (findCert t l m r now)) ∧ Ext w w' := by
  obtain ⟨At_0, nt_0, ct_0, At_1, nt_1, ct_1, rfl, st_0, st_1⟩ := id ht
  obtain ⟨lt_0, kt_0, mt_0⟩ := st_0.len
  subst lt_0
  unfold maxLen at mt_0
  obtain ⟨lt_1, kt_1, mt_1⟩ := st_1.len
  subst lt_1
  unfold maxLen at mt_1
  have Rt := Lib.hid ht; clear ht
  have St_0 := Lib.hid st_0; clear st_0
  have St_1 := Lib.hid st_1; clear st_1
  obtain ⟨Al, nl, cl, rfl, ll, kl, ml, -⟩ := id hl
  subst ll
  unfold maxLen at ml
  have Rl := Lib.hid hl; clear hl
  obtain ⟨Am, nm, cm, rfl, lm, km, mm, -⟩ := id hm
  subst lm
  unfold maxLen at mm
  have Rm := Lib.hid hm; clear hm
  go_enter Tryz.func56, Tryz.ntmps56
  go_wp2_with fail
  first | refine name_wp ?_ ?_ ?_ | refine name_calls ?_ ?_ ?_
  exact (fun W => Ext w W ∧ Blk W (w.heap.size) 27 [.slice At_0 t.ases.length ct_0, .slice At_1 t.links.length ct_1])
  exact ⟨xe, xb⟩
  rintro w0 ⟨ew0, bt⟩
  have lt := bt.lt
  obtain ⟨pt_0, pt_1⟩ := blk2 bt
  have Bt := Lib.hid bt; clear bt
  go_loopw [15] (fun i wr => ∃ k : Nat, k ≤ m.length ∧ i = I k ∧ (∀ j, j < k → findAt t l m r now j = false) ∧ Ext w0 wr) (fun i _ => m.length - (intOf i).toNat)
  case atStart => exact ⟨0, by omega, rfl, fun _ h => absurd h (by omega), Ext.refl _⟩
  case round =>
    obtain ⟨k, hk, rfl, hq, he⟩ := hrel
    have HQ := Lib.hid hq; clear hq
    have bt := Bt.out.ext (w' := wr) xe
    have lt := bt.lt
    obtain ⟨pt_0, pt_1⟩ := blk2 bt
    clear bt
    by_cases hlt : k < m.length
    · obtain ⟨b, off, rfl, hb, hkl, hc⟩ := (Rm.out.ext (w' := wr) xe).at_ hlt
      have HP := Lib.hid (findAt_at (t := t) (l := l) (r := r) (now := now) hkl)
      generalize m[k] = x at *
      obtain ⟨hx_0, hx_1, hx_2, hx_3, hx_4, hx_5, hx_6⟩ := hc
      cases hq : x.asn == r
      · have HN : Hid (findAt t l m r now k = false) := by unfold Hid; rw [HP.out, hq]; rfl
        go_wp2_with fail
        go_roundw
        case rel => exact ⟨k + 1, by omega, by go_num, below_succF HQ.out HN.out, xe⟩
        case measure => simp [intOf]; omega
      · have hqe : r = x.asn := (beq_iff_eq.1 hq).symm
        cases hr : certValid t l x now
        · have HN : Hid (findAt t l m r now k = false) := by unfold Hid; rw [HP.out, hr]; simp
          clear hq
          go_wp2_with fail
          first | refine name_wp ?_ ?_ ?_ | refine name_calls ?_ ?_ ?_
          exact (fun W => Ext wr W ∧ Blk W (wr.heap.size) 85 [I x.asn, I x.keyDigest, I x.rootVersion, I x.notBefore, I x.notAfter, I x.sig.asn, I x.sig.value])
          exact ⟨xe, xb⟩
          rintro w4 ⟨ew4, bx⟩
          have lx := bx.lt
          obtain ⟨px_0, px_1, px_2, px_3, px_4, px_5, px_6⟩ := blk7 bx
          have Bx := Lib.hid bx; clear bx
          have bt := Bt.out.ext (w' := w4) xe
          have lt := bt.lt
          obtain ⟨pt_0, pt_1⟩ := blk2 bt
          clear bt
          clear hqe
          refine (impl_CertificateValid _ _ (x) _ (t) (l) _ (by exact Rt.out.ext xe) (by exact Rl.out.ext xe)).mono ?_
          rintro e w5 ⟨rfl, ew5⟩
          have bt := Bt.out.ext (w' := w5) xe
          have lt := bt.lt
          obtain ⟨pt_0, pt_1⟩ := blk2 bt
          clear bt
          have bx := Bx.out.ext (w' := w5) xe
          have lx := bx.lt
          obtain ⟨px_0, px_1, px_2, px_3, px_4, px_5, px_6⟩ := blk7 bx
          clear bx
          rw [hr]
          clear hr
          go_wp2_with fail
          go_roundw
          case rel => exact ⟨k + 1, by omega, by go_num, below_succF HQ.out HN.out, xe⟩
          case measure => simp [intOf]; omega
        · have HN : Hid (findCert t l m r now = k) := findCert_at hlt HQ.out (by rw [HP.out, hr, hq]; rfl)
          clear hq
          go_wp2_with fail
          first | refine name_wp ?_ ?_ ?_ | refine name_calls ?_ ?_ ?_
          exact (fun W => Ext wr W ∧ Blk W (wr.heap.size) 85 [I x.asn, I x.keyDigest, I x.rootVersion, I x.notBefore, I x.notAfter, I x.sig.asn, I x.sig.value])
          exact ⟨xe, xb⟩
          rintro w4 ⟨ew4, bx⟩
          have lx := bx.lt
          obtain ⟨px_0, px_1, px_2, px_3, px_4, px_5, px_6⟩ := blk7 bx
          have Bx := Lib.hid bx; clear bx
          have bt := Bt.out.ext (w' := w4) xe
          have lt := bt.lt
          obtain ⟨pt_0, pt_1⟩ := blk2 bt
          clear bt
          clear hqe
          refine (impl_CertificateValid _ _ (x) _ (t) (l) _ (by exact Rt.out.ext xe) (by exact Rl.out.ext xe)).mono ?_
          rintro e w5 ⟨rfl, ew5⟩
          have bt := Bt.out.ext (w' := w5) xe
          have lt := bt.lt
          obtain ⟨pt_0, pt_1⟩ := blk2 bt
          clear bt
          have bx := Bx.out.ext (w' := w5) xe
          have lx := bx.lt
          obtain ⟨px_0, px_1, px_2, px_3, px_4, px_5, px_6⟩ := blk7 bx
          clear bx
          rw [hr]
          clear hr
          go_wp2_with fail
          go_ret
          exact ⟨ret_int HN.out.symm, xe⟩
    · go_wp2_with fail
      go_ret
      exact ⟨ret_int (findCert_no (fun j hj => HQ.out j (by omega))).symm, xe⟩
set_option maxRecDepth 100000 in
set_option maxHeartbeats 1000000 in
theorem spec_FindCertificate (vt vl vm : Value) (r now : Int) (t : DTopology) (l : List DTrustRoot) (m : List DCertificate) (w : World) (ht : TopologyV w.heap.size w vt t) (hl : TrustRootS w.heap.size w vl l) (hm : CertificateS w.heap.size w vm m) :
    Calls Tryz.prog 30 #[vt, vl, vm, I r, I now] w fun e w' => e = .returned (I (findCert t l m r now)) ∧ Ext w w' := by
  obtain ⟨At_0, nt_0, ct_0, At_1, nt_1, ct_1, rfl, st_0, st_1⟩ := id ht
  obtain ⟨lt_0, kt_0, mt_0⟩ := st_0.len
  subst lt_0
  unfold maxLen at mt_0
  obtain ⟨lt_1, kt_1, mt_1⟩ := st_1.len
  subst lt_1
  unfold maxLen at mt_1
  have Rt := Lib.hid ht; clear ht
  have St_0 := Lib.hid st_0; clear st_0
  have St_1 := Lib.hid st_1; clear st_1
  obtain ⟨Al, nl, cl, rfl, ll, kl, ml, -⟩ := id hl
  subst ll
  unfold maxLen at ml
  have Rl := Lib.hid hl; clear hl
  obtain ⟨Am, nm, cm, rfl, lm, km, mm, -⟩ := id hm
  subst lm
  unfold maxLen at mm
  have Rm := Lib.hid hm; clear hm
  go_enter Tryz.func30, Tryz.ntmps30
  go_wp2_with fail
  first | refine name_wp ?_ ?_ ?_ | refine name_calls ?_ ?_ ?_
  exact (fun W => Ext w W ∧ Blk W (w.heap.size) 27 [.slice At_0 t.ases.length ct_0, .slice At_1 t.links.length ct_1])
  exact ⟨xe, xb⟩
  rintro w0 ⟨ew0, bt⟩
  have lt := bt.lt
  obtain ⟨pt_0, pt_1⟩ := blk2 bt
  have Bt := Lib.hid bt; clear bt
  go_loopw [11] (fun i wr => ∃ k : Nat, k ≤ m.length ∧ i = I k ∧ (∀ j, j < k → findAt t l m r now j = false) ∧ Ext w0 wr) (fun i _ => m.length - (intOf i).toNat)
  case atStart => exact ⟨0, by omega, rfl, fun _ h => absurd h (by omega), Ext.refl _⟩
  case round =>
    obtain ⟨k, hk, rfl, hq, he⟩ := hrel
    have HQ := Lib.hid hq; clear hq
    have bt := Bt.out.ext (w' := wr) xe
    have lt := bt.lt
    obtain ⟨pt_0, pt_1⟩ := blk2 bt
    clear bt
    by_cases hlt : k < m.length
    · obtain ⟨b, off, rfl, hb, hkl, hc⟩ := (Rm.out.ext (w' := wr) xe).at_ hlt
      have HP := Lib.hid (findAt_at (t := t) (l := l) (r := r) (now := now) hkl)
      have i0 : (0 : Int) ≤ (k : Int) := by omega
      have i1 : (k : Int) < (m.length : Int) := by omega
      generalize m[k] = x at *
      obtain ⟨hx_0, hx_1, hx_2, hx_3, hx_4, hx_5, hx_6⟩ := hc
      go_wp2_with fail
      refine wp_region_L (E := Ext) (w0 := wr) (G := fun τ => match τ with | 33 => some (fun v _ => v = .bool (certValid t l x now)) | _ => none) Ext.refl (fun h k => Ext.trans h k) (by kernel_rfl) (by kernel_rfl) xg (Ext.drew (by exact Ext.refl _)) ?_
      repeat' (first
        | ((with_reducible refine wpL_skip ?_ ?_ ?_)
           · rfl
           · rfl
           simp only [Act.put, List.setIfInBounds_toArray, List.set_cons_zero, List.set_cons_succ])
        | ((with_reducible refine wpL_quiet ?_ ?_ ?_ ?_)
           · rfl
           · rfl
           · rfl
           apply Exists.intro
           refine ⟨fun W hW hS => ?_, ?_⟩
           · have hC := (Ext.facts hW).1
             go_simp
             first | done | (with_reducible rfl) | (rw [if_neg (by omega)]; exact ⟨rfl, rfl⟩) | rfl
           first | (with_reducible refine wpL_boolT ?_) | (with_reducible refine wpL_boolF ?_) | (with_reducible refine wpL_bool (fun hB => ?_) (fun hB => ?_)) | skip
           all_goals simp only [Act.put, List.setIfInBounds_toArray, List.set_cons_zero, List.set_cons_succ])
        | ((refine wpL_call ?_ rfl rfl ?_ ?_ ?_)
           · rfl
           · rfl
           · intro W hW hS
             have hC := (Ext.facts hW).1
             unfold growAt
             go_simp
             simp only [growUpon]
             first | (go_at_call 67; ((with_reducible refine Calls.mono (spec_CertificateValid _ _ (x) _ (t) (l) _ (by exact Rt.out.ext xe) (by exact Rl.out.ext xe)) ?_)); rintro e w9 ⟨rfl, e9⟩; exact ⟨_, rfl, e9, by first | rfl | (simp only [*])⟩)
           first | (with_reducible refine wpL_boolT ?_) | (with_reducible refine wpL_boolF ?_) | (with_reducible refine wpL_bool (fun hB => ?_) (fun hB => ?_)) | skip
           all_goals simp only [Act.put, List.setIfInBounds_toArray, List.set_cons_zero, List.set_cons_succ]))
      all_goals (refine wpL_nil (fun w5 e5 hL => ?_); clear hL)
      all_goals first
        | (have HN : Hid (findAt t l m r now k = false) := by unfold Hid; rw [HP.out]; simp [*]
           go_wp2_with fail
           go_roundw
           case rel => exact ⟨k + 1, by omega, by go_num, below_succF HQ.out HN.out, xe⟩
           case measure => simp [intOf]; omega)
        | (have HN : Hid (findCert t l m r now = k) := findCert_at hlt HQ.out (by rw [HP.out]; simp [*])
           go_wp2_with fail
           go_ret
           exact ⟨ret_int HN.out.symm, xe⟩)
    · go_wp2_with fail
      go_ret
      exact ⟨ret_int (findCert_no (fun j hj => HQ.out j (by omega))).symm, xe⟩
def ca1 (t : DTopology) (l : List DTrustRoot) (m : List DCertificate) (now : Int) (s : Int) (r : Nat) : Int := if 0 ≤ findCert t l m r now then addElem s r else s
def certASes (t : DTopology) (l : List DTrustRoot) (m : List DCertificate) (now : Int) : Int := (List.range 16).foldl (ca1 t l m now) 0
theorem fold_more {f : Int → Nat → Int} {n : Nat} (h : ∀ s k, n ≤ k → f s k = s) (d : Nat) : (List.range (n + d)).foldl f 0 = (List.range n).foldl f 0 := by
  induction d with
  | zero => rfl
  | succ d ih => rw [← Nat.add_assoc, List.range_succ, List.foldl_append, ih]; simp [h]
theorem fold_range {f : Int → Nat → Int} {k : Nat} : (List.range (k + 1)).foldl f 0 = f ((List.range k).foldl f 0) k := by rw [List.range_succ, List.foldl_append]; rfl
theorem certASes_alt (t : DTopology) (l : List DTrustRoot) (m : List DCertificate) (now : Int) : (List.range t.ases.length).foldl (ca1 t l m now) 0 = certASes t l m now := by
  unfold certASes
  have h1 : ∀ s k, t.ases.length ≤ k → ca1 t l m now s k = s := fun s k hk => by
    unfold ca1
    rw [findCert_as (inR_false (by omega))]
    simp
  have h2 : ∀ s k, 16 ≤ k → ca1 t l m now s k = s := fun s k hk => by
    unfold ca1 addElem
    have : inR (k : Int) 0 15 = false := inR_false (by omega)
    simp [this]
  rcases Nat.le_total t.ases.length 16 with h | h
  · have := fold_more h1 (16 - t.ases.length)
    rw [show t.ases.length + (16 - t.ases.length) = 16 by omega] at this
    exact this.symm
  · have := fold_more h2 (t.ases.length - 16)
    rw [show 16 + (t.ases.length - 16) = t.ases.length by omega] at this
    exact this
set_option maxRecDepth 100000 in
set_option maxHeartbeats 1000000 in
theorem impl_CertifiedASes (vt vl vm : Value) (now : Int) (t : DTopology) (l : List DTrustRoot) (m : List DCertificate) (w : World) (ht : TopologyV w.heap.size w vt t) (hl : TrustRootS w.heap.size w vl l) (hm : CertificateS w.heap.size w vm m) :
    Calls Tryz.prog 24 #[vt, vl, vm, I now] w fun e w' => e = .returned (I (certASes t l m now)) ∧ Ext w w' := by
  obtain ⟨At_0, nt_0, ct_0, At_1, nt_1, ct_1, rfl, st_0, st_1⟩ := id ht
  obtain ⟨lt_0, kt_0, mt_0⟩ := st_0.len
  subst lt_0
  unfold maxLen at mt_0
  obtain ⟨lt_1, kt_1, mt_1⟩ := st_1.len
  subst lt_1
  unfold maxLen at mt_1
  have Rt := Lib.hid ht; clear ht
  have St_0 := Lib.hid st_0; clear st_0
  have St_1 := Lib.hid st_1; clear st_1
  obtain ⟨Al, nl, cl, rfl, ll, kl, ml, -⟩ := id hl
  subst ll
  unfold maxLen at ml
  have Rl := Lib.hid hl; clear hl
  obtain ⟨Am, nm, cm, rfl, lm, km, mm, -⟩ := id hm
  subst lm
  unfold maxLen at mm
  have Rm := Lib.hid hm; clear hm
  go_enter Tryz.func24, Tryz.ntmps24
  go_wp2_with fail
  first | refine name_wp ?_ ?_ ?_ | refine name_calls ?_ ?_ ?_
  exact (fun W => Ext w W ∧ Blk W (w.heap.size) 27 [.slice At_0 t.ases.length ct_0, .slice At_1 t.links.length ct_1])
  exact ⟨xe, xb⟩
  rintro w0 ⟨ew0, bt⟩
  have lt := bt.lt
  obtain ⟨pt_0, pt_1⟩ := blk2 bt
  have Bt := Lib.hid bt; clear bt
  go_loopw [9, 10] (fun s i wr => ∃ k : Nat, k ≤ 16 ∧ i = I k ∧ s = I ((List.range k).foldl (ca1 t l m now) 0) ∧ Ext w0 wr) (fun _ i _ => 16 - (intOf i).toNat)
  case atStart => exact ⟨0, by omega, rfl, rfl, Ext.refl _⟩
  case round =>
    obtain ⟨k, hk, rfl, rfl, he⟩ := hrel
    have bt := Bt.out.ext (w' := wr) xe
    have lt := bt.lt
    obtain ⟨pt_0, pt_1⟩ := blk2 bt
    clear bt
    have HX := Lib.hid (fold_range (f := ca1 t l m now) (k := k))
    by_cases hlt : k < 16
    · generalize (List.range k).foldl (ca1 t l m now) 0 = s at *
      go_wp2_with fail
      by_cases hr : 0 ≤ findCert t l m k now
      · have HS : Hid (ca1 t l m now s k = addElem s k) := by unfold Hid ca1; rw [if_pos hr]
        refine (impl_FindCertificate _ _ _ _ _ (t) (l) (m) _ (by exact Rt.out.ext xe) (by exact Rl.out.ext xe) (by exact Rm.out.ext xe)).mono ?_
        rintro e w5 ⟨rfl, ew5⟩
        have bt := Bt.out.ext (w' := w5) xe
        have lt := bt.lt
        obtain ⟨pt_0, pt_1⟩ := blk2 bt
        clear bt
        generalize findCert t l m k now = fc at *
        go_wp2_with fail
        refine (impl_AddElement _ _ _).mono ?_
        rintro e w6 ⟨rfl, rfl⟩
        go_wp2_with fail
        go_roundw
        case rel => exact ⟨k + 1, by omega, by go_num, by rw [HX.out, HS.out], xe⟩
        case measure => simp [intOf]; omega
      · have HS : Hid (ca1 t l m now s k = s) := by unfold Hid ca1; rw [if_neg hr]
        refine (impl_FindCertificate _ _ _ _ _ (t) (l) (m) _ (by exact Rt.out.ext xe) (by exact Rl.out.ext xe) (by exact Rm.out.ext xe)).mono ?_
        rintro e w5 ⟨rfl, ew5⟩
        have bt := Bt.out.ext (w' := w5) xe
        have lt := bt.lt
        obtain ⟨pt_0, pt_1⟩ := blk2 bt
        clear bt
        generalize findCert t l m k now = fc at *
        go_wp2_with fail
        go_roundw
        case rel => exact ⟨k + 1, by omega, by go_num, by rw [HX.out, HS.out], xe⟩
        case measure => simp [intOf]; omega
    · obtain rfl : k = 16 := by omega
      go_wp2_with fail
      go_ret
      exact ⟨ret_int rfl, xe⟩
end Go.Proofs.YtddaodemdkjijaaGreat
