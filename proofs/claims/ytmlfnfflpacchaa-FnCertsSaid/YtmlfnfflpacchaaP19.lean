/- What the law FnCerts asks, in plain words: a certificate with a day more is not valid. No conditions. -/
import Derived.Test.YtmlfnfflpacchaaPD
import Derived.Test.YtmlfnfflpacchaaD4
import Derived.Test.YtmlfnfflpacchaaL19b
import Derived.Test.YtmlfnfflpacchaaGL19
import Derived.Test.YtmlfnfflpacchaaP18u
namespace Go.Proofs.Ytmlfnfflpacchaa
open Go.RowKit
set_option linter.unusedVariables false
/-- A certificate as l19Cert draws it. -/
def DrawnCert (t : DTopology) (x : DCertificate) : Prop := ∃ r by_ ver from_ z : Int, x = issueCert t r by_ ver from_ (wrap64 z) ∨ x = { issueCert t r by_ ver from_ (wrap64 z) with keyDigest := wrap64 ((issueCert t r by_ ver from_ (wrap64 z)).keyDigest + 1) } ∨ ∃ a, x = { issueCert t r by_ ver from_ (wrap64 z) with asn := a }
theorem wrap64_range (z : Int) : -9223372036854775808 ≤ wrap64 z ∧ wrap64 z ≤ 9223372036854775807 := by
  unfold wrap64
  omega
theorem dig_key {k : Int} (h0 : 0 ≤ k) (h1 : k ≤ 100000000) : digest [k] = 7000032 + k := by
  unfold digest
  simp only [List.foldl_cons, List.foldl_nil, dig1]
  omega
theorem key_small {t : DTopology} (h : KeysOk t.ases) (h8 : t.ases.length ≤ 8) {r : Int} (hr : isAs t r = true) : ∃ x : Int, 0 ≤ x ∧ x < 1000000 ∧ (asAt t r).key = 1 + x * 8 + r ∧ 0 ≤ r ∧ r < 8 := by
  obtain ⟨k, rfl, hk⟩ := isAs_nat hr
  obtain ⟨x, h0, h1, h2⟩ := h k hk
  exact ⟨x, h0, h1, by rw [asAt_nat t k hk]; exact h2, by omega, by omega⟩
theorem key_apart {t : DTopology} (h : KeysOk t.ases) (h8 : t.ases.length ≤ 8) {r s : Int} (hr : isAs t r = true) (hs : isAs t s = true) (he : digest [(asAt t r).key] = digest [(asAt t s).key]) : r = s := by
  obtain ⟨x, x0, x1, x2, x3, x4⟩ := key_small h h8 hr
  obtain ⟨y, y0, y1, y2, y3, y4⟩ := key_small h h8 hs
  rw [dig_key (by omega) (by omega), dig_key (by omega) (by omega)] at he
  omega
theorem cert_parts {t : DTopology} {l : List DTrustRoot} {x : DCertificate} {now : Int} (h : certValid t l x now = true) : isAs t x.asn = true ∧ x.keyDigest = digest [(asAt t x.asn).key] ∧ verifySig t x.sig (certData x) = true := by
  unfold certValid certHead certScan at h
  simp only [Bool.and_eq_true, beq_iff_eq] at h
  refine ⟨h.1.2.1, h.1.2.2.2.1, ?_⟩
  have h2 := h.2
  split at h2
  · unfold certSig at h2
    simp only [Bool.and_eq_true] at h2
    exact h2.2
  · cases h2
theorem verify_signed {t : DTopology} {r : Int} {d e : List Int} (h : isAs t r = true) (hv : verifySig t (signAs t r d) e = true) : sign (asAt t r).key d = sign (asAt t r).key e := by
  unfold verifySig signAs at hv
  rw [if_pos h] at hv
  simp only [Bool.and_eq_true, beq_iff_eq] at hv
  exact hv.2
theorem cert_more {t : DTopology} {l : List DTrustRoot} {x : DCertificate} {now : Int} (hk : KeysOk t.ases) (h8 : t.ases.length ≤ 8) (hx : DrawnCert t x) : certValid t l { x with notAfter := wrap64 (x.notAfter + 1) } now = false := by
  cases hc : certValid t l { x with notAfter := wrap64 (x.notAfter + 1) } now
  · rfl
  exfalso
  obtain ⟨h1, h2, h3⟩ := cert_parts hc
  obtain ⟨r, by_, ver, from_, z, hd⟩ := hx
  obtain ⟨kk, k0, k1, k2, k3, k4⟩ := key_small hk h8 h1
  cases hi : isAs t r && isAs t by_
  · have e0 : issueCert t r by_ ver from_ (wrap64 z) = ⟨0, 0, 0, 0, 0, ⟨0, 0⟩⟩ := by unfold issueCert; rw [hi]; rfl
    rw [e0] at hd
    rw [dig_key (by omega) (by omega)] at h2
    rcases hd with rfl | rfl | ⟨a, rfl⟩
    · simp only at h2 k2; omega
    · have e1 : wrap64 (0 + 1) = 1 := by unfold wrap64; omega
      simp only [e1] at h2 k2; omega
    · simp only at h1 h2 k2 k3
      omega
  · have e0 : issueCert t r by_ ver from_ (wrap64 z) = ⟨r, digest [(asAt t r).key], ver, from_, wrap64 z, signAs t by_ [r, digest [(asAt t r).key], ver, from_, wrap64 z]⟩ := by unfold issueCert; rw [hi]; rfl
    rw [Bool.and_eq_true] at hi
    rw [e0] at hd
    have hn := wrap_next (wrap64 z) (wrap64_range z)
    have hfin : ∀ r', r' = r → verifySig t (signAs t by_ [r, digest [(asAt t r).key], ver, from_, wrap64 z]) [r', digest [(asAt t r).key], ver, from_, wrap64 (wrap64 z + 1)] = true → False := by
      rintro r' rfl hv
      have h5 := verify_signed hi.2 hv
      exact hn (sign_apart (a := [r', digest [(asAt t r').key], ver, from_]) (b := []) h5)
    rcases hd with rfl | rfl | ⟨a, rfl⟩
    · exact hfin r rfl h3
    · obtain ⟨q, q0, q1, q2, q3, q4⟩ := key_small hk h8 hi.1
      simp only at h2
      have e5 := dig_key (k := (asAt t r).key) (by omega) (by omega)
      have e6 : wrap64 (digest [(asAt t r).key] + 1) = digest [(asAt t r).key] + 1 := (IntWalk.i64_left _).symm.trans (IntWalk.i64_in _ (by omega))
      rw [e6] at h2
      omega
    · simp only at h1 h2 h3
      exact hfin a (key_apart hk h8 h1 hi.1 h2.symm) h3
end Go.Proofs.Ytmlfnfflpacchaa
