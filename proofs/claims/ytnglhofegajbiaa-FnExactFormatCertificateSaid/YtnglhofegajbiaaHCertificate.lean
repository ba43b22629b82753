/- The laws' helpers on Certificate: to.. (copy), eq.. (compare), sz.. (count), mark.. and held... Printed by gen.py. -/
import Derived.Test.YtnglhofegajbiaaHSignature
namespace Go.Proofs.Ytnglhofegajbiaa
open Go.RowKit
set_option linter.unusedVariables false
theorem info_Certificate : (Try.prog.info? 50).map (fun i => (i.zero, i.size, i.bytes)) = some (some (.agg #[.int .i64 0, .int .i64 0, .int .i64 0, .int .i64 0, .int .i64 0, .int .i64 0, .int .i64 0]), 7, 56) := by kernel_rfl

theorem row_Certificate {B : Nat} {w : World} {A : Option Addr} {n c : Nat} {xs : List DCertificate} (h : CertificateS B w (.slice A n c) xs) : Row w 7 A n (xs.flatMap CertificateC) := row_flat (C := CertificateC) (sz := 7) (fun _ => rfl) (by omega) CertificateAt.cells_ h

/-- A []Certificate of the call's own. -/
abbrev CertificateSO (lo hi : Nat) (w : World) (v : Value) (xs : List DCertificate) : Prop := Own 50 7 lo hi w v xs.length (xs.flatMap CertificateC)
theorem CertificateSO_rd {lo hi : Nat} {w : World} {v : Value} {xs : List DCertificate} (h : CertificateSO lo hi w v xs) : CertificateS w.heap.size w v xs := (Own.lt_size h).sl (At := CertificateAt) CertificateC.len (by omega) CertificateC.at_
set_option maxRecDepth 100000 in
set_option maxHeartbeats 1000000 in
theorem toCertificate (x : DCertificate) (w : World) : Calls Try.prog 13 #[.agg #[I x.asn, I x.keyDigest, I x.rootVersion, I x.notBefore, I x.notAfter, I x.sig.asn, I x.sig.value]] w fun e w' => e = .returned (.agg #[I x.asn, I x.keyDigest, I x.rootVersion, I x.notBefore, I x.notAfter, I x.sig.asn, I x.sig.value]) ∧ Ext w w' := by
  go_enter Try.func13, Try.ntmps13
  go_wp2_with fail
  refine (toSignature x.sig _).mono ?_
  rintro e w1 ⟨rfl, he⟩
  obtain ⟨hc1, hf1, hz1⟩ := he.facts
  go_wp2_with fail
  exact bodyPost_ret (v := .agg #[I x.asn, I x.keyDigest, I x.rootVersion, I x.notBefore, I x.notAfter, I x.sig.asn, I x.sig.value]) (by simp [results, Try.results13, go_sem, hc1]) rfl ⟨rfl, (by repeat (first | (with_reducible exact Ext.refl _) | (with_reducible assumption) | (with_reducible refine Ext.alloc ?_ _) | (with_reducible refine Ext.drew ?_) | (with_reducible refine Ext.drewN ?_ _) | (with_reducible refine Ext.setCell (p := _) ?_ ?ge _; case ge => (dsimp only; omega)) | (with_reducible refine Ext.trans ?_ (by with_reducible assumption))))⟩
end Go.Proofs.Ytnglhofegajbiaa
