/- The laws' helpers on Signature: to.. (copy), eq.. (compare), sz.. (count), mark.. and held... Printed by gen.py. -/
import Derived.Test.YtddaodemdkjijaaGreatGCore
import Derived.Test.YtddaodemdkjijaaGreatGGrow
namespace Go.Proofs.YtddaodemdkjijaaGreat
open Go.RowKit
set_option linter.unusedVariables false
theorem info_Signature : (Tryz.prog.info? 76).map (fun i => (i.zero, i.size, i.bytes)) = some (some (.agg #[.int .i64 0, .int .i64 0]), 2, 16) := by kernel_rfl

theorem row_Signature {B : Nat} {w : World} {A : Option Addr} {n c : Nat} {xs : List DSignature} (h : SignatureS B w (.slice A n c) xs) : Row w 2 A n (xs.flatMap SignatureC) := row_flat (C := SignatureC) (sz := 2) (fun _ => rfl) (by omega) SignatureAt.cells_ h
set_option maxRecDepth 100000 in
set_option maxHeartbeats 1000000 in
theorem neq_Signature (x y : DSignature) (w : World) : (binOp .neq 76 (.agg #[I x.asn, I x.value]) (.agg #[I y.asn, I y.value])).run Tryz.prog w = .ok (.bool (!decide (x = y))) w := by
  have hp : Tryz.prog.stoodInHeld 76 = false := by kernel_rfl
  have ht : Tryz.prog.underlying 76 = some (.struct (Tryz.prog.fieldsOf 76)) := by kernel_rfl
  have hf := ht.symm.trans Tryz.underlying76
  injection hf with hf
  injection hf with hf
  rw [run_neq_struct, run_equalIn_struct w 9999 76 _ _ ht hp, hf]
  by_cases h0 : x.asn = y.asn
  rotate_left
  · simp [Op.eqFields, go_sem, Tryz.underlying3, DSignature.eq_iff, h0]
  by_cases h1 : x.value = y.value
  · simp [Op.eqFields, go_sem, Tryz.underlying3, DSignature.eq_iff, h0, h1]
  · simp [Op.eqFields, go_sem, Tryz.underlying3, DSignature.eq_iff, h0, h1]
set_option maxRecDepth 100000 in
set_option maxHeartbeats 1000000 in
theorem eql_Signature (x y : DSignature) (w : World) : (binOp .eql 76 (.agg #[I x.asn, I x.value]) (.agg #[I y.asn, I y.value])).run Tryz.prog w = .ok (.bool (decide (x = y))) w := by
  have hp : Tryz.prog.stoodInHeld 76 = false := by kernel_rfl
  have ht : Tryz.prog.underlying 76 = some (.struct (Tryz.prog.fieldsOf 76)) := by kernel_rfl
  have hf := ht.symm.trans Tryz.underlying76
  injection hf with hf
  injection hf with hf
  rw [run_eql_struct, run_equalIn_struct w 9999 76 _ _ ht hp, hf]
  by_cases h0 : x.asn = y.asn
  rotate_left
  · simp [Op.eqFields, go_sem, Tryz.underlying3, DSignature.eq_iff, h0]
  by_cases h1 : x.value = y.value
  · simp [Op.eqFields, go_sem, Tryz.underlying3, DSignature.eq_iff, h0, h1]
  · simp [Op.eqFields, go_sem, Tryz.underlying3, DSignature.eq_iff, h0, h1]
theorem guard_Signature : Tryz.prog.eqGuardType Tryz.prog.depth 76 = false := by kernel_rfl
/-- A []Signature of the call's own. -/
abbrev SignatureSO (lo hi : Nat) (w : World) (v : Value) (xs : List DSignature) : Prop := Own 76 2 lo hi w v xs.length (xs.flatMap SignatureC)
theorem SignatureSO_rd {lo hi : Nat} {w : World} {v : Value} {xs : List DSignature} (h : SignatureSO lo hi w v xs) : SignatureS w.heap.size w v xs := (Own.lt_size h).sl (At := SignatureAt) SignatureC.len (by omega) SignatureC.at_
/-- What marking from q on writes. -/
def SignatureNum (q n : Nat) : List DSignature := (List.range n).map fun j => ⟨((q + 2 * j : Nat) : Int), ((q + 2 * j : Nat) : Int) + 1⟩
theorem SignatureNum_len {q n : Nat} : (SignatureNum q n).length = n := by simp [SignatureNum]
end Go.Proofs.YtddaodemdkjijaaGreat
namespace Go.Proofs.YtddaodemdkjijaaGreat
open Go.RowKit
set_option linter.unusedVariables false
theorem info_TrustRoot : (Tryz.prog.info? 64).map (fun i => (i.zero, i.size, i.bytes)) = some (some (.agg #[.int .i64 0, .int .i64 0, .int .i64 0, .int .i64 0, .int .i64 0, .int .i64 0, .slice none 0 0]), 7, 72) := by kernel_rfl

def TrustRootO (lo hi : Nat) (w : World) (v : Value) (x : DTrustRoot) : Prop := ∃ u6, v = .agg #[I x.isd, I x.version, I x.notBefore, I x.notAfter, I x.voters, I x.quorum, u6] ∧ Own 76 2 lo hi w u6 x.sigs.length (x.sigs.flatMap SignatureC) ∧ lo ≤ hi
theorem TrustRootO.keep {lo hi : Nat} {w w' : World} {v : Value} {x : DTrustRoot} (h : TrustRootO lo hi w v x) (hk : ∀ k, lo ≤ k → k < hi → k < w.heap.size → w'.heap[k]? = w.heap[k]?) : TrustRootO lo hi w' v x := by
  obtain ⟨u6, e, o6, l0⟩ := h
  exact ⟨u6, e, o6.keep fun k h1 h2 h3 => hk k (by omega) (by omega) h3, l0⟩
theorem TrustRootO.v {lo hi : Nat} {w : World} {v : Value} {x : DTrustRoot} (h : TrustRootO lo hi w v x) : TrustRootV hi w v x := by
  obtain ⟨u6, e, o6, l0⟩ := h
  have s6 := (o6.sl (At := SignatureAt) SignatureC.len (by omega) SignatureC.at_)
  obtain ⟨A6, n6, c6, rfl, _⟩ := id s6
  exact ⟨_, _, _, e, s6.keep SignatureAt.keeps (by omega) (fun _ _ => rfl)⟩
theorem TrustRootO.shape {lo hi : Nat} {w : World} {v : Value} {x : DTrustRoot} (h : TrustRootO lo hi w v x) : ∃ A6 n6 c6, v = .agg #[I x.isd, I x.version, I x.notBefore, I x.notAfter, I x.voters, I x.quorum, .slice A6 n6 c6] := by
  obtain ⟨A6, n6, c6, e, _⟩ := h.v
  exact ⟨A6, n6, c6, e⟩
theorem TrustRootO.ext {lo hi : Nat} {w w' : World} {v : Value} {x : DTrustRoot} (h : TrustRootO lo hi w v x) (he : Ext w w') (hhi : hi ≤ w.heap.size) : TrustRootO lo hi w' v x := h.keep fun k _ _ h3 => he.same k h3
theorem TrustRootO.drew {lo hi : Nat} {w : World} {v : Value} {x : DTrustRoot} (h : TrustRootO lo hi w v x) : TrustRootO lo hi w.drew v x := h.keep fun _ _ _ _ => rfl
theorem TrustRootO.out {lo hi lo' hi' : Nat} {w w' : World} {v : Value} {x : DTrustRoot} (h : TrustRootO lo hi w v x) (ho : Out lo' hi' w w') (hd : hi' ≤ lo ∨ hi ≤ lo') : TrustRootO lo hi w' v x := h.keep fun k h1 h2 h3 => ho.block k h3 (by omega)
theorem TrustRootO.more {lo hi lo' hi' : Nat} {w : World} {v : Value} {x : DTrustRoot} (h : TrustRootO lo hi w v x) (h1 : lo' ≤ lo) (h2 : hi ≤ hi') : TrustRootO lo' hi' w v x := by
  obtain ⟨u6, e, o6, l0⟩ := h
  exact ⟨u6, e, Own.more o6 h1 h2, by omega⟩
theorem TrustRootO.up {lo : Nat} {w w' : World} {v : Value} {x : DTrustRoot} (h : TrustRootO lo w.heap.size w v x) (he : Ext w w') : TrustRootO lo w'.heap.size w' v x := (h.ext he (Nat.le_refl _)).more (Nat.le_refl _) he.size
theorem TrustRootO.setT {lo hi g : Nat} {w : World} {v : Value} {x : DTrustRoot} {cs' : List Value} (h : TrustRootO lo hi w v x) (hb : Blk w g 64 cs') (i : Nat) (u : Value) : TrustRootO lo hi (w.setCell ⟨g, i, none⟩ u) v x := by
  obtain ⟨u6, e, o6, l0⟩ := h
  exact ⟨u6, e, Own.setT o6 hb (by decide) i u, l0⟩
theorem TrustRootO_rd {lo hi : Nat} {w : World} {v : Value} {x : DTrustRoot} (h : TrustRootO lo hi w v x) (hhi : hi ≤ w.heap.size) : TrustRootV w.heap.size w v x := h.v.keep hhi (fun _ _ => rfl)
/-- What marking from q on leaves. -/
def TrustRootNum1 (q : Nat) (x : DTrustRoot) : DTrustRoot := { isd := x.isd, version := x.version, notBefore := x.notBefore, notAfter := x.notAfter, voters := x.voters, quorum := x.quorum, sigs := (SignatureNum q x.sigs.length) }
/-- The cells cs of a TrustRoot and the blocks that it owns. -/
def TrustRootOC (w : World) (fp : List Nat) (cs : List Value) (x : DTrustRoot) : Prop := ∃ u6, cs = [I x.isd, I x.version, I x.notBefore, I x.notAfter, I x.voters, I x.quorum, u6] ∧ w.ownsRow 0 76 2 u6 x.sigs.length (x.sigs.flatMap SignatureC) ∧ fp = u6.ownBlock.toList
theorem TrustRootOC.keeps : OKeeps TrustRootOC := by
  intro w w' fp cs x hk h
  obtain ⟨u6, e, r6, ef⟩ := h
  exact ⟨u6, e, ownsRow_keep r6 (fun b hb => hk b (by rw [ef]; simp [hb])), ef⟩
theorem TrustRootOC.at_ (B : Nat) (w : World) (b o : Nat) (fp : List Nat) (cs : List Value) (x : DTrustRoot) (h : TrustRootOC w fp cs x) (hb : ∀ b ∈ fp, b < B) (hc : ∀ j u, cs[j]? = some u → w.cell? ⟨b, o + j, none⟩ = some u) : TrustRootAt B w b o x := by
  obtain ⟨u6, rfl, r6, ef⟩ := h
  have s6 : SignatureS B w u6 x.sigs := Own.sl (lo := 0) (n := x.sigs.length) (At := SignatureAt) ⟨r6, fun k hk => hb k (by rw [ef]; simp [hk])⟩ SignatureC.len (by omega) SignatureC.at_
  obtain ⟨A6, n6, c6, e6, _⟩ := id s6
  subst e6
  exact ⟨A6, n6, c6, hc 0 _ rfl, hc 1 _ rfl, hc 2 _ rfl, hc 3 _ rfl, hc 4 _ rfl, hc 5 _ rfl, hc 6 _ rfl, s6⟩
theorem TrustRootOC.one : OOne TrustRootOC := by
  intro w fp cs x h
  obtain ⟨u6, rfl, r6, ef⟩ := h
  obtain ⟨a6, m6, c6, e6⟩ := ownsRow_slice r6
  subst e6
  intro u hu
  simp only [List.mem_cons, List.not_mem_nil, or_false] at hu
  rcases hu with rfl | rfl | rfl | rfl | rfl | rfl | rfl <;> rfl
theorem TrustRootOC.typed (T : Nat) (n0 : 76 ≠ T) : OTyped TrustRootOC T := by
  intro w fp cs x g cs' h hb
  obtain ⟨u6, e, r6, ef⟩ := h
  subst ef
  intro hm
  exact ownsRow_typed r6 hb n0 hm
theorem TrustRootOC.len {w : World} {fp : List Nat} {cs : List Value} {x : DTrustRoot} (h : TrustRootOC w fp cs x) : cs.length = 7 := by
  obtain ⟨u6, rfl, _⟩ := h
  rfl
theorem TrustRootO.to_oc {lo hi : Nat} {w : World} {v : Value} {x : DTrustRoot} (h : TrustRootO lo hi w v x) : ∃ a6 k6 q6 fp, v = .agg #[I x.isd, I x.version, I x.notBefore, I x.notAfter, I x.voters, I x.quorum, .slice a6 k6 q6] ∧ TrustRootOC w fp [I x.isd, I x.version, I x.notBefore, I x.notAfter, I x.voters, I x.quorum, .slice a6 k6 q6] x ∧ fp.Nodup ∧ ∀ b ∈ fp, lo ≤ b ∧ b < hi := by
  obtain ⟨u6, e, o6, l0⟩ := h
  obtain ⟨a6, k6, q6, hu6⟩ : ∃ a n c, u6 = .slice a n c := o6.slice
  have b6 : ∀ b ∈ u6.ownBlock.toList, lo ≤ b ∧ b < hi := fun b hb => ⟨(o6.1.lt b (by simpa using hb)).1, o6.2 b (by simpa using hb)⟩
  have d6 : (u6.ownBlock.toList).Nodup := by cases u6.ownBlock <;> simp
  subst hu6
  exact ⟨a6, k6, q6, (Value.slice a6 k6 q6).ownBlock.toList, e, ⟨_, rfl, (o6.more (Nat.zero_le _) (Nat.le_refl _)).1, rfl⟩, d6, b6⟩
/-- A []TrustRoot of the call's own. -/
abbrev TrustRootSO (lo hi : Nat) (w : World) (v : Value) (xs : List DTrustRoot) : Prop := NO TrustRootOC 64 7 lo hi w v xs
theorem TrustRootSO_rd {lo hi : Nat} {w : World} {v : Value} {xs : List DTrustRoot} (h : TrustRootSO lo hi w v xs) (hhi : hi ≤ w.heap.size) : TrustRootS w.heap.size w v xs := (NO.sl (At := TrustRootAt) h (fun _ => rfl) TrustRootOC.at_).keep TrustRootAt.keeps hhi (fun _ _ => rfl)
theorem TrustRootSO_ext {lo hi : Nat} {w w' : World} {v : Value} {xs : List DTrustRoot} (h : TrustRootSO lo hi w v xs) (he : Ext w w') (_hhi : hi ≤ w.heap.size) : TrustRootSO lo hi w' v xs := NO.keep TrustRootOC.keeps h fun k _ _ h3 => he.same k h3
theorem TrustRootSO_out {lo hi : Nat} {lo' hi' : Nat} {w w' : World} {v : Value} {xs : List DTrustRoot} (h : TrustRootSO lo hi w v xs) (ho : Out lo' hi' w w') (hd : hi' ≤ lo ∨ hi ≤ lo') : TrustRootSO lo hi w' v xs := NO.keep TrustRootOC.keeps h fun k h1 h2 h3 => ho.block k h3 (by omega)
theorem TrustRootSO_drew {lo hi : Nat} {w : World} {v : Value} {xs : List DTrustRoot} (h : TrustRootSO lo hi w v xs) : TrustRootSO lo hi w.drew v xs := NO.keep TrustRootOC.keeps h fun _ _ _ _ => rfl
theorem TrustRootSO_alloc {lo hi : Nat} {w : World} {v : Value} {xs : List DTrustRoot} (h : TrustRootSO lo hi w v xs) (o : Obj) : TrustRootSO lo hi (w.alloc o) v xs := NO.keep TrustRootOC.keeps h fun k _ _ h3 => Below.heap_alloc w o k h3
theorem TrustRootSO_setCell {lo hi : Nat} {w : World} {v : Value} {xs : List DTrustRoot} (h : TrustRootSO lo hi w v xs) {p : Addr} (hp : p.block < lo ∨ hi ≤ p.block) (u : Value) : TrustRootSO lo hi (w.setCell p u) v xs := NO.keep TrustRootOC.keeps h fun k h1 h2 _ => Below.heap_setCell _ _ _ _ (by omega)
theorem TrustRootSO_keep {lo hi : Nat} {w w' : World} {v : Value} {xs : List DTrustRoot} (h : TrustRootSO lo hi w v xs) (hk : ∀ k, lo ≤ k → k < hi → k < w.heap.size → w'.heap[k]? = w.heap[k]?) : TrustRootSO lo hi w' v xs := NO.keep TrustRootOC.keeps h hk
/-- How many numbers an element takes, and the element with its numbers from q on. -/
def TrustRootCnt (x : DTrustRoot) : Nat := 6 + 2 * x.sigs.length
def TrustRootNumE (q : Nat) (x : DTrustRoot) : DTrustRoot := ⟨(q : Int), (q : Int) + 1, (q : Int) + 1 + 1, (q : Int) + 1 + 1 + 1, (q : Int) + 1 + 1 + 1 + 1, (q : Int) + 1 + 1 + 1 + 1 + 1, (SignatureNum (q + 6) x.sigs.length)⟩
theorem TrustRootCnt_le (x : DTrustRoot) : TrustRootCnt x ≤ 10 + 10 * (x.sigs.length) := by
  unfold TrustRootCnt
  omega
theorem TrustRootCnt_sum (l : List DTrustRoot) : (l.map TrustRootCnt).sum ≤ 10 * (totS (fun y => y.sigs.length) l) := cnt_le (fun x => TrustRootCnt_le x) l
end Go.Proofs.YtddaodemdkjijaaGreat
namespace Go.Proofs.YtddaodemdkjijaaGreat
open Go.RowKit
set_option linter.unusedVariables false
theorem info_Certificate : (Tryz.prog.info? 85).map (fun i => (i.zero, i.size, i.bytes)) = some (some (.agg #[.int .i64 0, .int .i64 0, .int .i64 0, .int .i64 0, .int .i64 0, .int .i64 0, .int .i64 0]), 7, 56) := by kernel_rfl

theorem row_Certificate {B : Nat} {w : World} {A : Option Addr} {n c : Nat} {xs : List DCertificate} (h : CertificateS B w (.slice A n c) xs) : Row w 7 A n (xs.flatMap CertificateC) := row_flat (C := CertificateC) (sz := 7) (fun _ => rfl) (by omega) CertificateAt.cells_ h

/-- A []Certificate of the call's own. -/
abbrev CertificateSO (lo hi : Nat) (w : World) (v : Value) (xs : List DCertificate) : Prop := Own 85 7 lo hi w v xs.length (xs.flatMap CertificateC)
theorem CertificateSO_rd {lo hi : Nat} {w : World} {v : Value} {xs : List DCertificate} (h : CertificateSO lo hi w v xs) : CertificateS w.heap.size w v xs := (Own.lt_size h).sl (At := CertificateAt) CertificateC.len (by omega) CertificateC.at_
end Go.Proofs.YtddaodemdkjijaaGreat
