/- The laws' helpers on TrustRoot: to.. (copy), eq.. (compare), sz.. (count), mark.. and held... Printed by gen.py. -/
import Derived.Test.YtjfoolffiflchaaHSignature
import Derived.Test.YtjfoolffiflchaaNest
import Derived.Test.YtjfoolffiflchaaMarkRows
import Derived.Test.YtjfoolffiflchaaPush
namespace Go.Proofs.Ytjfoolffiflchaa
open Go.RowKit
set_option linter.unusedVariables false
theorem info_TrustRoot : (Try.prog.info? 39).map (fun i => (i.zero, i.size, i.bytes)) = some (some (.agg #[.int .i64 0, .int .i64 0, .int .i64 0, .int .i64 0, .int .i64 0, .int .i64 0, .slice none 0 0]), 7, 72) := by kernel_rfl

def TrustRootO (lo hi : Nat) (w : World) (v : Value) (x : DTrustRoot) : Prop := ∃ u6, v = .agg #[I x.isd, I x.version, I x.notBefore, I x.notAfter, I x.voters, I x.quorum, u6] ∧ Own 68 2 lo hi w u6 x.sigs.length (x.sigs.flatMap SignatureC) ∧ lo ≤ hi
theorem TrustRootO.keep {lo hi : Nat} {w w' : World} {v : Value} {x : DTrustRoot} (h : TrustRootO lo hi w v x) (hk : ∀ k, lo ≤ k → k < hi → k < w.heap.size → w'.heap[k]? = w.heap[k]?) : TrustRootO lo hi w' v x := by
  obtain ⟨u6, e, o6, l0⟩ := h
  exact ⟨u6, e, o6.keep fun k h1 h2 h3 => hk k (by omega) (by omega) h3, l0⟩
theorem TrustRootO.v {lo hi : Nat} {w : World} {v : Value} {x : DTrustRoot} (h : TrustRootO lo hi w v x) : TrustRootV hi w v x := by
  obtain ⟨u6, e, o6, l0⟩ := h
  have s6 := (o6.sl (At := SignatureAt) SignatureC.len (by omega) SignatureC.at_)
  obtain ⟨A6, n6, c6, rfl, _⟩ := id s6
  exact ⟨_, _, _, e, s6.keep SignatureAt.keeps (by omega) (fun _ _ => rfl)⟩
theorem TrustRootO.shape {lo hi : Nat} {w : World} {v : Value} {x : DTrustRoot} (h : TrustRootO lo hi w v x) : ∃ A6 n6 c6, v = .agg #[I x.isd, I x.version, I x.notBefore, I x.notAfter, I x.voters, I x.quorum, .slice A6 n6 c6] := by
  obtain ⟨A6, n6, c6, e, _⟩ := h.v
  exact ⟨A6, n6, c6, e⟩
theorem TrustRootO.ext {lo hi : Nat} {w w' : World} {v : Value} {x : DTrustRoot} (h : TrustRootO lo hi w v x) (he : Ext w w') (hhi : hi ≤ w.heap.size) : TrustRootO lo hi w' v x := h.keep fun k _ _ h3 => he.same k h3
theorem TrustRootO.drew {lo hi : Nat} {w : World} {v : Value} {x : DTrustRoot} (h : TrustRootO lo hi w v x) : TrustRootO lo hi w.drew v x := h.keep fun _ _ _ _ => rfl
theorem TrustRootO.out {lo hi lo' hi' : Nat} {w w' : World} {v : Value} {x : DTrustRoot} (h : TrustRootO lo hi w v x) (ho : Out lo' hi' w w') (hd : hi' ≤ lo ∨ hi ≤ lo') : TrustRootO lo hi w' v x := h.keep fun k h1 h2 h3 => ho.block k h3 (by omega)
theorem TrustRootO_rd {lo hi : Nat} {w : World} {v : Value} {x : DTrustRoot} (h : TrustRootO lo hi w v x) (hhi : hi ≤ w.heap.size) : TrustRootV w.heap.size w v x := h.v.keep hhi (fun _ _ => rfl)
set_option maxRecDepth 100000 in
set_option maxHeartbeats 1000000 in
theorem toTrustRoot (v : Value) (x : DTrustRoot) (w : World) (h : TrustRootV w.heap.size w v x) (hn : x.sigs.length ≤ 16777216) :
    Calls Try.prog 19 #[v] w fun e w' => ∃ v', e = .returned v' ∧ TrustRootO w.heap.size w'.heap.size w' v' x ∧ Ext w w' := by
  obtain ⟨A6, n6, c6, rfl, s6⟩ := h
  have S6 := Lib.hid s6; clear s6
  go_enter Try.func19, Try.ntmps19
  go_wp2_with fail
  refine (toSignatureS _ x.sigs _ (by exact S6.out.ext (by repeat (first | (with_reducible exact Ext.refl _) | (with_reducible assumption) | (with_reducible refine Ext.alloc ?_ _) | (with_reducible refine Ext.drew ?_) | (with_reducible refine Ext.drewN ?_ _) | (with_reducible refine Ext.setCell (p := _) ?_ ?ge _; case ge => (dsimp only; omega)) | (with_reducible refine Ext.trans ?_ (by with_reducible assumption))))) (by omega)).mono ?_
  rintro e w6 ⟨v6, rfl, ho6, he6⟩
  obtain ⟨hc6, hf6, hz6⟩ := he6.facts
  simp only [World.size_alloc] at hz6 hc6 hf6
  have la6 : w.heap.size < w6.heap.size := by omega
  have lb6 : w.heap.size + 1 < w6.heap.size := by omega
  have lc6 : w.heap.size + 1 + 1 < w6.heap.size := by omega
  simp only [World.size_alloc] at ho6
  have O6 := Lib.hid ho6; clear ho6
  obtain ⟨a6, m6, q6, hv6⟩ : ∃ a n c, v6 = .slice a n c := O6.out.slice
  subst hv6
  go_wp2_with fail
  refine bodyPost_ret (v := .agg #[I x.isd, I x.version, I x.notBefore, I x.notAfter, I x.voters, I x.quorum, .slice a6 m6 q6]) (by simp [results, Try.results19, go_sem, *]) rfl ⟨_, rfl, ?_, ?_⟩
  · simp only [World.size_setCell]
    refine ⟨_, rfl, Own.more (lo := w.heap.size + 1 + 1 + 1) (hi := w6.heap.size) (by repeat (first | (with_reducible exact O6.out) | (with_reducible refine Own.alloc ?_ _) | (with_reducible refine Own.setCell (p := _) ?_ (.inl ?ge) _; case ge => (first | omega | (dsimp only; omega) | (simp only [World.size_setCell]; omega) | (simp only [World.size_alloc]; omega))) | (with_reducible refine Own.ext ?_ (by with_reducible assumption) ?ge; case ge => (first | omega | (dsimp only; omega) | (simp only [World.size_setCell]; omega) | (simp only [World.size_alloc]; omega))))) (by omega) (by omega), by omega⟩
  · exact (by repeat (first | (with_reducible exact Ext.refl _) | (with_reducible assumption) | (with_reducible refine Ext.alloc ?_ _) | (with_reducible refine Ext.drew ?_) | (with_reducible refine Ext.drewN ?_ _) | (with_reducible refine Ext.setCell (p := _) ?_ ?ge _; case ge => (dsimp only; omega)) | (with_reducible refine Ext.trans ?_ (by with_reducible assumption))))
set_option maxRecDepth 100000 in
set_option maxHeartbeats 1000000 in
theorem eqTrustRoot (v1 v2 : Value) (x y : DTrustRoot) (w : World) (h1 : TrustRootV w.heap.size w v1 x) (h2 : TrustRootV w.heap.size w v2 y) :
    Calls Try.prog 22 #[v1, v2] w fun e w' => e = .returned (.bool (decide (x = y))) ∧ Ext w w' := by
  obtain ⟨A16, n16, c16, rfl, s16⟩ := h1
  obtain ⟨A26, n26, c26, rfl, s26⟩ := h2
  have S16 := Lib.hid s16; clear s16
  have S26 := Lib.hid s26; clear s26
  go_enter Try.func22, Try.ntmps22
  go_wp2_with fail
  all_goals (try (go_ret; exact ⟨ret_bool (by simp_all [DTrustRoot.eq_iff]), (by repeat (first | (with_reducible exact Ext.refl _) | (with_reducible assumption) | (with_reducible refine Ext.alloc ?_ _) | (with_reducible refine Ext.drew ?_) | (with_reducible refine Ext.drewN ?_ _) | (with_reducible refine Ext.setCell (p := _) ?_ ?ge _; case ge => (dsimp only; omega)) | (with_reducible refine Ext.trans ?_ (by with_reducible assumption))))⟩))
  refine (eqSignatureS _ _ x.sigs y.sigs _ (by exact S16.out.ext (by repeat (first | (with_reducible exact Ext.refl _) | (with_reducible assumption) | (with_reducible refine Ext.alloc ?_ _) | (with_reducible refine Ext.drew ?_) | (with_reducible refine Ext.drewN ?_ _) | (with_reducible refine Ext.setCell (p := _) ?_ ?ge _; case ge => (dsimp only; omega)) | (with_reducible refine Ext.trans ?_ (by with_reducible assumption))))) (by exact S26.out.ext (by repeat (first | (with_reducible exact Ext.refl _) | (with_reducible assumption) | (with_reducible refine Ext.alloc ?_ _) | (with_reducible refine Ext.drew ?_) | (with_reducible refine Ext.drewN ?_ _) | (with_reducible refine Ext.setCell (p := _) ?_ ?ge _; case ge => (dsimp only; omega)) | (with_reducible refine Ext.trans ?_ (by with_reducible assumption)))))).mono ?_
  rintro e w7 ⟨rfl, he7⟩
  obtain ⟨hc7, hf7, hz7⟩ := he7.facts
  go_wp2_with fail
  all_goals
    go_ret
    exact ⟨ret_bool (by simp_all [DTrustRoot.eq_iff]), (by repeat (first | (with_reducible exact Ext.refl _) | (with_reducible assumption) | (with_reducible refine Ext.alloc ?_ _) | (with_reducible refine Ext.drew ?_) | (with_reducible refine Ext.drewN ?_ _) | (with_reducible refine Ext.setCell (p := _) ?_ ?ge _; case ge => (dsimp only; omega)) | (with_reducible refine Ext.trans ?_ (by with_reducible assumption))))⟩
set_option maxRecDepth 100000 in
set_option maxHeartbeats 1000000 in
theorem szTrustRoot (v : Value) (x : DTrustRoot) (left : Int) (w : World) (h : TrustRootV w.heap.size w v x) (h0 : 0 ≤ left) (hl : left ≤ 1048576) :
    Calls Try.prog 16 #[v, I left] w fun e w' => e = .returned (I (szR (x.sigs.length) left)) ∧ Ext w w' := by
  obtain ⟨A6, n6, c6, rfl, s6⟩ := h
  have S6 := Lib.hid s6; clear s6
  go_enter Try.func16, Try.ntmps16
  go_wp2_with fail
  refine (szSignatureS _ x.sigs (left) _ (by exact S6.out.ext (by repeat (first | (with_reducible exact Ext.refl _) | (with_reducible assumption) | (with_reducible refine Ext.alloc ?_ _) | (with_reducible refine Ext.drew ?_) | (with_reducible refine Ext.drewN ?_ _) | (with_reducible refine Ext.setCell (p := _) ?_ ?ge _; case ge => (dsimp only; omega)) | (with_reducible refine Ext.trans ?_ (by with_reducible assumption))))) (by omega) (by omega)).mono ?_
  rintro e w1 ⟨rfl, he1⟩
  obtain ⟨hc1, hf1, hz1⟩ := he1.facts
  by_cases hlt0 : left < (((x.sigs.length) : Nat) : Int)
  · rw [szR_neg hlt0]
    go_wp2_with fail
    go_ret
    exact ⟨ret_int (szR_neg (by omega)).symm, (by repeat (first | (with_reducible exact Ext.refl _) | (with_reducible assumption) | (with_reducible refine Ext.alloc ?_ _) | (with_reducible refine Ext.drew ?_) | (with_reducible refine Ext.drewN ?_ _) | (with_reducible refine Ext.setCell (p := _) ?_ ?ge _; case ge => (dsimp only; omega)) | (with_reducible refine Ext.trans ?_ (by with_reducible assumption))))⟩
  · rw [szR_pos (by omega)]
    go_wp2_with fail
    go_ret
    exact ⟨ret_int (by rw [szR_pos (by omega)] <;> omega), (by repeat (first | (with_reducible exact Ext.refl _) | (with_reducible assumption) | (with_reducible refine Ext.alloc ?_ _) | (with_reducible refine Ext.drew ?_) | (with_reducible refine Ext.drewN ?_ _) | (with_reducible refine Ext.setCell (p := _) ?_ ?ge _; case ge => (dsimp only; omega)) | (with_reducible refine Ext.trans ?_ (by with_reducible assumption))))⟩
/-- What marking from q on leaves. -/
def TrustRootNum1 (q : Nat) (x : DTrustRoot) : DTrustRoot := { isd := x.isd, version := x.version, notBefore := x.notBefore, notAfter := x.notAfter, voters := x.voters, quorum := x.quorum, sigs := (SignatureNum q x.sigs.length) }
set_option maxRecDepth 100000 in
set_option maxHeartbeats 1000000 in
theorem markTrustRoot (v : Value) (x : DTrustRoot) (q lo hi : Nat) (w : World) (h : TrustRootO lo hi w v x) (hhi : hi ≤ w.heap.size) (hq : (q + 2 * x.sigs.length) ≤ 1000000000000000) :
    Calls Try.prog 53 #[v, I q] w fun e w' => e = .returned (I (((q + 2 * x.sigs.length) : Nat) : Int)) ∧ TrustRootO lo hi w' v (TrustRootNum1 q x) ∧ Out lo hi w w' := by
  obtain ⟨u6, rfl, o6, l0⟩ := h
  have O6 := Lib.hid o6; clear o6
  obtain ⟨a6, k6, c6, hv6⟩ := O6.out.slice
  subst hv6
  go_enter Try.func53, Try.ntmps53
  go_wp2_with fail
  refine (markSignatureS _ x.sigs q lo hi _ (by exact (by repeat (first | (with_reducible exact O6.out) | (with_reducible refine Own.ext ?_ (by with_reducible assumption) ?ge; case ge => (first | omega | (simp only [World.size_alloc]; omega))) | (with_reducible refine Own.out ?_ (by with_reducible assumption) ?ge; case ge => omega) | (with_reducible refine Own.alloc ?_ _)))) (by omega)).mono ?_
  rintro e w6 ⟨rfl, p6, t6⟩
  have P6 := Lib.hid p6; clear p6
  have z6 := t6.size
  have hc6 : ∀ k o, k < lo ∨ hi ≤ k → k < _ → w6.cell? ⟨k, o, none⟩ = _ := fun k o h1 h2 => World.cell?_of_block (a := ⟨k, o, none⟩) (t6.block k h2 (by omega))
  simp only [World.size_alloc] at z6
  have lw6 : w.heap.size < w6.heap.size := by omega
  go_wp2_with fail
  go_ret
  have hOut : Out lo hi w w6 := (Out.trans (Out.of_ext (by repeat (first | (with_reducible exact Ext.refl _) | (with_reducible assumption) | (with_reducible refine Ext.alloc ?_ _) | (with_reducible refine Ext.drew ?_) | (with_reducible refine Ext.drewN ?_ _) | (with_reducible refine Ext.setCell (p := _) ?_ ?ge _; case ge => (dsimp only; omega)) | (with_reducible refine Ext.trans ?_ (by with_reducible assumption))))) (t6.mono (by omega) (by omega)))
  have HOUT := Lib.hid hOut; clear hOut
  exact ⟨rfl, ⟨_, rfl, (by unfold TrustRootNum1; dsimp only; rw [SignatureNum_len]; exact (by repeat (first | (with_reducible exact P6.out) | (with_reducible refine Own.ext ?_ (by with_reducible assumption) ?ge; case ge => (first | omega | (simp only [World.size_alloc]; omega))) | (with_reducible refine Own.out ?_ (by with_reducible assumption) ?ge; case ge => omega) | (with_reducible refine Own.alloc ?_ _)))), l0⟩, HOUT.out⟩
/-- The cells cs of a TrustRoot and the blocks that it owns. -/
def TrustRootOC (w : World) (fp : List Nat) (cs : List Value) (x : DTrustRoot) : Prop := ∃ u6, cs = [I x.isd, I x.version, I x.notBefore, I x.notAfter, I x.voters, I x.quorum, u6] ∧ w.ownsRow 0 68 2 u6 x.sigs.length (x.sigs.flatMap SignatureC) ∧ fp = u6.ownBlock.toList
theorem TrustRootOC.keeps : OKeeps TrustRootOC := by
  intro w w' fp cs x hk h
  obtain ⟨u6, e, r6, ef⟩ := h
  exact ⟨u6, e, ownsRow_keep r6 (fun b hb => hk b (by rw [ef]; simp [hb])), ef⟩
theorem TrustRootOC.at_ (B : Nat) (w : World) (b o : Nat) (fp : List Nat) (cs : List Value) (x : DTrustRoot) (h : TrustRootOC w fp cs x) (hb : ∀ b ∈ fp, b < B) (hc : ∀ j u, cs[j]? = some u → w.cell? ⟨b, o + j, none⟩ = some u) : TrustRootAt B w b o x := by
  obtain ⟨u6, rfl, r6, ef⟩ := h
  have s6 : SignatureS B w u6 x.sigs := Own.sl (lo := 0) (n := x.sigs.length) (At := SignatureAt) ⟨r6, fun k hk => hb k (by rw [ef]; simp [hk])⟩ SignatureC.len (by omega) SignatureC.at_
  obtain ⟨A6, n6, c6, e6, _⟩ := id s6
  subst e6
  exact ⟨A6, n6, c6, hc 0 _ rfl, hc 1 _ rfl, hc 2 _ rfl, hc 3 _ rfl, hc 4 _ rfl, hc 5 _ rfl, hc 6 _ rfl, s6⟩
theorem TrustRootOC.one : OOne TrustRootOC := by
  intro w fp cs x h
  obtain ⟨u6, rfl, r6, ef⟩ := h
  obtain ⟨a6, m6, c6, e6⟩ := ownsRow_slice r6
  subst e6
  intro u hu
  simp only [List.mem_cons, List.not_mem_nil, or_false] at hu
  rcases hu with rfl | rfl | rfl | rfl | rfl | rfl | rfl <;> rfl
theorem TrustRootOC.len {w : World} {fp : List Nat} {cs : List Value} {x : DTrustRoot} (h : TrustRootOC w fp cs x) : cs.length = 7 := by
  obtain ⟨u6, rfl, _⟩ := h
  rfl
theorem TrustRootO.to_oc {lo hi : Nat} {w : World} {v : Value} {x : DTrustRoot} (h : TrustRootO lo hi w v x) : ∃ a6 k6 q6 fp, v = .agg #[I x.isd, I x.version, I x.notBefore, I x.notAfter, I x.voters, I x.quorum, .slice a6 k6 q6] ∧ TrustRootOC w fp [I x.isd, I x.version, I x.notBefore, I x.notAfter, I x.voters, I x.quorum, .slice a6 k6 q6] x ∧ fp.Nodup ∧ ∀ b ∈ fp, lo ≤ b ∧ b < hi := by
  obtain ⟨u6, e, o6, l0⟩ := h
  obtain ⟨a6, k6, q6, hu6⟩ : ∃ a n c, u6 = .slice a n c := o6.slice
  have b6 : ∀ b ∈ u6.ownBlock.toList, lo ≤ b ∧ b < hi := fun b hb => ⟨(o6.1.lt b (by simpa using hb)).1, o6.2 b (by simpa using hb)⟩
  have d6 : (u6.ownBlock.toList).Nodup := by cases u6.ownBlock <;> simp
  subst hu6
  exact ⟨a6, k6, q6, (Value.slice a6 k6 q6).ownBlock.toList, e, ⟨_, rfl, (o6.more (Nat.zero_le _) (Nat.le_refl _)).1, rfl⟩, d6, b6⟩
/-- A []TrustRoot of the call's own. -/
abbrev TrustRootSO (lo hi : Nat) (w : World) (v : Value) (xs : List DTrustRoot) : Prop := NO TrustRootOC 39 7 lo hi w v xs
theorem TrustRootSO_rd {lo hi : Nat} {w : World} {v : Value} {xs : List DTrustRoot} (h : TrustRootSO lo hi w v xs) (hhi : hi ≤ w.heap.size) : TrustRootS w.heap.size w v xs := (NO.sl (At := TrustRootAt) h (fun _ => rfl) TrustRootOC.at_).keep TrustRootAt.keeps hhi (fun _ _ => rfl)
theorem TrustRootSO_ext {lo hi : Nat} {w w' : World} {v : Value} {xs : List DTrustRoot} (h : TrustRootSO lo hi w v xs) (he : Ext w w') (_hhi : hi ≤ w.heap.size) : TrustRootSO lo hi w' v xs := NO.keep TrustRootOC.keeps h fun k _ _ h3 => he.same k h3
theorem TrustRootSO_out {lo hi : Nat} {lo' hi' : Nat} {w w' : World} {v : Value} {xs : List DTrustRoot} (h : TrustRootSO lo hi w v xs) (ho : Out lo' hi' w w') (hd : hi' ≤ lo ∨ hi ≤ lo') : TrustRootSO lo hi w' v xs := NO.keep TrustRootOC.keeps h fun k h1 h2 h3 => ho.block k h3 (by omega)
theorem TrustRootSO_drew {lo hi : Nat} {w : World} {v : Value} {xs : List DTrustRoot} (h : TrustRootSO lo hi w v xs) : TrustRootSO lo hi w.drew v xs := NO.keep TrustRootOC.keeps h fun _ _ _ _ => rfl
theorem TrustRootSO_alloc {lo hi : Nat} {w : World} {v : Value} {xs : List DTrustRoot} (h : TrustRootSO lo hi w v xs) (o : Obj) : TrustRootSO lo hi (w.alloc o) v xs := NO.keep TrustRootOC.keeps h fun k _ _ h3 => Below.heap_alloc w o k h3
theorem TrustRootSO_setCell {lo hi : Nat} {w : World} {v : Value} {xs : List DTrustRoot} (h : TrustRootSO lo hi w v xs) {p : Addr} (hp : p.block < lo ∨ hi ≤ p.block) (u : Value) : TrustRootSO lo hi (w.setCell p u) v xs := NO.keep TrustRootOC.keeps h fun k h1 h2 _ => Below.heap_setCell _ _ _ _ (by omega)
theorem TrustRootSO_keep {lo hi : Nat} {w w' : World} {v : Value} {xs : List DTrustRoot} (h : TrustRootSO lo hi w v xs) (hk : ∀ k, lo ≤ k → k < hi → k < w.heap.size → w'.heap[k]? = w.heap[k]?) : TrustRootSO lo hi w' v xs := NO.keep TrustRootOC.keeps h hk
set_option maxRecDepth 100000 in
set_option maxHeartbeats 1000000 in
theorem toTrustRootS (v : Value) (ds : List DTrustRoot) (w : World) (h : TrustRootS w.heap.size w v ds) (hn : totS (fun y => y.sigs.length) ds ≤ 16777216) :
    Calls Try.prog 36 #[v] w fun e w' => ∃ v', e = .returned v' ∧ TrustRootSO w.heap.size w'.heap.size w' v' ds ∧ Ext w w' := by
  obtain ⟨A, n, c, rfl, hl, -⟩ := id h
  subst hl
  have hn : ds.length + (ds.map fun y => y.sigs.length).sum ≤ 16777216 := hn
  have hmk := run_mk (P := Try.prog) 57 39 (.agg #[.int .i64 0, .int .i64 0, .int .i64 0, .int .i64 0, .int .i64 0, .int .i64 0, .slice none 0 0]) 7 72 Try.underlying57 info_TrustRoot ds.length (by omega) (by omega)
  have hml := mkRow_len (.agg #[.int .i64 0, .int .i64 0, .int .i64 0, .int .i64 0, .int .i64 0, .int .i64 0, .slice none 0 0]) (ds.length * 7)
  generalize mkRow (.agg #[.int .i64 0, .int .i64 0, .int .i64 0, .int .i64 0, .int .i64 0, .int .i64 0, .slice none 0 0]) (ds.length * 7) = mr at *
  have H := Lib.hid h; clear h
  have HM := Lib.hid hml; clear hml
  go_enter Try.func36, Try.ntmps36
  go_wp2
  go_loopw [4] (fun i wr => ∃ (k : Nat) (cs rest : List Value) (fp : List Nat), k ≤ ds.length ∧ i = I k ∧ Blk wr w.heap.size 39 (cs ++ rest) ∧ OL TrustRootOC 7 wr (ds.take k) fp cs ∧ (w.heap.size :: fp).Nodup ∧ (∀ b ∈ fp, w.heap.size < b ∧ b < wr.heap.size) ∧ rest.length = (ds.length - k) * 7 ∧ Ext w wr) (fun i _ => ds.length - (intOf i).toNat)
  case atStart => exact ⟨0, [], mr.toList, [], by omega, rfl, by simpa using Blk.new w 39 mr.toList, ⟨rfl, rfl⟩, by simp, by simp, by simpa using HM.out, (Ext.refl _).alloc _⟩
  case round =>
    obtain ⟨k, cs, rest, fp, hk, rfl, hb, hol, hnd, hbd, hr, he⟩ := hrel
    have HE := Lib.hid he
    have HB := Lib.hid hb; clear hb
    have HOL := Lib.hid hol; clear hol
    have HND := Lib.hid hnd; clear hnd
    have HBD := Lib.hid hbd; clear hbd
    by_cases hlt : k < ds.length
    · obtain ⟨b, off, rfl, hbb, _, hc⟩ := (H.out.ext he).at_ hlt
      have hsm := sum_mem (fun y => y.sigs.length) ds k hlt
      obtain ⟨r0, r1, r2, r3, r4, r5, r6, rest, rfl⟩ : ∃ r0 r1 r2 r3 r4 r5 r6 rest', rest = r0 :: r1 :: r2 :: r3 :: r4 :: r5 :: r6 :: rest' := by
        match rest, hr with
        | r0 :: r1 :: r2 :: r3 :: r4 :: r5 :: r6 :: rest, _ => exact ⟨r0, r1, r2, r3, r4, r5, r6, rest, rfl⟩
        | [], h => simp at h; omega
        | [_], h => simp at h; omega
        | [_, _], h => simp at h; omega
        | [_, _, _], h => simp at h; omega
        | [_, _, _, _], h => simp at h; omega
        | [_, _, _, _, _], h => simp at h; omega
        | [_, _, _, _, _, _], h => simp at h; omega
      have hlr : rest.length = (ds.length - (k + 1)) * 7 := by simp only [List.length_cons] at hr; omega
      have HR := Lib.hid hlr; clear hr he hlr
      have HX := Lib.hid (take_snoc ds k hlt)
      generalize ds[k] = x at *
      obtain ⟨A6, n6, c6, hc0, hc1, hc2, hc3, hc4, hc5, hc6, s6⟩ := hc
      have S6 := Lib.hid s6; clear s6
      have hp : cs.length = k * 7 := by rw [HOL.out.len, List.length_take, Nat.min_eq_left hk]
      have HP := Lib.hid hp; clear hp
      have hwg : w.heap.size < wr.heap.size := HB.out.lt
      go_wp2_with fail
      refine (toTrustRoot _ x _ (by exact ⟨_, _, _, rfl, S6.out⟩) (by omega)).mono ?_
      rintro e w1 ⟨v1, rfl, ho1, he1⟩
      obtain ⟨a6, k6, q6, f1, rfl, hoc, hn1, hb1⟩ := ho1.to_oc
      have HOC := Lib.hid hoc; have HN1 := Lib.hid hn1; have HB1F := Lib.hid hb1; clear hoc hn1 hb1 ho1
      have HB1 := Lib.hid (HB.out.below he1.below hwg)
      have hz1 := he1.size
      have HE1 := Lib.hid he1
      clear he1
      obtain ⟨hu0, hu1, hu2, hu3, hu4, hu5, hu6⟩ := cells_at7 HB1.out HP.out
      have hf0 := HB1.out.frozen (k * 7)
      have hf1 := HB1.out.frozen (k * 7 + 1)
      have hf2 := HB1.out.frozen (k * 7 + 2)
      have hf3 := HB1.out.frozen (k * 7 + 3)
      have hf4 := HB1.out.frozen (k * 7 + 4)
      have hf5 := HB1.out.frozen (k * 7 + 5)
      have hf6 := HB1.out.frozen (k * 7 + 6)
      go_wp2
      go_roundw
      case rel =>
        obtain ⟨g1, g2, g3⟩ := nest_step (w2 := (((((((w1.setCell ⟨w.heap.size, k * 7, none⟩ (I x.isd)).setCell ⟨w.heap.size, k * 7 + 1, none⟩ (I x.version)).setCell ⟨w.heap.size, k * 7 + 2, none⟩ (I x.notBefore)).setCell ⟨w.heap.size, k * 7 + 3, none⟩ (I x.notAfter)).setCell ⟨w.heap.size, k * 7 + 4, none⟩ (I x.voters)).setCell ⟨w.heap.size, k * 7 + 5, none⟩ (I x.quorum)).setCell ⟨w.heap.size, k * 7 + 6, none⟩ (.slice a6 k6 q6))) TrustRootOC.keeps HOL.out HE1.out HOC.out rfl HBD.out HND.out HN1.out HB1F.out hwg (fun b hb => (Eq.trans (Below.heap_setCell _ ⟨w.heap.size, k * 7 + 6, none⟩ _ b hb) (Eq.trans (Below.heap_setCell _ ⟨w.heap.size, k * 7 + 5, none⟩ _ b hb) (Eq.trans (Below.heap_setCell _ ⟨w.heap.size, k * 7 + 4, none⟩ _ b hb) (Eq.trans (Below.heap_setCell _ ⟨w.heap.size, k * 7 + 3, none⟩ _ b hb) (Eq.trans (Below.heap_setCell _ ⟨w.heap.size, k * 7 + 2, none⟩ _ b hb) (Eq.trans (Below.heap_setCell _ ⟨w.heap.size, k * 7 + 1, none⟩ _ b hb) (Below.heap_setCell _ ⟨w.heap.size, k * 7, none⟩ _ b hb)))))))) (by simp only [World.size_setCell])
        refine ⟨k + 1, cs ++ [I x.isd, I x.version, I x.notBefore, I x.notAfter, I x.voters, I x.quorum, .slice a6 k6 q6], rest, fp ++ f1, by omega, by go_num, ?_, ?_, g2, g3, HR.out, ?_⟩
        · have := ((((((HB1.out.set_ (k * 7) (I x.isd)).set_ (k * 7 + 1) (I x.version)).set_ (k * 7 + 2) (I x.notBefore)).set_ (k * 7 + 3) (I x.notAfter)).set_ (k * 7 + 4) (I x.voters)).set_ (k * 7 + 5) (I x.quorum)).set_ (k * 7 + 6) (.slice a6 k6 q6)
          rw [set_at7 _ _ _ _ _ _ _ _ _ _ _ _ _ _ _ _ _ HP.out] at this
          simpa using this
        · rw [HX.out]
          exact g1
        · exact (((((((HE.out.trans HE1.out).setCell (by simp) _).setCell (by simp) _).setCell (by simp) _).setCell (by simp) _).setCell (by simp) _).setCell (by simp) _).setCell (by simp) _
      case measure => simp [intOf]; omega
    · have HR := Lib.hid hr; clear hr he
      go_wp2
      go_ret
      have e : k = ds.length := by omega
      have hr := HR.out
      subst e
      obtain rfl : rest = [] := List.eq_nil_of_length_eq_zero (by simpa using hr)
      have hb := HB.out
      have hol := HOL.out
      rw [List.append_nil] at hb
      rw [List.take_length] at hol
      exact ⟨_, rfl, ⟨cs, fp, Own.of_blk hb hol.len (by unfold maxLen; omega) (Nat.le_refl _) hb.lt, hol, by simpa [Value.ownBlock] using HND.out, fun b hb => ⟨by have := (HBD.out b hb).1; omega, (HBD.out b hb).2⟩⟩, HE.out⟩
set_option maxRecDepth 100000 in
set_option maxHeartbeats 1000000 in
theorem eqTrustRootS (v1 v2 : Value) (xs ys : List DTrustRoot) (w : World) (h1 : TrustRootS w.heap.size w v1 xs) (h2 : TrustRootS w.heap.size w v2 ys) :
    Calls Try.prog 38 #[v1, v2] w fun e w' => e = .returned (.bool (decide (xs = ys))) ∧ Ext w w' := by
  obtain ⟨A1, n1, c1, rfl, hl1, hn1, hm1, -⟩ := id h1
  obtain ⟨A2, n2, c2, rfl, hl2, hn2, hm2, -⟩ := id h2
  unfold maxLen at hm1 hm2
  have H1 := Lib.hid h1; have H2 := Lib.hid h2; have E1 := Lib.hid hl1; have E2 := Lib.hid hl2; clear h1 h2 hl1 hl2
  by_cases hn : n1 = n2
  · subst hn
    go_enter Try.func38, Try.ntmps38
    go_wp2
    go_loopw [5] (fun i wr => ∃ k : Nat, k ≤ n1 ∧ i = I k ∧ xs.take k = ys.take k ∧ Ext w wr) (fun i _ => n1 - (intOf i).toNat)
    case atStart => exact ⟨0, by omega, rfl, by simp, Ext.refl _⟩
    case round =>
      obtain ⟨k, hk, rfl, hq, he⟩ := hrel
      have HQ := Lib.hid hq; clear hq
      have HE := Lib.hid he; clear he
      by_cases hlt : k < n1
      · obtain ⟨b1, o1, rfl, hb1, hk1, hc1⟩ := (H1.out.ext HE.out).at_ hlt
        obtain ⟨b2, o2, rfl, hb2, hk2, hc2⟩ := (H2.out.ext HE.out).at_ hlt
        have i0 : (0 : Int) ≤ (k : Int) := by omega
        have i1 : (k : Int) < (n1 : Int) := by omega
        have X1 := Lib.hid (take_snoc xs k hk1)
        have X2 := Lib.hid (take_snoc ys k hk2)
        have hne : ¬ xs[k] = ys[k] → xs ≠ ys := fun hne h => hne (by subst h; rfl)
        have HN := Lib.hid hne; clear hne
        generalize xs[k] = x at *
        generalize ys[k] = y at *
        obtain ⟨A16, n16, c16, h10, h11, h12, h13, h14, h15, h16, s16⟩ := hc1
        obtain ⟨A26, n26, c26, h20, h21, h22, h23, h24, h25, h26, s26⟩ := hc2
        have S16 := Lib.hid s16; clear s16
        have S26 := Lib.hid s26; clear s26
        go_wp2_with fail
        go_region_held3 (fun W => wr.heap.size ≤ W.heap.size ∧ ∀ b o, b < wr.heap.size → W.cell? ⟨b, o, none⟩ = wr.cell? ⟨b, o, none⟩)
          (first | exact ⟨Nat.le_refl _, fun _ _ _ => rfl⟩ | exact keepC (by assumption) he1)
          (first | (go_at_call 22; refine (eqTrustRoot _ _ x y _ (by exact ⟨_, _, _, rfl, S16.out.ext (by repeat (first | (with_reducible exact Ext.refl _) | (with_reducible assumption) | (with_reducible refine Ext.alloc ?_ _) | (with_reducible refine Ext.drew ?_) | (with_reducible refine Ext.drewN ?_ _) | (with_reducible refine Ext.setCell (p := _) ?_ ?ge _; case ge => (dsimp only; omega)) | (with_reducible refine Ext.trans ?_ (by with_reducible assumption))))⟩) (by exact ⟨_, _, _, rfl, S26.out.ext (by repeat (first | (with_reducible exact Ext.refl _) | (with_reducible assumption) | (with_reducible refine Ext.alloc ?_ _) | (with_reducible refine Ext.drew ?_) | (with_reducible refine Ext.drewN ?_ _) | (with_reducible refine Ext.setCell (p := _) ?_ ?ge _; case ge => (dsimp only; omega)) | (with_reducible refine Ext.trans ?_ (by with_reducible assumption))))⟩)).mono ?_; rintro e w1 ⟨rfl, he1⟩))
        have HE1 := Lib.hid (HE.out.drew.trans he1)
        have hdd : decide (x = y) = true ↔ x = y := decide_eq_true_iff
        have HD := Lib.hid hdd; clear hdd
        generalize decide (x = y) = bb at *
        cases bb
        · have hxy : ¬ x = y := fun h => by have := HD.out.2 h; cases this
          have HXY := Lib.hid hxy; clear hxy
          go_wp2
          go_ret
          exact ⟨ret_bool (by simp [HN.out HXY.out]), HE1.out⟩
        · have HXY := Lib.hid (HD.out.1 rfl)
          go_wp2
          go_roundw
          case rel => exact ⟨k + 1, by omega, by go_num, by rw [X1.out, X2.out, HQ.out, HXY.out], HE1.out⟩
          case measure => simp [intOf]; omega
      · go_wp2
        go_ret
        have h := HQ.out
        rw [List.take_of_length_le (by rw [E1.out]; omega), List.take_of_length_le (by rw [E2.out]; omega)] at h
        exact ⟨ret_bool (by simp [h]), HE.out⟩
  · have hb : ((n1 : Int) == (n2 : Int)) = false := by simp; omega
    have hb' : ((n1 : Int) != (n2 : Int)) = true := by simp; omega
    have HN := Lib.hid hn; clear hn
    go_enter Try.func38, Try.ntmps38
    go_wp2
    go_ret
    have : xs ≠ ys := fun h => HN.out (by rw [← E1.out, ← E2.out, h])
    exact ⟨ret_bool (by simp [this]), Ext.refl _⟩
set_option maxRecDepth 100000 in
set_option maxHeartbeats 1000000 in
theorem szTrustRootS (v : Value) (ds : List DTrustRoot) (left : Int) (w : World) (h : TrustRootS w.heap.size w v ds) (h0 : 0 ≤ left) (hl : left ≤ 1048576) :
    Calls Try.prog 34 #[v, I left] w fun e w' => e = .returned (I (szR (totS (fun y => y.sigs.length) ds) left)) ∧ Ext w w' := by
  obtain ⟨A, n, c, rfl, hl1, hn1, hm1, -⟩ := id h
  unfold maxLen at hm1
  subst hl1
  have H := Lib.hid h; clear h
  have HT : Hid (totS (fun y => y.sigs.length) ds = ds.length + (ds.map fun y => y.sigs.length).sum) := rfl
  by_cases hlt : left < (ds.length : Int)
  · have HF := Lib.hid (szR_neg (t := totS (fun y => y.sigs.length) ds) (left := left) (by rw [HT.out]; omega))
    go_enter Try.func34, Try.ntmps34
    go_wp2
    go_ret
    exact ⟨ret_int HF.out.symm, Ext.refl _⟩
  · go_enter Try.func34, Try.ntmps34
    go_wp2
    go_loopw [1, 5] (fun l i wr => ∃ (k : Nat) (z : Int), k ≤ ds.length ∧ i = I k ∧ l = I z ∧ z = left - ds.length - (((ds.take k).map fun y => y.sigs.length).sum : Nat) ∧ 0 ≤ z ∧ Ext w wr) (fun _ i _ => ds.length - (intOf i).toNat)
    case atStart => exact ⟨0, left - ds.length, by omega, rfl, rfl, by simp, by omega, Ext.refl _⟩
    case round =>
      obtain ⟨k, z, hk, rfl, rfl, hz, hz0, he⟩ := hrel
      have hzl : z ≤ 1048576 := by omega
      have HZ := Lib.hid hz; clear hz
      have HE := Lib.hid he; clear he
      by_cases hkn : k < ds.length
      · obtain ⟨b, off, rfl, hbb, _, hc⟩ := (H.out.ext HE.out).at_ hkn
        have HS := Lib.hid (sum_take (fun y => y.sigs.length) ds k hkn)
        have HS2 := Lib.hid (sum_take_le (fun y => y.sigs.length) ds (k + 1))
        generalize ds[k] = x at *
        obtain ⟨A6, n6, c6, hc0, hc1, hc2, hc3, hc4, hc5, hc6, s6⟩ := hc
        have S6 := Lib.hid s6; clear s6
        go_wp2_with fail
        refine (szTrustRoot _ x z _ (by exact ⟨_, _, _, rfl, S6.out⟩) (by omega) (by omega)).mono ?_
        rintro e w1 ⟨rfl, he1⟩
        by_cases hx : z < ((x.sigs.length : Nat) : Int)
        · rw [szR_neg hx]
          go_wp2_with fail
          go_ret
          refine ⟨ret_int (szR_neg ?_).symm, HE.out.trans he1⟩
          rw [HT.out]
          have h1 := HZ.out; have h2 := HS.out; have h3 := HS2.out
          omega
        · rw [szR_pos (by omega)]
          go_wp2_with fail
          go_roundw
          case rel =>
            refine ⟨k + 1, z - ((x.sigs.length : Nat) : Int), by omega, by go_num, rfl, ?_, by omega, HE.out.trans he1⟩
            rw [HS.out, HZ.out]
            omega
          case measure => simp [intOf]; omega
      · go_wp2_with fail
        go_ret
        obtain rfl : k = ds.length := by omega
        have h1 := HZ.out
        rw [List.take_length] at h1
        refine ⟨ret_int ?_, HE.out⟩
        rw [szR_pos (by rw [HT.out]; omega), HT.out, h1]
        omega
/-- How many numbers an element takes, and the element with its numbers from q on. -/
def TrustRootCnt (x : DTrustRoot) : Nat := 6 + 2 * x.sigs.length
def TrustRootNumE (q : Nat) (x : DTrustRoot) : DTrustRoot := ⟨(q : Int), (q : Int) + 1, (q : Int) + 1 + 1, (q : Int) + 1 + 1 + 1, (q : Int) + 1 + 1 + 1 + 1, (q : Int) + 1 + 1 + 1 + 1 + 1, (SignatureNum (q + 6) x.sigs.length)⟩
theorem TrustRootCnt_le (x : DTrustRoot) : TrustRootCnt x ≤ 10 + 10 * (x.sigs.length) := by
  unfold TrustRootCnt
  omega
theorem TrustRootCnt_sum (l : List DTrustRoot) : (l.map TrustRootCnt).sum ≤ 10 * (totS (fun y => y.sigs.length) l) := cnt_le (fun x => TrustRootCnt_le x) l
set_option maxRecDepth 100000 in
set_option maxHeartbeats 1000000 in
theorem markTrustRootS_row (v : Value) (xs : List DTrustRoot) (q : Nat) (qi : Int) (w : World) (cs : List Value) (fp : List Nat) (ho : w.ownsRow 0 39 7 v xs.length cs) (hl : OL TrustRootOC 7 w xs fp cs) (hn : (v.ownBlock.toList ++ fp).Nodup) (hqi : qi = (q : Int)) (hq : q + (xs.map TrustRootCnt).sum ≤ 1000000000000000) :
    Calls Try.prog 52 #[v, I qi] w fun e w' => e = .returned (I ((q + (xs.map TrustRootCnt).sum : Nat) : Int)) ∧ (∃ cs', w'.ownsRow 0 39 7 v xs.length cs' ∧ OL TrustRootOC 7 w' (numS TrustRootNumE TrustRootCnt q xs) fp cs') ∧ OutF (v.ownBlock.toList ++ fp) w w' := by
  subst hqi
  rcases Own.cases (hi := w.heap.size) ⟨ho, fun k hk => (ho.lt k hk).2⟩ with ⟨rfl, h0, hx⟩ | ⟨g, cap, rest, rfl, h1, h2, hb, hlc, hnn, hm, hs⟩
  · obtain rfl : xs = [] := List.eq_nil_of_length_eq_zero h0
    subst hx
    have HL := Lib.hid hl; clear hl ho hn h0
    go_enter Try.func52, Try.ntmps52
    go_wp2
    go_loop [1, 5] (fun k i => k = I q ∧ i = I 0) (fun _ _ => 0)
    case atStart => exact ⟨rfl, rfl⟩
    case round =>
      obtain ⟨rfl, rfl⟩ := hrel
      go_wp2
      go_ret
      exact ⟨rfl, ⟨[], World.ownsRow_nil _ _ _ _, HL.out⟩, OutF.refl _ _⟩
  · have hnd : (g :: fp).Nodup := by simpa [Value.ownBlock] using hn
    have M0 := Lib.hid (MInv.start (f := TrustRootNumE) (c := TrustRootCnt) (q := q) hb hl)
    have HND := Lib.hid hnd
    have HS := Lib.hid hs
    have HLC := Lib.hid hl.len
    clear ho hl hn hb hlc hs hnd
    unfold maxLen at hm
    go_enter Try.func52, Try.ntmps52
    go_wp2
    go_loopw [1, 5] (fun k i wr => ∃ j p : Nat, j ≤ xs.length ∧ k = I p ∧ i = I j ∧ MInv TrustRootOC 7 TrustRootNumE TrustRootCnt 39 g rest fp xs q w wr j p) (fun _ i _ => xs.length - (intOf i).toNat)
    case atStart => exact ⟨0, q, by omega, rfl, rfl, M0.out⟩
    case round =>
      obtain ⟨j, p, hj, rfl, rfl, hM⟩ := hrel
      have HM := Lib.hid hM; clear hM M0
      by_cases hlt : j < xs.length
      · have hpb : p + TrustRootCnt xs[j] ≤ 1000000000000000 := by
          have h1 := HM.out.1
          have h2 := sum_take TrustRootCnt xs j hlt
          have h3 := sum_take_le TrustRootCnt xs (j + 1)
          omega
        obtain ⟨f1, pre, post, c1, hoc, hpl, hbl, hg, hf, hgo⟩ := HM.out.step TrustRootOC.keeps HND.out hlt
        have HGO := Lib.hid hgo; clear hgo
        have HF := Lib.hid hf; clear hf
        generalize xs[j] = x at *
        unfold TrustRootCnt at hpb
        obtain ⟨u6, rfl, r6, rfl⟩ := hoc
        have R6 := Lib.hid r6; clear r6
        obtain ⟨A6, n6, c6, hu6⟩ := ownsRow_slice R6.out
        subst hu6
        have G6 : Hid (g ∉ (Value.slice A6 n6 c6).ownBlock.toList) := fun hm => hg (by first | exact hm | (simp only [List.mem_append] at hm ⊢; simp [hm]))
        clear hg
        have HPL := Lib.hid hpl; clear hpl
        have B0 := Lib.hid hbl; clear hbl
        simp only [List.cons_append, List.nil_append] at B0
        have lg : g < wr.heap.size := B0.out.lt
        obtain ⟨hu0, hu1, hu2, hu3, hu4, hu5, hu6⟩ := cells_at7 B0.out HPL.out
        have hf0 := B0.out.frozen (j * 7)
        have hf1 := B0.out.frozen (j * 7 + 1)
        have hf2 := B0.out.frozen (j * 7 + 2)
        have hf3 := B0.out.frozen (j * 7 + 3)
        have hf4 := B0.out.frozen (j * 7 + 4)
        have hf5 := B0.out.frozen (j * 7 + 5)
        have hf6 := B0.out.frozen (j * 7 + 6)
        go_wp2_with fail
        refine (markSignatureS_row _ x.sigs (p + 6) ((p : Int) + 1 + 1 + 1 + 1 + 1 + 1) _ (by exact ownsRow_set (ownsRow_set (ownsRow_set (ownsRow_set (ownsRow_set (ownsRow_set (R6.out) G6.out) G6.out) G6.out) G6.out) G6.out) G6.out) (by omega) (by omega)).mono ?_
        rintro e w6 ⟨rfl, r6, t6⟩
        have R6' := Lib.hid r6; clear r6
        have T6 := Lib.hid t6; clear t6
        have B6' := Blk.outF (Blk.set_ (Blk.set_ (Blk.set_ (Blk.set_ (Blk.set_ (Blk.set_ (B0.out) (j * 7) (I ((p : Int)))) (j * 7 + 1) (I ((p : Int) + 1))) (j * 7 + 2) (I ((p : Int) + 1 + 1))) (j * 7 + 3) (I ((p : Int) + 1 + 1 + 1))) (j * 7 + 4) (I ((p : Int) + 1 + 1 + 1 + 1))) (j * 7 + 5) (I ((p : Int) + 1 + 1 + 1 + 1 + 1))) T6.out G6.out
        have B6 : Hid (Blk w6 g 39 (pre ++ (I ((p : Int)) :: I ((p : Int) + 1) :: I ((p : Int) + 1 + 1) :: I ((p : Int) + 1 + 1 + 1) :: I ((p : Int) + 1 + 1 + 1 + 1) :: I ((p : Int) + 1 + 1 + 1 + 1 + 1) :: .slice A6 n6 c6 :: post))) := by
          unfold Hid
          have h := B6'
          rw [← HPL.out] at h
          simpa using h
        clear B6'
        have z6 := T6.out.size
        simp only [World.size_setCell] at z6
        have lg6 : g < w6.heap.size := by omega
        obtain ⟨hv6_0, hv6_1, hv6_2, hv6_3, hv6_4, hv6_5, hv6_6⟩ := cells_at7 B6.out HPL.out
        have hg6_0 := B6.out.frozen (j * 7)
        have hg6_1 := B6.out.frozen (j * 7 + 1)
        have hg6_2 := B6.out.frozen (j * 7 + 2)
        have hg6_3 := B6.out.frozen (j * 7 + 3)
        have hg6_4 := B6.out.frozen (j * 7 + 4)
        have hg6_5 := B6.out.frozen (j * 7 + 5)
        have hg6_6 := B6.out.frozen (j * 7 + 6)
        have hOC : TrustRootOC w6 ((Value.slice A6 n6 c6).ownBlock.toList) [I ((p : Int)), I ((p : Int) + 1), I ((p : Int) + 1 + 1), I ((p : Int) + 1 + 1 + 1), I ((p : Int) + 1 + 1 + 1 + 1), I ((p : Int) + 1 + 1 + 1 + 1 + 1), .slice A6 n6 c6] (TrustRootNumE p x) := ⟨_, rfl, (by unfold TrustRootNumE; dsimp only; rw [SignatureNum_len]; exact R6'.out), rfl⟩
        have HOC := Lib.hid hOC; clear hOC
        have hOU : OutF (g :: ((Value.slice A6 n6 c6).ownBlock.toList)) wr w6 := (by repeat (first | (with_reducible exact OutF.refl _ _) | (with_reducible refine OutF.setCell ?_ ?ge _; case ge => simp) | (with_reducible refine OutF.trans ?_ (T6.out.mono (fun x hx => List.mem_cons_of_mem _ (by first | exact hx | (simp only [List.mem_append] at hx ⊢; simp [hx])))))))
        have HOU := Lib.hid hOU; clear hOU
        go_wp2_with fail
        go_roundw
        case rel =>
          exact ⟨j + 1, p + TrustRootCnt x, by omega, by simp only [TrustRootCnt, Value.int.injEq, true_and]; omega, by go_num, HGO.out _ _ HOC.out rfl B6.out HOU.out⟩
        case measure => simp [intOf]; omega
      · go_wp2_with fail
        go_ret
        obtain rfl : j = xs.length := by omega
        obtain ⟨hp, cs', hb', hl', ho'⟩ := HM.out.stop
        subst hp
        have hs := HS.out
        have e1 : cs'.length = cs.length := by rw [hl'.len, numS_len, HLC.out]
        refine ⟨rfl, ⟨cs', row_of_blk hb' (by rw [hl'.len, numS_len]) hnn (by unfold maxLen; omega) (by rw [← hs, List.length_append, List.length_append, e1]), hl'⟩, by simpa [Value.ownBlock] using ho'⟩
theorem markTrustRootS (v : Value) (xs : List DTrustRoot) (q lo hi : Nat) (w : World) (h : TrustRootSO lo hi w v xs) (hq : q + (xs.map TrustRootCnt).sum ≤ 1000000000000000) :
    Calls Try.prog 52 #[v, I q] w fun e w' => e = .returned (I ((q + (xs.map TrustRootCnt).sum : Nat) : Int)) ∧ TrustRootSO lo hi w' v (numS TrustRootNumE TrustRootCnt q xs) ∧ Out lo hi w w' :=
  calls_NO numS_len h fun cs fp h1 h2 h3 => markTrustRootS_row v xs q q w cs fp h1 h2 h3 rfl hq
set_option maxRecDepth 100000 in
set_option maxHeartbeats 1000000 in
theorem heldTrustRootS (v : Value) (xs : List DTrustRoot) (q : Nat) (w : World) (h : TrustRootS w.heap.size w v (numS TrustRootNumE TrustRootCnt q xs)) (hq : q + (xs.map TrustRootCnt).sum ≤ 1000000000000000) :
    Calls Try.prog 54 #[v, I q] w fun e w' => e = .returned (I ((q + (xs.map TrustRootCnt).sum : Nat) : Int)) ∧ Ext w w' := by
  obtain ⟨A, n', c, rfl, hl, hn, hm, -⟩ := id h
  rw [numS_len] at hl
  subst hl
  have H := Lib.hid h; clear h
  unfold maxLen at hm
  go_enter Try.func54, Try.ntmps54
  go_wp2
  go_loopw [1, 5] (fun k i wr => ∃ j p : Nat, j ≤ xs.length ∧ p = q + ((xs.take j).map TrustRootCnt).sum ∧ k = I p ∧ i = I j ∧ Ext w wr) (fun _ i _ => xs.length - (intOf i).toNat)
  case atStart => exact ⟨0, q, by omega, by simp, rfl, rfl, Ext.refl _⟩
  case round =>
    obtain ⟨j, p, hj, hp, rfl, rfl, he⟩ := hrel
    have HPQ := Lib.hid hp; clear hp
    by_cases hlt : j < xs.length
    · have hpb : p + TrustRootCnt xs[j] ≤ 1000000000000000 := by
        have h1 := HPQ.out
        have h2 := sum_take TrustRootCnt xs j hlt
        have h3 := sum_take_le TrustRootCnt xs (j + 1)
        omega
      have HPN : Hid (p + TrustRootCnt xs[j] = q + ((xs.take (j + 1)).map TrustRootCnt).sum) := by
        unfold Hid
        rw [sum_take TrustRootCnt xs j hlt, HPQ.out]
        omega
      obtain ⟨b, off, rfl, hb, hk, hc⟩ := (H.out.ext he).at_ hlt
      rw [numS_get _ _ _ hlt, ← HPQ.out] at hc
      generalize xs[j] = x at *
      unfold TrustRootCnt at hpb HPN
      obtain ⟨A6, n6, c6, hc0, hc1, hc2, hc3, hc4, hc5, hc6, s6⟩ := hc
      simp only [TrustRootNumE] at hc0 hc1 hc2 hc3 hc4 hc5 hc6 s6
      have S6 := Lib.hid s6; clear s6
      have i0 : (0 : Int) ≤ (p : Int) := by omega
      go_wp2_with fail
      refine (heldSignatureS_at _ x.sigs.length (p + 6) _ _ (by exact S6.out.ext (by repeat (first | (with_reducible exact Ext.refl _) | (with_reducible assumption) | (with_reducible refine Ext.alloc ?_ _) | (with_reducible refine Ext.drew ?_) | (with_reducible refine Ext.drewN ?_ _) | (with_reducible refine Ext.setCell (p := _) ?_ ?ge _; case ge => (dsimp only; omega)) | (with_reducible refine Ext.trans ?_ (by with_reducible assumption))))) (by omega) (by omega)).mono ?_
      rintro e w6 ⟨rfl, e6⟩
      obtain ⟨hc6_, -, hz6⟩ := e6.facts
      have i7 : (0 : Int) ≤ ((p + 6 + 2 * x.sigs.length : Nat) : Int) := by omega
      have j7 : ¬ ((p + 6 + 2 * x.sigs.length : Nat) : Int) < 0 := by omega
      go_wp2_with fail
      go_roundw
      case rel => exact ⟨j + 1, _, by omega, HPN.out, by simp only [Value.int.injEq, true_and]; omega, by go_num, (by repeat (first | (with_reducible exact Ext.refl _) | (with_reducible assumption) | (with_reducible refine Ext.alloc ?_ _) | (with_reducible refine Ext.drew ?_) | (with_reducible refine Ext.drewN ?_ _) | (with_reducible refine Ext.setCell (p := _) ?_ ?ge _; case ge => (dsimp only; omega)) | (with_reducible refine Ext.trans ?_ (by with_reducible assumption))))⟩
      case measure => simp [intOf]; omega
    · go_wp2_with fail
      go_ret
      obtain rfl : j = xs.length := by omega
      exact ⟨ret_int (by have := HPQ.out; rw [List.take_length] at this; omega), (by repeat (first | (with_reducible exact Ext.refl _) | (with_reducible assumption) | (with_reducible refine Ext.alloc ?_ _) | (with_reducible refine Ext.drew ?_) | (with_reducible refine Ext.drewN ?_ _) | (with_reducible refine Ext.setCell (p := _) ?_ ?ge _; case ge => (dsimp only; omega)) | (with_reducible refine Ext.trans ?_ (by with_reducible assumption))))⟩
theorem heldTrustRootS_at (v : Value) (xs : List DTrustRoot) (q : Nat) (qi : Int) (w : World) (h : TrustRootS w.heap.size w v (numS TrustRootNumE TrustRootCnt q xs)) (hqi : qi = (q : Int)) (hq : q + (xs.map TrustRootCnt).sum ≤ 1000000000000000) :
    Calls Try.prog 54 #[v, I qi] w fun e w' => e = .returned (I ((q + (xs.map TrustRootCnt).sum : Nat) : Int)) ∧ Ext w w' := by
  subst hqi
  exact heldTrustRootS v xs q w h hq
end Go.Proofs.Ytjfoolffiflchaa
