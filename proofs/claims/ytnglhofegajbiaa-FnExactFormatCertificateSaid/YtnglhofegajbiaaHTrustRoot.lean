/- The laws' helpers on TrustRoot: to.. (copy), eq.. (compare), sz.. (count), mark.. and held... Printed by gen.py. -/
import Derived.Test.YtnglhofegajbiaaHSignature
import Derived.Test.YtnglhofegajbiaaNest
import Derived.Test.YtnglhofegajbiaaMarkRows
import Derived.Test.YtnglhofegajbiaaPush
import Derived.Test.YtnglhofegajbiaaTyped
namespace Go.Proofs.Ytnglhofegajbiaa
open Go.RowKit
set_option linter.unusedVariables false
theorem info_TrustRoot : (Try.prog.info? 29).map (fun i => (i.zero, i.size, i.bytes)) = some (some (.agg #[.int .i64 0, .int .i64 0, .int .i64 0, .int .i64 0, .int .i64 0, .int .i64 0, .slice none 0 0]), 7, 72) := by kernel_rfl

def TrustRootO (lo hi : Nat) (w : World) (v : Value) (x : DTrustRoot) : Prop := ∃ u6, v = .agg #[I x.isd, I x.version, I x.notBefore, I x.notAfter, I x.voters, I x.quorum, u6] ∧ Own 48 2 lo hi w u6 x.sigs.length (x.sigs.flatMap SignatureC) ∧ lo ≤ hi
theorem TrustRootO.keep {lo hi : Nat} {w w' : World} {v : Value} {x : DTrustRoot} (h : TrustRootO lo hi w v x) (hk : ∀ k, lo ≤ k → k < hi → k < w.heap.size → w'.heap[k]? = w.heap[k]?) : TrustRootO lo hi w' v x := by
  obtain ⟨u6, e, o6, l0⟩ := h
  exact ⟨u6, e, o6.keep fun k h1 h2 h3 => hk k (by omega) (by omega) h3, l0⟩
theorem TrustRootO.v {lo hi : Nat} {w : World} {v : Value} {x : DTrustRoot} (h : TrustRootO lo hi w v x) : TrustRootV hi w v x := by
  obtain ⟨u6, e, o6, l0⟩ := h
  have s6 := (o6.sl (At := SignatureAt) SignatureC.len (by omega) SignatureC.at_)
  obtain ⟨A6, n6, c6, rfl, _⟩ := id s6
  exact ⟨_, _, _, e, s6.keep SignatureAt.keeps (by omega) (fun _ _ => rfl)⟩
theorem TrustRootO.shape {lo hi : Nat} {w : World} {v : Value} {x : DTrustRoot} (h : TrustRootO lo hi w v x) : ∃ A6 n6 c6, v = .agg #[I x.isd, I x.version, I x.notBefore, I x.notAfter, I x.voters, I x.quorum, .slice A6 n6 c6] := by
  obtain ⟨A6, n6, c6, e, _⟩ := h.v
  exact ⟨A6, n6, c6, e⟩
theorem TrustRootO.ext {lo hi : Nat} {w w' : World} {v : Value} {x : DTrustRoot} (h : TrustRootO lo hi w v x) (he : Ext w w') (hhi : hi ≤ w.heap.size) : TrustRootO lo hi w' v x := h.keep fun k _ _ h3 => he.same k h3
theorem TrustRootO.drew {lo hi : Nat} {w : World} {v : Value} {x : DTrustRoot} (h : TrustRootO lo hi w v x) : TrustRootO lo hi w.drew v x := h.keep fun _ _ _ _ => rfl
theorem TrustRootO.out {lo hi lo' hi' : Nat} {w w' : World} {v : Value} {x : DTrustRoot} (h : TrustRootO lo hi w v x) (ho : Out lo' hi' w w') (hd : hi' ≤ lo ∨ hi ≤ lo') : TrustRootO lo hi w' v x := h.keep fun k h1 h2 h3 => ho.block k h3 (by omega)
theorem TrustRootO.more {lo hi lo' hi' : Nat} {w : World} {v : Value} {x : DTrustRoot} (h : TrustRootO lo hi w v x) (h1 : lo' ≤ lo) (h2 : hi ≤ hi') : TrustRootO lo' hi' w v x := by
  obtain ⟨u6, e, o6, l0⟩ := h
  exact ⟨u6, e, Own.more o6 h1 h2, by omega⟩
theorem TrustRootO.up {lo : Nat} {w w' : World} {v : Value} {x : DTrustRoot} (h : TrustRootO lo w.heap.size w v x) (he : Ext w w') : TrustRootO lo w'.heap.size w' v x := (h.ext he (Nat.le_refl _)).more (Nat.le_refl _) he.size
theorem TrustRootO.setT {lo hi g : Nat} {w : World} {v : Value} {x : DTrustRoot} {cs' : List Value} (h : TrustRootO lo hi w v x) (hb : Blk w g 29 cs') (i : Nat) (u : Value) : TrustRootO lo hi (w.setCell ⟨g, i, none⟩ u) v x := by
  obtain ⟨u6, e, o6, l0⟩ := h
  exact ⟨u6, e, Own.setT o6 hb (by decide) i u, l0⟩
theorem TrustRootO_rd {lo hi : Nat} {w : World} {v : Value} {x : DTrustRoot} (h : TrustRootO lo hi w v x) (hhi : hi ≤ w.heap.size) : TrustRootV w.heap.size w v x := h.v.keep hhi (fun _ _ => rfl)
set_option maxRecDepth 100000 in
set_option maxHeartbeats 1000000 in
theorem toTrustRoot (v : Value) (x : DTrustRoot) (w : World) (h : TrustRootV w.heap.size w v x) (hn : x.sigs.length ≤ 16777216) :
    Calls Try.prog 7 #[v] w fun e w' => ∃ v', e = .returned v' ∧ TrustRootO w.heap.size w'.heap.size w' v' x ∧ Ext w w' := by
  obtain ⟨A6, n6, c6, rfl, s6⟩ := h
  have S6 := Lib.hid s6; clear s6
  go_enter Try.func7, Try.ntmps7
  go_wp2_with fail
  refine (toSignatureS _ x.sigs _ (by exact S6.out.ext (by repeat (first | (with_reducible exact Ext.refl _) | (with_reducible assumption) | (with_reducible refine Ext.alloc ?_ _) | (with_reducible refine Ext.drew ?_) | (with_reducible refine Ext.drewN ?_ _) | (with_reducible refine Ext.setCell (p := _) ?_ ?ge _; case ge => (dsimp only; omega)) | (with_reducible refine Ext.trans ?_ (by with_reducible assumption))))) (by omega)).mono ?_
  rintro e w6 ⟨v6, rfl, ho6, he6⟩
  obtain ⟨hc6, hf6, hz6⟩ := he6.facts
  simp only [World.size_alloc] at hz6 hc6 hf6
  have la6 : w.heap.size < w6.heap.size := by omega
  have lb6 : w.heap.size + 1 < w6.heap.size := by omega
  have lc6 : w.heap.size + 1 + 1 < w6.heap.size := by omega
  simp only [World.size_alloc] at ho6
  have O6 := Lib.hid ho6; clear ho6
  obtain ⟨a6, m6, q6, hv6⟩ : ∃ a n c, v6 = .slice a n c := O6.out.slice
  subst hv6
  go_wp2_with fail
  refine bodyPost_ret (v := .agg #[I x.isd, I x.version, I x.notBefore, I x.notAfter, I x.voters, I x.quorum, .slice a6 m6 q6]) (by simp [results, Try.results7, go_sem, *]) rfl ⟨_, rfl, ?_, ?_⟩
  · simp only [World.size_setCell]
    refine ⟨_, rfl, Own.more (lo := w.heap.size + 1 + 1 + 1) (hi := w6.heap.size) (by repeat (first | (with_reducible exact O6.out) | (with_reducible refine Own.alloc ?_ _) | (with_reducible refine Own.setCell (p := _) ?_ (.inl ?ge) _; case ge => (first | omega | (dsimp only; omega) | (simp only [World.size_setCell]; omega) | (simp only [World.size_alloc]; omega))) | (with_reducible refine Own.ext ?_ (by with_reducible assumption) ?ge; case ge => (first | omega | (dsimp only; omega) | (simp only [World.size_setCell]; omega) | (simp only [World.size_alloc]; omega))))) (by omega) (by omega), by omega⟩
  · exact (by repeat (first | (with_reducible exact Ext.refl _) | (with_reducible assumption) | (with_reducible refine Ext.alloc ?_ _) | (with_reducible refine Ext.drew ?_) | (with_reducible refine Ext.drewN ?_ _) | (with_reducible refine Ext.setCell (p := _) ?_ ?ge _; case ge => (dsimp only; omega)) | (with_reducible refine Ext.trans ?_ (by with_reducible assumption))))
set_option maxRecDepth 100000 in
set_option maxHeartbeats 1000000 in
theorem eqTrustRoot (v1 v2 : Value) (x y : DTrustRoot) (w : World) (h1 : TrustRootV w.heap.size w v1 x) (h2 : TrustRootV w.heap.size w v2 y) :
    Calls Try.prog 9 #[v1, v2] w fun e w' => e = .returned (.bool (decide (x = y))) ∧ Ext w w' := by
  obtain ⟨A16, n16, c16, rfl, s16⟩ := h1
  obtain ⟨A26, n26, c26, rfl, s26⟩ := h2
  have S16 := Lib.hid s16; clear s16
  have S26 := Lib.hid s26; clear s26
  go_enter Try.func9, Try.ntmps9
  go_wp2_with fail
  all_goals (try (go_ret; exact ⟨ret_bool (by simp_all [DTrustRoot.eq_iff]), (by repeat (first | (with_reducible exact Ext.refl _) | (with_reducible assumption) | (with_reducible refine Ext.alloc ?_ _) | (with_reducible refine Ext.drew ?_) | (with_reducible refine Ext.drewN ?_ _) | (with_reducible refine Ext.setCell (p := _) ?_ ?ge _; case ge => (dsimp only; omega)) | (with_reducible refine Ext.trans ?_ (by with_reducible assumption))))⟩))
  refine (eqSignatureS _ _ x.sigs y.sigs _ (by exact S16.out.ext (by repeat (first | (with_reducible exact Ext.refl _) | (with_reducible assumption) | (with_reducible refine Ext.alloc ?_ _) | (with_reducible refine Ext.drew ?_) | (with_reducible refine Ext.drewN ?_ _) | (with_reducible refine Ext.setCell (p := _) ?_ ?ge _; case ge => (dsimp only; omega)) | (with_reducible refine Ext.trans ?_ (by with_reducible assumption))))) (by exact S26.out.ext (by repeat (first | (with_reducible exact Ext.refl _) | (with_reducible assumption) | (with_reducible refine Ext.alloc ?_ _) | (with_reducible refine Ext.drew ?_) | (with_reducible refine Ext.drewN ?_ _) | (with_reducible refine Ext.setCell (p := _) ?_ ?ge _; case ge => (dsimp only; omega)) | (with_reducible refine Ext.trans ?_ (by with_reducible assumption)))))).mono ?_
  rintro e w7 ⟨rfl, he7⟩
  obtain ⟨hc7, hf7, hz7⟩ := he7.facts
  go_wp2_with fail
  all_goals
    go_ret
    exact ⟨ret_bool (by simp_all [DTrustRoot.eq_iff]), (by repeat (first | (with_reducible exact Ext.refl _) | (with_reducible assumption) | (with_reducible refine Ext.alloc ?_ _) | (with_reducible refine Ext.drew ?_) | (with_reducible refine Ext.drewN ?_ _) | (with_reducible refine Ext.setCell (p := _) ?_ ?ge _; case ge => (dsimp only; omega)) | (with_reducible refine Ext.trans ?_ (by with_reducible assumption))))⟩
set_option maxRecDepth 100000 in
set_option maxHeartbeats 1000000 in
theorem szTrustRoot (v : Value) (x : DTrustRoot) (left : Int) (w : World) (h : TrustRootV w.heap.size w v x) (h0 : 0 ≤ left) (hl : left ≤ 1048576) :
    Calls Try.prog 5 #[v, I left] w fun e w' => e = .returned (I (szR (x.sigs.length) left)) ∧ Ext w w' := by
  obtain ⟨A6, n6, c6, rfl, s6⟩ := h
  have S6 := Lib.hid s6; clear s6
  go_enter Try.func5, Try.ntmps5
  go_wp2_with fail
  refine (szSignatureS _ x.sigs (left) _ (by exact S6.out.ext (by repeat (first | (with_reducible exact Ext.refl _) | (with_reducible assumption) | (with_reducible refine Ext.alloc ?_ _) | (with_reducible refine Ext.drew ?_) | (with_reducible refine Ext.drewN ?_ _) | (with_reducible refine Ext.setCell (p := _) ?_ ?ge _; case ge => (dsimp only; omega)) | (with_reducible refine Ext.trans ?_ (by with_reducible assumption))))) (by omega) (by omega)).mono ?_
  rintro e w1 ⟨rfl, he1⟩
  obtain ⟨hc1, hf1, hz1⟩ := he1.facts
  by_cases hlt0 : left < (((x.sigs.length) : Nat) : Int)
  · rw [szR_neg hlt0]
    go_wp2_with fail
    go_ret
    exact ⟨ret_int (szR_neg (by omega)).symm, (by repeat (first | (with_reducible exact Ext.refl _) | (with_reducible assumption) | (with_reducible refine Ext.alloc ?_ _) | (with_reducible refine Ext.drew ?_) | (with_reducible refine Ext.drewN ?_ _) | (with_reducible refine Ext.setCell (p := _) ?_ ?ge _; case ge => (dsimp only; omega)) | (with_reducible refine Ext.trans ?_ (by with_reducible assumption))))⟩
  · rw [szR_pos (by omega)]
    go_wp2_with fail
    go_ret
    exact ⟨ret_int (by rw [szR_pos (by omega)] <;> omega), (by repeat (first | (with_reducible exact Ext.refl _) | (with_reducible assumption) | (with_reducible refine Ext.alloc ?_ _) | (with_reducible refine Ext.drew ?_) | (with_reducible refine Ext.drewN ?_ _) | (with_reducible refine Ext.setCell (p := _) ?_ ?ge _; case ge => (dsimp only; omega)) | (with_reducible refine Ext.trans ?_ (by with_reducible assumption))))⟩
/-- What marking from q on leaves. -/
def TrustRootNum1 (q : Nat) (x : DTrustRoot) : DTrustRoot := { isd := x.isd, version := x.version, notBefore := x.notBefore, notAfter := x.notAfter, voters := x.voters, quorum := x.quorum, sigs := (SignatureNum q x.sigs.length) }
/-- How many numbers an element takes, and the element with its numbers from q on. -/
def TrustRootCnt (x : DTrustRoot) : Nat := 6 + 2 * x.sigs.length
def TrustRootNumE (q : Nat) (x : DTrustRoot) : DTrustRoot := ⟨(q : Int), (q : Int) + 1, (q : Int) + 1 + 1, (q : Int) + 1 + 1 + 1, (q : Int) + 1 + 1 + 1 + 1, (q : Int) + 1 + 1 + 1 + 1 + 1, (SignatureNum (q + 6) x.sigs.length)⟩
theorem TrustRootCnt_le (x : DTrustRoot) : TrustRootCnt x ≤ 10 + 10 * (x.sigs.length) := by
  unfold TrustRootCnt
  omega
theorem TrustRootCnt_sum (l : List DTrustRoot) : (l.map TrustRootCnt).sum ≤ 10 * (totS (fun y => y.sigs.length) l) := cnt_le (fun x => TrustRootCnt_le x) l
end Go.Proofs.Ytnglhofegajbiaa
