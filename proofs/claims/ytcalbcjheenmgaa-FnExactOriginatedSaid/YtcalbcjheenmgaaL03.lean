/- Contracts of the program's and the reference's functions on residues, digests and codes. -/
import Derived.Test.YtcalbcjheenmgaaL01
namespace Go.Proofs.Ytcalbcjheenmgaa
open Go.RowKit
set_option linter.unusedVariables false
/-- The prime of the codes is 2147483647; n is a residue. -/
def isRes (n : Int) : Bool := inR n 0 2147483646
theorem isRes_iff {n : Int} : isRes n = true ↔ 0 ≤ n ∧ n ≤ 2147483646 := inR_iff
def addM (b s : Int) : Int := if isRes b && isRes s then (b + s) % 2147483647 else 0
def subM (b s : Int) : Int := if isRes b && isRes s then (b - s + 2147483647) % 2147483647 else 0
def dig1 (d x : Int) : Int := (d * 1000003 + x % 2147483647 + 11) % 2147483647
def digest (l : List Int) : Int := l.foldl dig1 7
def mac (key : Int) (l : List Int) : Int := digest ([key] ++ l ++ [key])
def sign (key : Int) (l : List Int) : Int := mac key ([77] ++ l)
theorem addM_res {b s : Int} (h1 : isRes b = true) (h2 : isRes s = true) : addM b s = (b + s) % 2147483647 := by simp [addM, h1, h2]
theorem subM_res {b s : Int} (h1 : isRes b = true) (h2 : isRes s = true) : subM b s = (b - s + 2147483647) % 2147483647 := by simp [subM, h1, h2]
theorem dig_bounds (l : List Int) (d : Int) (h : 0 ≤ d ∧ d < 2147483647) : 0 ≤ l.foldl dig1 d ∧ l.foldl dig1 d < 2147483647 := by
  induction l generalizing d with
  | nil => exact h
  | cons x l ih => exact ih _ (by unfold dig1; omega)
set_option maxRecDepth 100000 in
set_option maxHeartbeats 1000000 in
theorem impl_isResidue (n : Int) (w : World) : Calls Try.prog 175 #[I n] w fun e w' => e = .returned (.bool (isRes n)) ∧ w = w' := by
  go_enter Try.func175, Try.ntmps175
  go_wp2_with fail
  refine (impl_InRange _ _ _ _).mono ?_
  rintro e w' ⟨rfl, rfl⟩
  go_wp2
  go_ret
  exact ⟨rfl, rfl⟩
set_option maxRecDepth 100000 in
set_option maxHeartbeats 1000000 in
theorem spec_l3Ok (n : Int) (w : World) : Calls Try.prog 164 #[I n] w fun e w' => e = .returned (.bool (isRes n)) ∧ w = w' := by
  go_enter Try.func164, Try.ntmps164
  go_wp2_with fail
  refine (spec_l1In _ _ _ _).mono ?_
  rintro e w' ⟨rfl, rfl⟩
  go_wp2
  go_ret
  exact ⟨rfl, rfl⟩
set_option maxRecDepth 100000 in
set_option maxHeartbeats 1000000 in
theorem impl_AddMod (b s : Int) (w : World) : Calls Try.prog 181 #[I b, I s] w fun e w' => e = .returned (I (addM b s)) ∧ w = w' := by
  cases h1 : isRes b
  · have HF : Hid (addM b s = 0) := by unfold Hid; simp [addM, h1]
    have H1 := Lib.hid h1; clear h1
    go_enter Try.func181, Try.ntmps181
    go_wp2_with (first | (go_at_call 175; refine (impl_isResidue _ _).mono ?_; rintro e w' ⟨rfl, rfl⟩; rw [H1.out]))
    go_ret
    exact ⟨ret_int HF.out.symm, rfl⟩
  · cases h2 : isRes s
    · have HF : Hid (addM b s = 0) := by unfold Hid; simp [addM, h2]
      have H1 := Lib.hid h1; clear h1
      have H2 := Lib.hid h2; clear h2
      go_enter Try.func181, Try.ntmps181
      go_wp2_with (first | (go_at_call 175; refine (impl_isResidue _ _).mono ?_; rintro e w' ⟨rfl, rfl⟩; first | rw [H1.out] | rw [H2.out]))
      go_ret
      exact ⟨ret_int HF.out.symm, rfl⟩
    · obtain ⟨b0, b1⟩ := isRes_iff.1 h1
      obtain ⟨s0, s1⟩ := isRes_iff.1 h2
      have HF := Lib.hid (addM_res h1 h2)
      have H1 := Lib.hid h1; clear h1
      have H2 := Lib.hid h2; clear h2
      go_enter Try.func181, Try.ntmps181
      go_wp2_with (first | (go_at_call 175; refine (impl_isResidue _ _).mono ?_; rintro e w' ⟨rfl, rfl⟩; first | rw [H1.out] | rw [H2.out]))
      go_ret
      exact ⟨ret_int HF.out.symm, rfl⟩
set_option maxRecDepth 100000 in
set_option maxHeartbeats 1000000 in
theorem spec_AddMod (b s : Int) (w : World) : Calls Try.prog 180 #[I b, I s] w fun e w' => e = .returned (I (addM b s)) ∧ w = w' := by
  cases h1 : isRes b
  · have HF : Hid (addM b s = 0) := by unfold Hid; simp [addM, h1]
    have H1 := Lib.hid h1; clear h1
    go_enter Try.func180, Try.ntmps180
    go_wp2_with (first | (go_at_call 164; refine (spec_l3Ok _ _).mono ?_; rintro e w' ⟨rfl, rfl⟩; rw [H1.out]))
    go_ret
    exact ⟨ret_int HF.out.symm, rfl⟩
  · cases h2 : isRes s
    · have HF : Hid (addM b s = 0) := by unfold Hid; simp [addM, h2]
      have H1 := Lib.hid h1; clear h1
      have H2 := Lib.hid h2; clear h2
      go_enter Try.func180, Try.ntmps180
      go_wp2_with (first | (go_at_call 164; refine (spec_l3Ok _ _).mono ?_; rintro e w' ⟨rfl, rfl⟩; first | rw [H1.out] | rw [H2.out]))
      go_ret
      exact ⟨ret_int HF.out.symm, rfl⟩
    · obtain ⟨b0, b1⟩ := isRes_iff.1 h1
      obtain ⟨s0, s1⟩ := isRes_iff.1 h2
      have HF := Lib.hid (addM_res h1 h2)
      have H1 := Lib.hid h1; clear h1
      have H2 := Lib.hid h2; clear h2
      go_enter Try.func180, Try.ntmps180
      go_wp2_with (first | (go_at_call 164; refine (spec_l3Ok _ _).mono ?_; rintro e w' ⟨rfl, rfl⟩; first | rw [H1.out] | rw [H2.out]))
      go_ret
      exact ⟨ret_int HF.out.symm, rfl⟩
set_option maxRecDepth 100000 in
set_option maxHeartbeats 1000000 in
theorem impl_Digest (v : Value) (l : List Int) (w : World) (h : IntS w.heap.size w v l) : Calls Try.prog 177 #[v] w fun e w' => e = .returned (I (digest l)) ∧ w = w' := by
  obtain ⟨A, n, c, rfl, hl, hn, hm, -⟩ := id h
  have H := Lib.hid h; have HL := Lib.hid hl; clear h hl
  unfold maxLen at hm
  go_enter Try.func177, Try.ntmps177
  go_wp2
  go_loop [3,8] (fun d i => ∃ (k : Nat) (z : Int), k ≤ n ∧ i = I k ∧ d = I z ∧ z = (l.take k).foldl dig1 7 ∧ 0 ≤ z ∧ z < 2147483647) (fun _ i => n - (intOf i).toNat)
  case atStart => exact ⟨0, 7, by omega, rfl, rfl, by simp, by omega, by omega⟩
  case round =>
    obtain ⟨k, z, hk, rfl, rfl, hz, h0, h1⟩ := hrel
    have HZ := Lib.hid hz; clear hz
    by_cases hlt : k < n
    · obtain ⟨b, off, rfl, hb, hkl, hc⟩ := H.out.at_ hlt
      have HX := Lib.hid (foldl_snoc dig1 7 l k hkl)
      have hc : w.cell? ⟨b, off + k, none⟩ = some (I l[k]) := hc
      generalize l[k] = x at *
      have hx0 : 0 ≤ x % 2147483647 := by omega
      have hx1 : x % 2147483647 < 2147483647 := by omega
      go_wp2_with (first | (go_at_call 201; refine (impl_Mod _ _ _ (by omega) (by omega)).mono ?_; rintro e w' ⟨rfl, rfl⟩))
      go_round
      case rel => exact ⟨k + 1, dig1 z x, by omega, by go_num, rfl, by rw [HX.out, HZ.out], by unfold dig1; omega, by unfold dig1; omega⟩
      case measure => simp [intOf]; omega
    · go_wp2
      go_ret
      exact ⟨ret_int (by rw [HZ.out, List.take_of_length_le (by rw [HL.out]; omega)]; rfl), rfl⟩
set_option maxRecDepth 100000 in
set_option maxHeartbeats 1000000 in
theorem spec_Digest (v : Value) (l : List Int) (w : World) (h : IntS w.heap.size w v l) : Calls Try.prog 168 #[v] w fun e w' => e = .returned (I (digest l)) ∧ w = w' := by
  obtain ⟨A, n, c, rfl, hl, hn, hm, -⟩ := id h
  have H := Lib.hid h; have HL := Lib.hid hl; clear h hl
  unfold maxLen at hm
  go_enter Try.func168, Try.ntmps168
  go_wp2
  go_loop [3,4] (fun d i => ∃ (k : Nat) (z : Int), k ≤ n ∧ i = I k ∧ d = I z ∧ z = (l.take k).foldl dig1 7 ∧ 0 ≤ z ∧ z < 2147483647) (fun _ i => n - (intOf i).toNat)
  case atStart => exact ⟨0, 7, by omega, rfl, rfl, by simp, by omega, by omega⟩
  case round =>
    obtain ⟨k, z, hk, rfl, rfl, hz, h0, h1⟩ := hrel
    have HZ := Lib.hid hz; clear hz
    by_cases hlt : k < n
    · obtain ⟨b, off, rfl, hb, hkl, hc⟩ := H.out.at_ hlt
      have HX := Lib.hid (foldl_snoc dig1 7 l k hkl)
      have hc : w.cell? ⟨b, off + k, none⟩ = some (I l[k]) := hc
      generalize l[k] = x at *
      have hx0 : 0 ≤ x % 2147483647 := by omega
      have hx1 : x % 2147483647 < 2147483647 := by omega
      go_wp2_with (first | (go_at_call 195; refine (spec_Mod _ _ _ (by omega) (by omega)).mono ?_; rintro e w' ⟨rfl, rfl⟩))
      go_round
      case rel => exact ⟨k + 1, dig1 z x, by omega, by go_num, rfl, by rw [HX.out, HZ.out], by unfold dig1; omega, by unfold dig1; omega⟩
      case measure => simp [intOf]; omega
    · go_wp2
      go_ret
      exact ⟨ret_int (by rw [HZ.out, List.take_of_length_le (by rw [HL.out]; omega)]; rfl), rfl⟩
set_option maxRecDepth 100000 in
set_option maxHeartbeats 1000000 in
theorem impl_ComputeMAC (key : Int) (v : Value) (l : List Int) (w : World) (h : IntS w.heap.size w v l) (hl : l.length ≤ 1000000000) :
    Calls Try.prog 126 #[I key, v] w fun e w' => e = .returned (I (mac key l)) ∧ Ext w w' := by
  obtain ⟨A, n, c, rfl, hl1, hn, hm, -⟩ := id h
  subst hl1
  have H := Lib.hid h; clear h
  unfold maxLen at hm
  go_enter Try.func126, Try.ntmps126
  go_wp2_with (at_builtin; refine hold ?_)
  refine unhold (wpList_app w rfl (.tmp 6) (.tmp 7) _ rfl 3 (.int .i64 0) 1 8 Try.underlying38 info_int rfl (by omega) _ 1 [I key] rfl A l.length c (l.map I) rfl
    (own_new w 3 1 _ [I key] rfl (Nat.le_refl _)) (by exact row_ints (H.out.ext (by repeat (first | (with_reducible exact Ext.refl _) | (with_reducible assumption) | (with_reducible refine Ext.alloc ?_ _) | (with_reducible refine Ext.drew ?_) | (with_reducible refine Ext.drewN ?_ _) | (with_reducible refine Ext.setCell (p := _) ?_ ?ge _; case ge => (dsimp only; omega)) | (with_reducible refine Ext.trans ?_ (by with_reducible assumption)))))) (one_ints l) (by repeat (first | (with_reducible exact Ext.refl _) | (with_reducible assumption) | (with_reducible refine Ext.alloc ?_ _) | (with_reducible refine Ext.drew ?_) | (with_reducible refine Ext.drewN ?_ _) | (with_reducible refine Ext.setCell (p := _) ?_ ?ge _; case ge => (dsimp only; omega)) | (with_reducible refine Ext.trans ?_ (by with_reducible assumption)))) (by unfold maxLen; omega) (by omega) ?_)
  intro v1 w1 ho1 he1 _ _
  have O1 := Lib.hid ho1; clear ho1
  go_wp2_with (at_builtin; refine hold ?_)
  refine unhold (wpList_app w rfl (.tmp 8) (.tmp 10) _ rfl 3 (.int .i64 0) 1 8 Try.underlying38 info_int rfl (by omega) v1 (1 + l.length) ([I key] ++ l.map I) rfl _ 1 1 [I key] rfl
    (by exact (O1.out.alloc _).lt_size) (row_new w1 3 1 [I key] rfl) (one_ints [key]) (by repeat (first | (with_reducible exact Ext.refl _) | (with_reducible assumption) | (with_reducible refine Ext.alloc ?_ _) | (with_reducible refine Ext.drew ?_) | (with_reducible refine Ext.drewN ?_ _) | (with_reducible refine Ext.setCell (p := _) ?_ ?ge _; case ge => (dsimp only; omega)) | (with_reducible refine Ext.trans ?_ (by with_reducible assumption)))) (by unfold maxLen; omega) (by omega) ?_)
  intro v2 w2 ho2 he2 _ _
  have O2 := Lib.hid ho2; clear ho2
  go_wp2_with (at_builtin; refine hold ?_)
  refine (impl_Digest v2 ([key] ++ l ++ [key]) w2 (Own.ints (by simpa using O2.out))).mono ?_
  rintro e w' ⟨rfl, rfl⟩
  go_wp2
  go_ret
  exact ⟨rfl, he2⟩
set_option maxRecDepth 100000 in
set_option maxHeartbeats 1000000 in
theorem spec_ComputeMAC (key : Int) (v : Value) (l : List Int) (w : World) (h : IntS w.heap.size w v l) (hl : l.length ≤ 1000000000) :
    Calls Try.prog 120 #[I key, v] w fun e w' => e = .returned (I (mac key l)) ∧ Ext w w' := by
  obtain ⟨A, n, c, rfl, hl1, hn, hm, -⟩ := id h
  subst hl1
  have H := Lib.hid h; clear h
  unfold maxLen at hm
  go_enter Try.func120, Try.ntmps120
  go_wp2_with (at_builtin; refine hold ?_)
  refine unhold (wpList_app w rfl (.tmp 6) (.tmp 7) _ rfl 3 (.int .i64 0) 1 8 Try.underlying38 info_int rfl (by omega) _ 1 [I key] rfl A l.length c (l.map I) rfl
    (own_new w 3 1 _ [I key] rfl (Nat.le_refl _)) (by exact row_ints (H.out.ext (by repeat (first | (with_reducible exact Ext.refl _) | (with_reducible assumption) | (with_reducible refine Ext.alloc ?_ _) | (with_reducible refine Ext.drew ?_) | (with_reducible refine Ext.drewN ?_ _) | (with_reducible refine Ext.setCell (p := _) ?_ ?ge _; case ge => (dsimp only; omega)) | (with_reducible refine Ext.trans ?_ (by with_reducible assumption)))))) (one_ints l) (by repeat (first | (with_reducible exact Ext.refl _) | (with_reducible assumption) | (with_reducible refine Ext.alloc ?_ _) | (with_reducible refine Ext.drew ?_) | (with_reducible refine Ext.drewN ?_ _) | (with_reducible refine Ext.setCell (p := _) ?_ ?ge _; case ge => (dsimp only; omega)) | (with_reducible refine Ext.trans ?_ (by with_reducible assumption)))) (by unfold maxLen; omega) (by omega) ?_)
  intro v1 w1 ho1 he1 _ _
  have O1 := Lib.hid ho1; clear ho1
  go_wp2_with (at_builtin; refine hold ?_)
  refine unhold (wpList_app w rfl (.tmp 8) (.tmp 10) _ rfl 3 (.int .i64 0) 1 8 Try.underlying38 info_int rfl (by omega) v1 (1 + l.length) ([I key] ++ l.map I) rfl _ 1 1 [I key] rfl
    (by exact (O1.out.alloc _).lt_size) (row_new w1 3 1 [I key] rfl) (one_ints [key]) (by repeat (first | (with_reducible exact Ext.refl _) | (with_reducible assumption) | (with_reducible refine Ext.alloc ?_ _) | (with_reducible refine Ext.drew ?_) | (with_reducible refine Ext.drewN ?_ _) | (with_reducible refine Ext.setCell (p := _) ?_ ?ge _; case ge => (dsimp only; omega)) | (with_reducible refine Ext.trans ?_ (by with_reducible assumption)))) (by unfold maxLen; omega) (by omega) ?_)
  intro v2 w2 ho2 he2 _ _
  have O2 := Lib.hid ho2; clear ho2
  go_wp2_with (at_builtin; refine hold ?_)
  refine (spec_Digest v2 ([key] ++ l ++ [key]) w2 (Own.ints (by simpa using O2.out))).mono ?_
  rintro e w' ⟨rfl, rfl⟩
  go_wp2
  go_ret
  exact ⟨rfl, he2⟩
end Go.Proofs.Ytcalbcjheenmgaa
