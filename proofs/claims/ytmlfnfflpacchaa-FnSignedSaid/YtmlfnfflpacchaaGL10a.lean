/- Contracts of the program's and the reference's functions on hops and segments: ValidHop, HopMAC, VerifyHop, ChainAdd, BetaAt, FirstInvalidHop, IsTerminated, SegmentExpiry. -/
import Derived.Test.YtmlfnfflpacchaaGL5
import Derived.Test.YtmlfnfflpacchaaGL9
namespace Go.Proofs.Ytmlfnfflpacchaa
open Go.RowKit
set_option linter.unusedVariables false
def validHop (h : DHop) : Bool := inR h.asn 0 7 && (inR h.ing 0 6 && (inR h.egr 0 6 && ((h.ing != h.egr) && (inR h.exp 0 1000000 && isRes h.mac))))
def hopMac (key ts beta : Int) (h : DHop) : Int := mac key [ts, beta, h.asn, h.ing, h.egr, h.exp]
def verifyHop (t : DTopology) (ts beta : Int) (h : DHop) : Bool := validHop h && (isAs t h.asn && h.mac == hopMac (asAt t h.asn).key ts beta h)
def chainAdd (b : Int) (l : List Int) : Int := l.foldl addM b
def macs (l : List DHop) : List Int := l.map fun h => h.mac
def betaAt (s : DSegment) (i : Int) : Int := if inR i 0 s.hops.length then chainAdd s.beta (macs (s.hops.take i.toNat)) else 0
theorem macs_snoc (l : List DHop) (k : Nat) (h : k < l.length) : macs (l.take (k + 1)) = macs (l.take k) ++ [l[k].mac] := by unfold macs; rw [take_snoc l k h, List.map_append]; rfl
theorem macs_len (l : List DHop) : (macs l).length = l.length := by simp [macs]
theorem Sl.take {α : Type} {At : Nat → World → Nat → Nat → α → Prop} {pos : Nat → Nat} {B : Nat} {w : World} {A : Option Addr} {n c k : Nat} {ds : List α} (h : Sl At pos B w (.slice A n c) ds) (hk : k ≤ n) : Sl At pos B w (.slice A k c) (ds.take k) := by
  obtain ⟨A', n', c', e, hl, hn, hc, hr⟩ := h
  cases e
  refine ⟨_, _, _, rfl, by rw [List.length_take, hl]; omega, by omega, hc, fun h0 => ?_⟩
  obtain ⟨b, off, e, hb, hat⟩ := hr (by omega)
  refine ⟨b, off, e, hb, fun j hj => ?_⟩
  rw [List.getElem_take]
  exact hat j (by rw [List.length_take] at hj; omega)
set_option maxRecDepth 100000 in
set_option maxHeartbeats 1000000 in
theorem spec_HopMAC (key ts beta : Int) (h : DHop) (w : World) : Calls Try.prog 159 #[I key, I ts, I beta, .agg #[I h.asn, I h.ing, I h.egr, I h.exp, I h.mac]] w fun e w' => e = .returned (I (hopMac key ts beta h)) ∧ Ext w w' := by
  go_enter Try.func159, Try.ntmps159
  go_wp2_with fail
  refine (spec_ComputeMAC _ _ [ts, beta, h.asn, h.ing, h.egr, h.exp] _ (by exact Own.ints (E := 3) (n := 6) (lo := 0) (own_newN _ _ _ _ _ _ _ (by simp) (by simp) (by unfold maxLen; omega) (Nat.zero_le _))) (by simp)).mono ?_
  rintro e w1 ⟨rfl, e1⟩
  go_wp2_with fail
  go_ret
  exact ⟨rfl, xe⟩
set_option maxRecDepth 100000 in
set_option maxHeartbeats 1000000 in
theorem spec_ChainAdd (b : Int) (v : Value) (l : List Int) (w : World) (h : IntS w.heap.size w v l) : Calls Try.prog 160 #[I b, v] w fun e w' => e = .returned (I (chainAdd b l)) ∧ w = w' := by
  obtain ⟨A, n, c, rfl, hl, hn, hm, -⟩ := id h
  have H := Lib.hid h; have HL := Lib.hid hl; clear h hl
  unfold maxLen at hm
  go_enter Try.func160, Try.ntmps160
  go_wp2
  go_loop [0,5] (fun d i => ∃ k : Nat, k ≤ n ∧ i = I k ∧ d = I ((l.take k).foldl addM b)) (fun _ i => n - (intOf i).toNat)
  case atStart => exact ⟨0, by omega, rfl, by simp⟩
  case round =>
    obtain ⟨k, hk, rfl, rfl⟩ := hrel
    by_cases hlt : k < n
    · obtain ⟨bb, off, rfl, hb, hkl, hc⟩ := H.out.at_ hlt
      have HX := Lib.hid (foldl_snoc addM b l k hkl)
      have hc : w.cell? ⟨bb, off + k, none⟩ = some (I l[k]) := hc
      generalize l[k] = x at *
      generalize (l.take k).foldl addM b = z at *
      go_wp2_with (first | (go_at_call 163; refine (spec_AddMod _ _ _).mono ?_; rintro e w' ⟨rfl, rfl⟩))
      go_round
      case rel => exact ⟨k + 1, by omega, by go_num, by rw [HX.out]⟩
      case measure => simp [intOf]; omega
    · go_wp2
      go_ret
      exact ⟨ret_int (by rw [List.take_of_length_le (by rw [HL.out]; omega)]; rfl), rfl⟩
set_option maxRecDepth 100000 in
set_option maxHeartbeats 1000000 in
theorem spec_l9Seals (vs : Value) (i : Int) (s : DSegment) (w : World) (hs : SegmentV w.heap.size w vs s) (hi0 : 0 ≤ i) (hi1 : i ≤ s.hops.length) (hn : s.hops.length ≤ 100000000) :
    Calls Try.prog 161 #[vs, I i] w fun e w' => ∃ v', e = .returned v' ∧ IntSO w.heap.size w'.heap.size w' v' (macs (s.hops.take i.toNat)) ∧ Ext w w' := by
  obtain ⟨m, rfl⟩ := Int.eq_ofNat_of_zero_le hi0
  rw [Int.toNat_natCast]
  obtain ⟨As_2, ns_2, cs_2, rfl, ss_2⟩ := id hs
  obtain ⟨ls_2, ks_2, ms_2⟩ := ss_2.len
  subst ls_2
  unfold maxLen at ms_2
  have Rs := Lib.hid hs; clear hs
  have Ss_2 := Lib.hid ss_2; clear ss_2
  go_enter Try.func161, Try.ntmps161
  go_wp2_with fail
  refine name_wp (fun W => ∃ wb, Ext w wb ∧ Blk wb w.heap.size 55 [I s.ts, I s.beta, .slice As_2 s.hops.length cs_2] ∧ Ext wb W ∧ IntSO wb.heap.size W.heap.size W (.slice (some ⟨w.heap.size + 1, 0, none⟩) 0 0) []) ⟨_, (Ext.refl _).alloc _, Blk.new _ _ _, (Ext.refl _).alloc _, own_zero' _ _ _ _ _ (by simp) (Nat.le_refl _)⟩ ?_
  rintro wz ⟨w0, ew0, bs, ez, hz⟩
  have Bs := Lib.hid bs; clear bs
  have HZ := Lib.hid hz; clear hz
  go_loopw [5, 6] (fun v i wr => ∃ k : Nat, k ≤ m ∧ i = I k ∧ IntSO w0.heap.size wr.heap.size wr v (macs (s.hops.take k)) ∧ Ext w0 wr) (fun _ i _ => m - (intOf i).toNat)
  case atStart => exact ⟨0, by omega, rfl, HZ.out, ez⟩
  case round =>
    obtain ⟨k, hk, rfl, ho, he⟩ := hrel
    have HO := Lib.hid ho; clear ho
    have bs := Bs.out.ext (w' := wr) xe
    have ls := bs.lt
    obtain ⟨ps_0, ps_1, ps_2⟩ := blk3 bs
    clear bs
    by_cases hlt : k < m
    · have hkh : k < s.hops.length := by omega
      obtain ⟨b, off, rfl, hb, hkl, hc⟩ := (Ss_2.out.ext (w' := wr) xe).at_ hkh
      have HX := Lib.hid (macs_snoc s.hops k hkl)
      have hml : (macs (s.hops.take k)).length ≤ k := by rw [macs_len, List.length_take]; omega
      generalize s.hops[k] = x at *
      generalize macs (s.hops.take k) = sl at *
      obtain ⟨h0, h1, h2, h3, h4⟩ := hc
      have i0 : (0 : Int) ≤ (k : Int) := by omega
      have i1 : (k : Int) < (s.hops.length : Int) := by omega
      go_wp2_with (at_builtin; refine hold ?_)
      refine unhold (wpList_app w0 rfl (.tmp 13) (.tmp 20) _ rfl 3 (.int .i64 0) 1 8 Try.underlying38 info_int rfl (by omega) _ sl.length (sl.map I) rfl _ 1 1 [I x.mac] rfl
        (by exact (HO.out.alloc _).lt_size) (row_newN _ _ _ _ _ _ (by first | rfl | simp) rfl) (one_ints [x.mac]) xe (by unfold maxLen; omega) (by omega) ?_)
      intro v1 w1 ho1 he1 _ _
      have O1 := Lib.hid ho1; clear ho1
      go_wp2_with (at_builtin; refine hold ?_)
      go_roundw
      case rel => exact ⟨k + 1, by omega, by go_num, by rw [HX.out]; unfold IntSO; simpa using O1.out, he1⟩
      case measure => simp [intOf]; omega
    · obtain rfl : k = m := by omega
      go_wp2_with fail
      go_ret
      exact ⟨_, rfl, Own.more HO.out ew0.size (Nat.le_refl _), xe⟩
end Go.Proofs.Ytmlfnfflpacchaa
namespace Go.Proofs.Ytmlfnfflpacchaa
open Go.RowKit
set_option linter.unusedVariables false
set_option maxRecDepth 100000 in
set_option maxHeartbeats 1000000 in
theorem spec_BetaAt (vs : Value) (i : Int) (s : DSegment) (w : World) (hs : SegmentV w.heap.size w vs s) (hn : s.hops.length ≤ 100000000) :
    Calls Try.prog 155 #[vs, I i] w fun e w' => e = .returned (I (betaAt s i)) ∧ Ext w w' := by
  obtain ⟨As_2, ns_2, cs_2, rfl, ss_2⟩ := id hs
  obtain ⟨ls_2, ks_2, ms_2⟩ := ss_2.len
  subst ls_2
  unfold maxLen at ms_2
  have Rs := Lib.hid hs; clear hs
  have Ss_2 := Lib.hid ss_2; clear ss_2
  cases hv : inR i 0 s.hops.length
  · have HF : Hid (betaAt s i = 0) := by unfold Hid betaAt; rw [hv]; rfl
    go_enter Try.func155, Try.ntmps155
    go_wp2_with fail
    refine (spec_l1In _ _ _ _).mono ?_
    rintro e w1 ⟨rfl, rfl⟩
    rw [hv]
    go_wp2_with fail
    go_ret
    exact ⟨ret_int HF.out.symm, xe⟩
  · obtain ⟨i0, i1⟩ := inR_iff.1 hv
    have HF : Hid (betaAt s i = chainAdd s.beta (macs (s.hops.take i.toNat))) := by unfold Hid betaAt; rw [hv]; rfl
    have HV := Lib.hid hv; clear hv
    go_enter Try.func155, Try.ntmps155
    go_wp2_with fail
    first | refine name_wp ?_ ?_ ?_ | refine name_calls ?_ ?_ ?_
    exact (fun W => Ext w W ∧ Blk W (w.heap.size) 55 [I s.ts, I s.beta, .slice As_2 s.hops.length cs_2])
    exact ⟨xe, xb⟩
    rintro w0 ⟨ew0, bs⟩
    have ls := bs.lt
    obtain ⟨ps_0, ps_1, ps_2⟩ := blk3 bs
    have Bs := Lib.hid bs; clear bs
    refine (spec_l1In _ _ _ _).mono ?_
    rintro e w1 ⟨rfl, rfl⟩
    rw [HV.out]
    go_wp2_with fail
    refine wp_region_L (E := Ext) (w0 := w0) (G := fun τ => match τ with | 15 => some (fun v W => IntS W.heap.size W v (macs (s.hops.take i.toNat))) | 16 => some (fun v _ => v = I (chainAdd s.beta (macs (s.hops.take i.toNat)))) | _ => none) Ext.refl (fun h k => Ext.trans h k) (by kernel_rfl) (by kernel_rfl) xg (Ext.drew (by exact Ext.refl _)) ?_
    repeat' (first
      | ((with_reducible refine wpL_skip ?_ ?_ ?_)
         · rfl
         · rfl
         simp only [Act.put, List.setIfInBounds_toArray, List.set_cons_zero, List.set_cons_succ])
      | ((with_reducible refine wpL_quiet ?_ ?_ ?_ ?_)
         · rfl
         · rfl
         · rfl
         apply Exists.intro
         refine ⟨fun W hW hS => ?_, ?_⟩
         · have hC := (Ext.facts hW).1
           go_simp
           first | done | (with_reducible rfl) | (rw [if_neg (by omega)]; exact ⟨rfl, rfl⟩) | rfl
         first | (with_reducible refine wpL_boolT ?_) | (with_reducible refine wpL_boolF ?_) | (with_reducible refine wpL_bool (fun hB => ?_) (fun hB => ?_)) | skip
         all_goals simp only [Act.put, List.setIfInBounds_toArray, List.set_cons_zero, List.set_cons_succ])
      | ((refine wpL_call ?_ rfl rfl ?_ ?_ ?_)
         · rfl
         · rfl
         · intro W hW hS
           have hC := (Ext.facts hW).1
           unfold growAt
           go_simp
           simp only [growUpon]
           first | (go_at_call 161; ((with_reducible refine Calls.mono (spec_l9Seals _ _ (s) _ (by exact Rs.out.ext xe) (by first | omega | (simp [rootData]; done) | (simp [certData]; done) | (simp only [List.length_cons, List.length_nil]; omega)) (by first | omega | (simp [rootData]; done) | (simp [certData]; done) | (simp only [List.length_cons, List.length_nil]; omega)) (by first | omega | (simp [rootData]; done) | (simp [certData]; done) | (simp only [List.length_cons, List.length_nil]; omega))) ?_)); rintro e w9 ⟨v9, rfl, o9, e9⟩; exact ⟨_, rfl, e9, IntSO_rd o9⟩) | (go_at_call 160; have hs15 : IntS W.heap.size W _ (macs (s.hops.take i.toNat)) := hS 15 (by decide); ((with_reducible refine Calls.mono (spec_ChainAdd _ _ (macs (s.hops.take i.toNat)) _ (by exact hs15)) ?_)); rintro e w9 ⟨rfl, rfl⟩; exact ⟨_, rfl, Ext.refl _, by first | rfl | (simp only [*])⟩)
         first | (with_reducible refine wpL_boolT ?_) | (with_reducible refine wpL_boolF ?_) | (with_reducible refine wpL_bool (fun hB => ?_) (fun hB => ?_)) | skip
         all_goals simp only [Act.put, List.setIfInBounds_toArray, List.set_cons_zero, List.set_cons_succ])
      | ((refine wpL_grow ?_ rfl rfl ?_ ?_)
         · rfl
         · intro W hW hS
           have hC := (Ext.facts hW).1
           unfold growAt
           go_simp
           simp only [growUpon]
           first | (go_at_call 161; ((with_reducible refine Calls.mono (spec_l9Seals _ _ (s) _ (by exact Rs.out.ext xe) (by first | omega | (simp [rootData]; done) | (simp [certData]; done) | (simp only [List.length_cons, List.length_nil]; omega)) (by first | omega | (simp [rootData]; done) | (simp [certData]; done) | (simp only [List.length_cons, List.length_nil]; omega)) (by first | omega | (simp [rootData]; done) | (simp [certData]; done) | (simp only [List.length_cons, List.length_nil]; omega))) ?_)); rintro e w9 ⟨v9, rfl, o9, e9⟩; exact ⟨_, rfl, e9, IntSO_rd o9⟩) | (go_at_call 160; have hs15 : IntS W.heap.size W _ (macs (s.hops.take i.toNat)) := hS 15 (by decide); ((with_reducible refine Calls.mono (spec_ChainAdd _ _ (macs (s.hops.take i.toNat)) _ (by exact hs15)) ?_)); rintro e w9 ⟨rfl, rfl⟩; exact ⟨_, rfl, Ext.refl _, by first | rfl | (simp only [*])⟩)
         intro v W' hW' hv
         first  | (obtain ⟨A5, n5, c5, rfl, -⟩ := id hv; clear hv) | (obtain ⟨A5, n5, c5, rfl⟩ := NO.slice hv) | skip
         all_goals simp only [Act.put, List.setIfInBounds_toArray, List.set_cons_zero, List.set_cons_succ]))
    refine wpL_nil (fun w2 e2 hL => ?_)
    clear hL
    go_wp2_with fail
    go_ret
    exact ⟨ret_int HF.out.symm, xe⟩
def badHop (t : DTopology) (s : DSegment) (k : Nat) : Bool := !verifyHop t s.ts (betaAt s k) (s.hops.getD k dHop)
def firstInv (t : DTopology) (s : DSegment) : Int := fstIx (badHop t s) s.hops.length
theorem badHop_at {t : DTopology} {s : DSegment} {k : Nat} (h : k < s.hops.length) : badHop t s k = !verifyHop t s.ts (betaAt s k) s.hops[k] := by unfold badHop; rw [getD_is h]
def isTerm (s : DSegment) : Bool := decide (0 < s.hops.length) && (s.hops.getD (s.hops.length - 1) dHop).egr == 0
/-- The least expiry of the first k hops. -/
def leastTo (l : List DHop) : Nat → Int
  | 0 => 0
  | k + 1 => if k = 0 then (l.getD 0 dHop).exp else if (l.getD k dHop).exp < leastTo l k then (l.getD k dHop).exp else leastTo l k
theorem leastTo_one (l : List DHop) : leastTo l 1 = (l.getD 0 dHop).exp := rfl
theorem leastTo_lt {l : List DHop} {k : Nat} (h : 0 < k) (hx : (l.getD k dHop).exp < leastTo l k) : leastTo l (k + 1) = (l.getD k dHop).exp := by rw [leastTo, if_neg (by omega), if_pos hx]
theorem leastTo_ge {l : List DHop} {k : Nat} (h : 0 < k) (hx : ¬ (l.getD k dHop).exp < leastTo l k) : leastTo l (k + 1) = leastTo l k := by rw [leastTo, if_neg (by omega), if_neg hx]
def segExp (s : DSegment) : Int := leastTo s.hops s.hops.length
def minI (a b : Int) : Int := if b < a then b else a
set_option maxRecDepth 100000 in
set_option maxHeartbeats 1000000 in
theorem spec_Min (a b : Int) (w : World) : Calls Try.prog 131 #[I a, I b] w fun e w' => e = .returned (I (minI a b)) ∧ w = w' := by
  by_cases h : b < a
  · have HF : Hid (minI a b = b) := by unfold Hid minI; rw [if_pos h]
    go_enter Try.func131, Try.ntmps131
    go_wp2
    go_ret
    exact ⟨ret_int HF.out.symm, rfl⟩
  · have HF : Hid (minI a b = a) := by unfold Hid minI; rw [if_neg h]
    go_enter Try.func131, Try.ntmps131
    go_wp2
    go_ret
    exact ⟨ret_int HF.out.symm, rfl⟩
end Go.Proofs.Ytmlfnfflpacchaa
