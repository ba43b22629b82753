/- The plain law of FnRoundsOf: a round of beaconing keeps valid stores, and no store becomes shorter. No program in sight. -/
import Derived.Test.YtfpfgifjigenaaaGreatL15d
import Derived.Test.YtfpfgifjigenaaaGreatL15c
import Derived.Test.YtfpfgifjigenaaaGreatGL14
import Derived.Test.YtfpfgifjigenaaaGreatGL5d
namespace Go.Proofs.YtfpfgifjigenaaaGreat
theorem runRound_small {t : DTopology} {l : List DPolicy} {b : DBeaconing} (h : Small b.stores) : Small (runRound t l b).stores := by
 unfold runRound delB;dsimp only;split
 · exact delFold_small _ _ h
 · exact h
theorem newBeac_small (t : DTopology) (ts : Int) : Small (newBeac t ts).stores := runTo_small t [] ts 0
end Go.Proofs.YtfpfgifjigenaaaGreat
namespace Go.Proofs.YtfpfgifjigenaaaGreat
open Go.RowKit
set_option linter.unusedVariables false
theorem linkOk_parts {t : DTopology} {l : DLink} (h : linkOk t l = true) : isAs t l.a = true ∧ isAs t l.b = true ∧ l.a < l.b ∧ (1 ≤ l.ai ∧ l.ai ≤ 6) ∧ (1 ≤ l.bi ∧ l.bi ≤ 6) ∧ kindOk (asAt t l.a) (asAt t l.b) l.kind = true := by
 unfold linkOk at h;simp only [Bool.and_eq_true, decide_eq_true_eq] at h;exact ⟨h.1, h.2.1, h.2.2.1, inR_iff.1 h.2.2.2.1, inR_iff.1 h.2.2.2.2.1, h.2.2.2.2.2⟩
def TopOk (t : DTopology) : Prop := t.ases.length ≤ 8 ∧ ∀ k, k < t.links.length → linkOk t (t.links.getD k dLink) = true
theorem validTop_ok {t : DTopology} (h : validTop t = true) : TopOk t := by
 unfold validTop at h;simp only [Bool.and_eq_true, List.all_eq_true] at h;refine ⟨by have := (inR_iff.1 h.1).2; omega, fun k hk => ?_⟩;have h2 := h.2.2 k (List.mem_range.2 hk);unfold linkFine at h2;rw [Bool.and_eq_true] at h2;exact h2.1
theorem isAs_iff {t : DTopology} {r : Int} : isAs t r = true ↔ 0 ≤ r ∧ r ≤ (t.ases.length : Int) - 1 := inR_iff
theorem linkIdx_cases (t : DTopology) (a i : Int) : (linkIdx t a i = -1 ∧ ∀ j, j < t.links.length → usesIf (t.links.getD j dLink) a i = false) ∨ ∃ k, k < t.links.length ∧ linkIdx t a i = k ∧ usesIf (t.links.getD k dLink) a i = true := fstIx_cases _ _
theorem rem_cases {t : DTopology} (hv : TopOk t) (a i : Int) : (linkIdx t a i = -1 ∧ remEnd t a i = (-1, 0)) ∨ ∃ k, k < t.links.length ∧ linkIdx t a i = k ∧ linkOk t (t.links.getD k dLink) = true ∧
 (((t.links.getD k dLink).a = a ∧ (t.links.getD k dLink).ai = i ∧ remEnd t a i = ((t.links.getD k dLink).b, (t.links.getD k dLink).bi)) ∨ ((t.links.getD k dLink).b = a ∧ (t.links.getD k dLink).bi = i ∧ atA (t.links.getD k dLink) a i = false ∧ remEnd t a i = ((t.links.getD k dLink).a, (t.links.getD k dLink).ai))) := by
 rcases linkIdx_cases t a i with ⟨h, -⟩ | ⟨k, hk, he, hu⟩
 · exact .inl ⟨h, by unfold remEnd; rw [if_pos (by omega)]⟩
 · refine .inr ⟨k, hk, he, hv.2 k hk, ?_⟩
   have e : remEnd t a i = if atA (t.links.getD k dLink) a i then ((t.links.getD k dLink).b, (t.links.getD k dLink).bi) else ((t.links.getD k dLink).a, (t.links.getD k dLink).ai) := by
    unfold remEnd;rw [if_neg (by omega), he];rfl
   rw [e];cases ha : atA (t.links.getD k dLink) a i
   · right
     unfold usesIf at hu;unfold atA at ha;rw [ha, Bool.false_or, Bool.and_eq_true, beq_iff_eq, beq_iff_eq] at hu;exact ⟨hu.1, hu.2, rfl, rfl⟩
   · left
     unfold atA at ha;rw [Bool.and_eq_true, beq_iff_eq, beq_iff_eq] at ha;exact ⟨ha.1, ha.2, rfl⟩
theorem rem_ok {t : DTopology} (hv : TopOk t) {a i : Int} (h : 0 ≤ linkIdx t a i) : isAs t (remEnd t a i).1 = true ∧ (remEnd t a i).1 ≠ a ∧ 1 ≤ (remEnd t a i).2 ∧ (remEnd t a i).2 ≤ 6 := by
 rcases rem_cases hv a i with ⟨h1, -⟩ | ⟨k, hk, -, hl, h1⟩
 · omega
 · obtain ⟨la, lb, lab, li, lj, -⟩ := linkOk_parts hl
   rcases h1 with ⟨ea, ei, e⟩ | ⟨eb, ei, -, e⟩
   · rw [e]; exact ⟨lb, by dsimp only; omega, lj.1, lj.2⟩
   · rw [e]; exact ⟨la, by dsimp only; omega, li.1, li.2⟩
theorem rem_as {t : DTopology} {a i : Int} (h : isAs t (remEnd t a i).1 = true) : 0 ≤ linkIdx t a i := by
 rcases Int.lt_or_le (linkIdx t a i) 0 with h0 | h0
 · exfalso
   unfold remEnd at h;rw [if_pos h0] at h;have := (isAs_iff.1 h).1;dsimp only at this;omega
 · exact h0
theorem ifKind_idx {t : DTopology} {r i : Int} (hi : i ≠ 0) (h : ifKind t r i ≠ 0) : 0 ≤ linkIdx t r i := by
 unfold ifKind at h;rw [if_neg hi] at h
 rcases Int.lt_or_le (linkIdx t r i) 0 with h0 | h0
 · rw [if_pos h0] at h; exact absurd rfl h
 · exact h0
theorem mac_res (key : Int) (l : List Int) : isRes (mac key l) = true := by
 have h := dig_bounds ([key] ++ l ++ [key]) 7 (by omega);exact isRes_iff.2 (by unfold mac digest; omega)
theorem dPolicy_valid : validPol dPolicy = true := by decide
theorem polFor_valid (l : List DPolicy) (r : Int) : validPol (polFor l r) = true := by
 unfold polFor;split
 · rename_i h
   rw [Bool.and_eq_true] at h;exact h.2
 · exact dPolicy_valid
theorem validPol_parts {p : DPolicy} (h : validPol p = true) : 1 ≤ p.maxLen ∧ p.maxLen ≤ 8 ∧ validSet p.denied = true ∧ validSet p.closed = true ∧ 1 ≤ p.life ∧ p.life ≤ 1000 := by
 unfold validPol at h;simp only [Bool.and_eq_true] at h;have h1 := inR_iff.1 h.1;have h2 := inR_iff.1 h.2.2.2;exact ⟨h1.1, h1.2, h.2.1, h.2.2.1, h2.1, h2.2⟩
theorem expFor_range {p : DPolicy} {ts : Int} (hp : validPol p = true) (h0 : 0 ≤ ts) (h1 : ts ≤ 1000000) : ts ≤ expFor p ts ∧ 0 ≤ expFor p ts ∧ expFor p ts ≤ 1000000 ∧ expFor p ts ≤ ts + p.life := by
 obtain ⟨-, -, -, -, h2, h3⟩ := validPol_parts hp;have e : wrap64 (ts + p.life) = ts + p.life := IntWalk.wrap64_in _ (by omega);unfold expFor minI;rw [e];split <;> omega
theorem getD_snoc_lt {l : List DHop} {n : DHop} {k : Nat} (h : k < l.length) : (l ++ [n]).getD k dHop = l.getD k dHop := by
 simp [List.getD_eq_getElem?_getD, List.getElem?_append_left h]
theorem getD_snoc_last (l : List DHop) (n : DHop) : (l ++ [n]).getD l.length dHop = n := by
 simp [List.getD_eq_getElem?_getD]
theorem betaAt_snoc {ts be : Int} {l : List DHop} {n : DHop} {k : Nat} (h : k ≤ l.length) : betaAt ⟨ts, be, l ++ [n]⟩ k = betaAt ⟨ts, be, l⟩ k := by
 unfold betaAt;have h1 : inR (k : Int) 0 ((⟨ts, be, l ++ [n]⟩ : DSegment).hops.length) = true := inR_iff.2 ⟨by omega, by simp; omega⟩;have h2 : inR (k : Int) 0 ((⟨ts, be, l⟩ : DSegment).hops.length) = true := inR_iff.2 ⟨by omega, by simp; omega⟩;rw [h1, h2, if_pos rfl, if_pos rfl];dsimp only;rw [List.take_append_of_le_length (by simpa using h)]
theorem hasI_ases {l : List DHop} {r : Int} : hasI (ases l) r = false ↔ ∀ h ∈ l, h.asn ≠ r := by
 unfold hasI ases;rw [List.any_eq_false];constructor
 · intro h x hx e
   exact absurd (h x.asn (List.mem_map.2 ⟨x, hx, rfl⟩)) (by simp [e])
 · intro h x hx
   obtain ⟨y, hy, rfl⟩ := List.mem_map.1 hx
   simpa using h y hy
theorem dupAt_snoc {l : List DHop} {n : DHop} {k : Nat} (h : k < l.length) : dupAt (l ++ [n]) k = dupAt l k := by
 unfold dupAt
 have e : ∀ j ∈ List.range k, ((l ++ [n]).getD j dHop).asn = (l.getD j dHop).asn := fun j hj => by rw [getD_snoc_lt (by have := List.mem_range.1 hj; omega)]
 rw [getD_snoc_lt h];rw [Bool.eq_iff_iff, List.any_eq_true, List.any_eq_true];constructor
 · rintro ⟨j, hj, hh⟩
   exact ⟨j, hj, by rw [e j hj] at hh; exact hh⟩
 · rintro ⟨j, hj, hh⟩
   exact ⟨j, hj, by rw [e j hj]; exact hh⟩
theorem getD_mem {l : List DHop} {k : Nat} (h : k < l.length) : l.getD k dHop ∈ l := by
 have e : l.getD k dHop = l[k] := by simp [List.getD_eq_getElem?_getD, h]
 rw [e];exact List.getElem_mem h
structure VSeg (t : DTopology) (s : DSegment) : Prop where
 pos : 0 < s.hops.length
 len : s.hops.length ≤ 8
 hop : ∀ k, k < s.hops.length → hopFine t s.hops k = true
 ing0 : (s.hops.getD 0 dHop).ing = 0
 step : ∀ k, k < s.hops.length → stepFine t s.hops k = true
 ver : ∀ k : Nat, k < s.hops.length → verifyHop t s.ts (betaAt s k) (s.hops.getD k dHop) = true
 core : isCore t (s.hops.getD 0 dHop).asn = true
 kind : kindFold t s.hops = some 1 ∨ kindFold t s.hops = some 2
 ts0 : 0 ≤ s.ts
 ts1 : s.ts ≤ 1000000
 be : isRes s.beta = true
theorem firstInv_neg {t : DTopology} {s : DSegment} : firstInv t s < 0 ↔ ∀ k : Nat, k < s.hops.length → verifyHop t s.ts (betaAt s k) (s.hops.getD k dHop) = true := by
 unfold firstInv;constructor
 · intro h k hk
   rcases fstIx_cases (badHop t s) s.hops.length with ⟨-, h1⟩ | ⟨k1, -, h1, -⟩
   · have := h1 k hk
     unfold badHop at this
     simpa using this
   · omega
 · intro h
   rw [fstIx_no (fun j hj => by unfold badHop; rw [h j hj]; rfl)];omega
theorem kindRes_iff {o : Option Int} : kindRes o ≠ 0 ↔ o = some 1 ∨ o = some 2 := by
 unfold kindRes;constructor
 · split
   · rename_i z
     intro h;split at h
     · rename_i hz; subst hz; exact .inl rfl
     · split at h
       · rename_i hz; subst hz; exact .inr rfl
       · exact absurd rfl h
   · intro h; exact absurd rfl h
 · rintro (rfl | rfl) <;> decide
theorem vseg_iff {t : DTopology} {s : DSegment} : validSeg t s = true ↔ VSeg t s := by
 unfold validSeg;simp only [Bool.and_eq_true, decide_eq_true_eq];constructor
 · rintro ⟨hw, hf, hk, hts, hb⟩
   have hw' := hw;unfold wellF hopsFine at hw;simp only [Bool.and_eq_true, List.all_eq_true, beq_iff_eq] at hw;obtain ⟨⟨hl, hh⟩, hi, hs⟩ := hw;have hl := inR_iff.1 hl;unfold segKind at hk;rw [hw', Bool.true_and] at hk;have ht := inR_iff.1 hts;by_cases hc : isCore t (s.hops.getD 0 dHop).asn = true
   · rw [if_pos hc] at hk
     exact ⟨by omega, by omega, fun k h => hh k (List.mem_range.2 h), hi, fun k h => hs k (List.mem_range.2 h), firstInv_neg.1 hf, hc, kindRes_iff.1 hk, ht.1, ht.2, hb⟩
   · rw [if_neg hc] at hk
     exact absurd rfl hk
 · intro h
   have hw : wellF t s = true := by
    unfold wellF hopsFine;simp only [Bool.and_eq_true, List.all_eq_true, beq_iff_eq];exact ⟨⟨inR_iff.2 ⟨by have := h.pos; omega, by have := h.len; omega⟩, fun k hk => h.hop k (List.mem_range.1 hk)⟩, h.ing0, fun k hk => h.step k (List.mem_range.1 hk)⟩
   refine ⟨hw, firstInv_neg.2 h.ver, ?_, inR_iff.2 ⟨h.ts0, h.ts1⟩, h.be⟩;unfold segKind;rw [hw, h.core];exact kindRes_iff.2 h.kind
theorem segKind_of {t : DTopology} {s : DSegment} (h : VSeg t s) : segKind t s = kindRes (kindFold t s.hops) := by
 have hw := vseg_iff.2 h;unfold validSeg at hw;rw [Bool.and_eq_true] at hw;unfold segKind;rw [hw.1, h.core];rfl
theorem newHop_valid {t : DTopology} {p : DPolicy} {s : DSegment} {r inn out : Int} (h8 : t.ases.length ≤ 8) (hr : isAs t r = true) (hp : validPol p = true) (h0 : 0 ≤ s.ts) (h1 : s.ts ≤ 1000000) (hi : 0 ≤ inn ∧ inn ≤ 6) (ho : 0 ≤ out ∧ out ≤ 6) (hne : inn ≠ out) : verifyHop t s.ts (betaAt s s.hops.length) (newHop t p s r inn out) = true := by
 have hr2 := isAs_iff.1 hr;obtain ⟨-, e1, e2, -⟩ := expFor_range hp h0 h1;unfold verifyHop validHop newHop authHop;simp only [Bool.and_eq_true, beq_iff_eq, bne_iff_ne];exact ⟨⟨inR_iff.2 (by omega), inR_iff.2 hi, inR_iff.2 ho, hne, inR_iff.2 ⟨e1, e2⟩, mac_res _ _⟩, hr, rfl⟩
theorem grown_hops {t : DTopology} {p : DPolicy} {s : DSegment} {r inn out : Int} (h : VSeg t s) (hn : validHop (newHop t p s r inn out) = true) (hr : isAs t r = true) (hhas : hasI (ases s.hops) r = false) (h8 : s.hops.length + 1 ≤ 8)
 (hnt : (lastHop s).egr ≠ 0) (h1 : (remEnd t (lastHop s).asn (lastHop s).egr).1 = r) (h2 : (remEnd t (lastHop s).asn (lastHop s).egr).2 = inn) (hv : verifyHop t s.ts (betaAt s s.hops.length) (newHop t p s r inn out) = true)
 (hk : out = 0 ∨ (out ≠ 0 ∧ ifKind t r out = extWant t s)) : VSeg t (grownSeg t p s r inn out) ∧ kindFold t (grownSeg t p s r inn out).hops = kindFold t s.hops := by
 have hpos := h.pos;have hL : lastHop s = s.hops.getD (s.hops.length - 1) dHop := rfl;have hnas : (newHop t p s r inn out).asn = r := rfl;have hning : (newHop t p s r inn out).ing = inn := rfl;have hnegr : (newHop t p s r inn out).egr = out := rfl
 have hKF : kindFold t (s.hops ++ [newHop t p s r inn out]) = kindFold t s.hops := by
  unfold kindFold;rw [List.foldl_append, List.foldl_cons, List.foldl_nil]
  change kstep t (kindFold t s.hops) _ = kindFold t s.hops
  have hkind := segKind_of h
  rcases hk with hk | ⟨hk, hk2⟩
  · rcases h.kind with hz | hz <;> rw [hz] <;> unfold kstep <;> simp only [hnegr, if_pos hk]
  · unfold extWant at hk2
    rw [hkind] at hk2
    rcases h.kind with hz | hz
    · rw [hz] at hk2 ⊢
      have e : ifKind t r out = 1 := by rw [hk2]; decide
      unfold kstep;simp only [hnegr, hnas, if_neg hk, e]
      decide
    · rw [hz] at hk2 ⊢
      have e : ifKind t r out = 2 := by rw [hk2]; decide
      unfold kstep;simp only [hnegr, hnas, if_neg hk, e]
      decide
 refine ⟨?_, hKF⟩;have hlen : (grownSeg t p s r inn out).hops.length = s.hops.length + 1 := grownSeg_len t p s r inn out;have hgh : (grownSeg t p s r inn out).hops = s.hops ++ [newHop t p s r inn out] := rfl
 have hget : ∀ k, k < s.hops.length → (grownSeg t p s r inn out).hops.getD k dHop = s.hops.getD k dHop := fun k hk => by rw [hgh, getD_snoc_lt hk]
 have hlast : (grownSeg t p s r inn out).hops.getD s.hops.length dHop = newHop t p s r inn out := by rw [hgh, getD_snoc_last]
 have hbe : ∀ k : Nat, k ≤ s.hops.length → betaAt (grownSeg t p s r inn out) k = betaAt s k := fun k hk => betaAt_snoc hk;refine ⟨by omega, by omega, fun k hk => ?_, by rw [hget 0 hpos]; exact h.ing0, fun k hk => ?_, fun k hk => ?_, by rw [hget 0 hpos]; exact h.core, by rw [hgh, hKF]; exact h.kind, h.ts0, h.ts1, h.be⟩
 · rcases Nat.lt_or_ge k s.hops.length with hk1 | hk1
   · have h3 := h.hop k hk1
     unfold hopFine at h3 ⊢;rw [hget k hk1, hgh, dupAt_snoc hk1];exact h3
   · obtain rfl : k = s.hops.length := by omega
     unfold hopFine;rw [hlast];simp only [Bool.and_eq_true, Bool.not_eq_true'];refine ⟨hn, hr, ?_⟩;rw [hgh];refine dupAt_no (fun j hj => ?_);rw [getD_snoc_lt hj, getD_snoc_last];exact hasI_ases.1 hhas _ (getD_mem hj)
 · rcases Nat.lt_or_ge k s.hops.length with hk1 | hk1
   · have h3 := h.step k hk1
     unfold stepFine at h3 ⊢;rw [hget k hk1, hget (k - 1) (by omega), hlen];simp only [Bool.and_eq_true, Bool.not_eq_true', Bool.and_eq_false_iff] at h3 ⊢;refine ⟨?_, h3.2⟩
     rcases Nat.lt_or_ge (k + 1) s.hops.length with hk2 | hk2
     · rcases h3.1 with h4 | h4
       · exact .inl h4
       · simp [hk2] at h4
     · left
       have e : s.hops.length - 1 = k := by omega
       rw [hL, e] at hnt
       simpa using hnt
   · obtain rfl : k = s.hops.length := by omega
     unfold stepFine;rw [hlast, hget (s.hops.length - 1) (by omega), hlen, ← hL, h1, h2];simp [hnas, hning]
 · rcases Nat.lt_or_ge k s.hops.length with hk1 | hk1
   · rw [hbe k (by omega), hget k hk1]
     exact h.ver k hk1
   · obtain rfl : k = s.hops.length := by omega
     rw [hbe _ (Nat.le_refl _), hlast];exact hv
theorem canExt_parts {t : DTopology} {s : DSegment} {r inn : Int} (h : canExt t s r inn = true) : isAs t r = true ∧ VSeg t s ∧ (lastHop s).egr ≠ 0 ∧ hasI (ases s.hops) r = false ∧ (remEnd t (lastHop s).asn (lastHop s).egr).1 = r ∧ (remEnd t (lastHop s).asn (lastHop s).egr).2 = inn := by
 unfold canExt at h;simp only [Bool.and_eq_true, Bool.not_eq_true', beq_iff_eq] at h;have hv := vseg_iff.1 h.2.1;have hp := hv.pos;refine ⟨h.1, hv, ?_, h.2.2.2.1, h.2.2.2.2.1, h.2.2.2.2.2⟩;have h3 := h.2.2.1;unfold isTerm at h3;rw [decide_eq_true hp, Bool.true_and] at h3;unfold lastHop
 simpa using h3
theorem canExt_of {t : DTopology} {s : DSegment} {r inn : Int} (h1 : isAs t r = true) (h2 : VSeg t s) (h3 : (lastHop s).egr ≠ 0) (h4 : hasI (ases s.hops) r = false) (h5 : (remEnd t (lastHop s).asn (lastHop s).egr).1 = r) (h6 : (remEnd t (lastHop s).asn (lastHop s).egr).2 = inn) : canExt t s r inn = true := by
 unfold canExt;simp only [Bool.and_eq_true, Bool.not_eq_true', beq_iff_eq];refine ⟨h1, vseg_iff.2 h2, ?_, h4, h5, h6⟩;unfold isTerm;rw [decide_eq_true h2.pos, Bool.true_and];unfold lastHop at h3
 simpa using h3
theorem allows_parts {p : DPolicy} {s : DSegment} {out : Int} (h : allows p s out = true) : (s.hops.length : Int) < p.maxLen ∧ contains p.closed out = false ∧ ∀ h ∈ s.hops, contains p.denied h.asn = false := by
 unfold allows at h;simp only [Bool.and_eq_true, Bool.not_eq_true', decide_eq_true_eq, List.all_eq_true] at h;exact ⟨h.1, h.2.1, fun x hx => h.2.2 x.asn (List.mem_map.2 ⟨x, hx, rfl⟩)⟩
theorem grown_valid {t : DTopology} {p : DPolicy} {s : DSegment} {r inn out : Int} (hv : TopOk t) (hp : validPol p = true) (hc : canExt t s r inn = true) (ha : allows p s out = true) (ho : 0 ≤ out ∧ out ≤ 6) (hne : inn ≠ out) (hk : out = 0 ∨ (out ≠ 0 ∧ ifKind t r out = extWant t s)) : VSeg t (grownSeg t p s r inn out) ∧ kindFold t (grownSeg t p s r inn out).hops = kindFold t s.hops := by
 obtain ⟨h1, h2, h3, h4, h5, h6⟩ := canExt_parts hc;have h7 := rem_ok hv (rem_as (by rw [h5]; exact h1));rw [h5, h6] at h7;have h9 := newHop_valid (s := s) (r := r) (inn := inn) (out := out) hv.1 h1 hp h2.ts0 h2.ts1 (by omega) ho hne;have h10 := (allows_parts ha).1;have h11 := (validPol_parts hp).2.1;refine grown_hops h2 ?_ h1 h4 (by omega) h3 h5 h6 h9 hk;unfold verifyHop at h9;rw [Bool.and_eq_true] at h9;exact h9.1
theorem last_grown (t : DTopology) (p : DPolicy) (s : DSegment) (r inn out : Int) : lastHop (grownSeg t p s r inn out) = newHop t p s r inn out := by
 unfold lastHop;rw [grownSeg_len, Nat.add_sub_cancel];exact getD_snoc_last _ _
theorem extOk_valid {t : DTopology} {p : DPolicy} {s : DSegment} {r inn out : Int} (hv : TopOk t) (hp : validPol p = true) (h : extOk t p s r inn out = true) : VSeg t (grownSeg t p s r inn out) ∧ kindFold t (grownSeg t p s r inn out).hops = kindFold t s.hops := by
 unfold extOk at h;simp only [Bool.and_eq_true, bne_iff_ne, beq_iff_eq] at h;have h2 := inR_iff.1 h.2.1;exact grown_valid hv hp h.1 h.2.2.2.1 (by omega) (fun e => h.2.2.1 e.symm) (.inr ⟨by omega, h.2.2.2.2⟩)
theorem extOk_kind {t : DTopology} {p : DPolicy} {s : DSegment} {r inn out : Int} (h : extOk t p s r inn out = true) : ifKind t r out = extWant t s ∧ 1 ≤ out ∧ out ≤ 6 := by
 unfold extOk at h;simp only [Bool.and_eq_true, bne_iff_ne, beq_iff_eq] at h;have h2 := inR_iff.1 h.2.1;exact ⟨h.2.2.2.2, h2.1, h2.2⟩
theorem extWant_cases (t : DTopology) (s : DSegment) : extWant t s = 1 ∨ extWant t s = 2 := by
 unfold extWant;split
 · exact .inr rfl
 · exact .inl rfl
theorem ext_canExt {t : DTopology} {p : DPolicy} {s : DSegment} {r inn out : Int} (hv : TopOk t) (hp : validPol p = true) (h : extOk t p s r inn out = true) (hf : (remEnd t r out).1 ≠ r) (hh : hasI (ases s.hops) (remEnd t r out).1 = false) : canExt t (grownSeg t p s r inn out) (remEnd t r out).1 (remEnd t r out).2 = true := by
 obtain ⟨hk, ho, -⟩ := extOk_kind h;have hidx : 0 ≤ linkIdx t r out := ifKind_idx (by omega) (by rw [hk]; rcases extWant_cases t s with e | e <;> omega);have hl := last_grown t p s r inn out;refine canExt_of (rem_ok hv hidx).1 (extOk_valid hv hp h).1 (by rw [hl]; show out ≠ 0; omega) ?_ (by rw [hl]; rfl) (by rw [hl]; rfl);rw [hasI_ases] at hh ⊢;intro x hx
 rcases List.mem_append.1 (show x ∈ s.hops ++ [newHop t p s r inn out] from hx) with hx | hx
 · exact hh x hx
 · obtain rfl := List.mem_singleton.1 hx
   exact fun e => hf e.symm
theorem orig_valid {t : DTopology} {p : DPolicy} {r out ts be : Int} (hv : TopOk t) (hp : validPol p = true) (h : origOk t p r out ts be = true) : VSeg t (grownSeg t p ⟨ts, be, []⟩ r 0 out) ∧ kindFold t (grownSeg t p ⟨ts, be, []⟩ r 0 out).hops = some (ifKind t r out) ∧ 0 ≤ linkIdx t r out := by
 have hkk := origOk_kind h;unfold origOk at h;simp only [Bool.and_eq_true] at h;obtain ⟨hc, ho, -, -, hts, hb⟩ := h;have ho := inR_iff.1 ho;have hts := inR_iff.1 hts;have hr := isCore_as hc;have hidx : 0 ≤ linkIdx t r out := ifKind_idx (by omega) (by omega);have hn := newHop_valid (p := p) (s := ⟨ts, be, []⟩) (r := r) (inn := 0) (out := out) hv.1 hr hp hts.1 hts.2 (by omega) (by omega) (by omega)
 have hKF : kindFold t (grownSeg t p ⟨ts, be, []⟩ r 0 out).hops = some (ifKind t r out) := by
  show kstep t (some 0) (newHop t p ⟨ts, be, []⟩ r 0 out) = _;unfold kstep;have e : (newHop t p ⟨ts, be, []⟩ r 0 out).egr = out := rfl;simp only [e, if_neg (show ¬ out = 0 by omega)];rfl
 have hgh : (grownSeg t p ⟨ts, be, []⟩ r 0 out).hops = [newHop t p ⟨ts, be, []⟩ r 0 out] := rfl;have hbe : betaAt (grownSeg t p ⟨ts, be, []⟩ r 0 out) (0 : Nat) = betaAt ⟨ts, be, []⟩ (0 : Nat) := betaAt_snoc (l := []) (Nat.le_refl _);refine ⟨⟨by simp [hgh], by simp [hgh], fun k hk => ?_, rfl, fun k hk => ?_, fun k hk => ?_, hc, ?_, hts.1, hts.2, hb⟩, hKF, hidx⟩
 · obtain rfl : k = 0 := by simp [hgh] at hk; exact hk
   unfold hopFine;simp only [Bool.and_eq_true, Bool.not_eq_true'];unfold verifyHop at hn;rw [Bool.and_eq_true] at hn;exact ⟨hn.1, hr, rfl⟩
 · obtain rfl : k = 0 := by simp [hgh] at hk; exact hk
   unfold stepFine;rw [hgh];simp
 · obtain rfl : k = 0 := by simp [hgh] at hk; exact hk
   rw [hbe];exact hn
 · rw [hKF]
   rcases hkk with e | e <;> rw [e]
   · exact .inl rfl
   · exact .inr rfl
theorem orig_canExt {t : DTopology} {p : DPolicy} {r out ts be : Int} (hv : TopOk t) (hp : validPol p = true) (h : origOk t p r out ts be = true) : canExt t (grownSeg t p ⟨ts, be, []⟩ r 0 out) (remEnd t r out).1 (remEnd t r out).2 = true := by
 obtain ⟨h1, -, h3⟩ := orig_valid hv hp h;have hl := last_grown t p ⟨ts, be, []⟩ r 0 out
 have ho : 1 ≤ out := by
  unfold origOk at h;simp only [Bool.and_eq_true] at h;exact (inR_iff.1 h.2.1).1
 refine canExt_of (rem_ok hv h3).1 h1 (by rw [hl]; show out ≠ 0; omega) ?_ (by rw [hl]; rfl) (by rw [hl]; rfl);rw [hasI_ases];intro x hx;obtain rfl := List.mem_singleton.1 (show x ∈ [newHop t p ⟨ts, be, []⟩ r 0 out] from hx);exact fun e => (rem_ok hv h3).2.1 e.symm
end Go.Proofs.YtfpfgifjigenaaaGreat
