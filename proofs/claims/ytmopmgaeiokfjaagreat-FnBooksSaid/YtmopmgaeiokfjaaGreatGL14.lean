/- What the program's and the reference's functions that hand segments on compute: CanExtend, Extend, Terminate, EgressCandidates. No conditions. -/
import Derived.Test.YtmopmgaeiokfjaaGreatGL13c
import Derived.Test.YtmopmgaeiokfjaaGreatGL10c
import Derived.Test.YtmopmgaeiokfjaaGreatGHB
namespace Go.Proofs.YtmopmgaeiokfjaaGreat
open Go.RowKit
set_option linter.unusedVariables false
def lastHop (s : DSegment) : DHop := s.hops.getD (s.hops.length - 1) dHop
def canExt (t : DTopology) (s : DSegment) (r inn : Int) : Bool := isAs t r && (validSeg t s && (!isTerm s && (!hasI (ases s.hops) r && ((remEnd t (lastHop s).asn (lastHop s).egr).1 == r && (remEnd t (lastHop s).asn (lastHop s).egr).2 == inn))))
def extWant (t : DTopology) (s : DSegment) : Int := if segKind t s = 2 then 2 else 1
def extOk (t : DTopology) (p : DPolicy) (s : DSegment) (r inn out : Int) : Bool := canExt t s r inn && (inR out 1 6 && (out != inn && (allows p s out && ifKind t r out == extWant t s)))
def extSeg (t : DTopology) (p : DPolicy) (s : DSegment) (r inn out : Int) : DSegment := if extOk t p s r inn out then grownSeg t p s r inn out else s
def termOk (t : DTopology) (p : DPolicy) (s : DSegment) (r inn : Int) : Bool := canExt t s r inn && allows p s 0
def termSeg (t : DTopology) (p : DPolicy) (s : DSegment) (r inn : Int) : DSegment := if termOk t p s r inn then grownSeg t p s r inn 0 else s
theorem kindRes_cases (o : Option Int) : kindRes o = 0 ∨ kindRes o = 1 ∨ kindRes o = 2 := by
 unfold kindRes;split
 · split
   · exact .inr (.inl rfl)
   · split
     · exact .inr (.inr rfl)
     · exact .inl rfl
 · exact .inl rfl
theorem segKind_cases (t : DTopology) (s : DSegment) : segKind t s = 0 ∨ segKind t s = 1 ∨ segKind t s = 2 := by
 unfold segKind;split
 · exact kindRes_cases _
 · exact .inl rfl
theorem validSeg_kind {t : DTopology} {s : DSegment} (h : validSeg t s = true) : segKind t s = 1 ∨ segKind t s = 2 := by
 unfold validSeg at h;simp only [Bool.and_eq_true, decide_eq_true_eq] at h
 rcases segKind_cases t s with h1 | h1 | h1
 · exact absurd h1 h.2.2.1
 · exact .inl h1
 · exact .inr h1
theorem canExt_as {t : DTopology} {s : DSegment} {r inn : Int} (h : canExt t s r inn = true) : isAs t r = true := by
 unfold canExt at h;simp only [Bool.and_eq_true] at h;exact h.1
theorem canExt_valid {t : DTopology} {s : DSegment} {r inn : Int} (h : canExt t s r inn = true) : validSeg t s = true := by
 unfold canExt at h;simp only [Bool.and_eq_true] at h;exact h.2.1
theorem hopsFine_le {t : DTopology} {l : List DHop} (h : hopsFine t l = true) : l.length ≤ 8 := by
 unfold hopsFine at h;rw [Bool.and_eq_true] at h;have := (inR_iff.1 h.1).2;omega
theorem validSeg_len {t : DTopology} {s : DSegment} (h : validSeg t s = true) : 0 < s.hops.length ∧ s.hops.length ≤ 8 := by
 unfold validSeg wellF at h;simp only [Bool.and_eq_true] at h;exact ⟨hopsFine_len h.1.1, hopsFine_le h.1.1⟩
theorem extOk_can {t : DTopology} {p : DPolicy} {s : DSegment} {r inn out : Int} (h : extOk t p s r inn out = true) : canExt t s r inn = true := by
 unfold extOk at h;rw [Bool.and_eq_true] at h;exact h.1
theorem termOk_can {t : DTopology} {p : DPolicy} {s : DSegment} {r inn : Int} (h : termOk t p s r inn = true) : canExt t s r inn = true := by
 unfold termOk at h;rw [Bool.and_eq_true] at h;exact h.1
theorem grownSeg_len (t : DTopology) (p : DPolicy) (s : DSegment) (r inn out : Int) : (grownSeg t p s r inn out).hops.length = s.hops.length + 1 := by simp [grownSeg]
def egrOk (t : DTopology) (p : DPolicy) (s : DSegment) (r inn : Int) (i : Nat) : Bool := extOk t p s r inn ((i : Int) + 1) && ((remEnd t r ((i : Int) + 1)).1 != r && !hasI (ases s.hops) (remEnd t r ((i : Int) + 1)).1)
def egrTo (t : DTopology) (p : DPolicy) (s : DSegment) (r inn : Int) (k : Nat) : List Int := ((List.range k).filter (egrOk t p s r inn)).map fun i : Nat => (i : Int) + 1
def egrIfs (t : DTopology) (p : DPolicy) (s : DSegment) (r inn : Int) : List Int := egrTo t p s r inn 6
theorem egrTo_yes {t : DTopology} {p : DPolicy} {s : DSegment} {r inn : Int} {k : Nat} (h : egrOk t p s r inn k = true) : egrTo t p s r inn (k + 1) = egrTo t p s r inn k ++ [(k : Int) + 1] := by simp [egrTo, List.range_succ, List.filter_append, h]
theorem egrTo_no {t : DTopology} {p : DPolicy} {s : DSegment} {r inn : Int} {k : Nat} (h : egrOk t p s r inn k = false) : egrTo t p s r inn (k + 1) = egrTo t p s r inn k := by simp [egrTo, List.range_succ, List.filter_append, h]
theorem egrTo_len (t : DTopology) (p : DPolicy) (s : DSegment) (r inn : Int) (k : Nat) : (egrTo t p s r inn k).length ≤ k := by
 unfold egrTo;rw [List.length_map];have := List.length_filter_le (egrOk t p s r inn) (List.range k);rw [List.length_range] at this;exact this
theorem egrIfs_ok {t : DTopology} {p : DPolicy} {s : DSegment} {r inn o : Int} (h : o ∈ egrIfs t p s r inn) : extOk t p s r inn o = true := by
 unfold egrIfs egrTo at h;obtain ⟨i, hi, rfl⟩ := List.mem_map.1 h;have := (List.mem_filter.1 hi).2;unfold egrOk at this;rw [Bool.and_eq_true] at this;exact this.1
abbrev bcnTot (l : List DBeacon) : Nat := totS (fun y => y.seg.hops.length) l
def idInts (h : DHop) : List Int := [h.asn, h.ing, h.egr, h.exp]
def segIdList (s : DSegment) : List Int := [s.ts, s.beta] ++ s.hops.flatMap idInts
def segId (s : DSegment) : Int := digest (segIdList s)
def hasBcn (l : List DBeacon) (g : DBeacon) : Bool := l.any fun x => decide (x = g)
theorem hasBcn_snoc (l : List DBeacon) (s : DBeacon) (k : Nat) (h : k < l.length) : hasBcn (l.take (k + 1)) s = (hasBcn (l.take k) s || decide (l[k] = s)) := by
 unfold hasBcn;rw [take_snoc l k h, List.any_append];simp
theorem hasBcn_of (l : List DBeacon) (s : DBeacon) (k : Nat) (h : k < l.length) (he : decide (l[k] = s) = true) : hasBcn l s = true := by
 unfold hasBcn;rw [List.any_eq_true];exact ⟨l[k], List.getElem_mem h, he⟩
def pref (a b : DBeacon) : Bool :=
 if a.seg.hops.length ≠ b.seg.hops.length then decide (a.seg.hops.length < b.seg.hops.length)
 else if a.seg.ts ≠ b.seg.ts then decide (b.seg.ts < a.seg.ts)
 else if segId a.seg ≠ segId b.seg then decide (segId a.seg < segId b.seg)
 else decide (a.ing < b.ing)
def prefIdx (g : DBeacon) : List DBeacon → Nat
 | [] => 0
 | x :: l => if pref g x then 0 else prefIdx g l + 1
theorem prefIdx_le (g : DBeacon) : ∀ l : List DBeacon, prefIdx g l ≤ l.length
 | [] => Nat.le_refl _
 | x :: l => by
   unfold prefIdx;split
   · omega
   · have := prefIdx_le g l
     simp only [List.length_cons]; omega
theorem prefIdx_no (g : DBeacon) : ∀ (l : List DBeacon) (j : Nat) (h : j < l.length), j < prefIdx g l → pref g l[j] = false
 | x :: l, j, h, hj => by
   unfold prefIdx at hj;split at hj
   · omega
   · rename_i hx
     rcases j with _ | j
     · simpa using hx
     · exact prefIdx_no g l j (by simpa using h) (by omega)
theorem prefIdx_yes (g : DBeacon) : ∀ (l : List DBeacon) (h : prefIdx g l < l.length), pref g (l[prefIdx g l]'h) = true
 | x :: l, h => by
   by_cases hx : pref g x = true
   · have e : prefIdx g (x :: l) = 0 := by unfold prefIdx; rw [if_pos hx]
     simp only [e, List.getElem_cons_zero];exact hx
   · have e : prefIdx g (x :: l) = prefIdx g l + 1 := by conv => lhs; unfold prefIdx; rw [if_neg hx]
     have h2 : prefIdx g l < l.length := by rw [e] at h; simpa using h
     have := prefIdx_yes g l h2;simp only [e, List.getElem_cons_succ];exact this
theorem prefIdx_is {g : DBeacon} {l : List DBeacon} {k : Nat} (hk : k ≤ l.length) (h1 : ∀ j (h : j < l.length), j < k → pref g l[j] = false) (h2 : ∀ h : k < l.length, pref g l[k] = true) : prefIdx g l = k := by
 rcases Nat.lt_trichotomy (prefIdx g l) k with h | h | h
 · have h3 := prefIdx_yes g l (by omega)
   rw [h1 _ (by omega) h] at h3;cases h3
 · exact h
 · have h3 := prefIdx_le g l
   have h4 := prefIdx_no g l k (by omega) h;rw [h2 (by omega)] at h4;cases h4
def insB (l : List DBeacon) (g : DBeacon) : List DBeacon := l.take (prefIdx g l) ++ g :: l.drop (prefIdx g l)
def cut12 (l : List DBeacon) : List DBeacon := if 12 < l.length then l.take (l.length - 1) else l
def storeB (t : DTopology) (r : Int) (l : List DBeacon) (g : DBeacon) : List DBeacon := if canExt t g.seg r g.ing && !hasBcn l g then cut12 (insB l g) else l
theorem insB_len (l : List DBeacon) (g : DBeacon) : (insB l g).length = l.length + 1 := by
 have := prefIdx_le g l;unfold insB;simp only [List.length_append, List.length_take, List.length_cons, List.length_drop];omega
theorem totS_take_le {α : Type} (f : α → Nat) (l : List α) (k : Nat) : totS f (l.take k) ≤ totS f l := by
 have h := List.take_append_drop k l;have h2 := totS_append f (l.take k) (l.drop k);rw [h] at h2;omega
theorem cut12_tot (l : List DBeacon) : bcnTot (cut12 l) ≤ bcnTot l := by
 unfold cut12;split
 · exact totS_take_le _ _ _
 · exact Nat.le_refl _
theorem insB_tot (l : List DBeacon) (g : DBeacon) : bcnTot (insB l g) = bcnTot l + 1 + g.seg.hops.length := by
 have h2 := totS_append (fun y : DBeacon => y.seg.hops.length) (l.take (prefIdx g l)) (l.drop (prefIdx g l));rw [List.take_append_drop] at h2;have h3 := totS_append (fun y : DBeacon => y.seg.hops.length) (l.take (prefIdx g l)) (g :: l.drop (prefIdx g l))
 have h4 : totS (fun y : DBeacon => y.seg.hops.length) (g :: l.drop (prefIdx g l)) = 1 + g.seg.hops.length + totS (fun y : DBeacon => y.seg.hops.length) (l.drop (prefIdx g l)) := by
  unfold totS;simp only [List.length_cons, List.map_cons, List.sum_cons];omega
 show totS _ (insB l g) = totS _ l + 1 + g.seg.hops.length;unfold insB;omega
theorem storeB_tot (t : DTopology) (r : Int) (l : List DBeacon) (g : DBeacon) : bcnTot (storeB t r l g) ≤ bcnTot l + 9 := by
 unfold storeB;split
 · rename_i h
   rw [Bool.and_eq_true] at h;have h1 := validSeg_len (canExt_valid h.1);have h2 := cut12_tot (insB l g);have h3 := insB_tot l g;omega
 · omega
end Go.Proofs.YtmopmgaeiokfjaaGreat
