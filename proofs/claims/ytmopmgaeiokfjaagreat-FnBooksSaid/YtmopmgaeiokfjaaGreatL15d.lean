/- What the program's and the reference's functions on beaconing compute: Propagated, DeliverBeacons, RunBeaconRound, RunBeaconing. No conditions. -/
import Derived.Test.YtmopmgaeiokfjaaGreatL15c
import Derived.Test.YtmopmgaeiokfjaaGreatGL14
import Derived.Test.YtmopmgaeiokfjaaGreatGHB
namespace Go.Proofs.YtmopmgaeiokfjaaGreat
open Go.RowKit
set_option linter.unusedVariables false
abbrev msgTot (l : List DBeaconMessage) : Nat := totS (fun y : DBeaconMessage => y.beacon.seg.hops.length) l
def propMsg (t : DTopology) (p : DPolicy) (r : Int) (g : DBeacon) (o : Int) : DBeaconMessage := ⟨(remEnd t r o).1, ⟨(remEnd t r o).2, grownSeg t p g.seg r g.ing o⟩⟩
def propOne (t : DTopology) (p : DPolicy) (r : Int) (g : DBeacon) : List DBeaconMessage := (egrIfs t p g.seg r g.ing).map (propMsg t p r g)
def propMsgs (t : DTopology) (l : List DPolicy) (r : Int) (got : List DBeacon) : List DBeaconMessage := if validTop t then got.flatMap (propOne t (polFor l r) r) else []
theorem totS_map_le {α β : Type} (f : β → Nat) (m : α → β) (n : Nat) : ∀ (l : List α), (∀ x ∈ l, f (m x) ≤ n) → totS f (l.map m) ≤ l.length * (n + 1)
 | [], _ => by simp [totS]
 | a :: l, h => by
   have h1 := totS_map_le f m n l (fun x hx => h x (List.mem_cons_of_mem _ hx));have h2 := h a (List.mem_cons_self ..);unfold totS at h1 ⊢;simp only [List.map_cons, List.length_cons, List.sum_cons, Nat.add_mul, List.length_map] at h1 ⊢;omega
theorem propOne_tot (t : DTopology) (p : DPolicy) (r : Int) (g : DBeacon) : msgTot (propOne t p r g) ≤ 60 := by
 have h1 : (egrIfs t p g.seg r g.ing).length ≤ 6 := egrTo_len t p g.seg r g.ing 6
 have h2 := totS_map_le (fun y : DBeaconMessage => y.beacon.seg.hops.length) (propMsg t p r g) 9 (egrIfs t p g.seg r g.ing) (fun o ho => by
  have h3 := validSeg_len (canExt_valid (extOk_can (egrIfs_ok ho)));show (grownSeg t p g.seg r g.ing o).hops.length ≤ 9;rw [grownSeg_len]
  omega)
 show totS _ ((egrIfs t p g.seg r g.ing).map (propMsg t p r g)) ≤ 60;omega
theorem flatMap_tot {α β : Type} (f : β → Nat) (m : α → List β) (n : Nat) (h : ∀ x, totS f (m x) ≤ n) : ∀ l : List α, totS f (l.flatMap m) ≤ l.length * n
 | [] => by simp [totS]
 | a :: l => by
   have h1 := flatMap_tot f m n h l;have h2 := h a;rw [List.flatMap_cons, totS_append, List.length_cons, Nat.add_mul];omega
theorem propMsgs_tot (t : DTopology) (l : List DPolicy) (r : Int) (got : List DBeacon) : msgTot (propMsgs t l r got) ≤ 60 * got.length := by
 unfold propMsgs;split
 · have := flatMap_tot (fun y : DBeaconMessage => y.beacon.seg.hops.length) (propOne t (polFor l r) r) 60 (propOne_tot t _ r) got
   show totS _ _ ≤ _;omega
 · simp [msgTot, totS]
theorem flatMap_snoc {α β : Type} (f : α → List β) (l : List α) (k : Nat) (h : k < l.length) : (l.take (k + 1)).flatMap f = (l.take k).flatMap f ++ f l[k] := by
 rw [take_snoc l k h, List.flatMap_append];simp
theorem map_snoc {α β : Type} (f : α → β) (l : List α) (k : Nat) (h : k < l.length) : (l.take (k + 1)).map f = (l.take k).map f ++ [f l[k]] := by
 rw [take_snoc l k h, List.map_append];rfl
def dStr : DBeaconStore := ⟨[]⟩
abbrev stTot (l : List DBeaconStore) : Nat := totS (fun y : DBeaconStore => bcnTot y.beacons) l
def delStep (t : DTopology) (st : List DBeaconStore) (m : DBeaconMessage) : List DBeaconStore := if inR m.to 0 (st.length - 1) then st.set m.to.toNat ⟨storeB t m.to (st.getD m.to.toNat dStr).beacons m.beacon⟩ else st
def delB (t : DTopology) (b : DBeaconing) (l : List DBeaconMessage) : DBeaconing := ⟨b.ts, if validTop t then l.foldl (delStep t) b.stores else b.stores⟩
theorem delStep_len (t : DTopology) (st : List DBeaconStore) (m : DBeaconMessage) : (delStep t st m).length = st.length := by
 unfold delStep;split <;> simp
theorem set_sum {α : Type} (f : α → Nat) : ∀ (l : List α) (k : Nat) (x : α) (h : k < l.length), ((l.set k x).map f).sum + f l[k] = (l.map f).sum + f x
 | a :: l, 0, x, _ => by simp; omega
 | a :: l, k + 1, x, h => by
   have := set_sum f l k x (by simpa using h);simp only [List.set_cons_succ, List.map_cons, List.sum_cons, List.getElem_cons_succ];omega
theorem delStep_tot (t : DTopology) (st : List DBeaconStore) (m : DBeaconMessage) : stTot (delStep t st m) ≤ stTot st + 9 := by
 unfold delStep;split
 · rename_i h
   obtain ⟨h0, h1⟩ := inR_iff.1 h
   have hk : m.to.toNat < st.length := by omega
   rw [getD_is hk];have h2 := set_sum (fun y : DBeaconStore => bcnTot y.beacons) st m.to.toNat ⟨storeB t m.to st[m.to.toNat].beacons m.beacon⟩ hk;have h3 := storeB_tot t m.to st[m.to.toNat].beacons m.beacon;unfold stTot totS;rw [List.length_set];dsimp only at h2;omega
 · omega
theorem delFold_tot (t : DTopology) : ∀ (l : List DBeaconMessage) (st : List DBeaconStore), stTot (l.foldl (delStep t) st) ≤ stTot st + 9 * l.length
 | [], st => by simp
 | m :: l, st => by
   have h1 := delFold_tot t l (delStep t st m);have h2 := delStep_tot t st m;simp only [List.foldl_cons, List.length_cons];omega
theorem delFold_len (t : DTopology) : ∀ (l : List DBeaconMessage) (st : List DBeaconStore), (l.foldl (delStep t) st).length = st.length
 | [], st => rfl
 | m :: l, st => by
   simp only [List.foldl_cons];rw [delFold_len t l, delStep_len]
def roundOne (t : DTopology) (l : List DPolicy) (b : DBeaconing) (r : Nat) : List DBeaconMessage := origMsgs t l r b.ts ++ propMsgs t l r (b.stores.getD r dStr).beacons
def roundTo (t : DTopology) (l : List DPolicy) (b : DBeaconing) (n : Nat) : List DBeaconMessage := (List.range n).flatMap (roundOne t l b)
def runRound (t : DTopology) (l : List DPolicy) (b : DBeaconing) : DBeaconing := delB t b (roundTo t l b b.stores.length)
def runTo (t : DTopology) (l : List DPolicy) (ts : Int) : Nat → DBeaconing
 | 0 => newBeac t ts
 | n + 1 => runRound t l (runTo t l ts n)
theorem roundTo_succ (t : DTopology) (l : List DPolicy) (b : DBeaconing) (n : Nat) : roundTo t l b (n + 1) = roundTo t l b n ++ roundOne t l b n := by
 unfold roundTo;rw [List.range_succ, List.flatMap_append];simp
theorem roundOne_no (t : DTopology) (l : List DPolicy) (b : DBeaconing) (r : Nat) (h : validTop t = false) : roundOne t l b r = [] := by
 unfold roundOne origMsgs propMsgs;rw [h];rfl
theorem roundTo_no (t : DTopology) (l : List DPolicy) (b : DBeaconing) (n : Nat) (h : validTop t = false) : roundTo t l b n = [] := by
 unfold roundTo;rw [List.flatMap_eq_nil_iff];exact fun r _ => roundOne_no t l b r h
theorem roundOne_tot (t : DTopology) (l : List DPolicy) (b : DBeaconing) (r : Nat) : msgTot (roundOne t l b r) ≤ 12 + 60 * (b.stores.getD r dStr).beacons.length := by
 have h1 := origMsgs_tot t l r b.ts;have h2 := propMsgs_tot t l r (b.stores.getD r dStr).beacons;unfold roundOne;show totS _ _ ≤ _;rw [totS_append];have h2 : totS (fun y : DBeaconMessage => y.beacon.seg.hops.length) (propMsgs t l r (b.stores.getD r dStr).beacons) ≤ 60 * (b.stores.getD r dStr).beacons.length := h2;omega
theorem roundTo_tot (t : DTopology) (l : List DPolicy) (b : DBeaconing) : ∀ n, n ≤ b.stores.length → msgTot (roundTo t l b n) ≤ 60 * (n + ((b.stores.take n).map fun y => bcnTot y.beacons).sum)
 | 0, _ => by simp [roundTo, msgTot, totS]
 | n + 1, h => by
   have h1 := roundTo_tot t l b n (by omega);have h2 := roundOne_tot t l b n;have h3 := sum_take (fun y : DBeaconStore => bcnTot y.beacons) b.stores n (by omega);rw [getD_is (by omega)] at h2;have h4 := totS_len (fun y : DBeacon => y.seg.hops.length) b.stores[n].beacons;rw [roundTo_succ, h3];show totS _ _ ≤ _;rw [totS_append];have h1 : totS (fun y : DBeaconMessage => y.beacon.seg.hops.length) (roundTo t l b n) ≤ 60 * (n + ((b.stores.take n).map fun y => bcnTot y.beacons).sum) := h1;have h2 : totS (fun y : DBeaconMessage => y.beacon.seg.hops.length) (roundOne t l b n) ≤ 12 + 60 * b.stores[n].beacons.length := h2;have h5 : bcnTot b.stores[n].beacons = totS (fun y : DBeacon => y.seg.hops.length) b.stores[n].beacons := rfl;omega
def SmallS (l : List DBeacon) : Prop := l.length ≤ 12 ∧ ∀ g ∈ l, g.seg.hops.length ≤ 8
def Small (st : List DBeaconStore) : Prop := st.length ≤ 8 ∧ ∀ y ∈ st, SmallS y.beacons
theorem storeB_small {t : DTopology} {r : Int} {l : List DBeacon} {g : DBeacon} (h : SmallS l) : SmallS (storeB t r l g) := by
 unfold storeB;split
 · rename_i hc
   rw [Bool.and_eq_true] at hc;have h1 := validSeg_len (canExt_valid hc.1);have h2 := insB_len l g
   have h3 : ∀ x ∈ insB l g, x.seg.hops.length ≤ 8 := by
    intro x hx;unfold insB at hx
    rcases List.mem_append.1 hx with hx | hx
    · exact h.2 x (List.mem_of_mem_take hx)
    · rcases List.mem_cons.1 hx with rfl | hx
      · exact h1.2
      · exact h.2 x (List.mem_of_mem_drop hx)
   unfold cut12;split
   · refine ⟨?_, fun x hx => h3 x (List.mem_of_mem_take hx)⟩
     have h4 := h.1;rw [List.length_take];omega
   · exact ⟨by omega, h3⟩
 · exact h
theorem delStep_small {t : DTopology} {st : List DBeaconStore} {m : DBeaconMessage} (h : Small st) : Small (delStep t st m) := by
 refine ⟨by rw [delStep_len]; exact h.1, fun y hy => ?_⟩;unfold delStep at hy;split at hy
 · rename_i hr
   obtain ⟨h0, h1⟩ := inR_iff.1 hr
   rcases List.mem_or_eq_of_mem_set hy with hy | rfl
   · exact h.2 y hy
   · refine storeB_small ?_
     rw [getD_is (by omega)];exact h.2 _ (List.getElem_mem _)
 · exact h.2 y hy
theorem delFold_small {t : DTopology} : ∀ (l : List DBeaconMessage) (st : List DBeaconStore), Small st → Small (l.foldl (delStep t) st)
 | [], _, h => h
 | m :: l, st, h => delFold_small l _ (delStep_small h)
theorem runTo_small (t : DTopology) (l : List DPolicy) (ts : Int) : ∀ n, Small (runTo t l ts n).stores
 | 0 => by
   show Small (newBeac t ts).stores;unfold newBeac;dsimp only;split
   · rename_i h
     refine ⟨?_, fun y hy => ?_⟩
     · unfold validTop at h
       rw [Bool.and_eq_true] at h;have := (inR_iff.1 h.1).2;rw [List.length_replicate];omega
     · rw [List.eq_of_mem_replicate hy]
       exact ⟨by simp, fun g hg => by simp at hg⟩
   · exact ⟨by simp, fun y hy => by simp at hy⟩
 | n + 1 => by
   have h := runTo_small t l ts n;show Small (delB t (runTo t l ts n) _).stores;unfold delB;dsimp only;split
   · exact delFold_small _ _ h
   · exact h
theorem totS_le {α : Type} (f : α → Nat) (n : Nat) : ∀ (l : List α), (∀ x ∈ l, f x ≤ n) → totS f l ≤ l.length * (n + 1)
 | [], _ => by simp [totS]
 | a :: l, h => by
   have h1 := totS_le f n l (fun x hx => h x (List.mem_cons_of_mem _ hx));have h2 := h a (List.mem_cons_self ..);unfold totS at h1 ⊢;simp only [List.map_cons, List.length_cons, List.sum_cons, Nat.add_mul] at h1 ⊢;omega
theorem small_tot {st : List DBeaconStore} (h : Small st) : stTot st ≤ 1000 := by
 have h1 : totS (fun y : DBeaconStore => bcnTot y.beacons) st ≤ st.length * (108 + 1) := totS_le _ _ _ (fun y hy => by
  have h2 := h.2 y hy;have h3 : totS (fun u : DBeacon => u.seg.hops.length) y.beacons ≤ y.beacons.length * (8 + 1) := totS_le _ _ _ h2.2;have h4 := h2.1;show totS (fun u : DBeacon => u.seg.hops.length) y.beacons ≤ 108
  omega)
 have h5 := h.1;show totS (fun y : DBeaconStore => bcnTot y.beacons) st ≤ 1000;omega
end Go.Proofs.YtmopmgaeiokfjaaGreat
