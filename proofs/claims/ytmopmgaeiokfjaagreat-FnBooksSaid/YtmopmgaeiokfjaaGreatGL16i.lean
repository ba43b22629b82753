/- What the program's and the reference's functions compute that fill segment databases: AddSegment, BuildDatabase. No conditions. -/
import Derived.Test.YtmopmgaeiokfjaaGreatGL14
import Derived.Test.YtmopmgaeiokfjaaGreatGL16
import Derived.Test.YtmopmgaeiokfjaaGreatGHB
import Derived.Test.YtmopmgaeiokfjaaGreatGL9
set_option maxRecDepth 100000
set_option maxHeartbeats 1000000
namespace Go.Proofs.YtmopmgaeiokfjaaGreat
open Go.RowKit
set_option linter.unusedVariables false
def dbPut (t : DTopology) (k : DSegmentDatabase) (s : DSegment) : DSegmentDatabase := if segKind t s = 2 then ⟨k.down ++ [s], k.core⟩ else ⟨k.down, k.core ++ [s]⟩
def addSeg (t : DTopology) (k : DSegmentDatabase) (s : DSegment) : DSegmentDatabase := if validSeg t s && (isTerm s && !hasSegment k s) then dbPut t k s else k
abbrev dbTot (k : DSegmentDatabase) : Nat := segTot k.down + segTot k.core
theorem dbPut_tot (t : DTopology) (k : DSegmentDatabase) (s : DSegment) : dbTot (dbPut t k s) = dbTot k + 1 + s.hops.length := by
 have h1 := totS_append (fun u : DSegment => u.hops.length) k.down [s];have h2 := totS_append (fun u : DSegment => u.hops.length) k.core [s]
 have h3 : totS (fun u : DSegment => u.hops.length) [s] = 1 + s.hops.length := by simp [totS]
 unfold dbTot segTot dbPut;split <;> dsimp only <;> omega
def dStore : DBeaconStore := ⟨[]⟩
abbrev strTot (l : List DBeaconStore) : Nat := totS (fun y : DBeaconStore => bcnTot y.beacons) l
def dbStep (t : DTopology) (l : List DPolicy) (r : Int) (k : DSegmentDatabase) (g : DBeacon) : DSegmentDatabase := if termOk t (polFor l r) g.seg r g.ing then dbPut t k (grownSeg t (polFor l r) g.seg r g.ing 0) else k
def dbGots (t : DTopology) (l : List DPolicy) (r : Int) (k : DSegmentDatabase) (m : List DBeacon) : DSegmentDatabase := m.foldl (dbStep t l r) k
def dbTo (t : DTopology) (l : List DPolicy) (x : List DBeaconStore) : Nat → DSegmentDatabase
 | 0 => ⟨[], []⟩
 | n + 1 => dbGots t l n (dbTo t l x n) (x.getD n dStore).beacons
def buildDb (t : DTopology) (l : List DPolicy) (b : DBeaconing) : DSegmentDatabase := dbTo t l b.stores b.stores.length
theorem dbStep_tot (t : DTopology) (l : List DPolicy) (r : Int) (k : DSegmentDatabase) (g : DBeacon) : dbTot (dbStep t l r k g) ≤ dbTot k + 10 := by
 unfold dbStep;split
 · rename_i h
   have h1 := validSeg_len (canExt_valid (termOk_can h));rw [dbPut_tot, grownSeg_len];omega
 · omega
theorem dbGots_tot (t : DTopology) (l : List DPolicy) (r : Int) : ∀ (m : List DBeacon) (k : DSegmentDatabase), dbTot (dbGots t l r k m) ≤ dbTot k + 10 * m.length
 | [], k => by unfold dbGots; simp
 | g :: m, k => by
   have h1 := dbGots_tot t l r m (dbStep t l r k g);have h2 := dbStep_tot t l r k g;unfold dbGots at h1 ⊢;simp only [List.foldl_cons, List.length_cons];omega
theorem dbTo_tot (t : DTopology) (l : List DPolicy) (x : List DBeaconStore) : ∀ n, n ≤ x.length → dbTot (dbTo t l x n) ≤ 10 * ((x.take n).map fun y => bcnTot y.beacons).sum
 | 0, _ => by simp [dbTo, dbTot, segTot, totS]
 | n + 1, h => by
   have h1 := dbTo_tot t l x n (by omega);have h2 := dbGots_tot t l n (x.getD n dStore).beacons (dbTo t l x n);have h3 := sum_take (fun y : DBeaconStore => bcnTot y.beacons) x n (by omega);have h4 : x.getD n dStore = x[n] := getD_is (by omega);have h5 := totS_len (fun y : DBeacon => y.seg.hops.length) x[n].beacons;have h6 : dbTo t l x (n + 1) = dbGots t l n (dbTo t l x n) (x.getD n dStore).beacons := rfl;rw [h4] at h2 h6;rw [h6, h3];have h7 : bcnTot x[n].beacons = totS (fun y : DBeacon => y.seg.hops.length) x[n].beacons := rfl;omega
theorem dbGots_snoc (t : DTopology) (l : List DPolicy) (r : Int) (k : DSegmentDatabase) (m : List DBeacon) (j : Nat) (h : j < m.length) : dbGots t l r k (m.take (j + 1)) = dbStep t l r (dbGots t l r k (m.take j)) m[j] := foldl_snoc _ _ _ _ h
theorem impl_copySegments (vl : Value) (l : List DSegment) (w : World) (hl : SegmentS w.heap.size w vl l) (hn : segTot l ≤ 1048576) :
 Calls Tryz.prog 34 #[vl] w fun e w' => ∃ v', e = .returned v' ∧ SegmentSO w.heap.size w'.heap.size w' v' l ∧ Ext w w' := by
 obtain ⟨Al, nl, cl, rfl, ll, kl, ml, -⟩ := id hl;subst ll;unfold maxLen at ml;have Rl := Lib.hid hl; clear hl;have hn : totS (fun u : DSegment => u.hops.length) l ≤ 1048576 := hn;have hdl := totS_len (fun u : DSegment => u.hops.length) l
 go_enter Tryz.func34, Tryz.ntmps34
 go_wp2_with fail
 go_loopw [3, 8] (fun v i wr => ∃ k : Nat, k ≤ l.length ∧ i = I k ∧ SegmentSO w.heap.size wr.heap.size wr v (l.take k) ∧ Ext w wr) (fun _ i _ => l.length - (intOf i).toNat)
 case atStart => exact ⟨0, by omega, rfl, NO.nil _ _ _ _ _ _, xe⟩
 case round =>
  obtain ⟨k, hk, rfl, hno, he⟩ := hrel;have HNO := Lib.hid hno; clear hno;have zr := he.size;by_cases hlt : k < l.length
  · obtain ⟨b, off, rfl, hb, hkl, hc⟩ := (Rl.out.ext (w' := wr) xe).at_ hlt
    have hyl : l[k].hops.length ≤ totS (fun u : DSegment => u.hops.length) l := totS_get (fun u : DSegment => u.hops.length) l k hkl;have HX := Lib.hid (take_snoc l k hkl);have hfl := List.length_take_le k l
    generalize l[k] = u at *
    generalize l.take k = ds at *
    obtain ⟨Au_2, nu_2, cu_2, hu_0, hu_1, hu_2, su_2⟩ := hc;obtain ⟨lu_2, ku_2, mu_2⟩ := su_2.len;subst lu_2;unfold maxLen at mu_2
    have Ru : Hid (SegmentV wr.heap.size wr (.agg #[I u.ts, I u.beta, .slice Au_2 u.hops.length cu_2]) u) := ⟨_, _, _, rfl, su_2⟩
    have Su_2 := Lib.hid su_2; clear su_2;go_wp2_with fail
    first | refine name_wp ?_ ?_ ?_ | refine name_calls ?_ ?_ ?_
    exact (fun W => Ext wr W ∧ Blk W (wr.heap.size) 33 [I u.ts, I u.beta, .slice Au_2 u.hops.length cu_2]);exact ⟨xe, xb⟩;rintro w3 ⟨ew3, bu⟩;have lu := bu.lt;obtain ⟨pu_0, pu_1, pu_2⟩ := blk3 bu;have Bu := Lib.hid bu; clear bu;refine (impl_copySegment _ u _ (by exact Ru.out.ext xe) (by omega)).mono ?_;rintro e w5 ⟨v5, rfl, o5, ew5⟩;have z4 : wr.heap.size ≤ w3.heap.size := Ext.size xe;obtain ⟨a5, k5, q5, fp5, hv5, hoc5, hn5, hb5⟩ := o5.to_oc;subst hv5;have HOC5 := Lib.hid hoc5; have HN5 := Lib.hid hn5; have HB5 := Lib.hid hb5; clear o5 hoc5 hn5 hb5;have z5 := ew5.size;go_wp2_with (at_builtin; refine hold ?_)
    refine unhold (wpList_push (OC := SegmentOC) w SegmentOC.keeps SegmentOC.one rfl (.tmp 12) (.tmp 15) _ rfl 33 _ 3 40 Tryz.underlying28 info_Segment rfl (by omega) _ (ds) [u] wr.heap.size rfl _ 1 1 _ fp5 rfl
     (by exact NO.at' SegmentOC.keeps HNO.out xe) (by simp only [World.size_alloc]; omega) (row_one _ _ _ _ _ (by first | rfl | simp) rfl) (OL.one (SegmentOC.keeps _ _ _ _ _ (fun b hb hs => Ext.same (a := w5) xe b hs) HOC5.out) rfl) HN5.out (fun b hb => ⟨(by have := HB5.out b hb; omega), (by have := HB5.out b hb; simp only [World.size_alloc]; omega)⟩) (by omega) xe (by simp only [List.length_singleton]; omega) (by omega) ?_)
    intro v6 w6 no6 e6;have NO6 := Lib.hid no6; clear no6;go_wp2_with (at_builtin; refine hold ?_)
    go_roundw
    case rel => exact ⟨k + 1, by omega, by go_num, by rw [HX.out]; exact NO6.out, e6⟩
    case measure => simp [intOf]; omega
  · obtain rfl : k = l.length := by omega
    go_wp2_with fail
    go_ret
    refine ⟨_, rfl, ?_, xe⟩;have h := HNO.out;rw [List.take_length] at h;exact h
theorem spec_l16All (vl : Value) (l : List DSegment) (w : World) (hl : SegmentS w.heap.size w vl l) (hn : segTot l ≤ 1048576) :
 Calls Tryz.prog 39 #[vl] w fun e w' => ∃ v', e = .returned v' ∧ SegmentSO w.heap.size w'.heap.size w' v' l ∧ Ext w w' := by
 obtain ⟨Al, nl, cl, rfl, ll, kl, ml, -⟩ := id hl;subst ll;unfold maxLen at ml;have Rl := Lib.hid hl; clear hl;have hn : totS (fun u : DSegment => u.hops.length) l ≤ 1048576 := hn;have hdl := totS_len (fun u : DSegment => u.hops.length) l
 go_enter Tryz.func39, Tryz.ntmps39
 go_wp2_with fail
 go_loopw [3, 4] (fun v i wr => ∃ k : Nat, k ≤ l.length ∧ i = I k ∧ SegmentSO w.heap.size wr.heap.size wr v (l.take k) ∧ Ext w wr) (fun _ i _ => l.length - (intOf i).toNat)
 case atStart => exact ⟨0, by omega, rfl, NO.zero _ _ _ _ _ _ rfl (Nat.le_refl _), xe⟩
 case round =>
  obtain ⟨k, hk, rfl, hno, he⟩ := hrel;have HNO := Lib.hid hno; clear hno;have zr := he.size;by_cases hlt : k < l.length
  · obtain ⟨b, off, rfl, hb, hkl, hc⟩ := (Rl.out.ext (w' := wr) xe).at_ hlt
    have hyl : l[k].hops.length ≤ totS (fun u : DSegment => u.hops.length) l := totS_get (fun u : DSegment => u.hops.length) l k hkl;have HX := Lib.hid (take_snoc l k hkl);have hfl := List.length_take_le k l
    generalize l[k] = u at *
    generalize l.take k = ds at *
    have i0 : (0 : Int) ≤ (k : Int) := by omega
    have i1 : (k : Int) < (l.length : Int) := by omega
    obtain ⟨Au_2, nu_2, cu_2, hu_0, hu_1, hu_2, su_2⟩ := hc;obtain ⟨lu_2, ku_2, mu_2⟩ := su_2.len;subst lu_2;unfold maxLen at mu_2
    have Ru : Hid (SegmentV wr.heap.size wr (.agg #[I u.ts, I u.beta, .slice Au_2 u.hops.length cu_2]) u) := ⟨_, _, _, rfl, su_2⟩
    have Su_2 := Lib.hid su_2; clear su_2;go_wp2_with fail
    refine (spec_l9Copy _ u _ (by exact Ru.out.ext xe) (by omega)).mono ?_;rintro e w5 ⟨v5, rfl, o5, ew5⟩;obtain ⟨a5, k5, q5, fp5, hv5, hoc5, hn5, hb5⟩ := o5.to_oc;subst hv5;have HOC5 := Lib.hid hoc5; have HN5 := Lib.hid hn5; have HB5 := Lib.hid hb5; clear o5 hoc5 hn5 hb5;have z5 := ew5.size;go_wp2_with (at_builtin; refine hold ?_)
    refine unhold (wpList_push (OC := SegmentOC) w SegmentOC.keeps SegmentOC.one rfl (.tmp 18) (.tmp 20) _ rfl 33 _ 3 40 Tryz.underlying28 info_Segment rfl (by omega) _ (ds) [u] wr.heap.size rfl _ 1 1 _ fp5 rfl
     (by exact NO.at' SegmentOC.keeps HNO.out xe) (by simp only [World.size_alloc]; omega) (row_one _ _ _ _ _ (by first | rfl | simp) rfl) (OL.one (SegmentOC.keeps _ _ _ _ _ (fun b hb hs => Ext.same (a := w5) xe b hs) HOC5.out) rfl) HN5.out (fun b hb => ⟨(by have := HB5.out b hb; omega), (by have := HB5.out b hb; simp only [World.size_alloc]; omega)⟩) (by omega) xe (by simp only [List.length_singleton]; omega) (by omega) ?_)
    intro v6 w6 no6 e6;have NO6 := Lib.hid no6; clear no6;go_wp2_with (at_builtin; refine hold ?_)
    go_roundw
    case rel => exact ⟨k + 1, by omega, by go_num, by rw [HX.out]; exact NO6.out, e6⟩
    case measure => simp [intOf]; omega
  · obtain rfl : k = l.length := by omega
    go_wp2_with fail
    go_ret
    refine ⟨_, rfl, ?_, xe⟩;have h := HNO.out;rw [List.take_length] at h;exact h
end Go.Proofs.YtmopmgaeiokfjaaGreat
