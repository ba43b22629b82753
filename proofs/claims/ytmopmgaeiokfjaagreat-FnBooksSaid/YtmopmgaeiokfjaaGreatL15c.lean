/- Contracts of the program's and the reference's functions on beaconing: Originated. -/
import Derived.Test.YtmopmgaeiokfjaaGreatGL13c
import Derived.Test.YtmopmgaeiokfjaaGreatGGrow
import Derived.Test.YtmopmgaeiokfjaaGreatL15b
import Derived.Test.YtmopmgaeiokfjaaGreatGHB
set_option maxRecDepth 100000
set_option maxHeartbeats 1000000
namespace Go.Proofs.YtmopmgaeiokfjaaGreat
open Go.RowKit
set_option linter.unusedVariables false
def origBeta (t : DTopology) (r ts out : Int) : Int := mac (asAt t r).key [ts, out]
def origMsgOk (t : DTopology) (p : DPolicy) (r ts out : Int) : Bool := origOk t p r out ts (origBeta t r ts out)
def origMsg (t : DTopology) (p : DPolicy) (r ts out : Int) : DBeaconMessage := ⟨(remEnd t r out).1, ⟨(remEnd t r out).2, origSeg t p r out ts (origBeta t r ts out)⟩⟩
def origMsgsTo (t : DTopology) (p : DPolicy) (r ts : Int) (l : List Int) : List DBeaconMessage := (l.filter (origMsgOk t p r ts)).map (origMsg t p r ts)
def origMsgs (t : DTopology) (l : List DPolicy) (r ts : Int) : List DBeaconMessage := if validTop t then origMsgsTo t (polFor l r) r ts (origIfs t (polFor l r) r) else []
theorem origMsgsTo_yes {t : DTopology} {p : DPolicy} {r ts : Int} (l : List Int) (k : Nat) (h : k < l.length) (ho : origMsgOk t p r ts l[k] = true) : origMsgsTo t p r ts (l.take (k + 1)) = origMsgsTo t p r ts (l.take k) ++ [origMsg t p r ts l[k]] := by
 unfold origMsgsTo;rw [take_snoc l k h, List.filter_append, List.map_append];simp [ho]
theorem origMsgsTo_no {t : DTopology} {p : DPolicy} {r ts : Int} (l : List Int) (k : Nat) (h : k < l.length) (ho : origMsgOk t p r ts l[k] = false) : origMsgsTo t p r ts (l.take (k + 1)) = origMsgsTo t p r ts (l.take k) := by
 unfold origMsgsTo;rw [take_snoc l k h, List.filter_append, List.map_append];simp [ho]
theorem origMsgsTo_len (t : DTopology) (p : DPolicy) (r ts : Int) (l : List Int) : (origMsgsTo t p r ts l).length ≤ l.length := by
 unfold origMsgsTo;rw [List.length_map];exact List.length_filter_le _ _
theorem origIfs_as {t : DTopology} {p : DPolicy} {r : Int} (h : 0 < (origIfs t p r).length) : isAs t r = true := by
 obtain ⟨x, hx⟩ := List.exists_mem_of_length_pos h;unfold origIfs origTo at hx;obtain ⟨i, hi, _⟩ := List.mem_map.1 hx;have := (List.mem_filter.1 hi).2;unfold origOk at this;rw [Bool.and_eq_true] at this;exact isCore_as this.1
theorem origSeg_len (t : DTopology) (p : DPolicy) (r out ts beta : Int) : (origSeg t p r out ts beta).hops.length ≤ 1 := by
 unfold origSeg;split
 · simp [grownSeg]
 · simp
theorem sum_ones {α : Type} (f : α → Nat) (h : ∀ x, f x ≤ 1) (l : List α) : (l.map f).sum ≤ l.length := by
 induction l with
 | nil => simp
 | cons x l ih =>
   have := h x;simp only [List.map_cons, List.sum_cons, List.length_cons];omega
theorem origMsgs_tot (t : DTopology) (l : List DPolicy) (r ts : Int) : totS (fun y : DBeaconMessage => y.beacon.seg.hops.length) (origMsgs t l r ts) ≤ 12 := by
 unfold origMsgs;split
 · have h1 := origMsgsTo_len t (polFor l r) r ts (origIfs t (polFor l r) r)
   have h2 : (origIfs t (polFor l r) r).length ≤ 6 := origTo_len t (polFor l r) r 6
   have h3 : ((origMsgsTo t (polFor l r) r ts (origIfs t (polFor l r) r)).map fun y : DBeaconMessage => y.beacon.seg.hops.length).sum ≤ 6 := by
    unfold origMsgsTo;rw [List.map_map];refine Nat.le_trans (sum_ones _ (fun o => origSeg_len _ _ _ _ _ _) _) ?_;exact Nat.le_trans (List.length_filter_le _ _) h2
   unfold totS;omega
 · simp [totS]
def PairO (lo : Nat) (B : Bool) (x : DSegment) (v : Value) (W : World) : Prop := ∃ v', v = .tuple #[v', .bool B] ∧ SegmentO lo W.heap.size W v' x
theorem PairO.ext {lo : Nat} {B : Bool} {x : DSegment} {v : Value} {W W' : World} (h : PairO lo B x v W) (he : Ext W W') : PairO lo B x v W' := by
 obtain ⟨v', e, ho⟩ := h;exact ⟨v', e, ho.up he⟩
theorem PairO.seg {lo : Nat} {B : Bool} {x : DSegment} {v' : Value} {W : World} (h : PairO lo B x (.tuple #[v', .bool B]) W) : SegmentO lo W.heap.size W v' x := by
 obtain ⟨v2, e, ho⟩ := h;have e2 := congrArg Array.toList (Value.tuple.inj e);simp only [List.cons.injEq] at e2;rw [e2.1];exact ho
theorem msgSingle {W : World} {lo g : Nat} {to_ ing ts be : Int} {A : Option Addr} {n c : Nat} {x : DSegment} (ho : SegmentO lo W.heap.size W (.agg #[I ts, I be, .slice A n c]) x) (hlo : lo ≤ W.heap.size) (hg : g = W.heap.size) :
 BeaconMessageSO lo (W.alloc (.cells #[I to_, I ing, I ts, I be, .slice A n c] 149)).heap.size (W.alloc (.cells #[I to_, I ing, I ts, I be, .slice A n c] 149)) (.slice (some ⟨g, 0, none⟩) 1 1) [⟨to_, ⟨ing, x⟩⟩] := by
 obtain ⟨u, e, oh, hl⟩ := ho;have e2 := congrArg Array.toList (Value.agg.inj e);simp only [List.cons.injEq] at e2
 have hm : BeaconMessageO lo W.heap.size W (.agg #[I to_, I ing, I ts, I be, .slice A n c]) ⟨to_, ⟨ing, x⟩⟩ := ⟨.slice A n c, by rw [e2.1, e2.2.1], by rw [e2.2.2.1]; exact oh, hl⟩
 obtain ⟨a4, k4, q4, fp, e4, hoc, hn, hb⟩ := hm.to_oc;have e5 : [I to_, I ing, I ts, I be, .slice A n c] = [I to_, I ing, I x.ts, I x.beta, .slice a4 k4 q4] := congrArg Array.toList (Value.agg.inj e4);have hoc : BeaconMessageOC W fp [I to_, I ing, I x.ts, I x.beta, .slice a4 k4 q4] ⟨to_, ⟨ing, x⟩⟩ := hoc;rw [← e5] at hoc;exact NO.single BeaconMessageOC.keeps hoc hn hb rfl hlo hg
theorem Own.other {E T sz sz' lo hi lo' hi' n n' : Nat} {w : World} {u v : Value} {cs cs' : List Value} (h : Own E sz lo hi w u n cs) (hv : Own T sz' lo' hi' w v n' cs') (hne : E ≠ T) {w' : World} (hg : w.grownBy w' v.ownBlock) : Own E sz lo hi w' u n cs := by
 refine ⟨ownsRow_keep h.1 (fun b hb hs => hg.block b hs (fun e => ?_)), h.2⟩
 rcases hv.cases with ⟨rfl, _⟩ | ⟨g, cap, rest, rfl, _, _, hbk, _⟩
 · simp [Value.ownBlock] at e
 · have : b = g := by simpa [Value.ownBlock] using e
   subst this;exact ownsRow_typed h.1 hbk hne hb
theorem Own.off {T sz lo hi n g T' : Nat} {w : World} {v : Value} {cs cs' : List Value} (hv : Own T sz lo hi w v n cs) (hb : Blk w g T' cs') (hne : T ≠ T') : v.ownBlock ≠ some g := fun e => ownsRow_typed hv.1 hb hne (by simp [e])
theorem spec_Originated (vt vl : Value) (r ts : Int) (t : DTopology) (l : List DPolicy) (w : World) (ht : TopologyV w.heap.size w vt t) (hl : PolicyS w.heap.size w vl l) :
 Calls Tryz.prog 113 #[vt, vl, I r, I ts] w fun e w' => ∃ v', e = .returned v' ∧ BeaconMessageSO w.heap.size w'.heap.size w' v' (origMsgs t l r ts) ∧ Ext w w' := by
 obtain ⟨At_0, nt_0, ct_0, At_1, nt_1, ct_1, rfl, st_0, st_1⟩ := id ht;obtain ⟨lt_0, kt_0, mt_0⟩ := st_0.len;subst lt_0;unfold maxLen at mt_0;obtain ⟨lt_1, kt_1, mt_1⟩ := st_1.len;subst lt_1;unfold maxLen at mt_1;have Rt := Lib.hid ht; clear ht;have St_0 := Lib.hid st_0; clear st_0;have St_1 := Lib.hid st_1; clear st_1;obtain ⟨Al, nl, cl, rfl, ll, kl, ml, -⟩ := id hl;subst ll;unfold maxLen at ml;have Rl := Lib.hid hl; clear hl
 go_enter Tryz.func113, Tryz.ntmps113
 go_wp2_with fail
 refine name_calls (fun W => ∃ wb, wb.heap.size = w.heap.size + 1 ∧ Ext w wb ∧ Blk wb w.heap.size 27 [.slice At_0 t.ases.length ct_0, .slice At_1 t.links.length ct_1] ∧ Ext wb W ∧ BeaconMessageSO wb.heap.size W.heap.size W (.slice (some ⟨w.heap.size + 1, 0, none⟩) 0 0) []) ⟨_, (by simp only [World.size_alloc]), xe, xb, (Ext.refl _).alloc _, NO.zero _ _ _ _ _ _ (by simp) (Nat.le_refl _)⟩ ?_;rintro w0 ⟨wb, zb, ewb, bt, ew0, hz0⟩;have Bt := Lib.hid bt; have HZ0 := Lib.hid hz0; clear bt hz0
 have lt : w.heap.size < wb.heap.size := by omega
 refine (spec_ValidTopology _ (t) _ (by exact Rt.out.ext xe)).mono ?_;rintro e w1 ⟨rfl, ew1⟩;have bt := Bt.out.ext (w' := w1) xe;have lt := bt.lt;obtain ⟨pt_0, pt_1⟩ := blk2 bt;clear bt;cases hv : validTop t
 · go_wp2_with fail
   go_ret
   exact ⟨_, rfl, by unfold origMsgs; rw [hv]; exact NO.more (NO.up BeaconMessageOC.keeps HZ0.out ew1 (Nat.le_refl _)) (by have := ewb.size; omega) (Nat.le_refl _), xe⟩
 have HF : Hid (origMsgs t l r ts = origMsgsTo t (polFor l r) r ts (origIfs t (polFor l r) r)) := by unfold Hid origMsgs; rw [hv]; rfl
 clear hv;go_wp2_with fail
 refine (spec_PolicyFor _ r l _ (by exact Rl.out.ext xe)).mono ?_;rintro e w2 ⟨rfl, e2⟩
 generalize polFor l r = p at *
 have bt := Bt.out.ext (w' := w2) xe;have lt := bt.lt;obtain ⟨pt_0, pt_1⟩ := blk2 bt;clear bt;go_wp2_with fail
 refine name_calls (fun W => Ext w2 W ∧ Blk W w2.heap.size 82 [I p.maxLen, I p.denied, I p.closed, I p.life]) ⟨xe, xb⟩ ?_;rintro w3 ⟨e3, bp⟩;have Bp := Lib.hid bp; clear bp;refine (spec_OriginInterfaces _ p r t _ (by exact Rt.out.ext xe)).mono ?_;rintro e w4 ⟨v4, rfl, o4, e4⟩;have O4 := Lib.hid o4; clear o4;have hal : (origIfs t p r).length ≤ 6 := origTo_len t p r 6;have has : 0 < (origIfs t p r).length → isAs t r = true := origIfs_as
 generalize origIfs t p r = al at *
 have HAS := Lib.hid has; clear has;obtain ⟨A1, n1, c1, rfl, ln1, -, -, -⟩ := id (IntSO_rd O4.out);subst ln1;have z2 := e2.size; have z3 := e3.size; have z4 := e4.size; have zz1 := ew1.size; have zz0 := ew0.size;go_wp2_with fail
 go_loopw [9, 12] (fun v i wr => ∃ k : Nat, k ≤ al.length ∧ i = I k ∧ w4.heap.size ≤ wr.heap.size ∧ BeaconMessageSO wb.heap.size wr.heap.size wr v (origMsgsTo t p r ts (al.take k)) ∧ Blk wr w2.heap.size 82 [I p.maxLen, I p.denied, I p.closed, I p.life] ∧ IntSO w3.heap.size w4.heap.size wr (.slice A1 al.length c1) al ∧ Ext wb wr) (fun _ i _ => al.length - (intOf i).toNat)
 case atStart => exact ⟨0, by omega, rfl, Nat.le_refl _, NO.up BeaconMessageOC.keeps HZ0.out xe (Nat.le_refl _), Bp.out.ext xe, O4.out, xe⟩
 case round =>
  obtain ⟨k, hk, rfl, zr4, hno, hbp, hal4, he⟩ := hrel;have HNO := Lib.hid hno; have HBP := Lib.hid hbp; have HAL := Lib.hid hal4; clear hno hbp hal4;obtain ⟨av, nv, cv, hvv⟩ := NO.slice HNO.out;subst hvv;have zr := he.size;have bt := Bt.out.ext (w' := wr) xe;have lt := bt.lt;obtain ⟨pt_0, pt_1⟩ := blk2 bt;clear bt;have bp := HBP.out.ext (w' := wr) xe;have lbp := bp.lt;obtain ⟨qbp_0, qbp_1, qbp_2, qbp_3⟩ := blk4 bp;have fbp_0 := bp.frozen 0;have fbp_1 := bp.frozen 1;have fbp_2 := bp.frozen 2;have fbp_3 := bp.frozen 3;clear bp;by_cases hlt : k < al.length
  · obtain ⟨b, off, rfl, hb, hkl, hc⟩ := (IntSO_rd HAL.out).at_ hlt
    have HY := Lib.hid (origMsgsTo_yes (t := t) (p := p) (r := r) (ts := ts) al k hkl);have HN := Lib.hid (origMsgsTo_no (t := t) (p := p) (r := r) (ts := ts) al k hkl)
    have hml : (origMsgsTo t p r ts (al.take k)).length ≤ 6 := by have := origMsgsTo_len t p r ts (al.take k); rw [List.length_take] at this; omega
    have hc : wr.cell? ⟨b, off + k, none⟩ = some (I al[k]) := hc
    generalize hok9 : al[k] = o at *
    have HOK := Lib.hid hok9; clear hok9
    generalize origMsgsTo t p r ts (al.take k) = ds at *
    obtain ⟨m, hrm, hma⟩ := isAs_nat (HAS.out (by omega));obtain ⟨b2, off2, hA2, hb2, hkl2, hc2⟩ := (St_0.out.ext (w' := wr) xe).at_ hma
    have HBE : Hid (origBeta t r ts o = mac t.ases[m].key [ts, o]) := by unfold Hid origBeta; rw [hrm, asAt_nat t m hma]
    subst hrm;subst hA2
    generalize t.ases[m] = x at *
    obtain ⟨x0, x1, x2⟩ := hc2
    have i0 : (0 : Int) ≤ (m : Int) := by omega
    have i2 : (0 : Int) ≤ (k : Int) := by omega
    have i3 : (k : Int) < (al.length : Int) := by omega
    have i1 : (m : Int) < (t.ases.length : Int) := by omega
    have hok : origMsgOk t p m ts o = origOk t p m o ts (origBeta t m ts o) := rfl;have hms : origMsg t p m ts o = ⟨(remEnd t m o).1, ⟨(remEnd t m o).2, origSeg t p m o ts (origBeta t m ts o)⟩⟩ := rfl;rw [HBE.out] at hok hms;have HMS := Lib.hid hms; clear hms
    generalize hbe : mac x.key [ts, o] = be at *
    have HB := Lib.hid hbe; clear hbe
    generalize hsg : origSeg t p m o ts be = sg at *
    have HSG := Lib.hid hsg; clear hsg;cases hv : origOk t p m o ts be
    · have HS := Lib.hid (HN.out (hok.trans hv))
      have HV := Lib.hid hv; clear hv hok;go_wp2_with fail
      refine wp_region_LQ 26 24 _ _ _ rfl (E := Ext) (w0 := wr) (G := fun τ => match τ with | 55 => some (fun v W => IntS W.heap.size W v ([ts, o])) | 56 => some (fun v W => v = I be) | 57 => some (fun v W => PairO wr.heap.size false sg v W) | 13 => some (fun v W => Zero1 33 wr.heap.size [I 0, I 0, .slice none 0 0] v W) | _ => none)  Ext.refl (fun h k => Ext.trans h k) (by kernel_rfl) (by kernel_rfl) (by kernel_rfl) (by kernel_rfl) rfl rfl rfl rfl rfl rfl (by kernel_rfl) (pure_extract rfl) (by kernel_rfl) (by kernel_rfl) (by kernel_rfl) (by kernel_rfl) (by kernel_rfl) (by kernel_rfl) xg (Ext.drew (by exact Ext.refl _)) ?_;simp only [List.take_succ_cons, List.take_zero]
      repeat' (first
       | ((with_reducible refine wpL_skip ?_ ?_ ?_)
          · rfl
          · rfl
          simp only [putS])
       | ((with_reducible refine wpL_quiet ?_ ?_ ?_ ?_)
          · rfl
          · rfl
          · rfl
          apply Exists.intro
          refine ⟨fun W hW hS => ?_, ?_⟩
          · have hC := (Ext.facts hW).1
            go_simp
            first | done | (with_reducible rfl) | (rw [if_neg (by omega)]; exact ⟨rfl, rfl⟩) | rfl
          first | (with_reducible refine wpL_boolT ?_) | (with_reducible refine wpL_boolF ?_) | (with_reducible refine wpL_bool (fun hB => ?_) (fun hB => ?_)) | skip
          all_goals simp only [putS])
       | ((refine wpL_call ?_ rfl rfl ?_ ?_ ?_)
          · rfl
          · rfl
          · intro W hW hS
            have hC := (Ext.facts hW).1;unfold growAt
            go_simp
            simp only [growUpon]
            first | (refine ⟨xe, Own.ints (E := 3) (n := 2) (lo := 0) ?_⟩; (first | exact own_new _ _ _ _ _ rfl (Nat.zero_le _) | exact own_newN _ _ _ _ _ _ _ rfl (by simp) (by unfold maxLen; omega) (Nat.zero_le _))) | (go_at_call 140; have hs55 : IntS W.heap.size W _ [ts, o] := hS 55 (by decide); (with_reducible refine Calls.mono (spec_ComputeMAC _ _ [ts, o] _ hs55 (by simp)) ?_); rintro e w9 ⟨rfl, e9⟩; exact ⟨_, rfl, e9, by rw [HB.out]⟩) | (go_at_call 144; (with_reducible refine Calls.mono (spec_Originate _ p _ _ _ _ t _ (by exact Rt.out.ext xe)) ?_); rintro e w9 ⟨v9, rfl, o9, e9⟩; exact ⟨_, rfl, e9, v9, by rw [HV.out], by rw [← HSG.out]; exact SegmentO.more o9 (Ext.size hW) (Nat.le_refl _)⟩) | (exact ⟨xe, _, rfl, Ext.size (by assumption), Blk.new _ _ _⟩)
          first | (with_reducible refine wpL_boolT ?_) | (with_reducible refine wpL_boolF ?_) | (with_reducible refine wpL_bool (fun hB => ?_) (fun hB => ?_)) | skip
          all_goals simp only [putS])
       | ((refine wpL_grow ?_ rfl rfl ?_ ?_)
          · rfl
          · intro W hW hS
            have hC := (Ext.facts hW).1;unfold growAt
            go_simp
            simp only [growUpon]
            first | (refine ⟨xe, Own.ints (E := 3) (n := 2) (lo := 0) ?_⟩; (first | exact own_new _ _ _ _ _ rfl (Nat.zero_le _) | exact own_newN _ _ _ _ _ _ _ rfl (by simp) (by unfold maxLen; omega) (Nat.zero_le _))) | (go_at_call 140; have hs55 : IntS W.heap.size W _ [ts, o] := hS 55 (by decide); (with_reducible refine Calls.mono (spec_ComputeMAC _ _ [ts, o] _ hs55 (by simp)) ?_); rintro e w9 ⟨rfl, e9⟩; exact ⟨_, rfl, e9, by rw [HB.out]⟩) | (go_at_call 144; (with_reducible refine Calls.mono (spec_Originate _ p _ _ _ _ t _ (by exact Rt.out.ext xe)) ?_); rintro e w9 ⟨v9, rfl, o9, e9⟩; exact ⟨_, rfl, e9, v9, by rw [HV.out], by rw [← HSG.out]; exact SegmentO.more o9 (Ext.size hW) (Nat.le_refl _)⟩) | (exact ⟨xe, _, rfl, Ext.size (by assumption), Blk.new _ _ _⟩)
          intro v W' hW' hv
          first | (subst hv) | (obtain ⟨v8, rfl, hv8⟩ := hv; obtain ⟨A8, n8, c8, rfl⟩ := SegmentO.shape hv8) | (obtain ⟨g5, rfl, -⟩ := hv) | (obtain ⟨A5, n5, c5, rfl, -⟩ := id hv; clear hv) | (obtain ⟨A5, n5, c5, rfl⟩ := NO.slice hv) | skip
          all_goals simp only [putS]))
      refine wpL_nil (fun w5 ew5 hL => ?_);have hal : IntSO w3.heap.size w4.heap.size w5 (.slice (some ⟨b, off, none⟩) al.length c1) al := Own.ext HAL.out ew5 (by omega);have hno : BeaconMessageSO wb.heap.size wr.heap.size w5 (.slice av nv cv) ds := NO.at' BeaconMessageOC.keeps HNO.out ew5;have hbp : Blk w5 w2.heap.size 82 [I p.maxLen, I p.denied, I p.closed, I p.life] := Blk.ext HBP.out ew5;have pz : Zero1 33 wr.heap.size [I 0, I 0, .slice none 0 0] _ w5 := hL 13;obtain ⟨gz, hgz, hgl, hbz⟩ := pz
      have hge : gz = g5 := by injection hgz with h; injection h with h; injection h with h1; exact h1.symm
      subst hge;clear hgz hL;have zw5 := ew5.size;have lz := hbz.lt;obtain ⟨yz_0, yz_1, yz_2⟩ := blk3 hbz;have fz_0 := hbz.frozen 0;have fz_1 := hbz.frozen 1;have fz_2 := hbz.frozen 2;have Zhal := Lib.hid (Own.setT (Own.setT (Own.setT hal hbz (by decide) 0 (I sg.ts)) (Blk.set_ hbz 0 (I sg.ts)) (by decide) 1 (I sg.beta)) (Blk.set_ (Blk.set_ hbz 0 (I sg.ts)) 1 (I sg.beta)) (by decide) 2 (.slice A8 n8 c8));have Zhno := Lib.hid (BeaconMessageSO_setCell (BeaconMessageSO_setCell (BeaconMessageSO_setCell hno (p := ⟨gz, 0, none⟩) (.inr hgl) (I sg.ts)) (p := ⟨gz, 1, none⟩) (.inr hgl) (I sg.beta)) (p := ⟨gz, 2, none⟩) (.inr hgl) (.slice A8 n8 c8));have Zhbp := Lib.hid (Blk.far (Blk.far (Blk.far hbp (p := ⟨gz, 0, none⟩) (by dsimp only; omega) (I sg.ts)) (p := ⟨gz, 1, none⟩) (by dsimp only; omega) (I sg.beta)) (p := ⟨gz, 2, none⟩) (by dsimp only; omega) (.slice A8 n8 c8));have BW := Lib.hid (Blk.set_ (Blk.set_ (Blk.set_ hbz 0 (I sg.ts)) 1 (I sg.beta)) 2 (.slice A8 n8 c8));clear hbz hal hno hbp
      apply Exists.intro
      refine ⟨⟨_, ?run, .inl rfl⟩, ?_⟩
      case run =>
       go_simp
       first | done | rfl
      go_wp2_with fail
      clear yz_0 fz_0 yz_1 fz_1 yz_2 fz_2
      first | refine name_wp ?_ ?_ ?_ | refine name_calls ?_ ?_ ?_
      exact (fun W => Ext wr W ∧ w5.heap.size = W.heap.size ∧ Blk W gz 33 [I sg.ts, I sg.beta, .slice A8 n8 c8] ∧ IntSO w3.heap.size w4.heap.size W (.slice (some ⟨b, off, none⟩) al.length c1) al ∧ BeaconMessageSO wb.heap.size wr.heap.size W (.slice av nv cv) ds ∧ Blk W w2.heap.size 82 [I p.maxLen, I p.denied, I p.closed, I p.life]);exact ⟨xe, (by simp only [World.size_setCell]), (by simpa using BW.out), (by (try simp only [World.size_setCell]); exact Zhal.out), (by (try simp only [World.size_setCell]); exact Zhno.out), (by (try simp only [World.size_setCell]); exact Zhbp.out)⟩;clear BW Zhal Zhno Zhbp;rintro w6 ⟨ew6, zw6, bz, hal, hno, hbp⟩;have BZ := Lib.hid bz; clear bz;have Hhal := Lib.hid hal; clear hal;have Hhno := Lib.hid hno; clear hno;have Hhbp := Lib.hid hbp; clear hbp;have z56 := zw5
      have hb6 : b < w6.heap.size := by omega
      have hal6 : IntSO w3.heap.size w4.heap.size w6 (.slice (some ⟨b, off, none⟩) al.length c1) al := Hhal.out;obtain ⟨b9, off9, hA9, hb9, hkl9, hc9⟩ := (IntSO_rd hal6).at_ hlt;cases hA9;have hc9 : w6.cell? ⟨b, off + k, none⟩ = some (I o) := hc9.trans (by rw [HOK.out]);have bt := Bt.out.ext (w' := w6) xe;have lt := bt.lt;obtain ⟨pt_0, pt_1⟩ := blk2 bt;clear bt;refine wp_region_L (E := Ext) (w0 := w6) (G := fun τ => match τ with | 67 => some (fun v W => v = .tuple #[I (remEnd t m o).1, I (remEnd t m o).2]) | _ => none) Ext.refl (fun h k => Ext.trans h k) (by kernel_rfl) (by kernel_rfl) xg (Ext.drew (by exact Ext.refl _)) ?_
      repeat' (first
       | ((with_reducible refine wpL_skip ?_ ?_ ?_)
          · rfl
          · rfl
          simp only [putS])
       | ((with_reducible refine wpL_quiet ?_ ?_ ?_ ?_)
          · rfl
          · rfl
          · rfl
          apply Exists.intro
          refine ⟨fun W hW hS => ?_, ?_⟩
          · have hC := (Ext.facts hW).1
            go_simp
            first | done | (with_reducible rfl) | (rw [if_neg (by omega)]; exact ⟨rfl, rfl⟩) | rfl
          first | (with_reducible refine wpL_boolT ?_) | (with_reducible refine wpL_boolF ?_) | (with_reducible refine wpL_bool (fun hB => ?_) (fun hB => ?_)) | skip
          all_goals simp only [putS])
       | ((refine wpL_call ?_ rfl rfl ?_ ?_ ?_)
          · rfl
          · rfl
          · intro W hW hS
            have hC := (Ext.facts hW).1;unfold growAt
            go_simp
            simp only [growUpon]
            first | (go_at_call 65; (with_reducible refine Calls.mono (spec_RemoteEnd _ _ _ t _ (by exact Rt.out.ext xe)) ?_); rintro e w9 ⟨rfl, e9⟩; exact ⟨_, rfl, e9, rfl⟩)
          first | (with_reducible refine wpL_boolT ?_) | (with_reducible refine wpL_boolF ?_) | (with_reducible refine wpL_bool (fun hB => ?_) (fun hB => ?_)) | skip
          all_goals simp only [putS])
       | ((refine wpL_grow ?_ rfl rfl ?_ ?_)
          · rfl
          · intro W hW hS
            have hC := (Ext.facts hW).1;unfold growAt
            go_simp
            simp only [growUpon]
            first | (go_at_call 65; (with_reducible refine Calls.mono (spec_RemoteEnd _ _ _ t _ (by exact Rt.out.ext xe)) ?_); rintro e w9 ⟨rfl, e9⟩; exact ⟨_, rfl, e9, rfl⟩)
          intro v W' hW' hv
          first | (subst hv) | (obtain ⟨A5, n5, c5, rfl, -⟩ := id hv; clear hv) | (obtain ⟨A5, n5, c5, rfl⟩ := NO.slice hv) | skip
          all_goals simp only [putS]))
      refine wpL_nil (fun w7 e7 hL => ?_);clear hL;have z7 := e7.size;go_wp2_with fail
      go_roundw
      case rel => exact ⟨k + 1, by omega, by go_num, by omega, by rw [HS.out]; exact NO.more (NO.at' BeaconMessageOC.keeps Hhno.out e7) (Nat.le_refl _) (by omega), Hhbp.out.ext e7, Own.ext Hhal.out e7 (by omega), xe⟩
      case measure => simp [intOf]; omega
    · have HS := Lib.hid (HY.out (hok.trans hv))
      rw [HMS.out] at HS;have HV := Lib.hid hv; clear hv hok;go_wp2_with fail
      refine wp_region_LQ 26 24 _ _ _ rfl (E := Ext) (w0 := wr) (G := fun τ => match τ with | 55 => some (fun v W => IntS W.heap.size W v ([ts, o])) | 56 => some (fun v W => v = I be) | 57 => some (fun v W => PairO wr.heap.size true sg v W) | 13 => some (fun v W => Zero1 33 wr.heap.size [I 0, I 0, .slice none 0 0] v W) | _ => none)  Ext.refl (fun h k => Ext.trans h k) (by kernel_rfl) (by kernel_rfl) (by kernel_rfl) (by kernel_rfl) rfl rfl rfl rfl rfl rfl (by kernel_rfl) (pure_extract rfl) (by kernel_rfl) (by kernel_rfl) (by kernel_rfl) (by kernel_rfl) (by kernel_rfl) (by kernel_rfl) xg (Ext.drew (by exact Ext.refl _)) ?_;simp only [List.take_succ_cons, List.take_zero]
      repeat' (first
       | ((with_reducible refine wpL_skip ?_ ?_ ?_)
          · rfl
          · rfl
          simp only [putS])
       | ((with_reducible refine wpL_quiet ?_ ?_ ?_ ?_)
          · rfl
          · rfl
          · rfl
          apply Exists.intro
          refine ⟨fun W hW hS => ?_, ?_⟩
          · have hC := (Ext.facts hW).1
            go_simp
            first | done | (with_reducible rfl) | (rw [if_neg (by omega)]; exact ⟨rfl, rfl⟩) | rfl
          first | (with_reducible refine wpL_boolT ?_) | (with_reducible refine wpL_boolF ?_) | (with_reducible refine wpL_bool (fun hB => ?_) (fun hB => ?_)) | skip
          all_goals simp only [putS])
       | ((refine wpL_call ?_ rfl rfl ?_ ?_ ?_)
          · rfl
          · rfl
          · intro W hW hS
            have hC := (Ext.facts hW).1;unfold growAt
            go_simp
            simp only [growUpon]
            first | (refine ⟨xe, Own.ints (E := 3) (n := 2) (lo := 0) ?_⟩; (first | exact own_new _ _ _ _ _ rfl (Nat.zero_le _) | exact own_newN _ _ _ _ _ _ _ rfl (by simp) (by unfold maxLen; omega) (Nat.zero_le _))) | (go_at_call 140; have hs55 : IntS W.heap.size W _ [ts, o] := hS 55 (by decide); (with_reducible refine Calls.mono (spec_ComputeMAC _ _ [ts, o] _ hs55 (by simp)) ?_); rintro e w9 ⟨rfl, e9⟩; exact ⟨_, rfl, e9, by rw [HB.out]⟩) | (go_at_call 144; (with_reducible refine Calls.mono (spec_Originate _ p _ _ _ _ t _ (by exact Rt.out.ext xe)) ?_); rintro e w9 ⟨v9, rfl, o9, e9⟩; exact ⟨_, rfl, e9, v9, by rw [HV.out], by rw [← HSG.out]; exact SegmentO.more o9 (Ext.size hW) (Nat.le_refl _)⟩) | (exact ⟨xe, _, rfl, Ext.size (by assumption), Blk.new _ _ _⟩)
          first | (with_reducible refine wpL_boolT ?_) | (with_reducible refine wpL_boolF ?_) | (with_reducible refine wpL_bool (fun hB => ?_) (fun hB => ?_)) | skip
          all_goals simp only [putS])
       | ((refine wpL_grow ?_ rfl rfl ?_ ?_)
          · rfl
          · intro W hW hS
            have hC := (Ext.facts hW).1;unfold growAt
            go_simp
            simp only [growUpon]
            first | (refine ⟨xe, Own.ints (E := 3) (n := 2) (lo := 0) ?_⟩; (first | exact own_new _ _ _ _ _ rfl (Nat.zero_le _) | exact own_newN _ _ _ _ _ _ _ rfl (by simp) (by unfold maxLen; omega) (Nat.zero_le _))) | (go_at_call 140; have hs55 : IntS W.heap.size W _ [ts, o] := hS 55 (by decide); (with_reducible refine Calls.mono (spec_ComputeMAC _ _ [ts, o] _ hs55 (by simp)) ?_); rintro e w9 ⟨rfl, e9⟩; exact ⟨_, rfl, e9, by rw [HB.out]⟩) | (go_at_call 144; (with_reducible refine Calls.mono (spec_Originate _ p _ _ _ _ t _ (by exact Rt.out.ext xe)) ?_); rintro e w9 ⟨v9, rfl, o9, e9⟩; exact ⟨_, rfl, e9, v9, by rw [HV.out], by rw [← HSG.out]; exact SegmentO.more o9 (Ext.size hW) (Nat.le_refl _)⟩) | (exact ⟨xe, _, rfl, Ext.size (by assumption), Blk.new _ _ _⟩)
          intro v W' hW' hv
          first | (subst hv) | (obtain ⟨v8, rfl, hv8⟩ := hv; obtain ⟨A8, n8, c8, rfl⟩ := SegmentO.shape hv8) | (obtain ⟨g5, rfl, -⟩ := hv) | (obtain ⟨A5, n5, c5, rfl, -⟩ := id hv; clear hv) | (obtain ⟨A5, n5, c5, rfl⟩ := NO.slice hv) | skip
          all_goals simp only [putS]))
      refine wpL_nil (fun w5 ew5 hL => ?_);have o1 : SegmentO wr.heap.size w5.heap.size w5 (.agg #[I sg.ts, I sg.beta, .slice A8 n8 c8]) sg := PairO.seg (hL 57);have hal : IntSO w3.heap.size w4.heap.size w5 (.slice (some ⟨b, off, none⟩) al.length c1) al := Own.ext HAL.out ew5 (by omega);have hno : BeaconMessageSO wb.heap.size wr.heap.size w5 (.slice av nv cv) ds := NO.at' BeaconMessageOC.keeps HNO.out ew5;have hbp : Blk w5 w2.heap.size 82 [I p.maxLen, I p.denied, I p.closed, I p.life] := Blk.ext HBP.out ew5;have pz : Zero1 33 wr.heap.size [I 0, I 0, .slice none 0 0] _ w5 := hL 13;obtain ⟨gz, hgz, hgl, hbz⟩ := pz
      have hge : gz = g5 := by injection hgz with h; injection h with h; injection h with h1; exact h1.symm
      subst hge;clear hgz hL;have zw5 := ew5.size;have lz := hbz.lt;obtain ⟨yz_0, yz_1, yz_2⟩ := blk3 hbz;have fz_0 := hbz.frozen 0;have fz_1 := hbz.frozen 1;have fz_2 := hbz.frozen 2;have Zo1 := Lib.hid (SegmentO.setT (SegmentO.setT (SegmentO.setT o1 hbz 0 (I sg.ts)) (Blk.set_ hbz 0 (I sg.ts)) 1 (I sg.beta)) (Blk.set_ (Blk.set_ hbz 0 (I sg.ts)) 1 (I sg.beta)) 2 (.slice A8 n8 c8));have Zhal := Lib.hid (Own.setT (Own.setT (Own.setT hal hbz (by decide) 0 (I sg.ts)) (Blk.set_ hbz 0 (I sg.ts)) (by decide) 1 (I sg.beta)) (Blk.set_ (Blk.set_ hbz 0 (I sg.ts)) 1 (I sg.beta)) (by decide) 2 (.slice A8 n8 c8));have Zhno := Lib.hid (BeaconMessageSO_setCell (BeaconMessageSO_setCell (BeaconMessageSO_setCell hno (p := ⟨gz, 0, none⟩) (.inr hgl) (I sg.ts)) (p := ⟨gz, 1, none⟩) (.inr hgl) (I sg.beta)) (p := ⟨gz, 2, none⟩) (.inr hgl) (.slice A8 n8 c8));have Zhbp := Lib.hid (Blk.far (Blk.far (Blk.far hbp (p := ⟨gz, 0, none⟩) (by dsimp only; omega) (I sg.ts)) (p := ⟨gz, 1, none⟩) (by dsimp only; omega) (I sg.beta)) (p := ⟨gz, 2, none⟩) (by dsimp only; omega) (.slice A8 n8 c8));have BW := Lib.hid (Blk.set_ (Blk.set_ (Blk.set_ hbz 0 (I sg.ts)) 1 (I sg.beta)) 2 (.slice A8 n8 c8));clear hbz o1 hal hno hbp
      apply Exists.intro
      refine ⟨⟨_, ?run, .inl rfl⟩, ?_⟩
      case run =>
       go_simp
       first | done | rfl
      go_wp2_with fail
      clear yz_0 fz_0 yz_1 fz_1 yz_2 fz_2
      first | refine name_wp ?_ ?_ ?_ | refine name_calls ?_ ?_ ?_
      exact (fun W => Ext wr W ∧ w5.heap.size = W.heap.size ∧ Blk W gz 33 [I sg.ts, I sg.beta, .slice A8 n8 c8] ∧ SegmentO wr.heap.size W.heap.size W (.agg #[I sg.ts, I sg.beta, .slice A8 n8 c8]) sg ∧ IntSO w3.heap.size w4.heap.size W (.slice (some ⟨b, off, none⟩) al.length c1) al ∧ BeaconMessageSO wb.heap.size wr.heap.size W (.slice av nv cv) ds ∧ Blk W w2.heap.size 82 [I p.maxLen, I p.denied, I p.closed, I p.life]);exact ⟨xe, (by simp only [World.size_setCell]), (by simpa using BW.out), (by (try simp only [World.size_setCell]); exact Zo1.out), (by (try simp only [World.size_setCell]); exact Zhal.out), (by (try simp only [World.size_setCell]); exact Zhno.out), (by (try simp only [World.size_setCell]); exact Zhbp.out)⟩;clear BW Zo1 Zhal Zhno Zhbp;rintro w6 ⟨ew6, zw6, bz, o1, hal, hno, hbp⟩;have BZ := Lib.hid bz; clear bz;have Ho1 := Lib.hid o1; clear o1;have Hhal := Lib.hid hal; clear hal;have Hhno := Lib.hid hno; clear hno;have Hhbp := Lib.hid hbp; clear hbp;have z56 := zw5
      have hb6 : b < w6.heap.size := by omega
      have hal6 : IntSO w3.heap.size w4.heap.size w6 (.slice (some ⟨b, off, none⟩) al.length c1) al := Hhal.out;obtain ⟨b9, off9, hA9, hb9, hkl9, hc9⟩ := (IntSO_rd hal6).at_ hlt;cases hA9;have hc9 : w6.cell? ⟨b, off + k, none⟩ = some (I o) := hc9.trans (by rw [HOK.out]);have bt := Bt.out.ext (w' := w6) xe;have lt := bt.lt;obtain ⟨pt_0, pt_1⟩ := blk2 bt;clear bt;refine wp_region_L (E := Ext) (w0 := w6) (G := fun τ => match τ with | 67 => some (fun v W => v = .tuple #[I (remEnd t m o).1, I (remEnd t m o).2]) | _ => none) Ext.refl (fun h k => Ext.trans h k) (by kernel_rfl) (by kernel_rfl) xg (Ext.drew (by exact Ext.refl _)) ?_
      repeat' (first
       | ((with_reducible refine wpL_skip ?_ ?_ ?_)
          · rfl
          · rfl
          simp only [putS])
       | ((with_reducible refine wpL_quiet ?_ ?_ ?_ ?_)
          · rfl
          · rfl
          · rfl
          apply Exists.intro
          refine ⟨fun W hW hS => ?_, ?_⟩
          · have hC := (Ext.facts hW).1
            go_simp
            first | done | (with_reducible rfl) | (rw [if_neg (by omega)]; exact ⟨rfl, rfl⟩) | rfl
          first | (with_reducible refine wpL_boolT ?_) | (with_reducible refine wpL_boolF ?_) | (with_reducible refine wpL_bool (fun hB => ?_) (fun hB => ?_)) | skip
          all_goals simp only [putS])
       | ((refine wpL_call ?_ rfl rfl ?_ ?_ ?_)
          · rfl
          · rfl
          · intro W hW hS
            have hC := (Ext.facts hW).1;unfold growAt
            go_simp
            simp only [growUpon]
            first | (go_at_call 65; (with_reducible refine Calls.mono (spec_RemoteEnd _ _ _ t _ (by exact Rt.out.ext xe)) ?_); rintro e w9 ⟨rfl, e9⟩; exact ⟨_, rfl, e9, rfl⟩)
          first | (with_reducible refine wpL_boolT ?_) | (with_reducible refine wpL_boolF ?_) | (with_reducible refine wpL_bool (fun hB => ?_) (fun hB => ?_)) | skip
          all_goals simp only [putS])
       | ((refine wpL_grow ?_ rfl rfl ?_ ?_)
          · rfl
          · intro W hW hS
            have hC := (Ext.facts hW).1;unfold growAt
            go_simp
            simp only [growUpon]
            first | (go_at_call 65; (with_reducible refine Calls.mono (spec_RemoteEnd _ _ _ t _ (by exact Rt.out.ext xe)) ?_); rintro e w9 ⟨rfl, e9⟩; exact ⟨_, rfl, e9, rfl⟩)
          intro v W' hW' hv
          first | (subst hv) | (obtain ⟨A5, n5, c5, rfl, -⟩ := id hv; clear hv) | (obtain ⟨A5, n5, c5, rfl⟩ := NO.slice hv) | skip
          all_goals simp only [putS]))
      refine wpL_nil (fun w7 e7 hL => ?_);clear hL
      generalize (remEnd t m o).1 = m1 at *
      generalize (remEnd t m o).2 = m2 at *
      have z7 := e7.size;have bz := BZ.out.ext (w' := w7) xe;have lbz := bz.lt;obtain ⟨qbz_0, qbz_1, qbz_2⟩ := blk3 bz;have fbz_0 := bz.frozen 0;have fbz_1 := bz.frozen 1;have fbz_2 := bz.frozen 2;clear bz;go_wp2_with (at_builtin; refine hold ?_)
      refine unhold (wpList_pushN rfl wb.heap.size BeaconMessageOC.keeps BeaconMessageOC.one (.tmp 71) (.tmp 77) _ rfl 149 _ 5 56 Tryz.underlying134 info_BeaconMessage rfl (by omega) _ ds [⟨m1, ⟨m2, sg⟩⟩] wr.heap.size wr.heap.size _ rfl _ 1 1 rfl (by exact NO.at' BeaconMessageOC.keeps Hhno.out xe) (by exact msgSingle (SegmentO.up Ho1.out e7) (by omega) (by first | rfl | simp)) (Nat.le_refl _) (by omega) (by simp only [World.size_alloc]; omega) (Nat.le_refl _) (by simp only [World.size_alloc]; omega) (by simp only [List.length_singleton]; omega) (by omega) ?_);intro v8 w8 no8 hg8;have E8 := Lib.hid (Ext.grownN (a := wb) (w := w7.alloc _) xe (NO.at' BeaconMessageOC.keeps Hhno.out (w' := w7.alloc _) xe) hg8 (Nat.le_refl _));have hn7 := NO.at' BeaconMessageOC.keeps Hhno.out (w' := w7.alloc (.cells #[I m1, I m2, I sg.ts, I sg.beta, .slice A8 n8 c8] 149)) xe;obtain ⟨cs7, fp7, hown7, -⟩ := hn7;have B8 := Lib.hid (Blk.grown (Hhbp.out.ext (w' := w7.alloc _) xe) hg8 (Own.off hown7 (Hhbp.out.ext (w' := w7.alloc _) xe) (by decide)));have A8_ := Lib.hid (Own.other (Own.ext Hhal.out (w' := w7.alloc _) xe (by omega)) hown7 (by decide) hg8);have z8 : (w7.alloc _).heap.size ≤ w8.heap.size := hg8.size;simp only [World.size_alloc] at z8;have N8 := Lib.hid no8; clear no8 hg8 hown7;go_wp2_with (at_builtin; refine hold ?_)
      go_roundw
      case rel => exact ⟨k + 1, by omega, by go_num, by omega, by rw [HS.out]; exact N8.out, B8.out, A8_.out, E8.out⟩
      case measure => simp [intOf]; omega
  · obtain rfl : k = al.length := by omega
    go_wp2_with fail
    go_ret
    refine ⟨_, rfl, ?_, xe⟩;have h := HNO.out;rw [List.take_length] at h;rw [HF.out];exact NO.more h (by omega) (Nat.le_refl _)
end Go.Proofs.YtmopmgaeiokfjaaGreat
