/- Contracts of the program's and the reference's functions on the segment database: HasSegment. -/
import Derived.Test.YtmopmgaeiokfjaaGreatGL9
import Derived.Test.YtmopmgaeiokfjaaGreatGHD
set_option maxRecDepth 100000
set_option maxHeartbeats 1000000
namespace Go.Proofs.YtmopmgaeiokfjaaGreat
open Go.RowKit
set_option linter.unusedVariables false
def hasSeg (l : List DSegment) (s : DSegment) : Bool := l.any fun x => decide (x = s)
theorem hasSeg_snoc (l : List DSegment) (s : DSegment) (k : Nat) (h : k < l.length) : hasSeg (l.take (k + 1)) s = (hasSeg (l.take k) s || decide (l[k] = s)) := by
 unfold hasSeg;rw [take_snoc l k h, List.any_append];simp
theorem hasSeg_of (l : List DSegment) (s : DSegment) (k : Nat) (h : k < l.length) (he : decide (l[k] = s) = true) : hasSeg l s = true := by
 unfold hasSeg;rw [List.any_eq_true];exact ⟨l[k], List.getElem_mem h, he⟩
theorem impl_hasSegment (v vs : Value) (l : List DSegment) (s : DSegment) (w : World) (h : SegmentS w.heap.size w v l) (hs : SegmentV w.heap.size w vs s) :
 Calls Tryz.prog 54 #[v, vs] w fun e w' => e = .returned (.bool (hasSeg l s)) ∧ Ext w w' := by
 obtain ⟨A, n, c, rfl, hl, hn, hm, -⟩ := id h;subst hl;unfold maxLen at hm;obtain ⟨A2, n2, c2, rfl, s2⟩ := hs;have H := Lib.hid h; have S2 := Lib.hid s2; clear h s2
 go_enter Tryz.func54, Tryz.ntmps54
 go_wp2_with fail
 have bx : Blk (w.alloc (.cells #[I s.ts, I s.beta, .slice A2 n2 c2] 33)) w.heap.size 33 [I s.ts, I s.beta, .slice A2 n2 c2] := Blk.new w _ _;have ew : Ext w (w.alloc (.cells #[I s.ts, I s.beta, .slice A2 n2 c2] 33)) := (Ext.refl _).alloc _
 generalize w.alloc (.cells #[I s.ts, I s.beta, .slice A2 n2 c2] 33) = w0 at *
 have BX := Lib.hid bx; have EW := Lib.hid ew; clear bx ew
 go_loopw [9] (fun i wr => ∃ k : Nat, k ≤ l.length ∧ i = I k ∧ hasSeg (l.take k) s = false ∧ Ext w0 wr) (fun i _ => l.length - (intOf i).toNat)
 case atStart => exact ⟨0, by omega, rfl, by simp [hasSeg], Ext.refl _⟩
 case round =>
  obtain ⟨k, hk, rfl, hq, he⟩ := hrel;have HQ := Lib.hid hq; have HE := Lib.hid he; clear hq he;have bc := BX.out.ext HE.out;have lbx := bc.lt;obtain ⟨p0, p1, p2⟩ := blk3 bc;clear bc;by_cases hlt : k < l.length
  · obtain ⟨b, off, rfl, hb, hkl, hc⟩ := (H.out.ext (EW.out.trans HE.out)).at_ hlt
    have HN := Lib.hid (hasSeg_snoc l s k hkl);have HO := Lib.hid (hasSeg_of l s k hkl)
    generalize l[k] = y at *
    obtain ⟨A1, n1, c1, h0, h1, h2, s1⟩ := hc;have S1 := Lib.hid s1; clear s1;go_wp2_with fail
    refine (impl_EqualSegments _ _ y s _ (by exact ⟨_, _, _, rfl, S1.out.ext xe⟩) (by exact ⟨_, _, _, rfl, S2.out.ext ((EW.out.trans HE.out).alloc _)⟩)).mono ?_;rintro e w1 ⟨rfl, e1⟩;have e2 : Ext w0 w1 := (HE.out.alloc _).trans e1
    generalize decide (y = s) = bb at *
    cases bb
    · go_wp2_with fail
      go_roundw
      case rel => exact ⟨k + 1, by omega, by go_num, by rw [HN.out, HQ.out]; rfl, e2⟩
      case measure => simp [intOf]; omega
    · go_wp2_with fail
      go_ret
      exact ⟨ret_bool (HO.out (by simp)).symm, EW.out.trans e2⟩
  · obtain rfl : k = l.length := by omega
    go_wp2_with fail
    go_ret
    have h := HQ.out;rw [List.take_length] at h;exact ⟨ret_bool h.symm, EW.out.trans HE.out⟩
theorem spec_l16Has (v vs : Value) (l : List DSegment) (s : DSegment) (w : World) (h : SegmentS w.heap.size w v l) (hs : SegmentV w.heap.size w vs s) :
 Calls Tryz.prog 55 #[v, vs] w fun e w' => e = .returned (.bool (hasSeg l s)) ∧ Ext w w' := by
 obtain ⟨A, n, c, rfl, hl, hn, hm, -⟩ := id h;subst hl;unfold maxLen at hm;obtain ⟨A2, n2, c2, rfl, s2⟩ := hs;have H := Lib.hid h; have S2 := Lib.hid s2; clear h s2
 go_enter Tryz.func55, Tryz.ntmps55
 go_wp2_with fail
 have bx : Blk (w.alloc (.cells #[I s.ts, I s.beta, .slice A2 n2 c2] 33)) w.heap.size 33 [I s.ts, I s.beta, .slice A2 n2 c2] := Blk.new w _ _;have ew : Ext w (w.alloc (.cells #[I s.ts, I s.beta, .slice A2 n2 c2] 33)) := (Ext.refl _).alloc _
 generalize w.alloc (.cells #[I s.ts, I s.beta, .slice A2 n2 c2] 33) = w0 at *
 have BX := Lib.hid bx; have EW := Lib.hid ew; clear bx ew
 go_loopw [5] (fun i wr => ∃ k : Nat, k ≤ l.length ∧ i = I k ∧ hasSeg (l.take k) s = false ∧ Ext w0 wr) (fun i _ => l.length - (intOf i).toNat)
 case atStart => exact ⟨0, by omega, rfl, by simp [hasSeg], Ext.refl _⟩
 case round =>
  obtain ⟨k, hk, rfl, hq, he⟩ := hrel;have HQ := Lib.hid hq; have HE := Lib.hid he; clear hq he;have bc := BX.out.ext HE.out;have lbx := bc.lt;obtain ⟨p0, p1, p2⟩ := blk3 bc;clear bc;by_cases hlt : k < l.length
  · obtain ⟨b, off, rfl, hb, hkl, hc⟩ := (H.out.ext (EW.out.trans HE.out)).at_ hlt
    have HN := Lib.hid (hasSeg_snoc l s k hkl);have HO := Lib.hid (hasSeg_of l s k hkl)
    generalize l[k] = y at *
    obtain ⟨A1, n1, c1, h0, h1, h2, s1⟩ := hc;have S1 := Lib.hid s1; clear s1
    have i0 : (0 : Int) ≤ (k : Int) := by omega
    have i1 : (k : Int) < (l.length : Int) := by omega
    have hdd : decide (y = s) = decide (y = s) := rfl
    obtain ⟨bb, hbb⟩ : ∃ bb, decide (y = s) = bb := ⟨_, rfl⟩
    have HBB := Lib.hid hbb; clear hbb hdd;rw [HBB.out] at HN HO;cases bb
    · go_wp2_with fail
      refine wp_region_ext (w0 := wr) (by kernel_rfl) (by kernel_rfl) (by exact Ext.refl _) ?_
      repeat (first
       | go_big_quiet_skip
       | (go_big_quiet_want
          apply Exists.intro
          refine ⟨fun W hW => ?_, ?_⟩
          · have hS := (Ext.facts hW).1
            go_simp
            first | done | (go_at_call 96; refine (spec_EqualSegments _ _ y s _ (by exact ⟨_, _, _, rfl, S1.out.ext hW⟩) (by exact ⟨_, _, _, rfl, S2.out.ext ((EW.out.trans HE.out).trans hW)⟩)).mono ?_; rintro e w1 ⟨rfl, e1⟩; exact ⟨by rw [HBB.out], hW.trans e1⟩) | (with_reducible rfl)
          simp only [putS]
          go_big_quiet_on))
      refine wpQuiet_nil ?_;intro w1 e1;go_wp2_with fail
      go_roundw
      case rel => exact ⟨k + 1, by omega, by go_num, by rw [HN.out, HQ.out]; rfl, HE.out.trans e1⟩
      case measure => simp [intOf]; omega
    · go_wp2_with fail
      refine wp_region_ext (w0 := wr) (by kernel_rfl) (by kernel_rfl) (by exact Ext.refl _) ?_
      repeat (first
       | go_big_quiet_skip
       | (go_big_quiet_want
          apply Exists.intro
          refine ⟨fun W hW => ?_, ?_⟩
          · have hS := (Ext.facts hW).1
            go_simp
            first | done | (go_at_call 96; refine (spec_EqualSegments _ _ y s _ (by exact ⟨_, _, _, rfl, S1.out.ext hW⟩) (by exact ⟨_, _, _, rfl, S2.out.ext ((EW.out.trans HE.out).trans hW)⟩)).mono ?_; rintro e w1 ⟨rfl, e1⟩; exact ⟨by rw [HBB.out], hW.trans e1⟩) | (with_reducible rfl)
          simp only [putS]
          go_big_quiet_on))
      refine wpQuiet_nil ?_;intro w1 e1;go_wp2_with fail
      go_ret
      exact ⟨ret_bool (HO.out (by simp)).symm, EW.out.trans (HE.out.trans e1)⟩
  · obtain rfl : k = l.length := by omega
    go_wp2_with fail
    go_ret
    have h := HQ.out;rw [List.take_length] at h;exact ⟨ret_bool h.symm, EW.out.trans HE.out⟩
def hasSegment (k : DSegmentDatabase) (s : DSegment) : Bool := hasSeg k.down s || hasSeg k.core s
theorem impl_HasSegment (vk vs : Value) (k : DSegmentDatabase) (s : DSegment) (w : World) (hk : SegmentDatabaseV w.heap.size w vk k) (hs : SegmentV w.heap.size w vs s) :
 Calls Tryz.prog 23 #[vk, vs] w fun e w' => e = .returned (.bool (hasSegment k s)) ∧ Ext w w' := by
 obtain ⟨A0, n0, c0, A1, n1, c1, rfl, s0, s1⟩ := hk;obtain ⟨A2, n2, c2, rfl, s2⟩ := hs;have S0 := Lib.hid s0; have S1 := Lib.hid s1; have S2 := Lib.hid s2; clear s0 s1 s2;cases hd : hasSeg k.down s
 · have HD := Lib.hid hd
   have HF : Hid (hasSegment k s = hasSeg k.core s) := by unfold Hid; simp [hasSegment, hd]
   clear hd
   go_enter Tryz.func23, Tryz.ntmps23
   go_wp2_with fail
   refine (impl_hasSegment _ _ k.down s _ (by exact S0.out.ext xe) (by exact ⟨_, _, _, rfl, S2.out.ext xe⟩)).mono ?_;rintro e w1 ⟨rfl, e1⟩;rw [HD.out];obtain ⟨hc1, hf1, hz1⟩ := e1.facts;simp only [World.size_alloc] at hc1 hf1 hz1
   have la : w.heap.size < w1.heap.size := by omega
   have lb : w.heap.size + 1 < w1.heap.size := by omega
   go_wp2_with fail
   refine (impl_hasSegment _ _ k.core s _ (by exact S1.out.ext xe) (by exact ⟨_, _, _, rfl, S2.out.ext xe⟩)).mono ?_;rintro e w2 ⟨rfl, e2⟩;go_wp2_with fail
   go_ret
   exact ⟨ret_bool HF.out.symm, xe⟩
 · have HD := Lib.hid hd
   have HF : Hid (hasSegment k s = true) := by unfold Hid; simp [hasSegment, hd]
   clear hd
   go_enter Tryz.func23, Tryz.ntmps23
   go_wp2_with fail
   refine (impl_hasSegment _ _ k.down s _ (by exact S0.out.ext xe) (by exact ⟨_, _, _, rfl, S2.out.ext xe⟩)).mono ?_;rintro e w1 ⟨rfl, e1⟩;rw [HD.out];go_wp2_with fail
   go_ret
   exact ⟨ret_bool HF.out.symm, xe⟩
theorem spec_HasSegment (vk vs : Value) (k : DSegmentDatabase) (s : DSegment) (w : World) (hk : SegmentDatabaseV w.heap.size w vk k) (hs : SegmentV w.heap.size w vs s) :
 Calls Tryz.prog 24 #[vk, vs] w fun e w' => e = .returned (.bool (hasSegment k s)) ∧ Ext w w' := by
 obtain ⟨A0, n0, c0, A1, n1, c1, rfl, s0, s1⟩ := hk;obtain ⟨A2, n2, c2, rfl, s2⟩ := hs;have S0 := Lib.hid s0; have S1 := Lib.hid s1; have S2 := Lib.hid s2; clear s0 s1 s2;cases hd : hasSeg k.down s
 · have HD := Lib.hid hd
   have HF : Hid (hasSegment k s = hasSeg k.core s) := by unfold Hid; simp [hasSegment, hd]
   clear hd
   go_enter Tryz.func24, Tryz.ntmps24
   go_wp2_with fail
   refine (spec_l16Has _ _ k.down s _ (by exact S0.out.ext xe) (by exact ⟨_, _, _, rfl, S2.out.ext xe⟩)).mono ?_;rintro e w1 ⟨rfl, e1⟩;rw [HD.out];obtain ⟨hc1, hf1, hz1⟩ := e1.facts;simp only [World.size_alloc] at hc1 hf1 hz1
   have la : w.heap.size < w1.heap.size := by omega
   have lb : w.heap.size + 1 < w1.heap.size := by omega
   go_wp2_with fail
   refine (spec_l16Has _ _ k.core s _ (by exact S1.out.ext xe) (by exact ⟨_, _, _, rfl, S2.out.ext xe⟩)).mono ?_;rintro e w2 ⟨rfl, e2⟩;go_wp2_with fail
   go_ret
   exact ⟨ret_bool HF.out.symm, xe⟩
 · have HD := Lib.hid hd
   have HF : Hid (hasSegment k s = true) := by unfold Hid; simp [hasSegment, hd]
   clear hd
   go_enter Tryz.func24, Tryz.ntmps24
   go_wp2_with fail
   refine (spec_l16Has _ _ k.down s _ (by exact S0.out.ext xe) (by exact ⟨_, _, _, rfl, S2.out.ext xe⟩)).mono ?_;rintro e w1 ⟨rfl, e1⟩;rw [HD.out];go_wp2_with fail
   go_ret
   exact ⟨ret_bool HF.out.symm, xe⟩
abbrev segTot (l : List DSegment) : Nat := totS (fun u => u.hops.length) l
def downSegs (k : DSegmentDatabase) (r : Int) : List DSegment := k.down.filter fun s => lastAS s == r
def btw (a b : Int) (s : DSegment) : Bool := firstAS s == a && lastAS s == b
def coreFrom (k : DSegmentDatabase) (a b : Int) : List DSegment := k.core.filter (btw a b)
def coreSegs (k : DSegmentDatabase) (a b : Int) : List DSegment := coreFrom k a b ++ coreFrom k b a
theorem impl_DownSegments (vx : Value) (r : Int) (x : DSegmentDatabase) (w : World) (hx : SegmentDatabaseV w.heap.size w vx x) (hn : segTot x.down + segTot x.core ≤ 1048576) :
 Calls Tryz.prog 17 #[vx, I r] w fun e w' => ∃ v', e = .returned v' ∧ SegmentSO w.heap.size w'.heap.size w' v' (downSegs x r) ∧ Ext w w' := by
 obtain ⟨Ax_0, nx_0, cx_0, Ax_1, nx_1, cx_1, rfl, sx_0, sx_1⟩ := id hx;obtain ⟨lx_0, kx_0, mx_0⟩ := sx_0.len;subst lx_0;unfold maxLen at mx_0;obtain ⟨lx_1, kx_1, mx_1⟩ := sx_1.len;subst lx_1;unfold maxLen at mx_1;have Rx := Lib.hid hx; clear hx;have Sx_0 := Lib.hid sx_0; clear sx_0;have Sx_1 := Lib.hid sx_1; clear sx_1;have hn : totS (fun u : DSegment => u.hops.length) x.down + totS (fun u : DSegment => u.hops.length) x.core ≤ 1048576 := hn;have hdl := totS_len (fun u : DSegment => u.hops.length) x.down
 go_enter Tryz.func17, Tryz.ntmps17
 go_wp2_with fail
 first | refine name_wp ?_ ?_ ?_ | refine name_calls ?_ ?_ ?_
 exact (fun W => Ext w W ∧ Blk W (w.heap.size) 30 [.slice Ax_0 x.down.length cx_0, .slice Ax_1 x.core.length cx_1]);exact ⟨xe, xb⟩;rintro w0 ⟨ew0, bx⟩;have lx := bx.lt;obtain ⟨px_0, px_1⟩ := blk2 bx;have Bx := Lib.hid bx; clear bx
 go_loopw [5, 11] (fun v i wr => ∃ k : Nat, k ≤ x.down.length ∧ i = I k ∧ SegmentSO w0.heap.size wr.heap.size wr v ((x.down.take k).filter (fun s => lastAS s == r)) ∧ Ext w0 wr) (fun _ i _ => x.down.length - (intOf i).toNat)
 case atStart => exact ⟨0, by omega, rfl, NO.nil _ _ _ _ _ _, xe⟩
 case round =>
  obtain ⟨k, hk, rfl, hno, he⟩ := hrel;have HNO := Lib.hid hno; clear hno;have zr := he.size;have bx := Bx.out.ext (w' := wr) xe;have lx := bx.lt;obtain ⟨px_0, px_1⟩ := blk2 bx;clear bx;by_cases hlt : k < x.down.length
  · obtain ⟨b, off, rfl, hb, hkl, hc⟩ := (Sx_0.out.ext (w' := wr) xe).at_ hlt
    have hyl := totS_get (fun u : DSegment => u.hops.length) x.down k hkl;have HX := Lib.hid (filter_snoc (fun s => lastAS s == r) x.down k hkl);have hfl := filter_take_len (fun s => lastAS s == r) x.down k;have hyl : x.down[k].hops.length ≤ totS (fun u : DSegment => u.hops.length) x.down := hyl
    generalize x.down[k] = u at *
    generalize hds : (x.down.take k).filter (fun s => lastAS s == r) = ds at *
    have HDS := Lib.hid hds; clear hds
    have i0 : (0 : Int) ≤ (k : Int) := by omega
    have i1 : (k : Int) < (x.down.length : Int) := by omega
    obtain ⟨Au_2, nu_2, cu_2, hu_0, hu_1, hu_2, su_2⟩ := hc;obtain ⟨lu_2, ku_2, mu_2⟩ := su_2.len;subst lu_2;unfold maxLen at mu_2
    have Ru : Hid (SegmentV wr.heap.size wr (.agg #[I u.ts, I u.beta, .slice Au_2 u.hops.length cu_2]) u) := ⟨_, _, _, rfl, su_2⟩
    have Su_2 := Lib.hid su_2; clear su_2;by_cases h0 : lastAS u = r
    · have HS : Hid ((x.down.take (k + 1)).filter (fun s => lastAS s == r) = ds ++ [u]) := by unfold Hid; rw [HX.out]; simp [*]
      go_wp2_with fail
      first | refine name_wp ?_ ?_ ?_ | refine name_calls ?_ ?_ ?_
      exact (fun W => Ext wr W ∧ Blk W (wr.heap.size) 33 [I u.ts, I u.beta, .slice Au_2 u.hops.length cu_2]);exact ⟨xe, xb⟩;rintro w3 ⟨ew3, bu⟩;have lu := bu.lt;obtain ⟨pu_0, pu_1, pu_2⟩ := blk3 bu;have Bu := Lib.hid bu; clear bu;have bx := Bx.out.ext (w' := w3) xe;have lx := bx.lt;obtain ⟨px_0, px_1⟩ := blk2 bx;clear bx;refine (impl_LastAS _ (u) _ (by exact Ru.out.ext xe)).mono ?_;rintro e w4a ⟨rfl, ew4a⟩;have bx := Bx.out.ext (w' := w4a) xe;have lx := bx.lt;obtain ⟨px_0, px_1⟩ := blk2 bx;clear bx;have bu := Bu.out.ext (w' := w4a) xe;have lu := bu.lt;obtain ⟨pu_0, pu_1, pu_2⟩ := blk3 bu;clear bu;rw [h0];clear h0;go_wp2_with fail
      refine (impl_copySegment _ u _ (by exact Ru.out.ext xe) (by omega)).mono ?_;rintro e w5 ⟨v5, rfl, o5, ew5⟩;have z4 : wr.heap.size ≤ w4a.heap.size := Ext.size xe;obtain ⟨a5, k5, q5, fp5, hv5, hoc5, hn5, hb5⟩ := o5.to_oc;subst hv5;have HOC5 := Lib.hid hoc5; have HN5 := Lib.hid hn5; have HB5 := Lib.hid hb5; clear o5 hoc5 hn5 hb5;have z5 := ew5.size;go_wp2_with (at_builtin; refine hold ?_)
      refine unhold (wpList_push (OC := SegmentOC) w0 SegmentOC.keeps SegmentOC.one rfl (.tmp 19) (.tmp 22) _ rfl 33 _ 3 40 Tryz.underlying28 info_Segment rfl (by omega) _ (ds) [u] wr.heap.size rfl _ 1 1 _ fp5 rfl
       (by exact NO.at' SegmentOC.keeps HNO.out xe) (by simp only [World.size_alloc]; omega) (row_one _ _ _ _ _ (by first | rfl | simp) rfl) (OL.one (SegmentOC.keeps _ _ _ _ _ (fun b hb hs => Ext.same (a := w5) xe b hs) HOC5.out) rfl) HN5.out (fun b hb => ⟨(by have := HB5.out b hb; omega), (by have := HB5.out b hb; simp only [World.size_alloc]; omega)⟩) (by omega) xe (by simp only [List.length_singleton]; omega) (by omega) ?_)
      intro v6 w6 no6 e6;have NO6 := Lib.hid no6; clear no6;go_wp2_with (at_builtin; refine hold ?_)
      go_roundw
      case rel => exact ⟨k + 1, by omega, by go_num, by rw [HS.out]; exact NO6.out, e6⟩
      case measure => simp [intOf]; omega
    · have HS : Hid ((x.down.take (k + 1)).filter (fun s => lastAS s == r) = ds) := by unfold Hid; rw [HX.out]; simp [*]
      have g0 : (lastAS u == r) = false := beq_eq_false_iff_ne.2 h0;go_wp2_with fail
      first | refine name_wp ?_ ?_ ?_ | refine name_calls ?_ ?_ ?_
      exact (fun W => Ext wr W ∧ Blk W (wr.heap.size) 33 [I u.ts, I u.beta, .slice Au_2 u.hops.length cu_2]);exact ⟨xe, xb⟩;rintro w3 ⟨ew3, bu⟩;have lu := bu.lt;obtain ⟨pu_0, pu_1, pu_2⟩ := blk3 bu;have Bu := Lib.hid bu; clear bu;have bx := Bx.out.ext (w' := w3) xe;have lx := bx.lt;obtain ⟨px_0, px_1⟩ := blk2 bx;clear bx;refine (impl_LastAS _ (u) _ (by exact Ru.out.ext xe)).mono ?_;rintro e w4a ⟨rfl, ew4a⟩;have bx := Bx.out.ext (w' := w4a) xe;have lx := bx.lt;obtain ⟨px_0, px_1⟩ := blk2 bx;clear bx;have bu := Bu.out.ext (w' := w4a) xe;have lu := bu.lt;obtain ⟨pu_0, pu_1, pu_2⟩ := blk3 bu;clear bu
      generalize lastAS u = qq at *
      go_wp2_with fail
      go_roundw
      case rel => exact ⟨k + 1, by omega, by go_num, by rw [HS.out]; exact NO.up SegmentOC.keeps HNO.out xe (Nat.le_refl _), xe⟩
      case measure => simp [intOf]; omega
  · obtain rfl : k = x.down.length := by omega
    go_wp2_with fail
    go_ret
    refine ⟨_, rfl, ?_, xe⟩;have h := HNO.out;rw [List.take_length] at h;exact NO.more h (by have := ew0.size; omega) (Nat.le_refl _)
theorem spec_DownSegments (vx : Value) (r : Int) (x : DSegmentDatabase) (w : World) (hx : SegmentDatabaseV w.heap.size w vx x) (hn : segTot x.down + segTot x.core ≤ 1048576) :
 Calls Tryz.prog 18 #[vx, I r] w fun e w' => ∃ v', e = .returned v' ∧ SegmentSO w.heap.size w'.heap.size w' v' (downSegs x r) ∧ Ext w w' := by
 obtain ⟨Ax_0, nx_0, cx_0, Ax_1, nx_1, cx_1, rfl, sx_0, sx_1⟩ := id hx;obtain ⟨lx_0, kx_0, mx_0⟩ := sx_0.len;subst lx_0;unfold maxLen at mx_0;obtain ⟨lx_1, kx_1, mx_1⟩ := sx_1.len;subst lx_1;unfold maxLen at mx_1;have Rx := Lib.hid hx; clear hx;have Sx_0 := Lib.hid sx_0; clear sx_0;have Sx_1 := Lib.hid sx_1; clear sx_1;have hn : totS (fun u : DSegment => u.hops.length) x.down + totS (fun u : DSegment => u.hops.length) x.core ≤ 1048576 := hn;have hdl := totS_len (fun u : DSegment => u.hops.length) x.down
 go_enter Tryz.func18, Tryz.ntmps18
 go_wp2_with fail
 refine name_wp (fun W => ∃ wb, Ext w wb ∧ Blk wb w.heap.size 30 [.slice Ax_0 x.down.length cx_0, .slice Ax_1 x.core.length cx_1] ∧ Ext wb W ∧ SegmentSO wb.heap.size W.heap.size W (.slice (some ⟨w.heap.size + 1, 0, none⟩) 0 0) []) ⟨_, (Ext.refl _).alloc _, Blk.new _ _ _, (Ext.refl _).alloc _, NO.zero _ _ _ _ _ _ (by simp) (Nat.le_refl _)⟩ ?_;rintro wz ⟨w0, ew0, bx, ez, hz⟩;have Bx := Lib.hid bx; clear bx;have HZ := Lib.hid hz; clear hz
 go_loopw [5, 6] (fun v i wr => ∃ k : Nat, k ≤ x.down.length ∧ i = I k ∧ SegmentSO w0.heap.size wr.heap.size wr v ((x.down.take k).filter (fun s => lastAS s == r)) ∧ Ext w0 wr) (fun _ i _ => x.down.length - (intOf i).toNat)
 case atStart => exact ⟨0, by omega, rfl, HZ.out, xe⟩
 case round =>
  obtain ⟨k, hk, rfl, hno, he⟩ := hrel;have HNO := Lib.hid hno; clear hno;have zr := he.size;have bx := Bx.out.ext (w' := wr) xe;have lx := bx.lt;obtain ⟨px_0, px_1⟩ := blk2 bx;clear bx;by_cases hlt : k < x.down.length
  · obtain ⟨b, off, rfl, hb, hkl, hc⟩ := (Sx_0.out.ext (w' := wr) xe).at_ hlt
    have hyl := totS_get (fun u : DSegment => u.hops.length) x.down k hkl;have HX := Lib.hid (filter_snoc (fun s => lastAS s == r) x.down k hkl);have hfl := filter_take_len (fun s => lastAS s == r) x.down k;have hyl : x.down[k].hops.length ≤ totS (fun u : DSegment => u.hops.length) x.down := hyl
    generalize x.down[k] = u at *
    generalize hds : (x.down.take k).filter (fun s => lastAS s == r) = ds at *
    have HDS := Lib.hid hds; clear hds
    have i0 : (0 : Int) ≤ (k : Int) := by omega
    have i1 : (k : Int) < (x.down.length : Int) := by omega
    obtain ⟨Au_2, nu_2, cu_2, hu_0, hu_1, hu_2, su_2⟩ := hc;obtain ⟨lu_2, ku_2, mu_2⟩ := su_2.len;subst lu_2;unfold maxLen at mu_2
    have Ru : Hid (SegmentV wr.heap.size wr (.agg #[I u.ts, I u.beta, .slice Au_2 u.hops.length cu_2]) u) := ⟨_, _, _, rfl, su_2⟩
    have Su_2 := Lib.hid su_2; clear su_2;by_cases h0 : lastAS u = r
    · have HS : Hid ((x.down.take (k + 1)).filter (fun s => lastAS s == r) = ds ++ [u]) := by unfold Hid; rw [HX.out]; simp [*]
      go_wp2_with fail
      refine (spec_LastAS _ (u) _ (by exact Ru.out.ext xe)).mono ?_;rintro e w4a ⟨rfl, ew4a⟩;have bx := Bx.out.ext (w' := w4a) xe;have lx := bx.lt;obtain ⟨px_0, px_1⟩ := blk2 bx;clear bx
      obtain ⟨hCw4a, -, hZw4a⟩ := (Ext.facts (a := wr) (b := w4a) xe)
      rw [h0];clear h0;go_wp2_with fail
      refine (spec_l9Copy _ u _ (by exact Ru.out.ext xe) (by omega)).mono ?_;rintro e w5 ⟨v5, rfl, o5, ew5⟩;have z4 : wr.heap.size ≤ w4a.heap.size := Ext.size xe;obtain ⟨a5, k5, q5, fp5, hv5, hoc5, hn5, hb5⟩ := o5.to_oc;subst hv5;have HOC5 := Lib.hid hoc5; have HN5 := Lib.hid hn5; have HB5 := Lib.hid hb5; clear o5 hoc5 hn5 hb5;have z5 := ew5.size;go_wp2_with (at_builtin; refine hold ?_)
      refine unhold (wpList_push (OC := SegmentOC) w0 SegmentOC.keeps SegmentOC.one rfl (.tmp 23) (.tmp 30) _ rfl 33 _ 3 40 Tryz.underlying28 info_Segment rfl (by omega) _ (ds) [u] wr.heap.size rfl _ 1 1 _ fp5 rfl
       (by exact NO.at' SegmentOC.keeps HNO.out xe) (by simp only [World.size_alloc]; omega) (row_one _ _ _ _ _ (by first | rfl | simp) rfl) (OL.one (SegmentOC.keeps _ _ _ _ _ (fun b hb hs => Ext.same (a := w5) xe b hs) HOC5.out) rfl) HN5.out (fun b hb => ⟨(by have := HB5.out b hb; omega), (by have := HB5.out b hb; simp only [World.size_alloc]; omega)⟩) (by omega) xe (by simp only [List.length_singleton]; omega) (by omega) ?_)
      intro v6 w6 no6 e6;have NO6 := Lib.hid no6; clear no6;go_wp2_with (at_builtin; refine hold ?_)
      go_roundw
      case rel => exact ⟨k + 1, by omega, by go_num, by rw [HS.out]; exact NO6.out, e6⟩
      case measure => simp [intOf]; omega
    · have HS : Hid ((x.down.take (k + 1)).filter (fun s => lastAS s == r) = ds) := by unfold Hid; rw [HX.out]; simp [*]
      have g0 : (lastAS u == r) = false := beq_eq_false_iff_ne.2 h0;go_wp2_with fail
      refine (spec_LastAS _ (u) _ (by exact Ru.out.ext xe)).mono ?_;rintro e w4a ⟨rfl, ew4a⟩;have bx := Bx.out.ext (w' := w4a) xe;have lx := bx.lt;obtain ⟨px_0, px_1⟩ := blk2 bx;clear bx
      obtain ⟨hCw4a, -, hZw4a⟩ := (Ext.facts (a := wr) (b := w4a) xe)
      generalize lastAS u = qq at *
      go_wp2_with fail
      go_roundw
      case rel => exact ⟨k + 1, by omega, by go_num, by rw [HS.out]; exact NO.up SegmentOC.keeps HNO.out xe (Nat.le_refl _), xe⟩
      case measure => simp [intOf]; omega
  · obtain rfl : k = x.down.length := by omega
    go_wp2_with fail
    go_ret
    refine ⟨_, rfl, ?_, xe⟩;have h := HNO.out;rw [List.take_length] at h;exact NO.more h (by have := ew0.size; omega) (Nat.le_refl _)
theorem impl_coreFrom (vx : Value) (a c : Int) (x : DSegmentDatabase) (w : World) (hx : SegmentDatabaseV w.heap.size w vx x) (hn : segTot x.down + segTot x.core ≤ 1048576) :
 Calls Tryz.prog 51 #[vx, I a, I c] w fun e w' => ∃ v', e = .returned v' ∧ SegmentSO w.heap.size w'.heap.size w' v' (coreFrom x a c) ∧ Ext w w' := by
 obtain ⟨Ax_0, nx_0, cx_0, Ax_1, nx_1, cx_1, rfl, sx_0, sx_1⟩ := id hx;obtain ⟨lx_0, kx_0, mx_0⟩ := sx_0.len;subst lx_0;unfold maxLen at mx_0;obtain ⟨lx_1, kx_1, mx_1⟩ := sx_1.len;subst lx_1;unfold maxLen at mx_1;have Rx := Lib.hid hx; clear hx;have Sx_0 := Lib.hid sx_0; clear sx_0;have Sx_1 := Lib.hid sx_1; clear sx_1;have hn : totS (fun u : DSegment => u.hops.length) x.down + totS (fun u : DSegment => u.hops.length) x.core ≤ 1048576 := hn;have hdl := totS_len (fun u : DSegment => u.hops.length) x.core
 go_enter Tryz.func51, Tryz.ntmps51
 go_wp2_with fail
 first | refine name_wp ?_ ?_ ?_ | refine name_calls ?_ ?_ ?_
 exact (fun W => Ext w W ∧ Blk W (w.heap.size) 30 [.slice Ax_0 x.down.length cx_0, .slice Ax_1 x.core.length cx_1]);exact ⟨xe, xb⟩;rintro w0 ⟨ew0, bx⟩;have lx := bx.lt;obtain ⟨px_0, px_1⟩ := blk2 bx;have Bx := Lib.hid bx; clear bx
 go_loopw [7, 13] (fun v i wr => ∃ k : Nat, k ≤ x.core.length ∧ i = I k ∧ SegmentSO w0.heap.size wr.heap.size wr v ((x.core.take k).filter (btw a c)) ∧ Ext w0 wr) (fun _ i _ => x.core.length - (intOf i).toNat)
 case atStart => exact ⟨0, by omega, rfl, NO.nil _ _ _ _ _ _, xe⟩
 case round =>
  obtain ⟨k, hk, rfl, hno, he⟩ := hrel;have HNO := Lib.hid hno; clear hno;have zr := he.size;have bx := Bx.out.ext (w' := wr) xe;have lx := bx.lt;obtain ⟨px_0, px_1⟩ := blk2 bx;clear bx;by_cases hlt : k < x.core.length
  · obtain ⟨b, off, rfl, hb, hkl, hc⟩ := (Sx_1.out.ext (w' := wr) xe).at_ hlt
    have hyl := totS_get (fun u : DSegment => u.hops.length) x.core k hkl;have HX := Lib.hid (filter_snoc (btw a c) x.core k hkl);have hfl := filter_take_len (btw a c) x.core k;have hyl : x.core[k].hops.length ≤ totS (fun u : DSegment => u.hops.length) x.core := hyl
    generalize x.core[k] = u at *
    generalize hds : (x.core.take k).filter (btw a c) = ds at *
    have HDS := Lib.hid hds; clear hds
    have i0 : (0 : Int) ≤ (k : Int) := by omega
    have i1 : (k : Int) < (x.core.length : Int) := by omega
    obtain ⟨Au_2, nu_2, cu_2, hu_0, hu_1, hu_2, su_2⟩ := hc;obtain ⟨lu_2, ku_2, mu_2⟩ := su_2.len;subst lu_2;unfold maxLen at mu_2
    have Ru : Hid (SegmentV wr.heap.size wr (.agg #[I u.ts, I u.beta, .slice Au_2 u.hops.length cu_2]) u) := ⟨_, _, _, rfl, su_2⟩
    have Su_2 := Lib.hid su_2; clear su_2;by_cases h0 : firstAS u = a
    · by_cases h1 : lastAS u = c
      · have HS : Hid ((x.core.take (k + 1)).filter (btw a c) = ds ++ [u]) := by unfold Hid; rw [HX.out]; simp [btw, *]
        go_wp2_with fail
        first | refine name_wp ?_ ?_ ?_ | refine name_calls ?_ ?_ ?_
        exact (fun W => Ext wr W ∧ Blk W (wr.heap.size) 33 [I u.ts, I u.beta, .slice Au_2 u.hops.length cu_2]);exact ⟨xe, xb⟩;rintro w3 ⟨ew3, bu⟩;have lu := bu.lt;obtain ⟨pu_0, pu_1, pu_2⟩ := blk3 bu;have Bu := Lib.hid bu; clear bu;have bx := Bx.out.ext (w' := w3) xe;have lx := bx.lt;obtain ⟨px_0, px_1⟩ := blk2 bx;clear bx;refine (impl_FirstAS _ (u) _ (by exact Ru.out.ext xe)).mono ?_;rintro e w4a ⟨rfl, ew4a⟩;have bx := Bx.out.ext (w' := w4a) xe;have lx := bx.lt;obtain ⟨px_0, px_1⟩ := blk2 bx;clear bx;have bu := Bu.out.ext (w' := w4a) xe;have lu := bu.lt;obtain ⟨pu_0, pu_1, pu_2⟩ := blk3 bu;clear bu;rw [h0];go_wp2_with fail
        refine (impl_LastAS _ (u) _ (by exact Ru.out.ext xe)).mono ?_;rintro e w4b ⟨rfl, ew4b⟩;have bx := Bx.out.ext (w' := w4b) xe;have lx := bx.lt;obtain ⟨px_0, px_1⟩ := blk2 bx;clear bx;have bu := Bu.out.ext (w' := w4b) xe;have lu := bu.lt;obtain ⟨pu_0, pu_1, pu_2⟩ := blk3 bu;clear bu;rw [h1];clear h0 h1;go_wp2_with fail
        refine (impl_copySegment _ u _ (by exact Ru.out.ext xe) (by omega)).mono ?_;rintro e w5 ⟨v5, rfl, o5, ew5⟩;have z4 : wr.heap.size ≤ w4b.heap.size := Ext.size xe;obtain ⟨a5, k5, q5, fp5, hv5, hoc5, hn5, hb5⟩ := o5.to_oc;subst hv5;have HOC5 := Lib.hid hoc5; have HN5 := Lib.hid hn5; have HB5 := Lib.hid hb5; clear o5 hoc5 hn5 hb5;have z5 := ew5.size;go_wp2_with (at_builtin; refine hold ?_)
        refine unhold (wpList_push (OC := SegmentOC) w0 SegmentOC.keeps SegmentOC.one rfl (.tmp 27) (.tmp 30) _ rfl 33 _ 3 40 Tryz.underlying28 info_Segment rfl (by omega) _ (ds) [u] wr.heap.size rfl _ 1 1 _ fp5 rfl
         (by exact NO.at' SegmentOC.keeps HNO.out xe) (by simp only [World.size_alloc]; omega) (row_one _ _ _ _ _ (by first | rfl | simp) rfl) (OL.one (SegmentOC.keeps _ _ _ _ _ (fun b hb hs => Ext.same (a := w5) xe b hs) HOC5.out) rfl) HN5.out (fun b hb => ⟨(by have := HB5.out b hb; omega), (by have := HB5.out b hb; simp only [World.size_alloc]; omega)⟩) (by omega) xe (by simp only [List.length_singleton]; omega) (by omega) ?_)
        intro v6 w6 no6 e6;have NO6 := Lib.hid no6; clear no6;go_wp2_with (at_builtin; refine hold ?_)
        go_roundw
        case rel => exact ⟨k + 1, by omega, by go_num, by rw [HS.out]; exact NO6.out, e6⟩
        case measure => simp [intOf]; omega
      · have HS : Hid ((x.core.take (k + 1)).filter (btw a c) = ds) := by unfold Hid; rw [HX.out]; simp [btw, *]
        have g1 : (lastAS u == c) = false := beq_eq_false_iff_ne.2 h1;go_wp2_with fail
        first | refine name_wp ?_ ?_ ?_ | refine name_calls ?_ ?_ ?_
        exact (fun W => Ext wr W ∧ Blk W (wr.heap.size) 33 [I u.ts, I u.beta, .slice Au_2 u.hops.length cu_2]);exact ⟨xe, xb⟩;rintro w3 ⟨ew3, bu⟩;have lu := bu.lt;obtain ⟨pu_0, pu_1, pu_2⟩ := blk3 bu;have Bu := Lib.hid bu; clear bu;have bx := Bx.out.ext (w' := w3) xe;have lx := bx.lt;obtain ⟨px_0, px_1⟩ := blk2 bx;clear bx;refine (impl_FirstAS _ (u) _ (by exact Ru.out.ext xe)).mono ?_;rintro e w4a ⟨rfl, ew4a⟩;have bx := Bx.out.ext (w' := w4a) xe;have lx := bx.lt;obtain ⟨px_0, px_1⟩ := blk2 bx;clear bx;have bu := Bu.out.ext (w' := w4a) xe;have lu := bu.lt;obtain ⟨pu_0, pu_1, pu_2⟩ := blk3 bu;clear bu;rw [h0];go_wp2_with fail
        refine (impl_LastAS _ (u) _ (by exact Ru.out.ext xe)).mono ?_;rintro e w4b ⟨rfl, ew4b⟩;have bx := Bx.out.ext (w' := w4b) xe;have lx := bx.lt;obtain ⟨px_0, px_1⟩ := blk2 bx;clear bx;have bu := Bu.out.ext (w' := w4b) xe;have lu := bu.lt;obtain ⟨pu_0, pu_1, pu_2⟩ := blk3 bu;clear bu
        generalize lastAS u = qq at *
        go_wp2_with fail
        go_roundw
        case rel => exact ⟨k + 1, by omega, by go_num, by rw [HS.out]; exact NO.up SegmentOC.keeps HNO.out xe (Nat.le_refl _), xe⟩
        case measure => simp [intOf]; omega
    · have HS : Hid ((x.core.take (k + 1)).filter (btw a c) = ds) := by unfold Hid; rw [HX.out]; simp [btw, *]
      have g0 : (firstAS u == a) = false := beq_eq_false_iff_ne.2 h0;go_wp2_with fail
      first | refine name_wp ?_ ?_ ?_ | refine name_calls ?_ ?_ ?_
      exact (fun W => Ext wr W ∧ Blk W (wr.heap.size) 33 [I u.ts, I u.beta, .slice Au_2 u.hops.length cu_2]);exact ⟨xe, xb⟩;rintro w3 ⟨ew3, bu⟩;have lu := bu.lt;obtain ⟨pu_0, pu_1, pu_2⟩ := blk3 bu;have Bu := Lib.hid bu; clear bu;have bx := Bx.out.ext (w' := w3) xe;have lx := bx.lt;obtain ⟨px_0, px_1⟩ := blk2 bx;clear bx;refine (impl_FirstAS _ (u) _ (by exact Ru.out.ext xe)).mono ?_;rintro e w4a ⟨rfl, ew4a⟩;have bx := Bx.out.ext (w' := w4a) xe;have lx := bx.lt;obtain ⟨px_0, px_1⟩ := blk2 bx;clear bx;have bu := Bu.out.ext (w' := w4a) xe;have lu := bu.lt;obtain ⟨pu_0, pu_1, pu_2⟩ := blk3 bu;clear bu
      generalize firstAS u = qq at *
      go_wp2_with fail
      go_roundw
      case rel => exact ⟨k + 1, by omega, by go_num, by rw [HS.out]; exact NO.up SegmentOC.keeps HNO.out xe (Nat.le_refl _), xe⟩
      case measure => simp [intOf]; omega
  · obtain rfl : k = x.core.length := by omega
    go_wp2_with fail
    go_ret
    refine ⟨_, rfl, ?_, xe⟩;have h := HNO.out;rw [List.take_length] at h;exact NO.more h (by have := ew0.size; omega) (Nat.le_refl _)
theorem spec_l16Between (vx : Value) (a c : Int) (x : DSegmentDatabase) (w : World) (hx : SegmentDatabaseV w.heap.size w vx x) (hn : segTot x.down + segTot x.core ≤ 1048576) :
 Calls Tryz.prog 52 #[vx, I a, I c] w fun e w' => ∃ v', e = .returned v' ∧ SegmentSO w.heap.size w'.heap.size w' v' (coreFrom x a c) ∧ Ext w w' := by
 obtain ⟨Ax_0, nx_0, cx_0, Ax_1, nx_1, cx_1, rfl, sx_0, sx_1⟩ := id hx;obtain ⟨lx_0, kx_0, mx_0⟩ := sx_0.len;subst lx_0;unfold maxLen at mx_0;obtain ⟨lx_1, kx_1, mx_1⟩ := sx_1.len;subst lx_1;unfold maxLen at mx_1;have Rx := Lib.hid hx; clear hx;have Sx_0 := Lib.hid sx_0; clear sx_0;have Sx_1 := Lib.hid sx_1; clear sx_1;have hn : totS (fun u : DSegment => u.hops.length) x.down + totS (fun u : DSegment => u.hops.length) x.core ≤ 1048576 := hn;have hdl := totS_len (fun u : DSegment => u.hops.length) x.core
 go_enter Tryz.func52, Tryz.ntmps52
 go_wp2_with fail
 refine name_wp (fun W => ∃ wb, Ext w wb ∧ Blk wb w.heap.size 30 [.slice Ax_0 x.down.length cx_0, .slice Ax_1 x.core.length cx_1] ∧ Ext wb W ∧ SegmentSO wb.heap.size W.heap.size W (.slice (some ⟨w.heap.size + 1, 0, none⟩) 0 0) []) ⟨_, (Ext.refl _).alloc _, Blk.new _ _ _, (Ext.refl _).alloc _, NO.zero _ _ _ _ _ _ (by simp) (Nat.le_refl _)⟩ ?_;rintro wz ⟨w0, ew0, bx, ez, hz⟩;have Bx := Lib.hid bx; clear bx;have HZ := Lib.hid hz; clear hz
 go_loopw [7, 8] (fun v i wr => ∃ k : Nat, k ≤ x.core.length ∧ i = I k ∧ SegmentSO w0.heap.size wr.heap.size wr v ((x.core.take k).filter (btw a c)) ∧ Ext w0 wr) (fun _ i _ => x.core.length - (intOf i).toNat)
 case atStart => exact ⟨0, by omega, rfl, HZ.out, xe⟩
 case round =>
  obtain ⟨k, hk, rfl, hno, he⟩ := hrel;have HNO := Lib.hid hno; clear hno;have zr := he.size;have bx := Bx.out.ext (w' := wr) xe;have lx := bx.lt;obtain ⟨px_0, px_1⟩ := blk2 bx;clear bx;by_cases hlt : k < x.core.length
  · obtain ⟨b, off, rfl, hb, hkl, hc⟩ := (Sx_1.out.ext (w' := wr) xe).at_ hlt
    have hyl := totS_get (fun u : DSegment => u.hops.length) x.core k hkl;have HX := Lib.hid (filter_snoc (btw a c) x.core k hkl);have hfl := filter_take_len (btw a c) x.core k;have hyl : x.core[k].hops.length ≤ totS (fun u : DSegment => u.hops.length) x.core := hyl
    generalize x.core[k] = u at *
    generalize hds : (x.core.take k).filter (btw a c) = ds at *
    have HDS := Lib.hid hds; clear hds
    have i0 : (0 : Int) ≤ (k : Int) := by omega
    have i1 : (k : Int) < (x.core.length : Int) := by omega
    obtain ⟨Au_2, nu_2, cu_2, hu_0, hu_1, hu_2, su_2⟩ := hc;obtain ⟨lu_2, ku_2, mu_2⟩ := su_2.len;subst lu_2;unfold maxLen at mu_2
    have Ru : Hid (SegmentV wr.heap.size wr (.agg #[I u.ts, I u.beta, .slice Au_2 u.hops.length cu_2]) u) := ⟨_, _, _, rfl, su_2⟩
    have Su_2 := Lib.hid su_2; clear su_2;by_cases h0 : firstAS u = a
    · by_cases h1 : lastAS u = c
      · have HS : Hid ((x.core.take (k + 1)).filter (btw a c) = ds ++ [u]) := by unfold Hid; rw [HX.out]; simp [btw, *]
        go_wp2_with fail
        refine (spec_FirstAS _ (u) _ (by exact Ru.out.ext xe)).mono ?_;rintro e w4a ⟨rfl, ew4a⟩;have bx := Bx.out.ext (w' := w4a) xe;have lx := bx.lt;obtain ⟨px_0, px_1⟩ := blk2 bx;clear bx
        obtain ⟨hCw4a, -, hZw4a⟩ := (Ext.facts (a := wr) (b := w4a) xe)
        rw [h0];go_wp2_with fail
        refine (spec_LastAS _ (u) _ (by exact Ru.out.ext xe)).mono ?_;rintro e w4b ⟨rfl, ew4b⟩;have bx := Bx.out.ext (w' := w4b) xe;have lx := bx.lt;obtain ⟨px_0, px_1⟩ := blk2 bx;clear bx
        obtain ⟨hCw4b, -, hZw4b⟩ := (Ext.facts (a := wr) (b := w4b) xe)
        rw [h1];clear h0 h1;go_wp2_with fail
        refine (spec_l9Copy _ u _ (by exact Ru.out.ext xe) (by omega)).mono ?_;rintro e w5 ⟨v5, rfl, o5, ew5⟩;have z4 : wr.heap.size ≤ w4b.heap.size := Ext.size xe;obtain ⟨a5, k5, q5, fp5, hv5, hoc5, hn5, hb5⟩ := o5.to_oc;subst hv5;have HOC5 := Lib.hid hoc5; have HN5 := Lib.hid hn5; have HB5 := Lib.hid hb5; clear o5 hoc5 hn5 hb5;have z5 := ew5.size;go_wp2_with (at_builtin; refine hold ?_)
        refine unhold (wpList_push (OC := SegmentOC) w0 SegmentOC.keeps SegmentOC.one rfl (.tmp 35) (.tmp 42) _ rfl 33 _ 3 40 Tryz.underlying28 info_Segment rfl (by omega) _ (ds) [u] wr.heap.size rfl _ 1 1 _ fp5 rfl
         (by exact NO.at' SegmentOC.keeps HNO.out xe) (by simp only [World.size_alloc]; omega) (row_one _ _ _ _ _ (by first | rfl | simp) rfl) (OL.one (SegmentOC.keeps _ _ _ _ _ (fun b hb hs => Ext.same (a := w5) xe b hs) HOC5.out) rfl) HN5.out (fun b hb => ⟨(by have := HB5.out b hb; omega), (by have := HB5.out b hb; simp only [World.size_alloc]; omega)⟩) (by omega) xe (by simp only [List.length_singleton]; omega) (by omega) ?_)
        intro v6 w6 no6 e6;have NO6 := Lib.hid no6; clear no6;go_wp2_with (at_builtin; refine hold ?_)
        go_roundw
        case rel => exact ⟨k + 1, by omega, by go_num, by rw [HS.out]; exact NO6.out, e6⟩
        case measure => simp [intOf]; omega
      · have HS : Hid ((x.core.take (k + 1)).filter (btw a c) = ds) := by unfold Hid; rw [HX.out]; simp [btw, *]
        have g1 : (lastAS u == c) = false := beq_eq_false_iff_ne.2 h1;go_wp2_with fail
        refine (spec_FirstAS _ (u) _ (by exact Ru.out.ext xe)).mono ?_;rintro e w4a ⟨rfl, ew4a⟩;have bx := Bx.out.ext (w' := w4a) xe;have lx := bx.lt;obtain ⟨px_0, px_1⟩ := blk2 bx;clear bx
        obtain ⟨hCw4a, -, hZw4a⟩ := (Ext.facts (a := wr) (b := w4a) xe)
        rw [h0];go_wp2_with fail
        refine (spec_LastAS _ (u) _ (by exact Ru.out.ext xe)).mono ?_;rintro e w4b ⟨rfl, ew4b⟩;have bx := Bx.out.ext (w' := w4b) xe;have lx := bx.lt;obtain ⟨px_0, px_1⟩ := blk2 bx;clear bx
        obtain ⟨hCw4b, -, hZw4b⟩ := (Ext.facts (a := wr) (b := w4b) xe)
        generalize lastAS u = qq at *
        go_wp2_with fail
        go_roundw
        case rel => exact ⟨k + 1, by omega, by go_num, by rw [HS.out]; exact NO.up SegmentOC.keeps HNO.out xe (Nat.le_refl _), xe⟩
        case measure => simp [intOf]; omega
    · have HS : Hid ((x.core.take (k + 1)).filter (btw a c) = ds) := by unfold Hid; rw [HX.out]; simp [btw, *]
      have g0 : (firstAS u == a) = false := beq_eq_false_iff_ne.2 h0;go_wp2_with fail
      refine (spec_FirstAS _ (u) _ (by exact Ru.out.ext xe)).mono ?_;rintro e w4a ⟨rfl, ew4a⟩;have bx := Bx.out.ext (w' := w4a) xe;have lx := bx.lt;obtain ⟨px_0, px_1⟩ := blk2 bx;clear bx
      obtain ⟨hCw4a, -, hZw4a⟩ := (Ext.facts (a := wr) (b := w4a) xe)
      generalize firstAS u = qq at *
      go_wp2_with fail
      go_roundw
      case rel => exact ⟨k + 1, by omega, by go_num, by rw [HS.out]; exact NO.up SegmentOC.keeps HNO.out xe (Nat.le_refl _), xe⟩
      case measure => simp [intOf]; omega
  · obtain rfl : k = x.core.length := by omega
    go_wp2_with fail
    go_ret
    refine ⟨_, rfl, ?_, xe⟩;have h := HNO.out;rw [List.take_length] at h;exact NO.more h (by have := ew0.size; omega) (Nat.le_refl _)
end Go.Proofs.YtmopmgaeiokfjaaGreat
