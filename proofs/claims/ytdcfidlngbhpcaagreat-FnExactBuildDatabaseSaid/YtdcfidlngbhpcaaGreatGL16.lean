/- Contracts of the program's and the reference's functions on the segment database: HasSegment. -/
import Derived.Test.YtdcfidlngbhpcaaGreatGL9
import Derived.Test.YtdcfidlngbhpcaaGreatGHD
namespace Go.Proofs.YtdcfidlngbhpcaaGreat
open Go.RowKit
set_option linter.unusedVariables false
def hasSeg (l : List DSegment) (s : DSegment) : Bool := l.any fun x => decide (x = s)
theorem hasSeg_snoc (l : List DSegment) (s : DSegment) (k : Nat) (h : k < l.length) : hasSeg (l.take (k + 1)) s = (hasSeg (l.take k) s || decide (l[k] = s)) := by
  unfold hasSeg
  rw [take_snoc l k h, List.any_append]
  simp
theorem hasSeg_of (l : List DSegment) (s : DSegment) (k : Nat) (h : k < l.length) (he : decide (l[k] = s) = true) : hasSeg l s = true := by
  unfold hasSeg
  rw [List.any_eq_true]
  exact ⟨l[k], List.getElem_mem h, he⟩
set_option maxRecDepth 100000 in
set_option maxHeartbeats 1000000 in
theorem impl_hasSegment (v vs : Value) (l : List DSegment) (s : DSegment) (w : World) (h : SegmentS w.heap.size w v l) (hs : SegmentV w.heap.size w vs s) :
    Calls Tryz.prog 142 #[v, vs] w fun e w' => e = .returned (.bool (hasSeg l s)) ∧ Ext w w' := by
  obtain ⟨A, n, c, rfl, hl, hn, hm, -⟩ := id h
  subst hl
  unfold maxLen at hm
  obtain ⟨A2, n2, c2, rfl, s2⟩ := hs
  have H := Lib.hid h; have S2 := Lib.hid s2; clear h s2
  go_enter Tryz.func142, Tryz.ntmps142
  go_wp2_with fail
  have bx : Blk (w.alloc (.cells #[I s.ts, I s.beta, .slice A2 n2 c2] 47)) w.heap.size 47 [I s.ts, I s.beta, .slice A2 n2 c2] := Blk.new w _ _
  have ew : Ext w (w.alloc (.cells #[I s.ts, I s.beta, .slice A2 n2 c2] 47)) := (Ext.refl _).alloc _
  generalize w.alloc (.cells #[I s.ts, I s.beta, .slice A2 n2 c2] 47) = w0 at *
  have BX := Lib.hid bx; have EW := Lib.hid ew; clear bx ew
  go_loopw [9] (fun i wr => ∃ k : Nat, k ≤ l.length ∧ i = I k ∧ hasSeg (l.take k) s = false ∧ Ext w0 wr) (fun i _ => l.length - (intOf i).toNat)
  case atStart => exact ⟨0, by omega, rfl, by simp [hasSeg], Ext.refl _⟩
  case round =>
    obtain ⟨k, hk, rfl, hq, he⟩ := hrel
    have HQ := Lib.hid hq; have HE := Lib.hid he; clear hq he
    have bc := BX.out.ext HE.out
    have lbx := bc.lt
    obtain ⟨p0, p1, p2⟩ := blk3 bc
    clear bc
    by_cases hlt : k < l.length
    · obtain ⟨b, off, rfl, hb, hkl, hc⟩ := (H.out.ext (EW.out.trans HE.out)).at_ hlt
      have HN := Lib.hid (hasSeg_snoc l s k hkl)
      have HO := Lib.hid (hasSeg_of l s k hkl)
      generalize l[k] = y at *
      obtain ⟨A1, n1, c1, h0, h1, h2, s1⟩ := hc
      have S1 := Lib.hid s1; clear s1
      go_wp2_with fail
      refine (impl_EqualSegments _ _ y s _ (by exact ⟨_, _, _, rfl, S1.out.ext xe⟩) (by exact ⟨_, _, _, rfl, S2.out.ext ((EW.out.trans HE.out).alloc _)⟩)).mono ?_
      rintro e w1 ⟨rfl, e1⟩
      have e2 : Ext w0 w1 := (HE.out.alloc _).trans e1
      generalize decide (y = s) = bb at *
      cases bb
      · go_wp2_with fail
        go_roundw
        case rel => exact ⟨k + 1, by omega, by go_num, by rw [HN.out, HQ.out]; rfl, e2⟩
        case measure => simp [intOf]; omega
      · go_wp2_with fail
        go_ret
        exact ⟨ret_bool (HO.out (by simp)).symm, EW.out.trans e2⟩
    · obtain rfl : k = l.length := by omega
      go_wp2_with fail
      go_ret
      have h := HQ.out
      rw [List.take_length] at h
      exact ⟨ret_bool h.symm, EW.out.trans HE.out⟩
set_option maxRecDepth 100000 in
set_option maxHeartbeats 1000000 in
theorem spec_l16Has (v vs : Value) (l : List DSegment) (s : DSegment) (w : World) (h : SegmentS w.heap.size w v l) (hs : SegmentV w.heap.size w vs s) :
    Calls Tryz.prog 132 #[v, vs] w fun e w' => e = .returned (.bool (hasSeg l s)) ∧ Ext w w' := by
  obtain ⟨A, n, c, rfl, hl, hn, hm, -⟩ := id h
  subst hl
  unfold maxLen at hm
  obtain ⟨A2, n2, c2, rfl, s2⟩ := hs
  have H := Lib.hid h; have S2 := Lib.hid s2; clear h s2
  go_enter Tryz.func132, Tryz.ntmps132
  go_wp2_with fail
  have bx : Blk (w.alloc (.cells #[I s.ts, I s.beta, .slice A2 n2 c2] 47)) w.heap.size 47 [I s.ts, I s.beta, .slice A2 n2 c2] := Blk.new w _ _
  have ew : Ext w (w.alloc (.cells #[I s.ts, I s.beta, .slice A2 n2 c2] 47)) := (Ext.refl _).alloc _
  generalize w.alloc (.cells #[I s.ts, I s.beta, .slice A2 n2 c2] 47) = w0 at *
  have BX := Lib.hid bx; have EW := Lib.hid ew; clear bx ew
  go_loopw [5] (fun i wr => ∃ k : Nat, k ≤ l.length ∧ i = I k ∧ hasSeg (l.take k) s = false ∧ Ext w0 wr) (fun i _ => l.length - (intOf i).toNat)
  case atStart => exact ⟨0, by omega, rfl, by simp [hasSeg], Ext.refl _⟩
  case round =>
    obtain ⟨k, hk, rfl, hq, he⟩ := hrel
    have HQ := Lib.hid hq; have HE := Lib.hid he; clear hq he
    have bc := BX.out.ext HE.out
    have lbx := bc.lt
    obtain ⟨p0, p1, p2⟩ := blk3 bc
    clear bc
    by_cases hlt : k < l.length
    · obtain ⟨b, off, rfl, hb, hkl, hc⟩ := (H.out.ext (EW.out.trans HE.out)).at_ hlt
      have HN := Lib.hid (hasSeg_snoc l s k hkl)
      have HO := Lib.hid (hasSeg_of l s k hkl)
      generalize l[k] = y at *
      obtain ⟨A1, n1, c1, h0, h1, h2, s1⟩ := hc
      have S1 := Lib.hid s1; clear s1
      have i0 : (0 : Int) ≤ (k : Int) := by omega
      have i1 : (k : Int) < (l.length : Int) := by omega
      have hdd : decide (y = s) = decide (y = s) := rfl
      obtain ⟨bb, hbb⟩ : ∃ bb, decide (y = s) = bb := ⟨_, rfl⟩
      have HBB := Lib.hid hbb; clear hbb hdd
      rw [HBB.out] at HN HO
      cases bb
      · go_wp2_with fail
        refine wp_region_ext (w0 := wr) (by kernel_rfl) (by kernel_rfl) (by exact Ext.refl _) ?_
        repeat (first
          | go_big_quiet_skip
          | (go_big_quiet_want
             apply Exists.intro
             refine ⟨fun W hW => ?_, ?_⟩
             · have hS := (Ext.facts hW).1
               go_simp
               first | done | (go_at_call 186; refine (spec_EqualSegments _ _ y s _ (by exact ⟨_, _, _, rfl, S1.out.ext hW⟩) (by exact ⟨_, _, _, rfl, S2.out.ext ((EW.out.trans HE.out).trans hW)⟩)).mono ?_; rintro e w1 ⟨rfl, e1⟩; exact ⟨by rw [HBB.out], hW.trans e1⟩) | (with_reducible rfl)
             simp only [Act.put, List.setIfInBounds_toArray, List.set_cons_zero, List.set_cons_succ]
             go_big_quiet_on))
        refine wpQuiet_nil ?_
        intro w1 e1
        go_wp2_with fail
        go_roundw
        case rel => exact ⟨k + 1, by omega, by go_num, by rw [HN.out, HQ.out]; rfl, HE.out.trans e1⟩
        case measure => simp [intOf]; omega
      · go_wp2_with fail
        refine wp_region_ext (w0 := wr) (by kernel_rfl) (by kernel_rfl) (by exact Ext.refl _) ?_
        repeat (first
          | go_big_quiet_skip
          | (go_big_quiet_want
             apply Exists.intro
             refine ⟨fun W hW => ?_, ?_⟩
             · have hS := (Ext.facts hW).1
               go_simp
               first | done | (go_at_call 186; refine (spec_EqualSegments _ _ y s _ (by exact ⟨_, _, _, rfl, S1.out.ext hW⟩) (by exact ⟨_, _, _, rfl, S2.out.ext ((EW.out.trans HE.out).trans hW)⟩)).mono ?_; rintro e w1 ⟨rfl, e1⟩; exact ⟨by rw [HBB.out], hW.trans e1⟩) | (with_reducible rfl)
             simp only [Act.put, List.setIfInBounds_toArray, List.set_cons_zero, List.set_cons_succ]
             go_big_quiet_on))
        refine wpQuiet_nil ?_
        intro w1 e1
        go_wp2_with fail
        go_ret
        exact ⟨ret_bool (HO.out (by simp)).symm, EW.out.trans (HE.out.trans e1)⟩
    · obtain rfl : k = l.length := by omega
      go_wp2_with fail
      go_ret
      have h := HQ.out
      rw [List.take_length] at h
      exact ⟨ret_bool h.symm, EW.out.trans HE.out⟩
def hasSegment (k : DSegmentDatabase) (s : DSegment) : Bool := hasSeg k.down s || hasSeg k.core s
set_option maxRecDepth 100000 in
set_option maxHeartbeats 1000000 in
theorem impl_HasSegment (vk vs : Value) (k : DSegmentDatabase) (s : DSegment) (w : World) (hk : SegmentDatabaseV w.heap.size w vk k) (hs : SegmentV w.heap.size w vs s) :
    Calls Tryz.prog 77 #[vk, vs] w fun e w' => e = .returned (.bool (hasSegment k s)) ∧ Ext w w' := by
  obtain ⟨A0, n0, c0, A1, n1, c1, rfl, s0, s1⟩ := hk
  obtain ⟨A2, n2, c2, rfl, s2⟩ := hs
  have S0 := Lib.hid s0; have S1 := Lib.hid s1; have S2 := Lib.hid s2; clear s0 s1 s2
  cases hd : hasSeg k.down s
  · have HD := Lib.hid hd
    have HF : Hid (hasSegment k s = hasSeg k.core s) := by unfold Hid; simp [hasSegment, hd]
    clear hd
    go_enter Tryz.func77, Tryz.ntmps77
    go_wp2_with fail
    refine (impl_hasSegment _ _ k.down s _ (by exact S0.out.ext xe) (by exact ⟨_, _, _, rfl, S2.out.ext xe⟩)).mono ?_
    rintro e w1 ⟨rfl, e1⟩
    rw [HD.out]
    obtain ⟨hc1, hf1, hz1⟩ := e1.facts
    simp only [World.size_alloc] at hc1 hf1 hz1
    have la : w.heap.size < w1.heap.size := by omega
    have lb : w.heap.size + 1 < w1.heap.size := by omega
    go_wp2_with fail
    refine (impl_hasSegment _ _ k.core s _ (by exact S1.out.ext xe) (by exact ⟨_, _, _, rfl, S2.out.ext xe⟩)).mono ?_
    rintro e w2 ⟨rfl, e2⟩
    go_wp2_with fail
    go_ret
    exact ⟨ret_bool HF.out.symm, xe⟩
  · have HD := Lib.hid hd
    have HF : Hid (hasSegment k s = true) := by unfold Hid; simp [hasSegment, hd]
    clear hd
    go_enter Tryz.func77, Tryz.ntmps77
    go_wp2_with fail
    refine (impl_hasSegment _ _ k.down s _ (by exact S0.out.ext xe) (by exact ⟨_, _, _, rfl, S2.out.ext xe⟩)).mono ?_
    rintro e w1 ⟨rfl, e1⟩
    rw [HD.out]
    go_wp2_with fail
    go_ret
    exact ⟨ret_bool HF.out.symm, xe⟩
set_option maxRecDepth 100000 in
set_option maxHeartbeats 1000000 in
theorem spec_HasSegment (vk vs : Value) (k : DSegmentDatabase) (s : DSegment) (w : World) (hk : SegmentDatabaseV w.heap.size w vk k) (hs : SegmentV w.heap.size w vs s) :
    Calls Tryz.prog 67 #[vk, vs] w fun e w' => e = .returned (.bool (hasSegment k s)) ∧ Ext w w' := by
  obtain ⟨A0, n0, c0, A1, n1, c1, rfl, s0, s1⟩ := hk
  obtain ⟨A2, n2, c2, rfl, s2⟩ := hs
  have S0 := Lib.hid s0; have S1 := Lib.hid s1; have S2 := Lib.hid s2; clear s0 s1 s2
  cases hd : hasSeg k.down s
  · have HD := Lib.hid hd
    have HF : Hid (hasSegment k s = hasSeg k.core s) := by unfold Hid; simp [hasSegment, hd]
    clear hd
    go_enter Tryz.func67, Tryz.ntmps67
    go_wp2_with fail
    refine (spec_l16Has _ _ k.down s _ (by exact S0.out.ext xe) (by exact ⟨_, _, _, rfl, S2.out.ext xe⟩)).mono ?_
    rintro e w1 ⟨rfl, e1⟩
    rw [HD.out]
    obtain ⟨hc1, hf1, hz1⟩ := e1.facts
    simp only [World.size_alloc] at hc1 hf1 hz1
    have la : w.heap.size < w1.heap.size := by omega
    have lb : w.heap.size + 1 < w1.heap.size := by omega
    go_wp2_with fail
    refine (spec_l16Has _ _ k.core s _ (by exact S1.out.ext xe) (by exact ⟨_, _, _, rfl, S2.out.ext xe⟩)).mono ?_
    rintro e w2 ⟨rfl, e2⟩
    go_wp2_with fail
    go_ret
    exact ⟨ret_bool HF.out.symm, xe⟩
  · have HD := Lib.hid hd
    have HF : Hid (hasSegment k s = true) := by unfold Hid; simp [hasSegment, hd]
    clear hd
    go_enter Tryz.func67, Tryz.ntmps67
    go_wp2_with fail
    refine (spec_l16Has _ _ k.down s _ (by exact S0.out.ext xe) (by exact ⟨_, _, _, rfl, S2.out.ext xe⟩)).mono ?_
    rintro e w1 ⟨rfl, e1⟩
    rw [HD.out]
    go_wp2_with fail
    go_ret
    exact ⟨ret_bool HF.out.symm, xe⟩
end Go.Proofs.YtdcfidlngbhpcaaGreat
namespace Go.Proofs.YtdcfidlngbhpcaaGreat
open Go.RowKit
set_option linter.unusedVariables false
abbrev segTot (l : List DSegment) : Nat := totS (fun u => u.hops.length) l
def downSegs (k : DSegmentDatabase) (r : Int) : List DSegment := k.down.filter fun s => lastAS s == r
def btw (a b : Int) (s : DSegment) : Bool := firstAS s == a && lastAS s == b
def coreFrom (k : DSegmentDatabase) (a b : Int) : List DSegment := k.core.filter (btw a b)
def coreSegs (k : DSegmentDatabase) (a b : Int) : List DSegment := coreFrom k a b ++ coreFrom k b a
end Go.Proofs.YtdcfidlngbhpcaaGreat
