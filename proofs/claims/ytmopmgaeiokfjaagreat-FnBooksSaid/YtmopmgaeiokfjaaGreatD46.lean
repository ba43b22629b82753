/- Contracts of the laws' comparisons of lists of segments and of segment databases, at equal data: sameSegs, sameBook. No conditions. -/
import Derived.Test.YtmopmgaeiokfjaaGreatGD31s
import Derived.Test.YtmopmgaeiokfjaaGreatGHD
set_option maxRecDepth 100000
set_option maxHeartbeats 1000000
namespace Go.Proofs.YtmopmgaeiokfjaaGreat
open Go.RowKit
set_option linter.unusedVariables false
inductive IsV (u : Value) : Value → Prop where
 | mk : IsV u u
theorem laws_sameSegs (v1 v2 : Value) (xs : List DSegment) (w : World) (h1 : SegmentS w.heap.size w v1 xs) (h2 : SegmentS w.heap.size w v2 xs) :
 Calls Tryz.prog 16 #[v1, v2] w fun e w' => e = .returned (.bool true) ∧ Ext w w' := by
 obtain ⟨A1, n1, c1, rfl, hl1, hn1, hm1, -⟩ := id h1;obtain ⟨A2, n2, c2, rfl, hl2, hn2, hm2, -⟩ := id h2;subst hl1;subst hl2;unfold maxLen at hm1 hm2;have H1 := Lib.hid h1; have H2 := Lib.hid h2; clear h1 h2
 go_enter Tryz.func16, Tryz.ntmps16
 go_wp2_with fail
 go_loopw [5] (fun i wr => ∃ k : Nat, k ≤ xs.length ∧ i = I k ∧ Ext w wr) (fun i _ => xs.length - (intOf i).toNat)
 case atStart => exact ⟨0, by omega, rfl, Ext.refl _⟩
 case round =>
  obtain ⟨k, hk, rfl, he⟩ := hrel;by_cases hlt : k < xs.length
  · obtain ⟨b1, o1, hA1, hb1, hk1, hc1⟩ := (H1.out.ext he).at_ hlt
    obtain ⟨b2, o2, hA2, hb2, hk2, hc2⟩ := (H2.out.ext he).at_ hlt
    have i0 : (0 : Int) ≤ (k : Int) := by omega
    have i1 : (k : Int) < (xs.length : Int) := by omega
    generalize xs[k] = x at *
    subst hA1;subst hA2;obtain ⟨A3, n3, c3, g10, g11, g12, s3⟩ := hc1;obtain ⟨A4, n4, c4, g20, g21, g22, s4⟩ := hc2;have S3 := Lib.hid s3; have S4 := Lib.hid s4; clear s3 s4;go_wp2_with fail
    refine wp_region_L (E := Ext) (w0 := wr) (G := fun τ => match τ with | 25 => some (fun v W => IsV (.bool true) v) | _ => none) Ext.refl (fun h k => Ext.trans h k) (by kernel_rfl) (by kernel_rfl) xg (Ext.drew (by exact Ext.refl _)) ?_
    repeat' (first
     | ((with_reducible refine wpL_skip ?_ ?_ ?_)
        · rfl
        · rfl
        simp only [putS])
     | ((with_reducible refine wpL_quiet ?_ ?_ ?_ ?_)
        · rfl
        · rfl
        · rfl
        apply Exists.intro
        refine ⟨fun W hW hS => ?_, ?_⟩
        · have hC := (Ext.facts hW).1
          go_simp
          first | done | (with_reducible rfl) | (rw [if_neg (by omega)]; exact ⟨rfl, rfl⟩) | rfl
        first | (with_reducible refine wpL_boolT ?_) | (with_reducible refine wpL_boolF ?_) | (with_reducible refine wpL_bool (fun hB => ?_) (fun hB => ?_)) | skip
        all_goals simp only [putS])
     | ((refine wpL_grow ?_ rfl rfl ?_ ?_)
        · rfl
        · intro W hW hS
          have hC := (Ext.facts hW).1;unfold growAt
          go_simp
          simp only [growUpon]
          first | (go_at_call 48; (with_reducible refine Calls.mono (laws_sameSeg _ _ x _ (by exact segV (S3.out.ext xe)) (by exact segV (S4.out.ext xe))) ?_); rintro e w9_ ⟨rfl, e9⟩; exact ⟨_, rfl, e9, IsV.mk⟩)
        intro v W' hW' hv
        first | ((with_reducible refine intro_at 25 _ ?_); cases hv) | (obtain ⟨A5, n5, c5, rfl, -⟩ := id hv; clear hv) | (obtain ⟨A5, n5, c5, rfl⟩ := NO.slice hv) | skip
        all_goals simp only [putS]))
    refine wpL_nil (fun w7 e7 hL => ?_);clear hL;go_wp2_with fail
    go_roundw
    case rel => exact ⟨k + 1, by omega, by go_num, xe⟩
    case measure => simp [intOf]; omega
  · have i1 : ¬ (k : Int) < (xs.length : Int) := by omega
    go_wp2_with fail
    go_ret
    exact ⟨rfl, xe⟩
theorem laws_sameBook (v1 v2 : Value) (x : DSegmentDatabase) (w : World) (h1 : SegmentDatabaseV w.heap.size w v1 x) (h2 : SegmentDatabaseV w.heap.size w v2 x) :
 Calls Tryz.prog 12 #[v1, v2] w fun e w' => e = .returned (.bool true) ∧ Ext w w' := by
 obtain ⟨A1, n1, c1, B1, m1, d1, rfl, s1, t1⟩ := h1;obtain ⟨A2, n2, c2, B2, m2, d2, rfl, s2, t2⟩ := h2;have S1 := Lib.hid s1; have S2 := Lib.hid s2; have T1 := Lib.hid t1; have T2 := Lib.hid t2; clear s1 s2 t1 t2
 go_enter Tryz.func12, Tryz.ntmps12
 go_wp2_with fail
 refine name_calls (fun W => Ext w W ∧ W.heap.size = w.heap.size + 1 + 1 ∧ Blk W w.heap.size 30 [.slice A1 n1 c1, .slice B1 m1 d1] ∧ Blk W (w.heap.size + 1) 30 [.slice A2 n2 c2, .slice B2 m2 d2]) ⟨xe, by simp only [World.size_alloc], xb, xb⟩ ?_;rintro w3 ⟨e3, z3, b1, b2⟩;have K1 := Lib.hid b1; have K2 := Lib.hid b2; clear b1 b2;refine (laws_sameSegs _ _ x.down _ (by exact SegmentS.ext S1.out e3) (by exact SegmentS.ext S2.out e3)).mono ?_;rintro e w7 ⟨rfl, he7⟩;have b1_ := K1.out.ext (w' := w7) xe;have lb1_ := b1_.lt;obtain ⟨qb1__0, qb1__1⟩ := blk2 b1_;have fb1__0 := b1_.frozen 0;have fb1__1 := b1_.frozen 1;clear b1_;have b2_ := K2.out.ext (w' := w7) xe;have lb2_ := b2_.lt;obtain ⟨qb2__0, qb2__1⟩ := blk2 b2_;have fb2__0 := b2_.frozen 0;have fb2__1 := b2_.frozen 1;clear b2_;go_wp2_with fail
 refine (laws_sameSegs _ _ x.core _ (by exact SegmentS.ext T1.out xe) (by exact SegmentS.ext T2.out xe)).mono ?_;rintro e w8 ⟨rfl, he8⟩;go_wp2_with fail
 go_ret
 exact ⟨rfl, xe⟩
end Go.Proofs.YtmopmgaeiokfjaaGreat
