/- The contract of the reference's l20Draw: a topology, roots, certificates and a signed segment. No conditions. -/
import Derived.Test.YtddaodemdkjijaaGreatD24
import Derived.Test.YtddaodemdkjijaaGreatD22
import Derived.Test.YtddaodemdkjijaaGreatL19b
import Derived.Test.YtddaodemdkjijaaGreatD10
import Derived.Test.YtddaodemdkjijaaGreatL20c
namespace Go.Proofs.YtddaodemdkjijaaGreat
open Go.RowKit
set_option linter.unusedVariables false
theorem IntSO_len2 {B : Nat} {w : World} {A : Option Addr} {n c : Nat} {l : List Int} (h : IntS B w (.slice A n c) l) : n ≤ c ∧ c ≤ maxLen := by
  obtain ⟨A', n', c', e, h1, h2, h3, -⟩ := h
  cases e
  exact ⟨h2, h3⟩
theorem IntSO.setAt {lo hi n c k : Nat} {w : World} {A : Option Addr} {l : List Int} (h : IntSO lo hi w (.slice A n c) l) (hk : k < l.length) (u : Int) :
    ∃ g cs, A = some ⟨g, 0, none⟩ ∧ lo ≤ g ∧ g < hi ∧ Blk w g 3 cs ∧ w.frozen? ⟨g, k, none⟩ = false ∧ w.cell? ⟨g, k, none⟩ = some (I l[k]) ∧ IntSO lo hi (w.setCell ⟨g, k, none⟩ (I u)) (.slice A n c) (l.set k u) := by
  have hn : n = l.length := (NO.row h).1
  subst hn
  obtain ⟨g, rfl, h1, h2, h3, hf, hc, o1⟩ := Own.cellAt h k (by rw [List.length_map]; exact hk) (I u)
  rcases h.cases with ⟨e, _, _⟩ | ⟨g2, cap, rest, e, _, _, hb, _⟩
  · cases e
  · simp only [Value.slice.injEq, Option.some.injEq, Addr.mk.injEq] at e
    obtain ⟨⟨rfl, -⟩, -⟩ := e
    refine ⟨_, _, rfl, h1, h2, hb, hf, by simpa using hc, ?_⟩
    unfold IntSO
    rw [List.length_set, List.map_set]
    exact o1
/-- A signed segment whose two lists are the walk's own, in any order of blocks. -/
def SignedL (lo : Nat) (W : World) (v : Value) (x : DSignedSegment) : Prop := ∃ A2 c2 A3 c3, v = .agg #[I x.seg.ts, I x.seg.beta, .slice A2 x.seg.hops.length c2, .slice A3 x.sigs.length c3] ∧ HopSO lo W.heap.size W (.slice A2 x.seg.hops.length c2) x.seg.hops ∧ IntSO lo W.heap.size W (.slice A3 x.sigs.length c3) x.sigs
theorem SignedL.d {lo g : Nat} {W W' : World} {v : Value} {x : DSignedSegment} (h : SignedL lo W v x) (hd : D g W W') (hg : g < lo) : SignedL lo W' v x := by
  obtain ⟨A2, c2, A3, c3, e, o2, o3⟩ := h
  exact ⟨A2, c2, A3, c3, e, Own.dUp o2 hd hg, Own.dUp o3 hd hg⟩
theorem SignedL.kp {lo m : Nat} {a b : World} {v : Value} {x : DSignedSegment} (h : SignedL lo a v x) (hk : Kp m a b) (hm : m ≤ lo) : SignedL lo b v x := by
  obtain ⟨A2, c2, A3, c3, e, o2, o3⟩ := h
  refine ⟨A2, c2, A3, c3, e, ?_, ?_⟩
  · exact Own.more (Own.keep o2 fun k h1 _ _ => hk.same k (by omega)) (Nat.le_refl _) (by rw [hk.size]; exact Nat.le_refl _)
  · exact Own.more (Own.keep o3 fun k h1 _ _ => hk.same k (by omega)) (Nat.le_refl _) (by rw [hk.size]; exact Nat.le_refl _)
theorem SignedL.rd {lo : Nat} {W : World} {v : Value} {x : DSignedSegment} (h : SignedL lo W v x) : SignedSegmentV W.heap.size W v x := by
  obtain ⟨A2, c2, A3, c3, e, o2, o3⟩ := h
  exact ⟨A2, _, c2, A3, _, c3, e, HopSO_rd o2, IntSO_rd o3⟩
theorem SignedSegmentO.l {lo : Nat} {W : World} {v : Value} {x : DSignedSegment} (h : SignedSegmentO lo W.heap.size W v x) : SignedL lo W v x := by
  obtain ⟨u2, u3, m1, e, o2, o3, l0, l1⟩ := h
  obtain ⟨A2, n2, c2, rfl⟩ := Own.slice o2
  obtain ⟨A3, n3, c3, rfl⟩ := Own.slice o3
  obtain ⟨rfl, -⟩ := NO.row o2
  obtain ⟨rfl, -⟩ := NO.row o3
  exact ⟨A2, c2, A3, c3, e, Own.more o2 (Nat.le_refl _) l1, Own.more o3 l0 (Nat.le_refl _)⟩
/-- What l20Draw hands back. -/
def Out20 (lo : Nat) (W : World) (vt vl vm vx : Value) : Prop := ∃ t l m x, TopologyO lo W.heap.size W vt t ∧ DrawnTopo t ∧ TrustRootSO lo W.heap.size W vl l ∧ DrawnRoots l ∧ CertificateSO lo W.heap.size W vm m ∧ m.length ≤ 8 ∧ SignedL lo W vx x ∧ x.seg.hops.length ≤ 5 ∧ x.sigs.length ≤ 5 ∧ LinksOk t
set_option maxRecDepth 100000 in
set_option maxHeartbeats 40000000 in
theorem spec_l20Draw (g : Nat) (w : World) (hc : Cur w g) : Calls Tryz.prog 16 #[.pointer (some ⟨g, 0, none⟩)] w fun e w' => (∃ vt vl vm vx, e = .returned (.tuple #[vt, vl, vm, vx]) ∧ Out20 w.heap.size w' vt vl vm vx) ∧ D g w w' := by
  have HC := Lib.hid hc
  have hgw := hc.lt
  clear hc
  go_enter Tryz.func16, Tryz.ntmps16
  go_wp2_with fail
  refine name_calls (fun W => D g w W ∧ W.heap.size = w.heap.size + 1 + 1 ∧ Blk W w.heap.size 27 [.slice none 0 0, .slice none 0 0] ∧ Blk W (w.heap.size + 1) 40 [I 0, I 0, .slice none 0 0, .slice none 0 0]) ⟨xd, by simp only [World.size_alloc], xb, xb⟩ ?_
  rintro wa ⟨da, za_, br0, br1⟩
  obtain ⟨za, za'⟩ := le_both za_
  clear za_
  have B0 := Lib.hid br0; have B1 := Lib.hid br1; clear br0 br1
  have HCA := Lib.hid (da.cur HC.out)
  refine (spec_l18DrawL g wa HCA.out).mono ?_
  rintro e w2 ⟨⟨v1, v2, rfl, t, l, ot, ⟨hdt, hlk⟩, ol, hl0, hl5, hp⟩, d2⟩
  have HDR : Hid (DrawnRoots l) := ⟨hl0, hl5, fun x hx => (hp x hx).1⟩
  clear hp
  have z2 := d2.size
  obtain ⟨At_0, nt_0, ct_0, At_1, nt_1, ct_1, rfl⟩ := TopologyO.shape ot
  obtain ⟨Al, nl, cl, rfl⟩ := NO.slice ol
  obtain ⟨A', n', c', e', ln', -, ml, -⟩ := id (TrustRootSO_rd ol (Nat.le_refl _))
  cases e'
  subst ln'
  unfold maxLen at ml
  have hnt : nt_0 ≤ t.ases.length ∧ t.ases.length ≤ nt_0 := by
    obtain ⟨_, _, _, _, _, _, e, s0, -⟩ := ot.v
    have h := s0.len
    simp only [Value.agg.injEq, Array.mk.injEq, List.cons.injEq, Value.slice.injEq] at e
    omega
  have OT := Lib.hid ot; have OL := Lib.hid ol; have HDT := Lib.hid hdt; have HLK := Lib.hid hlk; clear ot ol hlk
  have ht8 : t.ases.length ≤ 8 := hdt.2.1
  clear hdt
  go_wp2_with fail
  refine name_wp (fun W => ∃ wb, Ext w2 wb ∧ wb.heap.size = w2.heap.size + 1 ∧ Blk wb w2.heap.size 27 [.slice At_0 nt_0 ct_0, .slice At_1 nt_1 ct_1] ∧ Ext wb W ∧ CertificateSO wb.heap.size W.heap.size W (.slice (some ⟨w2.heap.size + 1, 0, none⟩) 0 0) []) ⟨_, xe, by simp only [World.size_alloc], xb, (Ext.refl _).alloc _, own_zero' _ _ _ _ _ (by simp only [World.size_alloc]) (Nat.le_refl _)⟩ ?_
  rintro w3 ⟨wb, eb, zb_, bt, e3, hz⟩
  obtain ⟨zb, zb'⟩ := le_both zb_
  clear zb_
  have BT := Lib.hid bt; have HZ := Lib.hid hz; clear bt hz
  have dab : D g wa wb := D.trans d2 (D.of_ext eb (by omega))
  have HCB := Lib.hid (dab.cur HCA.out)
  have hgb : g < wb.heap.size := by omega
  have OTB := Lib.hid (OT.out.ext eb (Nat.le_refl _)); have OLB := Lib.hid (TrustRootSO_ext OL.out eb (Nat.le_refl _))
  have B0B := Lib.hid (B0.out.d dab (by omega)); have B1B := Lib.hid (B1.out.d dab (by omega))
  have db3 : D g wb w3 := D.of_ext e3 hgb
  go_loopw [8, 9] (fun v i wr => ∃ (k : Nat) (xs : List DCertificate), k ≤ t.ases.length ∧ i = I k ∧ CertificateSO wb.heap.size wr.heap.size wr v xs ∧ xs.length ≤ k ∧ D g wb wr) (fun _ i _ => t.ases.length - (intOf i).toNat)
  case atStart => exact ⟨0, [], by omega, rfl, HZ.out, by simp, db3⟩
  case round =>
    obtain ⟨k, xs, hk, rfl, hno, hlk, hd⟩ := hrel
    obtain ⟨av, nv, cv, hvv⟩ := hno.slice
    subst hvv
    obtain ⟨hnv, -⟩ := NO.row hno
    subst hnv
    have HNO := Lib.hid hno; clear hno
    have zr := hd.size
    have hgr : g < wr.heap.size := by omega
    have HBT := Lib.hid (BT.out.d hd (by omega))
    have HCR := Lib.hid (hd.cur HCB.out)
    have OTr := Lib.hid (OTB.out.d hd (by omega)); have OLr := Lib.hid (NO.d TrustRootOC.keeps OLB.out hd (by omega))
    have b0 := HBT.out.ext (w' := wr) xe
    have lb0 := b0.lt
    obtain ⟨qb0_0, qb0_1⟩ := blk2 b0
    have fb0_0 := b0.frozen 0
    have fb0_1 := b0.frozen 1
    clear b0
    by_cases hlt : k < t.ases.length
    · have i1 : (k : Int) < (nt_0 : Int) := by omega
      obtain ⟨gl, A6, c6, hA, -, hg7, hg8, hg9, ⟨q0, q1, q2, q3, q4, q5, q6⟩, -⟩ := root_at OLr.out (k := 0) hl0 (by omega)
      subst hA
      generalize l[0] = x at *
      rw [Nat.zero_mul] at q0
      rw [Nat.zero_mul, Nat.zero_add] at q1 q2 q3 q4 q5 q6
      have j0 : (0 : Int) < (l.length : Int) := by omega
      go_wp2_with fail
      refine name_calls (fun W => Ext wr W ∧ W.heap.size = wr.heap.size + 1 ∧ Blk W wr.heap.size 64 [I x.isd, I x.version, I x.notBefore, I x.notAfter, I x.voters, I x.quorum, .slice A6 x.sigs.length c6]) ⟨xe, by simp only [World.size_alloc], xb⟩ ?_
      rintro w4 ⟨e4, z4_, bx⟩
      obtain ⟨z4, z4'⟩ := le_both z4_
      clear z4_ q0 q1 q2 q3 q4 q5 q6 j0 lb0 qb0_0 qb0_1 fb0_0 fb0_1
      have BX := Lib.hid bx; clear bx
      refine (spec_Elements x.voters w4).mono ?_
      rintro e w5 ⟨v5, rfl, o5, e5⟩
      obtain ⟨A5, n5, c5, rfl⟩ := o5.slice
      obtain ⟨hn5, -⟩ := NO.row o5
      subst hn5
      have O5 := Lib.hid o5; clear o5
      have z5 := e5.size
      have er5 : Ext wr w5 := Ext.trans e4 e5
      have d5 : D g wb w5 := D.trans hd (D.of_ext er5 hgr)
      have BX5 := Lib.hid (BX.out.ext e5)
      generalize elements x.voters = L at *
      by_cases hq : 0 < L.length
      · have i2 : (0 : Int) < (L.length : Int) := by omega
        go_wp2_with fail
        refine (spec_l1Once g 8 w5 (d5.cur HCB.out) (by omega)).mono ?_
        rintro e w6 ⟨b6, rfl, d6⟩
        have z6 := d6.size
        have d56 : D g wb w6 := D.trans d5 d6
        have dr6 : D g wr w6 := D.trans (D.of_ext er5 hgr) d6
        cases b6
        case' true =>
          go_wp2_with fail
          go_roundw
          case rel => exact ⟨k + 1, xs, by omega, by go_num, Own.dUp HNO.out dr6 (by omega), by omega, d56⟩
          case measure => first | (simp [intOf]; done) | (simp [intOf]; omega)
        obtain ⟨bk5, off5, hA5, hbk5, hk5, hc5⟩ := (IntSO_rd (Own.more (O5.out.d d6 (by omega)) (Nat.le_refl _) (by omega))).at_ (k := 0) hq
        have hc5 : w6.cell? ⟨bk5, off5, none⟩ = some (I L[0]) := hc5
        generalize L[0] = by2 at *
        subst hA5
        have BX6 := Lib.hid (BX5.out.d d6 (by omega)); have HBT6 := Lib.hid (HBT.out.d dr6 (by omega))
        have OT6 := Lib.hid (TopologyO_rd (OTr.out.d dr6 (by omega)) (by omega))
        have HN6 := Lib.hid (Own.dUp HNO.out dr6 (by omega))
        have hg6 : g < w6.heap.size := by omega
        have b0 := HBT6.out.ext (w' := w6) xe
        have lb0 := b0.lt
        obtain ⟨qb0_0, qb0_1⟩ := blk2 b0
        have fb0_0 := b0.frozen 0
        have fb0_1 := b0.frozen 1
        clear b0
        have b1 := BX6.out.ext (w' := w6) xe
        have lb1 := b1.lt
        obtain ⟨qb1_0, qb1_1, qb1_2, qb1_3, qb1_4, qb1_5, qb1_6⟩ := blk7 b1
        have fb1_0 := b1.frozen 0
        have fb1_1 := b1.frozen 1
        have fb1_2 := b1.frozen 2
        have fb1_3 := b1.frozen 3
        have fb1_4 := b1.frozen 4
        have fb1_5 := b1.frozen 5
        have fb1_6 := b1.frozen 6
        clear b1
        go_wp2_with fail
        obtain ⟨y, hy⟩ : ∃ y, y = issueCert t (k : Int) by2 x.version x.notBefore x.notAfter := ⟨_, rfl⟩
        have HY := Lib.hid hy; clear hy
        refine wp_region_LT 14 (E := Ext) (w0 := w6) (G := fun τ => match τ with | 55 => some (fun v W => v = .agg #[I y.asn, I y.keyDigest, I y.rootVersion, I y.notBefore, I y.notAfter, I y.sig.asn, I y.sig.value]) | 56 => some (fun v W => Fresh1 85 w6.heap.size [I y.asn, I y.keyDigest, I y.rootVersion, I y.notBefore, I y.notAfter, I y.sig.asn, I y.sig.value] v W) | _ => none) Ext.refl (fun h k => Ext.trans h k) (by kernel_rfl) (by kernel_rfl) (by kernel_rfl) (by kernel_rfl) (by kernel_rfl) (by kernel_rfl) xg (Ext.drew (by exact Ext.refl _)) ?_
        simp only [List.take_succ_cons, List.take_zero]
        repeat' (first
          | ((with_reducible refine wpL_skip ?_ ?_ ?_)
             · rfl
             · rfl
             simp only [Act.put, List.setIfInBounds_toArray, List.set_cons_zero, List.set_cons_succ])
          | ((with_reducible refine wpL_quiet ?_ ?_ ?_ ?_)
             · rfl
             · rfl
             · rfl
             apply Exists.intro
             refine ⟨fun W hW hS => ?_, ?_⟩
             · have hC := (Ext.facts hW).1
               go_simp
               first | done | (with_reducible rfl) | (rw [if_neg (by omega)]; exact ⟨rfl, rfl⟩) | rfl
             first | (with_reducible refine wpL_boolT ?_) | (with_reducible refine wpL_boolF ?_) | (with_reducible refine wpL_bool (fun hB => ?_) (fun hB => ?_)) | skip
             all_goals simp only [Act.put, List.setIfInBounds_toArray, List.set_cons_zero, List.set_cons_succ])
          | ((refine wpL_call ?_ rfl rfl ?_ ?_ ?_)
             · rfl
             · rfl
             · intro W hW hS
               have hC := (Ext.facts hW).1
               unfold growAt
               go_simp
               simp only [growUpon]
               first | (go_at_call 41; (with_reducible refine Calls.mono (spec_IssueCertificate _ (k : Int) by2 x.version x.notBefore x.notAfter t _ (by exact OT6.out.ext xe)) ?_); rintro e w9 ⟨rfl, e9⟩; exact ⟨_, rfl, e9, by rw [← HY.out]⟩) | (exact ⟨xe, Fresh1.new _ 85 _ _ _ rfl (Ext.size (by assumption))⟩)
             first | (with_reducible refine wpL_boolT ?_) | (with_reducible refine wpL_boolF ?_) | (with_reducible refine wpL_bool (fun hB => ?_) (fun hB => ?_)) | skip
             all_goals simp only [Act.put, List.setIfInBounds_toArray, List.set_cons_zero, List.set_cons_succ])
          | ((refine wpL_grow ?_ rfl rfl ?_ ?_)
             · rfl
             · intro W hW hS
               have hC := (Ext.facts hW).1
               unfold growAt
               go_simp
               simp only [growUpon]
               first | (go_at_call 41; (with_reducible refine Calls.mono (spec_IssueCertificate _ (k : Int) by2 x.version x.notBefore x.notAfter t _ (by exact OT6.out.ext xe)) ?_); rintro e w9 ⟨rfl, e9⟩; exact ⟨_, rfl, e9, by rw [← HY.out]⟩) | (exact ⟨xe, Fresh1.new _ 85 _ _ _ rfl (Ext.size (by assumption))⟩)
             intro v W' hW' hv
             first | (subst hv) | (obtain ⟨g5, rfl, -⟩ := hv) | (obtain ⟨A5, n5, c5, rfl, -⟩ := id hv; clear hv) | (obtain ⟨A5, n5, c5, rfl⟩ := NO.slice hv) | skip
             all_goals simp only [Act.put, List.setIfInBounds_toArray, List.set_cons_zero, List.set_cons_succ]))
        refine wpL_nil (fun w7 e7 hL => ?_)
        have f7 : Fresh1 85 w6.heap.size [I y.asn, I y.keyDigest, I y.rootVersion, I y.notBefore, I y.notAfter, I y.sig.asn, I y.sig.value] _ w7 := hL 56
        clear hL
        obtain ⟨g7, hg7_, hgl7, hb7⟩ := f7
        cases hg7_
        have z7 := e7.size
        have HN7 := Lib.hid (Own.dUp HN6.out (D.of_ext e7 hg6) (by omega))
        have d7 : D g wb w7 := D.trans d56 (D.of_ext e7 hg6)
        simp only [List.drop_succ_cons, List.drop_zero]
        go_wp2_with (at_builtin; refine hold ?_)
        refine unhold (wpList_appL wb.heap.size rfl (.tmp 43) (.tmp 56) _ rfl 85 _ 7 56 Tryz.underlying29 info_Certificate rfl (by omega) (.slice av xs.length cv) xs.length (xs.flatMap CertificateC) rfl _ 1 1 (CertificateC y) rfl HN7.out (by exact row_blk hb7 rfl) (fun u hu => one_Certificate [y] u (by simpa using hu)) (by omega) (by unfold maxLen; omega) (by omega) ?_)
        intro v10 w10 o10 hg10
        have d10 : D g wb w10 := D.grown d7 hgb hg10 (fun j hj => by have := (HN7.out.1.lt j hj).1; omega)
        have o11 : CertificateSO wb.heap.size w10.heap.size w10 v10 (xs ++ [y]) := by
          unfold CertificateSO
          rw [List.length_append, List.length_singleton, List.flatMap_append]
          simpa using o10
        have O11 := Lib.hid o11; clear o10 o11 hg10
        go_wp2_with (at_builtin; refine hold ?_)
        go_roundw
        case rel => exact ⟨k + 1, xs ++ [y], by omega, by go_num, O11.out, by simp; omega, d10⟩
        case measure => first | (simp [intOf]; done) | (simp [intOf]; omega)
      · have i2 : ¬ (0 : Int) < (L.length : Int) := by omega
        go_wp2_with fail
        go_roundw
        case rel => exact ⟨k + 1, xs, by omega, by go_num, Own.dUp HNO.out (D.of_ext er5 hgr) (by omega), by omega, d5⟩
        case measure => first | (simp [intOf]; done) | (simp [intOf]; omega)
    · obtain rfl : k = t.ases.length := by omega
      have i1 : ¬ ((t.ases.length : Nat) : Int) < (nt_0 : Int) := by omega
      obtain ⟨w4, hw4⟩ : ∃ w4, w4 = wr := ⟨_, rfl⟩
      subst hw4
      go_wp2_with fail
      clear i1 lb0 qb0_0 qb0_1 fb0_0 fb0_1 hlt hk
      have hhi4 : w2.heap.size ≤ w4.heap.size := by omega
      refine (spec_l9Grow g _ 2 t wa.heap.size w2.heap.size w4 HCR.out OTr.out (by omega) hhi4 HDT.out HLK.out).mono ?_
      rintro e w5 ⟨v5, rfl, ⟨s5, os5, hg5⟩, d5⟩
      obtain ⟨A5, n5, c5, rfl⟩ := os5.shape
      have OS5 := Lib.hid os5; have HG5 := Lib.hid hg5; clear os5 hg5
      have z5 := d5.size
      have hg5w : g < w5.heap.size := by omega
      go_wp2_with fail
      refine name_calls (fun W => Ext w5 W ∧ W.heap.size = w5.heap.size + 1 ∧ Blk W w5.heap.size 37 [I s5.ts, I s5.beta, .slice A5 n5 c5]) ⟨xe, by simp only [World.size_alloc], xb⟩ ?_
      rintro w6 ⟨e6, z6_, bs6⟩
      obtain ⟨z6, z6'⟩ := le_both z6_
      clear z6_
      have BS6 := Lib.hid bs6; clear bs6
      have d56 : D g w5 w6 := D.of_ext e6 hg5w
      have d46 : D g w4 w6 := D.trans d5 d56
      have OS6 := Lib.hid (OS5.out.ext e6 (Nat.le_refl _))
      refine (spec_l1Once g 3 w6 (d46.cur HCR.out) (by omega)).mono ?_
      rintro e w7 ⟨b7, rfl, d7⟩
      have z7 := d7.size
      have d47 : D g w4 w7 := D.trans d46 d7
      have hg7 : g < w7.heap.size := by omega
      have BS7 := Lib.hid (BS6.out.d d7 (by omega))
      have OS7 := Lib.hid (SegmentO.d OS6.out d7 (by omega))
      have BT7 := Lib.hid (HBT.out.d d47 (by omega))
      have OT7 := Lib.hid (OTr.out.d d47 (by omega))
      have nbt : ¬ w2.heap.size = w5.heap.size := by omega
      cases b7
      case' true =>
        have b0 := BT7.out.ext (w' := w7) xe
        have lb0 := b0.lt
        obtain ⟨qb0_0, qb0_1⟩ := blk2 b0
        have fb0_0 := b0.frozen 0
        have fb0_1 := b0.frozen 1
        clear b0
        go_wp2_with fail
        clear lb0 qb0_0 qb0_1 fb0_0 fb0_1
        refine (spec_l9Grow g _ 1 t wa.heap.size w2.heap.size w7 (d47.cur HCR.out) OT7.out (by omega) (by omega) HDT.out HLK.out).mono ?_
        rintro e w8 ⟨v8, rfl, ⟨s8, os8, hg8⟩, d8⟩
        obtain ⟨A8, n8, c8, rfl⟩ := os8.shape
        have OS8 := Lib.hid os8; have HG8 := Lib.hid hg8; clear os8 hg8
        have z8 := d8.size
        have BS8 := Lib.hid (BS7.out.d d8 (by omega))
        have BT8 := Lib.hid (BT7.out.d d8 (by omega))
        have b4 := BS8.out.ext (w' := w8) xe
        have lb4 := b4.lt
        obtain ⟨qb4_0, qb4_1, qb4_2⟩ := blk3 b4
        have fb4_0 := b4.frozen 0
        have fb4_1 := b4.frozen 1
        have fb4_2 := b4.frozen 2
        clear b4
        have b0 := BT8.out.ext (w' := w8) xe
        have lb0 := b0.lt
        obtain ⟨qb0_0, qb0_1⟩ := blk2 b0
        have fb0_0 := b0.frozen 0
        have fb0_1 := b0.frozen 1
        clear b0
        go_upto_region 13 with (fail)
        refine name_wp (fun W => D g w4 W ∧ ∃ (s : DSegment) (A : Option Addr) (n c : Nat), GrownSeg t s ∧ Blk W w5.heap.size 37 [I s.ts, I s.beta, .slice A n c] ∧ SegmentV W.heap.size W (.agg #[I s.ts, I s.beta, .slice A n c]) s) ⟨D.setNew (D.setNew (D.setNew (D.trans d47 d8) hgr (by first | omega | (dsimp only; omega)) _) hgr (by first | omega | (dsimp only; omega)) _) hgr (by first | omega | (dsimp only; omega)) _, s8, A8, n8, c8, HG8.out, by simpa using ((BS8.out.set_ 0 (I s8.ts)).set_ 1 (I s8.beta)).set_ 2 (.slice A8 n8 c8), SegmentO_rd (OS8.out.keep fun k h1 _ _ => by rw [Below.heap_setCell _ _ _ _ (by dsimp only; omega), Below.heap_setCell _ _ _ _ (by dsimp only; omega), Below.heap_setCell _ _ _ _ (by dsimp only; omega)]) (by simp only [World.size_setCell]; exact Nat.le_refl _)⟩ ?_
        clear lb0 qb0_0 qb0_1 fb0_0 fb0_1 lb4 qb4_0 qb4_1 qb4_2 fb4_0 fb4_1 fb4_2
      case' false =>
        have b4 := BS7.out.ext (w' := w7) xe
        have lb4 := b4.lt
        obtain ⟨qb4_0, qb4_1, qb4_2⟩ := blk3 b4
        have fb4_0 := b4.frozen 0
        have fb4_1 := b4.frozen 1
        have fb4_2 := b4.frozen 2
        clear b4
        have b0 := BT7.out.ext (w' := w7) xe
        have lb0 := b0.lt
        obtain ⟨qb0_0, qb0_1⟩ := blk2 b0
        have fb0_0 := b0.frozen 0
        have fb0_1 := b0.frozen 1
        clear b0
        go_upto_region 13 with (fail)
        refine name_wp (fun W => D g w4 W ∧ ∃ (s : DSegment) (A : Option Addr) (n c : Nat), GrownSeg t s ∧ Blk W w5.heap.size 37 [I s.ts, I s.beta, .slice A n c] ∧ SegmentV W.heap.size W (.agg #[I s.ts, I s.beta, .slice A n c]) s) ⟨d47, s5, A5, n5, c5, HG5.out, BS7.out, SegmentO_rd OS7.out (by omega)⟩ ?_
        clear lb0 qb0_0 qb0_1 fb0_0 fb0_1 lb4 qb4_0 qb4_1 qb4_2 fb4_0 fb4_1 fb4_2
      all_goals
        rintro w9 ⟨d49, s, A, n, c, hgs, bs9, sv9⟩
        have BS9 := Lib.hid bs9; have SV9 := Lib.hid sv9; have hs5_ := hgs.1; clear bs9 sv9 hgs
        have z9 := d49.size
        have hg9 : g < w9.heap.size := by omega
        have OT9 := Lib.hid (OTr.out.d d49 (by omega))
        have BT9 := Lib.hid (HBT.out.d d49 (by omega))
        have b4 := BS9.out.ext (w' := w9) xe
        have lb4 := b4.lt
        obtain ⟨qb4_0, qb4_1, qb4_2⟩ := blk3 b4
        have fb4_0 := b4.frozen 0
        have fb4_1 := b4.frozen 1
        have fb4_2 := b4.frozen 2
        clear b4
        have b0 := BT9.out.ext (w' := w9) xe
        have lb0 := b0.lt
        obtain ⟨qb0_0, qb0_1⟩ := blk2 b0
        have fb0_0 := b0.frozen 0
        have fb0_1 := b0.frozen 1
        clear b0
        go_wp2_with fail
        clear lb0 qb0_0 qb0_1 fb0_0 fb0_1 lb4 qb4_0 qb4_1 qb4_2 fb4_0 fb4_1 fb4_2
        refine (spec_SignSegment _ _ t s w9 (by exact TopologyO_rd OT9.out (by omega)) (by exact SV9.out) (by omega)).mono ?_
        rintro e w10 ⟨v10, rfl, o10, e10⟩
        obtain ⟨x, hx⟩ : ∃ x, x = signSeg t s := ⟨_, rfl⟩
        have hx1 : x.seg.hops.length ≤ 5 := by rw [hx]; exact hs5_
        have hx2 : x.sigs.length ≤ 5 := by rw [hx]; simpa [signSeg] using hs5_
        rw [← hx] at o10
        clear hx
        obtain ⟨A2, c2, A3, c3, rfl, oh, osg⟩ := o10.l
        have OH := Lib.hid oh; have OG := Lib.hid osg; clear oh osg o10
        have z10 := e10.size
        have d910 : D g w9 w10 := D.of_ext e10 hg9
        go_upto_if 72 with (fail)
        go_cut [13] from 72 (fun p W => p = .pointer (some ⟨w10.heap.size, 0, none⟩) ∧ (∃ (y : DSignedSegment) (A2 : Option Addr) (c2 : Nat) (A3 : Option Addr) (c3 : Nat), y.seg.hops.length ≤ 5 ∧ y.sigs.length ≤ 5 ∧ Blk W w10.heap.size 40 [I y.seg.ts, I y.seg.beta, .slice A2 y.seg.hops.length c2, .slice A3 y.sigs.length c3] ∧ HopSO w9.heap.size W.heap.size W (.slice A2 y.seg.hops.length c2) y.seg.hops ∧ IntSO w9.heap.size W.heap.size W (.slice A3 y.sigs.length c3) y.sigs) ∧ D g w9 W)
        case first =>
          by_cases hs0 : 0 < x.sigs.length
          case' neg =>
            have i3 : ¬ (0 : Int) < (x.sigs.length : Int) := by omega
            go_wp2_with fail
            go_meet
            case rel => exact ⟨rfl, ⟨x, A2, c2, A3, c3, hx1, hx2, xb, Own.dUp OH.out (D.of_ext ((Ext.refl _).alloc _) (by omega)) hg9, Own.dUp OG.out (D.of_ext ((Ext.refl _).alloc _) (by omega)) hg9⟩, xd⟩
          case' pos =>
            have i3 : (0 : Int) < (x.sigs.length : Int) := by omega
            go_wp2_with fail
            refine name_calls (fun W => Ext w10 W ∧ W.heap.size = w10.heap.size + 1 ∧ Blk W w10.heap.size 40 [I x.seg.ts, I x.seg.beta, .slice A2 x.seg.hops.length c2, .slice A3 x.sigs.length c3]) ⟨xe, by simp only [World.size_alloc], xb⟩ ?_
            rintro w11 ⟨e11, z11_, bx⟩
            obtain ⟨z11, z11'⟩ := le_both z11_
            clear z11_ i3
            have BX := Lib.hid bx; clear bx
            have d911 : D g w9 w11 := D.trans d910 (D.of_ext e11 (by omega))
            have HC9 := Lib.hid (d49.cur HCR.out)
            refine (spec_l1Below g (x.sigs.length : Int) w11 (d911.cur HC9.out) (by omega)).mono ?_
            rintro e w12 ⟨x12, rfl, ⟨x12a, x12b, -⟩, d12⟩
            have x12b := x12b (by omega)
            obtain ⟨k, rfl⟩ : ∃ k : Nat, x12 = (k : Int) := ⟨x12.toNat, by omega⟩
            have hks : k < x.sigs.length := by omega
            go_wp2_with fail
            refine (spec_l1Below g 8 w12 (d12.cur (d911.cur HC9.out)) (by omega)).mono ?_
            rintro e w13 ⟨x13, rfl, -, d13⟩
            have d1113 : D g w11 w13 := D.trans d12 d13
            have d913 : D g w9 w13 := D.trans d911 d1113
            have d1013 : D g w10 w13 := D.trans (D.of_ext e11 (by omega)) d1113
            have z13 := d1113.size
            have BX13 := Lib.hid (BX.out.d d1113 (by omega))
            have OH13 := Lib.hid (Own.dUp OH.out d1013 hg9)
            have OG13 := Lib.hid (Own.dUp OG.out d1013 hg9)
            have HC13 := Lib.hid (d913.cur HC9.out)
            by_cases h0 : x13 = 0
            · subst h0
              obtain ⟨g3, cs3, hA3, h31, -, hb3, hf3, hc3, ho3⟩ := IntSO.setAt OG13.out hks (wrap64 (x.sigs[k] + 1))
              obtain ⟨g4, -, hA4, -, h42, -⟩ := IntSO.setAt OG.out hks 0
              subst hA3
              obtain rfl : g3 = g4 := by simpa using hA4
              clear hA4
              generalize x.sigs[k] = sg at *
              have HO3 := Lib.hid ho3; have HB3 := Lib.hid hb3; clear ho3 hb3
              have j0 : (0 : Int) ≤ (k : Int) := by omega
              have j1 : (k : Int) < (x.sigs.length : Int) := by omega
              have n1 : ¬ g3 = w10.heap.size := by omega
              have h32 : g3 < w13.heap.size := by omega
              have b1 := BX13.out.ext (w' := w13) xe
              have lb1 := b1.lt
              obtain ⟨qb1_0, qb1_1, qb1_2, qb1_3⟩ := blk4 b1
              have fb1_0 := b1.frozen 0
              have fb1_1 := b1.frozen 1
              have fb1_2 := b1.frozen 2
              have fb1_3 := b1.frozen 3
              clear b1
              go_wp2_with fail
              refine wp_region_LT 10 (E := Ext) (w0 := w13) (G := fun τ => match τ with | 0 => none | _ => none) Ext.refl (fun h k => Ext.trans h k) (by kernel_rfl) (by kernel_rfl) (by kernel_rfl) (by kernel_rfl) (by kernel_rfl) (by kernel_rfl) xg (Ext.drew (by exact Ext.refl _)) ?_
              simp only [List.take_succ_cons, List.take_zero]
              repeat' (first
                | ((with_reducible refine wpL_skip ?_ ?_ ?_)
                   · rfl
                   · rfl
                   simp only [Act.put, List.setIfInBounds_toArray, List.set_cons_zero, List.set_cons_succ])
                | ((with_reducible refine wpL_quiet ?_ ?_ ?_ ?_)
                   · rfl
                   · rfl
                   · rfl
                   apply Exists.intro
                   refine ⟨fun W hW hS => ?_, ?_⟩
                   · have hC := (Ext.facts hW).1
                     go_simp
                     first | done | (with_reducible rfl) | (rw [if_neg (by omega)]; exact ⟨rfl, rfl⟩) | rfl
                   first | (with_reducible refine wpL_boolT ?_) | (with_reducible refine wpL_boolF ?_) | (with_reducible refine wpL_bool (fun hB => ?_) (fun hB => ?_)) | skip
                   all_goals simp only [Act.put, List.setIfInBounds_toArray, List.set_cons_zero, List.set_cons_succ]))
              refine wpL_nil (fun w14 e14 hL => ?_)
              clear hL lb1 qb1_0 qb1_1 qb1_2 qb1_3 fb1_0 fb1_1 fb1_2 fb1_3
              obtain ⟨g5, cs5, hA5, -, -, hb5, hf5, hc5, ho5⟩ := IntSO.setAt (Own.dUp OG13.out (D.of_ext e14 (by omega)) hg9) hks (wrap64 (sg + 1))
              obtain rfl : g3 = g5 := by simpa using hA5
              have BX14 := Lib.hid (BX13.out.ext e14); have OH14 := Lib.hid (Own.dUp OH13.out (D.of_ext e14 (by omega)) hg9); have HB5 := Lib.hid hb5; have HO5 := Lib.hid ho5; clear hA5 hb5 ho5
              simp only [List.drop_succ_cons, List.drop_zero]
              go_wp2_with fail
              go_meet
              case rel =>
                refine ⟨rfl, ⟨⟨x.seg, x.sigs.set k (wrap64 (sg + 1))⟩, A2, c2, some ⟨g3, 0, none⟩, c3, hx1, by rw [List.length_set]; exact hx2, ?_, ?_, ?_⟩, D.setNew (D.trans d913 (D.of_ext e14 (by omega))) hg9 (by first | omega | (dsimp only; omega)) _⟩
                · rw [List.length_set]
                  exact BX14.out.far (by dsimp only; omega) _
                · simp only [World.size_setCell]
                  exact Own.setT OH14.out HB5.out (by decide) _ _
                · simp only [World.size_setCell, List.length_set]
                  exact HO5.out
            have q0 : (x13 == 0) = false := beq_eq_false_iff_ne.2 h0
            by_cases h1 : x13 = 1
            · subst h1
              have hlen := (IntSO_len2 (IntSO_rd OG13.out)).1
              have j0 : (0 : Int) ≤ (k : Int) := by omega
              have j1 : (k : Int) ≤ (c3 : Int) := by omega
              have b1 := BX13.out.ext (w' := w13) xe
              have lb1 := b1.lt
              obtain ⟨qb1_0, qb1_1, qb1_2, qb1_3⟩ := blk4 b1
              have fb1_0 := b1.frozen 0
              have fb1_1 := b1.frozen 1
              have fb1_2 := b1.frozen 2
              have fb1_3 := b1.frozen 3
              clear b1
              have hlk : (x.sigs.take k).length = k := by rw [List.length_take]; omega
              have FR := Lib.hid (Own.front OG13.out (k := k) (by omega))
              go_wp2_with fail
              go_meet
              case rel =>
                refine ⟨rfl, ⟨⟨x.seg, x.sigs.take k⟩, A2, c2, A3, c3, hx1, by dsimp only; omega, ?_, ?_, ?_⟩, D.setNew d913 hg9 (by first | omega | (dsimp only; omega)) _⟩
                · dsimp only
                  rw [hlk]
                  exact BX13.out.set_ 3 _
                · simp only [World.size_setCell]
                  exact Own.setT OH13.out BX13.out (by decide) _ _
                · simp only [World.size_setCell]
                  have h9 := FR.out
                  rw [Nat.mul_one, ← List.map_take] at h9
                  unfold IntSO
                  try dsimp only
                  rw [hlk]
                  exact Own.setT h9 BX13.out (by decide) _ _
            have q1 : (x13 == 1) = false := beq_eq_false_iff_ne.2 h1
            by_cases h2 : x13 = 2
            · subst h2
              have b1 := BX13.out.ext (w' := w13) xe
              have lb1 := b1.lt
              obtain ⟨qb1_0, qb1_1, qb1_2, qb1_3⟩ := blk4 b1
              have fb1_0 := b1.frozen 0
              have fb1_1 := b1.frozen 1
              have fb1_2 := b1.frozen 2
              have fb1_3 := b1.frozen 3
              clear b1
              go_wp2_with fail
              refine (spec_l9Spoil g _ x.seg w13 HC13.out (by exact ⟨_, _, _, rfl, HopSO_rd OH13.out⟩) (by omega)).mono ?_
              rintro e w14 ⟨v14, rfl, ⟨y, oy, hy⟩, d14⟩
              obtain ⟨uy, rfl, ohy, -⟩ := oy
              obtain ⟨Ay, ny, cy, rfl⟩ := Own.slice ohy
              obtain ⟨rfl, -⟩ := NO.row ohy
              have OHY := Lib.hid ohy; clear ohy lb1 qb1_0 qb1_1 qb1_2 qb1_3 fb1_0 fb1_1 fb1_2 fb1_3
              have z14 := d14.size
              have BX14 := Lib.hid (BX13.out.d d14 (by omega))
              have OHY := Lib.hid (show HopSO w13.heap.size w14.heap.size w14 (.slice Ay y.hops.length cy) y.hops from OHY.out)
              have OG14 := Lib.hid (Own.dUp OG13.out d14 hg9)
              go_upto_region 23 with (fail)
              refine name_wp (fun W => Ext w14 W ∧ W.heap.size = w14.heap.size + 1 ∧ Blk W w14.heap.size 37 [I y.ts, I y.beta, .slice Ay y.hops.length cy]) ⟨xe, by simp only [World.size_alloc], xb⟩ ?_
              rintro w15 ⟨e15, z15, by15⟩
              have BY := Lib.hid by15; clear by15
              have BX15 := Lib.hid (BX14.out.ext e15)
              have d15 : D g w9 w15 := D.trans (D.trans d913 d14) (D.of_ext e15 (by omega))
              have OH15 := Lib.hid (Own.more (Own.ext OHY.out e15 (Nat.le_refl _)) (show w9.heap.size ≤ w13.heap.size by omega) (show w14.heap.size ≤ w15.heap.size by omega))
              have OG15 := Lib.hid (Own.dUp OG14.out (D.of_ext e15 (by omega)) hg9)
              have n2 : ¬ w14.heap.size = w10.heap.size := by omega
              have n3 : ¬ w10.heap.size = w14.heap.size := by omega
              have b1 := BX15.out.ext (w' := w15) xe
              have lb1 := b1.lt
              obtain ⟨qb1_0, qb1_1, qb1_2, qb1_3⟩ := blk4 b1
              have fb1_0 := b1.frozen 0
              have fb1_1 := b1.frozen 1
              have fb1_2 := b1.frozen 2
              have fb1_3 := b1.frozen 3
              clear b1
              have b2 := BY.out.ext (w' := w15) xe
              have lb2 := b2.lt
              obtain ⟨qb2_0, qb2_1, qb2_2⟩ := blk3 b2
              have fb2_0 := b2.frozen 0
              have fb2_1 := b2.frozen 1
              have fb2_2 := b2.frozen 2
              clear b2
              go_wp2_with fail
              go_meet
              case rel =>
                have bs1 := BX15.out.set_ 0 (I y.ts)
                have bs2 := bs1.set_ 1 (I y.beta)
                refine ⟨rfl, ⟨⟨y, x.sigs⟩, Ay, cy, A3, c3, by dsimp only; omega, hx2, bs2.set_ 2 _, ?_, ?_⟩, D.setNew (D.setNew (D.setNew d15 hg9 (by first | omega | (dsimp only; omega)) _) hg9 (by first | omega | (dsimp only; omega)) _) hg9 (by first | omega | (dsimp only; omega)) _⟩
                · simp only [World.size_setCell]
                  exact Own.setT (Own.setT (Own.setT OH15.out BX15.out (by decide) _ _) bs1 (by decide) _ _) bs2 (by decide) _ _
                · simp only [World.size_setCell]
                  exact Own.setT (Own.setT (Own.setT OG15.out BX15.out (by decide) _ _) bs1 (by decide) _ _) bs2 (by decide) _ _
            have q2 : (x13 == 2) = false := beq_eq_false_iff_ne.2 h2
            clear h0 h1 h2
            go_wp2_with fail
            go_meet
            case rel => exact ⟨rfl, ⟨x, A2, c2, A3, c3, hx1, hx2, BX13.out, OH13.out, OG13.out⟩, d913⟩
        case rest =>
          obtain ⟨rfl, ⟨y, A2, c2, A3, c3, hy1, hy2, bf, ohf, ogf⟩, df⟩ := hcut
          have BF := Lib.hid bf; have OHF := Lib.hid ohf; have OGF := Lib.hid ogf; clear bf ohf ogf
          have zf := df.size
          have d4f : D g w4 wc := D.trans d49 df
          have dbf : D g wb wc := D.trans hd d4f
          have dwf : D g w wc := D.trans da (D.trans dab dbf)
          have BTF := Lib.hid (HBT.out.d d4f (by omega))
          have B0F := Lib.hid (B0B.out.d dbf (by omega)); have B1F := Lib.hid (B1B.out.d dbf (by omega))
          have OTF := Lib.hid (OTr.out.d d4f (by omega)); have OLF := Lib.hid (NO.d TrustRootOC.keeps OLr.out d4f (by omega)); have OMF := Lib.hid (Own.dUp HNO.out d4f (by omega))
          have n1 : ¬ w2.heap.size = w.heap.size := by omega
          have n2 : ¬ w.heap.size = w2.heap.size := by omega
          have n3 : ¬ w2.heap.size = w.heap.size + 1 := by omega
          have n4 : ¬ w.heap.size + 1 = w2.heap.size := by omega
          have n5 : ¬ w10.heap.size = w.heap.size := by omega
          have n6 : ¬ w.heap.size = w10.heap.size := by omega
          have n7 : ¬ w10.heap.size = w.heap.size + 1 := by omega
          have n8 : ¬ w.heap.size + 1 = w10.heap.size := by omega
          go_wp2_with fail
          have b4_ := BTF.out.ext (w' := wc) xe
          have lb4_ := b4_.lt
          obtain ⟨qb4__0, qb4__1⟩ := blk2 b4_
          have fb4__0 := b4_.frozen 0
          have fb4__1 := b4_.frozen 1
          clear b4_
          have b6_ := BF.out.ext (w' := wc) xe
          have lb6_ := b6_.lt
          obtain ⟨qb6__0, qb6__1, qb6__2, qb6__3⟩ := blk4 b6_
          have fb6__0 := b6_.frozen 0
          have fb6__1 := b6_.frozen 1
          have fb6__2 := b6_.frozen 2
          have fb6__3 := b6_.frozen 3
          clear b6_
          have c0_ := B0F.out.ext (w' := wc) xe
          have lc0_ := c0_.lt
          obtain ⟨qc0__0, qc0__1⟩ := blk2 c0_
          have fc0__0 := c0_.frozen 0
          have fc0__1 := c0_.frozen 1
          clear c0_
          have c1_ := B1F.out.ext (w' := wc) xe
          have lc1_ := c1_.lt
          obtain ⟨qc1__0, qc1__1, qc1__2, qc1__3⟩ := blk4 c1_
          have fc1__0 := c1_.frozen 0
          have fc1__1 := c1_.frozen 1
          have fc1__2 := c1_.frozen 2
          have fc1__3 := c1_.frozen 3
          clear c1_
          go_region
          all_goals
            go_wp2_with fail
            refine bodyPost_ret (v := .tuple #[.agg #[.slice At_0 nt_0 ct_0, .slice At_1 nt_1 ct_1], .slice Al l.length cl, .slice av xs.length cv, .agg #[I y.seg.ts, I y.seg.beta, .slice A2 y.seg.hops.length c2, .slice A3 y.sigs.length c3]]) (by simp [results, Tryz.results16, go_sem, *]) rfl ⟨⟨_, _, _, _, rfl, t, l, xs, y, ?_, HDT.out, ?_, HDR.out, ?_, by omega, ?_, hy1, hy2, HLK.out⟩, ?_⟩
            · exact TopologyO.more (OTF.out.keep fun k h1 _ _ => (kp (lo := wa.heap.size)).same k h1) (by omega) (Nat.le_trans (show w2.heap.size ≤ wc.heap.size by omega) (Nat.le_of_eq (kp (lo := wa.heap.size) (a := wc)).size.symm))
            · exact NO.more (NO.keep TrustRootOC.keeps OLF.out fun k h1 _ _ => (kp (lo := wa.heap.size)).same k h1) (by omega) (Nat.le_trans (show w2.heap.size ≤ wc.heap.size by omega) (Nat.le_of_eq (kp (lo := wa.heap.size) (a := wc)).size.symm))
            · exact Own.more (OMF.out.keep fun k h1 _ _ => (kp (lo := wa.heap.size)).same k (by omega)) (by omega) (Nat.le_of_eq (kp (lo := wa.heap.size) (a := wc)).size.symm)
            · exact ⟨A2, c2, A3, c3, rfl, Own.more (OHF.out.keep fun k h1 _ _ => (kp (lo := wa.heap.size)).same k (by omega)) (by omega) (Nat.le_of_eq (kp (lo := wa.heap.size) (a := wc)).size.symm), Own.more (OGF.out.keep fun k h1 _ _ => (kp (lo := wa.heap.size)).same k (by omega)) (by omega) (Nat.le_of_eq (kp (lo := wa.heap.size) (a := wc)).size.symm)⟩
            · exact xd
end Go.Proofs.YtddaodemdkjijaaGreat
