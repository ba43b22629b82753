/- The contract of the reference's l9Grow: some segment of at most five hops at realms of the topology. No conditions. -/
import Derived.Test.YtmopmgaeiokfjaaGreatGD18
import Derived.Test.YtmopmgaeiokfjaaGreatDK
import Derived.Test.YtmopmgaeiokfjaaGreatGL9e
import Derived.Test.YtmopmgaeiokfjaaGreatGL10a
import Derived.Test.YtmopmgaeiokfjaaGreatGL13
import Derived.Test.YtmopmgaeiokfjaaGreatGGrow
import Derived.Deep.CutRange
set_option maxRecDepth 100000
set_option maxHeartbeats 8000000
namespace Go.Proofs.YtmopmgaeiokfjaaGreat
open Go.RowKit
set_option linter.unusedVariables false
theorem linkOk_isAs {t : DTopology} {u : DLink} (h : linkOk t u = true) : isAs t u.a = true ∧ isAs t u.b = true := by
 unfold linkOk at h;simp only [Bool.and_eq_true] at h;exact ⟨h.1, h.2.1⟩
theorem far_isAs {t : DTopology} {r kind d : Int} (hok : LinksOk t) (hd : d ∈ ifsOf t r kind) : isAs t (remEnd t r d).1 = true := by
 have hm : d ∈ ifaces t.links r := (List.mem_filter.1 hd).1;obtain ⟨u, hu, hur⟩ := (ifaces_mem t.links).1 hm;obtain ⟨j, hj, rfl⟩ := List.getElem_of_mem hu
 have hp : usesIf t.links[j] r d = true := by
  unfold usesIf;simp only [Bool.or_eq_true, Bool.and_eq_true, beq_iff_eq];exact hur
 rcases fstIx_cases (fun k => usesIf (t.links.getD k dLink) r d) t.links.length with ⟨_, h2⟩ | ⟨k, hk, e, -⟩
 · have h3 := h2 j hj
   simp only [linkAt hj, hp] at h3;cases h3
 · have e2 : linkIdx t r d = (k : Int) := e
   have h4 := linkOk_isAs (hok _ (List.getElem_mem hk));unfold remEnd;rw [e2, if_neg (by omega), Int.toNat_natCast, linkAt hk];split
   · exact h4.2
   · exact h4.1
theorem topoAS {B n0 c0 n1 c1 : Nat} {w : World} {A0 A1 : Option Addr} {t : DTopology} (h : TopologyV B w (.agg #[.slice A0 n0 c0, .slice A1 n1 c1]) t) : ASS B w (.slice A0 n0 c0) t.ases ∧ LinkS B w (.slice A1 n1 c1) t.links := by
 obtain ⟨_, _, _, _, _, _, e, s0, s1⟩ := h;cases e;exact ⟨s0, s1⟩
def GrownSeg (t : DTopology) (s : DSegment) : Prop := s.hops.length ≤ 5 ∧ ∀ h ∈ s.hops, isAs t h.asn = true ∧ 0 ≤ h.exp ∧ h.exp ≤ 1000
theorem GrownSeg.snoc {t : DTopology} {s : DSegment} {n : Nat} (h : s.hops.length ≤ n ∧ ∀ h ∈ s.hops, isAs t h.asn = true ∧ 0 ≤ h.exp ∧ h.exp ≤ 1000) (x : DHop) (hx : isAs t x.asn = true ∧ 0 ≤ x.exp ∧ x.exp ≤ 1000) : (s.hops ++ [x]).length ≤ n + 1 ∧ ∀ h ∈ s.hops ++ [x], isAs t h.asn = true ∧ 0 ≤ h.exp ∧ h.exp ≤ 1000 := by
 refine ⟨by rw [List.length_append, List.length_singleton]; omega, fun y hy => ?_⟩
 rcases List.mem_append.1 hy with hy | hy
 · exact h.2 y hy
 · have e : y = x := by simpa using hy
   subst e; exact hx
theorem spec_l9Grow (g : Nat) (vt : Value) (kind : Int) (t : DTopology) (lo hi : Nat) (w : World) (hc : Cur w g) (ht : TopologyO lo hi w vt t) (hg : g < lo) (hhi : hi ≤ w.heap.size) (hdt : DrawnTopo t) (hok : LinksOk t) :
 Calls Tryz.prog 32 #[.pointer (some ⟨g, 0, none⟩), vt, I kind] w fun e w' => ∃ v', e = .returned v' ∧ (∃ s : DSegment, SegmentO w.heap.size w'.heap.size w' v' s ∧ GrownSeg t s) ∧ D g w w' := by
 have HC := Lib.hid hc;have hgw := hc.lt;have HT := Lib.hid ht; have HOK := Lib.hid hok;have ht8 : t.ases.length ≤ 8 := hdt.2.1;have hl100 : t.links.length ≤ 100 := hdt.2.2.1;obtain ⟨At_0, nt_0, ct_0, At_1, nt_1, ct_1, rfl, st_0, st_1⟩ := ht.v;obtain ⟨lt_0, kt_0, mt_0⟩ := st_0.len;subst lt_0;obtain ⟨lt_1, kt_1, mt_1⟩ := st_1.len;subst lt_1;have HRT := Lib.hid (TopologyO_rd ht hhi);have ST0 := Lib.hid st_0;clear hc st_0 st_1 ht hok hdt
 go_enter Tryz.func32, Tryz.ntmps32
 go_wp2_with fail
 refine name_wp (fun W => ∃ wb, D g w wb ∧ wb.heap.size = w.heap.size + 1 + 1 ∧ Blk wb w.heap.size 27 [.slice At_0 t.ases.length ct_0, .slice At_1 t.links.length ct_1] ∧ Blk wb (w.heap.size + 1) 33 [I 0, I 0, .slice none 0 0] ∧ Ext wb W ∧ IntSO wb.heap.size W.heap.size W (.slice (some ⟨w.heap.size + 1 + 1, 0, none⟩) 0 0) []) ⟨_, D.alloc (D.alloc (D.refl _ _) hgw _) hgw _, by simp only [World.size_alloc], xb, xb, (Ext.refl _).alloc _, own_zero' _ _ _ _ _ (by simp only [World.size_alloc]) (Nat.le_refl _)⟩ ?_;rintro w0 ⟨wb, db, zb_, bt, br, e0, hz⟩;obtain ⟨zb, zb'⟩ := le_both zb_;clear zb_;have BT := Lib.hid bt; have BR := Lib.hid br; have HZ := Lib.hid hz; clear bt br hz;have HCB := Lib.hid (db.cur HC.out)
 have hgb : g < wb.heap.size := by omega
 go_loopw [7, 8] (fun v i wr => ∃ (k : Nat) (l : List Int), k ≤ t.ases.length ∧ i = I k ∧ IntSO wb.heap.size wr.heap.size wr v l ∧ l.length ≤ k ∧ (∀ r ∈ l, isAs t r = true) ∧ Ext wb wr) (fun _ i _ => t.ases.length - (intOf i).toNat)
 case atStart => exact ⟨0, [], by omega, rfl, HZ.out, by simp, fun r hr => by simp at hr, e0⟩
 case round =>
  obtain ⟨k, l, hk, rfl, hl, hll, hlr, he⟩ := hrel;obtain ⟨av, nv, cv, hv⟩ := hl.slice;subst hv;obtain ⟨hnv, hcv⟩ := NO.row hl;subst hnv;have HL := Lib.hid hl; have HLR := Lib.hid hlr; clear hl hlr;have zr := he.size
  have hgr : g < wr.heap.size := by omega
  have dbr : D g wb wr := D.of_ext he hgb;have dwr : D g w wr := D.trans db dbr;have zwr := dwr.size;have BTr := Lib.hid (BT.out.ext he);have b0 := BTr.out.ext (w' := wr) xe;have lb0 := b0.lt;obtain ⟨qb0_0, qb0_1⟩ := blk2 b0;have fb0_0 := b0.frozen 0;have fb0_1 := b0.frozen 1;clear b0;by_cases hlt : k < t.ases.length
  · obtain ⟨s0r, -⟩ := topoAS (TopologyO_rd (HT.out.d dwr hg) (by omega))
    obtain ⟨b, off, hA, hb, hkl, hc⟩ := s0r.at_ hlt;have hks : isAs t (k : Int) = true := inR_iff.2 (by omega)
    generalize t.ases[k] = u at *
    subst hA;obtain ⟨hu_0, hu_1, hu_2⟩ := hc;have HKS := Lib.hid hks;clear s0r hks hu_0 hu_2
    have i0 : (0 : Int) ≤ (k : Int) := by omega
    have i1 : (k : Int) < (t.ases.length : Int) := by omega
    generalize u.core = uc at *
    cases uc
    · go_wp2_with fail
      go_roundw
      case rel => exact ⟨k + 1, l, by omega, by go_num, HL.out, by omega, HLR.out, he⟩
      case measure => first | (simp [intOf]; done) | (simp [intOf]; omega)
    · go_wp2_with (at_builtin; refine hold ?_)
      refine unhold (wpList_appL wb.heap.size rfl (.tmp 32) (.tmp 34) _ rfl 3 (.int .i64 0) 1 8 Tryz.underlying96 info_int rfl (by omega) (.slice av l.length cv) l.length (l.map I) rfl _ 1 1 [I (k : Int)] rfl (by exact (Own.ext HL.out (w' := wr.alloc _) xe (Nat.le_refl _)).lt_size) (row_one _ _ _ _ _ (by first | rfl | simp) rfl) (one_ints [(k : Int)]) (by simp only [World.size_alloc]; omega) (by unfold maxLen; omega) (by omega) ?_);intro v8 w8 o8 hg8
      have h57 := (Own.ext HL.out (w' := wr.alloc (.cells #[I (k : Int)] 3)) xe (Nat.le_refl _))
      have E8 := Lib.hid (Ext.grownB (a := wb) (w := wr.alloc (.cells #[I (k : Int)] 3)) xe h57 hg8 (Nat.le_refl _))
      have o9 : IntSO wb.heap.size w8.heap.size w8 v8 (l ++ [(k : Int)]) := by
       unfold IntSO;rw [List.length_append, List.length_singleton, List.map_append];exact o8
      have O9 := Lib.hid o9; clear o8 o9 hg8 h57;go_wp2_with (at_builtin; refine hold ?_)
      go_roundw
      case rel => exact ⟨k + 1, l ++ [(k : Int)], by omega, by go_num, O9.out, by simp; omega, fun r hr => by rcases List.mem_append.1 hr with hr | hr; exact HLR.out r hr; (have e : r = (k : Int) := by simpa using hr); subst e; exact HKS.out, E8.out⟩
      case measure => first | (simp [intOf]; done) | (simp [intOf]; omega)
  · obtain rfl : k = t.ases.length := by omega
    have i1 : ¬ (t.ases.length : Int) < (t.ases.length : Int) := by omega
    obtain ⟨w1, hw1⟩ : ∃ w1, w1 = wr := ⟨_, rfl⟩
    subst hw1;have HC1 := Lib.hid (dbr.cur HCB.out);have hg1 : g < w1.heap.size := hgr
    have z01 : w.heap.size + 1 + 1 ≤ w1.heap.size := by omega
    have hi1 : hi ≤ w1.heap.size := by omega
    have BR1 := Lib.hid (BR.out.ext he);have HT1 := Lib.hid (HT.out.d dwr hg)
    have hlc : l.length ≤ 8 := by omega
    go_wp2_with fail
    clear i1 hlt lb0 qb0_0 qb0_1 fb0_0 fb0_1;refine (spec_l1Below g 50 w1 HC1.out (by omega)).mono ?_;rintro e w2 ⟨x2, rfl, ⟨x2a, x2b, -⟩, d2⟩;have x2b := x2b (by omega);have z2 := d2.size;go_wp2_with fail
    refine (spec_l1Below g 1000000 w2 (d2.cur HC1.out) (by omega)).mono ?_;rintro e w3 ⟨x3, rfl, -, d3⟩;have z3 := d3.size;have d13 : D g w1 w3 := D.trans d2 d3;have BR3 := Lib.hid (BR1.out.d d13 (by omega));have dw3 : D g w w3 := D.trans dwr d13;by_cases h0 : l.length = 0
    · have q0 : ((l.length : Int) == 0) = true := by rw [h0]; rfl
      have HH := Lib.hid h0; clear h0;have b1 := BR3.out.ext (w' := w3) xe;have lb1 := b1.lt;obtain ⟨qb1_0, qb1_1, qb1_2⟩ := blk3 b1;have fb1_0 := b1.frozen 0;have fb1_1 := b1.frozen 1;have fb1_2 := b1.frozen 2;clear b1;go_wp2_with fail
      refine bodyPost_ret (v := .agg #[I x2, I x3, .slice none 0 0]) (by simp [results, Tryz.results32, go_sem, *]) rfl ⟨_, rfl, ⟨⟨x2, x3, []⟩, ⟨_, rfl, Own.nil _ _ _ _ _, ?_⟩, ⟨by simp, by simp⟩⟩, ?_⟩
      · simp only [World.size_setCell, World.size_alloc]; omega
      · exact xd
    · have q0 : ((l.length : Int) == 0) = false := beq_eq_false_iff_ne.2 (by omega)
      go_wp2_with fail
      refine name_calls (fun W => D g w1 W ∧ W.heap.size = w3.heap.size + 1 ∧ Blk W w3.heap.size 33 [I x2, I x3, .slice none 0 0]) ⟨xd, by simp only [World.size_alloc], xb⟩ ?_;rintro w4 ⟨d14, z4_, bs⟩;obtain ⟨z4, z4'⟩ := le_both z4_;clear z4_;have BS := Lib.hid bs; clear bs;refine (spec_l1Below g (l.length : Int) w4 (d14.cur HC1.out) (by omega)).mono ?_;rintro e w5 ⟨x5, rfl, ⟨x5a, x5b, -⟩, d5⟩;have x5b := x5b (by omega)
      obtain ⟨k5, rfl⟩ : ∃ k5 : Nat, x5 = (k5 : Int) := ⟨x5.toNat, by omega⟩
      have z5 := d5.size;have d15 : D g w1 w5 := D.trans d14 d5;obtain ⟨bl, ol, hAl, hbl, hkl, hcl⟩ := (IntSO_rd (Own.more (HL.out.d d15 (by omega)) (Nat.le_refl _) d15.size)).at_ (k := k5) (by omega);have hcl : w5.cell? ⟨bl, ol + k5, none⟩ = some (I l[k5]) := hcl;have hr5 : isAs t l[k5] = true := HLR.out _ (List.getElem_mem _)
      generalize l[k5] = r5 at *
      subst hAl;have HR5 := Lib.hid hr5; clear hr5;have BS5 := Lib.hid (BS.out.d d5 (by omega))
      have k50 : (0 : Int) ≤ (k5 : Int) := by omega
      go_wp2_with fail
      clear hcl hkl k50 x5a x5b q0;have x2c := x2b
      go_loopw [10, 11, 12] (fun vr vi i wr => ∃ (k : Nat) (r inn : Int) (s : DSegment) (A : Option Addr) (c : Nat), k ≤ 5 ∧ i = I k ∧ vr = I r ∧ vi = I inn ∧ isAs t r = true ∧ Blk wr w3.heap.size 33 [I s.ts, I s.beta, .slice A s.hops.length c] ∧ HopSO w4.heap.size wr.heap.size wr (.slice A s.hops.length c) s.hops ∧ (s.hops.length ≤ k ∧ ∀ h ∈ s.hops, isAs t h.asn = true ∧ 0 ≤ h.exp ∧ h.exp ≤ 1000) ∧ s.ts = x2 ∧ w4.heap.size ≤ wr.heap.size ∧ D g w1 wr) (fun _ _ i _ => 5 - (intOf i).toNat)
      case atStart => exact ⟨0, r5, 0, ⟨x2, x3, []⟩, none, 0, by omega, rfl, rfl, rfl, HR5.out, BS5.out, Own.nil _ _ _ _ _, ⟨by simp, by simp⟩, rfl, z5, d15⟩
      case round =>
       clear BS5 d15 z5 d5;obtain ⟨k, r, inn, s, A, c, hk5, rfl, rfl, rfl, hr, bs, oh, hgs, hts, hz4, hd⟩ := hrel;have HR := Lib.hid hr; have BSr := Lib.hid bs; have OH := Lib.hid oh; have HGS := Lib.hid hgs; have HTS := Lib.hid hts;have hsl := hgs.1;clear hr bs oh hgs hts;have zr := hd.size
       have hgr : g < wr.heap.size := by omega
       have dwr2 : D g w wr := D.trans dwr hd;have HCr := Lib.hid (hd.cur HC1.out);have BTr := Lib.hid ((BT.out.ext he).d hd (by omega))
       have hi0 : (0 : Int) ≤ (k : Int) := by omega
       by_cases hlt : k < 5
       · have i1 : (k : Int) < 5 := by omega
         have b0 := BTr.out.ext (w' := wr) xe;have lb0 := b0.lt;obtain ⟨qb0_0, qb0_1⟩ := blk2 b0;have fb0_0 := b0.frozen 0;have fb0_1 := b0.frozen 1;clear b0;go_wp2_with fail
         clear i1 lb0 qb0_0 qb0_1 fb0_0 fb0_1;refine (spec_InterfacesOfKind _ r kind t wr (by exact TopologyO_rd (HT.out.d dwr2 hg) (by omega)) (by omega)).mono ?_;rintro e w6 ⟨v6, rfl, o6, e6⟩;have HFAR : Hid (∀ d ∈ ifsOf t r kind, isAs t (remEnd t r d).1 = true) := fun d hd => far_isAs HOK.out hd;have m6 : (ifsOf t r kind).length ≤ 200 := Nat.le_trans (List.length_filter_le _ _) (Nat.le_trans (ifaces_len r t.links) (by omega))
         generalize ifsOf t r kind = L at *
         obtain ⟨A6, n6, c6, rfl⟩ := o6.slice;obtain ⟨hn6, -⟩ := NO.row o6;subst hn6;have O6 := Lib.hid o6; clear o6;have z6 := e6.size;have d6 : D g w1 w6 := D.trans hd (D.of_ext e6 hgr);have HC6 := Lib.hid (d6.cur HC1.out)
         go_upto_region 17 with (fail)
         go_cut [67] from 52 to 137 (fun b wx => ∃ bb : Bool, b = .bool bb ∧ (bb = true → 0 < L.length) ∧ D g w6 wx)
         case first =>
          by_cases hL : 0 < L.length
          · have i2 : (0 : Int) < (L.length : Int) := by omega
            go_wp2_with fail
            refine (spec_l1Once g 5 w6 HC6.out (by omega)).mono ?_;rintro e w7 ⟨b7, rfl, d7⟩;cases b7
            all_goals
             go_wp2_with fail
             go_meet
             case rel => exact ⟨_, rfl, fun _ => hL, d7⟩
          · have i2 : ¬ (0 : Int) < (L.length : Int) := by omega
            go_wp2_with fail
            go_meet
            case rel => exact ⟨_, rfl, (fun h => by cases h), D.refl _ _⟩
         case rest =>
          obtain ⟨bb, rfl, hbb, d67⟩ := hcut;have HBB := Lib.hid hbb; clear hbb
          go_upto_if 67 with (fail)
          go_cut [13] from 52 to 137 (fun d wx => ∃ dd : Int, d = I dd ∧ (dd = 0 ∨ dd ∈ L) ∧ D g w6 wx)
          case first =>
           cases bb
           · go_wp2_with fail
             go_meet
             case rel => exact ⟨0, rfl, .inl rfl, d67⟩
           · have hL : 0 < L.length := HBB.out rfl
             go_wp2_with fail
             refine (spec_l1Below g (L.length : Int) wc (d67.cur HC6.out) (by omega)).mono ?_;rintro e w7 ⟨x7, rfl, ⟨x7a, x7b, -⟩, d7⟩;have x7b := x7b (by omega)
             obtain ⟨k7, rfl⟩ : ∃ k7 : Nat, x7 = (k7 : Int) := ⟨x7.toNat, by omega⟩
             obtain ⟨bl7, ol7, hAl7, hbl7, hkl7, hcl7⟩ := (IntSO_rd (Own.more ((O6.out.d d67 (by omega)).d d7 (by omega)) (Nat.le_refl _) (by have := d67.size; have := d7.size; omega))).at_ (k := k7) (by omega);have hcl7 : w7.cell? ⟨bl7, ol7 + k7, none⟩ = some (I L[k7]) := hcl7;have hm7 : L[k7] ∈ L := List.getElem_mem _
             generalize L[k7] = d7v at *
             subst hAl7;have HM7 := Lib.hid hm7; clear hm7
             have k70 : (0 : Int) ≤ (k7 : Int) := by omega
             go_wp2_with fail
             go_meet
             case rel => exact ⟨d7v, rfl, .inr HM7.out, D.trans d67 d7⟩
          case rest =>
           obtain ⟨d, rfl, hd0, d68⟩ := hcut;have HD0 : Hid (d = 0 ∨ isAs t (remEnd t r d).1 = true) := hd0.imp id (fun h => HFAR.out d h);clear hd0 d67 HBB bb;have z68 := d68.size;have d18 : D g w1 wc := D.trans d6 d68;have BTc := Lib.hid ((BT.out.ext he).d d18 (by omega));have b0 := BTc.out.ext (w' := wc) xe;have lb0 := b0.lt;obtain ⟨qb0_0, qb0_1⟩ := blk2 b0;have fb0_0 := b0.frozen 0;have fb0_1 := b0.frozen 1;clear b0;go_wp2_with fail
           clear lb0 qb0_0 qb0_1 fb0_0 fb0_1;refine (spec_RemoteEnd _ r d t wc (by exact TopologyO_rd (HT.out.d (D.trans dwr d18) hg) (by omega))).mono ?_;rintro e w7 ⟨rfl, e7⟩
           generalize (remEnd t r d).2 = door at *
           generalize (remEnd t r d).1 = far at *
           have z7 := e7.size;have d17 : D g w1 w7 := D.trans d18 (D.of_ext e7 (by omega));have d17r : D g wr w7 := D.trans (D.trans (D.of_ext e6 hgr) d68) (D.of_ext e7 (by omega));have BS7 := Lib.hid (BSr.out.d d17r (by omega));have OH7 := Lib.hid (Own.dUp OH.out d17r (by omega));have BR7 := Lib.hid (BR1.out.d d17 (by omega));have HC7 := Lib.hid (d17.cur HC1.out)
           go_upto_region 20 with (fail)
           go_cut [99] from 52 to 137 (fun b wx => ∃ bb : Bool, b = .bool bb ∧ D g w7 wx)
           case first =>
            by_cases hdz : d = 0
            · subst hdz
              go_wp2_with fail
              go_meet
              case rel => exact ⟨_, rfl, D.refl _ _⟩
            · have q1 : (d != 0) = true := by simpa using hdz
              clear hdz;have b1 := BS7.out.ext (w' := w7) xe;have lb1 := b1.lt;obtain ⟨qb1_0, qb1_1, qb1_2⟩ := blk3 b1;have fb1_0 := b1.frozen 0;have fb1_1 := b1.frozen 1;have fb1_2 := b1.frozen 2;clear b1;go_wp2_with fail
              refine (spec_SegmentASes _ s w7 (by exact ⟨_, _, _, rfl, HopSO_rd OH7.out⟩) (by omega)).mono ?_;rintro e w8 ⟨v8, rfl, o8, e8⟩;have d8 : D g w7 w8 := D.of_ext e8 (by omega);clear lb1 qb1_0 qb1_1 qb1_2 fb1_0 fb1_1 fb1_2;go_wp2_with fail
              refine (spec_l9Has v8 far (ases s.hops) w8 (by exact IntSO_rd o8)).mono ?_;rintro e w9 ⟨rfl, rfl⟩;cases h9 : hasI (ases s.hops) far
              · have HH9 := Lib.hid h9; clear h9
                by_cases hfr : far = r
                · have q3 : (far == r) = true := beq_iff_eq.2 hfr
                  clear hfr;go_wp2_with fail
                  go_meet
                  case rel => exact ⟨_, rfl, d8⟩
                · have q3 : (far == r) = false := beq_eq_false_iff_ne.2 hfr
                  clear hfr;go_wp2_with fail
                  go_meet
                  case rel => exact ⟨_, rfl, d8⟩
              · have HH9 := Lib.hid h9; clear h9
                go_wp2_with fail
                go_meet
                case rel => exact ⟨_, rfl, d8⟩
           case rest =>
            obtain ⟨bb, rfl, d79⟩ := hcut
            go_upto_if 99 with (fail)
            go_cut [13] from 52 to 137 (fun e wx => ∃ ee : Int, e = I ee ∧ (ee = 0 ∨ ee = d) ∧ D g w7 wx)
            case first =>
             cases bb
             · go_wp2_with fail
               go_meet
               case rel => exact ⟨d, rfl, .inr rfl, d79⟩
             · have BSc := Lib.hid (BS7.out.d d79 (by omega))
               have BRc := Lib.hid (BR7.out.d d79 (by omega));have OHc := Lib.hid (OH7.out.d d79 (by omega));by_cases hin : inn = 0
               · have q2 : (inn == 0) = true := beq_iff_eq.2 hin
                 clear hin;have b1 := BSc.out.ext (w' := wc) xe;have lb1 := b1.lt;obtain ⟨qb1_0, qb1_1, qb1_2⟩ := blk3 b1;have fb1_0 := b1.frozen 0;have fb1_1 := b1.frozen 1;have fb1_2 := b1.frozen 2;clear b1;have b2 := BRc.out.ext (w' := wc) xe;have lb2 := b2.lt;obtain ⟨qb2_0, qb2_1, qb2_2⟩ := blk3 b2;have fb2_0 := b2.frozen 0;have fb2_1 := b2.frozen 1;have fb2_2 := b2.frozen 2;clear b2;go_wp2_with fail
                 have zc := d79.size;have dwc : D g w wc := D.trans (D.trans dwr d17) d79;refine bodyPost_ret (v := .agg #[I s.ts, I s.beta, .slice A s.hops.length c]) (by simp [results, Tryz.results32, go_sem, *]) rfl ⟨_, rfl, ⟨s, ⟨_, rfl, ?_, ?_⟩, ⟨by have := HGS.out.1; omega, HGS.out.2⟩⟩, ?_⟩
                 · exact Own.more (Own.setCell (Own.setCell (Own.setCell OHc.out (.inl (by dsimp only; omega)) _) (.inl (by dsimp only; omega)) _) (.inl (by dsimp only; omega)) _) (by omega) (by simp only [World.size_setCell]; omega)
                 · simp only [World.size_setCell]; omega
                 · exact xd
               · have q2 : (inn == 0) = false := beq_eq_false_iff_ne.2 hin
                 clear hin;go_wp2_with fail
                 go_meet
                 case rel => exact ⟨0, rfl, .inl rfl, d79⟩
            case rest =>
             obtain ⟨ee, rfl, he0, d80⟩ := hcut;have z80 := d80.size;have HE0 := Lib.hid he0; clear he0;have d81 : D g w1 wc := D.trans d17 d80;have BSc := Lib.hid (BS7.out.d d80 (by omega));have OHc := Lib.hid (Own.dUp OH7.out d80 (by omega));have BTc := Lib.hid ((BT.out.ext he).d d81 (by omega));have HCc := Lib.hid (d81.cur HC1.out)
             have hgc : g < wc.heap.size := by omega
             have nb1 : ¬ w3.heap.size = g := by omega
             have ts0 : 0 ≤ s.ts ∧ s.ts < 50 := by have := HTS.out; omega
             go_wp2_with fail
             have b1 := BSc.out.ext (w' := wc) xe;have lb1 := b1.lt;obtain ⟨qb1_0, qb1_1, qb1_2⟩ := blk3 b1;have fb1_0 := b1.frozen 0;have fb1_1 := b1.frozen 1;have fb1_2 := b1.frozen 2;clear b1;refine wp_region_LT 11 (E := D g) (w0 := wc) (G := fun τ => match τ with | 17 => some (fun v W => Zero1 91 wc.heap.size [I 0, I 0, I 0, I 0, I 0] v W) | 110 => some (fun v W => ∃ x : Int, v = I x ∧ 0 ≤ x ∧ x < 50) | _ => none) (D.refl g) (fun h k => D.trans h k) (by kernel_rfl) (by kernel_rfl) (by kernel_rfl) (by kernel_rfl) (by kernel_rfl) (by kernel_rfl) (by intro t φ hG; split at hG; all_goals first | (cases hG; done) | (cases Option.some.inj hG; intro v W W' hE hv; first | exact hv | exact hv.d hE (by omega) | (obtain ⟨y, hy⟩ := hv; exact ⟨y, Fresh1.d hy hE (by omega)⟩))) (D.drew (by exact D.refl _ _)) ?_;simp only [List.take_succ_cons, List.take_zero]
             repeat' (first
              | ((with_reducible refine wpL_skip ?_ ?_ ?_)
                 · rfl
                 · rfl
                 simp only [putS])
              | ((with_reducible refine wpL_quiet ?_ ?_ ?_ ?_)
                 · rfl
                 · rfl
                 · rfl
                 apply Exists.intro
                 refine ⟨fun W hW hS => ?_, ?_⟩
                 · have hC := (D.facts hW).1
                   go_simp
                   first | done | (with_reducible rfl) | (rw [if_neg (by omega)]; exact ⟨rfl, rfl⟩) | rfl
                 first | (with_reducible refine wpL_boolT ?_) | (with_reducible refine wpL_boolF ?_) | (with_reducible refine wpL_bool (fun hB => ?_) (fun hB => ?_)) | skip
                 all_goals simp only [putS])
              | ((refine wpL_grow ?_ rfl rfl ?_ ?_)
                 · rfl
                 · intro W hW hS
                   have hC := (D.facts hW).1;unfold growAt
                   go_simp
                   simp only [growUpon]
                   first | (exact ⟨D.of_ext ((Ext.refl _).alloc _) (Nat.lt_of_lt_of_le hgc hW.size), ⟨_, rfl, hW.size, Blk.new _ _ _⟩⟩) | (go_at_call 38; (with_reducible refine Calls.mono (spec_l1Below g _ _ (hW.cur HCc.out) (by omega)) ?_); rintro e w9_ ⟨x, rfl, hx, d9_⟩; exact ⟨_, rfl, d9_, ⟨x, rfl, hx.1, hx.2.1 (by omega)⟩⟩)
                 intro v W' hW' hv
                 first | ((with_reducible refine intro_at 17 _ ?_); obtain ⟨g17, rfl, hg17, hb17⟩ := hv) | ((with_reducible refine intro_at 110 _ ?_); obtain ⟨x110, rfl, x110a, x110b⟩ := hv) | (obtain ⟨A5, n5, c5, rfl, -⟩ := id hv; clear hv) | (obtain ⟨A5, n5, c5, rfl⟩ := NO.slice hv) | skip
                 all_goals simp only [putS]))
             refine wpL_nil (fun w8 e8 hL => ?_);obtain ⟨g17, hv17, hg17, hb17⟩ : Zero1 91 wc.heap.size [I 0, I 0, I 0, I 0, I 0] _ w8 := hL 17;cases hv17;clear hL lb1 qb1_0 qb1_1 qb1_2 fb1_0 fb1_1 fb1_2;have z8 := e8.size;have HB17 := Lib.hid hb17; clear hb17;have b3 := HB17.out.ext (w' := w8) xe;have lb3 := b3.lt;obtain ⟨qb3_0, qb3_1, qb3_2, qb3_3, qb3_4⟩ := blk5 b3;have fb3_0 := b3.frozen 0;have fb3_1 := b3.frozen 1;have fb3_2 := b3.frozen 2;have fb3_3 := b3.frozen 3;have fb3_4 := b3.frozen 4;clear b3;simp only [List.drop_succ_cons, List.drop_zero];go_wp2_with fail
             refine name_wp (fun W => D g wc W ∧ ∃ ex : Int, (0 ≤ ex ∧ ex ≤ 1000) ∧ Blk W g17 91 [I r, I inn, I ee, I ex, I 0]) ⟨D.setNew (D.setNew (D.setNew (D.setNew (D.setNew e8 hgc (by first | omega | (dsimp only; omega)) _) hgc (by first | omega | (dsimp only; omega)) _) hgc (by first | omega | (dsimp only; omega)) _) hgc (by first | omega | (dsimp only; omega)) _) hgc (by first | omega | (dsimp only; omega)) _, s.ts + 50 + x110, ?exb, by simpa using ((((HB17.out.set_ 0 (I r)).set_ 1 (I inn)).set_ 2 (I ee)).set_ 3 (I (s.ts + 50 + x110))).set_ 4 (I 0)⟩ ?_
             case exb => omega
             clear lb3 qb3_0 qb3_1 qb3_2 qb3_3 qb3_4 fb3_0 fb3_1 fb3_2 fb3_3 fb3_4 HB17;rintro w9 ⟨d9, ex, hex, hb9⟩;have BH := Lib.hid hb9; have HEX := Lib.hid hex; clear hb9 hex x110a x110b;have z9 := d9.size;have d19 : D g w1 w9 := D.trans d81 d9;have dw9 : D g w w9 := D.trans dwr d19;have BS9 := Lib.hid (BSc.out.d d9 (by omega));have OH9 := Lib.hid (Own.dUp OHc.out d9 (by omega));have BT9 := Lib.hid (BTc.out.d d9 (by omega));have BR9 := Lib.hid ((BR7.out.d d80 (by omega)).d d9 (by omega));obtain ⟨kr, hkr, hkl⟩ := isAs_nat HR.out;subst hkr;obtain ⟨s0r, -⟩ := topoAS (TopologyO_rd (HT.out.d dw9 hg) (by omega));obtain ⟨ba, oa, hAa, hba, hka, hca⟩ := s0r.at_ hkl
             generalize t.ases[kr] = ua at *
             subst hAa;obtain ⟨ua0, ua1, ua2⟩ := hca;clear s0r ua0 ua1
             have i0 : (0 : Int) ≤ (kr : Int) := by omega
             have i1 : (kr : Int) < (t.ases.length : Int) := by omega
             have lt9 : w3.heap.size < w9.heap.size := by omega
             have b0 := BT9.out.ext (w' := w9) xe;have lb0 := b0.lt;obtain ⟨qb0_0, qb0_1⟩ := blk2 b0;have fb0_0 := b0.frozen 0;have fb0_1 := b0.frozen 1;clear b0;have b1 := BS9.out.ext (w' := w9) xe;have lb1 := b1.lt;obtain ⟨qb1_0, qb1_1, qb1_2⟩ := blk3 b1;have fb1_0 := b1.frozen 0;have fb1_1 := b1.frozen 1;have fb1_2 := b1.frozen 2;clear b1;have b3 := BH.out.ext (w' := w9) xe;have lb3 := b3.lt;obtain ⟨qb3_0, qb3_1, qb3_2, qb3_3, qb3_4⟩ := blk5 b3;have fb3_0 := b3.frozen 0;have fb3_1 := b3.frozen 1;have fb3_2 := b3.frozen 2;have fb3_3 := b3.frozen 3;have fb3_4 := b3.frozen 4;clear b3
             generalize hbe : betaAt s s.hops.length = be at *
             generalize hmc : hopMac ua.key s.ts be ⟨kr, inn, ee, ex, 0⟩ = mc at *
             have HBE := Lib.hid hbe; have HMC := Lib.hid hmc; clear hbe hmc;have HSV := Lib.hid (show SegmentV w9.heap.size w9 (.agg #[I s.ts, I s.beta, .slice A s.hops.length c]) s from ⟨_, _, _, rfl, HopSO_rd OH9.out⟩);refine wp_region_LT 18 (E := Ext) (w0 := w9) (G := fun τ => match τ with | 127 => some (fun v W => v = I be) | 129 => some (fun v W => v = .agg #[I kr, I inn, I ee, I ex, I mc]) | 130 => some (fun v W => Fresh1 91 w9.heap.size [I kr, I inn, I ee, I ex, I mc] v W) | _ => none) Ext.refl (fun h k => Ext.trans h k) (by kernel_rfl) (by kernel_rfl) (by kernel_rfl) (by kernel_rfl) (by kernel_rfl) (by kernel_rfl) xg (Ext.drew (by exact Ext.refl _)) ?_;simp only [List.take_succ_cons, List.take_zero]
             repeat' (first
              | ((with_reducible refine wpL_skip ?_ ?_ ?_)
                 · rfl
                 · rfl
                 simp only [putS])
              | ((with_reducible refine wpL_quiet ?_ ?_ ?_ ?_)
                 · rfl
                 · rfl
                 · rfl
                 apply Exists.intro
                 refine ⟨fun W hW hS => ?_, ?_⟩
                 · have hC := (Ext.facts hW).1
                   go_simp
                   first | done | (with_reducible rfl) | (rw [if_neg (by omega)]; exact ⟨rfl, rfl⟩) | rfl
                 first | (with_reducible refine wpL_boolT ?_) | (with_reducible refine wpL_boolF ?_) | (with_reducible refine wpL_bool (fun hB => ?_) (fun hB => ?_)) | skip
                 all_goals simp only [putS])
              | ((refine wpL_call ?_ rfl rfl ?_ ?_ ?_)
                 · rfl
                 · rfl
                 · intro W hW hS
                   have hC := (Ext.facts hW).1;unfold growAt
                   go_simp
                   simp only [growUpon]
                   first | (go_at_call 69; (with_reducible refine Calls.mono (spec_BetaAt _ _ s _ (by exact HSV.out.ext xe) (by omega)) ?_); rintro e w9_ ⟨rfl, e9⟩; exact ⟨_, rfl, e9, by rw [HBE.out]⟩) | (go_at_call 68; (with_reducible refine Calls.mono (spec_AuthenticateHop _ _ _ ⟨kr, inn, ee, ex, 0⟩ _) ?_); rintro e w9_ ⟨rfl, e9⟩; exact ⟨_, rfl, e9, by rw [HMC.out]⟩) | (exact ⟨xe, Fresh1.new _ 91 _ _ _ rfl (Ext.size (by assumption))⟩)
                 first | (with_reducible refine wpL_boolT ?_) | (with_reducible refine wpL_boolF ?_) | (with_reducible refine wpL_bool (fun hB => ?_) (fun hB => ?_)) | skip
                 all_goals simp only [putS])
              | ((refine wpL_grow ?_ rfl rfl ?_ ?_)
                 · rfl
                 · intro W hW hS
                   have hC := (Ext.facts hW).1;unfold growAt
                   go_simp
                   simp only [growUpon]
                   first | (go_at_call 69; (with_reducible refine Calls.mono (spec_BetaAt _ _ s _ (by exact HSV.out.ext xe) (by omega)) ?_); rintro e w9_ ⟨rfl, e9⟩; exact ⟨_, rfl, e9, by rw [HBE.out]⟩) | (go_at_call 68; (with_reducible refine Calls.mono (spec_AuthenticateHop _ _ _ ⟨kr, inn, ee, ex, 0⟩ _) ?_); rintro e w9_ ⟨rfl, e9⟩; exact ⟨_, rfl, e9, by rw [HMC.out]⟩) | (exact ⟨xe, Fresh1.new _ 91 _ _ _ rfl (Ext.size (by assumption))⟩)
                 intro v W' hW' hv
                 first | (subst hv) | (subst hv) | (obtain ⟨g5, rfl, -⟩ := hv) | (obtain ⟨A5, n5, c5, rfl, -⟩ := id hv; clear hv) | (obtain ⟨A5, n5, c5, rfl⟩ := NO.slice hv) | skip
                 all_goals simp only [putS]))
             refine wpL_nil (fun w10 e10 hL => ?_);have f5 : Fresh1 91 w9.heap.size [I kr, I inn, I ee, I ex, I mc] _ w10 := hL 130;clear hL;obtain ⟨g6, hg6, hgl6, hb6⟩ := f5;cases hg6;have z10 := e10.size;clear lb0 qb0_0 qb0_1 fb0_0 fb0_1 lb1 qb1_0 qb1_1 qb1_2 fb1_0 fb1_1 fb1_2 lb3 qb3_0 qb3_1 qb3_2 qb3_3 qb3_4 fb3_0 fb3_1 fb3_2 fb3_3 fb3_4 ua2;have d10 : D g w9 w10 := D.of_ext e10 (by omega);have OH10 := Lib.hid (Own.dUp OH9.out d10 (by omega));have BS10 := Lib.hid (BS9.out.d d10 (by omega));simp only [List.drop_succ_cons, List.drop_zero];go_wp2_with (at_builtin; refine hold ?_)
             refine unhold (wpList_appL w4.heap.size rfl (.tmp 114) (.tmp 130) _ rfl 91 _ 5 40 Tryz.underlying31 info_Hop rfl (by omega) (.slice A s.hops.length c) s.hops.length (s.hops.flatMap HopC) rfl _ 1 1 [I kr, I inn, I ee, I ex, I mc] rfl (by exact OH10.out) (by exact row_blk hb6 rfl) (by intro u hu; simp only [List.mem_cons, List.not_mem_nil, or_false] at hu; rcases hu with rfl | rfl | rfl | rfl | rfl <;> rfl) (by omega) (by unfold maxLen; omega) (by omega) ?_);intro v11 w11 o11 hg11;obtain ⟨a11, m11, c11, hv11⟩ := o11.slice;subst hv11;obtain ⟨hm11, -⟩ := NO.row o11;subst hm11;have B11 := Lib.hid (Blk.grown BS10.out hg11 (off_type OH10.out BS10.out (by decide)));have d1b : D g w1 w11 := D.grown (D.trans d19 d10) hg1 hg11 (fun j hj => by have := (OH10.out.1.lt j hj).1; omega);have z11 : w10.heap.size ≤ w11.heap.size := hg11.size;have O11 := Lib.hid (show HopSO w4.heap.size w11.heap.size w11 (.slice a11 (s.hops.length + 1) c11) (s.hops ++ [⟨kr, inn, ee, ex, mc⟩]) by (unfold HopSO; rw [List.length_append, List.length_singleton, List.flatMap_append]; exact o11));clear o11 hg11;have HG11 := Lib.hid (GrownSeg.snoc (t := t) HGS.out ⟨kr, inn, ee, ex, mc⟩ ⟨HR.out, HEX.out⟩);have BR11 := Lib.hid (BR1.out.d d1b (by omega));by_cases he9 : ee = 0
             · have q9 : (ee == 0) = true := beq_iff_eq.2 he9
               clear he9;have b1 := B11.out.ext (w' := w11) xe;have lb1 := b1.lt;obtain ⟨qb1_0, qb1_1, qb1_2⟩ := blk3 b1;have fb1_0 := b1.frozen 0;have fb1_1 := b1.frozen 1;have fb1_2 := b1.frozen 2;clear b1;have b2 := BR11.out.ext (w' := w11) xe;have lb2 := b2.lt;obtain ⟨qb2_0, qb2_1, qb2_2⟩ := blk3 b2;have fb2_0 := b2.frozen 0;have fb2_1 := b2.frozen 1;have fb2_2 := b2.frozen 2;clear b2;go_wp2_with (at_builtin; refine hold ?_)
               have dwc : D g w w11 := D.trans dwr d1b
               have lt4 : w3.heap.size < w4.heap.size := by omega
               have lt5 : w.heap.size + 1 < w4.heap.size := by omega
               refine bodyPost_ret (v := .agg #[I s.ts, I s.beta, .slice a11 (s.hops.length + 1) c11]) (by simp [results, Tryz.results32, go_sem, *]) rfl ⟨_, rfl, ⟨⟨s.ts, s.beta, s.hops ++ [⟨kr, inn, ee, ex, mc⟩]⟩, ⟨_, rfl, ?_, ?_⟩, ⟨by have := HG11.out.1; dsimp only; omega, HG11.out.2⟩⟩, ?_⟩
               · exact Own.more (Own.setCell (Own.setCell (Own.setCell (Own.setCell O11.out (.inl (by dsimp only; omega)) _) (.inl (by dsimp only; omega)) _) (.inl (by dsimp only; omega)) _) (.inl (by dsimp only; omega)) _) (by omega) (by simp only [World.size_setCell]; omega)
               · simp only [World.size_setCell]; omega
               · exact xd
             · have q9 : (ee == 0) = false := beq_eq_false_iff_ne.2 he9
               have hed : ee = d := HE0.out.resolve_left he9;have hfa : isAs t far = true := HD0.out.resolve_left (fun h => he9 (hed.trans h));have HFA := Lib.hid hfa; clear he9 hed hfa;have b1 := B11.out.ext (w' := w11) xe;have lb1 := b1.lt;obtain ⟨qb1_0, qb1_1, qb1_2⟩ := blk3 b1;have fb1_0 := b1.frozen 0;have fb1_1 := b1.frozen 1;have fb1_2 := b1.frozen 2;clear b1;go_wp2_with (at_builtin; refine hold ?_)
               go_roundw
               case rel =>
                refine ⟨k + 1, far, door, ⟨s.ts, s.beta, s.hops ++ [⟨kr, inn, ee, ex, mc⟩]⟩, a11, c11, by omega, by go_num, rfl, rfl, HFA.out, ?_, ?_, ⟨by have := HG11.out.1; dsimp only; omega, HG11.out.2⟩, HTS.out, by simp only [World.size_setCell]; omega, D.setNew d1b hg1 (by first | omega | (dsimp only; omega)) _⟩
                · rw [List.length_append, List.length_singleton]
                  simpa using B11.out.set_ 2 (.slice a11 (s.hops.length + 1) c11)
                · simp only [World.size_setCell]
                  have h9 := Own.setCell (p := ⟨w3.heap.size, 2, none⟩) O11.out (.inl (by dsimp only; omega)) (.slice a11 (s.hops.length + 1) c11);unfold HopSO;rw [List.length_append, List.length_singleton]
                  simpa using h9
               case measure => first | (simp [intOf]; done) | (simp [intOf]; omega)
       · have i1 : ¬ (k : Int) < 5 := by omega
         have BRr := Lib.hid (BR1.out.d hd (by omega))
         have lt4 : w3.heap.size < wr.heap.size := by omega
         have b1 := BSr.out.ext (w' := wr) xe;have lb1 := b1.lt;obtain ⟨qb1_0, qb1_1, qb1_2⟩ := blk3 b1;have fb1_0 := b1.frozen 0;have fb1_1 := b1.frozen 1;have fb1_2 := b1.frozen 2;clear b1;have b2 := BRr.out.ext (w' := wr) xe;have lb2 := b2.lt;obtain ⟨qb2_0, qb2_1, qb2_2⟩ := blk3 b2;have fb2_0 := b2.frozen 0;have fb2_1 := b2.frozen 1;have fb2_2 := b2.frozen 2;clear b2;go_wp2_with fail
         refine bodyPost_ret (v := .agg #[I s.ts, I s.beta, .slice A s.hops.length c]) (by simp [results, Tryz.results32, go_sem, *]) rfl ⟨_, rfl, ⟨s, ⟨_, rfl, ?_, ?_⟩, ⟨by have := HGS.out.1; omega, HGS.out.2⟩⟩, ?_⟩
         · exact Own.more (Own.setCell (Own.setCell (Own.setCell OH.out (.inl (by dsimp only; omega)) _) (.inl (by dsimp only; omega)) _) (.inl (by dsimp only; omega)) _) (by omega) (by simp only [World.size_setCell]; omega)
         · simp only [World.size_setCell]; omega
         · exact xd
end Go.Proofs.YtmopmgaeiokfjaaGreat
