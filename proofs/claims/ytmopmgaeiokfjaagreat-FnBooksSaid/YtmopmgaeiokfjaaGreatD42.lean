/- Contracts of the reference's draws of segment databases: l16Draw, l16Any. No conditions. -/
import Derived.Test.YtmopmgaeiokfjaaGreatP38
import Derived.Test.YtmopmgaeiokfjaaGreatD21
import Derived.Test.YtmopmgaeiokfjaaGreatGHD
set_option maxRecDepth 100000
set_option maxHeartbeats 4000000
namespace Go.Proofs.YtmopmgaeiokfjaaGreat
open Go.RowKit
set_option linter.unusedVariables false
theorem seg_front {lo hi : Nat} {w : World} {v : Value} {s : DSegment} (h : SegmentO lo hi w v s) : ∃ A c, v = .agg #[I s.ts, I s.beta, .slice A s.hops.length c] ∧ s.hops.length ≤ c := by
 obtain ⟨u, e, o, -⟩ := h
 rcases o.cases with ⟨e1, h0, _⟩ | ⟨g, cap, rest, e1, _, _, _, _, hn, _, _⟩
 · exact ⟨none, 0, by rw [e, e1, h0], by omega⟩
 · exact ⟨_, _, by rw [e, e1], hn⟩
theorem SegmentDatabaseQ.d {lo hi g : Nat} {w w' : World} {v : Value} {x : DSegmentDatabase} (h : SegmentDatabaseQ lo hi w v x) (hd : D g w w') (hg : g < lo) : SegmentDatabaseQ lo hi w' v x := h.keep fun k h1 _ h3 => hd.block h3 (by omega)
theorem SegmentDatabaseQ.dUp {lo g : Nat} {w w' : World} {v : Value} {x : DSegmentDatabase} (h : SegmentDatabaseQ lo w.heap.size w v x) (hd : D g w w') (hg : g < lo) : SegmentDatabaseQ lo w'.heap.size w' v x := (h.d hd hg).more (Nat.le_refl _) hd.size
theorem SegmentDatabaseQ.far {lo hi b i : Nat} {w : World} {v u : Value} {x : DSegmentDatabase} (h : SegmentDatabaseQ lo hi w v x) (hb : b < lo) : SegmentDatabaseQ lo hi (w.setCell ⟨b, i, none⟩ u) v x := h.keep fun k h1 _ _ => Below.heap_setCell _ _ _ _ (by dsimp only; omega)
theorem SegmentDatabaseQ.swap {lo hi : Nat} {w : World} {u0 u1 : Value} {x : DSegmentDatabase} (h : SegmentDatabaseQ lo hi w (.agg #[u0, u1]) x) : SegmentDatabaseQ lo hi w (.agg #[u1, u0]) ⟨x.core, x.down⟩ := by
 obtain ⟨v0, cs0, f0, v1, cs1, f1, e, r0, l0, r1, l1, hn, hb, hl⟩ := h;have e2 : [u0, u1] = [v0, v1] := congrArg Array.toList (Value.agg.inj e);simp only [List.cons.injEq, and_true] at e2;obtain ⟨rfl, rfl⟩ := e2;refine ⟨_, _, _, _, _, _, rfl, r1, l1, r0, l0, ?_, fun b hm => hb b ?_, hl⟩
 · unfold dbFp at hn ⊢
   exact nodup_comm hn
 · unfold dbFp at hm ⊢
   rcases List.mem_append.1 hm with hm | hm
   · exact List.mem_append_right _ hm
   · exact List.mem_append_left _ hm
theorem SegmentDatabaseQ.set0 {lo m : Nat} {w : World} {u0 u1 : Value} {x : DSegmentDatabase} (h : SegmentDatabaseQ lo m w (.agg #[u0, u1]) x) (hp : 0 < x.down.length) :
 ∃ gs c v2 rest, u0 = .slice (some ⟨gs, 0, none⟩) x.down.length c ∧ lo ≤ gs ∧ gs < m ∧ Blk w gs 33 (I (x.down[0]'hp).ts :: I (x.down[0]'hp).beta :: v2 :: rest) ∧ SegmentV m w (.agg #[I (x.down[0]'hp).ts, I (x.down[0]'hp).beta, v2]) (x.down[0]'hp) ∧
  ∀ (W' : World) (A : Option Addr) (k q : Nat) (s : DSegment) (hi' : Nat), m ≤ hi' → Blk W' gs 33 (I s.ts :: I s.beta :: .slice A k q :: rest) → (∀ b, b ≠ gs → lo ≤ b → b < m → W'.heap[b]? = w.heap[b]?) → SegmentO m hi' W' (.agg #[I s.ts, I s.beta, .slice A k q]) s → SegmentDatabaseQ lo hi' W' (.agg #[u0, u1]) ⟨x.down.set 0 s, x.core⟩ := by
 obtain ⟨v0, cs0, f0, v1, cs1, f1, e, r0, l0, r1, l1, hn, hb, hl⟩ := h;have e2 : [u0, u1] = [v0, v1] := congrArg Array.toList (Value.agg.inj e);simp only [List.cons.injEq, and_true] at e2;obtain ⟨rfl, rfl⟩ := e2;unfold dbFp at hn hb;have hown : Own 33 3 lo m w u0 x.down.length cs0 := Own.of_row r0 fun b hm => hb b (by simp only [List.mem_append]; exact .inl (.inl hm))
 rcases hown.cases with ⟨_, h0, _⟩ | ⟨g, cap, rest, e0, hg1, hg2, hblk, hlc, hcap, hm, hs⟩
 · omega
 subst e0;obtain ⟨dn, co⟩ := x
 dsimp only at *
 rcases dn with _ | ⟨s0, dn⟩
 · simp at hp
 obtain ⟨fa, fb, ca, cb, ef, ec, la, oa, ob⟩ := l0;obtain ⟨v2, rfl, ra, efa⟩ := oa;subst ef; subst ec;have hra : Own 91 5 lo m w v2 s0.hops.length (s0.hops.flatMap HopC) := Own.of_row ra fun b hm => hb b (by simp only [List.mem_append, efa]; exact .inl (.inr (.inl hm)));obtain ⟨a2, k2, q2, hv2⟩ := hra.slice;subst hv2;refine ⟨g, cap, _, cb ++ rest, rfl, hg1, hg2, by simpa using hblk, segV (hra.sl (At := HopAt) HopC.len (by omega) HopC.at_), ?_⟩;intro W' A k q s hi' hhi hB hK hO;obtain ⟨a4, k4, q4, fp, e4, hoc, hnf, hbf⟩ := hO.to_oc;have e5 : [I s.ts, I s.beta, Value.slice A k q] = [I s.ts, I s.beta, .slice a4 k4 q4] := congrArg Array.toList (Value.agg.inj e4);rw [← e5] at hoc;simp only [Value.ownBlock, Option.toList_some, List.singleton_append] at hn hb;have hn0 := List.nodup_append.1 hn;have hn1 := List.nodup_cons.1 hn0.1;have hn2 := List.nodup_append.1 hn1.2
 have bb : ∀ b ∈ fb, lo ≤ b ∧ b < m ∧ b ≠ g := fun b hm => by
  have h9 := hb b (List.mem_append_left _ (List.mem_cons_of_mem _ (List.mem_append_right _ hm)));exact ⟨h9.1, h9.2, fun e => hn1.1 (by rw [← e]; exact List.mem_append_right _ hm)⟩
 have b1 : ∀ b ∈ u1.ownBlock.toList ++ f1, lo ≤ b ∧ b < m ∧ b ≠ g := fun b hm => by
  have h9 := hb b (List.mem_append_right _ hm);exact ⟨h9.1, h9.2, fun e => hn0.2.2 g (List.mem_cons_self ..) b hm e.symm⟩
 refine ⟨_, [I s.ts, I s.beta, .slice A k q] ++ cb, fp ++ fb, u1, cs1, f1, rfl, ?_, ?_, ?_, ?_, ?_, ?_, by omega⟩
 · have h9 : Own 33 3 lo hi' W' (.slice (some ⟨g, 0, none⟩) (s0 :: dn).length cap) (s0 :: dn).length ([I s.ts, I s.beta, .slice A k q] ++ cb) := Own.mk' hg1 (by omega) (cs := [I s.ts, I s.beta, .slice A k q] ++ cb) (rest := rest) (by simpa using hB) (by simp only [List.length_append, List.length_cons, List.length_nil] at hlc ⊢; omega) hcap hm (by simp only [List.length_append, List.length_cons, List.length_nil] at hs ⊢; omega)
   rw [List.length_set];exact (h9.more (Nat.zero_le _) (Nat.le_refl _)).1
 · exact ⟨fp, fb, _, cb, rfl, rfl, rfl, hoc, OL.keep SegmentOC.keeps ob fun b hm _ => hK b (bb b hm).2.2 (bb b hm).1 (bb b hm).2.1⟩
 · exact ownsRow_keep r1 fun b hm _ => hK b (b1 b (List.mem_append_left _ hm)).2.2 (b1 b (List.mem_append_left _ hm)).1 (b1 b (List.mem_append_left _ hm)).2.1
 · exact OL.keep SegmentOC.keeps l1 fun b hm _ => hK b (b1 b (List.mem_append_right _ hm)).2.2 (b1 b (List.mem_append_right _ hm)).1 (b1 b (List.mem_append_right _ hm)).2.1
 · unfold dbFp
   simp only [Value.ownBlock, Option.toList_some, List.singleton_append];refine List.nodup_append.2 ⟨List.nodup_cons.2 ⟨fun hm' => ?_, List.nodup_append.2 ⟨hnf, hn2.2.1, fun a ha b hb' e => ?_⟩⟩, hn0.2.1, fun a ha b hb' e => ?_⟩
   · rcases List.mem_append.1 hm' with h9 | h9
     · have := hbf g h9; omega
     · exact (bb g h9).2.2 rfl
   · have h8 := hbf a ha; have h9 := bb b hb'; omega
   · subst e
     have h9 := b1 a hb'
     rcases List.mem_cons.1 ha with h8 | h8
     · exact h9.2.2 h8
     · rcases List.mem_append.1 h8 with h8 | h8
       · have := hbf a h8; omega
       · exact hn0.2.2 a (List.mem_cons_of_mem _ (List.mem_append_right _ h8)) a hb' rfl
 · unfold dbFp
   simp only [Value.ownBlock, Option.toList_some, List.singleton_append];intro b hm'
   rcases List.mem_append.1 hm' with h9 | h9
   · rcases List.mem_cons.1 h9 with h9 | h9
     · omega
     · rcases List.mem_append.1 h9 with h9 | h9
       · have := hbf b h9; omega
       · have := bb b h9; omega
   · have := b1 b h9; omega
theorem SegmentDatabaseQ.elD {lo m : Nat} {w : World} {u0 u1 : Value} {x : DSegmentDatabase} (h : SegmentDatabaseQ lo m w (.agg #[u0, u1]) x) {k : Nat} (hk : k < x.down.length) :
 ∃ gs c v2, u0 = .slice (some ⟨gs, 0, none⟩) x.down.length c ∧ lo ≤ gs ∧ gs < m ∧ (w.cell? ⟨gs, k * 3, none⟩ = some (I x.down[k].ts) ∧ w.cell? ⟨gs, k * 3 + 1, none⟩ = some (I x.down[k].beta) ∧ w.cell? ⟨gs, k * 3 + 2, none⟩ = some v2) ∧ SegmentO lo m w (.agg #[I x.down[k].ts, I x.down[k].beta, v2]) x.down[k] := by
 obtain ⟨v0, cs0, f0, v1, cs1, f1, e, r0, l0, r1, l1, hn, hb, hl⟩ := h;have e2 : [u0, u1] = [v0, v1] := congrArg Array.toList (Value.agg.inj e);simp only [List.cons.injEq, and_true] at e2;obtain ⟨rfl, rfl⟩ := e2;unfold dbFp at hb;have hown : Own 33 3 lo m w u0 x.down.length cs0 := Own.of_row r0 fun b hm => hb b (by simp only [List.mem_append]; exact .inl (.inl hm))
 rcases hown.cases with ⟨_, h0, _⟩ | ⟨g, cap, rest, e0, hg1, hg2, hblk, hlc, hcap, hm, hs⟩
 · omega
 subst e0;obtain ⟨fa, fb, fc, ca, cb, cc, e1, e2, la, lb, _, hoc, _⟩ := l0.at_ k hk;obtain ⟨v2, rfl, ra, efa⟩ := hoc;refine ⟨g, cap, v2, rfl, hg1, hg2, ?_, ⟨v2, rfl, Own.of_row ra fun b hm' => hb b ?_, hl⟩⟩
 · rw [e2] at hblk
   have h9 : Blk w g 33 (ca ++ I x.down[k].ts :: I x.down[k].beta :: v2 :: (cc ++ rest)) := by simpa using hblk
   exact cells_at3 h9 la
 · rw [e1, efa]
   simp only [List.mem_append];exact .inl (.inr (.inr (.inl hm')))
theorem SegmentDatabaseQ.elC {lo m : Nat} {w : World} {u0 u1 : Value} {x : DSegmentDatabase} (h : SegmentDatabaseQ lo m w (.agg #[u0, u1]) x) {k : Nat} (hk : k < x.core.length) :
 ∃ gs c v2, u1 = .slice (some ⟨gs, 0, none⟩) x.core.length c ∧ lo ≤ gs ∧ gs < m ∧ (w.cell? ⟨gs, k * 3, none⟩ = some (I x.core[k].ts) ∧ w.cell? ⟨gs, k * 3 + 1, none⟩ = some (I x.core[k].beta) ∧ w.cell? ⟨gs, k * 3 + 2, none⟩ = some v2) ∧ SegmentO lo m w (.agg #[I x.core[k].ts, I x.core[k].beta, v2]) x.core[k] := h.swap.elD hk
theorem SegmentDatabaseQ.elAll {lo m : Nat} {w : World} {u0 u1 : Value} {x : DSegmentDatabase} (h : SegmentDatabaseQ lo m w (.agg #[u0, u1]) x) (hp : 0 < x.down.length) :
 ∃ gs c, u0 = .slice (some ⟨gs, 0, none⟩) x.down.length c ∧ lo ≤ gs ∧ gs < m ∧ ∀ (k : Nat) (hk : k < x.down.length), ∃ A q, (w.cell? ⟨gs, k * 3, none⟩ = some (I x.down[k].ts) ∧ w.cell? ⟨gs, k * 3 + 1, none⟩ = some (I x.down[k].beta) ∧ w.cell? ⟨gs, k * 3 + 2, none⟩ = some (.slice A x.down[k].hops.length q)) ∧ SegmentO lo m w (.agg #[I x.down[k].ts, I x.down[k].beta, .slice A x.down[k].hops.length q]) x.down[k] := by
 obtain ⟨gs, c, _, e0, h1, h2, _, _⟩ := h.elD hp;refine ⟨gs, c, e0, h1, h2, fun k hk => ?_⟩;obtain ⟨g2, c2, v2, e2, _, _, hc, ho⟩ := h.elD hk;rw [e0] at e2
 have e3 : gs = g2 := by
  simp only [Value.slice.injEq, Option.some.injEq, Addr.mk.injEq] at e2;exact e2.1.1
 subst e3;obtain ⟨A, q, e4, -⟩ := seg_front ho;have e4 : [I x.down[k].ts, I x.down[k].beta, v2] = [I x.down[k].ts, I x.down[k].beta, .slice A x.down[k].hops.length q] := congrArg Array.toList (Value.agg.inj e4);simp only [List.cons.injEq, and_true, true_and] at e4;subst e4;exact ⟨A, q, hc, ho⟩
def BookF (lo n : Nat) (v : Value) (W : World) : Prop := ∃ x, SegmentDatabaseQ lo W.heap.size W v x ∧ FewB n x
theorem BookF.d {lo n g : Nat} {v : Value} {W W' : World} (h : BookF lo n v W) (hd : D g W W') (hg : g < lo) : BookF lo n v W' := by
 obtain ⟨x, ho, hx⟩ := h;exact ⟨x, ho.dUp hd hg, hx⟩
theorem BookF.vals {lo n : Nat} {v : Value} {W : World} (h : BookF lo n v W) : ∃ A k c A' k' c', v = .agg #[.slice A k c, .slice A' k' c'] := by
 obtain ⟨x, ho, -⟩ := h;exact ho.shape
def GrowF (t : DTopology) (lo : Nat) (v : Value) (W : World) : Prop := ∃ s, SegmentO lo W.heap.size W v s ∧ GrownSeg t s
theorem GrowF.d {t : DTopology} {lo g : Nat} {v : Value} {W W' : World} (h : GrowF t lo v W) (hd : D g W W') (hg : g < lo) : GrowF t lo v W' := by
 obtain ⟨x, ho, hx⟩ := h;exact ⟨x, (ho.keep fun k h1 _ h3 => hd.block h3 (by omega)).more (Nat.le_refl _) hd.size, hx⟩
theorem GrowF.vals {t : DTopology} {lo : Nat} {v : Value} {W : World} (h : GrowF t lo v W) : ∃ (ts be : Int) (A : Option Addr) (n c : Nat), v = .agg #[I ts, I be, .slice A n c] := by
 obtain ⟨x, ho, -⟩ := h;obtain ⟨A, c, e, -⟩ := seg_front ho;exact ⟨_, _, _, _, _, e⟩
theorem spec_l16Draw (g : Nat) (w : World) (hc : Cur w g) : Calls Tryz.prog 62 #[.pointer (some ⟨g, 0, none⟩)] w fun e w' => (∃ vt vx, e = .returned (.tuple #[vt, vx]) ∧ ∃ (t : DTopology) (x : DSegmentDatabase) (m : Nat), TopologyO w.heap.size m w' vt t ∧ (w.heap.size ≤ m ∧ m ≤ w'.heap.size) ∧ DrawnTopo t ∧ LinksOk t ∧ SegmentDatabaseQ m w'.heap.size w' vx x ∧ FewB 7 x) ∧ D g w w' := by
 have HC := Lib.hid hc;have hgw := hc.lt;clear hc
 go_enter Tryz.func62, Tryz.ntmps62
 go_wp2_with fail
 refine name_calls (fun W => D g w W ∧ W.heap.size = w.heap.size + 1 + 1 ∧ Blk W w.heap.size 27 [.slice none 0 0, .slice none 0 0] ∧ Blk W (w.heap.size + 1) 30 [.slice none 0 0, .slice none 0 0]) ⟨xd, by simp only [World.size_alloc], xb, xb⟩ ?_;rintro wa ⟨da, za_, br0, br1⟩;obtain ⟨za, za'⟩ := le_both za_;clear za_;have B0 := Lib.hid br0; have B1 := Lib.hid br1; clear br0 br1;have HCA := Lib.hid (da.cur HC.out);refine (spec_l5DrawL g wa HCA.out).mono ?_;rintro e w2 ⟨v1, rfl, ⟨t, ot, hdt, hok⟩, d2⟩;have z2 := d2.size;obtain ⟨A0, n0, c0, A1, n1, c1, rfl, st_0, st_1⟩ := ot.v;obtain ⟨lt_0, kt_0, mt_0⟩ := st_0.len;subst lt_0;have OT := Lib.hid ot; have HDT := Lib.hid hdt; have HOK := Lib.hid hok; clear ot st_0 st_1 hok;have ht8 : t.ases.length ≤ 8 := hdt.2.1;clear hdt;go_wp2_with fail
 refine name_calls (fun W => ∃ wb, Ext w2 wb ∧ wb.heap.size = w2.heap.size + 1 ∧ Blk wb w2.heap.size 27 [.slice A0 t.ases.length c0, .slice A1 n1 c1] ∧ Ext wb W ∧ W.heap.size = w2.heap.size + 1 + 1 ∧ Blk W (w2.heap.size + 1) 30 [.slice none 0 0, .slice none 0 0]) ⟨_, xe, by simp only [World.size_alloc], xb, (Ext.refl _).alloc _, by simp only [World.size_alloc], xb⟩ ?_;rintro w3 ⟨wb, eb, zb_, b6, e3, z3_, b7⟩;obtain ⟨zb, zb'⟩ := le_both zb_;obtain ⟨z3, z3'⟩ := le_both z3_;clear z3_ zb_;have BT := Lib.hid b6; have BK := Lib.hid b7; clear b6 b7;have d2b : D g w2 wb := D.of_ext eb (by omega);have db3 : D g wb w3 := D.of_ext e3 (by omega);have dab : D g wa wb := D.trans d2 d2b;have da3 : D g wa w3 := D.trans dab db3;have OTb := Lib.hid (OT.out.ext eb (Nat.le_refl _));have HC3 := Lib.hid (da3.cur HCA.out)
 have hg3 : g < w3.heap.size := by omega
 have nb6 : ¬ w2.heap.size = g := by omega
 have nb7 : ¬ w2.heap.size + 1 = g := by omega
 refine (spec_l1Below g 8 w3 HC3.out (by omega)).mono ?_;rintro e w4 ⟨x4, rfl, ⟨x4a, x4b, -⟩, d4⟩;have x4b := x4b (by omega)
 obtain ⟨c4_, rfl⟩ : ∃ c : Nat, x4 = (c : Int) := ⟨x4.toNat, by omega⟩
 have z4 := d4.size;go_wp2_with fail
 go_loopw [6] (fun i wr => ∃ (k n : Nat) (x : DSegmentDatabase) (u0 u1 : Value), n + k ≤ 7 ∧ i = I k ∧ Blk wr (w2.heap.size + 1) 30 [u0, u1] ∧ SegmentDatabaseQ (w2.heap.size + 1 + 1) wr.heap.size wr (.agg #[u0, u1]) x ∧ FewB n x ∧ D g wb wr) (fun i _ => (intOf i).toNat)
 case atStart => exact ⟨c4_, 0, ⟨[], []⟩, .slice none 0 0, .slice none 0 0, by omega, rfl, BK.out.d d4 nb7, SegmentDatabaseQ.nil _ _ _ (by omega), ⟨by simp, fun s hs => by simp at hs, fun s hs => by simp at hs⟩, D.trans db3 d4⟩
 case round =>
  clear BK;obtain ⟨k, n, x, u0, u1, hk, rfl, hb, hq, hf, hd⟩ := hrel;obtain ⟨B0_, k0_, q0_, B1_, k1_, q1_, euv⟩ := SegmentDatabaseQ.shape hq;have euv : [u0, u1] = [.slice B0_ k0_ q0_, .slice B1_ k1_ q1_] := congrArg Array.toList (Value.agg.inj euv);simp only [List.cons.injEq, and_true] at euv;obtain ⟨rfl, rfl⟩ := euv;have HBK := Lib.hid hb; have HQ := Lib.hid hq; have HF := Lib.hid hf; clear hb hq hf;have zr := hd.size;have zk_ := HBK.out.lt;have BTr := Lib.hid (BT.out.d hd nb6); have OTr := Lib.hid (OTb.out.d hd (by omega));have HCr := Lib.hid ((D.trans dab hd).cur HCA.out)
  have hgr : g < wr.heap.size := by omega
  by_cases hk0 : 0 < k
  · obtain ⟨km, rfl⟩ : ∃ km : Nat, k = km + 1 := ⟨k - 1, by omega⟩
    have i2 : (0 : Int) < ((km + 1 : Nat) : Int) := by omega
    go_wp2_with fail
    refine (spec_l1Once g 3 wr HCr.out (by omega)).mono ?_;rintro e w5 ⟨bo, rfl, d5⟩;have z5 := d5.size;have d35 : D g wb w5 := D.trans hd d5;have BT5 := Lib.hid (BTr.out.d d5 nb6); have OT5 := Lib.hid (OTr.out.d d5 (by omega)); have BK5 := Lib.hid (HBK.out.d d5 nb7); have HQ5 := Lib.hid (HQ.out.dUp d5 (by omega));have HC5 := Lib.hid (d5.cur HCr.out)
    have hg5 : g < w5.heap.size := by omega
    have htot := FewB.tot HF.out;cases bo
    all_goals
     have b6_ := BT5.out.ext (w' := w5) xe;have lb6_ := b6_.lt;obtain ⟨qb6__0, qb6__1⟩ := blk2 b6_;have fb6__0 := b6_.frozen 0;have fb6__1 := b6_.frozen 1;clear b6_;have b7_ := BK5.out.ext (w' := w5) xe;have lb7_ := b7_.lt;obtain ⟨qb7__0, qb7__1⟩ := blk2 b7_;have fb7__0 := b7_.frozen 0;have fb7__1 := b7_.frozen 1;clear b7_;go_wp2_with fail
     refine wp_region_LT 7 (E := D g) (w0 := w5) (G := fun τ => match τ with | 24 => some (fun v W => GrowF t w5.heap.size v W) | 25 => some (fun v W => BookF w5.heap.size (n + 1) v W) | _ => none) (D.refl g) (fun h k => D.trans h k) (by kernel_rfl) (by kernel_rfl) (by kernel_rfl) (by kernel_rfl) (by kernel_rfl) (by kernel_rfl) (by intro t φ hG; split at hG; all_goals first | (cases hG; done) | (cases Option.some.inj hG; intro v W W' hE hv; first | exact hv | exact hv.d hE (by omega) | (obtain ⟨y, hy⟩ := hv; exact ⟨y, Fresh1.d hy hE (by omega)⟩))) (D.drew (by exact D.refl _ _)) ?_;simp only [List.take_succ_cons, List.take_zero]
     repeat' (first
      | ((with_reducible refine wpL_skip ?_ ?_ ?_)
         · rfl
         · rfl
         simp only [putS])
      | ((with_reducible refine wpL_quiet ?_ ?_ ?_ ?_)
         · rfl
         · rfl
         · rfl
         apply Exists.intro
         refine ⟨fun W hW hS => ?_, ?_⟩
         · have hC := (D.facts hW).1
           go_simp
           first | done | (with_reducible rfl) | (rw [if_neg (by omega)]; exact ⟨rfl, rfl⟩) | rfl
         first | (with_reducible refine wpL_boolT ?_) | (with_reducible refine wpL_boolF ?_) | (with_reducible refine wpL_bool (fun hB => ?_) (fun hB => ?_)) | skip
         all_goals simp only [putS])
      | ((refine wpL_grow ?_ rfl rfl ?_ ?_)
         · rfl
         · intro W hW hS
           have hC := (D.facts hW).1;unfold growAt
           go_simp
           simp only [growUpon]
           first | (go_at_call 32; (with_reducible refine Calls.mono (spec_l9Grow g _ _ t _ _ _ (hW.cur HC5.out) (OT5.out.d hW (by omega)) (by omega) (by have h5 := D.size hW; omega) HDT.out HOK.out) ?_); rintro e w9 ⟨v9, rfl, ⟨s9, o9, hs9⟩, d9⟩; exact ⟨_, rfl, d9, ⟨s9, o9.more (D.size hW) (Nat.le_refl _), hs9⟩⟩) | (obtain ⟨s8, o8, hs8⟩ : GrowF t w5.heap.size _ W := hS 24 (by decide); have h5s : s8.hops.length ≤ 5 := And.left hs8; go_at_call 13; (with_reducible refine Calls.mono (spec_AddSegment _ _ _ t x s8 _ (TopologyO_rd (OT5.out.d hW (by omega)) (by have h5 := D.size hW; omega)) (SegmentDatabaseQ_rd (HQ5.out.d hW (by omega)) (by have h5 := D.size hW; omega)) (SegmentO_rd o8 (Nat.le_refl _)) (by omega) (by omega)) ?_); rintro e w9 ⟨v9, rfl, o9, e9⟩; exact ⟨_, rfl, D.of_ext e9 (by have h5 := D.size hW; omega), ⟨_, SegmentDatabaseQ.more o9 (D.size hW) (Nat.le_refl _), FewB.add HF.out t s8 h5s⟩⟩)
         intro v W' hW' hv
         first | (obtain ⟨ts9, be9, A9, n9, c9, rfl⟩ := GrowF.vals hv) | (obtain ⟨A8, n8, c8, B8, m8, q8, rfl⟩ := BookF.vals hv) | (obtain ⟨A5, n5, c5, rfl, -⟩ := id hv; clear hv) | (obtain ⟨A5, n5, c5, rfl⟩ := NO.slice hv) | skip
         all_goals simp only [putS]))
     refine wpL_nil (fun w7 e7 hL => ?_);obtain ⟨x7, oq7, hf7⟩ : BookF w5.heap.size (n + 1) (.agg #[.slice A8 n8 c8, .slice B8 m8 q8]) w7 := hL 25;have OQ7 := Lib.hid oq7; have HF7 := Lib.hid hf7; clear oq7 hf7 hL lb6_ qb6__0 qb6__1 fb6__0 fb6__1 lb7_ qb7__0 qb7__1 fb7__0 fb7__1;have z7 := e7.size;have BK7 := Lib.hid (BK5.out.d e7 nb7);have b7_ := BK7.out.ext (w' := w7) xe;have lb7_ := b7_.lt;obtain ⟨qb7__0, qb7__1⟩ := blk2 b7_;have fb7__0 := b7_.frozen 0;have fb7__1 := b7_.frozen 1;clear b7_;simp only [List.drop_succ_cons, List.drop_zero];go_wp2_with fail
     go_roundw
     case rel => exact ⟨km, n + 1, x7, .slice A8 n8 c8, .slice B8 m8 q8, by omega, by go_num, by simpa using (BK7.out.set_ 0 (.slice A8 n8 c8)).set_ 1 (.slice B8 m8 q8), by simp only [World.size_setCell]; exact ((OQ7.out.far (by omega)).far (by omega)).more (by omega) (Nat.le_refl _), HF7.out, D.setNew (D.setNew (D.trans d35 e7) (by omega) (by dsimp only; omega) _) (by omega) (by dsimp only; omega) _⟩
     case measure => first | (simp [intOf]; done) | (simp [intOf]; omega)
  · obtain rfl : k = 0 := by omega
    have i2 : ¬ (0 : Int) < ((0 : Nat) : Int) := by omega
    have dar : D g wa wr := D.trans dab hd;have dwr : D g w wr := D.trans da dar;have B0r := Lib.hid (B0.out.d dar (by omega)); have B1r := Lib.hid (B1.out.d dar (by omega))
    have nn1 : ¬ w2.heap.size = w.heap.size := by omega
    have nn2 : ¬ w.heap.size = w2.heap.size := by omega
    have nn3 : ¬ w2.heap.size = w.heap.size + 1 := by omega
    have nn4 : ¬ w.heap.size + 1 = w2.heap.size := by omega
    have nn5 : ¬ w2.heap.size + 1 = w.heap.size := by omega
    have nn6 : ¬ w.heap.size = w2.heap.size + 1 := by omega
    have nn7 : ¬ w2.heap.size + 1 = w.heap.size + 1 := by omega
    have nn8 : ¬ w.heap.size + 1 = w2.heap.size + 1 := by omega
    have b6_ := BTr.out.ext (w' := wr) xe;have lb6_ := b6_.lt;obtain ⟨qb6__0, qb6__1⟩ := blk2 b6_;have fb6__0 := b6_.frozen 0;have fb6__1 := b6_.frozen 1;clear b6_;have b7_ := HBK.out.ext (w' := wr) xe;have lb7_ := b7_.lt;obtain ⟨qb7__0, qb7__1⟩ := blk2 b7_;have fb7__0 := b7_.frozen 0;have fb7__1 := b7_.frozen 1;clear b7_;have c0_ := B0r.out.ext (w' := wr) xe;have lc0_ := c0_.lt;obtain ⟨qc0__0, qc0__1⟩ := blk2 c0_;have fc0__0 := c0_.frozen 0;have fc0__1 := c0_.frozen 1;clear c0_;have c1_ := B1r.out.ext (w' := wr) xe;have lc1_ := c1_.lt;obtain ⟨qc1__0, qc1__1⟩ := blk2 c1_;have fc1__0 := c1_.frozen 0;have fc1__1 := c1_.frozen 1;clear c1_;go_wp2_with fail
    go_region
    all_goals
     go_wp2_with fail
     refine bodyPost_ret (v := .tuple #[.agg #[.slice A0 t.ases.length c0, .slice A1 n1 c1], .agg #[.slice B0_ k0_ q0_, .slice B1_ k1_ q1_]]) (by simp [results, Tryz.results62, go_sem, *]) rfl ⟨⟨_, _, rfl, t, x, w2.heap.size, ?_, ⟨by omega, Nat.le_trans (show w2.heap.size ≤ wr.heap.size by omega) (Nat.le_of_eq (kp (lo := wa.heap.size) (a := wr)).size.symm)⟩, HDT.out, HOK.out, ?_, ⟨by have := HF.out.1; omega, HF.out.2⟩⟩, ?_⟩
     · exact TopologyO.more (OTr.out.keep fun k h1 _ _ => (kp (lo := wa.heap.size)).same k h1) (by omega) (Nat.le_refl _)
     · exact SegmentDatabaseQ.more (HQ.out.keep fun k h1 _ _ => (kp (lo := wa.heap.size)).same k (by omega)) (by omega) (by first | exact Nat.le_of_eq (kp (lo := wa.heap.size)).size.symm | (simp only [World.size_setCell]; omega))
     · exact xd
theorem spec_l16Any (g : Nat) (w : World) (hc : Cur w g) : Calls Tryz.prog 31 #[.pointer (some ⟨g, 0, none⟩)] w fun e w' => (∃ vt vx, e = .returned (.tuple #[vt, vx]) ∧ ∃ (t : DTopology) (x : DSegmentDatabase), TopologyO w.heap.size w'.heap.size w' vt t ∧ DrawnTopo t ∧ LinksOk t ∧ SegmentDatabaseQ w.heap.size w'.heap.size w' vx x ∧ FewB 7 x) ∧ D g w w' := by
 have HC := Lib.hid hc;have hgw := hc.lt;clear hc
 go_enter Tryz.func31, Tryz.ntmps31
 go_wp2_with fail
 refine name_calls (fun W => D g w W ∧ W.heap.size = w.heap.size + 1 + 1 ∧ Blk W w.heap.size 27 [.slice none 0 0, .slice none 0 0] ∧ Blk W (w.heap.size + 1) 30 [.slice none 0 0, .slice none 0 0]) ⟨xd, by simp only [World.size_alloc], xb, xb⟩ ?_;rintro wa ⟨da, za_, br0, br1⟩;obtain ⟨za, za'⟩ := le_both za_;clear za_;have B0 := Lib.hid br0; have B1 := Lib.hid br1; clear br0 br1;have HCA := Lib.hid (da.cur HC.out);refine (spec_l16Draw g wa HCA.out).mono ?_;rintro e w2 ⟨⟨v1, v2, rfl, t, x, m, ot, ⟨hm1, hm2⟩, hdt, hok, oq, hfb⟩, d2⟩;have z2 := d2.size;obtain ⟨A0, n0, c0, A1, n1, c1, rfl, st_0, st_1⟩ := ot.v;obtain ⟨lt_0, kt_0, mt_0⟩ := st_0.len;subst lt_0;obtain ⟨A7, n7, c7, A8, n8, c8, rfl, sq_0, sq_1⟩ := oq.toV;obtain ⟨lq_0, kq_0, mq_0⟩ := sq_0.len;subst lq_0;have OT := Lib.hid ot; have HDT := Lib.hid hdt; have HOK := Lib.hid hok; have OQ := Lib.hid oq; have HFB := Lib.hid hfb; clear ot st_0 st_1 hok hdt oq hfb sq_0 sq_1;go_wp2_with fail
 refine name_calls (fun W => Ext w2 W ∧ W.heap.size = w2.heap.size + 1 + 1 ∧ Blk W w2.heap.size 27 [.slice A0 t.ases.length c0, .slice A1 n1 c1] ∧ Blk W (w2.heap.size + 1) 30 [.slice A7 x.down.length c7, .slice A8 n8 c8]) ⟨xe, by simp only [World.size_alloc], xb, xb⟩ ?_;rintro w3 ⟨e3, z3_, b6, b7⟩;obtain ⟨z3, z3'⟩ := le_both z3_;clear z3_;have BT := Lib.hid b6; have BK := Lib.hid b7; clear b6 b7;have d23 : D g w2 w3 := D.of_ext e3 (by omega);have da3 : D g wa w3 := D.trans d2 d23;have OT3 := Lib.hid (OT.out.ext e3 hm2); have OQ3 := Lib.hid (OQ.out.ext e3 (Nat.le_refl _)); clear OT OQ;have HC3 := Lib.hid (da3.cur HCA.out)
 have nb6 : ¬ w2.heap.size = g := by omega
 have nb7 : ¬ w2.heap.size + 1 = g := by omega
 refine (spec_l1Once g 3 w3 HC3.out (by omega)).mono ?_;rintro e w4 ⟨bo, rfl, d4⟩;have z4 := d4.size;have BK4 := Lib.hid (BK.out.d d4 nb7); have OQ4 := Lib.hid (OQ3.out.d d4 (by omega)); have BT4 := Lib.hid (BT.out.d d4 nb6); have OT4 := Lib.hid (OT3.out.d d4 (by omega)); clear BK OQ3 BT OT3;have HC4 := Lib.hid (d4.cur HC3.out);have b7_ := BK4.out.ext (w' := w4) xe;have lb7_ := b7_.lt;obtain ⟨qb7__0, qb7__1⟩ := blk2 b7_;have fb7__0 := b7_.frozen 0;have fb7__1 := b7_.frozen 1;clear b7_;cases bo
 case' false =>
  go_wp2_with fail
  clear lb7_ qb7__0 qb7__1 fb7__0 fb7__1;refine name_calls (fun W => ∃ (x : DSegmentDatabase) (u0 u1 : Value), Blk W w2.heap.size 27 [.slice A0 t.ases.length c0, .slice A1 n1 c1] ∧ TopologyO wa.heap.size m W (.agg #[.slice A0 t.ases.length c0, .slice A1 n1 c1]) t ∧ Blk W (w2.heap.size + 1) 30 [u0, u1] ∧ SegmentDatabaseQ m W.heap.size W (.agg #[u0, u1]) x ∧ FewB 7 x ∧ D g wa W) ⟨x, _, _, BT4.out, OT4.out, BK4.out, OQ4.out.more (Nat.le_refl _) (by omega), HFB.out, D.trans da3 d4⟩ ?_
 case' true =>
  by_cases h0 : x.down.length = 0
  case' pos =>
   have i5 : ¬ (0 : Int) < (x.down.length : Int) := by omega
   go_wp2_with fail
   clear lb7_ qb7__0 qb7__1 fb7__0 fb7__1;refine name_calls (fun W => ∃ (x : DSegmentDatabase) (u0 u1 : Value), Blk W w2.heap.size 27 [.slice A0 t.ases.length c0, .slice A1 n1 c1] ∧ TopologyO wa.heap.size m W (.agg #[.slice A0 t.ases.length c0, .slice A1 n1 c1]) t ∧ Blk W (w2.heap.size + 1) 30 [u0, u1] ∧ SegmentDatabaseQ m W.heap.size W (.agg #[u0, u1]) x ∧ FewB 7 x ∧ D g wa W) ⟨x, _, _, BT4.out, OT4.out, BK4.out, OQ4.out.more (Nat.le_refl _) (by omega), HFB.out, D.trans da3 d4⟩ ?_
  case' neg =>
   have i5 : (0 : Int) < (x.down.length : Int) := by omega
   have hp : 0 < x.down.length := by omega
   obtain ⟨gs, cs, v2, rest, eu, hlo, hhi, hblk, hsv, hset⟩ := SegmentDatabaseQ.set0 OQ4.out hp;have hs5 := HFB.out.2.1 _ (List.getElem_mem hp)
   obtain ⟨s0, hs0⟩ : ∃ s, x.down[0] = s := ⟨_, rfl⟩
   rw [hs0] at hblk hsv hs5;clear hs0;simp only [Value.slice.injEq, true_and] at eu;obtain ⟨rfl, rfl⟩ := eu;have hsv := hsv.keep (B' := w4.heap.size) (w' := w4) (by omega) (fun _ _ => rfl);obtain ⟨A9_, n9_, c9_, e9_, -⟩ := id hsv;have e9_ : [I s0.ts, I s0.beta, v2] = [I s0.ts, I s0.beta, .slice A9_ n9_ c9_] := congrArg Array.toList (Value.agg.inj e9_);simp only [List.cons.injEq, and_true, true_and] at e9_;subst e9_;have HSV := Lib.hid hsv; have HSET := Lib.hid hset; have HBLK := Lib.hid hblk; clear hsv hset;have lgs := hblk.lt
   have ngs : ¬ gs = g := by omega
   obtain ⟨q0_, q1_, q2_⟩ : w4.cell? ⟨gs, 0, none⟩ = some (I s0.ts) ∧ w4.cell? ⟨gs, 1, none⟩ = some (I s0.beta) ∧ w4.cell? ⟨gs, 2, none⟩ = some (.slice A9_ n9_ c9_) := ⟨by rw [hblk.cell]; rfl, by rw [hblk.cell]; rfl, by rw [hblk.cell]; rfl⟩
   clear hblk;go_wp2_with fail
   refine (spec_l9Spoil g _ s0 w4 HC4.out (by exact HSV.out) (by omega)).mono ?_;rintro e w6 ⟨v6, rfl, ⟨s9, o9, hs9⟩, d6⟩;obtain ⟨A9, c9, rfl, -⟩ := seg_front o9;have O9 := Lib.hid o9; clear o9 q0_ q1_ q2_ lb7_ qb7__0 qb7__1 fb7__0 fb7__1;have z6 := d6.size;have HB6 := Lib.hid (HBLK.out.d d6 ngs); have BK6 := Lib.hid (BK4.out.d d6 nb7)
   obtain ⟨q0_, q1_, q2_⟩ : w6.cell? ⟨gs, 0, none⟩ = some (I s0.ts) ∧ w6.cell? ⟨gs, 1, none⟩ = some (I s0.beta) ∧ w6.cell? ⟨gs, 2, none⟩ = some (.slice A9_ n9_ c9_) := ⟨by rw [HB6.out.cell]; rfl, by rw [HB6.out.cell]; rfl, by rw [HB6.out.cell]; rfl⟩
   have lg6 := HB6.out.lt;have f0_ := HB6.out.frozen 0; have f1_ := HB6.out.frozen 1; have f2_ := HB6.out.frozen 2;have b7_ := BK6.out.ext (w' := w6) xe;have lb7_ := b7_.lt;obtain ⟨qb7__0, qb7__1⟩ := blk2 b7_;have fb7__0 := b7_.frozen 0;have fb7__1 := b7_.frozen 1;clear b7_;go_wp2_with fail
   have BT6 := Lib.hid (BT4.out.d d6 nb6); have OT6 := Lib.hid (OT4.out.d d6 (by omega));clear q0_ q1_ q2_ f0_ f1_ f2_ lb7_ qb7__0 qb7__1 fb7__0 fb7__1;refine name_calls (fun W => ∃ (x : DSegmentDatabase) (u0 u1 : Value), Blk W w2.heap.size 27 [.slice A0 t.ases.length c0, .slice A1 n1 c1] ∧ TopologyO wa.heap.size m W (.agg #[.slice A0 t.ases.length c0, .slice A1 n1 c1]) t ∧ Blk W (w2.heap.size + 1) 30 [u0, u1] ∧ SegmentDatabaseQ m W.heap.size W (.agg #[u0, u1]) x ∧ FewB 7 x ∧ D g wa W) ⟨⟨x.down.set 0 s9, x.core⟩, _, _, (((BT6.out.far (by first | omega | (dsimp only; omega)) _).far (by first | omega | (dsimp only; omega)) _).far (by first | omega | (dsimp only; omega)) _).alloc _, ?ot, (((BK6.out.far (by first | omega | (dsimp only; omega)) _).far (by first | omega | (dsimp only; omega)) _).far (by first | omega | (dsimp only; omega)) _).alloc _, ?oq, HFB.out.set0 (by omega), D.alloc (D.setNew (D.setNew (D.setNew (D.trans (D.trans da3 d4) d6) (by omega) (by dsimp only; omega) _) (by omega) (by dsimp only; omega) _) (by omega) (by dsimp only; omega) _) (by omega) _⟩ ?_
   case ot =>
    exact OT6.out.keep fun k h1 h2 h3 => by rw [Below.heap_alloc _ _ _ (by simp only [World.size_setCell]; omega), Below.heap_setCell _ _ _ _ (by dsimp only; omega), Below.heap_setCell _ _ _ _ (by dsimp only; omega), Below.heap_setCell _ _ _ _ (by dsimp only; omega)]
   case oq =>
    refine HSET.out _ A9 s9.hops.length c9 s9 _ (by simp only [World.size_alloc, World.size_setCell]; omega) ?_ (fun b hb h1 h2 => ?_) ?_
    · have h9 := ((HB6.out.set_ 0 (I s9.ts)).set_ 1 (I s9.beta)).set_ 2 (.slice A9 s9.hops.length c9)
      exact h9.alloc _
    · rw [Below.heap_alloc _ _ _ (by simp only [World.size_setCell]; omega), Below.heap_setCell _ _ _ _ hb, Below.heap_setCell _ _ _ _ hb, Below.heap_setCell _ _ _ _ hb]
      exact d6.block (by omega) (by omega)
    · refine SegmentO.more (O9.out.keep fun k h1 h2 h3 => ?_) (by omega) (by simp only [World.size_alloc, World.size_setCell]; omega)
      rw [Below.heap_alloc _ _ _ (by simp only [World.size_setCell]; omega), Below.heap_setCell _ _ _ _ (by dsimp only; omega), Below.heap_setCell _ _ _ _ (by dsimp only; omega), Below.heap_setCell _ _ _ _ (by dsimp only; omega)]
 all_goals
  rintro w5 ⟨x, va_, vb_, bt, ot, bk, oq, hfb, d5⟩;obtain ⟨B2_, k2_, q2_, B3_, k3_, q3_, euv⟩ := SegmentDatabaseQ.shape oq;have euv : [va_, vb_] = [.slice B2_ k2_ q2_, .slice B3_ k3_ q3_] := congrArg Array.toList (Value.agg.inj euv);simp only [List.cons.injEq, and_true] at euv;obtain ⟨rfl, rfl⟩ := euv;have BT5 := Lib.hid bt; have OT5 := Lib.hid ot; have BK5 := Lib.hid bk; have OQ5 := Lib.hid oq; have HFB5 := Lib.hid hfb; clear bt ot bk oq hfb;have z5 := d5.size;have lk5 := BK5.out.lt;refine (spec_l1Once g 6 w5 (d5.cur HCA.out) (by omega)).mono ?_;rintro e w6 ⟨bo, rfl, d6⟩;have z6 := d6.size;have d56 : D g wa w6 := D.trans d5 d6;have BT6 := Lib.hid (BT5.out.d d6 nb6); have OT6 := Lib.hid (OT5.out.d d6 (by omega)); have BK6 := Lib.hid (BK5.out.d d6 nb7); have OQ6 := Lib.hid (OQ5.out.dUp d6 (by omega));cases bo
  case' false =>
   go_wp2_with fail
   refine name_wp (fun W => ∃ (x : DSegmentDatabase) (u0 u1 : Value), Blk W w2.heap.size 27 [.slice A0 t.ases.length c0, .slice A1 n1 c1] ∧ TopologyO wa.heap.size m W (.agg #[.slice A0 t.ases.length c0, .slice A1 n1 c1]) t ∧ Blk W (w2.heap.size + 1) 30 [u0, u1] ∧ SegmentDatabaseQ m W.heap.size W (.agg #[u0, u1]) x ∧ FewB 7 x ∧ D g wa W) ⟨x, _, _, BT6.out, OT6.out, BK6.out, OQ6.out, HFB5.out, d56⟩ ?_
  case' true =>
   have b7_ := BK6.out.ext (w' := w6) xe;have lb7_ := b7_.lt;obtain ⟨qb7__0, qb7__1⟩ := blk2 b7_;have fb7__0 := b7_.frozen 0;have fb7__1 := b7_.frozen 1;clear b7_;go_wp2_with fail
   clear lb7_ qb7__0 qb7__1 fb7__0 fb7__1;refine name_wp (fun W => ∃ (x : DSegmentDatabase) (u0 u1 : Value), Blk W w2.heap.size 27 [.slice A0 t.ases.length c0, .slice A1 n1 c1] ∧ TopologyO wa.heap.size m W (.agg #[.slice A0 t.ases.length c0, .slice A1 n1 c1]) t ∧ Blk W (w2.heap.size + 1) 30 [u0, u1] ∧ SegmentDatabaseQ m W.heap.size W (.agg #[u0, u1]) x ∧ FewB 7 x ∧ D g wa W) ⟨⟨x.core, x.down⟩, (.slice B3_ k3_ q3_), (.slice B2_ k2_ q2_), (BT6.out.far (by first | omega | (dsimp only; omega)) _).far (by first | omega | (dsimp only; omega)) _, ?ot, by simpa using (BK6.out.set_ 0 (.slice B3_ k3_ q3_)).set_ 1 (.slice B2_ k2_ q2_), ?oq, HFB5.out.swap, D.setNew (D.setNew d56 (by omega) (by dsimp only; omega) _) (by omega) (by dsimp only; omega) _⟩ ?_
   case ot =>
    exact OT6.out.keep fun k h1 h2 h3 => by rw [Below.heap_setCell _ _ _ _ (by dsimp only; omega), Below.heap_setCell _ _ _ _ (by dsimp only; omega)]
   case oq =>
    simp only [World.size_setCell];exact SegmentDatabaseQ.setT (SegmentDatabaseQ.setT OQ6.out.swap BK6.out 0 (.slice B3_ k3_ q3_)) (BK6.out.set_ 0 (.slice B3_ k3_ q3_)) 1 (.slice B2_ k2_ q2_)
  all_goals
   rintro w7 ⟨x, va_, vb_, bt, ot, bk, oq, hfb, d7⟩;obtain ⟨B0_, k0_, q0_, B1_, k1_, q1_, euv⟩ := SegmentDatabaseQ.shape oq;have euv : [va_, vb_] = [.slice B0_ k0_ q0_, .slice B1_ k1_ q1_] := congrArg Array.toList (Value.agg.inj euv);simp only [List.cons.injEq, and_true] at euv;obtain ⟨rfl, rfl⟩ := euv;have BT7 := Lib.hid bt; have OT7 := Lib.hid ot; have BK7 := Lib.hid bk; have OQ7 := Lib.hid oq; have HFB7 := Lib.hid hfb; clear bt ot bk oq hfb;have z7 := d7.size;have lk7 := BK7.out.lt;have dw7 : D g w w7 := D.trans da d7;have B07 := Lib.hid (B0.out.d d7 (by omega)); have B17 := Lib.hid (B1.out.d d7 (by omega))
   have nn1 : ¬ w2.heap.size = w.heap.size := by omega
   have nn2 : ¬ w.heap.size = w2.heap.size := by omega
   have nn3 : ¬ w2.heap.size = w.heap.size + 1 := by omega
   have nn4 : ¬ w.heap.size + 1 = w2.heap.size := by omega
   have nn5 : ¬ w2.heap.size + 1 = w.heap.size := by omega
   have nn6 : ¬ w.heap.size = w2.heap.size + 1 := by omega
   have nn7 : ¬ w2.heap.size + 1 = w.heap.size + 1 := by omega
   have nn8 : ¬ w.heap.size + 1 = w2.heap.size + 1 := by omega
   have b6_ := BT7.out.ext (w' := w7) xe;have lb6_ := b6_.lt;obtain ⟨qb6__0, qb6__1⟩ := blk2 b6_;have fb6__0 := b6_.frozen 0;have fb6__1 := b6_.frozen 1;clear b6_;have b7_ := BK7.out.ext (w' := w7) xe;have lb7_ := b7_.lt;obtain ⟨qb7__0, qb7__1⟩ := blk2 b7_;have fb7__0 := b7_.frozen 0;have fb7__1 := b7_.frozen 1;clear b7_;have c0_ := B07.out.ext (w' := w7) xe;have lc0_ := c0_.lt;obtain ⟨qc0__0, qc0__1⟩ := blk2 c0_;have fc0__0 := c0_.frozen 0;have fc0__1 := c0_.frozen 1;clear c0_;have c1_ := B17.out.ext (w' := w7) xe;have lc1_ := c1_.lt;obtain ⟨qc1__0, qc1__1⟩ := blk2 c1_;have fc1__0 := c1_.frozen 0;have fc1__1 := c1_.frozen 1;clear c1_;go_region
   all_goals
    go_wp2_with fail
    refine bodyPost_ret (v := .tuple #[.agg #[.slice A0 t.ases.length c0, .slice A1 n1 c1], .agg #[.slice B0_ k0_ q0_, .slice B1_ k1_ q1_]]) (by simp [results, Tryz.results31, go_sem, *]) rfl ⟨⟨_, _, rfl, t, x, ?_, HDT.out, HOK.out, ?_, HFB7.out⟩, ?_⟩
    · exact TopologyO.more (OT7.out.keep fun k h1 _ _ => (kp (lo := wa.heap.size)).same k h1) (by omega) (Nat.le_trans (show m ≤ w7.heap.size by omega) (Nat.le_of_eq (kp (lo := wa.heap.size) (a := w7)).size.symm))
    · exact SegmentDatabaseQ.more (OQ7.out.keep fun k h1 _ _ => (kp (lo := wa.heap.size)).same k (by omega)) (by omega) (by first | exact Nat.le_of_eq (kp (lo := wa.heap.size)).size.symm | (simp only [World.size_setCell]; omega))
    · exact xd
end Go.Proofs.YtmopmgaeiokfjaaGreat
