/- The contract of the reference's draw of a run of beaconing: DrawRunBeaconing. The given slice holds bytes. -/
import Derived.Test.YtpkcoinoiaaebaaGreatGD31
import Derived.Test.YtpkcoinoiaaebaaGreatGP05
namespace Go.Proofs.YtpkcoinoiaaebaaGreat
open Go.RowKit
set_option linter.unusedVariables false
set_option maxRecDepth 100000 in
set_option maxHeartbeats 1000000 in
theorem spec_DrawRunBeaconing (vb : Value) (bs : List Nat) (w : World) (hb : ByteS w.heap.size w vb bs) (hn : bs.length ≤ 1048576) : Calls Tryz.prog 5 #[vb] w fun e w' => (∃ vt vl ts, e = .returned (.tuple #[vt, vl, I ts]) ∧ ∃ t, TopologyV w'.heap.size w' vt t ∧ validTop t = true ∧ t.links.length ≤ 100 ∧ (0 ≤ ts ∧ ts ≤ 30)) ∧ Ext w w' := by
  have HB := Lib.hid hb; clear hb
  go_enter Tryz.func5, Tryz.ntmps5
  go_wp2_with fail
  refine name_calls (fun W => Ext w W ∧ W.heap.size = w.heap.size + 1 ∧ Blk W (w.heap.size) 27 [.slice none 0 0, .slice none 0 0]) ⟨xe, by simp only [World.size_alloc], xb⟩ ?_
  rintro wa ⟨ea, za_, br0⟩
  obtain ⟨za, za'⟩ := le_both za_
  clear za_
  have B0 := Lib.hid br0; clear br0
  refine (spec_l1NewB vb bs w.heap.size wa (HB.out.keep ByteAt.keeps (Nat.le_refl _) fun k hk => ea.same k hk) (by omega) hn).mono ?_
  rintro e w1 ⟨g, rfl, hg, hcur, e1⟩
  have HCB := Lib.hid hcur
  have HC := Lib.hid hcur.cur
  have hg1 := hcur.lt
  clear hcur
  have z1 := e1.size
  go_wp2_with fail
  refine (spec_l5DrawV g w1 HC.out).mono ?_
  rintro e w2 ⟨v1, rfl, ⟨t, ot, hdt, hvt⟩, d2⟩
  have z2 := d2.size
  have e2 : Ext wa w2 := d2.ext e1 hg
  obtain ⟨At_0, nt_0, ct_0, At_1, nt_1, ct_1, rfl, st_0, st_1⟩ := ot.v
  obtain ⟨lt_0, kt_0, mt_0⟩ := st_0.len
  subst lt_0
  have OT := Lib.hid ot; have HVT := Lib.hid hvt; clear ot st_0 st_1 hvt
  have ht8 : t.ases.length ≤ 8 := hdt.2.1
  have htl : t.links.length ≤ 100 := hdt.2.2.1
  clear hdt
  go_wp2_with fail
  refine name_wp (fun W => Ext w2 W ∧ W.heap.size = w2.heap.size + 1 ∧ Blk W w2.heap.size 27 [.slice At_0 t.ases.length ct_0, .slice At_1 nt_1 ct_1]) ⟨xe, by simp only [World.size_alloc], xb⟩ ?_
  rintro w3 ⟨e3, zx_, b5⟩
  obtain ⟨z3, z3'⟩ := le_both zx_
  clear zx_
  have BT3 := Lib.hid b5; clear b5
  have d3 : D g w2 w3 := D.of_ext e3 (by omega)
  have d13 : D g w1 w3 := D.trans d2 d3
  have ea3 : Ext wa w3 := Ext.trans e2 e3
  have ew3 : Ext w w3 := Ext.trans ea ea3
  have OT3 := Lib.hid (OT.out.ext e3 (Nat.le_refl _))
  have HC3 := Lib.hid (d13.cur HC.out)
  have hg3 : g < w3.heap.size := by omega
  have nb0 : ¬ w2.heap.size = g := by omega
  have nb1 : ¬ w.heap.size = g := by omega
  have n1 : ¬ w2.heap.size = w.heap.size := by omega
  have n2 : ¬ w.heap.size = w2.heap.size := by omega
  have dd : D g w3 w3.drew := D.drew (D.refl _ _)
  have HCD := Lib.hid (dd.cur HC3.out)
  have B03 := Lib.hid (B0.out.ext ea3)
  have b4_ := BT3.out.ext (w' := w3) xe
  have lb4_ := b4_.lt
  obtain ⟨qb4__0, qb4__1⟩ := blk2 b4_
  have fb4__0 := b4_.frozen 0
  have fb4__1 := b4_.frozen 1
  clear b4_
  have c0_ := B03.out.ext (w' := w3) xe
  have lc0_ := c0_.lt
  obtain ⟨qc0__0, qc0__1⟩ := blk2 c0_
  have fc0__0 := c0_.frozen 0
  have fc0__1 := c0_.frozen 1
  clear c0_
  go_region_with (first
    | (go_at_call 14; go_loud (refine (spec_l12List g t.ases.length w3.drew (by exact HCD.out) (by omega)).mono ?_; rintro e w7 ⟨v7, rfl, ⟨l, ol, hll⟩, d7⟩; have hcn := Lib.hid (d7.cur HCD.out); have dn7 : D g w3 w7 := D.trans dd d7; have OL := Lib.hid (show PolicySO w3.heap.size _ _ _ _ from ol); clear ol; have z7 := dn7.size; obtain ⟨hc7, hf7, hz7⟩ := dn7.facts))
    | (go_at_call 15; go_loud (refine (spec_l1Below g 30 _ (by exact hcn.out) (by omega)).mono ?_; rintro e w9 ⟨x9, rfl, ⟨x9a, x9b, -⟩, d9⟩; have x9b := x9b (by omega); have dn9 : D g w3 w9 := D.trans dn7 d9; have z9 := d9.size; clear hc7 hf7 hz7; obtain ⟨hc9, hf9, hz9⟩ := dn9.facts)))
  all_goals
    have ew9 : Ext w w9 := Ext.trans ea (D.ext (D.trans d13 dn9) e1 hg)
    go_wp2_with fail
    refine bodyPost_ret (v := .tuple #[.agg #[.slice At_0 t.ases.length ct_0, .slice At_1 nt_1 ct_1], v7, I x9]) (by simp [results, Tryz.results5, go_sem, *]) rfl ⟨⟨_, _, _, rfl, t, ?_, HVT.out, htl, ⟨x9a, by omega⟩⟩, ?_⟩
    · exact TopologyO.kp (m := wa.heap.size) (OT3.out.d dn9 (by omega)) kp (by omega) (by omega)
    · exact xset
end Go.Proofs.YtpkcoinoiaaebaaGreat

