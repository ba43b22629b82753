/- The contract of the reference's draw of a spreading: DrawSpreading. The given slice holds bytes. -/
import Derived.Test.YtkbiciiniagadaaGreatGD31
namespace Go.Proofs.YtkbiciiniagadaaGreat
open Go.RowKit
set_option linter.unusedVariables false
set_option maxRecDepth 100000 in
set_option maxHeartbeats 1000000 in
theorem spec_DrawSpreading (vb : Value) (bs : List Nat) (w : World) (hb : ByteS w.heap.size w vb bs) (hn : bs.length ≤ 1048576) : Calls Tryz.prog 5 #[vb] w fun e w' => (∃ vt vl vx, e = .returned (.tuple #[vt, vl, vx]) ∧ ∃ t l ts, TopologyV w'.heap.size w' vt t ∧ PolicyS w'.heap.size w' vl l ∧ (0 ≤ ts ∧ ts ≤ 30) ∧ BeaconingV w'.heap.size w' vx (runBeac t l ts)) ∧ Ext w w' := by
  have HB := Lib.hid hb; clear hb
  go_enter Tryz.func5, Tryz.ntmps5
  go_wp2_with fail
  refine name_calls (fun W => Ext w W ∧ W.heap.size = w.heap.size + 1 + 1 ∧ Blk W (w.heap.size) 27 [.slice none 0 0, .slice none 0 0] ∧ Blk W (w.heap.size + 1) 31 [I 0, .slice none 0 0]) ⟨xe, by simp only [World.size_alloc], xb, xb⟩ ?_
  rintro wa ⟨ea, za_, br0, br1⟩
  obtain ⟨za, za'⟩ := le_both za_
  clear za_
  have B0 := Lib.hid br0; have B1 := Lib.hid br1; clear br0 br1
  refine (spec_l1NewB vb bs w.heap.size wa (HB.out.keep ByteAt.keeps (Nat.le_refl _) fun k hk => ea.same k hk) (by omega) hn).mono ?_
  rintro e w1 ⟨g, rfl, hg, hcur, e1⟩
  have HCB := Lib.hid hcur
  have HC := Lib.hid hcur.cur
  have hg1 := hcur.lt
  clear hcur
  have z1 := e1.size
  go_wp2_with fail
  refine (spec_l5Draw g w1 HC.out).mono ?_
  rintro e w2 ⟨v1, rfl, ⟨t, ot, hdt⟩, d2⟩
  have z2 := d2.size
  have e2 : Ext wa w2 := d2.ext e1 hg
  obtain ⟨At_0, nt_0, ct_0, At_1, nt_1, ct_1, rfl, st_0, st_1⟩ := ot.v
  obtain ⟨lt_0, kt_0, mt_0⟩ := st_0.len
  subst lt_0
  have OT := Lib.hid ot; clear ot st_0 st_1
  have ht8 : t.ases.length ≤ 8 := hdt.2.1
  clear hdt
  go_wp2_with fail
  refine name_calls (fun W => Ext w2 W ∧ W.heap.size = w2.heap.size + 1 ∧ Blk W w2.heap.size 27 [.slice At_0 t.ases.length ct_0, .slice At_1 nt_1 ct_1]) ⟨xe, by simp only [World.size_alloc], xb⟩ ?_
  rintro wx ⟨ex, zx_, b5⟩
  obtain ⟨zx, zx'⟩ := le_both zx_
  clear zx_
  have BTX := Lib.hid b5; clear b5
  have dx : D g w1 wx := D.trans d2 (D.of_ext ex (by omega))
  have OTX := Lib.hid (OT.out.ext ex (Nat.le_refl _))
  refine (spec_l12List g t.ases.length wx (dx.cur HC.out) (by omega)).mono ?_
  rintro e w3 ⟨v3, rfl, ⟨l, ol, hll⟩, d3⟩
  obtain ⟨Al, nl, cl, rfl⟩ := ol.slice
  have OL := Lib.hid ol; clear ol
  have z3 := d3.size
  have d13 : D g w1 w3 := D.trans dx d3
  have ea3 : Ext wa w3 := d13.ext e1 hg
  have ew3 : Ext w w3 := Ext.trans ea ea3
  have BT3 := Lib.hid (BTX.out.d d3 (by omega))
  have OT3 := Lib.hid (OTX.out.d d3 (by omega))
  have HC3 := Lib.hid (d13.cur HC.out)
  have hg3 : g < w3.heap.size := by omega
  have nb0 : ¬ w2.heap.size = g := by omega
  have nb1 : ¬ w.heap.size = g := by omega
  have nb2 : ¬ w.heap.size + 1 = g := by omega
  have n1 : ¬ w2.heap.size = w.heap.size := by omega
  have n2 : ¬ w.heap.size = w2.heap.size := by omega
  have n3 : ¬ w2.heap.size = w.heap.size + 1 := by omega
  have n4 : ¬ w.heap.size + 1 = w2.heap.size := by omega
  have dd : D g w3 w3.drew := D.drew (D.refl _ _)
  have HCD := Lib.hid (dd.cur HC3.out)
  have B03 := Lib.hid (B0.out.ext ea3); have B13 := Lib.hid (B1.out.ext ea3)
  go_wp2_with fail
  have b4_ := BT3.out.ext (w' := w3) xe
  have lb4_ := b4_.lt
  obtain ⟨qb4__0, qb4__1⟩ := blk2 b4_
  have fb4__0 := b4_.frozen 0
  have fb4__1 := b4_.frozen 1
  clear b4_
  have c0_ := B03.out.ext (w' := w3) xe
  have lc0_ := c0_.lt
  obtain ⟨qc0__0, qc0__1⟩ := blk2 c0_
  have fc0__0 := c0_.frozen 0
  have fc0__1 := c0_.frozen 1
  clear c0_
  have c1_ := B13.out.ext (w' := w3) xe
  have lc1_ := c1_.lt
  obtain ⟨qc1__0, qc1__1⟩ := blk2 c1_
  have fc1__0 := c1_.frozen 0
  have fc1__1 := c1_.frozen 1
  clear c1_
  go_region_with (first
    | (go_at_call 18; go_loud (refine (spec_l1Below g 30 w3.drew (by exact HCD.out) (by omega)).mono ?_; rintro e w7 ⟨x7, rfl, ⟨x7a, x7b, -⟩, d7⟩; have x7b := x7b (by omega); have dn7 : D g w3 w7 := D.trans dd d7; have z7 := dn7.size; obtain ⟨hc7, hf7, hz7⟩ := dn7.facts))
    | (go_at_call 17; go_loud (refine (spec_RunBeaconing _ _ x7 t l _ (by exact TopologyO_rd (OT3.out.d dn7 (by omega)) (by omega)) (by exact PolicySO_rd (Own.dUp OL.out dn7 (by omega)))).mono ?_; rintro e w9 ⟨v9, rfl, ob, e9⟩; have dn9 : D g w3 w9 := D.trans dn7 (D.of_ext e9 (by omega)); have OB := Lib.hid ob; have HSH := Lib.hid ob.shape; clear ob; have z9 := dn9.size; have z79 := e9.size; obtain ⟨A9, n9, c9, hv9⟩ := HSH.out; subst hv9; clear hc7 hf7 hz7; obtain ⟨hc9, hf9, hz9⟩ := dn9.facts)))
  all_goals
    have ew9 : Ext w w9 := Ext.trans ea (D.ext (D.trans d13 dn9) e1 hg)
    go_wp2_with fail
    refine bodyPost_ret (v := .tuple #[.agg #[.slice At_0 t.ases.length ct_0, .slice At_1 nt_1 ct_1], .slice Al nl cl, .agg #[I (runBeac t l x7).ts, .slice A9 n9 c9]]) (by simp [results, Tryz.results5, go_sem, *]) rfl ⟨⟨_, _, _, rfl, t, l, x7, ?_, ?_, ⟨x7a, by omega⟩, ?_⟩, ?_⟩
    · exact TopologyO.kp (m := wa.heap.size) (OT3.out.d dn9 (by omega)) kp (by omega) (by omega)
    · exact PolicySO.kp (m := wa.heap.size) (OL.out.d dn9 (by omega)) kp (by omega) (by omega)
    · exact BeaconingO.kp (m := wa.heap.size) OB.out kp (by omega) (by omega)
    · exact xset
end Go.Proofs.YtkbiciiniagadaaGreat
