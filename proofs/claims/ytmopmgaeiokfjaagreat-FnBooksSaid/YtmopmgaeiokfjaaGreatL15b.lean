/- Contracts of the program's and the reference's functions on beaconing: NewBeaconing. -/
import Derived.Test.YtmopmgaeiokfjaaGreatGL5d
import Derived.Test.YtmopmgaeiokfjaaGreatGHB
import Derived.Test.YtmopmgaeiokfjaaGreatGHS
import Derived.Laws.OwnMore
set_option maxRecDepth 100000
set_option maxHeartbeats 1000000
namespace Go.Proofs.YtmopmgaeiokfjaaGreat
open Go.RowKit
set_option linter.unusedVariables false
def newBeac (t : DTopology) (ts : Int) : DBeaconing := ⟨ts, if validTop t then List.replicate t.ases.length ⟨[]⟩ else []⟩
theorem emptyOC (w : World) : BeaconStoreOC w [] [.slice none 0 0] ⟨[]⟩ := ⟨.slice none 0 0, [], [], rfl, World.ownsRow_nil w 0 _ 4, ⟨rfl, rfl⟩, rfl⟩
theorem validTop_len {t : DTopology} (h : validTop t = true) : 1 ≤ t.ases.length ∧ t.ases.length ≤ 8 := by
 unfold validTop at h;rw [Bool.and_eq_true] at h;have := inR_iff.1 h.1;omega
theorem spec_NewBeaconing (vt : Value) (ts : Int) (t : DTopology) (w : World) (ht : TopologyV w.heap.size w vt t) :
 Calls Tryz.prog 73 #[vt, I ts] w fun e w' => ∃ v', e = .returned v' ∧ BeaconingO w.heap.size w'.heap.size w' v' (newBeac t ts) ∧ Ext w w' := by
 obtain ⟨At_0, nt_0, ct_0, At_1, nt_1, ct_1, rfl, st_0, st_1⟩ := id ht;obtain ⟨lt_0, kt_0, mt_0⟩ := st_0.len;subst lt_0;unfold maxLen at mt_0;obtain ⟨lt_1, kt_1, mt_1⟩ := st_1.len;subst lt_1;unfold maxLen at mt_1;have Rt := Lib.hid ht; clear ht;have St_0 := Lib.hid st_0; clear st_0;have St_1 := Lib.hid st_1; clear st_1;cases hv : validTop t
 · have HF : Hid (newBeac t ts = ⟨ts, []⟩) := by unfold Hid newBeac; rw [hv]; rfl
   have HV := Lib.hid hv; clear hv
   go_enter Tryz.func73, Tryz.ntmps73
   go_wp2_with fail
   refine name_wp (fun W => ∃ wb, wb.heap.size = w.heap.size + 1 + 1 ∧ Ext w wb ∧ Blk wb w.heap.size 27 [.slice At_0 t.ases.length ct_0, .slice At_1 t.links.length ct_1] ∧ Blk wb (w.heap.size + 1) 40 [I 0, .slice none 0 0] ∧ Ext wb W ∧ Blk W (w.heap.size + 1 + 1) 40 [I ts, .slice none 0 0]) ⟨_, (by simp only [World.size_alloc]), xe, xb, xb, (Ext.refl _).alloc _, xb⟩ ?_;rintro w0 ⟨wb, zb, ewb, bt, br, ew0, b0⟩;have Bt := Lib.hid bt; have BR := Lib.hid br; have B0 := Lib.hid b0; clear bt br b0;have l0 := B0.out.lt;have zw := ewb.size
   go_loopw [6] (fun i wr => i = I 0 ∧ wr = w0) (fun _ _ => 0)
   case atStart => exact ⟨rfl, rfl⟩
   case round =>
    obtain ⟨rfl, rfl⟩ := hrel;have bt := Bt.out.ext (w' := wr) xe;have lt := bt.lt;obtain ⟨pt_0, pt_1⟩ := blk2 bt;clear bt;by_cases hlt : (0 : Int) < (t.ases.length : Int)
    · go_wp2_with fail
      refine (spec_ValidTopology _ (t) _ (by exact Rt.out.ext xe)).mono ?_;rintro e w1 ⟨rfl, ew1⟩;rw [HV.out];have z1 := ew1.size;have br := BR.out.ext (w' := w1) xe;have lbr := br.lt;obtain ⟨qbr_0, qbr_1⟩ := blk2 br;have fbr_0 := br.frozen 0;have fbr_1 := br.frozen 1;clear br;have b0 := B0.out.ext (w' := w1) xe;have lb0 := b0.lt;obtain ⟨qb0_0, qb0_1⟩ := blk2 b0;have fb0_0 := b0.frozen 0;have fb0_1 := b0.frozen 1;clear b0;go_wp2_with fail
      refine bodyPost_ret (v := .agg #[I ts, .slice none 0 0]) (by simp [results, Tryz.results73, go_sem, *]) rfl ⟨_, rfl, ?_, ?_⟩
      · rw [HF.out]
        exact ⟨_, rfl, NO.nil _ _ _ _ _ _, by simp only [World.size_setCell]; omega⟩
      · exact xe
    · have hlt0 : t.ases.length = 0 := by omega
      have br := BR.out.ext (w' := wr) xe;have lbr := br.lt;obtain ⟨qbr_0, qbr_1⟩ := blk2 br;have fbr_0 := br.frozen 0;have fbr_1 := br.frozen 1;clear br;have b0 := B0.out.ext (w' := wr) xe;have lb0 := b0.lt;obtain ⟨qb0_0, qb0_1⟩ := blk2 b0;have fb0_0 := b0.frozen 0;have fb0_1 := b0.frozen 1;clear b0;go_wp2_with fail
      refine bodyPost_ret (v := .agg #[I ts, .slice none 0 0]) (by simp [results, Tryz.results73, go_sem, *]) rfl ⟨_, rfl, ?_, ?_⟩
      · rw [HF.out]
        exact ⟨_, rfl, NO.nil _ _ _ _ _ _, by simp only [World.size_setCell]; omega⟩
      · exact xe
 · have HF : Hid (newBeac t ts = ⟨ts, List.replicate t.ases.length ⟨[]⟩⟩) := by unfold Hid newBeac; rw [hv]; rfl
   obtain ⟨hl1, hl8⟩ := validTop_len hv;have HV := Lib.hid hv; clear hv
   go_enter Tryz.func73, Tryz.ntmps73
   go_wp2_with fail
   refine name_wp (fun W => ∃ wb, wb.heap.size = w.heap.size + 1 + 1 ∧ Ext w wb ∧ Blk wb w.heap.size 27 [.slice At_0 t.ases.length ct_0, .slice At_1 t.links.length ct_1] ∧ Blk wb (w.heap.size + 1) 40 [I 0, .slice none 0 0] ∧ Ext wb W ∧ Blk W (w.heap.size + 1 + 1) 40 [I ts, .slice none 0 0]) ⟨_, (by simp only [World.size_alloc]), xe, xb, xb, (Ext.refl _).alloc _, xb⟩ ?_;rintro w0 ⟨wb, zb, ewb, bt, br, ew0, b0⟩;have Bt := Lib.hid bt; have BR := Lib.hid br; have B0 := Lib.hid b0; clear bt br b0;have l0 := B0.out.lt;have zw := ewb.size
   go_loopw [6] (fun i wr => ∃ (k : Nat) (u : Value), k ≤ t.ases.length ∧ i = I k ∧ w0.heap.size ≤ wr.heap.size ∧ Blk wr (w.heap.size + 1 + 1) 40 [I ts, u] ∧ BeaconStoreSO w0.heap.size wr.heap.size wr u (List.replicate k ⟨[]⟩) ∧ Ext wb wr) (fun i _ => t.ases.length - (intOf i).toNat)
   case atStart => exact ⟨0, _, by omega, rfl, Nat.le_refl _, B0.out, NO.nil _ _ _ _ _ _, ew0⟩
   case round =>
    obtain ⟨k, u, hk, rfl, hz, hb5, ho, he⟩ := hrel;have HB5 := Lib.hid hb5; have HO := Lib.hid ho; clear hb5 ho;obtain ⟨av, nv, cv, hu⟩ := NO.slice HO.out;subst hu;have l5 := HB5.out.lt;have bt := Bt.out.ext (w' := wr) xe;have lt := bt.lt;obtain ⟨pt_0, pt_1⟩ := blk2 bt;clear bt;by_cases hlt : k < t.ases.length
    · go_wp2_with fail
      refine (spec_ValidTopology _ (t) _ (by exact Rt.out.ext xe)).mono ?_;rintro e w1 ⟨rfl, ew1⟩;rw [HV.out];have z1 := ew1.size;have b5 := HB5.out.ext (w' := w1) xe;have lb5 := b5.lt;obtain ⟨qb5_0, qb5_1⟩ := blk2 b5;have fb5_0 := b5.frozen 0;have fb5_1 := b5.frozen 1;clear b5;go_wp2_with (at_builtin; refine hold ?_)
      refine unhold (wpList_pushN rfl w0.heap.size BeaconStoreOC.keeps BeaconStoreOC.one (.tmp 21) (.tmp 23) _ rfl 76 _ 1 24 Tryz.underlying38 info_BeaconStore rfl (by omega) _ (List.replicate k ⟨[]⟩) [⟨[]⟩] wr.heap.size w1.heap.size _ rfl _ 1 1 rfl (by exact NO.at' BeaconStoreOC.keeps HO.out xe) (by exact NO.single BeaconStoreOC.keeps (emptyOC w1) (by simp) (fun b hb => by cases hb) rfl (Nat.le_refl _) (by simp)) (by omega) (by omega) (by simp only [World.size_alloc]; omega) (Nat.le_refl _) (by simp only [World.size_alloc]; omega) (by simp; omega) (by omega) ?_);intro v7 w7 no7 hg7;obtain ⟨a7, m7, c7, hv7⟩ := NO.slice no7;subst hv7;have hnb : (Value.slice av nv cv).ownBlock ≠ some (w.heap.size + 1 + 1) := NO.not_block HO.out (by omega);have B7 := Lib.hid (Blk.grown (HB5.out.ext (w' := w1.alloc _) xe) hg7 hnb);have E7 := Lib.hid (Ext.grownN (a := wb) (w := w1.alloc _) xe (NO.at' BeaconStoreOC.keeps HO.out (w' := w1.alloc _) xe) hg7 (by omega));have z7 : (w1.alloc _).heap.size ≤ w7.heap.size := hg7.size;simp only [World.size_alloc] at z7;have O7 := Lib.hid no7; clear no7 hg7 hnb;clear lb5 qb5_0 qb5_1 fb5_0 fb5_1;have b7 := B7.out.ext (w' := w7) xe;have lb7 := b7.lt;obtain ⟨qb7_0, qb7_1⟩ := blk2 b7;have fb7_0 := b7.frozen 0;have fb7_1 := b7.frozen 1;clear b7;go_wp2_with (at_builtin; refine hold ?_)
      go_roundw
      case rel => exact ⟨k + 1, _, by omega, by go_num, by simp only [World.size_setCell]; omega, by simpa using B7.out.set_ 1 (.slice a7 m7 c7), by rw [List.replicate_succ']; simp only [World.size_setCell]; exact BeaconStoreSO_setCell O7.out (.inl (by dsimp only; omega)) _, Ext.setCell E7.out (by dsimp only; omega) _⟩
      case measure => simp [intOf]; omega
    · obtain rfl : k = t.ases.length := by omega
      have br := BR.out.ext (w' := wr) xe;have lbr := br.lt;obtain ⟨qbr_0, qbr_1⟩ := blk2 br;have fbr_0 := br.frozen 0;have fbr_1 := br.frozen 1;clear br;have b5 := HB5.out.ext (w' := wr) xe;have lb5 := b5.lt;obtain ⟨qb5_0, qb5_1⟩ := blk2 b5;have fb5_0 := b5.frozen 0;have fb5_1 := b5.frozen 1;clear b5;go_wp2_with fail
      refine bodyPost_ret (v := .agg #[I ts, .slice av nv cv]) (by simp [results, Tryz.results73, go_sem, *]) rfl ⟨_, rfl, ?_, ?_⟩
      · rw [HF.out]
        simp only [World.size_setCell];refine ⟨_, rfl, NO.more (NO.keep BeaconStoreOC.keeps HO.out ?_) (by omega) (by omega), by omega⟩;intro j h1 h2 h3;rw [Below.heap_setCell _ _ _ _ (by dsimp only; omega), Below.heap_setCell _ _ _ _ (by dsimp only; omega)]
      · exact xe
end Go.Proofs.YtmopmgaeiokfjaaGreat
