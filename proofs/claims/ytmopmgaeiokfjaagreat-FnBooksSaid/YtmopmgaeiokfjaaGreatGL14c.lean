/- Words for lists that own blocks: parts of them, and an append as a region's one writing operation. No conditions. -/
import Derived.Test.YtmopmgaeiokfjaaGreatGL14b
import Derived.Test.YtmopmgaeiokfjaaGreatGHS
import Derived.Test.YtmopmgaeiokfjaaGreatGGrow
import Derived.Test.YtmopmgaeiokfjaaGreatL13f
import Derived.Test.YtmopmgaeiokfjaaGreatL14p
set_option maxRecDepth 100000
set_option maxHeartbeats 1000000
namespace Go.Proofs.YtmopmgaeiokfjaaGreat
open Go.RowKit
set_option linter.unusedVariables false
theorem onAt_pushX {α : Type} {OC : World → List Nat → List Value → α → Prop} {P : Program} {o : Oper} {a : Act} {w : World} {ψ : Value → World → Prop} (lo : Nat) (hK : OKeeps OC) (hO : OOne OC) (s x : Operand) (t : TypeId)
 (ho : o.op = .call { callee := .builtin .append, args := #[s, x], argTypes := #[t, t] })
 (E : TypeId) (z : Value) (sz bytes : Nat) (ht : P.underlying t = some (.slice E)) (hinfo : (P.info? E).map (fun i => (i.zero, i.size, i.bytes)) = some (some z, sz, bytes)) (hzs : z.cells.size = sz) (hsz : 0 < sz)
 (v : Value) (ds ds2 : List α) (cs news : List Value) (fp f2 : List Nat) (hs : a.eval s = v) (A : Option Addr) (k c : Nat) (hx : a.eval x = .slice A k c)
 (hown : Own E sz lo w.heap.size w v ds.length cs) (hl : OL OC sz w ds fp cs) (hn : ∀ b ∈ fp, v.ownBlock ≠ some b)
 (hr : Row w sz A k news) (hol : OL OC sz w ds2 f2 news) (hd : ∀ b ∈ f2, v.ownBlock ≠ some b) (hlo : lo ≤ w.heap.size)
 (h63 : ds.length + ds2.length ≤ 1000000000) (hby : bytes ≤ 1000)
 (h : ∀ v' w', Own E sz lo w'.heap.size w' v' (ds ++ ds2).length (cs ++ news) → OL OC sz w' (ds ++ ds2) (fp ++ f2) (cs ++ news) → w.grownBy w' v.ownBlock → (v'.ownBlock = v.ownBlock ∨ v'.ownBlock = some w.heap.size) → ψ v' w') : OnAt P o a ψ w := by
 have hlen : k * sz = ds2.length * sz := by rw [← hr.1, hol.len]
 have hk : k = ds2.length := Nat.eq_of_mul_eq_mul_right hsz hlen;subst hk;have hmul : (ds.length + ds2.length) * bytes ≤ 1000000000 * 1000 := Nat.mul_le_mul h63 hby;obtain ⟨i0, hi0, hz0, hz1, hz2⟩ := info_parts hinfo;obtain ⟨v', w', hrun, h2', hg, hbl⟩ := run_append_any (P := P) w lo t o.type E i0 z sz bytes ht hi0 hz0 hz1 hz2 hzs hsz v ds.length cs hown.1 A ds2.length c news hr (hol.ones hO) (by unfold maxLen; omega) (by omega) hlo;refine ⟨v', w', ?_, ?_⟩
 · unfold execOp
   simp only [ho, resolve, invoke, builtin, Sem.run_bind, Sem.run_pure, Result.andThen_ok, List.map_toArray, List.map_cons, List.map_nil, hs, hx, hrun]
 have hne : ∀ b ∈ fp ++ f2, v.ownBlock ≠ some b := by
  intro b hm' e
  rcases List.mem_append.1 hm' with h1 | h1
  · exact hn b h1 e
  · exact hd b h1 e
 refine h v' w' (by rw [List.length_append]; exact ⟨h2', fun k hk => (h2'.lt k hk).2⟩) ?_ hg hbl;refine OL.append (hl.keep hK fun b hbm hbs => ?_) (hol.keep hK fun b hbm hbs => ?_)
 · exact hg.block b hbs (fun e => hne b (by simp [hbm]) e.symm)
 · exact hg.block b hbs (fun e => hne b (by simp [hbm]) e.symm)
theorem own_typed {α : Type} {OC : World → List Nat → List Value → α → Prop} {E sz sz' lo hi n : Nat} {w : World} {v : Value} {cs cs2 : List Value} {ds : List α} {fp : List Nat} (h : Own E sz lo hi w v n cs) (hT : OTyped OC E) (hl : OL OC sz' w ds fp cs2) : ∀ b ∈ fp, v.ownBlock ≠ some b := by
 intro b hb e
 rcases h.cases with ⟨rfl, _⟩ | ⟨g, cap, rest, rfl, _, _, hblk, _⟩
 · simp [Value.ownBlock] at e
 · have : g = b := by simpa [Value.ownBlock] using e
   subst this;exact OL.typed hT hblk hl hb
theorem Own.takeN {E sz lo hi n c : Nat} {w : World} {A : Option Addr} {c1 c2 : List Value} (h : Own E sz lo hi w (.slice A n c) n (c1 ++ c2)) (k : Nat) (hk : k ≤ n) (hc : c1.length = k * sz) (h0 : 0 < n) : ∃ g, A = some ⟨g, 0, none⟩ ∧ 0 < c ∧ Own E sz lo hi w (.slice A k c) k c1 := by
 rcases h.cases with ⟨e, h1, _⟩ | ⟨g, cap, rest, e, hg1, hg2, hblk, hlc, hcap, hm, hs⟩
 · omega
 · simp only [Value.slice.injEq] at e
   obtain ⟨rfl, -, rfl⟩ := e;refine ⟨g, rfl, by omega, Own.mk' (rest := c2 ++ rest) hg1 hg2 (by rw [← List.append_assoc]; exact hblk) hc (by omega) hm (by rw [← List.append_assoc]; exact hs)⟩
theorem row_part {E sz lo hi n c : Nat} {w : World} {A : Option Addr} {c1 c2 : List Value} (h : Own E sz lo hi w (.slice A n c) n (c1 ++ c2)) (k : Nat) (hk : k ≤ n) (hc : c1.length = k * sz) : Row w sz A k c1 := by
 refine ⟨hc, fun h0 => ?_⟩;obtain ⟨g, rfl, _, ho⟩ := h.takeN k hk hc (by omega);exact (NO.row ho).2.2 h0
theorem row_rest {E sz lo hi n c : Nat} {w : World} {A : Option Addr} {c1 c2 : List Value} (h : Own E sz lo hi w (.slice A n c) n (c1 ++ c2)) (k : Nat) (hk : k ≤ n) (hc : c1.length = k * sz) : Row w sz (if c = k then A else A.map (fun x => x.add (k * sz))) (n - k) c2 := by
 have hl : (c1 ++ c2).length = n * sz := h.1.1;refine ⟨by rw [List.length_append] at hl; rw [Nat.sub_mul]; omega, fun h0 => ?_⟩
 rcases h.cases with ⟨e, h1, _⟩ | ⟨g, cap, rest, e, hg1, hg2, hblk, hlc, hcap, hm, hs⟩
 · omega
 · simp only [Value.slice.injEq] at e
   obtain ⟨rfl, -, rfl⟩ := e;refine ⟨⟨g, k * sz, none⟩, ?_, fun j u hu => ?_⟩
   · rw [if_neg (by omega), Option.map_some, add_none, Nat.zero_add]
   · rw [add_none, hblk.cell, List.append_assoc, List.getElem?_append_right (by omega), hc, Nat.add_sub_cancel_left, List.getElem?_append_left (List.getElem?_eq_some_iff.1 hu).1]
     exact hu
theorem row_rest_some {E sz lo hi n c b off : Nat} {w : World} {c1 c2 : List Value} (h : Own E sz lo hi w (.slice (some ⟨b, off, none⟩) n c) n (c1 ++ c2)) (k : Nat) (hk : k < n) (hc : c1.length = k * sz) : Row w sz (some ⟨b, off + k * sz, none⟩) (n - k) c2 := by
 have h2 := row_rest h k (by omega) hc
 rcases h.cases with ⟨e, -⟩ | ⟨g, cap, rest, e, -, -, -, -, hcap, -⟩
 · cases e
 · simp only [Value.slice.injEq] at e
   rw [if_neg (by omega), Option.map_some, add_none] at h2;exact h2
theorem row_rest_nil {E sz lo hi n c : Nat} {w : World} {A A' : Option Addr} {c1 c2 : List Value} (h : Own E sz lo hi w (.slice A n c) n (c1 ++ c2)) (k : Nat) (hk : n ≤ k) (hc : c1.length = k * sz) : Row w sz A' (n - k) c2 := by
 have hl : (c1 ++ c2).length = n * sz := h.1.1;have h3 : n * sz ≤ k * sz := Nat.mul_le_mul_right _ hk;refine ⟨?_, fun h0 => absurd h0 (by omega)⟩;rw [List.length_append] at hl;rw [show n - k = 0 by omega, Nat.zero_mul];omega
theorem NO.takeN {α : Type} {OC : World → List Nat → List Value → α → Prop} {E sz lo hi n c : Nat} {w : World} {A : Option Addr} {ds : List α} (h : NO OC E sz lo hi w (.slice A n c) ds) (k : Nat) (hk : k ≤ ds.length) (h0 : 0 < ds.length) : n = ds.length ∧ ∃ g, A = some ⟨g, 0, none⟩ ∧ 0 < c ∧ NO OC E sz lo hi w (.slice A k c) (ds.take k) := by
 obtain ⟨cs, fp, hown, hl, hnd, hbd⟩ := h;obtain ⟨rfl, -⟩ := NO.row hown;obtain ⟨f1, f2, c1, c2, rfl, rfl, ol1, ol2⟩ := OL.split (ds := ds.take k) (ds2 := ds.drop k) (by rw [List.take_append_drop]; exact hl)
 have hc : c1.length = k * sz := by rw [ol1.len, List.length_take, Nat.min_eq_left hk]
 obtain ⟨g, rfl, h1, ho⟩ := Own.takeN hown k hk hc h0;refine ⟨rfl, g, rfl, h1, c1, f1, ?_, ol1, ?_, fun b hb => hbd b (List.mem_append_left _ hb)⟩
 · rw [List.length_take, Nat.min_eq_left hk]; exact ho
 · have h2 := List.nodup_append.1 hnd
   refine List.nodup_append.2 ⟨h2.1, (List.nodup_append.1 h2.2.1).1, fun a ha b hb => h2.2.2 a ha b (List.mem_append_left _ hb)⟩
theorem NO.insert {α : Type} {OC : World → List Nat → List Value → α → Prop} {E sz lo mid l2 hi : Nat} {w : World} {v : Value} {d1 d2 : List α} {x : α} {cs : List Value} {f1 f2 fx : List Nat} (hT : OTyped OC E) (ho : Own E sz l2 hi w v ((d1 ++ [x]) ++ d2).length cs) (hl : OL OC sz w ((d1 ++ [x]) ++ d2) ((f1 ++ fx) ++ f2) cs)
 (hn : (f1 ++ f2).Nodup) (hx : fx.Nodup) (hb : ∀ b ∈ f1 ++ f2, lo ≤ b ∧ b < mid) (hbx : ∀ b ∈ fx, mid ≤ b ∧ b < hi) (h1 : lo ≤ mid) (h2 : mid ≤ l2) (h3 : mid ≤ hi) : NO OC E sz lo hi w v (d1 ++ x :: d2) := by
 have e : (d1 ++ [x]) ++ d2 = d1 ++ x :: d2 := by simp
 have ht := own_typed ho hT hl;rw [e] at ho hl;have hn2 := List.nodup_append.1 hn;refine ⟨cs, (f1 ++ fx) ++ f2, Own.more ho (by omega) (Nat.le_refl _), hl, List.nodup_append.2 ⟨by cases v.ownBlock <;> simp, ?_, fun a ha b hb' e' => ht b hb' (by subst e'; simpa using ha)⟩, fun b hb' => ?_⟩
 · refine List.nodup_append.2 ⟨List.nodup_append.2 ⟨hn2.1, hx, fun a ha b hb' => ?_⟩, hn2.2.1, fun a ha b hb' => ?_⟩
   · have k1 := hb a (List.mem_append_left _ ha); have k2 := hbx b hb'; omega
   · rcases List.mem_append.1 ha with ha | ha
     · exact hn2.2.2 a ha b hb'
     · have k1 := hb b (List.mem_append_right _ hb'); have k2 := hbx a ha; omega
 · rcases List.mem_append.1 hb' with hb' | hb'
   · rcases List.mem_append.1 hb' with hb' | hb'
     · have := hb b (List.mem_append_left _ hb'); omega
     · have := hbx b hb'; omega
   · have := hb b (List.mem_append_right _ hb'); omega
theorem BeaconO.single {W : World} {lo g : Nat} {ing ts be : Int} {A : Option Addr} {n c : Nat} {x : DBeacon} (ho : BeaconO lo W.heap.size W (.agg #[I ing, I ts, I be, .slice A n c]) x) (hlo : lo ≤ W.heap.size) (hg : g = W.heap.size) :
 BeaconSO lo (W.alloc (.cells #[I ing, I ts, I be, .slice A n c] 78)).heap.size (W.alloc (.cells #[I ing, I ts, I be, .slice A n c] 78)) (.slice (some ⟨g, 0, none⟩) 1 1) [x] := by
 obtain ⟨a3, k3, q3, fp, e, hoc, hn, hb⟩ := ho.to_oc;have e2 : [I ing, I ts, I be, .slice A n c] = [I x.ing, I x.seg.ts, I x.seg.beta, .slice a3 k3 q3] := congrArg Array.toList (Value.agg.inj e);rw [← e2] at hoc;exact NO.single BeaconOC.keeps hoc hn hb rfl hlo hg
theorem size_Beacon (W : World) : (sizeOf (Tryz.prog.elem 74)).run Tryz.prog W = .ok 4 W := by
 have e : Tryz.prog.elem 74 = 78 := by kernel_rfl
 rw [e]
 have h5 : Tryz.prog.cellsOf 78 = 4 := by kernel_rfl
 first | (simp; done) | simp [h5]
theorem spec_StoreBeacon (vt : Value) (r : Int) (vl vg : Value) (t : DTopology) (l : List DBeacon) (g : DBeacon) (w : World) (ht : TopologyV w.heap.size w vt t) (hl : BeaconS w.heap.size w vl l) (hg : BeaconV w.heap.size w vg g) (hn : bcnTot l ≤ 10000000) (hm : g.seg.hops.length ≤ 10000000) :
 Calls Tryz.prog 148 #[vt, I r, vl, vg] w fun e w' => ∃ v', e = .returned v' ∧ BeaconSO w.heap.size w'.heap.size w' v' (storeB t r l g) ∧ Ext w w' := by
 obtain ⟨At_0, nt_0, ct_0, At_1, nt_1, ct_1, rfl, st_0, st_1⟩ := id ht;obtain ⟨lt_0, kt_0, mt_0⟩ := st_0.len;subst lt_0;unfold maxLen at mt_0;obtain ⟨lt_1, kt_1, mt_1⟩ := st_1.len;subst lt_1;unfold maxLen at mt_1;have Rt := Lib.hid ht; clear ht;have St_0 := Lib.hid st_0; clear st_0;have St_1 := Lib.hid st_1; clear st_1;obtain ⟨Al, nl, cl, rfl, ll, kl, ml, -⟩ := id hl;subst ll;unfold maxLen at ml;have Rl := Lib.hid hl; clear hl;obtain ⟨Ag_3, ng_3, cg_3, rfl, sg_3⟩ := id hg;obtain ⟨lg_3, kg_3, mg_3⟩ := sg_3.len;subst lg_3;unfold maxLen at mg_3;have Rg := Lib.hid hg; clear hg;have Sg_3 := Lib.hid sg_3; clear sg_3;have hdl : l.length ≤ bcnTot l := totS_len (fun u : DBeacon => u.seg.hops.length) l
 go_enter Tryz.func148, Tryz.ntmps148
 go_wp2_with fail
 first | refine name_wp ?_ ?_ ?_ | refine name_calls ?_ ?_ ?_
 exact (fun W => Ext w W ∧ Blk W (w.heap.size) 27 [.slice At_0 t.ases.length ct_0, .slice At_1 t.links.length ct_1] ∧ Blk W (w.heap.size + 1) 78 [I g.ing, I g.seg.ts, I g.seg.beta, .slice Ag_3 g.seg.hops.length cg_3]);exact ⟨xe, xb, xb⟩;rintro w0 ⟨ew0, bt, bg⟩;have lt := bt.lt;obtain ⟨pt_0, pt_1⟩ := blk2 bt;have Bt := Lib.hid bt; clear bt;have lg := bg.lt;obtain ⟨pg_0, pg_1, pg_2, pg_3⟩ := blk4 bg;have Bg := Lib.hid bg; clear bg;refine (spec_l14Copy _ l _ (by exact Rl.out.ext xe) hn).mono ?_;rintro e w1 ⟨v1, rfl, o1, e1⟩;obtain ⟨A1, n1, c1, hv1, ln1, kc1, mc1, -⟩ := id (BeaconSO_rd o1 (Nat.le_refl _));subst hv1;subst ln1;have RC := Lib.hid (BeaconSO_rd o1 (Nat.le_refl _));have O1 := Lib.hid o1; clear o1;unfold maxLen at mc1;have zw0 := ew0.size; have zw1 := e1.size;have bt := Bt.out.ext (w' := w1) xe;have lt := bt.lt;obtain ⟨pt_0, pt_1⟩ := blk2 bt;clear bt;have bg := Bg.out.ext (w' := w1) xe;have lg := bg.lt;obtain ⟨pg_0, pg_1, pg_2, pg_3⟩ := blk4 bg;clear bg;go_wp2_with fail
 refine (spec_CanExtend _ _ r g.ing t g.seg _ (by exact Rt.out.ext xe) (by exact segV (Sg_3.out.ext xe)) (by omega)).mono ?_;rintro e w2 ⟨rfl, e2⟩;have bt := Bt.out.ext (w' := w2) xe;have lt := bt.lt;obtain ⟨pt_0, pt_1⟩ := blk2 bt;clear bt;have bg := Bg.out.ext (w' := w2) xe;have lg := bg.lt;obtain ⟨pg_0, pg_1, pg_2, pg_3⟩ := blk4 bg;clear bg;cases h1 : canExt t g.seg r g.ing
 · have HF : Hid (storeB t r l g = l) := by unfold Hid storeB; rw [h1]; rfl
   go_wp2_with fail
   go_ret
   exact ⟨_, rfl, by rw [HF.out]; exact NO.more (NO.up BeaconOC.keeps O1.out (w' := w2) xe (Nat.le_refl _)) (by omega) (Nat.le_refl _), xe⟩
 have H1 := Lib.hid h1; clear h1;go_wp2_with fail
 refine (spec_HasBeacon _ _ l g _ (by exact Rl.out.ext xe) (by exact Rg.out.ext xe)).mono ?_;rintro e w3 ⟨rfl, e3⟩;cases h2 : hasBcn l g
 rotate_left
 · have HF : Hid (storeB t r l g = l) := by unfold Hid storeB; rw [H1.out, h2]; rfl
   go_wp2_with fail
   go_ret
   exact ⟨_, rfl, by rw [HF.out]; exact NO.more (NO.up BeaconOC.keeps O1.out (w' := w3) xe (Nat.le_refl _)) (by omega) (Nat.le_refl _), xe⟩
 have HF : Hid (storeB t r l g = cut12 (insB l g)) := by unfold Hid storeB; rw [H1.out, h2]; rfl
 clear h2;go_wp2_with fail
 go_loopw [10] (fun i wr => ∃ k : Nat, k ≤ l.length ∧ i = I k ∧ (∀ j (h : j < l.length), j < k → pref g l[j] = false) ∧ Ext w3 wr) (fun i _ => l.length - (intOf i).toNat)
 case atStart => exact ⟨0, by omega, rfl, fun _ _ h => absurd h (by omega), Ext.refl _⟩
 case round =>
  obtain ⟨k, hk, rfl, hq, he⟩ := hrel;have HQ := Lib.hid hq; clear hq;have bt := Bt.out.ext (w' := wr) xe;have lt := bt.lt;obtain ⟨pt_0, pt_1⟩ := blk2 bt;clear bt;have bg := Bg.out.ext (w' := wr) xe;have lg := bg.lt;obtain ⟨pg_0, pg_1, pg_2, pg_3⟩ := blk4 bg;clear bg;by_cases hlt : k < l.length
  · obtain ⟨b, off, hA, hb, hkl, hc⟩ := (RC.out.ext (w' := wr) xe).at_ hlt
    have hyl : l[k].seg.hops.length ≤ bcnTot l := totS_get (fun u : DBeacon => u.seg.hops.length) l k hkl;have HX : Hid (pref g l[k] = true → prefIdx g l = k) := fun h => prefIdx_is hk HQ.out (fun _ => h)
    have HN : Hid (pref g l[k] = false → ∀ j (h : j < l.length), j < k + 1 → pref g l[j] = false) := fun h j hj hjk => by
     rcases Nat.lt_or_ge j k with h1 | h1
     · exact HQ.out j hj h1
     · have e : j = k := by omega
       subst e;exact h
    generalize l[k] = u at *
    have i5 : (0 : Int) ≤ (k : Int) := by omega
    have i6 : (k : Int) < (l.length : Int) := by omega
    subst hA;obtain ⟨Au_3, nu_3, cu_3, hu_0, hu_1, hu_2, hu_3, su_3⟩ := hc;obtain ⟨lu_3, ku_3, mu_3⟩ := su_3.len;subst lu_3;unfold maxLen at mu_3
    have Ru : Hid (BeaconV wr.heap.size wr (.agg #[I u.ing, I u.seg.ts, I u.seg.beta, .slice Au_3 u.seg.hops.length cu_3]) u) := ⟨_, _, _, rfl, su_3⟩
    have Su_3 := Lib.hid su_3; clear su_3
    generalize hpf : pref g u = pf at *
    have HPF := Lib.hid hpf; clear hpf;cases pf
    · have HN2 := Lib.hid (HN.out rfl)
      go_wp2_with fail
      refine wp_region_L (E := Ext) (w0 := wr) (G := fun τ => match τ with | 38 => some (fun v W => v = .bool false) | _ => none) Ext.refl (fun h k => Ext.trans h k) (by kernel_rfl) (by kernel_rfl) xg (Ext.drew (by exact Ext.refl _)) ?_
      repeat' (first
       | ((with_reducible refine wpL_skip ?_ ?_ ?_)
          · rfl
          · rfl
          simp only [putS])
       | ((with_reducible refine wpL_quiet ?_ ?_ ?_ ?_)
          · rfl
          · rfl
          · rfl
          apply Exists.intro
          refine ⟨fun W hW hS => ?_, ?_⟩
          · have hC := (Ext.facts hW).1
            go_simp
            first | done | (with_reducible rfl) | (rw [if_neg (by omega)]; exact ⟨rfl, rfl⟩) | rfl
          first | (with_reducible refine wpL_boolT ?_) | (with_reducible refine wpL_boolF ?_) | (with_reducible refine wpL_bool (fun hB => ?_) (fun hB => ?_)) | skip
          all_goals simp only [putS])
       | ((refine wpL_call ?_ rfl rfl ?_ ?_ ?_)
          · rfl
          · rfl
          · intro W hW hS
            have hC := (Ext.facts hW).1;unfold growAt
            go_simp
            simp only [growUpon]
            first | (go_at_call 159; (with_reducible refine Calls.mono (spec_Preferred _ _ g u _ (by exact Rg.out.ext xe) (by exact Ru.out.ext xe) (by omega) (by omega)) ?_); rintro e w9 ⟨rfl, e9⟩; exact ⟨_, rfl, e9, by rw [HPF.out]⟩)
          first | (with_reducible refine wpL_boolT ?_) | (with_reducible refine wpL_boolF ?_) | (with_reducible refine wpL_bool (fun hB => ?_) (fun hB => ?_)) | skip
          all_goals simp only [putS])
       | ((refine wpL_grow ?_ rfl rfl ?_ ?_)
          · rfl
          · intro W hW hS
            have hC := (Ext.facts hW).1;unfold growAt
            go_simp
            simp only [growUpon]
            first | (go_at_call 159; (with_reducible refine Calls.mono (spec_Preferred _ _ g u _ (by exact Rg.out.ext xe) (by exact Ru.out.ext xe) (by omega) (by omega)) ?_); rintro e w9 ⟨rfl, e9⟩; exact ⟨_, rfl, e9, by rw [HPF.out]⟩)
          intro v W' hW' hv
          first | (subst hv) | (obtain ⟨A5, n5, c5, rfl, -⟩ := id hv; clear hv) | (obtain ⟨A5, n5, c5, rfl⟩ := NO.slice hv) | skip
          all_goals simp only [putS]))
      refine wpL_nil (fun w4 e4 hL => ?_);clear hL;go_wp2_with fail
      go_roundw
      case rel => exact ⟨k + 1, by omega, by go_num, HN2.out, xe⟩
      case measure => simp [intOf]; omega
    · have HK := Lib.hid (HX.out rfl)
      go_wp2_with fail
      refine wp_region_L (E := Ext) (w0 := wr) (G := fun τ => match τ with | 38 => some (fun v W => v = .bool true) | _ => none) Ext.refl (fun h k => Ext.trans h k) (by kernel_rfl) (by kernel_rfl) xg (Ext.drew (by exact Ext.refl _)) ?_
      repeat' (first
       | ((with_reducible refine wpL_skip ?_ ?_ ?_)
          · rfl
          · rfl
          simp only [putS])
       | ((with_reducible refine wpL_quiet ?_ ?_ ?_ ?_)
          · rfl
          · rfl
          · rfl
          apply Exists.intro
          refine ⟨fun W hW hS => ?_, ?_⟩
          · have hC := (Ext.facts hW).1
            go_simp
            first | done | (with_reducible rfl) | (rw [if_neg (by omega)]; exact ⟨rfl, rfl⟩) | rfl
          first | (with_reducible refine wpL_boolT ?_) | (with_reducible refine wpL_boolF ?_) | (with_reducible refine wpL_bool (fun hB => ?_) (fun hB => ?_)) | skip
          all_goals simp only [putS])
       | ((refine wpL_call ?_ rfl rfl ?_ ?_ ?_)
          · rfl
          · rfl
          · intro W hW hS
            have hC := (Ext.facts hW).1;unfold growAt
            go_simp
            simp only [growUpon]
            first | (go_at_call 159; (with_reducible refine Calls.mono (spec_Preferred _ _ g u _ (by exact Rg.out.ext xe) (by exact Ru.out.ext xe) (by omega) (by omega)) ?_); rintro e w9 ⟨rfl, e9⟩; exact ⟨_, rfl, e9, by rw [HPF.out]⟩)
          first | (with_reducible refine wpL_boolT ?_) | (with_reducible refine wpL_boolF ?_) | (with_reducible refine wpL_bool (fun hB => ?_) (fun hB => ?_)) | skip
          all_goals simp only [putS])
       | ((refine wpL_grow ?_ rfl rfl ?_ ?_)
          · rfl
          · intro W hW hS
            have hC := (Ext.facts hW).1;unfold growAt
            go_simp
            simp only [growUpon]
            first | (go_at_call 159; (with_reducible refine Calls.mono (spec_Preferred _ _ g u _ (by exact Rg.out.ext xe) (by exact Ru.out.ext xe) (by omega) (by omega)) ?_); rintro e w9 ⟨rfl, e9⟩; exact ⟨_, rfl, e9, by rw [HPF.out]⟩)
          intro v W' hW' hv
          first | (subst hv) | (obtain ⟨A5, n5, c5, rfl, -⟩ := id hv; clear hv) | (obtain ⟨A5, n5, c5, rfl⟩ := NO.slice hv) | skip
          all_goals simp only [putS]))
      refine wpL_nil (fun w4 e4 hL => ?_);clear hL hu_0 hu_1 hu_2 hu_3 i5 i6
      have hkl0 : k ≤ l.length := by omega
      have hlk : (l.take k).length = k := by rw [List.length_take, Nat.min_eq_left hkl0]
      have bt := Bt.out.ext (w' := w4) xe;have lt := bt.lt;obtain ⟨pt_0, pt_1⟩ := blk2 bt;clear bt;have bg := Bg.out.ext (w' := w4) xe;have lg := bg.lt;obtain ⟨pg_0, pg_1, pg_2, pg_3⟩ := blk4 bg;clear bg;obtain ⟨cs, fp, hown, hol, hnd, hbd⟩ := NO.at' BeaconOC.keeps O1.out (w' := w4) xe;obtain ⟨f1, f2, c1', c2', rfl, rfl, ol1, ol2⟩ := OL.split (ds := l.take k) (ds2 := l.drop k) (by rw [List.take_append_drop]; exact hol)
      have hc1 : c1'.length = k * 4 := by rw [ol1.len, hlk]
      have HOWN := Lib.hid hown; have HOL1 := Lib.hid ol1; have HOL2 := Lib.hid ol2; have HND := Lib.hid (List.nodup_append.1 hnd).2.1; have HBD := Lib.hid hbd;clear hown hol hnd hbd ol1 ol2
      have i0 : (0 : Int) ≤ (k : Int) := by omega
      have i1 : (k : Int) ≤ (l.length : Int) := by omega
      have i2 : (k : Int) ≤ (c1 : Int) := by omega
      have zl : w1.heap.size ≤ w4.heap.size := Ext.size xe;go_wp2_with fail
      refine wp_region_LT 7 (E := Ext) (w0 := w4) (G := fun τ => match τ with | 47 => some (fun v W => SegmentO w4.heap.size W.heap.size W v g.seg) | 11 => some (fun v W => Zero1 78 w4.heap.size [I 0, I 0, I 0, .slice none 0 0] v W) | _ => none) Ext.refl (fun h k => Ext.trans h k) (by kernel_rfl) (by kernel_rfl) (by kernel_rfl) (by kernel_rfl) (by kernel_rfl) (by kernel_rfl) xg (Ext.drew (by exact Ext.refl _)) ?_;simp only [List.take_succ_cons, List.take_zero]
      repeat' (first
       | ((with_reducible refine wpL_skip ?_ ?_ ?_)
          · rfl
          · rfl
          simp only [putS])
       | ((with_reducible refine wpL_quiet ?_ ?_ ?_ ?_)
          · rfl
          · rfl
          · rfl
          apply Exists.intro
          refine ⟨fun W hW hS => ?_, ?_⟩
          · have hC := (Ext.facts hW).1
            go_simp
            first | done | (with_reducible rfl) | (rw [if_neg (by omega)]; exact ⟨rfl, rfl⟩) | rfl
          first | (with_reducible refine wpL_boolT ?_) | (with_reducible refine wpL_boolF ?_) | (with_reducible refine wpL_bool (fun hB => ?_) (fun hB => ?_)) | skip
          all_goals simp only [putS])
       | ((refine wpL_grow ?_ rfl rfl ?_ ?_)
          · rfl
          · intro W hW hS
            have hC := (Ext.facts hW).1;unfold growAt
            go_simp
            simp only [growUpon]
            first | (go_at_call 43; (with_reducible refine Calls.mono (spec_l9Copy _ g.seg _ (by exact segV (Sg_3.out.ext xe)) (by omega)) ?_); rintro e w9 ⟨v9, rfl, o9, e9⟩; exact ⟨_, rfl, e9, SegmentO.more o9 (Ext.size hW) (Nat.le_refl _)⟩) | (exact ⟨xe, _, rfl, Ext.size (by assumption), Blk.new _ _ _⟩)
          intro v W' hW' hv
          first | (obtain ⟨A8, n8, c8, rfl, -⟩ := SegmentO.vals hv) | (obtain ⟨g5, rfl, -⟩ := hv) | (obtain ⟨A5, n5, c5, rfl, -⟩ := id hv; clear hv) | (obtain ⟨A5, n5, c5, rfl⟩ := NO.slice hv) | skip
          all_goals simp only [putS]))
      refine wpL_nil (fun w5 ew5 hL => ?_);have o1 : BeaconO w4.heap.size w5.heap.size w5 (.agg #[I g.ing, I g.seg.ts, I g.seg.beta, .slice A8 n8 c8]) g := BeaconO.of_seg (ing := g.ing) (hL 47);have pz : Zero1 78 w4.heap.size [I 0, I 0, I 0, .slice none 0 0] _ w5 := hL 11;obtain ⟨gz, hgz, hgl, hbz⟩ := pz
      have hge : gz = g5 := by injection hgz with h; injection h with h; injection h with h1; exact h1.symm
      subst hge;clear hgz hL;have zw5 := ew5.size;have lz := hbz.lt;obtain ⟨yz_0, yz_1, yz_2, yz_3⟩ := blk4 hbz;have fz_0 := hbz.frozen 0;have fz_1 := hbz.frozen 1;have fz_2 := hbz.frozen 2;have fz_3 := hbz.frozen 3;have Zo1 := Lib.hid (BeaconO.setT (BeaconO.setT (BeaconO.setT (BeaconO.setT o1 hbz 0 (I g.ing)) (Blk.set_ hbz 0 (I g.ing)) 1 (I g.seg.ts)) (Blk.set_ (Blk.set_ hbz 0 (I g.ing)) 1 (I g.seg.ts)) 2 (I g.seg.beta)) (Blk.set_ (Blk.set_ (Blk.set_ hbz 0 (I g.ing)) 1 (I g.seg.ts)) 2 (I g.seg.beta)) 3 (.slice A8 n8 c8));have bt := Bt.out.ext (w' := w5) xe;have lt := bt.lt;obtain ⟨pt_0, pt_1⟩ := blk2 bt;clear bt;have bg := Bg.out.ext (w' := w5) xe;have lg := bg.lt;obtain ⟨pg_0, pg_1, pg_2, pg_3⟩ := blk4 bg;clear bg;have BW := Lib.hid (Blk.set_ (Blk.set_ (Blk.set_ (Blk.set_ hbz 0 (I g.ing)) 1 (I g.seg.ts)) 2 (I g.seg.beta)) 3 (.slice A8 n8 c8));clear hbz o1;simp only [List.drop_succ_cons, List.drop_zero];go_wp2_with fail
      clear yz_0 fz_0 yz_1 fz_1 yz_2 fz_2 yz_3 fz_3
      first | refine name_wp ?_ ?_ ?_ | refine name_calls ?_ ?_ ?_
      exact (fun W => Ext w4 W ∧ w5.heap.size = W.heap.size ∧ Blk W gz 78 [I g.ing, I g.seg.ts, I g.seg.beta, .slice A8 n8 c8] ∧ BeaconO w4.heap.size W.heap.size W (.agg #[I g.ing, I g.seg.ts, I g.seg.beta, .slice A8 n8 c8]) g);exact ⟨xe, (by simp only [World.size_setCell]), (by simpa using BW.out), (by (try simp only [World.size_setCell]); exact Zo1.out)⟩;clear BW Zo1;rintro w6 ⟨ew6, zw6, bz, o1⟩;have BZ := Lib.hid bz; clear bz;have Ho1 := Lib.hid o1; clear o1;have z65 : w4.heap.size ≤ w6.heap.size := ew6.size;have bz := BZ.out.ext (w' := w6) xe;have lbz := bz.lt;obtain ⟨qbz_0, qbz_1, qbz_2, qbz_3⟩ := blk4 bz;have fbz_0 := bz.frozen 0;have fbz_1 := bz.frozen 1;have fbz_2 := bz.frozen 2;have fbz_3 := bz.frozen 3;clear bz;have HOWN6 := Lib.hid (Own.ext HOWN.out (w' := w6) xe (by omega));clear HOWN;have HOWN := HOWN6; clear HOWN6;have HOL1b := Lib.hid (OL.keep BeaconOC.keeps HOL1.out (fun b _ hs => ew6.same b hs)); have HOL2b := Lib.hid (OL.keep BeaconOC.keeps HOL2.out (fun b _ hs => ew6.same b hs));clear HOL1 HOL2;have HOL1 := HOL1b; have HOL2 := HOL2b; clear HOL1b HOL2b;go_wp2_with fail
      refine wp_region_LS 7 11 _ (E := Ext) (w0 := w6) (G := fun τ => match τ with | 55 => some (fun v W => BeaconSO w4.heap.size W.heap.size W v [g]) | 53 => some (fun v W => Own 78 4 w6.heap.size W.heap.size W v k c1') | 49 => some (fun v W => Fresh0 78 w6.heap.size v W) | _ => none)  Ext.refl (fun h k => Ext.trans h k) (by kernel_rfl) (by kernel_rfl) rfl rfl (by kernel_rfl) (by kernel_rfl) (by kernel_rfl) (by kernel_rfl) (by kernel_rfl) (by kernel_rfl) (by kernel_rfl) (by kernel_rfl) (by intro oi hoi; simp only [List.take_succ_cons, List.take_zero, List.drop_succ_cons, List.drop_zero, List.mem_cons, List.not_mem_nil, or_false] at hoi; rcases hoi with rfl | rfl | rfl; (· exact ⟨rfl, rfl, by kernel_rfl, pure_move rfl⟩); (· exact ⟨rfl, rfl, by kernel_rfl, pure_move rfl⟩); (· exact ⟨rfl, rfl, by kernel_rfl, pure_slice rfl (by kernel_rfl) 4 size_Beacon⟩)) xg (Ext.drew (by exact Ext.refl _)) ?_;simp only [List.take_succ_cons, List.take_zero, List.drop_succ_cons, List.drop_zero, List.cons_append, List.nil_append]
      repeat' (first
       | ((with_reducible refine wpL_skip ?_ ?_ ?_)
          · rfl
          · rfl
          simp only [putS])
       | ((with_reducible refine wpL_quiet ?_ ?_ ?_ ?_)
          · rfl
          · rfl
          · rfl
          apply Exists.intro
          refine ⟨fun W hW hS => ?_, ?_⟩
          · have hC := (Ext.facts hW).1
            go_simp
            first | done | (with_reducible rfl) | (rw [if_neg (by omega)]; exact ⟨rfl, rfl⟩) | rfl
          first | (with_reducible refine wpL_boolT ?_) | (with_reducible refine wpL_boolF ?_) | (with_reducible refine wpL_bool (fun hB => ?_) (fun hB => ?_)) | skip
          all_goals simp only [putS])
       | ((refine wpL_grow ?_ rfl rfl ?_ ?_)
          · rfl
          · intro W hW hS
            first | (exact grow_app0 (.tmp 49) (.tmp 52) _ rfl 78 _ 4 48 Tryz.underlying74 info_Beacon rfl (by omega) w6.heap.size _ rfl (hS 49 (by decide)) _ _ _ c1' rfl (by exact row_part (Own.ext HOWN.out hW (by omega)) k hkl0 hc1) (HOL1.out.ones BeaconOC.one) (by unfold maxLen; omega) (by omega) (fun v1 w1 o1 => o1)) | skip
            all_goals have hC := (Ext.facts hW).1
            all_goals unfold growAt
            all_goals go_simp
            all_goals simp only [growUpon]
            all_goals first | (exact ⟨xe, BeaconO.single (BeaconO.up Ho1.out hW) (by have h5 := Ext.size hW; omega) rfl⟩) | (exact ⟨xe, Fresh0.new _ 78 _ _ rfl (Ext.size (by assumption))⟩)
          intro v W' hW' hv
          first | (obtain ⟨A9, n9, c9, rfl⟩ := NO.slice hv) | (obtain ⟨A5, n5, c5, rfl⟩ := Own.slice hv) | (obtain ⟨g5, rfl, -⟩ := hv) | (obtain ⟨A5, n5, c5, rfl, -⟩ := id hv; clear hv) | (obtain ⟨A5, n5, c5, rfl⟩ := NO.slice hv) | skip
          all_goals simp only [putS]))
      refine wpL_nil (fun w7 e7 hL => ?_);have o46 : Own 78 4 w6.heap.size w7.heap.size w7 (.slice A5 n5 c5) k c1' := hL 53;have n49 : BeaconSO w4.heap.size w7.heap.size w7 (.slice A9 n9 c9) [g] := hL 55;clear hL;have z7 := e7.size;obtain ⟨cs9, fx, hown9, hol9, hnd9, hbd9⟩ := n49;obtain ⟨hn9, hrow9⟩ := NO.row hown9;subst hn9;have O46 := Lib.hid o46; clear o46;have OL1 := Lib.hid (OL.keep BeaconOC.keeps HOL1.out (fun b _ hs => e7.same b hs));have TY1 := Lib.hid (own_typed O46.out (BeaconOC.typed _ (by decide)) OL1.out);have TY2 := Lib.hid (own_typed O46.out (BeaconOC.typed _ (by decide)) hol9);have HR9 := Lib.hid hrow9; have HOL9 := Lib.hid hol9; have HFX := Lib.hid (List.nodup_append.1 hnd9).2.1; have HBX := Lib.hid hbd9;clear hrow9 hol9 hnd9 hbd9 hown9
      try dsimp only
      refine onAt_pushX w6.heap.size BeaconOC.keeps BeaconOC.one (.tmp 53) (.tmp 55) _ rfl 78 _ 4 48 Tryz.underlying74 info_Beacon rfl (by omega) _ (l.take k) [g] c1' cs9 f1 fx rfl _ _ _ rfl (by rw [hlk]; exact O46.out) OL1.out TY1.out HR9.out HOL9.out TY2.out (by omega) (by rw [hlk]; simp only [List.length_singleton]; omega) (by omega) ?_;intro v8 w8 own8 ol8 hg8 _;have E8 := Lib.hid (Ext.grownB (a := w6) (w := w7) e7 O46.out hg8 (Nat.le_refl _));have z8 : w7.heap.size ≤ w8.heap.size := hg8.size;obtain ⟨a8, m8, q8, hv8⟩ := own8.slice;subst hv8;have OW8 := Lib.hid own8; have OL8 := Lib.hid ol8; clear own8 ol8 hg8;have HO8 := Lib.hid (Own.ext HOWN.out (w' := w8) E8.out (by omega));have OL2 := Lib.hid (OL.keep BeaconOC.keeps HOL2.out (fun b _ hs => E8.out.same b hs));have TY3 := Lib.hid (own_typed OW8.out (BeaconOC.typed _ (by decide)) OL8.out);have TY4 := Lib.hid (own_typed OW8.out (BeaconOC.typed _ (by decide)) OL2.out);have hld : (l.drop k).length = l.length - k := List.length_drop;go_wp2_with (at_builtin; refine hold ?_)
      all_goals
       refine unhold (wpList_pushX rfl w6.heap.size BeaconOC.keeps BeaconOC.one (.tmp 56) (.tmp 59) _ rfl 78 _ 4 48 Tryz.underlying74 info_Beacon rfl (by omega) _ (l.take k ++ [g]) (l.drop k) _ c2' _ f2 rfl _ _ _ rfl OW8.out OL8.out TY3.out (by first | exact row_rest_some HO8.out k (by omega) hc1 | exact row_rest_nil HO8.out k (by omega) hc1 | exact row_rest HO8.out k hkl0 hc1) OL2.out TY4.out (by omega) (by rw [List.length_append, hlk, hld]; simp only [List.length_singleton]; omega) (by omega) ?_);intro v9 w9 own9 ol9 hg9 _;have E9 := Lib.hid (Ext.grownB (a := w6) (w := w8) E8.out OW8.out hg9 (Nat.le_refl _));have z9 : w8.heap.size ≤ w9.heap.size := hg9.size;obtain ⟨a9, m9, q9, hv9⟩ := own9.slice;subst hv9;obtain ⟨hm9, -⟩ := NO.row own9;have hni := NO.insert (lo := w0.heap.size) (mid := w1.heap.size) (BeaconOC.typed _ (by decide)) own9 ol9 HND.out HFX.out HBD.out (fun b hb => by have := HBX.out b hb; omega) (by omega) (by omega) (by omega)
       have hins : l.take k ++ g :: l.drop k = insB l g := by unfold insB; rw [HK.out]
       rw [hins] at hni
       have hlen : ((l.take k ++ [g]) ++ l.drop k).length = l.length + 1 := by rw [List.length_append, List.length_append, hlk, hld]; simp only [List.length_singleton]; omega
       rw [hlen] at hm9;have hinl : (insB l g).length = l.length + 1 := insB_len l g;have NI := Lib.hid hni; clear hni own9 ol9 hg9;subst hm9;have e09 : Ext w w9 := Ext.trans xe E9.out;by_cases h12 : 12 < l.length + 1
       · have HC : Hid (storeB t r l g = (insB l g).take (l.length + 1 - 1)) := by unfold Hid; rw [HF.out]; unfold cut12; rw [hinl, if_pos h12]
         obtain ⟨-, g9, hg9, hq9, hnt⟩ := NO.takeN NI.out (l.length + 1 - 1) (by omega) (by omega);subst hg9;have NT := Lib.hid hnt; clear hnt
         have j1 : (12 : Int) < (l.length : Int) + 1 := by omega
         have j2 : (l.length : Int) + 1 ≤ (q9 : Int) := by have h := (NI.out); obtain ⟨cs, fp, ho, -⟩ := h; rcases ho.cases with ⟨e, -⟩ | ⟨g', cap, rest, e, -, -, -, -, hcap, -⟩; (· cases e); (· simp only [Value.slice.injEq] at e; omega)
         go_wp2_with fail
         go_ret
         refine ⟨_, rfl, ?_, e09⟩;rw [HC.out];have h := NO.more (lo' := w.heap.size) (hi' := w9.heap.size) NT.out (by omega) (Nat.le_refl _)
         first | exact h | (simpa using h)
       · have HC : Hid (storeB t r l g = insB l g) := by unfold Hid; rw [HF.out]; unfold cut12; rw [hinl, if_neg h12]
         have j1 : ¬ (12 : Int) < (l.length : Int) + 1 := by omega
         go_wp2_with fail
         go_ret
         exact ⟨_, rfl, by rw [HC.out]; exact NO.more (lo' := w.heap.size) NI.out (by omega) (Nat.le_refl _), e09⟩
  · have HK : Hid (prefIdx g l = k) := prefIdx_is hk HQ.out (fun h => absurd h hlt)
    have hge : (l.length : Int) ≤ (k : Int) := by omega
    go_wp2_with fail
    refine wp_region_L (E := Ext) (w0 := wr) (G := fun τ => match τ with | 0 => none | _ => none) Ext.refl (fun h k => Ext.trans h k) (by kernel_rfl) (by kernel_rfl) xg (Ext.drew (by exact Ext.refl _)) ?_
    repeat' (first
     | ((with_reducible refine wpL_skip ?_ ?_ ?_)
        · rfl
        · rfl
        simp only [putS])
     | ((with_reducible refine wpL_quiet ?_ ?_ ?_ ?_)
        · rfl
        · rfl
        · rfl
        apply Exists.intro
        refine ⟨fun W hW hS => ?_, ?_⟩
        · have hC := (Ext.facts hW).1
          go_simp
          first | done | (with_reducible rfl) | (rw [if_neg (by omega)]; exact ⟨rfl, rfl⟩) | rfl
        first | (with_reducible refine wpL_boolT ?_) | (with_reducible refine wpL_boolF ?_) | (with_reducible refine wpL_bool (fun hB => ?_) (fun hB => ?_)) | skip
        all_goals simp only [putS]))
    refine wpL_nil (fun w4 e4 hL => ?_);clear hL hge
    have hkl0 : k ≤ l.length := by omega
    have hlk : (l.take k).length = k := by rw [List.length_take, Nat.min_eq_left hkl0]
    have bt := Bt.out.ext (w' := w4) xe;have lt := bt.lt;obtain ⟨pt_0, pt_1⟩ := blk2 bt;clear bt;have bg := Bg.out.ext (w' := w4) xe;have lg := bg.lt;obtain ⟨pg_0, pg_1, pg_2, pg_3⟩ := blk4 bg;clear bg;obtain ⟨cs, fp, hown, hol, hnd, hbd⟩ := NO.at' BeaconOC.keeps O1.out (w' := w4) xe;obtain ⟨f1, f2, c1', c2', rfl, rfl, ol1, ol2⟩ := OL.split (ds := l.take k) (ds2 := l.drop k) (by rw [List.take_append_drop]; exact hol)
    have hc1 : c1'.length = k * 4 := by rw [ol1.len, hlk]
    have HOWN := Lib.hid hown; have HOL1 := Lib.hid ol1; have HOL2 := Lib.hid ol2; have HND := Lib.hid (List.nodup_append.1 hnd).2.1; have HBD := Lib.hid hbd;clear hown hol hnd hbd ol1 ol2
    have i0 : (0 : Int) ≤ (k : Int) := by omega
    have i1 : (k : Int) ≤ (l.length : Int) := by omega
    have i2 : (k : Int) ≤ (c1 : Int) := by omega
    have zl : w1.heap.size ≤ w4.heap.size := Ext.size xe;go_wp2_with fail
    refine wp_region_LT 7 (E := Ext) (w0 := w4) (G := fun τ => match τ with | 47 => some (fun v W => SegmentO w4.heap.size W.heap.size W v g.seg) | 11 => some (fun v W => Zero1 78 w4.heap.size [I 0, I 0, I 0, .slice none 0 0] v W) | _ => none) Ext.refl (fun h k => Ext.trans h k) (by kernel_rfl) (by kernel_rfl) (by kernel_rfl) (by kernel_rfl) (by kernel_rfl) (by kernel_rfl) xg (Ext.drew (by exact Ext.refl _)) ?_;simp only [List.take_succ_cons, List.take_zero]
    repeat' (first
     | ((with_reducible refine wpL_skip ?_ ?_ ?_)
        · rfl
        · rfl
        simp only [putS])
     | ((with_reducible refine wpL_quiet ?_ ?_ ?_ ?_)
        · rfl
        · rfl
        · rfl
        apply Exists.intro
        refine ⟨fun W hW hS => ?_, ?_⟩
        · have hC := (Ext.facts hW).1
          go_simp
          first | done | (with_reducible rfl) | (rw [if_neg (by omega)]; exact ⟨rfl, rfl⟩) | rfl
        first | (with_reducible refine wpL_boolT ?_) | (with_reducible refine wpL_boolF ?_) | (with_reducible refine wpL_bool (fun hB => ?_) (fun hB => ?_)) | skip
        all_goals simp only [putS])
     | ((refine wpL_grow ?_ rfl rfl ?_ ?_)
        · rfl
        · intro W hW hS
          have hC := (Ext.facts hW).1;unfold growAt
          go_simp
          simp only [growUpon]
          first | (go_at_call 43; (with_reducible refine Calls.mono (spec_l9Copy _ g.seg _ (by exact segV (Sg_3.out.ext xe)) (by omega)) ?_); rintro e w9 ⟨v9, rfl, o9, e9⟩; exact ⟨_, rfl, e9, SegmentO.more o9 (Ext.size hW) (Nat.le_refl _)⟩) | (exact ⟨xe, _, rfl, Ext.size (by assumption), Blk.new _ _ _⟩)
        intro v W' hW' hv
        first | (obtain ⟨A8, n8, c8, rfl, -⟩ := SegmentO.vals hv) | (obtain ⟨g5, rfl, -⟩ := hv) | (obtain ⟨A5, n5, c5, rfl, -⟩ := id hv; clear hv) | (obtain ⟨A5, n5, c5, rfl⟩ := NO.slice hv) | skip
        all_goals simp only [putS]))
    refine wpL_nil (fun w5 ew5 hL => ?_);have o1 : BeaconO w4.heap.size w5.heap.size w5 (.agg #[I g.ing, I g.seg.ts, I g.seg.beta, .slice A8 n8 c8]) g := BeaconO.of_seg (ing := g.ing) (hL 47);have pz : Zero1 78 w4.heap.size [I 0, I 0, I 0, .slice none 0 0] _ w5 := hL 11;obtain ⟨gz, hgz, hgl, hbz⟩ := pz
    have hge : gz = g5 := by injection hgz with h; injection h with h; injection h with h1; exact h1.symm
    subst hge;clear hgz hL;have zw5 := ew5.size;have lz := hbz.lt;obtain ⟨yz_0, yz_1, yz_2, yz_3⟩ := blk4 hbz;have fz_0 := hbz.frozen 0;have fz_1 := hbz.frozen 1;have fz_2 := hbz.frozen 2;have fz_3 := hbz.frozen 3;have Zo1 := Lib.hid (BeaconO.setT (BeaconO.setT (BeaconO.setT (BeaconO.setT o1 hbz 0 (I g.ing)) (Blk.set_ hbz 0 (I g.ing)) 1 (I g.seg.ts)) (Blk.set_ (Blk.set_ hbz 0 (I g.ing)) 1 (I g.seg.ts)) 2 (I g.seg.beta)) (Blk.set_ (Blk.set_ (Blk.set_ hbz 0 (I g.ing)) 1 (I g.seg.ts)) 2 (I g.seg.beta)) 3 (.slice A8 n8 c8));have bt := Bt.out.ext (w' := w5) xe;have lt := bt.lt;obtain ⟨pt_0, pt_1⟩ := blk2 bt;clear bt;have bg := Bg.out.ext (w' := w5) xe;have lg := bg.lt;obtain ⟨pg_0, pg_1, pg_2, pg_3⟩ := blk4 bg;clear bg;have BW := Lib.hid (Blk.set_ (Blk.set_ (Blk.set_ (Blk.set_ hbz 0 (I g.ing)) 1 (I g.seg.ts)) 2 (I g.seg.beta)) 3 (.slice A8 n8 c8));clear hbz o1;simp only [List.drop_succ_cons, List.drop_zero];go_wp2_with fail
    clear yz_0 fz_0 yz_1 fz_1 yz_2 fz_2 yz_3 fz_3
    first | refine name_wp ?_ ?_ ?_ | refine name_calls ?_ ?_ ?_
    exact (fun W => Ext w4 W ∧ w5.heap.size = W.heap.size ∧ Blk W gz 78 [I g.ing, I g.seg.ts, I g.seg.beta, .slice A8 n8 c8] ∧ BeaconO w4.heap.size W.heap.size W (.agg #[I g.ing, I g.seg.ts, I g.seg.beta, .slice A8 n8 c8]) g);exact ⟨xe, (by simp only [World.size_setCell]), (by simpa using BW.out), (by (try simp only [World.size_setCell]); exact Zo1.out)⟩;clear BW Zo1;rintro w6 ⟨ew6, zw6, bz, o1⟩;have BZ := Lib.hid bz; clear bz;have Ho1 := Lib.hid o1; clear o1;have z65 : w4.heap.size ≤ w6.heap.size := ew6.size;have bz := BZ.out.ext (w' := w6) xe;have lbz := bz.lt;obtain ⟨qbz_0, qbz_1, qbz_2, qbz_3⟩ := blk4 bz;have fbz_0 := bz.frozen 0;have fbz_1 := bz.frozen 1;have fbz_2 := bz.frozen 2;have fbz_3 := bz.frozen 3;clear bz;have HOWN6 := Lib.hid (Own.ext HOWN.out (w' := w6) xe (by omega));clear HOWN;have HOWN := HOWN6; clear HOWN6;have HOL1b := Lib.hid (OL.keep BeaconOC.keeps HOL1.out (fun b _ hs => ew6.same b hs)); have HOL2b := Lib.hid (OL.keep BeaconOC.keeps HOL2.out (fun b _ hs => ew6.same b hs));clear HOL1 HOL2;have HOL1 := HOL1b; have HOL2 := HOL2b; clear HOL1b HOL2b;go_wp2_with fail
    refine wp_region_LS 7 11 _ (E := Ext) (w0 := w6) (G := fun τ => match τ with | 55 => some (fun v W => BeaconSO w4.heap.size W.heap.size W v [g]) | 53 => some (fun v W => Own 78 4 w6.heap.size W.heap.size W v k c1') | 49 => some (fun v W => Fresh0 78 w6.heap.size v W) | _ => none)  Ext.refl (fun h k => Ext.trans h k) (by kernel_rfl) (by kernel_rfl) rfl rfl (by kernel_rfl) (by kernel_rfl) (by kernel_rfl) (by kernel_rfl) (by kernel_rfl) (by kernel_rfl) (by kernel_rfl) (by kernel_rfl) (by intro oi hoi; simp only [List.take_succ_cons, List.take_zero, List.drop_succ_cons, List.drop_zero, List.mem_cons, List.not_mem_nil, or_false] at hoi; rcases hoi with rfl | rfl | rfl; (· exact ⟨rfl, rfl, by kernel_rfl, pure_move rfl⟩); (· exact ⟨rfl, rfl, by kernel_rfl, pure_move rfl⟩); (· exact ⟨rfl, rfl, by kernel_rfl, pure_slice rfl (by kernel_rfl) 4 size_Beacon⟩)) xg (Ext.drew (by exact Ext.refl _)) ?_;simp only [List.take_succ_cons, List.take_zero, List.drop_succ_cons, List.drop_zero, List.cons_append, List.nil_append]
    repeat' (first
     | ((with_reducible refine wpL_skip ?_ ?_ ?_)
        · rfl
        · rfl
        simp only [putS])
     | ((with_reducible refine wpL_quiet ?_ ?_ ?_ ?_)
        · rfl
        · rfl
        · rfl
        apply Exists.intro
        refine ⟨fun W hW hS => ?_, ?_⟩
        · have hC := (Ext.facts hW).1
          go_simp
          first | done | (with_reducible rfl) | (rw [if_neg (by omega)]; exact ⟨rfl, rfl⟩) | rfl
        first | (with_reducible refine wpL_boolT ?_) | (with_reducible refine wpL_boolF ?_) | (with_reducible refine wpL_bool (fun hB => ?_) (fun hB => ?_)) | skip
        all_goals simp only [putS])
     | ((refine wpL_grow ?_ rfl rfl ?_ ?_)
        · rfl
        · intro W hW hS
          first | (exact grow_app0 (.tmp 49) (.tmp 52) _ rfl 78 _ 4 48 Tryz.underlying74 info_Beacon rfl (by omega) w6.heap.size _ rfl (hS 49 (by decide)) _ _ _ c1' rfl (by exact row_part (Own.ext HOWN.out hW (by omega)) k hkl0 hc1) (HOL1.out.ones BeaconOC.one) (by unfold maxLen; omega) (by omega) (fun v1 w1 o1 => o1)) | skip
          all_goals have hC := (Ext.facts hW).1
          all_goals unfold growAt
          all_goals go_simp
          all_goals simp only [growUpon]
          all_goals first | (exact ⟨xe, BeaconO.single (BeaconO.up Ho1.out hW) (by have h5 := Ext.size hW; omega) rfl⟩) | (exact ⟨xe, Fresh0.new _ 78 _ _ rfl (Ext.size (by assumption))⟩)
        intro v W' hW' hv
        first | (obtain ⟨A9, n9, c9, rfl⟩ := NO.slice hv) | (obtain ⟨A5, n5, c5, rfl⟩ := Own.slice hv) | (obtain ⟨g5, rfl, -⟩ := hv) | (obtain ⟨A5, n5, c5, rfl, -⟩ := id hv; clear hv) | (obtain ⟨A5, n5, c5, rfl⟩ := NO.slice hv) | skip
        all_goals simp only [putS]))
    refine wpL_nil (fun w7 e7 hL => ?_);have o46 : Own 78 4 w6.heap.size w7.heap.size w7 (.slice A5 n5 c5) k c1' := hL 53;have n49 : BeaconSO w4.heap.size w7.heap.size w7 (.slice A9 n9 c9) [g] := hL 55;clear hL;have z7 := e7.size;obtain ⟨cs9, fx, hown9, hol9, hnd9, hbd9⟩ := n49;obtain ⟨hn9, hrow9⟩ := NO.row hown9;subst hn9;have O46 := Lib.hid o46; clear o46;have OL1 := Lib.hid (OL.keep BeaconOC.keeps HOL1.out (fun b _ hs => e7.same b hs));have TY1 := Lib.hid (own_typed O46.out (BeaconOC.typed _ (by decide)) OL1.out);have TY2 := Lib.hid (own_typed O46.out (BeaconOC.typed _ (by decide)) hol9);have HR9 := Lib.hid hrow9; have HOL9 := Lib.hid hol9; have HFX := Lib.hid (List.nodup_append.1 hnd9).2.1; have HBX := Lib.hid hbd9;clear hrow9 hol9 hnd9 hbd9 hown9
    try dsimp only
    refine onAt_pushX w6.heap.size BeaconOC.keeps BeaconOC.one (.tmp 53) (.tmp 55) _ rfl 78 _ 4 48 Tryz.underlying74 info_Beacon rfl (by omega) _ (l.take k) [g] c1' cs9 f1 fx rfl _ _ _ rfl (by rw [hlk]; exact O46.out) OL1.out TY1.out HR9.out HOL9.out TY2.out (by omega) (by rw [hlk]; simp only [List.length_singleton]; omega) (by omega) ?_;intro v8 w8 own8 ol8 hg8 _;have E8 := Lib.hid (Ext.grownB (a := w6) (w := w7) e7 O46.out hg8 (Nat.le_refl _));have z8 : w7.heap.size ≤ w8.heap.size := hg8.size;obtain ⟨a8, m8, q8, hv8⟩ := own8.slice;subst hv8;have OW8 := Lib.hid own8; have OL8 := Lib.hid ol8; clear own8 ol8 hg8;have HO8 := Lib.hid (Own.ext HOWN.out (w' := w8) E8.out (by omega));have OL2 := Lib.hid (OL.keep BeaconOC.keeps HOL2.out (fun b _ hs => E8.out.same b hs));have TY3 := Lib.hid (own_typed OW8.out (BeaconOC.typed _ (by decide)) OL8.out);have TY4 := Lib.hid (own_typed OW8.out (BeaconOC.typed _ (by decide)) OL2.out);have hld : (l.drop k).length = l.length - k := List.length_drop;go_wp2_with (at_builtin; refine hold ?_)
    all_goals
     refine unhold (wpList_pushX rfl w6.heap.size BeaconOC.keeps BeaconOC.one (.tmp 56) (.tmp 59) _ rfl 78 _ 4 48 Tryz.underlying74 info_Beacon rfl (by omega) _ (l.take k ++ [g]) (l.drop k) _ c2' _ f2 rfl _ _ _ rfl OW8.out OL8.out TY3.out (by first | exact row_rest_some HO8.out k (by omega) hc1 | exact row_rest_nil HO8.out k (by omega) hc1 | exact row_rest HO8.out k hkl0 hc1) OL2.out TY4.out (by omega) (by rw [List.length_append, hlk, hld]; simp only [List.length_singleton]; omega) (by omega) ?_);intro v9 w9 own9 ol9 hg9 _;have E9 := Lib.hid (Ext.grownB (a := w6) (w := w8) E8.out OW8.out hg9 (Nat.le_refl _));have z9 : w8.heap.size ≤ w9.heap.size := hg9.size;obtain ⟨a9, m9, q9, hv9⟩ := own9.slice;subst hv9;obtain ⟨hm9, -⟩ := NO.row own9;have hni := NO.insert (lo := w0.heap.size) (mid := w1.heap.size) (BeaconOC.typed _ (by decide)) own9 ol9 HND.out HFX.out HBD.out (fun b hb => by have := HBX.out b hb; omega) (by omega) (by omega) (by omega)
     have hins : l.take k ++ g :: l.drop k = insB l g := by unfold insB; rw [HK.out]
     rw [hins] at hni
     have hlen : ((l.take k ++ [g]) ++ l.drop k).length = l.length + 1 := by rw [List.length_append, List.length_append, hlk, hld]; simp only [List.length_singleton]; omega
     rw [hlen] at hm9;have hinl : (insB l g).length = l.length + 1 := insB_len l g;have NI := Lib.hid hni; clear hni own9 ol9 hg9;subst hm9;have e09 : Ext w w9 := Ext.trans xe E9.out;by_cases h12 : 12 < l.length + 1
     · have HC : Hid (storeB t r l g = (insB l g).take (l.length + 1 - 1)) := by unfold Hid; rw [HF.out]; unfold cut12; rw [hinl, if_pos h12]
       obtain ⟨-, g9, hg9, hq9, hnt⟩ := NO.takeN NI.out (l.length + 1 - 1) (by omega) (by omega);subst hg9;have NT := Lib.hid hnt; clear hnt
       have j1 : (12 : Int) < (l.length : Int) + 1 := by omega
       have j2 : (l.length : Int) + 1 ≤ (q9 : Int) := by have h := (NI.out); obtain ⟨cs, fp, ho, -⟩ := h; rcases ho.cases with ⟨e, -⟩ | ⟨g', cap, rest, e, -, -, -, -, hcap, -⟩; (· cases e); (· simp only [Value.slice.injEq] at e; omega)
       go_wp2_with fail
       go_ret
       refine ⟨_, rfl, ?_, e09⟩;rw [HC.out];have h := NO.more (lo' := w.heap.size) (hi' := w9.heap.size) NT.out (by omega) (Nat.le_refl _)
       first | exact h | (simpa using h)
     · have HC : Hid (storeB t r l g = insB l g) := by unfold Hid; rw [HF.out]; unfold cut12; rw [hinl, if_neg h12]
       have j1 : ¬ (12 : Int) < (l.length : Int) + 1 := by omega
       go_wp2_with fail
       go_ret
       exact ⟨_, rfl, by rw [HC.out]; exact NO.more (lo' := w.heap.size) NI.out (by omega) (Nat.le_refl _), e09⟩
end Go.Proofs.YtmopmgaeiokfjaaGreat
