/- Contracts of the program's and the reference's functions on the segment database: put, AddSegment. Printed by scripts/g16k.py. -/
import Derived.Test.YtmopmgaeiokfjaaGreatGL16i
import Derived.Test.YtmopmgaeiokfjaaGreatGL10c
import Derived.Test.YtmopmgaeiokfjaaGreatGHD
import Derived.Test.YtmopmgaeiokfjaaGreatGL14c
import Derived.Test.YtmopmgaeiokfjaaGreatGGrow
import Derived.Test.YtmopmgaeiokfjaaGreatGGrowU
import Derived.Test.YtmopmgaeiokfjaaGreatL15c
import Derived.Test.YtmopmgaeiokfjaaGreatL13f
import Derived.Test.YtmopmgaeiokfjaaGreatGL13
set_option maxRecDepth 100000
set_option maxHeartbeats 1000000
namespace Go.Proofs.YtmopmgaeiokfjaaGreat
open Go.RowKit
set_option linter.unusedVariables false
theorem own_off {T sz lo hi n g T' : Nat} {w : World} {v : Value} {cs cs' : List Value} (hv : Own T sz lo hi w v n cs) (hb : Blk w g T' cs') (hne : T ≠ T') : v.ownBlock ≠ some g := fun e => ownsRow_typed hv.1 hb hne (by simp [e])
theorem nodup_grow {A F B N V : List Nat} {m z : Nat} (hn : ((A ++ F) ++ B).Nodup) (hm : ∀ b ∈ (A ++ F) ++ B, b < m) (hN : N.Nodup) (hN2 : ∀ b ∈ N, m ≤ b ∧ b < z) (hmz : m ≤ z) (hV : V = A ∨ V = [z]) : ((V ++ (F ++ N)) ++ B).Nodup := by
 have h1 := List.nodup_append.1 hn;have h2 := List.nodup_append.1 h1.1;have hA : ∀ b ∈ A, b < m := fun b hb => hm b (List.mem_append_left _ (List.mem_append_left _ hb));have hF : ∀ b ∈ F, b < m := fun b hb => hm b (List.mem_append_left _ (List.mem_append_right _ hb));have hB : ∀ b ∈ B, b < m := fun b hb => hm b (List.mem_append_right _ hb)
 have hV2 : V.Nodup ∧ (∀ a ∈ V, ∀ b ∈ F ++ N, a ≠ b) ∧ ∀ a ∈ V, ∀ b ∈ B, a ≠ b := by
  rcases hV with rfl | rfl
  · refine ⟨h2.1, fun a ha b hb e => ?_, fun a ha b hb => h1.2.2 a (List.mem_append_left _ ha) b hb⟩
    rcases List.mem_append.1 hb with hb | hb
    · exact h2.2.2 a ha b hb e
    · have := hA a ha; have := hN2 b hb; omega
  · refine ⟨by simp, fun a ha b hb e => ?_, fun a ha b hb e => ?_⟩
    · have ha : a = z := by simpa using ha
      rcases List.mem_append.1 hb with hb | hb
      · have := hF b hb; omega
      · have := hN2 b hb; omega
    · have ha : a = z := by simpa using ha
      have := hB b hb; omega
 refine List.nodup_append.2 ⟨List.nodup_append.2 ⟨hV2.1, List.nodup_append.2 ⟨h2.2.1, hN, fun a ha b hb e => ?_⟩, hV2.2.1⟩, h1.2.1, fun a ha b hb e => ?_⟩
 · have := hF a ha; have := hN2 b hb; omega
 · rcases List.mem_append.1 ha with ha | ha
   · exact hV2.2.2 a ha b hb e
   · rcases List.mem_append.1 ha with ha | ha
     · exact h1.2.2 a (List.mem_append_right _ ha) b hb e
     · have := hN2 a ha; have := hB b hb; omega
theorem nodup_comm {A B : List Nat} (h : (A ++ B).Nodup) : (B ++ A).Nodup := by
 have h1 := List.nodup_append.1 h;exact List.nodup_append.2 ⟨h1.2.1, h1.1, fun a ha b hb e => h1.2.2 b hb a ha e.symm⟩
structure DbOpen (lo m : Nat) (w : World) (u0 u1 : Value) (x : DSegmentDatabase) (cs0 cs1 : List Value) (f0 f1 : List Nat) : Prop where
 r0 : w.ownsRow 0 33 3 u0 x.down.length cs0
 l0 : OL SegmentOC 3 w x.down f0 cs0
 r1 : w.ownsRow 0 33 3 u1 x.core.length cs1
 l1 : OL SegmentOC 3 w x.core f1 cs1
 hn : (dbFp u0 u1 f0 f1).Nodup
 hb : ∀ b ∈ dbFp u0 u1 f0 f1, lo ≤ b ∧ b < m
 hl : lo ≤ m
theorem SegmentDatabaseQ.opened {lo m : Nat} {w : World} {u0 u1 : Value} {x : DSegmentDatabase} (h : SegmentDatabaseQ lo m w (.agg #[u0, u1]) x) : ∃ cs0 cs1 f0 f1, DbOpen lo m w u0 u1 x cs0 cs1 f0 f1 := by
 obtain ⟨v0, cs0, f0, v1, cs1, f1, e, r0, l0, r1, l1, hn, hb, hl⟩ := h;have e2 := congrArg Array.toList (Value.agg.inj e);simp only [List.cons.injEq, and_true] at e2;obtain ⟨rfl, rfl⟩ := e2;exact ⟨cs0, cs1, f0, f1, r0, l0, r1, l1, hn, hb, hl⟩
section
variable {lo m : Nat} {w w' : World} {u0 u1 v' : Value} {x : DSegmentDatabase} {s : DSegment} {cs0 cs1 cs2 : List Value} {f0 f1 f2 : List Nat}
theorem DbOpen.keep (h : DbOpen lo m w u0 u1 x cs0 cs1 f0 f1) (he : Ext w w') : DbOpen lo m w' u0 u1 x cs0 cs1 f0 f1 :=
 ⟨ownsRow_keep h.r0 (fun b _ hs => he.same b hs), h.l0.keep SegmentOC.keeps (fun b _ hs => he.same b hs), ownsRow_keep h.r1 (fun b _ hs => he.same b hs), h.l1.keep SegmentOC.keeps (fun b _ hs => he.same b hs), h.hn, h.hb, h.hl⟩
theorem DbOpen.own0 (h : DbOpen lo m w u0 u1 x cs0 cs1 f0 f1) (hm : m ≤ w.heap.size) : Own 33 3 lo w.heap.size w u0 x.down.length cs0 := Own.of_row h.r0 fun b hb => by
 have := h.hb b (List.mem_append_left _ (List.mem_append_left _ hb)); omega
theorem DbOpen.own1 (h : DbOpen lo m w u0 u1 x cs0 cs1 f0 f1) (hm : m ≤ w.heap.size) : Own 33 3 lo w.heap.size w u1 x.core.length cs1 := Own.of_row h.r1 fun b hb => by
 have := h.hb b (List.mem_append_right _ (List.mem_append_left _ hb)); omega
theorem DbOpen.ne0 (h : DbOpen lo m w u0 u1 x cs0 cs1 f0 f1) : ∀ b ∈ f0, u0.ownBlock ≠ some b := fun b hb e => (List.nodup_append.1 (List.nodup_append.1 h.hn).1).2.2 b (by simp [e]) b hb rfl
theorem DbOpen.ne1 (h : DbOpen lo m w u0 u1 x cs0 cs1 f0 f1) : ∀ b ∈ f1, u1.ownBlock ≠ some b := fun b hb e => (List.nodup_append.1 (List.nodup_append.1 h.hn).2.1).2.2 b (by simp [e]) b hb rfl
theorem DbOpen.new0 (h : DbOpen lo m w u0 u1 x cs0 cs1 f0 f1) (hb2 : ∀ b ∈ f2, m ≤ b ∧ b < w.heap.size) : ∀ b ∈ f2, u0.ownBlock ≠ some b := fun b hb e => by
 have h1 := h.hb b (List.mem_append_left _ (List.mem_append_left _ (by simp [e]))); have h2 := hb2 b hb; omega
theorem DbOpen.new1 (h : DbOpen lo m w u0 u1 x cs0 cs1 f0 f1) (hb2 : ∀ b ∈ f2, m ≤ b ∧ b < w.heap.size) : ∀ b ∈ f2, u1.ownBlock ≠ some b := fun b hb e => by
 have h1 := h.hb b (List.mem_append_right _ (List.mem_append_left _ (by simp [e]))); have h2 := hb2 b hb; omega
theorem DbOpen.push0 (h : DbOpen lo m w u0 u1 x cs0 cs1 f0 f1) (hm : m ≤ w.heap.size) (hn2 : f2.Nodup) (hb2 : ∀ b ∈ f2, m ≤ b ∧ b < w.heap.size)
 (own : Own 33 3 lo w'.heap.size w' v' (x.down ++ [s]).length (cs0 ++ cs2)) (ol : OL SegmentOC 3 w' (x.down ++ [s]) (f0 ++ f2) (cs0 ++ cs2)) (hg : w.grownBy w' u0.ownBlock) (hv : v'.ownBlock = u0.ownBlock ∨ v'.ownBlock = some w.heap.size) :
 SegmentDatabaseQ lo w'.heap.size w' (.agg #[v', u1]) ⟨x.down ++ [s], x.core⟩ := by
 obtain ⟨r0, l0, r1, l1, hn, hb, hl⟩ := h;have z := hg.size;unfold dbFp at hn hb;have hk : ∀ b ∈ u1.ownBlock.toList ++ f1, b < w.heap.size → w'.heap[b]? = w.heap[b]? := fun b hbm hs => hg.block b hs (fun e => (List.nodup_append.1 hn).2.2 b (List.mem_append_left _ (by rw [← e]; simp)) b hbm rfl);refine ⟨v', _, f0 ++ f2, u1, cs1, f1, rfl, (own.more (Nat.zero_le _) (Nat.le_refl _)).1, ol, ownsRow_keep r1 (fun b hbm hs => hk b (List.mem_append_left _ hbm) hs), l1.keep SegmentOC.keeps (fun b hbm hs => hk b (List.mem_append_right _ hbm) hs), ?_, ?_, by omega⟩
 · exact nodup_grow (z := w.heap.size) hn (fun b hb' => (hb b hb').2) hn2 hb2 hm (by rcases hv with h | h <;> simp [h])
 · intro b hbm
   unfold dbFp at hbm
   rcases List.mem_append.1 hbm with hbm | hbm
   · rcases List.mem_append.1 hbm with hbm | hbm
     · have hbm : v'.ownBlock = some b := by simpa using hbm
       exact ⟨(own.1.lt b hbm).1, own.2 b hbm⟩
     · rcases List.mem_append.1 hbm with hbm | hbm
       · have := hb b (List.mem_append_left _ (List.mem_append_right _ hbm)); omega
       · have := hb2 b hbm; omega
   · have := hb b (List.mem_append_right _ hbm); omega
theorem DbOpen.push1 (h : DbOpen lo m w u0 u1 x cs0 cs1 f0 f1) (hm : m ≤ w.heap.size) (hn2 : f2.Nodup) (hb2 : ∀ b ∈ f2, m ≤ b ∧ b < w.heap.size)
 (own : Own 33 3 lo w'.heap.size w' v' (x.core ++ [s]).length (cs1 ++ cs2)) (ol : OL SegmentOC 3 w' (x.core ++ [s]) (f1 ++ f2) (cs1 ++ cs2)) (hg : w.grownBy w' u1.ownBlock) (hv : v'.ownBlock = u1.ownBlock ∨ v'.ownBlock = some w.heap.size) :
 SegmentDatabaseQ lo w'.heap.size w' (.agg #[u0, v']) ⟨x.down, x.core ++ [s]⟩ := by
 obtain ⟨r0, l0, r1, l1, hn, hb, hl⟩ := h;have z := hg.size;unfold dbFp at hn hb;have hk : ∀ b ∈ u0.ownBlock.toList ++ f0, b < w.heap.size → w'.heap[b]? = w.heap[b]? := fun b hbm hs => hg.block b hs (fun e => (List.nodup_append.1 hn).2.2 b hbm b (List.mem_append_left _ (by rw [← e]; simp)) rfl);refine ⟨u0, cs0, f0, v', _, f1 ++ f2, rfl, ownsRow_keep r0 (fun b hbm hs => hk b (List.mem_append_left _ hbm) hs), l0.keep SegmentOC.keeps (fun b hbm hs => hk b (List.mem_append_right _ hbm) hs), (own.more (Nat.zero_le _) (Nat.le_refl _)).1, ol, ?_, ?_, by omega⟩
 · have hn3 := nodup_grow (z := w.heap.size) (V := v'.ownBlock.toList) (nodup_comm hn) (fun b hb' => (hb b (by rcases List.mem_append.1 hb' with h | h; exact List.mem_append_right _ h; exact List.mem_append_left _ h)).2) hn2 hb2 hm (by rcases hv with h | h <;> simp [h])
   exact nodup_comm hn3
 · intro b hbm
   unfold dbFp at hbm
   rcases List.mem_append.1 hbm with hbm | hbm
   · have := hb b (List.mem_append_left _ hbm); omega
   · rcases List.mem_append.1 hbm with hbm | hbm
     · have hbm : v'.ownBlock = some b := by simpa using hbm
       exact ⟨(own.1.lt b hbm).1, own.2 b hbm⟩
     · rcases List.mem_append.1 hbm with hbm | hbm
       · have := hb b (List.mem_append_right _ (List.mem_append_right _ hbm)); omega
       · have := hb2 b hbm; omega
end
theorem impl_put (g : Nat) (vt vs : Value) (A0 A1 : Option Addr) (n0 c0 n1 c1 : Nat) (t : DTopology) (x : DSegmentDatabase) (s : DSegment) (lo m : Nat) (w : World) (ht : TopologyV w.heap.size w vt t) (hs : SegmentV w.heap.size w vs s) (hso : SegmentO m w.heap.size w vs s) (hb : Blk w g 30 [.slice A0 n0 c0, .slice A1 n1 c1]) (hx : SegmentDatabaseQ lo m w (.agg #[.slice A0 n0 c0, .slice A1 n1 c1]) x) (hm : m ≤ w.heap.size) (hn : dbTot x ≤ 100000000) :
 Calls Tryz.prog 35 #[.pointer (some ⟨g, 0, none⟩), vt, vs] w fun e w' => e = .returned (.tuple #[]) ∧ (∃ A0' n0' c0' A1' n1' c1', Blk w' g 30 [.slice A0' n0' c0', .slice A1' n1' c1'] ∧ SegmentDatabaseQ lo w'.heap.size w' (.agg #[.slice A0' n0' c0', .slice A1' n1' c1']) (dbPut t x s)) ∧ ∀ a, Ext a w → a.heap.size ≤ g → a.heap.size ≤ lo → Ext a w' := by
 obtain ⟨At_0, nt_0, ct_0, At_1, nt_1, ct_1, rfl, st_0, st_1⟩ := id ht;obtain ⟨lt_0, kt_0, mt_0⟩ := st_0.len;subst lt_0;unfold maxLen at mt_0;obtain ⟨lt_1, kt_1, mt_1⟩ := st_1.len;subst lt_1;unfold maxLen at mt_1;have Rt := Lib.hid ht; clear ht;have St_0 := Lib.hid st_0; clear st_0;have St_1 := Lib.hid st_1; clear st_1;obtain ⟨As_2, ns_2, cs_2, rfl, ss_2⟩ := id hs;obtain ⟨ls_2, ks_2, ms_2⟩ := ss_2.len;subst ls_2;unfold maxLen at ms_2;have Rs := Lib.hid hs; clear hs;have Ss_2 := Lib.hid ss_2; clear ss_2;obtain ⟨cs0, cs1, f0, f1, hop⟩ := hx.opened;have HOP := Lib.hid hop; have HB := Lib.hid hb; have HSO := Lib.hid hso; clear hop hx hso hb
 have hdl : x.down.length ≤ 100000000 ∧ x.core.length ≤ 100000000 := by
  have h1 := totS_len (fun u : DSegment => u.hops.length) x.down;have h2 := totS_len (fun u : DSegment => u.hops.length) x.core;unfold dbTot segTot at hn;omega
 obtain ⟨hd0, hd1⟩ := hdl
 go_enter Tryz.func35, Tryz.ntmps35
 go_wp2_with fail
 first | refine name_wp ?_ ?_ ?_ | refine name_calls ?_ ?_ ?_
 exact (fun W => Ext w W ∧ Blk W (w.heap.size) 27 [.slice At_0 t.ases.length ct_0, .slice At_1 t.links.length ct_1] ∧ Blk W (w.heap.size + 1) 33 [I s.ts, I s.beta, .slice As_2 s.hops.length cs_2]);exact ⟨xe, xb, xb⟩;rintro w0 ⟨ew0, bt, bs⟩;have lt := bt.lt;obtain ⟨pt_0, pt_1⟩ := blk2 bt;have Bt := Lib.hid bt; clear bt;have ls := bs.lt;obtain ⟨ps_0, ps_1, ps_2⟩ := blk3 bs;have Bs := Lib.hid bs; clear bs;refine (impl_SegmentKind _ _ (t) (s) _ (by exact Rt.out.ext xe) (by exact Rs.out.ext xe)).mono ?_;rintro e w1 ⟨rfl, ew1⟩;have bt := Bt.out.ext (w' := w1) xe;have lt := bt.lt;obtain ⟨pt_0, pt_1⟩ := blk2 bt;clear bt;have bs := Bs.out.ext (w' := w1) xe;have ls := bs.lt;obtain ⟨ps_0, ps_1, ps_2⟩ := blk3 bs;clear bs;have zz0 := ew0.size; have zz1 := ew1.size;have b1 := HB.out.ext (w' := w1) xe;have lb1 := b1.lt;obtain ⟨qb1_0, qb1_1⟩ := blk2 b1;have fb1_0 := b1.frozen 0;have fb1_1 := b1.frozen 1;clear b1;by_cases hk : segKind t s = 2
 · have HF : Hid (dbPut t x s = ⟨x.down ++ [s], x.core⟩) := by unfold Hid dbPut; rw [if_pos hk]
   rw [hk];clear hk;go_wp2_with fail
   refine wp_region_LU 7 8 [0] _ (E := Ext) (w0 := w1) (G := fun τ => match τ with | 16 => some (fun v W => SegmentSO m W.heap.size W v [s]) | _ => none)  Ext.refl (fun h k => Ext.trans h k) (by kernel_rfl) (by kernel_rfl) rfl rfl (by kernel_rfl) (by kernel_rfl) (by kernel_rfl) (by kernel_rfl) (by kernel_rfl) (by kernel_rfl) (by kernel_rfl) (by kernel_rfl) (by kernel_rfl) (by intro i hi oi hoi; simp only [List.mem_cons, List.not_mem_nil, or_false] at hi; rcases hi with rfl; obtain rfl := Option.some.inj hoi; (· exact ⟨rfl, rfl, by kernel_rfl, pure_move rfl⟩)) xg (Ext.drew (by exact Ext.refl _)) ?_;simp only [List.take_succ_cons, List.take_zero, List.drop_succ_cons, List.drop_zero, List.cons_append, List.nil_append]
   repeat' (first
    | ((with_reducible refine wpL_skip ?_ ?_ ?_)
       · rfl
       · rfl
       simp only [putS])
    | ((with_reducible refine wpL_quiet ?_ ?_ ?_ ?_)
       · rfl
       · rfl
       · rfl
       apply Exists.intro
       refine ⟨fun W hW hS => ?_, ?_⟩
       · have hC := (Ext.facts hW).1
         go_simp
         first | done | (with_reducible rfl) | (rw [if_neg (by omega)]; exact ⟨rfl, rfl⟩) | rfl
       first | (with_reducible refine wpL_boolT ?_) | (with_reducible refine wpL_boolF ?_) | (with_reducible refine wpL_bool (fun hB => ?_) (fun hB => ?_)) | skip
       all_goals simp only [putS])
    | ((refine wpL_grow ?_ rfl rfl ?_ ?_)
       · rfl
       · intro W hW hS
         have hC := (Ext.facts hW).1;unfold growAt
         go_simp
         simp only [growUpon]
         first | (exact ⟨xe, SegmentO.single (SegmentO.up HSO.out (w' := W) xe) (by have h5 := Ext.size hW; omega) rfl⟩)
       intro v W' hW' hv
       first | (obtain ⟨A6, n6, c6, rfl⟩ := NO.slice hv) | (obtain ⟨A5, n5, c5, rfl, -⟩ := id hv; clear hv) | (obtain ⟨A5, n5, c5, rfl⟩ := NO.slice hv) | skip
       all_goals simp only [putS]))
   refine wpL_nil (fun w7 e7 hL => ?_);have n6_ : SegmentSO m w7.heap.size w7 (.slice A6 n6 c6) [s] := hL 16;clear hL;have z7 := e7.size;obtain ⟨cs9, fx, hown9, hol9, hnd9, hbd9⟩ := n6_;obtain ⟨hn9, hrow9⟩ := NO.row hown9;subst hn9;have HOP7 := Lib.hid (HOP.out.keep (w' := w7) xe);have OW := Lib.hid (HOP7.out.own0 (by omega));have NN := Lib.hid (HOP7.out.new0 hbd9);have HR9 := Lib.hid hrow9; have HOL9 := Lib.hid hol9; have HFX := Lib.hid (List.nodup_append.1 hnd9).2.1; have HBX := Lib.hid hbd9;clear hrow9 hol9 hnd9 hbd9 hown9;have HB7 := Lib.hid (HB.out.ext (w' := w7) xe)
   try dsimp only
   refine onAt_pushX lo SegmentOC.keeps SegmentOC.one (.tmp 14) (.tmp 16) _ rfl 33 _ 3 40 Tryz.underlying28 info_Segment rfl (by omega) (.slice A0 n0 c0) x.down [s] cs0 cs9 f0 fx rfl _ _ _ rfl OW.out HOP7.out.l0 HOP7.out.ne0 HR9.out HOL9.out NN.out (by have h5 := HOP.out.hl; omega) (by simp only [List.length_singleton]; omega) (by omega) ?_;intro v8 w8 own8 ol8 hg8 hv8;obtain ⟨a8, m8, q8, hv8s⟩ := own8.slice;subst hv8s;have B8 := Lib.hid (Blk.grown HB7.out hg8 (own_off OW.out HB7.out (by decide)));have Q8 := Lib.hid (HOP7.out.push0 (by omega) HFX.out HBX.out own8 ol8 hg8 hv8);have z8 : w7.heap.size ≤ w8.heap.size := hg8.size;have G8 := Lib.hid hg8; clear own8 ol8 hg8 hv8;have b8 := B8.out.ext (w' := w8) xe;have lb8 := b8.lt;obtain ⟨qb8_0, qb8_1⟩ := blk2 b8;have fb8_0 := b8.frozen 0;have fb8_1 := b8.frozen 1;clear b8;go_wp2_with (at_builtin; refine hold ?_)
   refine ⟨by rfl, .tuple #[], by simp [results, Tryz.results35, go_sem, *], ?_⟩;refine ⟨rfl, ⟨a8, m8, q8, A1, n1, c1, by simpa using B8.out.set_ 0 (.slice a8 m8 q8), ?_⟩, fun a ha h1 h2 => ?_⟩
   · rw [HF.out]
     simp only [World.size_setCell];exact SegmentDatabaseQ.setT Q8.out B8.out 0 (.slice a8 m8 q8)
   · have ha7 : Ext a w7 := Ext.trans ha xe
     exact Ext.setCell (Ext.grownB ha7 OW.out G8.out h2) (by dsimp only; exact h1) _
 · have HF : Hid (dbPut t x s = ⟨x.down, x.core ++ [s]⟩) := by unfold Hid dbPut; rw [if_neg hk]
   have d1 : (segKind t s == 2) = false := beq_eq_false_iff_ne.2 hk;clear hk;go_wp2_with fail
   clear d1;refine wp_region_LU 7 8 [0] _ (E := Ext) (w0 := w1) (G := fun τ => match τ with | 26 => some (fun v W => SegmentSO m W.heap.size W v [s]) | _ => none)  Ext.refl (fun h k => Ext.trans h k) (by kernel_rfl) (by kernel_rfl) rfl rfl (by kernel_rfl) (by kernel_rfl) (by kernel_rfl) (by kernel_rfl) (by kernel_rfl) (by kernel_rfl) (by kernel_rfl) (by kernel_rfl) (by kernel_rfl) (by intro i hi oi hoi; simp only [List.mem_cons, List.not_mem_nil, or_false] at hi; rcases hi with rfl; obtain rfl := Option.some.inj hoi; (· exact ⟨rfl, rfl, by kernel_rfl, pure_move rfl⟩)) xg (Ext.drew (by exact Ext.refl _)) ?_;simp only [List.take_succ_cons, List.take_zero, List.drop_succ_cons, List.drop_zero, List.cons_append, List.nil_append]
   repeat' (first
    | ((with_reducible refine wpL_skip ?_ ?_ ?_)
       · rfl
       · rfl
       simp only [putS])
    | ((with_reducible refine wpL_quiet ?_ ?_ ?_ ?_)
       · rfl
       · rfl
       · rfl
       apply Exists.intro
       refine ⟨fun W hW hS => ?_, ?_⟩
       · have hC := (Ext.facts hW).1
         go_simp
         first | done | (with_reducible rfl) | (rw [if_neg (by omega)]; exact ⟨rfl, rfl⟩) | rfl
       first | (with_reducible refine wpL_boolT ?_) | (with_reducible refine wpL_boolF ?_) | (with_reducible refine wpL_bool (fun hB => ?_) (fun hB => ?_)) | skip
       all_goals simp only [putS])
    | ((refine wpL_grow ?_ rfl rfl ?_ ?_)
       · rfl
       · intro W hW hS
         have hC := (Ext.facts hW).1;unfold growAt
         go_simp
         simp only [growUpon]
         first | (exact ⟨xe, SegmentO.single (SegmentO.up HSO.out (w' := W) xe) (by have h5 := Ext.size hW; omega) rfl⟩)
       intro v W' hW' hv
       first | (obtain ⟨A6, n6, c6, rfl⟩ := NO.slice hv) | (obtain ⟨A5, n5, c5, rfl, -⟩ := id hv; clear hv) | (obtain ⟨A5, n5, c5, rfl⟩ := NO.slice hv) | skip
       all_goals simp only [putS]))
   refine wpL_nil (fun w7 e7 hL => ?_);have n6_ : SegmentSO m w7.heap.size w7 (.slice A6 n6 c6) [s] := hL 26;clear hL;have z7 := e7.size;obtain ⟨cs9, fx, hown9, hol9, hnd9, hbd9⟩ := n6_;obtain ⟨hn9, hrow9⟩ := NO.row hown9;subst hn9;have HOP7 := Lib.hid (HOP.out.keep (w' := w7) xe);have OW := Lib.hid (HOP7.out.own1 (by omega));have NN := Lib.hid (HOP7.out.new1 hbd9);have HR9 := Lib.hid hrow9; have HOL9 := Lib.hid hol9; have HFX := Lib.hid (List.nodup_append.1 hnd9).2.1; have HBX := Lib.hid hbd9;clear hrow9 hol9 hnd9 hbd9 hown9;have HB7 := Lib.hid (HB.out.ext (w' := w7) xe)
   try dsimp only
   refine onAt_pushX lo SegmentOC.keeps SegmentOC.one (.tmp 24) (.tmp 26) _ rfl 33 _ 3 40 Tryz.underlying28 info_Segment rfl (by omega) (.slice A1 n1 c1) x.core [s] cs1 cs9 f1 fx rfl _ _ _ rfl OW.out HOP7.out.l1 HOP7.out.ne1 HR9.out HOL9.out NN.out (by have h5 := HOP.out.hl; omega) (by simp only [List.length_singleton]; omega) (by omega) ?_;intro v8 w8 own8 ol8 hg8 hv8;obtain ⟨a8, m8, q8, hv8s⟩ := own8.slice;subst hv8s;have B8 := Lib.hid (Blk.grown HB7.out hg8 (own_off OW.out HB7.out (by decide)));have Q8 := Lib.hid (HOP7.out.push1 (by omega) HFX.out HBX.out own8 ol8 hg8 hv8);have z8 : w7.heap.size ≤ w8.heap.size := hg8.size;have G8 := Lib.hid hg8; clear own8 ol8 hg8 hv8;have b8 := B8.out.ext (w' := w8) xe;have lb8 := b8.lt;obtain ⟨qb8_0, qb8_1⟩ := blk2 b8;have fb8_0 := b8.frozen 0;have fb8_1 := b8.frozen 1;clear b8;go_wp2_with (at_builtin; refine hold ?_)
   refine ⟨by rfl, .tuple #[], by simp [results, Tryz.results35, go_sem, *], ?_⟩;refine ⟨rfl, ⟨A0, n0, c0, a8, m8, q8, by simpa using B8.out.set_ 1 (.slice a8 m8 q8), ?_⟩, fun a ha h1 h2 => ?_⟩
   · rw [HF.out]
     simp only [World.size_setCell];exact SegmentDatabaseQ.setT Q8.out B8.out 1 (.slice a8 m8 q8)
   · have ha7 : Ext a w7 := Ext.trans ha xe
     exact Ext.setCell (Ext.grownB ha7 OW.out G8.out h2) (by dsimp only; exact h1) _
theorem impl_AddSegment (vt vx vs : Value) (t : DTopology) (x : DSegmentDatabase) (s : DSegment) (w : World) (ht : TopologyV w.heap.size w vt t) (hx : SegmentDatabaseV w.heap.size w vx x) (hs : SegmentV w.heap.size w vs s) (hn : dbTot x ≤ 1048576) (hm : s.hops.length ≤ 1048576) :
 Calls Tryz.prog 6 #[vt, vx, vs] w fun e w' => ∃ v', e = .returned v' ∧ SegmentDatabaseQ w.heap.size w'.heap.size w' v' (addSeg t x s) ∧ Ext w w' := by
 obtain ⟨At_0, nt_0, ct_0, At_1, nt_1, ct_1, rfl, st_0, st_1⟩ := id ht;obtain ⟨lt_0, kt_0, mt_0⟩ := st_0.len;subst lt_0;unfold maxLen at mt_0;obtain ⟨lt_1, kt_1, mt_1⟩ := st_1.len;subst lt_1;unfold maxLen at mt_1;have Rt := Lib.hid ht; clear ht;have St_0 := Lib.hid st_0; clear st_0;have St_1 := Lib.hid st_1; clear st_1;obtain ⟨Ax_0, nx_0, cx_0, Ax_1, nx_1, cx_1, rfl, sx_0, sx_1⟩ := id hx;obtain ⟨lx_0, kx_0, mx_0⟩ := sx_0.len;subst lx_0;unfold maxLen at mx_0;obtain ⟨lx_1, kx_1, mx_1⟩ := sx_1.len;subst lx_1;unfold maxLen at mx_1;have Rx := Lib.hid hx; clear hx;have Sx_0 := Lib.hid sx_0; clear sx_0;have Sx_1 := Lib.hid sx_1; clear sx_1;obtain ⟨As_2, ns_2, cs_2, rfl, ss_2⟩ := id hs;obtain ⟨ls_2, ks_2, ms_2⟩ := ss_2.len;subst ls_2;unfold maxLen at ms_2;have Rs := Lib.hid hs; clear hs;have Ss_2 := Lib.hid ss_2; clear ss_2
 have hn1 : segTot x.down ≤ 1048576 := by unfold dbTot at hn; omega
 have hn2 : segTot x.core ≤ 1048576 := by unfold dbTot at hn; omega
 go_enter Tryz.func6, Tryz.ntmps6
 go_wp2_with fail
 refine name_wp (fun W => Ext w W ∧ Blk W w.heap.size 27 [.slice At_0 t.ases.length ct_0, .slice At_1 t.links.length ct_1] ∧ Blk W (w.heap.size + 1) 30 [.slice Ax_0 x.down.length cx_0, .slice Ax_1 x.core.length cx_1] ∧ Blk W (w.heap.size + 1 + 1) 33 [I s.ts, I s.beta, .slice As_2 s.hops.length cs_2] ∧ Blk W (w.heap.size + 1 + 1 + 1) 30 [.slice none 0 0, .slice none 0 0]) ⟨xe, xb, xb, xb, xb⟩ ?_;rintro w0 ⟨ew0, bt, bx, bs, br⟩;have lx := bx.lt;have lr := br.lt;obtain ⟨px_0, px_1⟩ := blk2 bx;have Bt := Lib.hid bt; have Bx := Lib.hid bx; have Bs := Lib.hid bs; have BR := Lib.hid br; clear bt bx bs br
 refine wp_region_CT 8 (E := Ext) (w0 := w0) (G := fun τ => match τ with | 7 => some (fun v W => Zero1 30 w0.heap.size [.slice none 0 0, .slice none 0 0] v W) | _ => none) (C := fun τ => match τ with | 10 => some (fun v W W' => SegmentSO W.heap.size W'.heap.size W' v x.down) | 13 => some (fun v W W' => SegmentSO W.heap.size W'.heap.size W' v x.core) | _ => none) Ext.refl (fun h k => Ext.trans h k) (by kernel_rfl) (by kernel_rfl) (by kernel_rfl) (by kernel_rfl) (by kernel_rfl) (by kernel_rfl) (by kernel_rfl) (by
  intro t φ hG;split at hG
  all_goals first | (cases hG; done) | (cases Option.some.inj hG; intro v W W' hE hv; first | exact hv | exact IntS.ext hv hE | exact hv.ext hE | exact Own.up hv hE | exact hv.up hE | exact NO.up (by first | exact SegmentOC.keeps | exact TrustRootOC.keeps | exact BeaconOC.keeps | exact BeaconMessageOC.keeps | exact BeaconStoreOC.keeps) hv hE (Nat.le_refl _) | exact ObjUp.up hv hE)) (Ext.drew (by exact Ext.refl _)) ?_
 simp only [List.take_succ_cons, List.take_zero]
 repeat' (first
  | ((with_reducible refine wpM_skip (fun h k => Ext.trans h k) xe ?_ ?_ ?_)
     · rfl
     · rfl
     simp only [putS])
  | ((with_reducible refine wpM_quiet (fun h k => Ext.trans h k) xe ?_ ?_ ?_ ?_ ?_)
     · rfl
     · rfl
     · rfl
     · rfl
     apply Exists.intro
     refine ⟨fun W hW hS => ?_, ?_⟩
     · have hC := (Ext.facts hW).1
       go_simp
       first | done | (with_reducible rfl) | rfl
     first | (with_reducible refine wpM_bool (fun hB => ?_) (fun hB => ?_)) | skip
     all_goals simp only [putS])
  | ((refine wpM_chain (d := 10) (fun h k => Ext.trans h k) xe ?_ rfl rfl ?_ ?_ ?_)
     · rfl
     · rfl
     · intro W hW hS
       have hC := (Ext.facts (a := w0) (b := W) xe).1;unfold growAt
       go_simp
       simp only [growUpon]
       (go_at_call 34; (with_reducible refine Calls.mono (impl_copySegments _ x.down _ (by exact Sx_0.out.ext xe) hn1) ?_); rintro e w9 ⟨v9, rfl, o9, e9⟩; exact ⟨_, rfl, e9, o9⟩)
     intro v wa wb ewa ewb hv;obtain ⟨A5, n5, c5, rfl⟩ := NO.slice hv; have O5 := Lib.hid hv; clear hv
     all_goals simp only [putS])
  | ((refine wpM_chain (d := 13) (fun h k => Ext.trans h k) xe ?_ rfl rfl ?_ ?_ ?_)
     · rfl
     · rfl
     · intro W hW hS
       have hC := (Ext.facts (a := w0) (b := W) xe).1;unfold growAt
       go_simp
       simp only [growUpon]
       (go_at_call 34; (with_reducible refine Calls.mono (impl_copySegments _ x.core _ (by exact Sx_1.out.ext xe) hn2) ?_); rintro e w9 ⟨v9, rfl, o9, e9⟩; exact ⟨_, rfl, e9, o9⟩)
     intro v wc wd ewc ewd hv;obtain ⟨A7, n7, c7, rfl⟩ := NO.slice hv; have O7 := Lib.hid hv; clear hv
     all_goals simp only [putS])
  | ((refine wpM_grow (fun h k => Ext.trans h k) xe ?_ rfl rfl rfl ?_ ?_)
     · rfl
     · intro W hW hS
       have hC := (Ext.facts hW).1;unfold growAt
       go_simp
       simp only [growUpon]
       first | (exact ⟨xe, _, rfl, Ext.size (by assumption), Blk.new _ _ _⟩)
     intro v W' hW' hv
     first | (obtain ⟨g5, rfl, -⟩ := hv) | (obtain ⟨A5, n5, c5, rfl, -⟩ := id hv; clear hv) | (obtain ⟨A5, n5, c5, rfl⟩ := NO.slice hv) | skip
     all_goals simp only [putS]))
 clear px_0 px_1 lx;refine wpM_nil (fun w5 ew5 hL => ?_)
 have hdb : SegmentDatabaseQ w0.heap.size w5.heap.size w5 (.agg #[.slice A5 n5 c5, .slice A7 n7 c7]) x := (by have za := ewa.size; have zb := ewb.size; have zc := ewc.size; have zd := ewd.size; have z5 := ew5.size; exact SegmentDatabaseO.q ⟨_, _, wc.heap.size, rfl, NO.more (NO.at' SegmentOC.keeps O5.out xe) (by omega) (by omega), NO.more (NO.at' SegmentOC.keeps O7.out xe) (Nat.le_refl _) (by omega), by omega, by omega⟩)
 have pz : Zero1 30 w0.heap.size [.slice none 0 0, .slice none 0 0] _ w5 := hL 7;obtain ⟨gz, hgz, hgl, hbz⟩ := pz
 have hge : gz = g5 := by injection hgz with h; injection h with h; injection h with h1; exact h1.symm
 subst hge;clear hgz hL;have zw5 := ew5.size;have lz := hbz.lt;obtain ⟨yz_0, yz_1⟩ := blk2 hbz;have fz_0 := hbz.frozen 0;have fz_1 := hbz.frozen 1;have Zhdb := Lib.hid (SegmentDatabaseQ.setT (SegmentDatabaseQ.setT hdb hbz 0 (.slice A5 n5 c5)) (Blk.set_ hbz 0 (.slice A5 n5 c5)) 1 (.slice A7 n7 c7));have bt := Bt.out.ext (w' := w5) xe;have lt := bt.lt;obtain ⟨pt_0, pt_1⟩ := blk2 bt;clear bt;have bs := Bs.out.ext (w' := w5) xe;have ls := bs.lt;obtain ⟨ps_0, ps_1, ps_2⟩ := blk3 bs;clear bs;have BW := Lib.hid (Blk.set_ (Blk.set_ hbz 0 (.slice A5 n5 c5)) 1 (.slice A7 n7 c7));clear hbz hdb;simp only [List.drop_succ_cons, List.drop_zero];go_wp2_with fail
 clear yz_0 fz_0 yz_1 fz_1
 first | refine name_wp ?_ ?_ ?_ | refine name_calls ?_ ?_ ?_
 exact (fun W => Ext w0 W ∧ w5.heap.size = W.heap.size ∧ Blk W gz 30 [.slice A5 n5 c5, .slice A7 n7 c7] ∧ SegmentDatabaseQ w0.heap.size W.heap.size W (.agg #[.slice A5 n5 c5, .slice A7 n7 c7]) x);exact ⟨xe, (by simp only [World.size_setCell]), (by simpa using BW.out), (by (try simp only [World.size_setCell]); exact Zhdb.out)⟩;clear BW Zhdb;rintro w6 ⟨ew6, zw6, bz, hdb⟩;have BZ := Lib.hid bz; clear bz;have Hhdb := Lib.hid hdb; clear hdb;have z6 := ew6.size; have zw0 := ew0.size;refine (impl_ValidSegment _ _ (t) (s) _ (by exact Rt.out.ext xe) (by exact Rs.out.ext xe) xo).mono ?_;rintro e w7 ⟨rfl, ew7⟩;have bt := Bt.out.ext (w' := w7) xe;have lt := bt.lt;obtain ⟨pt_0, pt_1⟩ := blk2 bt;clear bt;have bx := Bx.out.ext (w' := w7) xe;have lx := bx.lt;obtain ⟨px_0, px_1⟩ := blk2 bx;clear bx;have bs := Bs.out.ext (w' := w7) xe;have ls := bs.lt;obtain ⟨ps_0, ps_1, ps_2⟩ := blk3 bs;clear bs;have z7 := ew7.size;cases h1 : validSeg t s
 · have HF : Hid (addSeg t x s = x) := by unfold Hid addSeg; rw [h1]; rfl
   clear h1;have bz := BZ.out.ext (w' := w7) xe;have lbz := bz.lt;obtain ⟨qbz_0, qbz_1⟩ := blk2 bz;have fbz_0 := bz.frozen 0;have fbz_1 := bz.frozen 1;clear bz;have br := BR.out.ext (w' := w7) xe;have lbr := br.lt;obtain ⟨qbr_0, qbr_1⟩ := blk2 br;have fbr_0 := br.frozen 0;have fbr_1 := br.frozen 1;clear br;go_wp2_with fail
   refine bodyPost_ret (v := .agg #[.slice A5 n5 c5, .slice A7 n7 c7]) (by simp [results, Tryz.results6, go_sem, *]) rfl ⟨_, rfl, ?_, ?_⟩
   · have br9 := BR.out.ext (w' := w7) xe
     have q9 := SegmentDatabaseQ.more (SegmentDatabaseQ.up Hhdb.out (w' := w7) xe) (lo' := w.heap.size) (by omega) (Nat.le_refl _);rw [HF.out];simp only [World.size_setCell];exact SegmentDatabaseQ.setT (SegmentDatabaseQ.setT q9 br9 0 (.slice A5 n5 c5)) (br9.set_ 0 (.slice A5 n5 c5)) 1 (.slice A7 n7 c7)
   · exact xe
 have H1 := Lib.hid h1; clear h1;go_wp2_with fail
 refine (impl_IsTerminated _ (s) _ (by exact Rs.out.ext xe)).mono ?_;rintro e w8 ⟨rfl, ew8⟩;have bt := Bt.out.ext (w' := w8) xe;have lt := bt.lt;obtain ⟨pt_0, pt_1⟩ := blk2 bt;clear bt;have bx := Bx.out.ext (w' := w8) xe;have lx := bx.lt;obtain ⟨px_0, px_1⟩ := blk2 bx;clear bx;have bs := Bs.out.ext (w' := w8) xe;have ls := bs.lt;obtain ⟨ps_0, ps_1, ps_2⟩ := blk3 bs;clear bs;have z8 := ew8.size;cases h2 : isTerm s
 · have HF : Hid (addSeg t x s = x) := by unfold Hid addSeg; rw [h2, Bool.false_and, Bool.and_false]; rfl
   clear h2;have bz := BZ.out.ext (w' := w8) xe;have lbz := bz.lt;obtain ⟨qbz_0, qbz_1⟩ := blk2 bz;have fbz_0 := bz.frozen 0;have fbz_1 := bz.frozen 1;clear bz;have br := BR.out.ext (w' := w8) xe;have lbr := br.lt;obtain ⟨qbr_0, qbr_1⟩ := blk2 br;have fbr_0 := br.frozen 0;have fbr_1 := br.frozen 1;clear br;go_wp2_with fail
   refine bodyPost_ret (v := .agg #[.slice A5 n5 c5, .slice A7 n7 c7]) (by simp [results, Tryz.results6, go_sem, *]) rfl ⟨_, rfl, ?_, ?_⟩
   · have br9 := BR.out.ext (w' := w8) xe
     have q9 := SegmentDatabaseQ.more (SegmentDatabaseQ.up Hhdb.out (w' := w8) xe) (lo' := w.heap.size) (by omega) (Nat.le_refl _);rw [HF.out];simp only [World.size_setCell];exact SegmentDatabaseQ.setT (SegmentDatabaseQ.setT q9 br9 0 (.slice A5 n5 c5)) (br9.set_ 0 (.slice A5 n5 c5)) 1 (.slice A7 n7 c7)
   · exact xe
 have H2 := Lib.hid h2; clear h2;go_wp2_with fail
 refine (impl_HasSegment _ _ (x) (s) _ (by exact Rx.out.ext xe) (by exact Rs.out.ext xe)).mono ?_;rintro e w9 ⟨rfl, ew9⟩;have bt := Bt.out.ext (w' := w9) xe;have lt := bt.lt;obtain ⟨pt_0, pt_1⟩ := blk2 bt;clear bt;have bx := Bx.out.ext (w' := w9) xe;have lx := bx.lt;obtain ⟨px_0, px_1⟩ := blk2 bx;clear bx;have bs := Bs.out.ext (w' := w9) xe;have ls := bs.lt;obtain ⟨ps_0, ps_1, ps_2⟩ := blk3 bs;clear bs;have z9 := ew9.size;cases h3 : hasSegment x s
 rotate_left
 · have HF : Hid (addSeg t x s = x) := by unfold Hid addSeg; rw [h3, Bool.not_true, Bool.and_false, Bool.and_false]; rfl
   clear h3;have bz := BZ.out.ext (w' := w9) xe;have lbz := bz.lt;obtain ⟨qbz_0, qbz_1⟩ := blk2 bz;have fbz_0 := bz.frozen 0;have fbz_1 := bz.frozen 1;clear bz;have br := BR.out.ext (w' := w9) xe;have lbr := br.lt;obtain ⟨qbr_0, qbr_1⟩ := blk2 br;have fbr_0 := br.frozen 0;have fbr_1 := br.frozen 1;clear br;go_wp2_with fail
   refine bodyPost_ret (v := .agg #[.slice A5 n5 c5, .slice A7 n7 c7]) (by simp [results, Tryz.results6, go_sem, *]) rfl ⟨_, rfl, ?_, ?_⟩
   · have br9 := BR.out.ext (w' := w9) xe
     have q9 := SegmentDatabaseQ.more (SegmentDatabaseQ.up Hhdb.out (w' := w9) xe) (lo' := w.heap.size) (by omega) (Nat.le_refl _);rw [HF.out];simp only [World.size_setCell];exact SegmentDatabaseQ.setT (SegmentDatabaseQ.setT q9 br9 0 (.slice A5 n5 c5)) (br9.set_ 0 (.slice A5 n5 c5)) 1 (.slice A7 n7 c7)
   · exact xe
 have HF : Hid (addSeg t x s = dbPut t x s) := by unfold Hid addSeg; rw [H1.out, H2.out, h3]; rfl
 clear h3;go_wp2_with fail
 refine wp_region_LT 3 (E := Ext) (w0 := w9) (G := fun τ => match τ with | 30 => some (fun v W => SegmentO w9.heap.size W.heap.size W v s) | _ => none) Ext.refl (fun h k => Ext.trans h k) (by kernel_rfl) (by kernel_rfl) (by kernel_rfl) (by kernel_rfl) (by kernel_rfl) (by kernel_rfl) xg (Ext.drew (by exact Ext.refl _)) ?_;simp only [List.take_succ_cons, List.take_zero]
 repeat' (first
  | ((with_reducible refine wpL_skip ?_ ?_ ?_)
     · rfl
     · rfl
     simp only [putS])
  | ((with_reducible refine wpL_quiet ?_ ?_ ?_ ?_)
     · rfl
     · rfl
     · rfl
     apply Exists.intro
     refine ⟨fun W hW hS => ?_, ?_⟩
     · have hC := (Ext.facts hW).1
       go_simp
       first | done | (with_reducible rfl) | (rw [if_neg (by omega)]; exact ⟨rfl, rfl⟩) | rfl
     first | (with_reducible refine wpL_boolT ?_) | (with_reducible refine wpL_boolF ?_) | (with_reducible refine wpL_bool (fun hB => ?_) (fun hB => ?_)) | skip
     all_goals simp only [putS])
  | ((refine wpL_grow ?_ rfl rfl ?_ ?_)
     · rfl
     · intro W hW hS
       have hC := (Ext.facts hW).1;unfold growAt
       go_simp
       simp only [growUpon]
       first | (go_at_call 36; (with_reducible refine Calls.mono (impl_copySegment _ s _ (by exact Rs.out.ext xe) (by omega)) ?_); rintro e w10 ⟨v9, rfl, o9, e9⟩; exact ⟨_, rfl, e9, SegmentO.more o9 (Ext.size hW) (Nat.le_refl _)⟩)
     intro v W' hW' hv
     first | (obtain ⟨A8, n8, c8, rfl⟩ := SegmentO.shape hv) | (obtain ⟨A5, n5, c5, rfl, -⟩ := id hv; clear hv) | (obtain ⟨A5, n5, c5, rfl⟩ := NO.slice hv) | skip
     all_goals simp only [putS]))
 refine wpL_nil (fun w10 e10 hL => ?_);have o8 : SegmentO w9.heap.size w10.heap.size w10 (.agg #[I s.ts, I s.beta, .slice A8 n8 c8]) s := hL 30;have O8 := Lib.hid o8; clear hL o8;have z10 := e10.size;simp only [List.drop_succ_cons, List.drop_zero];go_wp2_with fail
 refine (impl_put gz _ _ A5 A7 n5 c5 n7 c7 t x s w0.heap.size w9.heap.size _ (by exact Rt.out.ext xe) (by exact SegmentO_rd O8.out (Nat.le_refl _)) O8.out (by exact BZ.out.ext xe) (by exact (SegmentDatabaseQ.up Hhdb.out (w' := w9) xe).ext e10 (Nat.le_refl _)) (by omega) (by omega)).mono ?_;rintro e w11 ⟨rfl, ⟨a0, k0, q0, a1, k1, q1, hb11, hq11⟩, hf11⟩;have e11 : Ext w0 w11 := hf11 w0 xe (by omega) (Nat.le_refl _);have B11 := Lib.hid hb11; have Q11 := Lib.hid hq11; clear hb11 hq11 hf11;have z11 := e11.size;have l11 := B11.out.lt;obtain ⟨qz_0, qz_1⟩ := blk2 B11.out;have br := BR.out.ext (w' := w11) xe;have lbr := br.lt;obtain ⟨qbr_0, qbr_1⟩ := blk2 br;have fbr_0 := br.frozen 0;have fbr_1 := br.frozen 1;clear br;go_wp2_with fail
 refine bodyPost_ret (v := .agg #[.slice a0 k0 q0, .slice a1 k1 q1]) (by simp [results, Tryz.results6, go_sem, *]) rfl ⟨_, rfl, ?_, ?_⟩
 · have br9 := BR.out.ext (w' := w11) xe
   have q9 := SegmentDatabaseQ.more Q11.out (lo' := w.heap.size) (by omega) (Nat.le_refl _);rw [HF.out];simp only [World.size_setCell];exact SegmentDatabaseQ.setT (SegmentDatabaseQ.setT q9 br9 0 (.slice a0 k0 q0)) (br9.set_ 0 (.slice a0 k0 q0)) 1 (.slice a1 k1 q1)
 · exact xe
theorem spec_AddSegment (vt vx vs : Value) (t : DTopology) (x : DSegmentDatabase) (s : DSegment) (w : World) (ht : TopologyV w.heap.size w vt t) (hx : SegmentDatabaseV w.heap.size w vx x) (hs : SegmentV w.heap.size w vs s) (hn : dbTot x ≤ 1048576) (hm : s.hops.length ≤ 1048576) :
 Calls Tryz.prog 13 #[vt, vx, vs] w fun e w' => ∃ v', e = .returned v' ∧ SegmentDatabaseQ w.heap.size w'.heap.size w' v' (addSeg t x s) ∧ Ext w w' := by
 obtain ⟨At_0, nt_0, ct_0, At_1, nt_1, ct_1, rfl, st_0, st_1⟩ := id ht;obtain ⟨lt_0, kt_0, mt_0⟩ := st_0.len;subst lt_0;unfold maxLen at mt_0;obtain ⟨lt_1, kt_1, mt_1⟩ := st_1.len;subst lt_1;unfold maxLen at mt_1;have Rt := Lib.hid ht; clear ht;have St_0 := Lib.hid st_0; clear st_0;have St_1 := Lib.hid st_1; clear st_1;obtain ⟨Ax_0, nx_0, cx_0, Ax_1, nx_1, cx_1, rfl, sx_0, sx_1⟩ := id hx;obtain ⟨lx_0, kx_0, mx_0⟩ := sx_0.len;subst lx_0;unfold maxLen at mx_0;obtain ⟨lx_1, kx_1, mx_1⟩ := sx_1.len;subst lx_1;unfold maxLen at mx_1;have Rx := Lib.hid hx; clear hx;have Sx_0 := Lib.hid sx_0; clear sx_0;have Sx_1 := Lib.hid sx_1; clear sx_1;obtain ⟨As_2, ns_2, cs_2, rfl, ss_2⟩ := id hs;obtain ⟨ls_2, ks_2, ms_2⟩ := ss_2.len;subst ls_2;unfold maxLen at ms_2;have Rs := Lib.hid hs; clear hs;have Ss_2 := Lib.hid ss_2; clear ss_2
 have hn1 : segTot x.down ≤ 1048576 := by unfold dbTot at hn; omega
 have hn2 : segTot x.core ≤ 1048576 := by unfold dbTot at hn; omega
 go_enter Tryz.func13, Tryz.ntmps13
 go_wp2_with fail
 refine name_wp (fun W => Ext w W ∧ Blk W w.heap.size 27 [.slice At_0 t.ases.length ct_0, .slice At_1 t.links.length ct_1] ∧ Blk W (w.heap.size + 1) 30 [.slice Ax_0 x.down.length cx_0, .slice Ax_1 x.core.length cx_1] ∧ Blk W (w.heap.size + 1 + 1) 33 [I s.ts, I s.beta, .slice As_2 s.hops.length cs_2] ∧ Blk W (w.heap.size + 1 + 1 + 1) 30 [.slice none 0 0, .slice none 0 0]) ⟨xe, xb, xb, xb, xb⟩ ?_;rintro w0 ⟨ew0, bt, bx, bs, br⟩;have lx := bx.lt;have lr := br.lt;obtain ⟨px_0, px_1⟩ := blk2 bx;have Bt := Lib.hid bt; have Bx := Lib.hid bx; have Bs := Lib.hid bs; have BR := Lib.hid br; clear bt bx bs br
 refine wp_region_CT 8 (E := Ext) (w0 := w0) (G := fun τ => match τ with | 7 => some (fun v W => Zero1 30 w0.heap.size [.slice none 0 0, .slice none 0 0] v W) | _ => none) (C := fun τ => match τ with | 10 => some (fun v W W' => SegmentSO W.heap.size W'.heap.size W' v x.down) | 13 => some (fun v W W' => SegmentSO W.heap.size W'.heap.size W' v x.core) | _ => none) Ext.refl (fun h k => Ext.trans h k) (by kernel_rfl) (by kernel_rfl) (by kernel_rfl) (by kernel_rfl) (by kernel_rfl) (by kernel_rfl) (by kernel_rfl) (by
  intro t φ hG;split at hG
  all_goals first | (cases hG; done) | (cases Option.some.inj hG; intro v W W' hE hv; first | exact hv | exact IntS.ext hv hE | exact hv.ext hE | exact Own.up hv hE | exact hv.up hE | exact NO.up (by first | exact SegmentOC.keeps | exact TrustRootOC.keeps | exact BeaconOC.keeps | exact BeaconMessageOC.keeps | exact BeaconStoreOC.keeps) hv hE (Nat.le_refl _) | exact ObjUp.up hv hE)) (Ext.drew (by exact Ext.refl _)) ?_
 simp only [List.take_succ_cons, List.take_zero]
 repeat' (first
  | ((with_reducible refine wpM_skip (fun h k => Ext.trans h k) xe ?_ ?_ ?_)
     · rfl
     · rfl
     simp only [putS])
  | ((with_reducible refine wpM_quiet (fun h k => Ext.trans h k) xe ?_ ?_ ?_ ?_ ?_)
     · rfl
     · rfl
     · rfl
     · rfl
     apply Exists.intro
     refine ⟨fun W hW hS => ?_, ?_⟩
     · have hC := (Ext.facts hW).1
       go_simp
       first | done | (with_reducible rfl) | rfl
     first | (with_reducible refine wpM_bool (fun hB => ?_) (fun hB => ?_)) | skip
     all_goals simp only [putS])
  | ((refine wpM_chain (d := 10) (fun h k => Ext.trans h k) xe ?_ rfl rfl ?_ ?_ ?_)
     · rfl
     · rfl
     · intro W hW hS
       have hC := (Ext.facts (a := w0) (b := W) xe).1;unfold growAt
       go_simp
       simp only [growUpon]
       (go_at_call 39; (with_reducible refine Calls.mono (spec_l16All _ x.down _ (by exact Sx_0.out.ext xe) hn1) ?_); rintro e w9 ⟨v9, rfl, o9, e9⟩; exact ⟨_, rfl, e9, o9⟩)
     intro v wa wb ewa ewb hv;obtain ⟨A5, n5, c5, rfl⟩ := NO.slice hv; have O5 := Lib.hid hv; clear hv
     all_goals simp only [putS])
  | ((refine wpM_chain (d := 13) (fun h k => Ext.trans h k) xe ?_ rfl rfl ?_ ?_ ?_)
     · rfl
     · rfl
     · intro W hW hS
       have hC := (Ext.facts (a := w0) (b := W) xe).1;unfold growAt
       go_simp
       simp only [growUpon]
       (go_at_call 39; (with_reducible refine Calls.mono (spec_l16All _ x.core _ (by exact Sx_1.out.ext xe) hn2) ?_); rintro e w9 ⟨v9, rfl, o9, e9⟩; exact ⟨_, rfl, e9, o9⟩)
     intro v wc wd ewc ewd hv;obtain ⟨A7, n7, c7, rfl⟩ := NO.slice hv; have O7 := Lib.hid hv; clear hv
     all_goals simp only [putS])
  | ((refine wpM_grow (fun h k => Ext.trans h k) xe ?_ rfl rfl rfl ?_ ?_)
     · rfl
     · intro W hW hS
       have hC := (Ext.facts hW).1;unfold growAt
       go_simp
       simp only [growUpon]
       first | (exact ⟨xe, _, rfl, Ext.size (by assumption), Blk.new _ _ _⟩)
     intro v W' hW' hv
     first | (obtain ⟨g5, rfl, -⟩ := hv) | (obtain ⟨A5, n5, c5, rfl, -⟩ := id hv; clear hv) | (obtain ⟨A5, n5, c5, rfl⟩ := NO.slice hv) | skip
     all_goals simp only [putS]))
 clear px_0 px_1 lx;refine wpM_nil (fun w5 ew5 hL => ?_)
 have hdb : SegmentDatabaseQ w0.heap.size w5.heap.size w5 (.agg #[.slice A5 n5 c5, .slice A7 n7 c7]) x := (by have za := ewa.size; have zb := ewb.size; have zc := ewc.size; have zd := ewd.size; have z5 := ew5.size; exact SegmentDatabaseO.q ⟨_, _, wc.heap.size, rfl, NO.more (NO.at' SegmentOC.keeps O5.out xe) (by omega) (by omega), NO.more (NO.at' SegmentOC.keeps O7.out xe) (Nat.le_refl _) (by omega), by omega, by omega⟩)
 have pz : Zero1 30 w0.heap.size [.slice none 0 0, .slice none 0 0] _ w5 := hL 7;obtain ⟨gz, hgz, hgl, hbz⟩ := pz
 have hge : gz = g5 := by injection hgz with h; injection h with h; injection h with h1; exact h1.symm
 subst hge;clear hgz hL;have zw5 := ew5.size;have lz := hbz.lt;obtain ⟨yz_0, yz_1⟩ := blk2 hbz;have fz_0 := hbz.frozen 0;have fz_1 := hbz.frozen 1;have Zhdb := Lib.hid (SegmentDatabaseQ.setT (SegmentDatabaseQ.setT hdb hbz 0 (.slice A5 n5 c5)) (Blk.set_ hbz 0 (.slice A5 n5 c5)) 1 (.slice A7 n7 c7));have bt := Bt.out.ext (w' := w5) xe;have lt := bt.lt;obtain ⟨pt_0, pt_1⟩ := blk2 bt;clear bt;have bs := Bs.out.ext (w' := w5) xe;have ls := bs.lt;obtain ⟨ps_0, ps_1, ps_2⟩ := blk3 bs;clear bs;have BW := Lib.hid (Blk.set_ (Blk.set_ hbz 0 (.slice A5 n5 c5)) 1 (.slice A7 n7 c7));clear hbz hdb;simp only [List.drop_succ_cons, List.drop_zero];go_wp2_with fail
 clear yz_0 fz_0 yz_1 fz_1
 first | refine name_wp ?_ ?_ ?_ | refine name_calls ?_ ?_ ?_
 exact (fun W => Ext w0 W ∧ w5.heap.size = W.heap.size ∧ Blk W gz 30 [.slice A5 n5 c5, .slice A7 n7 c7] ∧ SegmentDatabaseQ w0.heap.size W.heap.size W (.agg #[.slice A5 n5 c5, .slice A7 n7 c7]) x);exact ⟨xe, (by simp only [World.size_setCell]), (by simpa using BW.out), (by (try simp only [World.size_setCell]); exact Zhdb.out)⟩;clear BW Zhdb;rintro w6 ⟨ew6, zw6, bz, hdb⟩;have BZ := Lib.hid bz; clear bz;have Hhdb := Lib.hid hdb; clear hdb;have z6 := ew6.size; have zw0 := ew0.size;refine (spec_ValidSegment _ _ (t) (s) _ (by exact Rt.out.ext xe) (by exact Rs.out.ext xe) xo).mono ?_;rintro e w7 ⟨rfl, ew7⟩;have bt := Bt.out.ext (w' := w7) xe;have lt := bt.lt;obtain ⟨pt_0, pt_1⟩ := blk2 bt;clear bt;have bx := Bx.out.ext (w' := w7) xe;have lx := bx.lt;obtain ⟨px_0, px_1⟩ := blk2 bx;clear bx;have bs := Bs.out.ext (w' := w7) xe;have ls := bs.lt;obtain ⟨ps_0, ps_1, ps_2⟩ := blk3 bs;clear bs;have z7 := ew7.size;cases h1 : validSeg t s
 · have HF : Hid (addSeg t x s = x) := by unfold Hid addSeg; rw [h1]; rfl
   clear h1;have bz := BZ.out.ext (w' := w7) xe;have lbz := bz.lt;obtain ⟨qbz_0, qbz_1⟩ := blk2 bz;have fbz_0 := bz.frozen 0;have fbz_1 := bz.frozen 1;clear bz;have br := BR.out.ext (w' := w7) xe;have lbr := br.lt;obtain ⟨qbr_0, qbr_1⟩ := blk2 br;have fbr_0 := br.frozen 0;have fbr_1 := br.frozen 1;clear br;go_wp2_with fail
   refine bodyPost_ret (v := .agg #[.slice A5 n5 c5, .slice A7 n7 c7]) (by simp [results, Tryz.results13, go_sem, *]) rfl ⟨_, rfl, ?_, ?_⟩
   · have br9 := BR.out.ext (w' := w7) xe
     have q9 := SegmentDatabaseQ.more (SegmentDatabaseQ.up Hhdb.out (w' := w7) xe) (lo' := w.heap.size) (by omega) (Nat.le_refl _);rw [HF.out];simp only [World.size_setCell];exact SegmentDatabaseQ.setT (SegmentDatabaseQ.setT q9 br9 0 (.slice A5 n5 c5)) (br9.set_ 0 (.slice A5 n5 c5)) 1 (.slice A7 n7 c7)
   · exact xe
 have H1 := Lib.hid h1; clear h1;go_wp2_with fail
 refine (spec_IsTerminated _ (s) _ (by exact Rs.out.ext xe)).mono ?_;rintro e w8 ⟨rfl, ew8⟩;have bt := Bt.out.ext (w' := w8) xe;have lt := bt.lt;obtain ⟨pt_0, pt_1⟩ := blk2 bt;clear bt;have bx := Bx.out.ext (w' := w8) xe;have lx := bx.lt;obtain ⟨px_0, px_1⟩ := blk2 bx;clear bx;have bs := Bs.out.ext (w' := w8) xe;have ls := bs.lt;obtain ⟨ps_0, ps_1, ps_2⟩ := blk3 bs;clear bs;have z8 := ew8.size;cases h2 : isTerm s
 · have HF : Hid (addSeg t x s = x) := by unfold Hid addSeg; rw [h2, Bool.false_and, Bool.and_false]; rfl
   clear h2;have bz := BZ.out.ext (w' := w8) xe;have lbz := bz.lt;obtain ⟨qbz_0, qbz_1⟩ := blk2 bz;have fbz_0 := bz.frozen 0;have fbz_1 := bz.frozen 1;clear bz;have br := BR.out.ext (w' := w8) xe;have lbr := br.lt;obtain ⟨qbr_0, qbr_1⟩ := blk2 br;have fbr_0 := br.frozen 0;have fbr_1 := br.frozen 1;clear br;go_wp2_with fail
   refine bodyPost_ret (v := .agg #[.slice A5 n5 c5, .slice A7 n7 c7]) (by simp [results, Tryz.results13, go_sem, *]) rfl ⟨_, rfl, ?_, ?_⟩
   · have br9 := BR.out.ext (w' := w8) xe
     have q9 := SegmentDatabaseQ.more (SegmentDatabaseQ.up Hhdb.out (w' := w8) xe) (lo' := w.heap.size) (by omega) (Nat.le_refl _);rw [HF.out];simp only [World.size_setCell];exact SegmentDatabaseQ.setT (SegmentDatabaseQ.setT q9 br9 0 (.slice A5 n5 c5)) (br9.set_ 0 (.slice A5 n5 c5)) 1 (.slice A7 n7 c7)
   · exact xe
 have H2 := Lib.hid h2; clear h2;go_wp2_with fail
 refine (spec_HasSegment _ _ (x) (s) _ (by exact Rx.out.ext xe) (by exact Rs.out.ext xe)).mono ?_;rintro e w9 ⟨rfl, ew9⟩;have bt := Bt.out.ext (w' := w9) xe;have lt := bt.lt;obtain ⟨pt_0, pt_1⟩ := blk2 bt;clear bt;have bx := Bx.out.ext (w' := w9) xe;have lx := bx.lt;obtain ⟨px_0, px_1⟩ := blk2 bx;clear bx;have bs := Bs.out.ext (w' := w9) xe;have ls := bs.lt;obtain ⟨ps_0, ps_1, ps_2⟩ := blk3 bs;clear bs;have z9 := ew9.size;cases h3 : hasSegment x s
 rotate_left
 · have HF : Hid (addSeg t x s = x) := by unfold Hid addSeg; rw [h3, Bool.not_true, Bool.and_false, Bool.and_false]; rfl
   clear h3;have bz := BZ.out.ext (w' := w9) xe;have lbz := bz.lt;obtain ⟨qbz_0, qbz_1⟩ := blk2 bz;have fbz_0 := bz.frozen 0;have fbz_1 := bz.frozen 1;clear bz;have br := BR.out.ext (w' := w9) xe;have lbr := br.lt;obtain ⟨qbr_0, qbr_1⟩ := blk2 br;have fbr_0 := br.frozen 0;have fbr_1 := br.frozen 1;clear br;go_wp2_with fail
   refine bodyPost_ret (v := .agg #[.slice A5 n5 c5, .slice A7 n7 c7]) (by simp [results, Tryz.results13, go_sem, *]) rfl ⟨_, rfl, ?_, ?_⟩
   · have br9 := BR.out.ext (w' := w9) xe
     have q9 := SegmentDatabaseQ.more (SegmentDatabaseQ.up Hhdb.out (w' := w9) xe) (lo' := w.heap.size) (by omega) (Nat.le_refl _);rw [HF.out];simp only [World.size_setCell];exact SegmentDatabaseQ.setT (SegmentDatabaseQ.setT q9 br9 0 (.slice A5 n5 c5)) (br9.set_ 0 (.slice A5 n5 c5)) 1 (.slice A7 n7 c7)
   · exact xe
 have HF : Hid (addSeg t x s = dbPut t x s) := by unfold Hid addSeg; rw [H1.out, H2.out, h3]; rfl
 clear h3
 have hdl : x.down.length ≤ 100000000 ∧ x.core.length ≤ 100000000 := by
  have h1 := totS_len (fun u : DSegment => u.hops.length) x.down;have h2 := totS_len (fun u : DSegment => u.hops.length) x.core;unfold segTot at hn1 hn2;omega
 obtain ⟨hd0, hd1⟩ := hdl;go_wp2_with fail
 refine (spec_SegmentKind _ _ (t) (s) _ (by exact Rt.out.ext xe) (by exact Rs.out.ext xe) xo).mono ?_;rintro e w10 ⟨rfl, ew10⟩;have bt := Bt.out.ext (w' := w10) xe;have lt := bt.lt;obtain ⟨pt_0, pt_1⟩ := blk2 bt;clear bt;have bs := Bs.out.ext (w' := w10) xe;have ls := bs.lt;obtain ⟨ps_0, ps_1, ps_2⟩ := blk3 bs;clear bs;have z10 := ew10.size;obtain ⟨cs0, cs1, f0, f1, hop⟩ := (SegmentDatabaseQ.up Hhdb.out (w' := w10) xe).opened;have HOP := Lib.hid hop; clear hop;have bz := BZ.out.ext (w' := w10) xe;have lbz := bz.lt;obtain ⟨qbz_0, qbz_1⟩ := blk2 bz;have fbz_0 := bz.frozen 0;have fbz_1 := bz.frozen 1;clear bz;by_cases hk : segKind t s = 2
 · have HK : Hid (dbPut t x s = ⟨x.down ++ [s], x.core⟩) := by unfold Hid dbPut; rw [if_pos hk]
   rw [hk];clear hk;go_wp2_with fail
   refine wp_region_LT 5 (E := Ext) (w0 := w10) (G := fun τ => match τ with | 37 => some (fun v W => SegmentO w10.heap.size W.heap.size W v s) | 38 => some (fun v W => SegmentSO w10.heap.size W.heap.size W v [s]) | _ => none) Ext.refl (fun h k => Ext.trans h k) (by kernel_rfl) (by kernel_rfl) (by kernel_rfl) (by kernel_rfl) (by kernel_rfl) (by kernel_rfl) xg (Ext.drew (by exact Ext.refl _)) ?_;simp only [List.take_succ_cons, List.take_zero]
   repeat' (first
    | ((with_reducible refine wpL_skip ?_ ?_ ?_)
       · rfl
       · rfl
       simp only [putS])
    | ((with_reducible refine wpL_quiet ?_ ?_ ?_ ?_)
       · rfl
       · rfl
       · rfl
       apply Exists.intro
       refine ⟨fun W hW hS => ?_, ?_⟩
       · have hC := (Ext.facts hW).1
         go_simp
         first | done | (with_reducible rfl) | (rw [if_neg (by omega)]; exact ⟨rfl, rfl⟩) | rfl
       first | (with_reducible refine wpL_boolT ?_) | (with_reducible refine wpL_boolF ?_) | (with_reducible refine wpL_bool (fun hB => ?_) (fun hB => ?_)) | skip
       all_goals simp only [putS])
    | ((refine wpL_grow ?_ rfl rfl ?_ ?_)
       · rfl
       · intro W hW hS
         have hC := (Ext.facts hW).1;unfold growAt
         go_simp
         simp only [growUpon]
         first | (go_at_call 43; (with_reducible refine Calls.mono (spec_l9Copy _ s _ (by exact Rs.out.ext xe) (by omega)) ?_); rintro e w9_ ⟨v9, rfl, o9, e9⟩; exact ⟨_, rfl, e9, SegmentO.more o9 (Ext.size hW) (Nat.le_refl _)⟩) | (have h48 : SegmentO w10.heap.size W.heap.size W _ s := hS 37 (by decide); exact ⟨xe, SegmentO.single h48 (Ext.size hW) rfl⟩)
       intro v W' hW' hv
       first | (obtain ⟨A8, n8, c8, rfl⟩ := SegmentO.shape hv) | (obtain ⟨A9, n9, c9, rfl⟩ := NO.slice hv) | (obtain ⟨A5, n5, c5, rfl, -⟩ := id hv; clear hv) | (obtain ⟨A5, n5, c5, rfl⟩ := NO.slice hv) | skip
       all_goals simp only [putS]))
   refine wpL_nil (fun w12 e12 hL => ?_);have n6_ : SegmentSO w10.heap.size w12.heap.size w12 (.slice A9 n9 c9) [s] := hL 38;clear hL;have z12 := e12.size;obtain ⟨cs9, fx, hown9, hol9, hnd9, hbd9⟩ := n6_;obtain ⟨hn9, hrow9⟩ := NO.row hown9;subst hn9;have HOP7 := Lib.hid (HOP.out.keep (w' := w12) xe);have OW := Lib.hid (HOP7.out.own0 (by omega));have NN := Lib.hid (HOP7.out.new0 hbd9);have HR9 := Lib.hid hrow9; have HOL9 := Lib.hid hol9; have HFX := Lib.hid (List.nodup_append.1 hnd9).2.1; have HBX := Lib.hid hbd9;clear hrow9 hol9 hnd9 hbd9 hown9;have HB7 := Lib.hid (BZ.out.ext (w' := w12) xe);simp only [List.drop_succ_cons, List.drop_zero];go_wp2_with (at_builtin; refine hold ?_)
   refine unhold (wpList_pushX rfl w0.heap.size SegmentOC.keeps SegmentOC.one (.tmp 35) (.tmp 38) _ rfl 33 _ 3 40 Tryz.underlying28 info_Segment rfl (by omega) (.slice A5 n5 c5) x.down [s] cs0 cs9 f0 fx rfl _ _ _ rfl OW.out HOP7.out.l0 HOP7.out.ne0 HR9.out HOL9.out NN.out (by omega) (by simp only [List.length_singleton]; omega) (by omega) ?_);intro v8 w11 own8 ol8 hg8 hv8;obtain ⟨a8, m8, q8, hv8s⟩ := own8.slice;subst hv8s;have B8 := Lib.hid (Blk.grown HB7.out hg8 (own_off OW.out HB7.out (by decide)));have Q8 := Lib.hid (HOP7.out.push0 (by omega) HFX.out HBX.out own8 ol8 hg8 hv8);have z8 : w12.heap.size ≤ w11.heap.size := hg8.size;have E8 := Lib.hid (Ext.grownB (a := w0) (w := w12) xe OW.out hg8 (Nat.le_refl _));clear own8 ol8 hg8 hv8;have e11 := E8.out;have b8 := B8.out.ext (w' := w11) xe;have lb8 := b8.lt;obtain ⟨qb8_0, qb8_1⟩ := blk2 b8;have fb8_0 := b8.frozen 0;have fb8_1 := b8.frozen 1;clear b8;have br := BR.out.ext (w' := w11) xe;have lbr := br.lt;obtain ⟨qbr_0, qbr_1⟩ := blk2 br;have fbr_0 := br.frozen 0;have fbr_1 := br.frozen 1;clear br;go_wp2_with (at_builtin; refine hold ?_)
   refine bodyPost_ret (v := .agg #[.slice a8 m8 q8, .slice A7 n7 c7]) (by simp [results, Tryz.results13, go_sem, *]) rfl ⟨_, rfl, ?_, ?_⟩
   · have br9 := Blk.far (BR.out.ext (w' := w11) xe) (p := ⟨gz, 0, none⟩) (by dsimp only; omega) (.slice a8 m8 q8)
     have q9 := SegmentDatabaseQ.more (SegmentDatabaseQ.setT Q8.out B8.out 0 (.slice a8 m8 q8)) (lo' := w.heap.size) (by omega) (Nat.le_refl _);rw [HF.out, HK.out];simp only [World.size_setCell];exact SegmentDatabaseQ.setT (SegmentDatabaseQ.setT q9 br9 0 (.slice a8 m8 q8)) (br9.set_ 0 (.slice a8 m8 q8)) 1 (.slice A7 n7 c7)
   · exact xe
 · have HK : Hid (dbPut t x s = ⟨x.down, x.core ++ [s]⟩) := by unfold Hid dbPut; rw [if_neg hk]
   have d1 : (segKind t s == 2) = false := beq_eq_false_iff_ne.2 hk;clear hk;go_wp2_with fail
   clear d1;refine wp_region_LT 5 (E := Ext) (w0 := w10) (G := fun τ => match τ with | 44 => some (fun v W => SegmentO w10.heap.size W.heap.size W v s) | 45 => some (fun v W => SegmentSO w10.heap.size W.heap.size W v [s]) | _ => none) Ext.refl (fun h k => Ext.trans h k) (by kernel_rfl) (by kernel_rfl) (by kernel_rfl) (by kernel_rfl) (by kernel_rfl) (by kernel_rfl) xg (Ext.drew (by exact Ext.refl _)) ?_;simp only [List.take_succ_cons, List.take_zero]
   repeat' (first
    | ((with_reducible refine wpL_skip ?_ ?_ ?_)
       · rfl
       · rfl
       simp only [putS])
    | ((with_reducible refine wpL_quiet ?_ ?_ ?_ ?_)
       · rfl
       · rfl
       · rfl
       apply Exists.intro
       refine ⟨fun W hW hS => ?_, ?_⟩
       · have hC := (Ext.facts hW).1
         go_simp
         first | done | (with_reducible rfl) | (rw [if_neg (by omega)]; exact ⟨rfl, rfl⟩) | rfl
       first | (with_reducible refine wpL_boolT ?_) | (with_reducible refine wpL_boolF ?_) | (with_reducible refine wpL_bool (fun hB => ?_) (fun hB => ?_)) | skip
       all_goals simp only [putS])
    | ((refine wpL_grow ?_ rfl rfl ?_ ?_)
       · rfl
       · intro W hW hS
         have hC := (Ext.facts hW).1;unfold growAt
         go_simp
         simp only [growUpon]
         first | (go_at_call 43; (with_reducible refine Calls.mono (spec_l9Copy _ s _ (by exact Rs.out.ext xe) (by omega)) ?_); rintro e w9_ ⟨v9, rfl, o9, e9⟩; exact ⟨_, rfl, e9, SegmentO.more o9 (Ext.size hW) (Nat.le_refl _)⟩) | (have h48 : SegmentO w10.heap.size W.heap.size W _ s := hS 44 (by decide); exact ⟨xe, SegmentO.single h48 (Ext.size hW) rfl⟩)
       intro v W' hW' hv
       first | (obtain ⟨A8, n8, c8, rfl⟩ := SegmentO.shape hv) | (obtain ⟨A9, n9, c9, rfl⟩ := NO.slice hv) | (obtain ⟨A5, n5, c5, rfl, -⟩ := id hv; clear hv) | (obtain ⟨A5, n5, c5, rfl⟩ := NO.slice hv) | skip
       all_goals simp only [putS]))
   refine wpL_nil (fun w12 e12 hL => ?_);have n6_ : SegmentSO w10.heap.size w12.heap.size w12 (.slice A9 n9 c9) [s] := hL 45;clear hL;have z12 := e12.size;obtain ⟨cs9, fx, hown9, hol9, hnd9, hbd9⟩ := n6_;obtain ⟨hn9, hrow9⟩ := NO.row hown9;subst hn9;have HOP7 := Lib.hid (HOP.out.keep (w' := w12) xe);have OW := Lib.hid (HOP7.out.own1 (by omega));have NN := Lib.hid (HOP7.out.new1 hbd9);have HR9 := Lib.hid hrow9; have HOL9 := Lib.hid hol9; have HFX := Lib.hid (List.nodup_append.1 hnd9).2.1; have HBX := Lib.hid hbd9;clear hrow9 hol9 hnd9 hbd9 hown9;have HB7 := Lib.hid (BZ.out.ext (w' := w12) xe);simp only [List.drop_succ_cons, List.drop_zero];go_wp2_with (at_builtin; refine hold ?_)
   refine unhold (wpList_pushX rfl w0.heap.size SegmentOC.keeps SegmentOC.one (.tmp 42) (.tmp 45) _ rfl 33 _ 3 40 Tryz.underlying28 info_Segment rfl (by omega) (.slice A7 n7 c7) x.core [s] cs1 cs9 f1 fx rfl _ _ _ rfl OW.out HOP7.out.l1 HOP7.out.ne1 HR9.out HOL9.out NN.out (by omega) (by simp only [List.length_singleton]; omega) (by omega) ?_);intro v8 w11 own8 ol8 hg8 hv8;obtain ⟨a8, m8, q8, hv8s⟩ := own8.slice;subst hv8s;have B8 := Lib.hid (Blk.grown HB7.out hg8 (own_off OW.out HB7.out (by decide)));have Q8 := Lib.hid (HOP7.out.push1 (by omega) HFX.out HBX.out own8 ol8 hg8 hv8);have z8 : w12.heap.size ≤ w11.heap.size := hg8.size;have E8 := Lib.hid (Ext.grownB (a := w0) (w := w12) xe OW.out hg8 (Nat.le_refl _));clear own8 ol8 hg8 hv8;have e11 := E8.out;have b8 := B8.out.ext (w' := w11) xe;have lb8 := b8.lt;obtain ⟨qb8_0, qb8_1⟩ := blk2 b8;have fb8_0 := b8.frozen 0;have fb8_1 := b8.frozen 1;clear b8;have br := BR.out.ext (w' := w11) xe;have lbr := br.lt;obtain ⟨qbr_0, qbr_1⟩ := blk2 br;have fbr_0 := br.frozen 0;have fbr_1 := br.frozen 1;clear br;go_wp2_with (at_builtin; refine hold ?_)
   refine bodyPost_ret (v := .agg #[.slice A5 n5 c5, .slice a8 m8 q8]) (by simp [results, Tryz.results13, go_sem, *]) rfl ⟨_, rfl, ?_, ?_⟩
   · have br9 := Blk.far (BR.out.ext (w' := w11) xe) (p := ⟨gz, 1, none⟩) (by dsimp only; omega) (.slice a8 m8 q8)
     have q9 := SegmentDatabaseQ.more (SegmentDatabaseQ.setT Q8.out B8.out 1 (.slice a8 m8 q8)) (lo' := w.heap.size) (by omega) (Nat.le_refl _);rw [HF.out, HK.out];simp only [World.size_setCell];exact SegmentDatabaseQ.setT (SegmentDatabaseQ.setT q9 br9 0 (.slice A5 n5 c5)) (br9.set_ 0 (.slice A5 n5 c5)) 1 (.slice a8 m8 q8)
   · exact xe
theorem termSeg_yes {t : DTopology} {p : DPolicy} {s : DSegment} {r inn : Int} (h : termOk t p s r inn = true) : termSeg t p s r inn = grownSeg t p s r inn 0 := by unfold termSeg; rw [h]; rfl
theorem dbStep_yes {t : DTopology} {l : List DPolicy} {r : Int} {k : DSegmentDatabase} {g : DBeacon} (h : termOk t (polFor l r) g.seg r g.ing = true) : dbStep t l r k g = dbPut t k (grownSeg t (polFor l r) g.seg r g.ing 0) := by unfold dbStep; rw [if_pos h]
theorem dbStep_no {t : DTopology} {l : List DPolicy} {r : Int} {k : DSegmentDatabase} {g : DBeacon} (h : termOk t (polFor l r) g.seg r g.ing = false) : dbStep t l r k g = k := by unfold dbStep; rw [if_neg (by rw [h]; simp)]
theorem dbTo_next (t : DTopology) (l : List DPolicy) (x : List DBeaconStore) (k : Nat) (h : k < x.length) : dbTo t l x (k + 1) = dbGots t l k (dbTo t l x k) x[k].beacons := by
 have h1 : dbTo t l x (k + 1) = dbGots t l k (dbTo t l x k) (x.getD k dStore).beacons := rfl;rw [h1, getD_is h]
theorem dbIn_tot (t : DTopology) (l : List DPolicy) (x : List DBeaconStore) (k j : Nat) (h : k < x.length) (hj : j ≤ x[k].beacons.length) (hn : strTot x ≤ 1048576) : dbTot (dbGots t l k (dbTo t l x k) (x[k].beacons.take j)) ≤ 100000000 := by
 have h1 := dbGots_tot t l k (x[k].beacons.take j) (dbTo t l x k);have h2 := dbTo_tot t l x k (by omega);have h3 := sum_take_le (fun y : DBeaconStore => bcnTot y.beacons) x k;have h4 : strTot x = x.length + (x.map fun y => bcnTot y.beacons).sum := rfl;have h5 := totS_get (fun y : DBeaconStore => bcnTot y.beacons) x k h;have h6 : x[k].beacons.length ≤ bcnTot x[k].beacons := totS_len (fun y : DBeacon => y.seg.hops.length) x[k].beacons;have h7 : strTot x = totS (fun y : DBeaconStore => bcnTot y.beacons) x := rfl;rw [List.length_take, Nat.min_eq_left hj] at h1;omega
theorem dbQ_le {lo hi : Nat} {w : World} {v : Value} {x : DSegmentDatabase} (h : SegmentDatabaseQ lo hi w v x) : lo ≤ hi := by
 obtain ⟨u0, cs0, f0, u1, cs1, f1, e, r0, l0, r1, l1, hn, hb, hl⟩ := h;exact hl
theorem impl_BuildDatabase (vt vl vx : Value) (t : DTopology) (l : List DPolicy) (x : DBeaconing) (w : World) (ht : TopologyV w.heap.size w vt t) (hl : PolicyS w.heap.size w vl l) (hx : BeaconingV w.heap.size w vx x) (hn : strTot x.stores ≤ 1048576) :
 Calls Tryz.prog 14 #[vt, vl, vx] w fun e w' => ∃ v', e = .returned v' ∧ SegmentDatabaseQ w.heap.size w'.heap.size w' v' (buildDb t l x) ∧ Ext w w' := by
 obtain ⟨At_0, nt_0, ct_0, At_1, nt_1, ct_1, rfl, st_0, st_1⟩ := id ht;obtain ⟨lt_0, kt_0, mt_0⟩ := st_0.len;subst lt_0;unfold maxLen at mt_0;obtain ⟨lt_1, kt_1, mt_1⟩ := st_1.len;subst lt_1;unfold maxLen at mt_1;have Rt := Lib.hid ht; clear ht;have St_0 := Lib.hid st_0; clear st_0;have St_1 := Lib.hid st_1; clear st_1;obtain ⟨Al, nl, cl, rfl, ll, kl, ml, -⟩ := id hl;subst ll;unfold maxLen at ml;have Rl := Lib.hid hl; clear hl;obtain ⟨Ax_1, nx_1, cx_1, rfl, sx_1⟩ := id hx;obtain ⟨lx_1, kx_1, mx_1⟩ := sx_1.len;subst lx_1;unfold maxLen at mx_1;have Rx := Lib.hid hx; clear hx;have Sx_1 := Lib.hid sx_1; clear sx_1
 go_enter Tryz.func14, Tryz.ntmps14
 go_wp2_with fail
 refine name_wp (fun W => ∃ wb, wb.heap.size = w.heap.size + 1 + 1 + 1 ∧ Ext w wb ∧ Blk wb w.heap.size 27 [.slice At_0 t.ases.length ct_0, .slice At_1 t.links.length ct_1] ∧ Blk wb (w.heap.size + 1) 40 [I x.ts, .slice Ax_1 x.stores.length cx_1] ∧ Blk wb (w.heap.size + 1 + 1) 30 [.slice none 0 0, .slice none 0 0] ∧ Ext wb W ∧ Blk W (w.heap.size + 1 + 1 + 1) 30 [.slice none 0 0, .slice none 0 0]) ⟨_, (by simp only [World.size_alloc]), xe, xb, xb, xb, (Ext.refl _).alloc _, xb⟩ ?_;rintro w0 ⟨wb, zb, ewb, bt, bx, br, ew0, b0⟩;have Bt := Lib.hid bt; have Bx := Lib.hid bx; have BR := Lib.hid br; have B0 := Lib.hid b0; clear bt bx br b0;have zw0 := ew0.size; have zwb := ewb.size
 go_loopw [17] (fun i wr => ∃ (k : Nat) (A0 : Option Addr) (n0 c0 : Nat) (A1 : Option Addr) (n1 c1 : Nat), k ≤ x.stores.length ∧ i = I k ∧ Blk wr (w.heap.size + 1 + 1 + 1) 30 [.slice A0 n0 c0, .slice A1 n1 c1] ∧ SegmentDatabaseQ w0.heap.size wr.heap.size wr (.agg #[.slice A0 n0 c0, .slice A1 n1 c1]) (dbTo t l x.stores k) ∧ Ext wb wr) (fun i _ => x.stores.length - (intOf i).toNat)
 case atStart => exact ⟨0, _, _, _, _, _, _, by omega, rfl, B0.out, SegmentDatabaseQ.nil _ _ _ (Nat.le_refl _), xe⟩
 case round =>
  obtain ⟨k, A0, n0, c0, A1, n1, c1, hk, rfl, hb7, hq, he⟩ := hrel;have HB7 := Lib.hid hb7; have HQ := Lib.hid hq; clear hb7 hq;have zr := he.size;by_cases hlt : k < x.stores.length
  · obtain ⟨b, off, hA, hb, hkl, hc⟩ := Sx_1.out.at_ hlt
    have hyl : bcnTot x.stores[k].beacons ≤ strTot x.stores := totS_get (fun y : DBeaconStore => bcnTot y.beacons) x.stores k hkl;have HX := Lib.hid (dbTo_next t l x.stores k hkl);have H39 : Hid (∀ j, j ≤ x.stores[k].beacons.length → dbTot (dbGots t l k (dbTo t l x.stores k) (x.stores[k].beacons.take j)) ≤ 100000000) := fun j hj => dbIn_tot t l x.stores k j hkl hj hn
    generalize x.stores[k] = u at *
    generalize dbTo t l x.stores k = db0 at *
    have hul : u.beacons.length ≤ bcnTot u.beacons := totS_len (fun y : DBeacon => y.seg.hops.length) u.beacons;subst hA;obtain ⟨Au_0, nu_0, cu_0, hu_0, su_0⟩ := hc;obtain ⟨lu_0, ku_0, mu_0⟩ := su_0.len;subst lu_0;unfold maxLen at mu_0
    have Ru : Hid (BeaconStoreV w.heap.size w (.agg #[.slice Au_0 u.beacons.length cu_0]) u) := ⟨_, _, _, rfl, su_0⟩
    have Su_0 := Lib.hid su_0; clear su_0
    have k0 : (0 : Int) ≤ (k : Int) := by omega
    have k1 : (k : Int) < (x.stores.length : Int) := by omega
    have ku_0 := (Ext.cell (a := w) (b := wr) xe hb).trans hu_0;go_wp2_with fail
    clear ku_0;refine name_wp (fun W => Ext wr W) xe ?_;rintro w4 ew4
    go_loopw [25] (fun i wr => ∃ (j : Nat) (A0 : Option Addr) (n0 c0 : Nat) (A1 : Option Addr) (n1 c1 : Nat), j ≤ u.beacons.length ∧ i = I j ∧ Blk wr (w.heap.size + 1 + 1 + 1) 30 [.slice A0 n0 c0, .slice A1 n1 c1] ∧ SegmentDatabaseQ w0.heap.size wr.heap.size wr (.agg #[.slice A0 n0 c0, .slice A1 n1 c1]) (dbGots t l k db0 (u.beacons.take j)) ∧ Ext wb wr) (fun i _ => u.beacons.length - (intOf i).toNat)
    case atStart => exact ⟨0, A0, n0, c0, A1, n1, c1, by omega, rfl, HB7.out.ext xe, SegmentDatabaseQ.up HQ.out xe, xe⟩
    case round =>
     clear HB7 HQ;obtain ⟨j, A0, n0, c0, A1, n1, c1, hj, rfl, hb7, hq, he2⟩ := hrel;have HB7 := Lib.hid hb7; have HQ := Lib.hid hq; clear hb7 hq;have zi := he2.size;by_cases hlt2 : j < u.beacons.length
     · obtain ⟨b2, off2, hA2, hb2, hkl2, hc2⟩ := Su_0.out.at_ hlt2
       have hml : u.beacons[j].seg.hops.length ≤ bcnTot u.beacons := totS_get (fun y : DBeacon => y.seg.hops.length) u.beacons j hkl2;have HS := Lib.hid (dbGots_snoc t l k db0 u.beacons j hkl2);have htt := H39.out j (by omega)
       generalize u.beacons[j] = m at *
       generalize dbGots t l k db0 (u.beacons.take j) = db at *
       subst hA2;obtain ⟨Am_3, nm_3, cm_3, hm_0, hm_1, hm_2, hm_3, sm_3⟩ := hc2;obtain ⟨lm_3, km_3, mm_3⟩ := sm_3.len;subst lm_3;unfold maxLen at mm_3
       have Rm : Hid (BeaconV w.heap.size w (.agg #[I m.ing, I m.seg.ts, I m.seg.beta, .slice Am_3 m.seg.hops.length cm_3]) m) := ⟨_, _, _, rfl, sm_3⟩
       have Sm_3 := Lib.hid sm_3; clear sm_3
       have j0 : (0 : Int) ≤ (j : Int) := by omega
       have j1 : (j : Int) < (u.beacons.length : Int) := by omega
       have hlo := dbQ_le HQ.out;have HY : Hid (termOk t (polFor l k) m.seg k m.ing = true → dbStep t l k db m = dbPut t db (grownSeg t (polFor l k) m.seg k m.ing 0)) := fun h => dbStep_yes h;have HN : Hid (termOk t (polFor l k) m.seg k m.ing = false → dbStep t l k db m = db) := fun h => dbStep_no h
       generalize hpl : polFor l (k : Int) = p at *
       have HPL := Lib.hid hpl; clear hpl;obtain ⟨km_0, km_1, km_2, km_3⟩ := And.intro ((Ext.cell (a := w) (b := wr) xe hb2).trans hm_0) (And.intro ((Ext.cell (a := w) (b := wr) xe hb2).trans hm_1) (And.intro ((Ext.cell (a := w) (b := wr) xe hb2).trans hm_2) ((Ext.cell (a := w) (b := wr) xe hb2).trans hm_3)));have bt := Bt.out.ext (w' := wr) xe;have lt := bt.lt;obtain ⟨pt_0, pt_1⟩ := blk2 bt;clear bt;go_wp2_with fail
       clear km_0 km_1 km_2 km_3 pt_0 pt_1 lt
       first | refine name_wp ?_ ?_ ?_ | refine name_calls ?_ ?_ ?_
       exact (fun W => Ext wr W ∧ Blk W (wr.heap.size) 78 [I m.ing, I m.seg.ts, I m.seg.beta, .slice Am_3 m.seg.hops.length cm_3]);exact ⟨xe, xb⟩;rintro w5 ⟨ew5, bm⟩;have lm := bm.lt;obtain ⟨pm_0, pm_1, pm_2, pm_3⟩ := blk4 bm;have Bm := Lib.hid bm; clear bm;have bt := Bt.out.ext (w' := w5) xe;have lt := bt.lt;obtain ⟨pt_0, pt_1⟩ := blk2 bt;clear bt;have z5 := ew5.size
       generalize hsg : termSeg t p m.seg k m.ing = sg at *
       have HSG := Lib.hid hsg; clear hsg;cases hv : termOk t p m.seg k m.ing
       · have HD := Lib.hid (HS.out.trans (HN.out hv))
         have HV := Lib.hid hv; clear hv;refine wp_region_LQ 14 12 _ _ _ rfl (E := Ext) (w0 := w5) (G := fun τ => match τ with | 33 => some (fun v W => v = .agg #[I p.maxLen, I p.denied, I p.closed, I p.life]) | 39 => some (fun v W => PairO w5.heap.size false sg v W) | 12 => some (fun v W => Zero1 33 w5.heap.size [I 0, I 0, .slice none 0 0] v W) | _ => none)  Ext.refl (fun h k => Ext.trans h k) (by kernel_rfl) (by kernel_rfl) (by kernel_rfl) (by kernel_rfl) rfl rfl rfl rfl rfl rfl (by kernel_rfl) (pure_extract rfl) (by kernel_rfl) (by kernel_rfl) (by kernel_rfl) (by kernel_rfl) (by kernel_rfl) (by kernel_rfl) xg (Ext.drew (by exact Ext.refl _)) ?_;simp only [List.take_succ_cons, List.take_zero]
         repeat' (first
          | ((with_reducible refine wpL_skip ?_ ?_ ?_)
             · rfl
             · rfl
             simp only [putS])
          | ((with_reducible refine wpL_quiet ?_ ?_ ?_ ?_)
             · rfl
             · rfl
             · rfl
             apply Exists.intro
             refine ⟨fun W hW hS => ?_, ?_⟩
             · have hC := (Ext.facts hW).1
               go_simp
               first | done | (with_reducible rfl) | (rw [if_neg (by omega)]; exact ⟨rfl, rfl⟩) | rfl
             first | (with_reducible refine wpL_boolT ?_) | (with_reducible refine wpL_boolF ?_) | (with_reducible refine wpL_bool (fun hB => ?_) (fun hB => ?_)) | skip
             all_goals simp only [putS])
          | ((refine wpL_call ?_ rfl rfl ?_ ?_ ?_)
             · rfl
             · rfl
             · intro W hW hS
               have hC := (Ext.facts hW).1;unfold growAt
               go_simp
               simp only [growUpon]
               first | (go_at_call 45; (with_reducible refine Calls.mono (impl_PolicyFor _ (k : Int) l _ (by exact Rl.out.ext xe)) ?_); rintro e w9 ⟨rfl, e9⟩; exact ⟨_, rfl, e9, by rw [HPL.out]⟩) | (go_at_call 44; (with_reducible refine Calls.mono (impl_Terminate _ p _ (k : Int) m.ing t m.seg _ (by exact Rt.out.ext xe) (by exact segV (Sm_3.out.ext xe)) (by omega)) ?_); rintro e w9 ⟨v9, rfl, o9, e9⟩; exact ⟨_, rfl, e9, v9, by rw [HV.out], by rw [← HSG.out]; exact SegmentO.more o9 (Ext.size hW) (Nat.le_refl _)⟩) | (exact ⟨xe, _, rfl, Ext.size (by assumption), Blk.new _ _ _⟩)
             first | (with_reducible refine wpL_boolT ?_) | (with_reducible refine wpL_boolF ?_) | (with_reducible refine wpL_bool (fun hB => ?_) (fun hB => ?_)) | skip
             all_goals simp only [putS])
          | ((refine wpL_grow ?_ rfl rfl ?_ ?_)
             · rfl
             · intro W hW hS
               have hC := (Ext.facts hW).1;unfold growAt
               go_simp
               simp only [growUpon]
               first | (go_at_call 45; (with_reducible refine Calls.mono (impl_PolicyFor _ (k : Int) l _ (by exact Rl.out.ext xe)) ?_); rintro e w9 ⟨rfl, e9⟩; exact ⟨_, rfl, e9, by rw [HPL.out]⟩) | (go_at_call 44; (with_reducible refine Calls.mono (impl_Terminate _ p _ (k : Int) m.ing t m.seg _ (by exact Rt.out.ext xe) (by exact segV (Sm_3.out.ext xe)) (by omega)) ?_); rintro e w9 ⟨v9, rfl, o9, e9⟩; exact ⟨_, rfl, e9, v9, by rw [HV.out], by rw [← HSG.out]; exact SegmentO.more o9 (Ext.size hW) (Nat.le_refl _)⟩) | (exact ⟨xe, _, rfl, Ext.size (by assumption), Blk.new _ _ _⟩)
             intro v W' hW' hv
             first | (subst hv) | (obtain ⟨v8, rfl, hv8⟩ := hv; obtain ⟨A8, n8, c8, rfl⟩ := SegmentO.shape hv8) | (obtain ⟨g5, rfl, -⟩ := hv) | (obtain ⟨A5, n5, c5, rfl, -⟩ := id hv; clear hv) | (obtain ⟨A5, n5, c5, rfl⟩ := NO.slice hv) | skip
             all_goals simp only [putS]))
         refine wpL_nil (fun w6 ew6 hL => ?_);have pz : Zero1 33 w5.heap.size [I 0, I 0, .slice none 0 0] _ w6 := hL 12;obtain ⟨gz, hgz, hgl, hbz⟩ := pz
         have hge : gz = g5 := by injection hgz with h; injection h with h; injection h with h1; exact h1.symm
         subst hge;clear hgz hL;have zw6 := ew6.size;have lz := hbz.lt;obtain ⟨yz_0, yz_1, yz_2⟩ := blk3 hbz;have fz_0 := hbz.frozen 0;have fz_1 := hbz.frozen 1;have fz_2 := hbz.frozen 2;have BW := Lib.hid (Blk.set_ (Blk.set_ (Blk.set_ hbz 0 (I sg.ts)) 1 (I sg.beta)) 2 (.slice A8 n8 c8));clear hbz
         apply Exists.intro
         refine ⟨⟨_, ?run, .inl rfl⟩, ?_⟩
         case run =>
          go_simp
          first | done | rfl
         go_wp2_with fail
         clear yz_0 fz_0 yz_1 fz_1 yz_2 fz_2;go_roundw
         case rel => exact ⟨j + 1, A0, n0, c0, A1, n1, c1, by omega, by go_num, HB7.out.ext xe, by rw [HD.out]; exact SegmentDatabaseQ.up HQ.out xe, xe⟩
         case measure => simp [intOf]; omega
       · have HD := Lib.hid (HS.out.trans (HY.out hv))
         have hsy := (HSG.out.symm.trans (termSeg_yes hv)).symm;rw [hsy] at HD
         have hsl : sg.hops.length ≤ 10 := by rw [← hsy, grownSeg_len]; have := validSeg_len (canExt_valid (termOk_can hv)); omega
         clear hsy;have HV := Lib.hid hv; clear hv;refine wp_region_LQ 14 12 _ _ _ rfl (E := Ext) (w0 := w5) (G := fun τ => match τ with | 33 => some (fun v W => v = .agg #[I p.maxLen, I p.denied, I p.closed, I p.life]) | 39 => some (fun v W => PairO w5.heap.size true sg v W) | 12 => some (fun v W => Zero1 33 w5.heap.size [I 0, I 0, .slice none 0 0] v W) | _ => none)  Ext.refl (fun h k => Ext.trans h k) (by kernel_rfl) (by kernel_rfl) (by kernel_rfl) (by kernel_rfl) rfl rfl rfl rfl rfl rfl (by kernel_rfl) (pure_extract rfl) (by kernel_rfl) (by kernel_rfl) (by kernel_rfl) (by kernel_rfl) (by kernel_rfl) (by kernel_rfl) xg (Ext.drew (by exact Ext.refl _)) ?_;simp only [List.take_succ_cons, List.take_zero]
         repeat' (first
          | ((with_reducible refine wpL_skip ?_ ?_ ?_)
             · rfl
             · rfl
             simp only [putS])
          | ((with_reducible refine wpL_quiet ?_ ?_ ?_ ?_)
             · rfl
             · rfl
             · rfl
             apply Exists.intro
             refine ⟨fun W hW hS => ?_, ?_⟩
             · have hC := (Ext.facts hW).1
               go_simp
               first | done | (with_reducible rfl) | (rw [if_neg (by omega)]; exact ⟨rfl, rfl⟩) | rfl
             first | (with_reducible refine wpL_boolT ?_) | (with_reducible refine wpL_boolF ?_) | (with_reducible refine wpL_bool (fun hB => ?_) (fun hB => ?_)) | skip
             all_goals simp only [putS])
          | ((refine wpL_call ?_ rfl rfl ?_ ?_ ?_)
             · rfl
             · rfl
             · intro W hW hS
               have hC := (Ext.facts hW).1;unfold growAt
               go_simp
               simp only [growUpon]
               first | (go_at_call 45; (with_reducible refine Calls.mono (impl_PolicyFor _ (k : Int) l _ (by exact Rl.out.ext xe)) ?_); rintro e w9 ⟨rfl, e9⟩; exact ⟨_, rfl, e9, by rw [HPL.out]⟩) | (go_at_call 44; (with_reducible refine Calls.mono (impl_Terminate _ p _ (k : Int) m.ing t m.seg _ (by exact Rt.out.ext xe) (by exact segV (Sm_3.out.ext xe)) (by omega)) ?_); rintro e w9 ⟨v9, rfl, o9, e9⟩; exact ⟨_, rfl, e9, v9, by rw [HV.out], by rw [← HSG.out]; exact SegmentO.more o9 (Ext.size hW) (Nat.le_refl _)⟩) | (exact ⟨xe, _, rfl, Ext.size (by assumption), Blk.new _ _ _⟩)
             first | (with_reducible refine wpL_boolT ?_) | (with_reducible refine wpL_boolF ?_) | (with_reducible refine wpL_bool (fun hB => ?_) (fun hB => ?_)) | skip
             all_goals simp only [putS])
          | ((refine wpL_grow ?_ rfl rfl ?_ ?_)
             · rfl
             · intro W hW hS
               have hC := (Ext.facts hW).1;unfold growAt
               go_simp
               simp only [growUpon]
               first | (go_at_call 45; (with_reducible refine Calls.mono (impl_PolicyFor _ (k : Int) l _ (by exact Rl.out.ext xe)) ?_); rintro e w9 ⟨rfl, e9⟩; exact ⟨_, rfl, e9, by rw [HPL.out]⟩) | (go_at_call 44; (with_reducible refine Calls.mono (impl_Terminate _ p _ (k : Int) m.ing t m.seg _ (by exact Rt.out.ext xe) (by exact segV (Sm_3.out.ext xe)) (by omega)) ?_); rintro e w9 ⟨v9, rfl, o9, e9⟩; exact ⟨_, rfl, e9, v9, by rw [HV.out], by rw [← HSG.out]; exact SegmentO.more o9 (Ext.size hW) (Nat.le_refl _)⟩) | (exact ⟨xe, _, rfl, Ext.size (by assumption), Blk.new _ _ _⟩)
             intro v W' hW' hv
             first | (subst hv) | (obtain ⟨v8, rfl, hv8⟩ := hv; obtain ⟨A8, n8, c8, rfl⟩ := SegmentO.shape hv8) | (obtain ⟨g5, rfl, -⟩ := hv) | (obtain ⟨A5, n5, c5, rfl, -⟩ := id hv; clear hv) | (obtain ⟨A5, n5, c5, rfl⟩ := NO.slice hv) | skip
             all_goals simp only [putS]))
         refine wpL_nil (fun w6 ew6 hL => ?_);have o1 : SegmentO w5.heap.size w6.heap.size w6 (.agg #[I sg.ts, I sg.beta, .slice A8 n8 c8]) sg := PairO.seg (hL 39);have pz : Zero1 33 w5.heap.size [I 0, I 0, .slice none 0 0] _ w6 := hL 12;obtain ⟨gz, hgz, hgl, hbz⟩ := pz
         have hge : gz = g5 := by injection hgz with h; injection h with h; injection h with h1; exact h1.symm
         subst hge;clear hgz hL;have zw6 := ew6.size;have lz := hbz.lt;obtain ⟨yz_0, yz_1, yz_2⟩ := blk3 hbz;have fz_0 := hbz.frozen 0;have fz_1 := hbz.frozen 1;have fz_2 := hbz.frozen 2;have Zo1 := Lib.hid (SegmentO.setT (SegmentO.setT (SegmentO.setT o1 hbz 0 (I sg.ts)) (Blk.set_ hbz 0 (I sg.ts)) 1 (I sg.beta)) (Blk.set_ (Blk.set_ hbz 0 (I sg.ts)) 1 (I sg.beta)) 2 (.slice A8 n8 c8));have bt := Bt.out.ext (w' := w6) xe;have lt := bt.lt;obtain ⟨pt_0, pt_1⟩ := blk2 bt;clear bt;have BW := Lib.hid (Blk.set_ (Blk.set_ (Blk.set_ hbz 0 (I sg.ts)) 1 (I sg.beta)) 2 (.slice A8 n8 c8));clear hbz o1
         apply Exists.intro
         refine ⟨⟨_, ?run, .inl rfl⟩, ?_⟩
         case run =>
          go_simp
          first | done | rfl
         go_wp2_with fail
         clear yz_0 fz_0 yz_1 fz_1 yz_2 fz_2
         first | refine name_wp ?_ ?_ ?_ | refine name_calls ?_ ?_ ?_
         exact (fun W => Ext w5 W ∧ w6.heap.size = W.heap.size ∧ Blk W gz 33 [I sg.ts, I sg.beta, .slice A8 n8 c8] ∧ SegmentO w5.heap.size W.heap.size W (.agg #[I sg.ts, I sg.beta, .slice A8 n8 c8]) sg);exact ⟨xe, (by simp only [World.size_setCell]), (by simpa using BW.out), (by (try simp only [World.size_setCell]); exact Zo1.out)⟩;clear BW Zo1;rintro w7 ⟨ew7, zw7, bz, o1⟩;have BZ := Lib.hid bz; clear bz;have Ho1 := Lib.hid o1; clear o1;have z7 := ew7.size;clear pt_0 pt_1 lt pm_0 pm_1 pm_2 pm_3 lm;refine (impl_put (w.heap.size + 1 + 1 + 1) _ _ A0 A1 n0 c0 n1 c1 t db sg w0.heap.size wr.heap.size _ (by exact Rt.out.ext xe) (by exact SegmentO_rd Ho1.out (Nat.le_refl _)) (by exact SegmentO.more Ho1.out z5 (Nat.le_refl _)) (by exact HB7.out.ext xe) (by exact HQ.out.ext (w' := w7) xe (Nat.le_refl _)) (by omega) htt).mono ?_;rintro e w8 ⟨rfl, ⟨a0, p0, q0, a1, p1, q1, hb8, hq8⟩, hf8⟩;have e8 : Ext wb w8 := hf8 wb xe (by omega) (by omega);have B8 := Lib.hid hb8; have Q8 := Lib.hid hq8; clear hb8 hq8 hf8;go_wp2_with fail
         go_roundw
         case rel => exact ⟨j + 1, a0, p0, q0, a1, p1, q1, by omega, by go_num, B8.out, by rw [HD.out]; exact Q8.out, e8⟩
         case measure => simp [intOf]; omega
     · obtain rfl : j = u.beacons.length := by omega
       rw [List.take_length, ← HX.out] at HQ;go_wp2_with fail
       go_roundw
       case rel => exact ⟨k + 1, A0, n0, c0, A1, n1, c1, by omega, by go_num, HB7.out, HQ.out, xe⟩
       case measure => simp [intOf]; omega
  · obtain rfl : k = x.stores.length := by omega
    have k1 : ¬ (x.stores.length : Int) < (x.stores.length : Int) := by omega
    have hlo := dbQ_le HQ.out;have HF : Hid (dbTo t l x.stores x.stores.length = buildDb t l x) := rfl;have b7 := HB7.out.ext (w' := wr) xe;have lb7 := b7.lt;obtain ⟨qb7_0, qb7_1⟩ := blk2 b7;have fb7_0 := b7.frozen 0;have fb7_1 := b7.frozen 1;clear b7;have br := BR.out.ext (w' := wr) xe;have lbr := br.lt;obtain ⟨qbr_0, qbr_1⟩ := blk2 br;have fbr_0 := br.frozen 0;have fbr_1 := br.frozen 1;clear br;go_wp2_with fail
    refine bodyPost_ret (v := .agg #[.slice A0 n0 c0, .slice A1 n1 c1]) (by simp [results, Tryz.results14, go_sem, *]) rfl ⟨_, rfl, ?_, xe⟩;have br9 := BR.out.ext (w' := wr) xe;have q9 := SegmentDatabaseQ.more HQ.out (lo' := w.heap.size) (by omega) (Nat.le_refl _);rw [HF.out] at q9;simp only [World.size_setCell];exact SegmentDatabaseQ.setT (SegmentDatabaseQ.setT q9 br9 0 (.slice A0 n0 c0)) (br9.set_ 0 (.slice A0 n0 c0)) 1 (.slice A1 n1 c1)
theorem spec_BuildDatabase (vt vl vx : Value) (t : DTopology) (l : List DPolicy) (x : DBeaconing) (w : World) (ht : TopologyV w.heap.size w vt t) (hl : PolicyS w.heap.size w vl l) (hx : BeaconingV w.heap.size w vx x) (hn : strTot x.stores ≤ 1048576) :
 Calls Tryz.prog 15 #[vt, vl, vx] w fun e w' => ∃ v', e = .returned v' ∧ SegmentDatabaseQ w.heap.size w'.heap.size w' v' (buildDb t l x) ∧ Ext w w' := by
 obtain ⟨At_0, nt_0, ct_0, At_1, nt_1, ct_1, rfl, st_0, st_1⟩ := id ht;obtain ⟨lt_0, kt_0, mt_0⟩ := st_0.len;subst lt_0;unfold maxLen at mt_0;obtain ⟨lt_1, kt_1, mt_1⟩ := st_1.len;subst lt_1;unfold maxLen at mt_1;have Rt := Lib.hid ht; clear ht;have St_0 := Lib.hid st_0; clear st_0;have St_1 := Lib.hid st_1; clear st_1;obtain ⟨Al, nl, cl, rfl, ll, kl, ml, -⟩ := id hl;subst ll;unfold maxLen at ml;have Rl := Lib.hid hl; clear hl;obtain ⟨Ax_1, nx_1, cx_1, rfl, sx_1⟩ := id hx;obtain ⟨lx_1, kx_1, mx_1⟩ := sx_1.len;subst lx_1;unfold maxLen at mx_1;have Rx := Lib.hid hx; clear hx;have Sx_1 := Lib.hid sx_1; clear sx_1
 go_enter Tryz.func15, Tryz.ntmps15
 go_wp2_with fail
 refine name_wp (fun W => ∃ wb, wb.heap.size = w.heap.size + 1 + 1 + 1 ∧ Ext w wb ∧ Blk wb w.heap.size 27 [.slice At_0 t.ases.length ct_0, .slice At_1 t.links.length ct_1] ∧ Blk wb (w.heap.size + 1) 40 [I x.ts, .slice Ax_1 x.stores.length cx_1] ∧ Blk wb (w.heap.size + 1 + 1) 30 [.slice none 0 0, .slice none 0 0] ∧ Ext wb W ∧ Blk W (w.heap.size + 1 + 1 + 1) 30 [.slice none 0 0, .slice none 0 0]) ⟨_, (by simp only [World.size_alloc]), xe, xb, xb, xb, (Ext.refl _).alloc _, xb⟩ ?_;rintro w0 ⟨wb, zb, ewb, bt, bx, br, ew0, b0⟩;have Bt := Lib.hid bt; have Bx := Lib.hid bx; have BR := Lib.hid br; have B0 := Lib.hid b0; clear bt bx br b0;have zw0 := ew0.size; have zwb := ewb.size
 go_loopw [8] (fun i wr => ∃ (k : Nat) (A0 : Option Addr) (n0 c0 : Nat) (A1 : Option Addr) (n1 c1 : Nat), k ≤ x.stores.length ∧ i = I k ∧ Blk wr (w.heap.size + 1 + 1 + 1) 30 [.slice A0 n0 c0, .slice A1 n1 c1] ∧ SegmentDatabaseQ w0.heap.size wr.heap.size wr (.agg #[.slice A0 n0 c0, .slice A1 n1 c1]) (dbTo t l x.stores k) ∧ Ext wb wr) (fun i _ => x.stores.length - (intOf i).toNat)
 case atStart => exact ⟨0, _, _, _, _, _, _, by omega, rfl, B0.out, SegmentDatabaseQ.nil _ _ _ (Nat.le_refl _), xe⟩
 case round =>
  obtain ⟨k, A0, n0, c0, A1, n1, c1, hk, rfl, hb7, hq, he⟩ := hrel;have HB7 := Lib.hid hb7; have HQ := Lib.hid hq; clear hb7 hq;have zr := he.size;have bx := Bx.out.ext (w' := wr) xe;have lx := bx.lt;obtain ⟨px_0, px_1⟩ := blk2 bx;clear bx;by_cases hlt : k < x.stores.length
  · obtain ⟨b, off, hA, hb, hkl, hc⟩ := Sx_1.out.at_ hlt
    have hyl : bcnTot x.stores[k].beacons ≤ strTot x.stores := totS_get (fun y : DBeaconStore => bcnTot y.beacons) x.stores k hkl;have HX := Lib.hid (dbTo_next t l x.stores k hkl);have H51 : Hid (∀ j, j ≤ x.stores[k].beacons.length → dbTot (dbGots t l k (dbTo t l x.stores k) (x.stores[k].beacons.take j)) ≤ 100000000) := fun j hj => dbIn_tot t l x.stores k j hkl hj hn
    generalize x.stores[k] = u at *
    generalize dbTo t l x.stores k = db0 at *
    have hul : u.beacons.length ≤ bcnTot u.beacons := totS_len (fun y : DBeacon => y.seg.hops.length) u.beacons;subst hA;obtain ⟨Au_0, nu_0, cu_0, hu_0, su_0⟩ := hc;obtain ⟨lu_0, ku_0, mu_0⟩ := su_0.len;subst lu_0;unfold maxLen at mu_0
    have Ru : Hid (BeaconStoreV w.heap.size w (.agg #[.slice Au_0 u.beacons.length cu_0]) u) := ⟨_, _, _, rfl, su_0⟩
    have Su_0 := Lib.hid su_0; clear su_0
    have k0 : (0 : Int) ≤ (k : Int) := by omega
    have k1 : (k : Int) < (x.stores.length : Int) := by omega
    go_wp2_with fail
    clear px_0 px_1 lx
    go_loopw [9] (fun i wr => ∃ (j : Nat) (A0 : Option Addr) (n0 c0 : Nat) (A1 : Option Addr) (n1 c1 : Nat), j ≤ u.beacons.length ∧ i = I j ∧ Blk wr (w.heap.size + 1 + 1 + 1) 30 [.slice A0 n0 c0, .slice A1 n1 c1] ∧ SegmentDatabaseQ w0.heap.size wr.heap.size wr (.agg #[.slice A0 n0 c0, .slice A1 n1 c1]) (dbGots t l k db0 (u.beacons.take j)) ∧ Ext wb wr) (fun i _ => u.beacons.length - (intOf i).toNat)
    case atStart => exact ⟨0, A0, n0, c0, A1, n1, c1, by omega, rfl, HB7.out.ext xe, SegmentDatabaseQ.up HQ.out xe, xe⟩
    case round =>
     clear HB7 HQ;obtain ⟨j, A0, n0, c0, A1, n1, c1, hj, rfl, hb7, hq, he2⟩ := hrel;have HB7 := Lib.hid hb7; have HQ := Lib.hid hq; clear hb7 hq;have zi := he2.size;have bx := Bx.out.ext (w' := wr) xe;have lx := bx.lt;obtain ⟨px_0, px_1⟩ := blk2 bx;clear bx;have ku_0 := (Ext.cell (a := w) (b := wr) xe hb).trans hu_0;by_cases hlt2 : j < u.beacons.length
     · obtain ⟨b2, off2, hA2, hb2, hkl2, hc2⟩ := Su_0.out.at_ hlt2
       have hml : u.beacons[j].seg.hops.length ≤ bcnTot u.beacons := totS_get (fun y : DBeacon => y.seg.hops.length) u.beacons j hkl2;have HS := Lib.hid (dbGots_snoc t l k db0 u.beacons j hkl2);have htt := H51.out j (by omega)
       generalize u.beacons[j] = m at *
       generalize dbGots t l k db0 (u.beacons.take j) = db at *
       subst hA2;obtain ⟨Am_3, nm_3, cm_3, hm_0, hm_1, hm_2, hm_3, sm_3⟩ := hc2;obtain ⟨lm_3, km_3, mm_3⟩ := sm_3.len;subst lm_3;unfold maxLen at mm_3
       have Rm : Hid (BeaconV w.heap.size w (.agg #[I m.ing, I m.seg.ts, I m.seg.beta, .slice Am_3 m.seg.hops.length cm_3]) m) := ⟨_, _, _, rfl, sm_3⟩
       have Sm_3 := Lib.hid sm_3; clear sm_3
       have j0 : (0 : Int) ≤ (j : Int) := by omega
       have j1 : (j : Int) < (u.beacons.length : Int) := by omega
       have hlo := dbQ_le HQ.out;have HY : Hid (termOk t (polFor l k) m.seg k m.ing = true → dbStep t l k db m = dbPut t db (grownSeg t (polFor l k) m.seg k m.ing 0)) := fun h => dbStep_yes h;have HN : Hid (termOk t (polFor l k) m.seg k m.ing = false → dbStep t l k db m = db) := fun h => dbStep_no h
       generalize hpl : polFor l (k : Int) = p at *
       have HPL := Lib.hid hpl; clear hpl;obtain ⟨km_0, km_1, km_2, km_3⟩ := And.intro ((Ext.cell (a := w) (b := wr) xe hb2).trans hm_0) (And.intro ((Ext.cell (a := w) (b := wr) xe hb2).trans hm_1) (And.intro ((Ext.cell (a := w) (b := wr) xe hb2).trans hm_2) ((Ext.cell (a := w) (b := wr) xe hb2).trans hm_3)));have bt := Bt.out.ext (w' := wr) xe;have lt := bt.lt;obtain ⟨pt_0, pt_1⟩ := blk2 bt;clear bt;go_wp2_with fail
       clear km_0 km_1 km_2 km_3 pt_0 pt_1 lt px_0 px_1 lx ku_0
       first | refine name_wp ?_ ?_ ?_ | refine name_calls ?_ ?_ ?_
       exact (fun W => Ext wr W ∧ Blk W (wr.heap.size) 78 [I m.ing, I m.seg.ts, I m.seg.beta, .slice Am_3 m.seg.hops.length cm_3]);exact ⟨xe, xb⟩;rintro w5 ⟨ew5, bm⟩;have lm := bm.lt;obtain ⟨pm_0, pm_1, pm_2, pm_3⟩ := blk4 bm;have Bm := Lib.hid bm; clear bm;have bt := Bt.out.ext (w' := w5) xe;have lt := bt.lt;obtain ⟨pt_0, pt_1⟩ := blk2 bt;clear bt;have z5 := ew5.size
       generalize hsg : termSeg t p m.seg k m.ing = sg at *
       have HSG := Lib.hid hsg; clear hsg;cases hv : termOk t p m.seg k m.ing
       · have HD := Lib.hid (HS.out.trans (HN.out hv))
         have HV := Lib.hid hv; clear hv;refine wp_region_LQ 14 12 _ _ _ rfl (E := Ext) (w0 := w5) (G := fun τ => match τ with | 45 => some (fun v W => v = .agg #[I p.maxLen, I p.denied, I p.closed, I p.life]) | 51 => some (fun v W => PairO w5.heap.size false sg v W) | 11 => some (fun v W => Zero1 33 w5.heap.size [I 0, I 0, .slice none 0 0] v W) | _ => none)  Ext.refl (fun h k => Ext.trans h k) (by kernel_rfl) (by kernel_rfl) (by kernel_rfl) (by kernel_rfl) rfl rfl rfl rfl rfl rfl (by kernel_rfl) (pure_extract rfl) (by kernel_rfl) (by kernel_rfl) (by kernel_rfl) (by kernel_rfl) (by kernel_rfl) (by kernel_rfl) xg (Ext.drew (by exact Ext.refl _)) ?_;simp only [List.take_succ_cons, List.take_zero]
         repeat' (first
          | ((with_reducible refine wpL_skip ?_ ?_ ?_)
             · rfl
             · rfl
             simp only [putS])
          | ((with_reducible refine wpL_quiet ?_ ?_ ?_ ?_)
             · rfl
             · rfl
             · rfl
             apply Exists.intro
             refine ⟨fun W hW hS => ?_, ?_⟩
             · have hC := (Ext.facts hW).1
               go_simp
               first | done | (with_reducible rfl) | (rw [if_neg (by omega)]; exact ⟨rfl, rfl⟩) | rfl
             first | (with_reducible refine wpL_boolT ?_) | (with_reducible refine wpL_boolF ?_) | (with_reducible refine wpL_bool (fun hB => ?_) (fun hB => ?_)) | skip
             all_goals simp only [putS])
          | ((refine wpL_call ?_ rfl rfl ?_ ?_ ?_)
             · rfl
             · rfl
             · intro W hW hS
               have hC := (Ext.facts hW).1;unfold growAt
               go_simp
               simp only [growUpon]
               first | (go_at_call 47; (with_reducible refine Calls.mono (spec_PolicyFor _ (k : Int) l _ (by exact Rl.out.ext xe)) ?_); rintro e w9 ⟨rfl, e9⟩; exact ⟨_, rfl, e9, by rw [HPL.out]⟩) | (go_at_call 46; (with_reducible refine Calls.mono (spec_Terminate _ p _ (k : Int) m.ing t m.seg _ (by exact Rt.out.ext xe) (by exact segV (Sm_3.out.ext xe)) (by omega)) ?_); rintro e w9 ⟨v9, rfl, o9, e9⟩; exact ⟨_, rfl, e9, v9, by rw [HV.out], by rw [← HSG.out]; exact SegmentO.more o9 (Ext.size hW) (Nat.le_refl _)⟩) | (exact ⟨xe, _, rfl, Ext.size (by assumption), Blk.new _ _ _⟩)
             first | (with_reducible refine wpL_boolT ?_) | (with_reducible refine wpL_boolF ?_) | (with_reducible refine wpL_bool (fun hB => ?_) (fun hB => ?_)) | skip
             all_goals simp only [putS])
          | ((refine wpL_grow ?_ rfl rfl ?_ ?_)
             · rfl
             · intro W hW hS
               have hC := (Ext.facts hW).1;unfold growAt
               go_simp
               simp only [growUpon]
               first | (go_at_call 47; (with_reducible refine Calls.mono (spec_PolicyFor _ (k : Int) l _ (by exact Rl.out.ext xe)) ?_); rintro e w9 ⟨rfl, e9⟩; exact ⟨_, rfl, e9, by rw [HPL.out]⟩) | (go_at_call 46; (with_reducible refine Calls.mono (spec_Terminate _ p _ (k : Int) m.ing t m.seg _ (by exact Rt.out.ext xe) (by exact segV (Sm_3.out.ext xe)) (by omega)) ?_); rintro e w9 ⟨v9, rfl, o9, e9⟩; exact ⟨_, rfl, e9, v9, by rw [HV.out], by rw [← HSG.out]; exact SegmentO.more o9 (Ext.size hW) (Nat.le_refl _)⟩) | (exact ⟨xe, _, rfl, Ext.size (by assumption), Blk.new _ _ _⟩)
             intro v W' hW' hv
             first | (subst hv) | (obtain ⟨v8, rfl, hv8⟩ := hv; obtain ⟨A8, n8, c8, rfl⟩ := SegmentO.shape hv8) | (obtain ⟨g5, rfl, -⟩ := hv) | (obtain ⟨A5, n5, c5, rfl, -⟩ := id hv; clear hv) | (obtain ⟨A5, n5, c5, rfl⟩ := NO.slice hv) | skip
             all_goals simp only [putS]))
         refine wpL_nil (fun w6 ew6 hL => ?_);have pz : Zero1 33 w5.heap.size [I 0, I 0, .slice none 0 0] _ w6 := hL 11;obtain ⟨gz, hgz, hgl, hbz⟩ := pz
         have hge : gz = g5 := by injection hgz with h; injection h with h; injection h with h1; exact h1.symm
         subst hge;clear hgz hL;have zw6 := ew6.size;have lz := hbz.lt;obtain ⟨yz_0, yz_1, yz_2⟩ := blk3 hbz;have fz_0 := hbz.frozen 0;have fz_1 := hbz.frozen 1;have fz_2 := hbz.frozen 2;have BW := Lib.hid (Blk.set_ (Blk.set_ (Blk.set_ hbz 0 (I sg.ts)) 1 (I sg.beta)) 2 (.slice A8 n8 c8));clear hbz
         apply Exists.intro
         refine ⟨⟨_, ?run, .inl rfl⟩, ?_⟩
         case run =>
          go_simp
          first | done | rfl
         go_wp2_with fail
         clear yz_0 fz_0 yz_1 fz_1 yz_2 fz_2;go_roundw
         case rel => exact ⟨j + 1, A0, n0, c0, A1, n1, c1, by omega, by go_num, HB7.out.ext xe, by rw [HD.out]; exact SegmentDatabaseQ.up HQ.out xe, xe⟩
         case measure => simp [intOf]; omega
       · have HD := Lib.hid (HS.out.trans (HY.out hv))
         have hsy := (HSG.out.symm.trans (termSeg_yes hv)).symm;rw [hsy] at HD
         have hsl : sg.hops.length ≤ 10 := by rw [← hsy, grownSeg_len]; have := validSeg_len (canExt_valid (termOk_can hv)); omega
         clear hsy;have HV := Lib.hid hv; clear hv;refine wp_region_LQ 14 12 _ _ _ rfl (E := Ext) (w0 := w5) (G := fun τ => match τ with | 45 => some (fun v W => v = .agg #[I p.maxLen, I p.denied, I p.closed, I p.life]) | 51 => some (fun v W => PairO w5.heap.size true sg v W) | 11 => some (fun v W => Zero1 33 w5.heap.size [I 0, I 0, .slice none 0 0] v W) | _ => none)  Ext.refl (fun h k => Ext.trans h k) (by kernel_rfl) (by kernel_rfl) (by kernel_rfl) (by kernel_rfl) rfl rfl rfl rfl rfl rfl (by kernel_rfl) (pure_extract rfl) (by kernel_rfl) (by kernel_rfl) (by kernel_rfl) (by kernel_rfl) (by kernel_rfl) (by kernel_rfl) xg (Ext.drew (by exact Ext.refl _)) ?_;simp only [List.take_succ_cons, List.take_zero]
         repeat' (first
          | ((with_reducible refine wpL_skip ?_ ?_ ?_)
             · rfl
             · rfl
             simp only [putS])
          | ((with_reducible refine wpL_quiet ?_ ?_ ?_ ?_)
             · rfl
             · rfl
             · rfl
             apply Exists.intro
             refine ⟨fun W hW hS => ?_, ?_⟩
             · have hC := (Ext.facts hW).1
               go_simp
               first | done | (with_reducible rfl) | (rw [if_neg (by omega)]; exact ⟨rfl, rfl⟩) | rfl
             first | (with_reducible refine wpL_boolT ?_) | (with_reducible refine wpL_boolF ?_) | (with_reducible refine wpL_bool (fun hB => ?_) (fun hB => ?_)) | skip
             all_goals simp only [putS])
          | ((refine wpL_call ?_ rfl rfl ?_ ?_ ?_)
             · rfl
             · rfl
             · intro W hW hS
               have hC := (Ext.facts hW).1;unfold growAt
               go_simp
               simp only [growUpon]
               first | (go_at_call 47; (with_reducible refine Calls.mono (spec_PolicyFor _ (k : Int) l _ (by exact Rl.out.ext xe)) ?_); rintro e w9 ⟨rfl, e9⟩; exact ⟨_, rfl, e9, by rw [HPL.out]⟩) | (go_at_call 46; (with_reducible refine Calls.mono (spec_Terminate _ p _ (k : Int) m.ing t m.seg _ (by exact Rt.out.ext xe) (by exact segV (Sm_3.out.ext xe)) (by omega)) ?_); rintro e w9 ⟨v9, rfl, o9, e9⟩; exact ⟨_, rfl, e9, v9, by rw [HV.out], by rw [← HSG.out]; exact SegmentO.more o9 (Ext.size hW) (Nat.le_refl _)⟩) | (exact ⟨xe, _, rfl, Ext.size (by assumption), Blk.new _ _ _⟩)
             first | (with_reducible refine wpL_boolT ?_) | (with_reducible refine wpL_boolF ?_) | (with_reducible refine wpL_bool (fun hB => ?_) (fun hB => ?_)) | skip
             all_goals simp only [putS])
          | ((refine wpL_grow ?_ rfl rfl ?_ ?_)
             · rfl
             · intro W hW hS
               have hC := (Ext.facts hW).1;unfold growAt
               go_simp
               simp only [growUpon]
               first | (go_at_call 47; (with_reducible refine Calls.mono (spec_PolicyFor _ (k : Int) l _ (by exact Rl.out.ext xe)) ?_); rintro e w9 ⟨rfl, e9⟩; exact ⟨_, rfl, e9, by rw [HPL.out]⟩) | (go_at_call 46; (with_reducible refine Calls.mono (spec_Terminate _ p _ (k : Int) m.ing t m.seg _ (by exact Rt.out.ext xe) (by exact segV (Sm_3.out.ext xe)) (by omega)) ?_); rintro e w9 ⟨v9, rfl, o9, e9⟩; exact ⟨_, rfl, e9, v9, by rw [HV.out], by rw [← HSG.out]; exact SegmentO.more o9 (Ext.size hW) (Nat.le_refl _)⟩) | (exact ⟨xe, _, rfl, Ext.size (by assumption), Blk.new _ _ _⟩)
             intro v W' hW' hv
             first | (subst hv) | (obtain ⟨v8, rfl, hv8⟩ := hv; obtain ⟨A8, n8, c8, rfl⟩ := SegmentO.shape hv8) | (obtain ⟨g5, rfl, -⟩ := hv) | (obtain ⟨A5, n5, c5, rfl, -⟩ := id hv; clear hv) | (obtain ⟨A5, n5, c5, rfl⟩ := NO.slice hv) | skip
             all_goals simp only [putS]))
         refine wpL_nil (fun w6 ew6 hL => ?_);have o1 : SegmentO w5.heap.size w6.heap.size w6 (.agg #[I sg.ts, I sg.beta, .slice A8 n8 c8]) sg := PairO.seg (hL 51);have pz : Zero1 33 w5.heap.size [I 0, I 0, .slice none 0 0] _ w6 := hL 11;obtain ⟨gz, hgz, hgl, hbz⟩ := pz
         have hge : gz = g5 := by injection hgz with h; injection h with h; injection h with h1; exact h1.symm
         subst hge;clear hgz hL;have zw6 := ew6.size;have lz := hbz.lt;obtain ⟨yz_0, yz_1, yz_2⟩ := blk3 hbz;have fz_0 := hbz.frozen 0;have fz_1 := hbz.frozen 1;have fz_2 := hbz.frozen 2;have Zo1 := Lib.hid (SegmentO.setT (SegmentO.setT (SegmentO.setT o1 hbz 0 (I sg.ts)) (Blk.set_ hbz 0 (I sg.ts)) 1 (I sg.beta)) (Blk.set_ (Blk.set_ hbz 0 (I sg.ts)) 1 (I sg.beta)) 2 (.slice A8 n8 c8));have bt := Bt.out.ext (w' := w6) xe;have lt := bt.lt;obtain ⟨pt_0, pt_1⟩ := blk2 bt;clear bt;have BW := Lib.hid (Blk.set_ (Blk.set_ (Blk.set_ hbz 0 (I sg.ts)) 1 (I sg.beta)) 2 (.slice A8 n8 c8));clear hbz o1
         apply Exists.intro
         refine ⟨⟨_, ?run, .inl rfl⟩, ?_⟩
         case run =>
          go_simp
          first | done | rfl
         go_wp2_with fail
         clear yz_0 fz_0 yz_1 fz_1 yz_2 fz_2
         first | refine name_wp ?_ ?_ ?_ | refine name_calls ?_ ?_ ?_
         exact (fun W => Ext w5 W ∧ w6.heap.size = W.heap.size ∧ Blk W gz 33 [I sg.ts, I sg.beta, .slice A8 n8 c8] ∧ SegmentO w5.heap.size W.heap.size W (.agg #[I sg.ts, I sg.beta, .slice A8 n8 c8]) sg);exact ⟨xe, (by simp only [World.size_setCell]), (by simpa using BW.out), (by (try simp only [World.size_setCell]); exact Zo1.out)⟩;clear BW Zo1;rintro w7 ⟨ew7, zw7, bz, o1⟩;have BZ := Lib.hid bz; clear bz;have Ho1 := Lib.hid o1; clear o1;have z7 := ew7.size;clear pt_0 pt_1 lt pm_0 pm_1 pm_2 pm_3 lm;refine (spec_SegmentKind _ _ t sg _ (by exact Rt.out.ext xe) (by exact SegmentO_rd Ho1.out (Nat.le_refl _)) (by omega)).mono ?_;rintro e w8 ⟨rfl, ew8⟩;have z8 := ew8.size;obtain ⟨cs0, cs1, f0, f1, hop⟩ := (HQ.out.ext (w' := w8) xe (Nat.le_refl _)).opened;have HOP := Lib.hid hop; clear hop
         have hdd : db.down.length ≤ 100000000 ∧ db.core.length ≤ 100000000 := by
          have h1 := totS_len (fun u : DSegment => u.hops.length) db.down;have h2 := totS_len (fun u : DSegment => u.hops.length) db.core;unfold dbTot segTot at htt;omega
         obtain ⟨hd0, hd1⟩ := hdd;have bz := BZ.out.ext (w' := w8) xe;have lbz := bz.lt;obtain ⟨qbz_0, qbz_1, qbz_2⟩ := blk3 bz;have fbz_0 := bz.frozen 0;have fbz_1 := bz.frozen 1;have fbz_2 := bz.frozen 2;clear bz;have b7 := HB7.out.ext (w' := w8) xe;have lb7 := b7.lt;obtain ⟨qb7_0, qb7_1⟩ := blk2 b7;have fb7_0 := b7.frozen 0;have fb7_1 := b7.frozen 1;clear b7;by_cases hk2 : segKind t sg = 2
         · have HK : Hid (dbPut t db sg = ⟨db.down ++ [sg], db.core⟩) := by unfold Hid dbPut; rw [if_pos hk2]
           rw [hk2];clear hk2;have n6_ : SegmentSO wr.heap.size (w8.alloc (.cells #[I sg.ts, I sg.beta, .slice A8 n8 c8] 33)).heap.size (w8.alloc (.cells #[I sg.ts, I sg.beta, .slice A8 n8 c8] 33)) (.slice (some ⟨w8.heap.size, 0, none⟩) 1 1) [sg] := SegmentO.single (SegmentO.more (SegmentO.up Ho1.out ew8) z5 (Nat.le_refl _)) (by omega) rfl;obtain ⟨cs9, fx, hown9, hol9, hnd9, hbd9⟩ := n6_;obtain ⟨-, hrow9⟩ := NO.row hown9;have HOP7 := Lib.hid (HOP.out.keep (w' := w8.alloc (.cells #[I sg.ts, I sg.beta, .slice A8 n8 c8] 33)) xe);have OW := Lib.hid (HOP7.out.own0 (by simp only [World.size_alloc]; omega));have NN := Lib.hid (HOP7.out.new0 hbd9);have HR9 := Lib.hid hrow9; have HOL9 := Lib.hid hol9; have HFX := Lib.hid (List.nodup_append.1 hnd9).2.1; have HBX := Lib.hid hbd9;clear hrow9 hol9 hnd9 hbd9 hown9;have HB9 := Lib.hid (HB7.out.ext (w' := w8.alloc (.cells #[I sg.ts, I sg.beta, .slice A8 n8 c8] 33)) xe);go_wp2_with (at_builtin; refine hold ?_)
           refine unhold (wpList_pushX rfl w0.heap.size SegmentOC.keeps SegmentOC.one (.tmp 69) (.tmp 71) _ rfl 33 _ 3 40 Tryz.underlying28 info_Segment rfl (by omega) (.slice A0 n0 c0) db.down [sg] cs0 cs9 f0 fx rfl _ _ _ rfl OW.out HOP7.out.l0 HOP7.out.ne0 HR9.out HOL9.out NN.out (by simp only [World.size_alloc]; omega) (by simp only [List.length_singleton]; omega) (by omega) ?_);intro v8 w11 own8 ol8 hg8 hv8;obtain ⟨a8, m8, q8, hv8s⟩ := own8.slice;subst hv8s;have B8 := Lib.hid (Blk.grown HB9.out hg8 (own_off OW.out HB9.out (by decide)));have Q8 := Lib.hid (HOP7.out.push0 (by simp only [World.size_alloc]; omega) HFX.out HBX.out own8 ol8 hg8 hv8);have E8 := Lib.hid (Ext.grownB (a := wb) (w := w8.alloc (.cells #[I sg.ts, I sg.beta, .slice A8 n8 c8] 33)) xe OW.out hg8 (by omega));clear own8 ol8 hg8 hv8 lbz qbz_0 qbz_1 qbz_2 fbz_0 fbz_1 fbz_2 lb7 qb7_0 qb7_1 fb7_0 fb7_1;have b8 := B8.out.ext (w' := w11) xe;have lb8 := b8.lt;obtain ⟨qb8_0, qb8_1⟩ := blk2 b8;have fb8_0 := b8.frozen 0;have fb8_1 := b8.frozen 1;clear b8;go_wp2_with (at_builtin; refine hold ?_)
           go_roundw
           case rel => exact ⟨j + 1, a8, m8, q8, A1, n1, c1, by omega, by go_num, by simpa using B8.out.set_ 0 (.slice a8 m8 q8), by rw [HD.out, HK.out]; simp only [World.size_setCell]; exact SegmentDatabaseQ.setT Q8.out B8.out 0 (.slice a8 m8 q8), Ext.setCell E8.out (by dsimp only; omega) _⟩
           case measure => simp [intOf]; omega
         · have HK : Hid (dbPut t db sg = ⟨db.down, db.core ++ [sg]⟩) := by unfold Hid dbPut; rw [if_neg hk2]
           have d1 : (segKind t sg == 2) = false := beq_eq_false_iff_ne.2 hk2;clear hk2;have n6_ : SegmentSO wr.heap.size (w8.alloc (.cells #[I sg.ts, I sg.beta, .slice A8 n8 c8] 33)).heap.size (w8.alloc (.cells #[I sg.ts, I sg.beta, .slice A8 n8 c8] 33)) (.slice (some ⟨w8.heap.size, 0, none⟩) 1 1) [sg] := SegmentO.single (SegmentO.more (SegmentO.up Ho1.out ew8) z5 (Nat.le_refl _)) (by omega) rfl;obtain ⟨cs9, fx, hown9, hol9, hnd9, hbd9⟩ := n6_;obtain ⟨-, hrow9⟩ := NO.row hown9;have HOP7 := Lib.hid (HOP.out.keep (w' := w8.alloc (.cells #[I sg.ts, I sg.beta, .slice A8 n8 c8] 33)) xe);have OW := Lib.hid (HOP7.out.own1 (by simp only [World.size_alloc]; omega));have NN := Lib.hid (HOP7.out.new1 hbd9);have HR9 := Lib.hid hrow9; have HOL9 := Lib.hid hol9; have HFX := Lib.hid (List.nodup_append.1 hnd9).2.1; have HBX := Lib.hid hbd9;clear hrow9 hol9 hnd9 hbd9 hown9;have HB9 := Lib.hid (HB7.out.ext (w' := w8.alloc (.cells #[I sg.ts, I sg.beta, .slice A8 n8 c8] 33)) xe);go_wp2_with (at_builtin; refine hold ?_)
           refine unhold (wpList_pushX rfl w0.heap.size SegmentOC.keeps SegmentOC.one (.tmp 55) (.tmp 57) _ rfl 33 _ 3 40 Tryz.underlying28 info_Segment rfl (by omega) (.slice A1 n1 c1) db.core [sg] cs1 cs9 f1 fx rfl _ _ _ rfl OW.out HOP7.out.l1 HOP7.out.ne1 HR9.out HOL9.out NN.out (by simp only [World.size_alloc]; omega) (by simp only [List.length_singleton]; omega) (by omega) ?_);intro v8 w11 own8 ol8 hg8 hv8;obtain ⟨a8, m8, q8, hv8s⟩ := own8.slice;subst hv8s;have B8 := Lib.hid (Blk.grown HB9.out hg8 (own_off OW.out HB9.out (by decide)));have Q8 := Lib.hid (HOP7.out.push1 (by simp only [World.size_alloc]; omega) HFX.out HBX.out own8 ol8 hg8 hv8);have E8 := Lib.hid (Ext.grownB (a := wb) (w := w8.alloc (.cells #[I sg.ts, I sg.beta, .slice A8 n8 c8] 33)) xe OW.out hg8 (by omega));clear own8 ol8 hg8 hv8 lbz qbz_0 qbz_1 qbz_2 fbz_0 fbz_1 fbz_2 lb7 qb7_0 qb7_1 fb7_0 fb7_1;have b8 := B8.out.ext (w' := w11) xe;have lb8 := b8.lt;obtain ⟨qb8_0, qb8_1⟩ := blk2 b8;have fb8_0 := b8.frozen 0;have fb8_1 := b8.frozen 1;clear b8;go_wp2_with (at_builtin; refine hold ?_)
           go_roundw
           case rel => exact ⟨j + 1, A0, n0, c0, a8, m8, q8, by omega, by go_num, by simpa using B8.out.set_ 1 (.slice a8 m8 q8), by rw [HD.out, HK.out]; simp only [World.size_setCell]; exact SegmentDatabaseQ.setT Q8.out B8.out 1 (.slice a8 m8 q8), Ext.setCell E8.out (by dsimp only; omega) _⟩
           case measure => simp [intOf]; omega
     · obtain rfl : j = u.beacons.length := by omega
       rw [List.take_length, ← HX.out] at HQ;go_wp2_with fail
       go_roundw
       case rel => exact ⟨k + 1, A0, n0, c0, A1, n1, c1, by omega, by go_num, HB7.out, HQ.out, xe⟩
       case measure => simp [intOf]; omega
  · obtain rfl : k = x.stores.length := by omega
    have k1 : ¬ (x.stores.length : Int) < (x.stores.length : Int) := by omega
    have hlo := dbQ_le HQ.out;have HF : Hid (dbTo t l x.stores x.stores.length = buildDb t l x) := rfl;have b7 := HB7.out.ext (w' := wr) xe;have lb7 := b7.lt;obtain ⟨qb7_0, qb7_1⟩ := blk2 b7;have fb7_0 := b7.frozen 0;have fb7_1 := b7.frozen 1;clear b7;have br := BR.out.ext (w' := wr) xe;have lbr := br.lt;obtain ⟨qbr_0, qbr_1⟩ := blk2 br;have fbr_0 := br.frozen 0;have fbr_1 := br.frozen 1;clear br;go_wp2_with fail
    refine bodyPost_ret (v := .agg #[.slice A0 n0 c0, .slice A1 n1 c1]) (by simp [results, Tryz.results15, go_sem, *]) rfl ⟨_, rfl, ?_, xe⟩;have br9 := BR.out.ext (w' := wr) xe;have q9 := SegmentDatabaseQ.more HQ.out (lo' := w.heap.size) (by omega) (Nat.le_refl _);rw [HF.out] at q9;simp only [World.size_setCell];exact SegmentDatabaseQ.setT (SegmentDatabaseQ.setT q9 br9 0 (.slice A0 n0 c0)) (br9.set_ 0 (.slice A0 n0 c0)) 1 (.slice A1 n1 c1)
end Go.Proofs.YtmopmgaeiokfjaaGreat
