/- Contracts of the program's and the reference's functions on the segment database: put, AddSegment. Printed by scripts/g16k.py. -/
import Derived.Test.YtkbiciiniagadaaGreatGL16i
import Derived.Test.YtkbiciiniagadaaGreatGL10c
import Derived.Test.YtkbiciiniagadaaGreatGHD
import Derived.Test.YtkbiciiniagadaaGreatGL14c
import Derived.Test.YtkbiciiniagadaaGreatGGrow
import Derived.Test.YtkbiciiniagadaaGreatGrowU
namespace Go.Proofs.YtkbiciiniagadaaGreat
open Go.RowKit
set_option linter.unusedVariables false
theorem size_Segs (W : World) : (sizeOf 34).run Tryz.prog W = .ok 1 W := by
  have h5 : Tryz.prog.cellsOf 34 = 1 := by kernel_rfl
  first | (simp; done) | simp [h5]
theorem own_off {T sz lo hi n g T' : Nat} {w : World} {v : Value} {cs cs' : List Value} (hv : Own T sz lo hi w v n cs) (hb : Blk w g T' cs') (hne : T ≠ T') : v.ownBlock ≠ some g := fun e => ownsRow_typed hv.1 hb hne (by simp [e])
theorem nodup_grow {A F B N V : List Nat} {m z : Nat} (hn : ((A ++ F) ++ B).Nodup) (hm : ∀ b ∈ (A ++ F) ++ B, b < m) (hN : N.Nodup) (hN2 : ∀ b ∈ N, m ≤ b ∧ b < z) (hmz : m ≤ z) (hV : V = A ∨ V = [z]) : ((V ++ (F ++ N)) ++ B).Nodup := by
  have h1 := List.nodup_append.1 hn
  have h2 := List.nodup_append.1 h1.1
  have hA : ∀ b ∈ A, b < m := fun b hb => hm b (List.mem_append_left _ (List.mem_append_left _ hb))
  have hF : ∀ b ∈ F, b < m := fun b hb => hm b (List.mem_append_left _ (List.mem_append_right _ hb))
  have hB : ∀ b ∈ B, b < m := fun b hb => hm b (List.mem_append_right _ hb)
  have hV2 : V.Nodup ∧ (∀ a ∈ V, ∀ b ∈ F ++ N, a ≠ b) ∧ ∀ a ∈ V, ∀ b ∈ B, a ≠ b := by
    rcases hV with rfl | rfl
    · refine ⟨h2.1, fun a ha b hb e => ?_, fun a ha b hb => h1.2.2 a (List.mem_append_left _ ha) b hb⟩
      rcases List.mem_append.1 hb with hb | hb
      · exact h2.2.2 a ha b hb e
      · have := hA a ha; have := hN2 b hb; omega
    · refine ⟨by simp, fun a ha b hb e => ?_, fun a ha b hb e => ?_⟩
      · have ha : a = z := by simpa using ha
        rcases List.mem_append.1 hb with hb | hb
        · have := hF b hb; omega
        · have := hN2 b hb; omega
      · have ha : a = z := by simpa using ha
        have := hB b hb; omega
  refine List.nodup_append.2 ⟨List.nodup_append.2 ⟨hV2.1, List.nodup_append.2 ⟨h2.2.1, hN, fun a ha b hb e => ?_⟩, hV2.2.1⟩, h1.2.1, fun a ha b hb e => ?_⟩
  · have := hF a ha; have := hN2 b hb; omega
  · rcases List.mem_append.1 ha with ha | ha
    · exact hV2.2.2 a ha b hb e
    · rcases List.mem_append.1 ha with ha | ha
      · exact h1.2.2 a (List.mem_append_right _ ha) b hb e
      · have := hN2 a ha; have := hB b hb; omega
theorem nodup_comm {A B : List Nat} (h : (A ++ B).Nodup) : (B ++ A).Nodup := by
  have h1 := List.nodup_append.1 h
  exact List.nodup_append.2 ⟨h1.2.1, h1.1, fun a ha b hb e => h1.2.2 b hb a ha e.symm⟩
/-- A database's two lists, open. -/
structure DbOpen (lo m : Nat) (w : World) (u0 u1 : Value) (x : DSegmentDatabase) (cs0 cs1 : List Value) (f0 f1 : List Nat) : Prop where
  r0 : w.ownsRow 0 43 3 u0 x.down.length cs0
  l0 : OL SegmentOC 3 w x.down f0 cs0
  r1 : w.ownsRow 0 43 3 u1 x.core.length cs1
  l1 : OL SegmentOC 3 w x.core f1 cs1
  hn : (dbFp u0 u1 f0 f1).Nodup
  hb : ∀ b ∈ dbFp u0 u1 f0 f1, lo ≤ b ∧ b < m
  hl : lo ≤ m
theorem SegmentDatabaseQ.opened {lo m : Nat} {w : World} {u0 u1 : Value} {x : DSegmentDatabase} (h : SegmentDatabaseQ lo m w (.agg #[u0, u1]) x) : ∃ cs0 cs1 f0 f1, DbOpen lo m w u0 u1 x cs0 cs1 f0 f1 := by
  obtain ⟨v0, cs0, f0, v1, cs1, f1, e, r0, l0, r1, l1, hn, hb, hl⟩ := h
  have e2 := congrArg Array.toList (Value.agg.inj e)
  simp only [List.cons.injEq, and_true] at e2
  obtain ⟨rfl, rfl⟩ := e2
  exact ⟨cs0, cs1, f0, f1, r0, l0, r1, l1, hn, hb, hl⟩
section
variable {lo m : Nat} {w w' : World} {u0 u1 v' : Value} {x : DSegmentDatabase} {s : DSegment} {cs0 cs1 cs2 : List Value} {f0 f1 f2 : List Nat}
theorem DbOpen.keep (h : DbOpen lo m w u0 u1 x cs0 cs1 f0 f1) (he : Ext w w') : DbOpen lo m w' u0 u1 x cs0 cs1 f0 f1 :=
  ⟨ownsRow_keep h.r0 (fun b _ hs => he.same b hs), h.l0.keep SegmentOC.keeps (fun b _ hs => he.same b hs), ownsRow_keep h.r1 (fun b _ hs => he.same b hs), h.l1.keep SegmentOC.keeps (fun b _ hs => he.same b hs), h.hn, h.hb, h.hl⟩
theorem DbOpen.own0 (h : DbOpen lo m w u0 u1 x cs0 cs1 f0 f1) (hm : m ≤ w.heap.size) : Own 43 3 lo w.heap.size w u0 x.down.length cs0 := Own.of_row h.r0 fun b hb => by
  have := h.hb b (List.mem_append_left _ (List.mem_append_left _ hb)); omega
theorem DbOpen.own1 (h : DbOpen lo m w u0 u1 x cs0 cs1 f0 f1) (hm : m ≤ w.heap.size) : Own 43 3 lo w.heap.size w u1 x.core.length cs1 := Own.of_row h.r1 fun b hb => by
  have := h.hb b (List.mem_append_right _ (List.mem_append_left _ hb)); omega
theorem DbOpen.ne0 (h : DbOpen lo m w u0 u1 x cs0 cs1 f0 f1) : ∀ b ∈ f0, u0.ownBlock ≠ some b := fun b hb e => (List.nodup_append.1 (List.nodup_append.1 h.hn).1).2.2 b (by simp [e]) b hb rfl
theorem DbOpen.ne1 (h : DbOpen lo m w u0 u1 x cs0 cs1 f0 f1) : ∀ b ∈ f1, u1.ownBlock ≠ some b := fun b hb e => (List.nodup_append.1 (List.nodup_append.1 h.hn).2.1).2.2 b (by simp [e]) b hb rfl
theorem DbOpen.new0 (h : DbOpen lo m w u0 u1 x cs0 cs1 f0 f1) (hb2 : ∀ b ∈ f2, m ≤ b ∧ b < w.heap.size) : ∀ b ∈ f2, u0.ownBlock ≠ some b := fun b hb e => by
  have h1 := h.hb b (List.mem_append_left _ (List.mem_append_left _ (by simp [e]))); have h2 := hb2 b hb; omega
theorem DbOpen.new1 (h : DbOpen lo m w u0 u1 x cs0 cs1 f0 f1) (hb2 : ∀ b ∈ f2, m ≤ b ∧ b < w.heap.size) : ∀ b ∈ f2, u1.ownBlock ≠ some b := fun b hb e => by
  have h1 := h.hb b (List.mem_append_right _ (List.mem_append_left _ (by simp [e]))); have h2 := hb2 b hb; omega
theorem DbOpen.push0 (h : DbOpen lo m w u0 u1 x cs0 cs1 f0 f1) (hm : m ≤ w.heap.size) (hn2 : f2.Nodup) (hb2 : ∀ b ∈ f2, m ≤ b ∧ b < w.heap.size)
    (own : Own 43 3 lo w'.heap.size w' v' (x.down ++ [s]).length (cs0 ++ cs2)) (ol : OL SegmentOC 3 w' (x.down ++ [s]) (f0 ++ f2) (cs0 ++ cs2)) (hg : w.grownBy w' u0.ownBlock) (hv : v'.ownBlock = u0.ownBlock ∨ v'.ownBlock = some w.heap.size) :
    SegmentDatabaseQ lo w'.heap.size w' (.agg #[v', u1]) ⟨x.down ++ [s], x.core⟩ := by
  obtain ⟨r0, l0, r1, l1, hn, hb, hl⟩ := h
  have z := hg.size
  unfold dbFp at hn hb
  have hk : ∀ b ∈ u1.ownBlock.toList ++ f1, b < w.heap.size → w'.heap[b]? = w.heap[b]? := fun b hbm hs => hg.block b hs (fun e => (List.nodup_append.1 hn).2.2 b (List.mem_append_left _ (by rw [← e]; simp)) b hbm rfl)
  refine ⟨v', _, f0 ++ f2, u1, cs1, f1, rfl, (own.more (Nat.zero_le _) (Nat.le_refl _)).1, ol, ownsRow_keep r1 (fun b hbm hs => hk b (List.mem_append_left _ hbm) hs), l1.keep SegmentOC.keeps (fun b hbm hs => hk b (List.mem_append_right _ hbm) hs), ?_, ?_, by omega⟩
  · exact nodup_grow (z := w.heap.size) hn (fun b hb' => (hb b hb').2) hn2 hb2 hm (by rcases hv with h | h <;> simp [h])
  · intro b hbm
    unfold dbFp at hbm
    rcases List.mem_append.1 hbm with hbm | hbm
    · rcases List.mem_append.1 hbm with hbm | hbm
      · have hbm : v'.ownBlock = some b := by simpa using hbm
        exact ⟨(own.1.lt b hbm).1, own.2 b hbm⟩
      · rcases List.mem_append.1 hbm with hbm | hbm
        · have := hb b (List.mem_append_left _ (List.mem_append_right _ hbm)); omega
        · have := hb2 b hbm; omega
    · have := hb b (List.mem_append_right _ hbm); omega
theorem DbOpen.push1 (h : DbOpen lo m w u0 u1 x cs0 cs1 f0 f1) (hm : m ≤ w.heap.size) (hn2 : f2.Nodup) (hb2 : ∀ b ∈ f2, m ≤ b ∧ b < w.heap.size)
    (own : Own 43 3 lo w'.heap.size w' v' (x.core ++ [s]).length (cs1 ++ cs2)) (ol : OL SegmentOC 3 w' (x.core ++ [s]) (f1 ++ f2) (cs1 ++ cs2)) (hg : w.grownBy w' u1.ownBlock) (hv : v'.ownBlock = u1.ownBlock ∨ v'.ownBlock = some w.heap.size) :
    SegmentDatabaseQ lo w'.heap.size w' (.agg #[u0, v']) ⟨x.down, x.core ++ [s]⟩ := by
  obtain ⟨r0, l0, r1, l1, hn, hb, hl⟩ := h
  have z := hg.size
  unfold dbFp at hn hb
  have hk : ∀ b ∈ u0.ownBlock.toList ++ f0, b < w.heap.size → w'.heap[b]? = w.heap[b]? := fun b hbm hs => hg.block b hs (fun e => (List.nodup_append.1 hn).2.2 b hbm b (List.mem_append_left _ (by rw [← e]; simp)) rfl)
  refine ⟨u0, cs0, f0, v', _, f1 ++ f2, rfl, ownsRow_keep r0 (fun b hbm hs => hk b (List.mem_append_left _ hbm) hs), l0.keep SegmentOC.keeps (fun b hbm hs => hk b (List.mem_append_right _ hbm) hs), (own.more (Nat.zero_le _) (Nat.le_refl _)).1, ol, ?_, ?_, by omega⟩
  · have hn3 := nodup_grow (z := w.heap.size) (V := v'.ownBlock.toList) (nodup_comm hn) (fun b hb' => (hb b (by rcases List.mem_append.1 hb' with h | h; exact List.mem_append_right _ h; exact List.mem_append_left _ h)).2) hn2 hb2 hm (by rcases hv with h | h <;> simp [h])
    exact nodup_comm hn3
  · intro b hbm
    unfold dbFp at hbm
    rcases List.mem_append.1 hbm with hbm | hbm
    · have := hb b (List.mem_append_left _ hbm); omega
    · rcases List.mem_append.1 hbm with hbm | hbm
      · have hbm : v'.ownBlock = some b := by simpa using hbm
        exact ⟨(own.1.lt b hbm).1, own.2 b hbm⟩
      · rcases List.mem_append.1 hbm with hbm | hbm
        · have := hb b (List.mem_append_right _ (List.mem_append_right _ hbm)); omega
        · have := hb2 b hbm; omega
end
set_option maxRecDepth 100000 in
set_option maxHeartbeats 1000000 in
theorem impl_put (g : Nat) (vt vs : Value) (A0 A1 : Option Addr) (n0 c0 n1 c1 : Nat) (t : DTopology) (x : DSegmentDatabase) (s : DSegment) (lo m : Nat) (w : World) (ht : TopologyV w.heap.size w vt t) (hs : SegmentV w.heap.size w vs s) (hso : SegmentO m w.heap.size w vs s) (hb : Blk w g 36 [.slice A0 n0 c0, .slice A1 n1 c1]) (hx : SegmentDatabaseQ lo m w (.agg #[.slice A0 n0 c0, .slice A1 n1 c1]) x) (hm : m ≤ w.heap.size) (hn : dbTot x ≤ 100000000) :
    Calls Tryz.prog 20 #[.pointer (some ⟨g, 0, none⟩), vt, vs] w fun e w' => e = .returned (.tuple #[]) ∧ (∃ A0' n0' c0' A1' n1' c1', Blk w' g 36 [.slice A0' n0' c0', .slice A1' n1' c1'] ∧ SegmentDatabaseQ lo w'.heap.size w' (.agg #[.slice A0' n0' c0', .slice A1' n1' c1']) (dbPut t x s)) ∧ ∀ a, Ext a w → a.heap.size ≤ g → a.heap.size ≤ lo → Ext a w' := by
  obtain ⟨At_0, nt_0, ct_0, At_1, nt_1, ct_1, rfl, st_0, st_1⟩ := id ht
  obtain ⟨lt_0, kt_0, mt_0⟩ := st_0.len
  subst lt_0
  unfold maxLen at mt_0
  obtain ⟨lt_1, kt_1, mt_1⟩ := st_1.len
  subst lt_1
  unfold maxLen at mt_1
  have Rt := Lib.hid ht; clear ht
  have St_0 := Lib.hid st_0; clear st_0
  have St_1 := Lib.hid st_1; clear st_1
  obtain ⟨As_2, ns_2, cs_2, rfl, ss_2⟩ := id hs
  obtain ⟨ls_2, ks_2, ms_2⟩ := ss_2.len
  subst ls_2
  unfold maxLen at ms_2
  have Rs := Lib.hid hs; clear hs
  have Ss_2 := Lib.hid ss_2; clear ss_2
  obtain ⟨cs0, cs1, f0, f1, hop⟩ := hx.opened
  have HOP := Lib.hid hop; have HB := Lib.hid hb; have HSO := Lib.hid hso; clear hop hx hso hb
  have hdl : x.down.length ≤ 100000000 ∧ x.core.length ≤ 100000000 := by
    have h1 := totS_len (fun u : DSegment => u.hops.length) x.down
    have h2 := totS_len (fun u : DSegment => u.hops.length) x.core
    unfold dbTot segTot at hn
    omega
  obtain ⟨hd0, hd1⟩ := hdl
  go_enter Tryz.func20, Tryz.ntmps20
  go_wp2_with fail
  first | refine name_wp ?_ ?_ ?_ | refine name_calls ?_ ?_ ?_
  exact (fun W => Ext w W ∧ Blk W (w.heap.size) 27 [.slice At_0 t.ases.length ct_0, .slice At_1 t.links.length ct_1] ∧ Blk W (w.heap.size + 1) 43 [I s.ts, I s.beta, .slice As_2 s.hops.length cs_2])
  exact ⟨xe, xb, xb⟩
  rintro w0 ⟨ew0, bt, bs⟩
  have lt := bt.lt
  obtain ⟨pt_0, pt_1⟩ := blk2 bt
  have Bt := Lib.hid bt; clear bt
  have ls := bs.lt
  obtain ⟨ps_0, ps_1, ps_2⟩ := blk3 bs
  have Bs := Lib.hid bs; clear bs
  refine (impl_SegmentKind _ _ (t) (s) _ (by exact Rt.out.ext xe) (by exact Rs.out.ext xe)).mono ?_
  rintro e w1 ⟨rfl, ew1⟩
  have bt := Bt.out.ext (w' := w1) xe
  have lt := bt.lt
  obtain ⟨pt_0, pt_1⟩ := blk2 bt
  clear bt
  have bs := Bs.out.ext (w' := w1) xe
  have ls := bs.lt
  obtain ⟨ps_0, ps_1, ps_2⟩ := blk3 bs
  clear bs
  have zz0 := ew0.size; have zz1 := ew1.size
  have b1 := HB.out.ext (w' := w1) xe
  have lb1 := b1.lt
  obtain ⟨qb1_0, qb1_1⟩ := blk2 b1
  have fb1_0 := b1.frozen 0
  have fb1_1 := b1.frozen 1
  clear b1
  by_cases hk : segKind t s = 2
  · have HF : Hid (dbPut t x s = ⟨x.down ++ [s], x.core⟩) := by unfold Hid dbPut; rw [if_pos hk]
    rw [hk]
    clear hk
    go_wp2_with fail
    refine wp_region_LU 7 8 [0] _ (E := Ext) (w0 := w1) (G := fun τ => match τ with | 16 => some (fun v W => SegmentSO m W.heap.size W v [s]) | _ => none)  Ext.refl (fun h k => Ext.trans h k) (by kernel_rfl) (by kernel_rfl) rfl rfl (by kernel_rfl) (by kernel_rfl) (by kernel_rfl) (by kernel_rfl) (by kernel_rfl) (by kernel_rfl) (by kernel_rfl) (by kernel_rfl) (by kernel_rfl) (by intro i hi oi hoi; simp only [List.mem_cons, List.not_mem_nil, or_false] at hi; rcases hi with rfl; obtain rfl := Option.some.inj hoi; (· exact ⟨rfl, rfl, by kernel_rfl, pure_move rfl⟩)) xg (Ext.drew (by exact Ext.refl _)) ?_
    simp only [List.take_succ_cons, List.take_zero, List.drop_succ_cons, List.drop_zero, List.cons_append, List.nil_append]
    repeat' (first
      | ((with_reducible refine wpL_skip ?_ ?_ ?_)
         · rfl
         · rfl
         simp only [Act.put, List.setIfInBounds_toArray, List.set_cons_zero, List.set_cons_succ])
      | ((with_reducible refine wpL_quiet ?_ ?_ ?_ ?_)
         · rfl
         · rfl
         · rfl
         apply Exists.intro
         refine ⟨fun W hW hS => ?_, ?_⟩
         · have hC := (Ext.facts hW).1
           go_simp
           first | done | (with_reducible rfl) | (rw [if_neg (by omega)]; exact ⟨rfl, rfl⟩) | rfl
         first | (with_reducible refine wpL_boolT ?_) | (with_reducible refine wpL_boolF ?_) | (with_reducible refine wpL_bool (fun hB => ?_) (fun hB => ?_)) | skip
         all_goals simp only [Act.put, List.setIfInBounds_toArray, List.set_cons_zero, List.set_cons_succ])
      | ((refine wpL_grow ?_ rfl rfl ?_ ?_)
         · rfl
         · intro W hW hS
           have hC := (Ext.facts hW).1
           unfold growAt
           go_simp
           simp only [growUpon]
           first | (exact ⟨xe, SegmentO.single (SegmentO.up HSO.out (w' := W) xe) (by have h5 := Ext.size hW; omega) rfl⟩)
         intro v W' hW' hv
         first | (obtain ⟨A6, n6, c6, rfl⟩ := NO.slice hv) | (obtain ⟨A5, n5, c5, rfl, -⟩ := id hv; clear hv) | (obtain ⟨A5, n5, c5, rfl⟩ := NO.slice hv) | skip
         all_goals simp only [Act.put, List.setIfInBounds_toArray, List.set_cons_zero, List.set_cons_succ]))
    refine wpL_nil (fun w7 e7 hL => ?_)
    have n6_ : SegmentSO m w7.heap.size w7 (.slice A6 n6 c6) [s] := hL 16
    clear hL
    have z7 := e7.size
    obtain ⟨cs9, fx, hown9, hol9, hnd9, hbd9⟩ := n6_
    obtain ⟨hn9, hrow9⟩ := NO.row hown9
    subst hn9
    have HOP7 := Lib.hid (HOP.out.keep (w' := w7) xe)
    have OW := Lib.hid (HOP7.out.own0 (by omega))
    have NN := Lib.hid (HOP7.out.new0 hbd9)
    have HR9 := Lib.hid hrow9; have HOL9 := Lib.hid hol9; have HFX := Lib.hid (List.nodup_append.1 hnd9).2.1; have HBX := Lib.hid hbd9
    clear hrow9 hol9 hnd9 hbd9 hown9
    have HB7 := Lib.hid (HB.out.ext (w' := w7) xe)
    try dsimp only
    refine onAt_pushX lo SegmentOC.keeps SegmentOC.one (.tmp 14) (.tmp 16) _ rfl 43 _ 3 40 Tryz.underlying34 info_Segment rfl (by omega) (.slice A0 n0 c0) x.down [s] cs0 cs9 f0 fx rfl _ _ _ rfl OW.out HOP7.out.l0 HOP7.out.ne0 HR9.out HOL9.out NN.out (by have h5 := HOP.out.hl; omega) (by simp only [List.length_singleton]; omega) (by omega) ?_
    intro v8 w8 own8 ol8 hg8 hv8
    obtain ⟨a8, m8, q8, hv8s⟩ := own8.slice
    subst hv8s
    have B8 := Lib.hid (Blk.grown HB7.out hg8 (own_off OW.out HB7.out (by decide)))
    have Q8 := Lib.hid (HOP7.out.push0 (by omega) HFX.out HBX.out own8 ol8 hg8 hv8)
    have z8 : w7.heap.size ≤ w8.heap.size := hg8.size
    have G8 := Lib.hid hg8; clear own8 ol8 hg8 hv8
    have b8 := B8.out.ext (w' := w8) xe
    have lb8 := b8.lt
    obtain ⟨qb8_0, qb8_1⟩ := blk2 b8
    have fb8_0 := b8.frozen 0
    have fb8_1 := b8.frozen 1
    clear b8
    go_wp2_with (at_builtin; refine hold ?_)
    refine ⟨by rfl, .tuple #[], by simp [results, Tryz.results20, go_sem, *], ?_⟩
    refine ⟨rfl, ⟨a8, m8, q8, A1, n1, c1, by simpa using B8.out.set_ 0 (.slice a8 m8 q8), ?_⟩, fun a ha h1 h2 => ?_⟩
    · rw [HF.out]
      simp only [World.size_setCell]
      exact SegmentDatabaseQ.setT Q8.out B8.out 0 (.slice a8 m8 q8)
    · have ha7 : Ext a w7 := Ext.trans ha xe
      exact Ext.setCell (Ext.grownB ha7 OW.out G8.out h2) (by dsimp only; exact h1) _
  · have HF : Hid (dbPut t x s = ⟨x.down, x.core ++ [s]⟩) := by unfold Hid dbPut; rw [if_neg hk]
    have d1 : (segKind t s == 2) = false := beq_eq_false_iff_ne.2 hk
    clear hk
    go_wp2_with fail
    clear d1
    refine wp_region_LU 7 8 [0] _ (E := Ext) (w0 := w1) (G := fun τ => match τ with | 26 => some (fun v W => SegmentSO m W.heap.size W v [s]) | _ => none)  Ext.refl (fun h k => Ext.trans h k) (by kernel_rfl) (by kernel_rfl) rfl rfl (by kernel_rfl) (by kernel_rfl) (by kernel_rfl) (by kernel_rfl) (by kernel_rfl) (by kernel_rfl) (by kernel_rfl) (by kernel_rfl) (by kernel_rfl) (by intro i hi oi hoi; simp only [List.mem_cons, List.not_mem_nil, or_false] at hi; rcases hi with rfl; obtain rfl := Option.some.inj hoi; (· exact ⟨rfl, rfl, by kernel_rfl, pure_move rfl⟩)) xg (Ext.drew (by exact Ext.refl _)) ?_
    simp only [List.take_succ_cons, List.take_zero, List.drop_succ_cons, List.drop_zero, List.cons_append, List.nil_append]
    repeat' (first
      | ((with_reducible refine wpL_skip ?_ ?_ ?_)
         · rfl
         · rfl
         simp only [Act.put, List.setIfInBounds_toArray, List.set_cons_zero, List.set_cons_succ])
      | ((with_reducible refine wpL_quiet ?_ ?_ ?_ ?_)
         · rfl
         · rfl
         · rfl
         apply Exists.intro
         refine ⟨fun W hW hS => ?_, ?_⟩
         · have hC := (Ext.facts hW).1
           go_simp
           first | done | (with_reducible rfl) | (rw [if_neg (by omega)]; exact ⟨rfl, rfl⟩) | rfl
         first | (with_reducible refine wpL_boolT ?_) | (with_reducible refine wpL_boolF ?_) | (with_reducible refine wpL_bool (fun hB => ?_) (fun hB => ?_)) | skip
         all_goals simp only [Act.put, List.setIfInBounds_toArray, List.set_cons_zero, List.set_cons_succ])
      | ((refine wpL_grow ?_ rfl rfl ?_ ?_)
         · rfl
         · intro W hW hS
           have hC := (Ext.facts hW).1
           unfold growAt
           go_simp
           simp only [growUpon]
           first | (exact ⟨xe, SegmentO.single (SegmentO.up HSO.out (w' := W) xe) (by have h5 := Ext.size hW; omega) rfl⟩)
         intro v W' hW' hv
         first | (obtain ⟨A6, n6, c6, rfl⟩ := NO.slice hv) | (obtain ⟨A5, n5, c5, rfl, -⟩ := id hv; clear hv) | (obtain ⟨A5, n5, c5, rfl⟩ := NO.slice hv) | skip
         all_goals simp only [Act.put, List.setIfInBounds_toArray, List.set_cons_zero, List.set_cons_succ]))
    refine wpL_nil (fun w7 e7 hL => ?_)
    have n6_ : SegmentSO m w7.heap.size w7 (.slice A6 n6 c6) [s] := hL 26
    clear hL
    have z7 := e7.size
    obtain ⟨cs9, fx, hown9, hol9, hnd9, hbd9⟩ := n6_
    obtain ⟨hn9, hrow9⟩ := NO.row hown9
    subst hn9
    have HOP7 := Lib.hid (HOP.out.keep (w' := w7) xe)
    have OW := Lib.hid (HOP7.out.own1 (by omega))
    have NN := Lib.hid (HOP7.out.new1 hbd9)
    have HR9 := Lib.hid hrow9; have HOL9 := Lib.hid hol9; have HFX := Lib.hid (List.nodup_append.1 hnd9).2.1; have HBX := Lib.hid hbd9
    clear hrow9 hol9 hnd9 hbd9 hown9
    have HB7 := Lib.hid (HB.out.ext (w' := w7) xe)
    try dsimp only
    refine onAt_pushX lo SegmentOC.keeps SegmentOC.one (.tmp 24) (.tmp 26) _ rfl 43 _ 3 40 Tryz.underlying34 info_Segment rfl (by omega) (.slice A1 n1 c1) x.core [s] cs1 cs9 f1 fx rfl _ _ _ rfl OW.out HOP7.out.l1 HOP7.out.ne1 HR9.out HOL9.out NN.out (by have h5 := HOP.out.hl; omega) (by simp only [List.length_singleton]; omega) (by omega) ?_
    intro v8 w8 own8 ol8 hg8 hv8
    obtain ⟨a8, m8, q8, hv8s⟩ := own8.slice
    subst hv8s
    have B8 := Lib.hid (Blk.grown HB7.out hg8 (own_off OW.out HB7.out (by decide)))
    have Q8 := Lib.hid (HOP7.out.push1 (by omega) HFX.out HBX.out own8 ol8 hg8 hv8)
    have z8 : w7.heap.size ≤ w8.heap.size := hg8.size
    have G8 := Lib.hid hg8; clear own8 ol8 hg8 hv8
    have b8 := B8.out.ext (w' := w8) xe
    have lb8 := b8.lt
    obtain ⟨qb8_0, qb8_1⟩ := blk2 b8
    have fb8_0 := b8.frozen 0
    have fb8_1 := b8.frozen 1
    clear b8
    go_wp2_with (at_builtin; refine hold ?_)
    refine ⟨by rfl, .tuple #[], by simp [results, Tryz.results20, go_sem, *], ?_⟩
    refine ⟨rfl, ⟨A0, n0, c0, a8, m8, q8, by simpa using B8.out.set_ 1 (.slice a8 m8 q8), ?_⟩, fun a ha h1 h2 => ?_⟩
    · rw [HF.out]
      simp only [World.size_setCell]
      exact SegmentDatabaseQ.setT Q8.out B8.out 1 (.slice a8 m8 q8)
    · have ha7 : Ext a w7 := Ext.trans ha xe
      exact Ext.setCell (Ext.grownB ha7 OW.out G8.out h2) (by dsimp only; exact h1) _
end Go.Proofs.YtkbiciiniagadaaGreat
