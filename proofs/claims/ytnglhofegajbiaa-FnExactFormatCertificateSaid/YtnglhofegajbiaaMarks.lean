/- Plain words for marking: only some blocks have turned; a list whose numbers run on. No conditions. -/
import Derived.Test.YtnglhofegajbiaaNest
namespace Go.Proofs.Ytnglhofegajbiaa
open Go.RowKit
set_option linter.unusedVariables false
/-- Nothing is said. -/
def Any1 : Prop := True
theorem any1 : Any1 := trivial
/-- Only the blocks of fp have turned, and no block has gone. -/
structure OutF (fp : List Nat) (w w' : World) : Prop where
  os : w'.os = w.os
  tape : w'.tape = w.tape
  output : w'.output = w.output
  size : w.heap.size ≤ w'.heap.size
  block : ∀ k, k < w.heap.size → k ∉ fp → w'.heap[k]? = w.heap[k]?
section
variable {fp fp' : List Nat} {a b c w w' : World}
theorem OutF.refl (fp : List Nat) (w : World) : OutF fp w w := ⟨rfl, rfl, rfl, Nat.le_refl _, fun _ _ _ => rfl⟩
theorem OutF.trans (h : OutF fp a b) (k : OutF fp b c) : OutF fp a c :=
  ⟨k.os.trans h.os, k.tape.trans h.tape, k.output.trans h.output, Nat.le_trans h.size k.size, fun i hs hi => (k.block i (Nat.lt_of_lt_of_le hs h.size) hi).trans (h.block i hs hi)⟩
theorem OutF.mono (h : OutF fp a b) (hs : ∀ x ∈ fp, x ∈ fp') : OutF fp' a b := ⟨h.os, h.tape, h.output, h.size, fun k hk hn => h.block k hk fun hm => hn (hs k hm)⟩
theorem OutF.setCell (h : OutF fp a w) {p : Addr} (hp : p.block ∈ fp) (u : Value) : OutF fp a (w.setCell p u) :=
  h.trans ⟨rfl, rfl, rfl, by simp [World.setCell], fun k _ hk => Below.heap_setCell _ _ _ _ (fun e => hk (e ▸ hp))⟩
theorem OutF.out {lo hi : Nat} (h : OutF fp a b) (hb : ∀ x ∈ fp, lo ≤ x ∧ x < hi) : Out lo hi a b :=
  ⟨h.os, h.tape, h.output, h.size, fun k hk hn => h.block k hk fun hm => by have := hb k hm; omega⟩
theorem OutF.cell (h : OutF fp a b) {k o : Nat} (hk : k < a.heap.size) (hn : k ∉ fp) : b.cell? ⟨k, o, none⟩ = a.cell? ⟨k, o, none⟩ := World.cell?_of_block (a := ⟨k, o, none⟩) (h.block k hk hn)
theorem Blk.outF {g : Nat} {t : TypeId} {cs : List Value} (h : Blk w g t cs) (ho : OutF fp w w') (hn : g ∉ fp) : Blk w' g t cs := (ho.block g h.lt hn).trans h
end
theorem ownsRow_set {w : World} {base e size n g i : Nat} {v u : Value} {xs : List Value} (h : w.ownsRow base e size v n xs) (hg : g ∉ v.ownBlock.toList) : (w.setCell ⟨g, i, none⟩ u).ownsRow base e size v n xs :=
  ownsRow_keep h fun b hb _ => Below.heap_setCell _ _ _ _ (fun e => hg (by have e : b = g := e; subst e; exact hb))
theorem OL.set {α : Type} {OC : World → List Nat → List Value → α → Prop} {sz : Nat} {w : World} {ds : List α} {fp : List Nat} {cs : List Value} {g i : Nat} {u : Value} (hK : OKeeps OC) (h : OL OC sz w ds fp cs) (hg : g ∉ fp) : OL OC sz (w.setCell ⟨g, i, none⟩ u) ds fp cs :=
  h.keep hK fun b hb _ => Below.heap_setCell _ _ _ _ (fun e => hg (by have e : b = g := e; subst e; exact hb))
theorem ownsRow_outF {w w' : World} {base e size n : Nat} {v : Value} {xs : List Value} {fp : List Nat} (h : w.ownsRow base e size v n xs) (ho : OutF fp w w') (hd : ∀ b ∈ v.ownBlock.toList, b ∉ fp) : w'.ownsRow base e size v n xs :=
  ownsRow_keep h fun b hb hs => ho.block b hs (hd b hb)
theorem OL.outF {α : Type} {OC : World → List Nat → List Value → α → Prop} {sz : Nat} {w w' : World} {ds : List α} {fp fp' : List Nat} {cs : List Value} (hK : OKeeps OC) (h : OL OC sz w ds fp cs) (ho : OutF fp' w w') (hd : ∀ b ∈ fp, b ∉ fp') : OL OC sz w' ds fp cs :=
  h.keep hK fun b hb hs => ho.block b hs (hd b hb)
theorem ownsRow_base {w : World} {lo e size n : Nat} {v : Value} {xs : List Value} (h : w.ownsRow 0 e size v n xs) (hb : ∀ k, v.ownBlock = some k → lo ≤ k) : w.ownsRow lo e size v n xs := by
  obtain ⟨h1, h2⟩ := h
  refine ⟨h1, ?_⟩
  rcases h2 with h2 | ⟨g, cap, cur, rfl, hg, r⟩
  · exact .inl h2
  · exact .inr ⟨g, cap, cur, rfl, hb g rfl, r⟩
theorem ownsRow_slice {w : World} {lo e size n : Nat} {v : Value} {xs : List Value} (h : w.ownsRow lo e size v n xs) : ∃ a m c, v = .slice a m c := by
  rcases h.2 with ⟨rfl, _⟩ | ⟨g, cap, cur, rfl, _⟩
  · exact ⟨_, _, _, rfl⟩
  · exact ⟨_, _, _, rfl⟩
/-- From a contract at every range of blocks to the one block that the row has. -/
theorem calls_row {P : Program} {f : FuncId} {args : Array Value} {w : World} {E sz n : Nat} {v : Value} {cs cs' : List Value} {R : Ending → Prop} (h : w.ownsRow 0 E sz v n cs)
    (hc : ∀ lo hi, Own E sz lo hi w v n cs → Calls P f args w fun e w' => R e ∧ Own E sz lo hi w' v n cs' ∧ Out lo hi w w') : Calls P f args w fun e w' => R e ∧ w'.ownsRow 0 E sz v n cs' ∧ OutF v.ownBlock.toList w w' := by
  cases hv : v.ownBlock with
  | none =>
    refine (hc 0 0 ⟨h, fun k hk => by rw [hv] at hk; cases hk⟩).mono fun e w' ⟨h1, h2, h3⟩ => ⟨h1, h2.1, ⟨h3.os, h3.tape, h3.output, h3.size, fun k hk _ => h3.block k hk (by omega)⟩⟩
  | some g =>
    refine (hc g (g + 1) ⟨ownsRow_base h fun k hk => by rw [hv] at hk; cases hk; exact Nat.le_refl _, fun k hk => by rw [hv] at hk; cases hk; omega⟩).mono fun e w' ⟨h1, h2, h3⟩ => ⟨h1, (h2.more (Nat.zero_le _) (Nat.le_refl _)).1, ⟨h3.os, h3.tape, h3.output, h3.size, fun k hk hn => h3.block k hk (by simp at hn; omega)⟩⟩
/-- A list whose numbers run on from q: f gives an element its numbers, c tells how many. -/
def numS {α : Type} (f : Nat → α → α) (c : α → Nat) : Nat → List α → List α
  | _, [] => []
  | q, x :: xs => f q x :: numS f c (q + c x) xs
section
variable {α : Type} {f : Nat → α → α} {c : α → Nat}
theorem numS_len : ∀ {q : Nat} {xs : List α}, (numS f c q xs).length = xs.length
  | _, [] => rfl
  | q, x :: xs => by rw [numS, List.length_cons, List.length_cons, numS_len]
theorem numS_append : ∀ (q : Nat) (xs ys : List α), numS f c q (xs ++ ys) = numS f c q xs ++ numS f c (q + (xs.map c).sum) ys
  | q, [], ys => by simp [numS]
  | q, x :: xs, ys => by rw [List.cons_append, numS, numS_append, numS, List.map_cons, List.sum_cons, Nat.add_assoc]; rfl
theorem numS_snoc (q : Nat) (xs : List α) (j : Nat) (hj : j < xs.length) : numS f c q (xs.take (j + 1)) = numS f c q (xs.take j) ++ [f (q + ((xs.take j).map c).sum) xs[j]] := by
  rw [take_snoc xs j hj, numS_append]
  rfl
theorem numS_get : ∀ (q : Nat) (xs : List α) (j : Nat) (h : j < xs.length) (h' : j < (numS f c q xs).length), (numS f c q xs)[j] = f (q + ((xs.take j).map c).sum) xs[j]
  | q, [], j, h, _ => by simp at h
  | q, x :: xs, 0, _, _ => by simp [numS]
  | q, x :: xs, j + 1, h, h' => by
    simp only [numS, List.getElem_cons_succ, List.take_succ_cons, List.map_cons, List.sum_cons]
    rw [numS_get (q + c x) xs j (by simpa using h) (by simpa [numS] using h'), Nat.add_assoc]
end
theorem cnt_le {α : Type} {c t : α → Nat} (h : ∀ y, c y ≤ 10 + 10 * t y) : ∀ l : List α, (l.map c).sum ≤ 10 * totS t l
  | [] => by simp [totS]
  | x :: l => by
    have h1 := h x
    have h2 := cnt_le h l
    unfold totS at *
    simp only [List.map_cons, List.sum_cons, List.length_cons]
    omega
theorem totS_filter {α : Type} (t : α → Nat) (p : α → Bool) : ∀ l : List α, totS t (l.filter p) ≤ totS t l
  | [] => by simp [totS]
  | x :: l => by
    have h2 := totS_filter t p l
    unfold totS at *
    rw [List.filter_cons]
    split
    · simp only [List.map_cons, List.sum_cons, List.length_cons]; omega
    · simp only [List.map_cons, List.sum_cons, List.length_cons]; omega
theorem totS_append {α : Type} (t : α → Nat) (a b : List α) : totS t (a ++ b) = totS t a + totS t b := by
  unfold totS
  rw [List.length_append, List.map_append, List.sum_append]
  omega
theorem totS_get {α : Type} (t : α → Nat) (l : List α) (k : Nat) (h : k < l.length) : t l[k] ≤ totS t l := by
  have := sum_mem t l k h
  unfold totS
  omega
theorem totS_len {α : Type} (t : α → Nat) (l : List α) : l.length ≤ totS t l := by unfold totS; omega
theorem filter_snoc {α : Type} (p : α → Bool) (l : List α) (k : Nat) (h : k < l.length) : (l.take (k + 1)).filter p = (l.take k).filter p ++ (if p l[k] then [l[k]] else []) := by
  rw [take_snoc l k h, List.filter_append]
  congr 1
  rw [List.filter_cons]
  split <;> simp_all
theorem filter_take_len {α : Type} (p : α → Bool) (l : List α) (k : Nat) : ((l.take k).filter p).length ≤ l.length := by
  have h1 := List.length_filter_le p (l.take k)
  have h2 := List.length_take_le' k l
  omega
/-- Where marking stands: j elements are marked, the next number is p. -/
def MInv {α : Type} (OC : World → List Nat → List Value → α → Prop) (sz : Nat) (f : Nat → α → α) (c : α → Nat) (E g : Nat) (rest : List Value) (fp : List Nat) (xs : List α) (q : Nat) (w wr : World) (j p : Nat) : Prop :=
  p = q + ((xs.take j).map c).sum ∧ ∃ cd cr fd fr, Blk wr g E (cd ++ (cr ++ rest)) ∧ OL OC sz wr (numS f c q (xs.take j)) fd cd ∧ OL OC sz wr (xs.drop j) fr cr ∧ fp = fd ++ fr ∧ OutF (g :: fp) w wr
section
variable {α : Type} {OC : World → List Nat → List Value → α → Prop} {sz : Nat} {f : Nat → α → α} {c : α → Nat} {E g : Nat} {rest : List Value} {fp : List Nat} {xs : List α} {q : Nat} {w wr : World} {j p : Nat}
theorem MInv.start {cs : List Value} (hb : Blk w g E (cs ++ rest)) (hl : OL OC sz w xs fp cs) : MInv OC sz f c E g rest fp xs q w w 0 q :=
  ⟨by simp, [], cs, [], fp, by simpa using hb, ⟨rfl, rfl⟩, by simpa using hl, rfl, OutF.refl _ _⟩
theorem MInv.step (hK : OKeeps OC) (h : MInv OC sz f c E g rest fp xs q w wr j p) (hn : (g :: fp).Nodup) (hj : j < xs.length) :
    ∃ (f1 : List Nat) (pre post c1 : List Value), OC wr f1 c1 xs[j] ∧ pre.length = j * sz ∧ Blk wr g E (pre ++ (c1 ++ post)) ∧ g ∉ f1 ∧ f1.Nodup ∧
      ∀ w2 c1', OC w2 f1 c1' (f p xs[j]) → c1'.length = sz → Blk w2 g E (pre ++ (c1' ++ post)) → OutF (g :: f1) wr w2 → MInv OC sz f c E g rest fp xs q w w2 (j + 1) (p + c xs[j]) := by
  obtain ⟨hp, cd, cr, fd, fr, hb, hd, hr, rfl, ho⟩ := h
  rw [List.drop_eq_getElem_cons hj] at hr
  obtain ⟨f1, f2, c1, c2, rfl, rfl, hl, hoc, hr⟩ := hr
  have hnd := List.nodup_cons.1 hn
  have hdisj := List.nodup_append.1 hnd.2
  have hdisj2 := List.nodup_append.1 hdisj.2.1
  refine ⟨f1, cd, c2 ++ rest, c1, hoc, ?_, by simpa [List.append_assoc] using hb, fun hm => hnd.1 (by simp [hm]), hdisj2.1, ?_⟩
  · rw [hd.len, numS_len, List.length_take, Nat.min_eq_left (by omega)]
  · intro w2 c1' hoc' hl' hb' ho'
    refine ⟨?_, cd ++ c1', c2, fd ++ f1, f2, by simpa [List.append_assoc] using hb', ?_, ?_, by simp, ho.trans (ho'.mono fun x hx => ?_)⟩
    · rw [take_snoc xs j hj, List.map_append, List.sum_append, hp]; simp; omega
    · rw [numS_snoc q xs j hj, ← hp]
      refine OL.snoc (hd.outF hK ho' fun b hbm hm => ?_) hoc' hl'
      rcases List.mem_cons.1 hm with rfl | hm
      · exact hnd.1 (by simp [hbm])
      · exact hdisj.2.2 b hbm b (by simp [hm]) rfl
    · refine hr.outF hK ho' fun b hbm hm => ?_
      rcases List.mem_cons.1 hm with rfl | hm
      · exact hnd.1 (by simp [hbm])
      · exact hdisj2.2.2 b hm b hbm rfl
    · rcases List.mem_cons.1 hx with rfl | hx
      · exact List.mem_cons_self ..
      · exact List.mem_cons_of_mem _ (by simp [hx])
theorem MInv.stop (h : MInv OC sz f c E g rest fp xs q w wr xs.length p) : p = q + (xs.map c).sum ∧ ∃ cs', Blk wr g E (cs' ++ rest) ∧ OL OC sz wr (numS f c q xs) fp cs' ∧ OutF (g :: fp) w wr := by
  obtain ⟨hp, cd, cr, fd, fr, hb, hd, hr, rfl, ho⟩ := h
  rw [List.take_length] at hp hd
  rw [List.drop_length] at hr
  obtain ⟨rfl, rfl⟩ := hr
  exact ⟨hp, cd, by simpa using hb, by simpa using hd, ho⟩
end
/-- From the row's words to the range's. -/
theorem calls_NO {α : Type} {OC : World → List Nat → List Value → α → Prop} {P : Program} {fn : FuncId} {args : Array Value} {w : World} {E sz lo hi : Nat} {v : Value} {xs xs' : List α} {R : Ending → Prop} (hl : xs'.length = xs.length) (h : NO OC E sz lo hi w v xs)
    (hc : ∀ cs fp, w.ownsRow 0 E sz v xs.length cs → OL OC sz w xs fp cs → (v.ownBlock.toList ++ fp).Nodup → Calls P fn args w fun e w' => R e ∧ (∃ cs', w'.ownsRow 0 E sz v xs.length cs' ∧ OL OC sz w' xs' fp cs') ∧ OutF (v.ownBlock.toList ++ fp) w w') :
    Calls P fn args w fun e w' => R e ∧ NO OC E sz lo hi w' v xs' ∧ Out lo hi w w' := by
  obtain ⟨cs, fp, ho, hol, hn, hb⟩ := h
  refine (hc cs fp (ho.more (Nat.zero_le _) (Nat.le_refl _)).1 hol hn).mono fun e w' ⟨h1, ⟨cs', h2, h3⟩, h4⟩ => ⟨h1, ⟨cs', fp, ?_, h3, hn, hb⟩, h4.out ?_⟩
  · rw [hl]
    exact ⟨ownsRow_base h2 fun k hk => (ho.1.lt k hk).1, ho.2⟩
  · intro x hx
    rcases List.mem_append.1 hx with hx | hx
    · exact ⟨(ho.1.lt x (by simpa using hx)).1, ho.2 x (by simpa using hx)⟩
    · exact hb x hx
theorem row_of_blk {w : World} {E sz n cap g : Nat} {cs rest : List Value} (hb : Blk w g E (cs ++ rest)) (hl : cs.length = n * sz) (hn : n ≤ cap) (hm : cap ≤ maxLen) (hs : (cs ++ rest).length = cap * sz) : w.ownsRow 0 E sz (.slice (some ⟨g, 0, none⟩) n cap) n cs :=
  (Own.mk' (lo := 0) (hi := g + 1) (Nat.zero_le _) (by omega) hb hl hn hm hs).1
end Go.Proofs.Ytnglhofegajbiaa
