/- Contracts of the reference's draws of sets, numbers, votes and roots with a thing turned: l4Set, l3Word, l17Votes, l18Any. No conditions. -/
import Derived.Test.YtddaodemdkjijaaGreatD7
import Derived.Test.YtddaodemdkjijaaGreatNestAt



namespace Go.Proofs.YtddaodemdkjijaaGreat
open Go.RowKit
set_option linter.unusedVariables false
theorem intro_at {P : Program} {ops : Array Oper} {E : World → World → Prop} {w0 : World} {G : Tmp → Option (Value → World → Prop)} {Q : Act → World → Prop} {rest : List Oper} {a : Act} {L : List (Tmp × (World → Prop))} (t : Tmp) (p : World → Prop) (h : wpL P ops E w0 G Q rest a ((t, p) :: L)) : wpL P ops E w0 G Q rest a ((t, p) :: L) := h
theorem Zero1.d {E lo g : Nat} {zs : List Value} {v : Value} {W W' : World} (h : Zero1 E lo zs v W) (hd : D g W W') (hg : g < lo) : Zero1 E lo zs v W' := by
  obtain ⟨k, e, hk, hb⟩ := h
  exact ⟨k, e, hk, hb.d hd (by omega)⟩
theorem shl_ok : ∀ k : Nat, k < 17 → wrap64 ((2 : Int) ^ k) ≤ 16777216 := by decide +kernel
/-- Numbers, and votes, of the call's own while a cursor is turned. -/
def IntsD (lo : Nat) (l : List Int) (v : Value) (W : World) : Prop := IntSO lo W.heap.size W v l
theorem IntsD.d {lo g : Nat} {l : List Int} {v : Value} {W W' : World} (h : IntsD lo l v W) (hd : D g W W') (hg : g < lo) : IntsD lo l v W' := Own.dUp h hd hg
theorem IntsD.so {lo : Nat} {l : List Int} {v : Value} {W : World} (h : IntsD lo l v W) : IntSO lo W.heap.size W v l := h
def VotesD (lo n : Nat) (v : Value) (W : World) : Prop := ∃ xs : List DSignature, SignatureSO lo W.heap.size W v xs ∧ xs.length ≤ n
theorem VotesD.d {lo n g : Nat} {v : Value} {W W' : World} (h : VotesD lo n v W) (hd : D g W W') (hg : g < lo) : VotesD lo n v W' := by
  obtain ⟨xs, h1, h2⟩ := h
  exact ⟨xs, Own.dUp h1 hd hg, h2⟩
theorem TrustRootOC.v {B : Nat} {w : World} {fp : List Nat} {cs : List Value} {x : DTrustRoot} (h : TrustRootOC w fp cs x) (hb : ∀ b ∈ fp, b < B) : TrustRootV B w (.agg cs.toArray) x := by
  obtain ⟨u6, rfl, r6, ef⟩ := h
  have s6 : SignatureS B w u6 x.sigs := Own.sl (lo := 0) (n := x.sigs.length) (At := SignatureAt) ⟨r6, fun k hk => hb k (by rw [ef]; simp [hk])⟩ SignatureC.len (by omega) SignatureC.at_
  obtain ⟨A6, n6, c6, e6, _⟩ := id s6
  subst e6
  exact ⟨A6, n6, c6, rfl, s6⟩
theorem TrustRootOC.shape {w : World} {fp : List Nat} {cs : List Value} {x : DTrustRoot} (h : TrustRootOC w fp cs x) : ∃ A c, cs = [I x.isd, I x.version, I x.notBefore, I x.notAfter, I x.voters, I x.quorum, .slice A x.sigs.length c] := by
  obtain ⟨u6, e, r6, -⟩ := h
  obtain ⟨A, n, c, e6⟩ := ownsRow_slice r6
  subst e6
  have hr := NO.row (E := 76) (sz := 2) (lo := 0) (hi := w.heap.size + c + 1 + (A.map (fun a => a.block)).getD 0) (w := w) (n := x.sigs.length) ⟨r6, fun k hk => by (cases A with | none => simp [Value.ownBlock] at hk | some a => (simp [Value.ownBlock] at hk; simp; omega))⟩
  obtain ⟨rfl, -⟩ := hr
  exact ⟨A, c, e⟩
theorem TopologyO.setTT {T lo hi g : Nat} {w : World} {v : Value} {x : DTopology} {cs' : List Value} (h : TopologyO lo hi w v x) (hb : Blk w g T cs') (n0 : 61 ≠ T) (n1 : 119 ≠ T) (i : Nat) (u : Value) : TopologyO lo hi (w.setCell ⟨g, i, none⟩ u) v x := by
  obtain ⟨u0, u1, m1, e, o0, o1, l0, l1⟩ := h
  exact ⟨u0, u1, m1, e, Own.setT o0 hb n0 i u, Own.setT o1 hb n1 i u, l0, l1⟩
/-- What roots with a thing turned are like. -/
def DrawnRoots (l : List DTrustRoot) : Prop := 0 < l.length ∧ l.length ≤ 5 ∧ ∀ x ∈ l, x.sigs.length ≤ 16
theorem DrawnRoots.set {l : List DTrustRoot} (h : DrawnRoots l) (k : Nat) (x : DTrustRoot) (hx : x.sigs.length ≤ 16) : DrawnRoots (l.set k x) := by
  refine ⟨by rw [List.length_set]; exact h.1, by rw [List.length_set]; exact h.2.1, fun y hy => ?_⟩
  rcases List.mem_or_eq_of_mem_set hy with h1 | rfl
  · exact h.2.2 y h1
  · exact hx
def rootFlat (x : DTrustRoot) : List Int := [x.isd, x.version, x.notBefore, x.notAfter, x.voters, x.quorum]
theorem root_flat {lo hi gl k c : Nat} {W : World} {l : List DTrustRoot} {x y : DTrustRoot} {j : Nat} {n : Int} (h : TrustRootSO lo hi W (.slice (some ⟨gl, 0, none⟩) l.length c) l) (hk : k < l.length) (hx : x = l[k]) (hj : j < 6) (hs : y.sigs = x.sigs) (hy : rootFlat y = (rootFlat x).set j n) :
    TrustRootSO lo hi (W.setCell ⟨gl, k * 7 + j, none⟩ (I n)) (.slice (some ⟨gl, 0, none⟩) l.length c) (l.set k y) := by
  obtain ⟨g', f0, c0, hA, -, -, -, -, hoc, -, hnd0, -, -, -, -, hset⟩ := NO.elem TrustRootOC.keeps h hk
  cases hA
  rw [← hx] at hoc
  obtain ⟨u6, rfl, r6, ef⟩ := hoc
  refine hset j (I n) f0 y hi (by omega) (Nat.le_refl _) ?_ hnd0 (.inl rfl)
  refine ⟨u6, ?_, by rw [hs]; exact r6, ef⟩
  have e1 : [I x.isd, I x.version, I x.notBefore, I x.notAfter, I x.voters, I x.quorum, u6] = (rootFlat x).map I ++ [u6] := rfl
  have e2 : [I y.isd, I y.version, I y.notBefore, I y.notAfter, I y.voters, I y.quorum, u6] = (rootFlat y).map I ++ [u6] := rfl
  rw [e1, e2, hy, List.set_append_left _ _ (by simpa [rootFlat] using hj), List.map_set]
theorem root_sigs {lo hi mid gl k c m q : Nat} {W : World} {l : List DTrustRoot} {A : Option Addr} {xs : List DSignature} (h : TrustRootSO lo hi W (.slice (some ⟨gl, 0, none⟩) l.length c) l) (hk : k < l.length) (hx : SignatureSO mid W.heap.size W (.slice A m q) xs) (hm : hi ≤ mid) (hh : hi ≤ W.heap.size) :
    TrustRootSO lo W.heap.size (W.setCell ⟨gl, k * 7 + 6, none⟩ (.slice A m q)) (.slice (some ⟨gl, 0, none⟩) l.length c) (l.set k { l[k] with sigs := xs }) := by
  obtain ⟨g', f0, c0, hA, -, -, -, -, hoc, -, hnd0, -, -, -, -, hset⟩ := NO.elem TrustRootOC.keeps h hk
  cases hA
  obtain ⟨u6, rfl, r6, ef⟩ := hoc
  have d6 : ((Value.slice A m q).ownBlock.toList).Nodup := by cases (Value.slice A m q).ownBlock <;> simp
  refine hset 6 (.slice A m q) (Value.slice A m q).ownBlock.toList _ W.heap.size (by omega) hh ⟨_, rfl, (hx.more (Nat.zero_le _) (Nat.le_refl _)).1, rfl⟩ d6 (.inr fun b hb => ⟨?_, hx.2 b (by simpa using hb)⟩)
  have := (hx.1.lt b (by simpa using hb)).1
  omega
end Go.Proofs.YtddaodemdkjijaaGreat
