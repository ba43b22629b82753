/- The laws' helpers on Beacon: to.. (copy), eq.. (compare), sz.. (count), mark.. and held... Printed by gen.py. -/
import Derived.Test.YtmopmgaeiokfjaaGreatGHS
import Derived.Test.YtmopmgaeiokfjaaGreatGCore
import Derived.Test.YtmopmgaeiokfjaaGreatGGrow
namespace Go.Proofs.YtmopmgaeiokfjaaGreat
open Go.RowKit
set_option linter.unusedVariables false
theorem info_Beacon : (Tryz.prog.info? 78).map (fun i => (i.zero, i.size, i.bytes)) = some (some (.agg #[.int .i64 0, .int .i64 0, .int .i64 0, .slice none 0 0]), 4, 48) := by kernel_rfl
def BeaconO (lo hi : Nat) (w : World) (v : Value) (x : DBeacon) : Prop := ∃ u3, v = .agg #[I x.ing, I x.seg.ts, I x.seg.beta, u3] ∧ Own 91 5 lo hi w u3 x.seg.hops.length (x.seg.hops.flatMap HopC) ∧ lo ≤ hi
theorem BeaconO.keep {lo hi : Nat} {w w' : World} {v : Value} {x : DBeacon} (h : BeaconO lo hi w v x) (hk : ∀ k, lo ≤ k → k < hi → k < w.heap.size → w'.heap[k]? = w.heap[k]?) : BeaconO lo hi w' v x := by
 obtain ⟨u3, e, o3, l0⟩ := h;exact ⟨u3, e, o3.keep fun k h1 h2 h3 => hk k (by omega) (by omega) h3, l0⟩
theorem BeaconO.ext {lo hi : Nat} {w w' : World} {v : Value} {x : DBeacon} (h : BeaconO lo hi w v x) (he : Ext w w') (hhi : hi ≤ w.heap.size) : BeaconO lo hi w' v x := h.keep fun k _ _ h3 => he.same k h3
theorem BeaconO.more {lo hi lo' hi' : Nat} {w : World} {v : Value} {x : DBeacon} (h : BeaconO lo hi w v x) (h1 : lo' ≤ lo) (h2 : hi ≤ hi') : BeaconO lo' hi' w v x := by
 obtain ⟨u3, e, o3, l0⟩ := h;exact ⟨u3, e, Own.more o3 h1 h2, by omega⟩
theorem BeaconO.up {lo : Nat} {w w' : World} {v : Value} {x : DBeacon} (h : BeaconO lo w.heap.size w v x) (he : Ext w w') : BeaconO lo w'.heap.size w' v x := (h.ext he (Nat.le_refl _)).more (Nat.le_refl _) he.size
theorem BeaconO.setT {lo hi g : Nat} {w : World} {v : Value} {x : DBeacon} {cs' : List Value} (h : BeaconO lo hi w v x) (hb : Blk w g 78 cs') (i : Nat) (u : Value) : BeaconO lo hi (w.setCell ⟨g, i, none⟩ u) v x := by
 obtain ⟨u3, e, o3, l0⟩ := h;exact ⟨u3, e, Own.setT o3 hb (by decide) i u, l0⟩
def BeaconOC (w : World) (fp : List Nat) (cs : List Value) (x : DBeacon) : Prop := ∃ u3, cs = [I x.ing, I x.seg.ts, I x.seg.beta, u3] ∧ w.ownsRow 0 91 5 u3 x.seg.hops.length (x.seg.hops.flatMap HopC) ∧ fp = u3.ownBlock.toList
theorem BeaconOC.keeps : OKeeps BeaconOC := by
 intro w w' fp cs x hk h;obtain ⟨u3, e, r3, ef⟩ := h;exact ⟨u3, e, ownsRow_keep r3 (fun b hb => hk b (by rw [ef]; simp [hb])), ef⟩
theorem BeaconOC.at_ (B : Nat) (w : World) (b o : Nat) (fp : List Nat) (cs : List Value) (x : DBeacon) (h : BeaconOC w fp cs x) (hb : ∀ b ∈ fp, b < B) (hc : ∀ j u, cs[j]? = some u → w.cell? ⟨b, o + j, none⟩ = some u) : BeaconAt B w b o x := by
 obtain ⟨u3, rfl, r3, ef⟩ := h;have s3 : HopS B w u3 x.seg.hops := Own.sl (lo := 0) (n := x.seg.hops.length) (At := HopAt) ⟨r3, fun k hk => hb k (by rw [ef]; simp [hk])⟩ HopC.len (by omega) HopC.at_;obtain ⟨A3, n3, c3, e3, _⟩ := id s3;subst e3;exact ⟨A3, n3, c3, hc 0 _ rfl, hc 1 _ rfl, hc 2 _ rfl, hc 3 _ rfl, s3⟩
theorem BeaconOC.one : OOne BeaconOC := by
 intro w fp cs x h;obtain ⟨u3, rfl, r3, ef⟩ := h;obtain ⟨a3, m3, c3, e3⟩ := ownsRow_slice r3;subst e3;intro u hu;simp only [List.mem_cons, List.not_mem_nil, or_false] at hu
 rcases hu with rfl | rfl | rfl | rfl <;> rfl
theorem BeaconOC.typed (T : Nat) (n0 : 91 ≠ T) : OTyped BeaconOC T := by
 intro w fp cs x g cs' h hb;obtain ⟨u3, e, r3, ef⟩ := h;subst ef;intro hm;exact ownsRow_typed r3 hb n0 hm
theorem BeaconO.to_oc {lo hi : Nat} {w : World} {v : Value} {x : DBeacon} (h : BeaconO lo hi w v x) : ∃ a3 k3 q3 fp, v = .agg #[I x.ing, I x.seg.ts, I x.seg.beta, .slice a3 k3 q3] ∧ BeaconOC w fp [I x.ing, I x.seg.ts, I x.seg.beta, .slice a3 k3 q3] x ∧ fp.Nodup ∧ ∀ b ∈ fp, lo ≤ b ∧ b < hi := by
 obtain ⟨u3, e, o3, l0⟩ := h;obtain ⟨a3, k3, q3, hu3⟩ : ∃ a n c, u3 = .slice a n c := o3.slice
 have b3 : ∀ b ∈ u3.ownBlock.toList, lo ≤ b ∧ b < hi := fun b hb => ⟨(o3.1.lt b (by simpa using hb)).1, o3.2 b (by simpa using hb)⟩
 have d3 : (u3.ownBlock.toList).Nodup := by cases u3.ownBlock <;> simp
 subst hu3;exact ⟨a3, k3, q3, (Value.slice a3 k3 q3).ownBlock.toList, e, ⟨_, rfl, (o3.more (Nat.zero_le _) (Nat.le_refl _)).1, rfl⟩, d3, b3⟩
abbrev BeaconSO (lo hi : Nat) (w : World) (v : Value) (xs : List DBeacon) : Prop := NO BeaconOC 78 4 lo hi w v xs
theorem BeaconSO_rd {lo hi : Nat} {w : World} {v : Value} {xs : List DBeacon} (h : BeaconSO lo hi w v xs) (hhi : hi ≤ w.heap.size) : BeaconS w.heap.size w v xs := (NO.sl (At := BeaconAt) h (fun _ => rfl) BeaconOC.at_).keep BeaconAt.keeps hhi (fun _ _ => rfl)
theorem BeaconSO_setCell {lo hi : Nat} {w : World} {v : Value} {xs : List DBeacon} (h : BeaconSO lo hi w v xs) {p : Addr} (hp : p.block < lo ∨ hi ≤ p.block) (u : Value) : BeaconSO lo hi (w.setCell p u) v xs := NO.keep BeaconOC.keeps h fun k h1 h2 _ => Below.heap_setCell _ _ _ _ (by omega)
theorem info_BeaconStore : (Tryz.prog.info? 76).map (fun i => (i.zero, i.size, i.bytes)) = some (some (.agg #[.slice none 0 0]), 1, 24) := by kernel_rfl
def BeaconStoreO (lo hi : Nat) (w : World) (v : Value) (x : DBeaconStore) : Prop := ∃ u0, v = .agg #[u0] ∧ BeaconSO lo hi w u0 x.beacons ∧ lo ≤ hi
def BeaconStoreOC (w : World) (fp : List Nat) (cs : List Value) (x : DBeaconStore) : Prop := ∃ u0 cs0 f0, cs = [u0] ∧ w.ownsRow 0 78 4 u0 x.beacons.length cs0 ∧ OL BeaconOC 4 w x.beacons f0 cs0 ∧ fp = (u0.ownBlock.toList ++ f0)
theorem BeaconStoreOC.keeps : OKeeps BeaconStoreOC := by
 intro w w' fp cs x hk h;obtain ⟨u0, cs0, f0, e, r0, l0, ef⟩ := h;exact ⟨u0, cs0, f0, e, ownsRow_keep r0 (fun b hb => hk b (by rw [ef]; simp [hb])), OL.keep BeaconOC.keeps l0 (fun b hb => hk b (by rw [ef]; simp [hb])), ef⟩
theorem BeaconStoreOC.at_ (B : Nat) (w : World) (b o : Nat) (fp : List Nat) (cs : List Value) (x : DBeaconStore) (h : BeaconStoreOC w fp cs x) (hb : ∀ b ∈ fp, b < B) (hc : ∀ j u, cs[j]? = some u → w.cell? ⟨b, o + j, none⟩ = some u) : BeaconStoreAt B w b o x := by
 obtain ⟨u0, cs0, f0, rfl, r0, l0, ef⟩ := h;have s0 : BeaconS B w u0 x.beacons := sl_of_OL (At := BeaconAt) r0 l0 (fun b hm => hb b (by rw [ef]; simp [hm])) (fun _ => rfl) BeaconOC.at_;obtain ⟨A0, n0, c0, e0, _⟩ := id s0;subst e0;exact ⟨A0, n0, c0, hc 0 _ rfl, s0⟩
theorem BeaconStoreOC.one : OOne BeaconStoreOC := by
 intro w fp cs x h;obtain ⟨u0, cs0, f0, rfl, r0, l0, ef⟩ := h;obtain ⟨a0, m0, c0, e0⟩ := ownsRow_slice r0;subst e0;intro u hu;simp only [List.mem_cons, List.not_mem_nil, or_false] at hu;subst hu;rfl
theorem BeaconStoreOC.typed (T : Nat) (n0 : 78 ≠ T) (n1 : 91 ≠ T) : OTyped BeaconStoreOC T := by
 intro w fp cs x g cs' h hb;obtain ⟨u0, cs0, f0, e, r0, l0, ef⟩ := h;subst ef;intro hm;simp only [List.mem_append] at hm
 rcases hm with hm | hm
 · exact ownsRow_typed r0 hb n0 hm
 · exact OL.typed (BeaconOC.typed T n1) hb l0 hm
theorem BeaconStoreO.to_oc {lo hi : Nat} {w : World} {v : Value} {x : DBeaconStore} (h : BeaconStoreO lo hi w v x) : ∃ a0 k0 q0 fp, v = .agg #[.slice a0 k0 q0] ∧ BeaconStoreOC w fp [.slice a0 k0 q0] x ∧ fp.Nodup ∧ ∀ b ∈ fp, lo ≤ b ∧ b < hi := by
 obtain ⟨u0, e, o0, l0⟩ := h;obtain ⟨a0, k0, q0, hu0⟩ : ∃ a n c, u0 = .slice a n c := NO.slice o0;obtain ⟨cs0, f0, r0, l0_, d0, b0'⟩ := o0
 have b0 : ∀ b ∈ u0.ownBlock.toList ++ f0, lo ≤ b ∧ b < hi := fun b hb => by
  rcases List.mem_append.1 hb with hb | hb
  · exact ⟨(r0.1.lt b (by simpa using hb)).1, r0.2 b (by simpa using hb)⟩
  · exact b0' b hb
 subst hu0;exact ⟨a0, k0, q0, ((Value.slice a0 k0 q0).ownBlock.toList ++ f0), e, ⟨_, cs0, f0, rfl, (r0.more (Nat.zero_le _) (Nat.le_refl _)).1, l0_, rfl⟩, d0, b0⟩
abbrev BeaconStoreSO (lo hi : Nat) (w : World) (v : Value) (xs : List DBeaconStore) : Prop := NO BeaconStoreOC 76 1 lo hi w v xs
theorem BeaconStoreSO_rd {lo hi : Nat} {w : World} {v : Value} {xs : List DBeaconStore} (h : BeaconStoreSO lo hi w v xs) (hhi : hi ≤ w.heap.size) : BeaconStoreS w.heap.size w v xs := (NO.sl (At := BeaconStoreAt) h (fun _ => (Nat.mul_one _).symm) BeaconStoreOC.at_).keep BeaconStoreAt.keeps hhi (fun _ _ => rfl)
theorem BeaconStoreSO_setCell {lo hi : Nat} {w : World} {v : Value} {xs : List DBeaconStore} (h : BeaconStoreSO lo hi w v xs) {p : Addr} (hp : p.block < lo ∨ hi ≤ p.block) (u : Value) : BeaconStoreSO lo hi (w.setCell p u) v xs := NO.keep BeaconStoreOC.keeps h fun k h1 h2 _ => Below.heap_setCell _ _ _ _ (by omega)
theorem BeaconStoreSO_keep {lo hi : Nat} {w w' : World} {v : Value} {xs : List DBeaconStore} (h : BeaconStoreSO lo hi w v xs) (hk : ∀ k, lo ≤ k → k < hi → k < w.heap.size → w'.heap[k]? = w.heap[k]?) : BeaconStoreSO lo hi w' v xs := NO.keep BeaconStoreOC.keeps h hk
theorem info_BeaconMessage : (Tryz.prog.info? 149).map (fun i => (i.zero, i.size, i.bytes)) = some (some (.agg #[.int .i64 0, .int .i64 0, .int .i64 0, .int .i64 0, .slice none 0 0]), 5, 56) := by kernel_rfl
def BeaconMessageO (lo hi : Nat) (w : World) (v : Value) (x : DBeaconMessage) : Prop := ∃ u4, v = .agg #[I x.to, I x.beacon.ing, I x.beacon.seg.ts, I x.beacon.seg.beta, u4] ∧ Own 91 5 lo hi w u4 x.beacon.seg.hops.length (x.beacon.seg.hops.flatMap HopC) ∧ lo ≤ hi
def BeaconMessageOC (w : World) (fp : List Nat) (cs : List Value) (x : DBeaconMessage) : Prop := ∃ u4, cs = [I x.to, I x.beacon.ing, I x.beacon.seg.ts, I x.beacon.seg.beta, u4] ∧ w.ownsRow 0 91 5 u4 x.beacon.seg.hops.length (x.beacon.seg.hops.flatMap HopC) ∧ fp = u4.ownBlock.toList
theorem BeaconMessageOC.keeps : OKeeps BeaconMessageOC := by
 intro w w' fp cs x hk h;obtain ⟨u4, e, r4, ef⟩ := h;exact ⟨u4, e, ownsRow_keep r4 (fun b hb => hk b (by rw [ef]; simp [hb])), ef⟩
theorem BeaconMessageOC.at_ (B : Nat) (w : World) (b o : Nat) (fp : List Nat) (cs : List Value) (x : DBeaconMessage) (h : BeaconMessageOC w fp cs x) (hb : ∀ b ∈ fp, b < B) (hc : ∀ j u, cs[j]? = some u → w.cell? ⟨b, o + j, none⟩ = some u) : BeaconMessageAt B w b o x := by
 obtain ⟨u4, rfl, r4, ef⟩ := h;have s4 : HopS B w u4 x.beacon.seg.hops := Own.sl (lo := 0) (n := x.beacon.seg.hops.length) (At := HopAt) ⟨r4, fun k hk => hb k (by rw [ef]; simp [hk])⟩ HopC.len (by omega) HopC.at_;obtain ⟨A4, n4, c4, e4, _⟩ := id s4;subst e4;exact ⟨A4, n4, c4, hc 0 _ rfl, hc 1 _ rfl, hc 2 _ rfl, hc 3 _ rfl, hc 4 _ rfl, s4⟩
theorem BeaconMessageOC.one : OOne BeaconMessageOC := by
 intro w fp cs x h;obtain ⟨u4, rfl, r4, ef⟩ := h;obtain ⟨a4, m4, c4, e4⟩ := ownsRow_slice r4;subst e4;intro u hu;simp only [List.mem_cons, List.not_mem_nil, or_false] at hu
 rcases hu with rfl | rfl | rfl | rfl | rfl <;> rfl
theorem BeaconMessageO.to_oc {lo hi : Nat} {w : World} {v : Value} {x : DBeaconMessage} (h : BeaconMessageO lo hi w v x) : ∃ a4 k4 q4 fp, v = .agg #[I x.to, I x.beacon.ing, I x.beacon.seg.ts, I x.beacon.seg.beta, .slice a4 k4 q4] ∧ BeaconMessageOC w fp [I x.to, I x.beacon.ing, I x.beacon.seg.ts, I x.beacon.seg.beta, .slice a4 k4 q4] x ∧ fp.Nodup ∧ ∀ b ∈ fp, lo ≤ b ∧ b < hi := by
 obtain ⟨u4, e, o4, l0⟩ := h;obtain ⟨a4, k4, q4, hu4⟩ : ∃ a n c, u4 = .slice a n c := o4.slice
 have b4 : ∀ b ∈ u4.ownBlock.toList, lo ≤ b ∧ b < hi := fun b hb => ⟨(o4.1.lt b (by simpa using hb)).1, o4.2 b (by simpa using hb)⟩
 have d4 : (u4.ownBlock.toList).Nodup := by cases u4.ownBlock <;> simp
 subst hu4;exact ⟨a4, k4, q4, (Value.slice a4 k4 q4).ownBlock.toList, e, ⟨_, rfl, (o4.more (Nat.zero_le _) (Nat.le_refl _)).1, rfl⟩, d4, b4⟩
abbrev BeaconMessageSO (lo hi : Nat) (w : World) (v : Value) (xs : List DBeaconMessage) : Prop := NO BeaconMessageOC 149 5 lo hi w v xs
theorem BeaconMessageSO_rd {lo hi : Nat} {w : World} {v : Value} {xs : List DBeaconMessage} (h : BeaconMessageSO lo hi w v xs) (hhi : hi ≤ w.heap.size) : BeaconMessageS w.heap.size w v xs := (NO.sl (At := BeaconMessageAt) h (fun _ => rfl) BeaconMessageOC.at_).keep BeaconMessageAt.keeps hhi (fun _ _ => rfl)
theorem BeaconMessageSO_setCell {lo hi : Nat} {w : World} {v : Value} {xs : List DBeaconMessage} (h : BeaconMessageSO lo hi w v xs) {p : Addr} (hp : p.block < lo ∨ hi ≤ p.block) (u : Value) : BeaconMessageSO lo hi (w.setCell p u) v xs := NO.keep BeaconMessageOC.keeps h fun k h1 h2 _ => Below.heap_setCell _ _ _ _ (by omega)
def BeaconingO (lo hi : Nat) (w : World) (v : Value) (x : DBeaconing) : Prop := ∃ u1, v = .agg #[I x.ts, u1] ∧ BeaconStoreSO lo hi w u1 x.stores ∧ lo ≤ hi
theorem BeaconingO.keep {lo hi : Nat} {w w' : World} {v : Value} {x : DBeaconing} (h : BeaconingO lo hi w v x) (hk : ∀ k, lo ≤ k → k < hi → k < w.heap.size → w'.heap[k]? = w.heap[k]?) : BeaconingO lo hi w' v x := by
 obtain ⟨u1, e, o1, l0⟩ := h;exact ⟨u1, e, BeaconStoreSO_keep o1 (fun k h1 h2 h3 => hk k (by omega) (by omega) h3), l0⟩
theorem BeaconingO.v {lo hi : Nat} {w : World} {v : Value} {x : DBeaconing} (h : BeaconingO lo hi w v x) : BeaconingV hi w v x := by
 obtain ⟨u1, e, o1, l0⟩ := h
 have s1 := (NO.sl (At := BeaconStoreAt) (pos := fun k => k) o1 (fun _ => (Nat.mul_one _).symm) BeaconStoreOC.at_)
 obtain ⟨A1, n1, c1, rfl, _⟩ := id s1;exact ⟨_, _, _, e, s1.keep BeaconStoreAt.keeps (by omega) (fun _ _ => rfl)⟩
theorem BeaconingO.shape {lo hi : Nat} {w : World} {v : Value} {x : DBeaconing} (h : BeaconingO lo hi w v x) : ∃ A1 n1 c1, v = .agg #[I x.ts, .slice A1 n1 c1] := by
 obtain ⟨A1, n1, c1, e, _⟩ := h.v;exact ⟨A1, n1, c1, e⟩
theorem BeaconingO.more {lo hi lo' hi' : Nat} {w : World} {v : Value} {x : DBeaconing} (h : BeaconingO lo hi w v x) (h1 : lo' ≤ lo) (h2 : hi ≤ hi') : BeaconingO lo' hi' w v x := by
 obtain ⟨u1, e, o1, l0⟩ := h;exact ⟨u1, e, NO.more o1 h1 h2, by omega⟩
theorem BeaconingO.setT {lo hi g : Nat} {w : World} {v : Value} {x : DBeaconing} {cs' : List Value} (h : BeaconingO lo hi w v x) (hb : Blk w g 40 cs') (i : Nat) (u : Value) : BeaconingO lo hi (w.setCell ⟨g, i, none⟩ u) v x := by
 obtain ⟨u1, e, o1, l0⟩ := h;exact ⟨u1, e, NO.setT BeaconStoreOC.keeps (BeaconStoreOC.typed _ (by decide) (by decide)) o1 hb (by decide) i u, l0⟩
theorem BeaconingO_rd {lo hi : Nat} {w : World} {v : Value} {x : DBeaconing} (h : BeaconingO lo hi w v x) (hhi : hi ≤ w.heap.size) : BeaconingV w.heap.size w v x := h.v.keep hhi (fun _ _ => rfl)
end Go.Proofs.YtmopmgaeiokfjaaGreat
