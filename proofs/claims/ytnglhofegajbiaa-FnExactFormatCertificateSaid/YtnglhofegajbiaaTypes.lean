/- The data of the program as Lean structures, and how they read in memory: At (cells in a block), V (a value), S (a slice of them). No conditions. Printed by gen.py. -/
import Derived.Test.YtnglhofegajbiaaBase
namespace Go.Proofs.Ytnglhofegajbiaa
open Go.RowKit
set_option linter.unusedVariables false
structure DSignature where
  asn : Int
  value : Int
theorem DSignature.eq_iff {a b : DSignature} : a = b ↔ a.asn = b.asn ∧ a.value = b.value := by cases a; cases b; simp
instance : DecidableEq DSignature := fun _ _ => decidable_of_iff _ DSignature.eq_iff.symm
def SignatureAt (_B : Nat) (w : World) (b o : Nat) (x : DSignature) : Prop := w.cell? ⟨b, o, none⟩ = some (I x.asn) ∧ w.cell? ⟨b, o + 1, none⟩ = some (I x.value)
theorem SignatureAt.keeps : Keeps SignatureAt := fun _ _ _ _ _ _ _ _ hs hb ⟨h0, h1⟩ => ⟨(hs.cell hb).trans h0, (hs.cell hb).trans h1⟩
abbrev SignatureS := Sl SignatureAt (fun k => k * 2)
theorem SignatureS.ext {w w' : World} {v : Value} {ds : List DSignature} (h : SignatureS w.heap.size w v ds) (hs : Ext w w') : SignatureS w'.heap.size w' v ds := Sl.ext SignatureAt.keeps h hs
def SignatureV (_B : Nat) (_w : World) (v : Value) (x : DSignature) : Prop := v = .agg #[I x.asn, I x.value]
theorem SignatureV.keep {B B' : Nat} {w w' : World} {v : Value} {x : DSignature} (h : SignatureV B w v x) (_hB : B ≤ B') (_hs : Same B w w') : SignatureV B' w' v x := h
theorem SignatureV.ext {w w' : World} {v : Value} {x : DSignature} (h : SignatureV w.heap.size w v x) (hs : Ext w w') : SignatureV w'.heap.size w' v x := h.keep hs.size hs.same
def SignatureC (x : DSignature) : List Value := [I x.asn, I x.value]
theorem SignatureC.at_ (B : Nat) (w : World) (b o : Nat) (x : DSignature) (h : ∀ j u, (SignatureC x)[j]? = some u → w.cell? ⟨b, o + j, none⟩ = some u) : SignatureAt B w b o x := ⟨h 0 _ rfl, h 1 _ rfl⟩
theorem SignatureAt.cells_ (B : Nat) (w : World) (b o : Nat) (x : DSignature) (h : SignatureAt B w b o x) : ∀ j u, (SignatureC x)[j]? = some u → w.cell? ⟨b, o + j, none⟩ = some u := by
  obtain ⟨h0, h1⟩ := h
  intro j u hu
  match j, hu with
  | 0, hu => cases hu; exact h0
  | 1, hu => cases hu; exact h1
theorem one_Signature (l : List DSignature) : ∀ u ∈ l.flatMap SignatureC, u.oneCell' = true := by
  intro u hu
  obtain ⟨x, _, hx⟩ := List.mem_flatMap.1 hu
  simp only [SignatureC, List.mem_cons, List.not_mem_nil, or_false] at hx
  rcases hx with rfl | rfl <;> rfl
theorem SignatureC.len (x : DSignature) : (SignatureC x).length = 2 := rfl

structure DHop where
  asn : Int
  ing : Int
  egr : Int
  exp : Int
  mac : Int
theorem DHop.eq_iff {a b : DHop} : a = b ↔ a.asn = b.asn ∧ a.ing = b.ing ∧ a.egr = b.egr ∧ a.exp = b.exp ∧ a.mac = b.mac := by cases a; cases b; simp
instance : DecidableEq DHop := fun _ _ => decidable_of_iff _ DHop.eq_iff.symm
def HopAt (_B : Nat) (w : World) (b o : Nat) (x : DHop) : Prop := w.cell? ⟨b, o, none⟩ = some (I x.asn) ∧ w.cell? ⟨b, o + 1, none⟩ = some (I x.ing) ∧ w.cell? ⟨b, o + 2, none⟩ = some (I x.egr) ∧ w.cell? ⟨b, o + 3, none⟩ = some (I x.exp) ∧ w.cell? ⟨b, o + 4, none⟩ = some (I x.mac)
theorem HopAt.keeps : Keeps HopAt := fun _ _ _ _ _ _ _ _ hs hb ⟨h0, h1, h2, h3, h4⟩ => ⟨(hs.cell hb).trans h0, (hs.cell hb).trans h1, (hs.cell hb).trans h2, (hs.cell hb).trans h3, (hs.cell hb).trans h4⟩
abbrev HopS := Sl HopAt (fun k => k * 5)
theorem HopS.ext {w w' : World} {v : Value} {ds : List DHop} (h : HopS w.heap.size w v ds) (hs : Ext w w') : HopS w'.heap.size w' v ds := Sl.ext HopAt.keeps h hs
def HopV (_B : Nat) (_w : World) (v : Value) (x : DHop) : Prop := v = .agg #[I x.asn, I x.ing, I x.egr, I x.exp, I x.mac]
theorem HopV.keep {B B' : Nat} {w w' : World} {v : Value} {x : DHop} (h : HopV B w v x) (_hB : B ≤ B') (_hs : Same B w w') : HopV B' w' v x := h
theorem HopV.ext {w w' : World} {v : Value} {x : DHop} (h : HopV w.heap.size w v x) (hs : Ext w w') : HopV w'.heap.size w' v x := h.keep hs.size hs.same
def HopC (x : DHop) : List Value := [I x.asn, I x.ing, I x.egr, I x.exp, I x.mac]
theorem HopC.at_ (B : Nat) (w : World) (b o : Nat) (x : DHop) (h : ∀ j u, (HopC x)[j]? = some u → w.cell? ⟨b, o + j, none⟩ = some u) : HopAt B w b o x := ⟨h 0 _ rfl, h 1 _ rfl, h 2 _ rfl, h 3 _ rfl, h 4 _ rfl⟩
theorem HopAt.cells_ (B : Nat) (w : World) (b o : Nat) (x : DHop) (h : HopAt B w b o x) : ∀ j u, (HopC x)[j]? = some u → w.cell? ⟨b, o + j, none⟩ = some u := by
  obtain ⟨h0, h1, h2, h3, h4⟩ := h
  intro j u hu
  match j, hu with
  | 0, hu => cases hu; exact h0
  | 1, hu => cases hu; exact h1
  | 2, hu => cases hu; exact h2
  | 3, hu => cases hu; exact h3
  | 4, hu => cases hu; exact h4
theorem one_Hop (l : List DHop) : ∀ u ∈ l.flatMap HopC, u.oneCell' = true := by
  intro u hu
  obtain ⟨x, _, hx⟩ := List.mem_flatMap.1 hu
  simp only [HopC, List.mem_cons, List.not_mem_nil, or_false] at hx
  rcases hx with rfl | rfl | rfl | rfl | rfl <;> rfl
theorem HopC.len (x : DHop) : (HopC x).length = 5 := rfl

structure DAS where
  isd : Int
  core : Bool
  key : Int
theorem DAS.eq_iff {a b : DAS} : a = b ↔ a.isd = b.isd ∧ a.core = b.core ∧ a.key = b.key := by cases a; cases b; simp
instance : DecidableEq DAS := fun _ _ => decidable_of_iff _ DAS.eq_iff.symm
def ASAt (_B : Nat) (w : World) (b o : Nat) (x : DAS) : Prop := w.cell? ⟨b, o, none⟩ = some (I x.isd) ∧ w.cell? ⟨b, o + 1, none⟩ = some (.bool x.core) ∧ w.cell? ⟨b, o + 2, none⟩ = some (I x.key)
theorem ASAt.keeps : Keeps ASAt := fun _ _ _ _ _ _ _ _ hs hb ⟨h0, h1, h2⟩ => ⟨(hs.cell hb).trans h0, (hs.cell hb).trans h1, (hs.cell hb).trans h2⟩
abbrev ASS := Sl ASAt (fun k => k * 3)
theorem ASS.ext {w w' : World} {v : Value} {ds : List DAS} (h : ASS w.heap.size w v ds) (hs : Ext w w') : ASS w'.heap.size w' v ds := Sl.ext ASAt.keeps h hs
def ASV (_B : Nat) (_w : World) (v : Value) (x : DAS) : Prop := v = .agg #[I x.isd, .bool x.core, I x.key]
theorem ASV.keep {B B' : Nat} {w w' : World} {v : Value} {x : DAS} (h : ASV B w v x) (_hB : B ≤ B') (_hs : Same B w w') : ASV B' w' v x := h
theorem ASV.ext {w w' : World} {v : Value} {x : DAS} (h : ASV w.heap.size w v x) (hs : Ext w w') : ASV w'.heap.size w' v x := h.keep hs.size hs.same
def ASC (x : DAS) : List Value := [I x.isd, .bool x.core, I x.key]
theorem ASC.at_ (B : Nat) (w : World) (b o : Nat) (x : DAS) (h : ∀ j u, (ASC x)[j]? = some u → w.cell? ⟨b, o + j, none⟩ = some u) : ASAt B w b o x := ⟨h 0 _ rfl, h 1 _ rfl, h 2 _ rfl⟩
theorem ASAt.cells_ (B : Nat) (w : World) (b o : Nat) (x : DAS) (h : ASAt B w b o x) : ∀ j u, (ASC x)[j]? = some u → w.cell? ⟨b, o + j, none⟩ = some u := by
  obtain ⟨h0, h1, h2⟩ := h
  intro j u hu
  match j, hu with
  | 0, hu => cases hu; exact h0
  | 1, hu => cases hu; exact h1
  | 2, hu => cases hu; exact h2
theorem one_AS (l : List DAS) : ∀ u ∈ l.flatMap ASC, u.oneCell' = true := by
  intro u hu
  obtain ⟨x, _, hx⟩ := List.mem_flatMap.1 hu
  simp only [ASC, List.mem_cons, List.not_mem_nil, or_false] at hx
  rcases hx with rfl | rfl | rfl <;> rfl
theorem ASC.len (x : DAS) : (ASC x).length = 3 := rfl

structure DLink where
  a : Int
  ai : Int
  b : Int
  bi : Int
  kind : Int
theorem DLink.eq_iff {a b : DLink} : a = b ↔ a.a = b.a ∧ a.ai = b.ai ∧ a.b = b.b ∧ a.bi = b.bi ∧ a.kind = b.kind := by cases a; cases b; simp
instance : DecidableEq DLink := fun _ _ => decidable_of_iff _ DLink.eq_iff.symm
def LinkAt (_B : Nat) (w : World) (b o : Nat) (x : DLink) : Prop := w.cell? ⟨b, o, none⟩ = some (I x.a) ∧ w.cell? ⟨b, o + 1, none⟩ = some (I x.ai) ∧ w.cell? ⟨b, o + 2, none⟩ = some (I x.b) ∧ w.cell? ⟨b, o + 3, none⟩ = some (I x.bi) ∧ w.cell? ⟨b, o + 4, none⟩ = some (I x.kind)
theorem LinkAt.keeps : Keeps LinkAt := fun _ _ _ _ _ _ _ _ hs hb ⟨h0, h1, h2, h3, h4⟩ => ⟨(hs.cell hb).trans h0, (hs.cell hb).trans h1, (hs.cell hb).trans h2, (hs.cell hb).trans h3, (hs.cell hb).trans h4⟩
abbrev LinkS := Sl LinkAt (fun k => k * 5)
theorem LinkS.ext {w w' : World} {v : Value} {ds : List DLink} (h : LinkS w.heap.size w v ds) (hs : Ext w w') : LinkS w'.heap.size w' v ds := Sl.ext LinkAt.keeps h hs
def LinkV (_B : Nat) (_w : World) (v : Value) (x : DLink) : Prop := v = .agg #[I x.a, I x.ai, I x.b, I x.bi, I x.kind]
theorem LinkV.keep {B B' : Nat} {w w' : World} {v : Value} {x : DLink} (h : LinkV B w v x) (_hB : B ≤ B') (_hs : Same B w w') : LinkV B' w' v x := h
theorem LinkV.ext {w w' : World} {v : Value} {x : DLink} (h : LinkV w.heap.size w v x) (hs : Ext w w') : LinkV w'.heap.size w' v x := h.keep hs.size hs.same
def LinkC (x : DLink) : List Value := [I x.a, I x.ai, I x.b, I x.bi, I x.kind]
theorem LinkC.at_ (B : Nat) (w : World) (b o : Nat) (x : DLink) (h : ∀ j u, (LinkC x)[j]? = some u → w.cell? ⟨b, o + j, none⟩ = some u) : LinkAt B w b o x := ⟨h 0 _ rfl, h 1 _ rfl, h 2 _ rfl, h 3 _ rfl, h 4 _ rfl⟩
theorem LinkAt.cells_ (B : Nat) (w : World) (b o : Nat) (x : DLink) (h : LinkAt B w b o x) : ∀ j u, (LinkC x)[j]? = some u → w.cell? ⟨b, o + j, none⟩ = some u := by
  obtain ⟨h0, h1, h2, h3, h4⟩ := h
  intro j u hu
  match j, hu with
  | 0, hu => cases hu; exact h0
  | 1, hu => cases hu; exact h1
  | 2, hu => cases hu; exact h2
  | 3, hu => cases hu; exact h3
  | 4, hu => cases hu; exact h4
theorem one_Link (l : List DLink) : ∀ u ∈ l.flatMap LinkC, u.oneCell' = true := by
  intro u hu
  obtain ⟨x, _, hx⟩ := List.mem_flatMap.1 hu
  simp only [LinkC, List.mem_cons, List.not_mem_nil, or_false] at hx
  rcases hx with rfl | rfl | rfl | rfl | rfl <;> rfl
theorem LinkC.len (x : DLink) : (LinkC x).length = 5 := rfl

structure DPolicy where
  maxLen : Int
  denied : Int
  closed : Int
  life : Int
theorem DPolicy.eq_iff {a b : DPolicy} : a = b ↔ a.maxLen = b.maxLen ∧ a.denied = b.denied ∧ a.closed = b.closed ∧ a.life = b.life := by cases a; cases b; simp
instance : DecidableEq DPolicy := fun _ _ => decidable_of_iff _ DPolicy.eq_iff.symm
def PolicyAt (_B : Nat) (w : World) (b o : Nat) (x : DPolicy) : Prop := w.cell? ⟨b, o, none⟩ = some (I x.maxLen) ∧ w.cell? ⟨b, o + 1, none⟩ = some (I x.denied) ∧ w.cell? ⟨b, o + 2, none⟩ = some (I x.closed) ∧ w.cell? ⟨b, o + 3, none⟩ = some (I x.life)
theorem PolicyAt.keeps : Keeps PolicyAt := fun _ _ _ _ _ _ _ _ hs hb ⟨h0, h1, h2, h3⟩ => ⟨(hs.cell hb).trans h0, (hs.cell hb).trans h1, (hs.cell hb).trans h2, (hs.cell hb).trans h3⟩
abbrev PolicyS := Sl PolicyAt (fun k => k * 4)
theorem PolicyS.ext {w w' : World} {v : Value} {ds : List DPolicy} (h : PolicyS w.heap.size w v ds) (hs : Ext w w') : PolicyS w'.heap.size w' v ds := Sl.ext PolicyAt.keeps h hs
def PolicyV (_B : Nat) (_w : World) (v : Value) (x : DPolicy) : Prop := v = .agg #[I x.maxLen, I x.denied, I x.closed, I x.life]
theorem PolicyV.keep {B B' : Nat} {w w' : World} {v : Value} {x : DPolicy} (h : PolicyV B w v x) (_hB : B ≤ B') (_hs : Same B w w') : PolicyV B' w' v x := h
theorem PolicyV.ext {w w' : World} {v : Value} {x : DPolicy} (h : PolicyV w.heap.size w v x) (hs : Ext w w') : PolicyV w'.heap.size w' v x := h.keep hs.size hs.same
def PolicyC (x : DPolicy) : List Value := [I x.maxLen, I x.denied, I x.closed, I x.life]
theorem PolicyC.at_ (B : Nat) (w : World) (b o : Nat) (x : DPolicy) (h : ∀ j u, (PolicyC x)[j]? = some u → w.cell? ⟨b, o + j, none⟩ = some u) : PolicyAt B w b o x := ⟨h 0 _ rfl, h 1 _ rfl, h 2 _ rfl, h 3 _ rfl⟩
theorem PolicyAt.cells_ (B : Nat) (w : World) (b o : Nat) (x : DPolicy) (h : PolicyAt B w b o x) : ∀ j u, (PolicyC x)[j]? = some u → w.cell? ⟨b, o + j, none⟩ = some u := by
  obtain ⟨h0, h1, h2, h3⟩ := h
  intro j u hu
  match j, hu with
  | 0, hu => cases hu; exact h0
  | 1, hu => cases hu; exact h1
  | 2, hu => cases hu; exact h2
  | 3, hu => cases hu; exact h3
theorem one_Policy (l : List DPolicy) : ∀ u ∈ l.flatMap PolicyC, u.oneCell' = true := by
  intro u hu
  obtain ⟨x, _, hx⟩ := List.mem_flatMap.1 hu
  simp only [PolicyC, List.mem_cons, List.not_mem_nil, or_false] at hx
  rcases hx with rfl | rfl | rfl | rfl <;> rfl
theorem PolicyC.len (x : DPolicy) : (PolicyC x).length = 4 := rfl

structure DCertificate where
  asn : Int
  keyDigest : Int
  rootVersion : Int
  notBefore : Int
  notAfter : Int
  sig : DSignature
theorem DCertificate.eq_iff {a b : DCertificate} : a = b ↔ a.asn = b.asn ∧ a.keyDigest = b.keyDigest ∧ a.rootVersion = b.rootVersion ∧ a.notBefore = b.notBefore ∧ a.notAfter = b.notAfter ∧ a.sig = b.sig := by cases a; cases b; simp
instance : DecidableEq DCertificate := fun _ _ => decidable_of_iff _ DCertificate.eq_iff.symm
def CertificateAt (_B : Nat) (w : World) (b o : Nat) (x : DCertificate) : Prop := w.cell? ⟨b, o, none⟩ = some (I x.asn) ∧ w.cell? ⟨b, o + 1, none⟩ = some (I x.keyDigest) ∧ w.cell? ⟨b, o + 2, none⟩ = some (I x.rootVersion) ∧ w.cell? ⟨b, o + 3, none⟩ = some (I x.notBefore) ∧ w.cell? ⟨b, o + 4, none⟩ = some (I x.notAfter) ∧ w.cell? ⟨b, o + 5, none⟩ = some (I x.sig.asn) ∧ w.cell? ⟨b, o + 6, none⟩ = some (I x.sig.value)
theorem CertificateAt.keeps : Keeps CertificateAt := fun _ _ _ _ _ _ _ _ hs hb ⟨h0, h1, h2, h3, h4, h5, h6⟩ => ⟨(hs.cell hb).trans h0, (hs.cell hb).trans h1, (hs.cell hb).trans h2, (hs.cell hb).trans h3, (hs.cell hb).trans h4, (hs.cell hb).trans h5, (hs.cell hb).trans h6⟩
abbrev CertificateS := Sl CertificateAt (fun k => k * 7)
theorem CertificateS.ext {w w' : World} {v : Value} {ds : List DCertificate} (h : CertificateS w.heap.size w v ds) (hs : Ext w w') : CertificateS w'.heap.size w' v ds := Sl.ext CertificateAt.keeps h hs
def CertificateV (_B : Nat) (_w : World) (v : Value) (x : DCertificate) : Prop := v = .agg #[I x.asn, I x.keyDigest, I x.rootVersion, I x.notBefore, I x.notAfter, I x.sig.asn, I x.sig.value]
theorem CertificateV.keep {B B' : Nat} {w w' : World} {v : Value} {x : DCertificate} (h : CertificateV B w v x) (_hB : B ≤ B') (_hs : Same B w w') : CertificateV B' w' v x := h
theorem CertificateV.ext {w w' : World} {v : Value} {x : DCertificate} (h : CertificateV w.heap.size w v x) (hs : Ext w w') : CertificateV w'.heap.size w' v x := h.keep hs.size hs.same
def CertificateC (x : DCertificate) : List Value := [I x.asn, I x.keyDigest, I x.rootVersion, I x.notBefore, I x.notAfter, I x.sig.asn, I x.sig.value]
theorem CertificateC.at_ (B : Nat) (w : World) (b o : Nat) (x : DCertificate) (h : ∀ j u, (CertificateC x)[j]? = some u → w.cell? ⟨b, o + j, none⟩ = some u) : CertificateAt B w b o x := ⟨h 0 _ rfl, h 1 _ rfl, h 2 _ rfl, h 3 _ rfl, h 4 _ rfl, h 5 _ rfl, h 6 _ rfl⟩
theorem CertificateAt.cells_ (B : Nat) (w : World) (b o : Nat) (x : DCertificate) (h : CertificateAt B w b o x) : ∀ j u, (CertificateC x)[j]? = some u → w.cell? ⟨b, o + j, none⟩ = some u := by
  obtain ⟨h0, h1, h2, h3, h4, h5, h6⟩ := h
  intro j u hu
  match j, hu with
  | 0, hu => cases hu; exact h0
  | 1, hu => cases hu; exact h1
  | 2, hu => cases hu; exact h2
  | 3, hu => cases hu; exact h3
  | 4, hu => cases hu; exact h4
  | 5, hu => cases hu; exact h5
  | 6, hu => cases hu; exact h6
theorem one_Certificate (l : List DCertificate) : ∀ u ∈ l.flatMap CertificateC, u.oneCell' = true := by
  intro u hu
  obtain ⟨x, _, hx⟩ := List.mem_flatMap.1 hu
  simp only [CertificateC, List.mem_cons, List.not_mem_nil, or_false] at hx
  rcases hx with rfl | rfl | rfl | rfl | rfl | rfl | rfl <;> rfl
theorem CertificateC.len (x : DCertificate) : (CertificateC x).length = 7 := rfl

structure DSegment where
  ts : Int
  beta : Int
  hops : List DHop
theorem DSegment.eq_iff {a b : DSegment} : a = b ↔ a.ts = b.ts ∧ a.beta = b.beta ∧ a.hops = b.hops := by cases a; cases b; simp
instance : DecidableEq DSegment := fun _ _ => decidable_of_iff _ DSegment.eq_iff.symm
def SegmentAt (B : Nat) (w : World) (b o : Nat) (x : DSegment) : Prop := ∃ A2 n2 c2, w.cell? ⟨b, o, none⟩ = some (I x.ts) ∧ w.cell? ⟨b, o + 1, none⟩ = some (I x.beta) ∧ w.cell? ⟨b, o + 2, none⟩ = some (.slice A2 n2 c2) ∧ HopS B w (.slice A2 n2 c2) x.hops
theorem SegmentAt.keeps : Keeps SegmentAt := fun _ _ _ _ _ _ _ hB hs hb ⟨A2, n2, c2, h0, h1, h2, s2⟩ => ⟨A2, n2, c2, (hs.cell hb).trans h0, (hs.cell hb).trans h1, (hs.cell hb).trans h2, Sl.keep HopAt.keeps s2 hB hs⟩
abbrev SegmentS := Sl SegmentAt (fun k => k * 3)
theorem SegmentS.ext {w w' : World} {v : Value} {ds : List DSegment} (h : SegmentS w.heap.size w v ds) (hs : Ext w w') : SegmentS w'.heap.size w' v ds := Sl.ext SegmentAt.keeps h hs
def SegmentV (B : Nat) (w : World) (v : Value) (x : DSegment) : Prop := ∃ A2 n2 c2, v = .agg #[I x.ts, I x.beta, .slice A2 n2 c2] ∧ HopS B w (.slice A2 n2 c2) x.hops
theorem SegmentV.keep {B B' : Nat} {w w' : World} {v : Value} {x : DSegment} (h : SegmentV B w v x) (hB : B ≤ B') (hs : Same B w w') : SegmentV B' w' v x := by obtain ⟨A2, n2, c2, e, s2⟩ := h; exact ⟨A2, n2, c2, e, Sl.keep HopAt.keeps s2 hB hs⟩
theorem SegmentV.ext {w w' : World} {v : Value} {x : DSegment} (h : SegmentV w.heap.size w v x) (hs : Ext w w') : SegmentV w'.heap.size w' v x := h.keep hs.size hs.same

structure DTopology where
  ases : List DAS
  links : List DLink
theorem DTopology.eq_iff {a b : DTopology} : a = b ↔ a.ases = b.ases ∧ a.links = b.links := by cases a; cases b; simp
instance : DecidableEq DTopology := fun _ _ => decidable_of_iff _ DTopology.eq_iff.symm
def TopologyAt (B : Nat) (w : World) (b o : Nat) (x : DTopology) : Prop := ∃ A0 n0 c0, ∃ A1 n1 c1, w.cell? ⟨b, o, none⟩ = some (.slice A0 n0 c0) ∧ w.cell? ⟨b, o + 1, none⟩ = some (.slice A1 n1 c1) ∧ ASS B w (.slice A0 n0 c0) x.ases ∧ LinkS B w (.slice A1 n1 c1) x.links
theorem TopologyAt.keeps : Keeps TopologyAt := fun _ _ _ _ _ _ _ hB hs hb ⟨A0, n0, c0, A1, n1, c1, h0, h1, s0, s1⟩ => ⟨A0, n0, c0, A1, n1, c1, (hs.cell hb).trans h0, (hs.cell hb).trans h1, Sl.keep ASAt.keeps s0 hB hs, Sl.keep LinkAt.keeps s1 hB hs⟩
abbrev TopologyS := Sl TopologyAt (fun k => k * 2)
theorem TopologyS.ext {w w' : World} {v : Value} {ds : List DTopology} (h : TopologyS w.heap.size w v ds) (hs : Ext w w') : TopologyS w'.heap.size w' v ds := Sl.ext TopologyAt.keeps h hs
def TopologyV (B : Nat) (w : World) (v : Value) (x : DTopology) : Prop := ∃ A0 n0 c0, ∃ A1 n1 c1, v = .agg #[.slice A0 n0 c0, .slice A1 n1 c1] ∧ ASS B w (.slice A0 n0 c0) x.ases ∧ LinkS B w (.slice A1 n1 c1) x.links
theorem TopologyV.keep {B B' : Nat} {w w' : World} {v : Value} {x : DTopology} (h : TopologyV B w v x) (hB : B ≤ B') (hs : Same B w w') : TopologyV B' w' v x := by obtain ⟨A0, n0, c0, A1, n1, c1, e, s0, s1⟩ := h; exact ⟨A0, n0, c0, A1, n1, c1, e, Sl.keep ASAt.keeps s0 hB hs, Sl.keep LinkAt.keeps s1 hB hs⟩
theorem TopologyV.ext {w w' : World} {v : Value} {x : DTopology} (h : TopologyV w.heap.size w v x) (hs : Ext w w') : TopologyV w'.heap.size w' v x := h.keep hs.size hs.same

structure DBeacon where
  ing : Int
  seg : DSegment
theorem DBeacon.eq_iff {a b : DBeacon} : a = b ↔ a.ing = b.ing ∧ a.seg = b.seg := by cases a; cases b; simp
instance : DecidableEq DBeacon := fun _ _ => decidable_of_iff _ DBeacon.eq_iff.symm
def BeaconAt (B : Nat) (w : World) (b o : Nat) (x : DBeacon) : Prop := ∃ A3 n3 c3, w.cell? ⟨b, o, none⟩ = some (I x.ing) ∧ w.cell? ⟨b, o + 1, none⟩ = some (I x.seg.ts) ∧ w.cell? ⟨b, o + 2, none⟩ = some (I x.seg.beta) ∧ w.cell? ⟨b, o + 3, none⟩ = some (.slice A3 n3 c3) ∧ HopS B w (.slice A3 n3 c3) x.seg.hops
theorem BeaconAt.keeps : Keeps BeaconAt := fun _ _ _ _ _ _ _ hB hs hb ⟨A3, n3, c3, h0, h1, h2, h3, s3⟩ => ⟨A3, n3, c3, (hs.cell hb).trans h0, (hs.cell hb).trans h1, (hs.cell hb).trans h2, (hs.cell hb).trans h3, Sl.keep HopAt.keeps s3 hB hs⟩
abbrev BeaconS := Sl BeaconAt (fun k => k * 4)
theorem BeaconS.ext {w w' : World} {v : Value} {ds : List DBeacon} (h : BeaconS w.heap.size w v ds) (hs : Ext w w') : BeaconS w'.heap.size w' v ds := Sl.ext BeaconAt.keeps h hs
def BeaconV (B : Nat) (w : World) (v : Value) (x : DBeacon) : Prop := ∃ A3 n3 c3, v = .agg #[I x.ing, I x.seg.ts, I x.seg.beta, .slice A3 n3 c3] ∧ HopS B w (.slice A3 n3 c3) x.seg.hops
theorem BeaconV.keep {B B' : Nat} {w w' : World} {v : Value} {x : DBeacon} (h : BeaconV B w v x) (hB : B ≤ B') (hs : Same B w w') : BeaconV B' w' v x := by obtain ⟨A3, n3, c3, e, s3⟩ := h; exact ⟨A3, n3, c3, e, Sl.keep HopAt.keeps s3 hB hs⟩
theorem BeaconV.ext {w w' : World} {v : Value} {x : DBeacon} (h : BeaconV w.heap.size w v x) (hs : Ext w w') : BeaconV w'.heap.size w' v x := h.keep hs.size hs.same

structure DBeaconStore where
  beacons : List DBeacon
theorem DBeaconStore.eq_iff {a b : DBeaconStore} : a = b ↔ a.beacons = b.beacons := by cases a; cases b; simp
instance : DecidableEq DBeaconStore := fun _ _ => decidable_of_iff _ DBeaconStore.eq_iff.symm
def BeaconStoreAt (B : Nat) (w : World) (b o : Nat) (x : DBeaconStore) : Prop := ∃ A0 n0 c0, w.cell? ⟨b, o, none⟩ = some (.slice A0 n0 c0) ∧ BeaconS B w (.slice A0 n0 c0) x.beacons
theorem BeaconStoreAt.keeps : Keeps BeaconStoreAt := fun _ _ _ _ _ _ _ hB hs hb ⟨A0, n0, c0, h0, s0⟩ => ⟨A0, n0, c0, (hs.cell hb).trans h0, Sl.keep BeaconAt.keeps s0 hB hs⟩
abbrev BeaconStoreS := Sl BeaconStoreAt (fun k => k)
theorem BeaconStoreS.ext {w w' : World} {v : Value} {ds : List DBeaconStore} (h : BeaconStoreS w.heap.size w v ds) (hs : Ext w w') : BeaconStoreS w'.heap.size w' v ds := Sl.ext BeaconStoreAt.keeps h hs
def BeaconStoreV (B : Nat) (w : World) (v : Value) (x : DBeaconStore) : Prop := ∃ A0 n0 c0, v = .agg #[.slice A0 n0 c0] ∧ BeaconS B w (.slice A0 n0 c0) x.beacons
theorem BeaconStoreV.keep {B B' : Nat} {w w' : World} {v : Value} {x : DBeaconStore} (h : BeaconStoreV B w v x) (hB : B ≤ B') (hs : Same B w w') : BeaconStoreV B' w' v x := by obtain ⟨A0, n0, c0, e, s0⟩ := h; exact ⟨A0, n0, c0, e, Sl.keep BeaconAt.keeps s0 hB hs⟩
theorem BeaconStoreV.ext {w w' : World} {v : Value} {x : DBeaconStore} (h : BeaconStoreV w.heap.size w v x) (hs : Ext w w') : BeaconStoreV w'.heap.size w' v x := h.keep hs.size hs.same

structure DBeaconMessage where
  to : Int
  beacon : DBeacon
theorem DBeaconMessage.eq_iff {a b : DBeaconMessage} : a = b ↔ a.to = b.to ∧ a.beacon = b.beacon := by cases a; cases b; simp
instance : DecidableEq DBeaconMessage := fun _ _ => decidable_of_iff _ DBeaconMessage.eq_iff.symm
def BeaconMessageAt (B : Nat) (w : World) (b o : Nat) (x : DBeaconMessage) : Prop := ∃ A4 n4 c4, w.cell? ⟨b, o, none⟩ = some (I x.to) ∧ w.cell? ⟨b, o + 1, none⟩ = some (I x.beacon.ing) ∧ w.cell? ⟨b, o + 2, none⟩ = some (I x.beacon.seg.ts) ∧ w.cell? ⟨b, o + 3, none⟩ = some (I x.beacon.seg.beta) ∧ w.cell? ⟨b, o + 4, none⟩ = some (.slice A4 n4 c4) ∧ HopS B w (.slice A4 n4 c4) x.beacon.seg.hops
theorem BeaconMessageAt.keeps : Keeps BeaconMessageAt := fun _ _ _ _ _ _ _ hB hs hb ⟨A4, n4, c4, h0, h1, h2, h3, h4, s4⟩ => ⟨A4, n4, c4, (hs.cell hb).trans h0, (hs.cell hb).trans h1, (hs.cell hb).trans h2, (hs.cell hb).trans h3, (hs.cell hb).trans h4, Sl.keep HopAt.keeps s4 hB hs⟩
abbrev BeaconMessageS := Sl BeaconMessageAt (fun k => k * 5)
theorem BeaconMessageS.ext {w w' : World} {v : Value} {ds : List DBeaconMessage} (h : BeaconMessageS w.heap.size w v ds) (hs : Ext w w') : BeaconMessageS w'.heap.size w' v ds := Sl.ext BeaconMessageAt.keeps h hs
def BeaconMessageV (B : Nat) (w : World) (v : Value) (x : DBeaconMessage) : Prop := ∃ A4 n4 c4, v = .agg #[I x.to, I x.beacon.ing, I x.beacon.seg.ts, I x.beacon.seg.beta, .slice A4 n4 c4] ∧ HopS B w (.slice A4 n4 c4) x.beacon.seg.hops
theorem BeaconMessageV.keep {B B' : Nat} {w w' : World} {v : Value} {x : DBeaconMessage} (h : BeaconMessageV B w v x) (hB : B ≤ B') (hs : Same B w w') : BeaconMessageV B' w' v x := by obtain ⟨A4, n4, c4, e, s4⟩ := h; exact ⟨A4, n4, c4, e, Sl.keep HopAt.keeps s4 hB hs⟩
theorem BeaconMessageV.ext {w w' : World} {v : Value} {x : DBeaconMessage} (h : BeaconMessageV w.heap.size w v x) (hs : Ext w w') : BeaconMessageV w'.heap.size w' v x := h.keep hs.size hs.same

structure DBeaconing where
  ts : Int
  stores : List DBeaconStore
theorem DBeaconing.eq_iff {a b : DBeaconing} : a = b ↔ a.ts = b.ts ∧ a.stores = b.stores := by cases a; cases b; simp
instance : DecidableEq DBeaconing := fun _ _ => decidable_of_iff _ DBeaconing.eq_iff.symm
def BeaconingAt (B : Nat) (w : World) (b o : Nat) (x : DBeaconing) : Prop := ∃ A1 n1 c1, w.cell? ⟨b, o, none⟩ = some (I x.ts) ∧ w.cell? ⟨b, o + 1, none⟩ = some (.slice A1 n1 c1) ∧ BeaconStoreS B w (.slice A1 n1 c1) x.stores
theorem BeaconingAt.keeps : Keeps BeaconingAt := fun _ _ _ _ _ _ _ hB hs hb ⟨A1, n1, c1, h0, h1, s1⟩ => ⟨A1, n1, c1, (hs.cell hb).trans h0, (hs.cell hb).trans h1, Sl.keep BeaconStoreAt.keeps s1 hB hs⟩
abbrev BeaconingS := Sl BeaconingAt (fun k => k * 2)
theorem BeaconingS.ext {w w' : World} {v : Value} {ds : List DBeaconing} (h : BeaconingS w.heap.size w v ds) (hs : Ext w w') : BeaconingS w'.heap.size w' v ds := Sl.ext BeaconingAt.keeps h hs
def BeaconingV (B : Nat) (w : World) (v : Value) (x : DBeaconing) : Prop := ∃ A1 n1 c1, v = .agg #[I x.ts, .slice A1 n1 c1] ∧ BeaconStoreS B w (.slice A1 n1 c1) x.stores
theorem BeaconingV.keep {B B' : Nat} {w w' : World} {v : Value} {x : DBeaconing} (h : BeaconingV B w v x) (hB : B ≤ B') (hs : Same B w w') : BeaconingV B' w' v x := by obtain ⟨A1, n1, c1, e, s1⟩ := h; exact ⟨A1, n1, c1, e, Sl.keep BeaconStoreAt.keeps s1 hB hs⟩
theorem BeaconingV.ext {w w' : World} {v : Value} {x : DBeaconing} (h : BeaconingV w.heap.size w v x) (hs : Ext w w') : BeaconingV w'.heap.size w' v x := h.keep hs.size hs.same

structure DSegmentDatabase where
  down : List DSegment
  core : List DSegment
theorem DSegmentDatabase.eq_iff {a b : DSegmentDatabase} : a = b ↔ a.down = b.down ∧ a.core = b.core := by cases a; cases b; simp
instance : DecidableEq DSegmentDatabase := fun _ _ => decidable_of_iff _ DSegmentDatabase.eq_iff.symm
def SegmentDatabaseAt (B : Nat) (w : World) (b o : Nat) (x : DSegmentDatabase) : Prop := ∃ A0 n0 c0, ∃ A1 n1 c1, w.cell? ⟨b, o, none⟩ = some (.slice A0 n0 c0) ∧ w.cell? ⟨b, o + 1, none⟩ = some (.slice A1 n1 c1) ∧ SegmentS B w (.slice A0 n0 c0) x.down ∧ SegmentS B w (.slice A1 n1 c1) x.core
theorem SegmentDatabaseAt.keeps : Keeps SegmentDatabaseAt := fun _ _ _ _ _ _ _ hB hs hb ⟨A0, n0, c0, A1, n1, c1, h0, h1, s0, s1⟩ => ⟨A0, n0, c0, A1, n1, c1, (hs.cell hb).trans h0, (hs.cell hb).trans h1, Sl.keep SegmentAt.keeps s0 hB hs, Sl.keep SegmentAt.keeps s1 hB hs⟩
abbrev SegmentDatabaseS := Sl SegmentDatabaseAt (fun k => k * 2)
theorem SegmentDatabaseS.ext {w w' : World} {v : Value} {ds : List DSegmentDatabase} (h : SegmentDatabaseS w.heap.size w v ds) (hs : Ext w w') : SegmentDatabaseS w'.heap.size w' v ds := Sl.ext SegmentDatabaseAt.keeps h hs
def SegmentDatabaseV (B : Nat) (w : World) (v : Value) (x : DSegmentDatabase) : Prop := ∃ A0 n0 c0, ∃ A1 n1 c1, v = .agg #[.slice A0 n0 c0, .slice A1 n1 c1] ∧ SegmentS B w (.slice A0 n0 c0) x.down ∧ SegmentS B w (.slice A1 n1 c1) x.core
theorem SegmentDatabaseV.keep {B B' : Nat} {w w' : World} {v : Value} {x : DSegmentDatabase} (h : SegmentDatabaseV B w v x) (hB : B ≤ B') (hs : Same B w w') : SegmentDatabaseV B' w' v x := by obtain ⟨A0, n0, c0, A1, n1, c1, e, s0, s1⟩ := h; exact ⟨A0, n0, c0, A1, n1, c1, e, Sl.keep SegmentAt.keeps s0 hB hs, Sl.keep SegmentAt.keeps s1 hB hs⟩
theorem SegmentDatabaseV.ext {w w' : World} {v : Value} {x : DSegmentDatabase} (h : SegmentDatabaseV w.heap.size w v x) (hs : Ext w w') : SegmentDatabaseV w'.heap.size w' v x := h.keep hs.size hs.same

structure DTrustRoot where
  isd : Int
  version : Int
  notBefore : Int
  notAfter : Int
  voters : Int
  quorum : Int
  sigs : List DSignature
theorem DTrustRoot.eq_iff {a b : DTrustRoot} : a = b ↔ a.isd = b.isd ∧ a.version = b.version ∧ a.notBefore = b.notBefore ∧ a.notAfter = b.notAfter ∧ a.voters = b.voters ∧ a.quorum = b.quorum ∧ a.sigs = b.sigs := by cases a; cases b; simp
instance : DecidableEq DTrustRoot := fun _ _ => decidable_of_iff _ DTrustRoot.eq_iff.symm
def TrustRootAt (B : Nat) (w : World) (b o : Nat) (x : DTrustRoot) : Prop := ∃ A6 n6 c6, w.cell? ⟨b, o, none⟩ = some (I x.isd) ∧ w.cell? ⟨b, o + 1, none⟩ = some (I x.version) ∧ w.cell? ⟨b, o + 2, none⟩ = some (I x.notBefore) ∧ w.cell? ⟨b, o + 3, none⟩ = some (I x.notAfter) ∧ w.cell? ⟨b, o + 4, none⟩ = some (I x.voters) ∧ w.cell? ⟨b, o + 5, none⟩ = some (I x.quorum) ∧ w.cell? ⟨b, o + 6, none⟩ = some (.slice A6 n6 c6) ∧ SignatureS B w (.slice A6 n6 c6) x.sigs
theorem TrustRootAt.keeps : Keeps TrustRootAt := fun _ _ _ _ _ _ _ hB hs hb ⟨A6, n6, c6, h0, h1, h2, h3, h4, h5, h6, s6⟩ => ⟨A6, n6, c6, (hs.cell hb).trans h0, (hs.cell hb).trans h1, (hs.cell hb).trans h2, (hs.cell hb).trans h3, (hs.cell hb).trans h4, (hs.cell hb).trans h5, (hs.cell hb).trans h6, Sl.keep SignatureAt.keeps s6 hB hs⟩
abbrev TrustRootS := Sl TrustRootAt (fun k => k * 7)
theorem TrustRootS.ext {w w' : World} {v : Value} {ds : List DTrustRoot} (h : TrustRootS w.heap.size w v ds) (hs : Ext w w') : TrustRootS w'.heap.size w' v ds := Sl.ext TrustRootAt.keeps h hs
def TrustRootV (B : Nat) (w : World) (v : Value) (x : DTrustRoot) : Prop := ∃ A6 n6 c6, v = .agg #[I x.isd, I x.version, I x.notBefore, I x.notAfter, I x.voters, I x.quorum, .slice A6 n6 c6] ∧ SignatureS B w (.slice A6 n6 c6) x.sigs
theorem TrustRootV.keep {B B' : Nat} {w w' : World} {v : Value} {x : DTrustRoot} (h : TrustRootV B w v x) (hB : B ≤ B') (hs : Same B w w') : TrustRootV B' w' v x := by obtain ⟨A6, n6, c6, e, s6⟩ := h; exact ⟨A6, n6, c6, e, Sl.keep SignatureAt.keeps s6 hB hs⟩
theorem TrustRootV.ext {w w' : World} {v : Value} {x : DTrustRoot} (h : TrustRootV w.heap.size w v x) (hs : Ext w w') : TrustRootV w'.heap.size w' v x := h.keep hs.size hs.same

structure DSignedSegment where
  seg : DSegment
  sigs : List Int
theorem DSignedSegment.eq_iff {a b : DSignedSegment} : a = b ↔ a.seg = b.seg ∧ a.sigs = b.sigs := by cases a; cases b; simp
instance : DecidableEq DSignedSegment := fun _ _ => decidable_of_iff _ DSignedSegment.eq_iff.symm
def SignedSegmentAt (B : Nat) (w : World) (b o : Nat) (x : DSignedSegment) : Prop := ∃ A2 n2 c2, ∃ A3 n3 c3, w.cell? ⟨b, o, none⟩ = some (I x.seg.ts) ∧ w.cell? ⟨b, o + 1, none⟩ = some (I x.seg.beta) ∧ w.cell? ⟨b, o + 2, none⟩ = some (.slice A2 n2 c2) ∧ w.cell? ⟨b, o + 3, none⟩ = some (.slice A3 n3 c3) ∧ HopS B w (.slice A2 n2 c2) x.seg.hops ∧ IntS B w (.slice A3 n3 c3) x.sigs
theorem SignedSegmentAt.keeps : Keeps SignedSegmentAt := fun _ _ _ _ _ _ _ hB hs hb ⟨A2, n2, c2, A3, n3, c3, h0, h1, h2, h3, s2, s3⟩ => ⟨A2, n2, c2, A3, n3, c3, (hs.cell hb).trans h0, (hs.cell hb).trans h1, (hs.cell hb).trans h2, (hs.cell hb).trans h3, Sl.keep HopAt.keeps s2 hB hs, Sl.keep IntAt.keeps s3 hB hs⟩
abbrev SignedSegmentS := Sl SignedSegmentAt (fun k => k * 4)
theorem SignedSegmentS.ext {w w' : World} {v : Value} {ds : List DSignedSegment} (h : SignedSegmentS w.heap.size w v ds) (hs : Ext w w') : SignedSegmentS w'.heap.size w' v ds := Sl.ext SignedSegmentAt.keeps h hs
def SignedSegmentV (B : Nat) (w : World) (v : Value) (x : DSignedSegment) : Prop := ∃ A2 n2 c2, ∃ A3 n3 c3, v = .agg #[I x.seg.ts, I x.seg.beta, .slice A2 n2 c2, .slice A3 n3 c3] ∧ HopS B w (.slice A2 n2 c2) x.seg.hops ∧ IntS B w (.slice A3 n3 c3) x.sigs
theorem SignedSegmentV.keep {B B' : Nat} {w w' : World} {v : Value} {x : DSignedSegment} (h : SignedSegmentV B w v x) (hB : B ≤ B') (hs : Same B w w') : SignedSegmentV B' w' v x := by obtain ⟨A2, n2, c2, A3, n3, c3, e, s2, s3⟩ := h; exact ⟨A2, n2, c2, A3, n3, c3, e, Sl.keep HopAt.keeps s2 hB hs, Sl.keep IntAt.keeps s3 hB hs⟩
theorem SignedSegmentV.ext {w w' : World} {v : Value} {x : DSignedSegment} (h : SignedSegmentV w.heap.size w v x) (hs : Ext w w') : SignedSegmentV w'.heap.size w' v x := h.keep hs.size hs.same

structure DPathPart where
  kind : Int
  ts : Int
  beta : Int
  hops : List DHop
theorem DPathPart.eq_iff {a b : DPathPart} : a = b ↔ a.kind = b.kind ∧ a.ts = b.ts ∧ a.beta = b.beta ∧ a.hops = b.hops := by cases a; cases b; simp
instance : DecidableEq DPathPart := fun _ _ => decidable_of_iff _ DPathPart.eq_iff.symm
def PathPartAt (B : Nat) (w : World) (b o : Nat) (x : DPathPart) : Prop := ∃ A3 n3 c3, w.cell? ⟨b, o, none⟩ = some (I x.kind) ∧ w.cell? ⟨b, o + 1, none⟩ = some (I x.ts) ∧ w.cell? ⟨b, o + 2, none⟩ = some (I x.beta) ∧ w.cell? ⟨b, o + 3, none⟩ = some (.slice A3 n3 c3) ∧ HopS B w (.slice A3 n3 c3) x.hops
theorem PathPartAt.keeps : Keeps PathPartAt := fun _ _ _ _ _ _ _ hB hs hb ⟨A3, n3, c3, h0, h1, h2, h3, s3⟩ => ⟨A3, n3, c3, (hs.cell hb).trans h0, (hs.cell hb).trans h1, (hs.cell hb).trans h2, (hs.cell hb).trans h3, Sl.keep HopAt.keeps s3 hB hs⟩
abbrev PathPartS := Sl PathPartAt (fun k => k * 4)
theorem PathPartS.ext {w w' : World} {v : Value} {ds : List DPathPart} (h : PathPartS w.heap.size w v ds) (hs : Ext w w') : PathPartS w'.heap.size w' v ds := Sl.ext PathPartAt.keeps h hs
def PathPartV (B : Nat) (w : World) (v : Value) (x : DPathPart) : Prop := ∃ A3 n3 c3, v = .agg #[I x.kind, I x.ts, I x.beta, .slice A3 n3 c3] ∧ HopS B w (.slice A3 n3 c3) x.hops
theorem PathPartV.keep {B B' : Nat} {w w' : World} {v : Value} {x : DPathPart} (h : PathPartV B w v x) (hB : B ≤ B') (hs : Same B w w') : PathPartV B' w' v x := by obtain ⟨A3, n3, c3, e, s3⟩ := h; exact ⟨A3, n3, c3, e, Sl.keep HopAt.keeps s3 hB hs⟩
theorem PathPartV.ext {w w' : World} {v : Value} {x : DPathPart} (h : PathPartV w.heap.size w v x) (hs : Ext w w') : PathPartV w'.heap.size w' v x := h.keep hs.size hs.same

theorem set_at1 {α : Type} (pre post : List α) (a0 x0 : α) (p : Nat) (hp : pre.length = p) : (pre ++ a0 :: post).set p x0 = pre ++ x0 :: post := by
  subst hp
  simp
theorem cells_at1 {w : World} {g p : Nat} {t : TypeId} {pre post : List Value} {a0 : Value} (h : Blk w g t (pre ++ a0 :: post)) (hp : pre.length = p) : w.cell? ⟨g, p, none⟩ = some a0 := by
  subst hp
  exact (h.cell _).trans (by simp)
theorem set_at2 {α : Type} (pre post : List α) (a0 a1 x0 x1 : α) (p : Nat) (hp : pre.length = p) : ((pre ++ a0 :: a1 :: post).set p x0).set (p + 1) x1 = pre ++ x0 :: x1 :: post := by
  subst hp
  simp
theorem cells_at2 {w : World} {g p : Nat} {t : TypeId} {pre post : List Value} {a0 a1 : Value} (h : Blk w g t (pre ++ a0 :: a1 :: post)) (hp : pre.length = p) : w.cell? ⟨g, p, none⟩ = some a0 ∧ w.cell? ⟨g, p + 1, none⟩ = some a1 := by
  subst hp
  refine ⟨(h.cell _).trans (by simp), (h.cell _).trans (by simp)⟩
theorem set_at3 {α : Type} (pre post : List α) (a0 a1 a2 x0 x1 x2 : α) (p : Nat) (hp : pre.length = p) : (((pre ++ a0 :: a1 :: a2 :: post).set p x0).set (p + 1) x1).set (p + 2) x2 = pre ++ x0 :: x1 :: x2 :: post := by
  subst hp
  simp
theorem cells_at3 {w : World} {g p : Nat} {t : TypeId} {pre post : List Value} {a0 a1 a2 : Value} (h : Blk w g t (pre ++ a0 :: a1 :: a2 :: post)) (hp : pre.length = p) : w.cell? ⟨g, p, none⟩ = some a0 ∧ w.cell? ⟨g, p + 1, none⟩ = some a1 ∧ w.cell? ⟨g, p + 2, none⟩ = some a2 := by
  subst hp
  refine ⟨(h.cell _).trans (by simp), (h.cell _).trans (by simp), (h.cell _).trans (by simp)⟩
theorem set_at4 {α : Type} (pre post : List α) (a0 a1 a2 a3 x0 x1 x2 x3 : α) (p : Nat) (hp : pre.length = p) : ((((pre ++ a0 :: a1 :: a2 :: a3 :: post).set p x0).set (p + 1) x1).set (p + 2) x2).set (p + 3) x3 = pre ++ x0 :: x1 :: x2 :: x3 :: post := by
  subst hp
  simp
theorem cells_at4 {w : World} {g p : Nat} {t : TypeId} {pre post : List Value} {a0 a1 a2 a3 : Value} (h : Blk w g t (pre ++ a0 :: a1 :: a2 :: a3 :: post)) (hp : pre.length = p) : w.cell? ⟨g, p, none⟩ = some a0 ∧ w.cell? ⟨g, p + 1, none⟩ = some a1 ∧ w.cell? ⟨g, p + 2, none⟩ = some a2 ∧ w.cell? ⟨g, p + 3, none⟩ = some a3 := by
  subst hp
  refine ⟨(h.cell _).trans (by simp), (h.cell _).trans (by simp), (h.cell _).trans (by simp), (h.cell _).trans (by simp)⟩
theorem set_at5 {α : Type} (pre post : List α) (a0 a1 a2 a3 a4 x0 x1 x2 x3 x4 : α) (p : Nat) (hp : pre.length = p) : (((((pre ++ a0 :: a1 :: a2 :: a3 :: a4 :: post).set p x0).set (p + 1) x1).set (p + 2) x2).set (p + 3) x3).set (p + 4) x4 = pre ++ x0 :: x1 :: x2 :: x3 :: x4 :: post := by
  subst hp
  simp
theorem cells_at5 {w : World} {g p : Nat} {t : TypeId} {pre post : List Value} {a0 a1 a2 a3 a4 : Value} (h : Blk w g t (pre ++ a0 :: a1 :: a2 :: a3 :: a4 :: post)) (hp : pre.length = p) : w.cell? ⟨g, p, none⟩ = some a0 ∧ w.cell? ⟨g, p + 1, none⟩ = some a1 ∧ w.cell? ⟨g, p + 2, none⟩ = some a2 ∧ w.cell? ⟨g, p + 3, none⟩ = some a3 ∧ w.cell? ⟨g, p + 4, none⟩ = some a4 := by
  subst hp
  refine ⟨(h.cell _).trans (by simp), (h.cell _).trans (by simp), (h.cell _).trans (by simp), (h.cell _).trans (by simp), (h.cell _).trans (by simp)⟩
theorem set_at7 {α : Type} (pre post : List α) (a0 a1 a2 a3 a4 a5 a6 x0 x1 x2 x3 x4 x5 x6 : α) (p : Nat) (hp : pre.length = p) : (((((((pre ++ a0 :: a1 :: a2 :: a3 :: a4 :: a5 :: a6 :: post).set p x0).set (p + 1) x1).set (p + 2) x2).set (p + 3) x3).set (p + 4) x4).set (p + 5) x5).set (p + 6) x6 = pre ++ x0 :: x1 :: x2 :: x3 :: x4 :: x5 :: x6 :: post := by
  subst hp
  simp
theorem cells_at7 {w : World} {g p : Nat} {t : TypeId} {pre post : List Value} {a0 a1 a2 a3 a4 a5 a6 : Value} (h : Blk w g t (pre ++ a0 :: a1 :: a2 :: a3 :: a4 :: a5 :: a6 :: post)) (hp : pre.length = p) : w.cell? ⟨g, p, none⟩ = some a0 ∧ w.cell? ⟨g, p + 1, none⟩ = some a1 ∧ w.cell? ⟨g, p + 2, none⟩ = some a2 ∧ w.cell? ⟨g, p + 3, none⟩ = some a3 ∧ w.cell? ⟨g, p + 4, none⟩ = some a4 ∧ w.cell? ⟨g, p + 5, none⟩ = some a5 ∧ w.cell? ⟨g, p + 6, none⟩ = some a6 := by
  subst hp
  refine ⟨(h.cell _).trans (by simp), (h.cell _).trans (by simp), (h.cell _).trans (by simp), (h.cell _).trans (by simp), (h.cell _).trans (by simp), (h.cell _).trans (by simp), (h.cell _).trans (by simp)⟩
end Go.Proofs.Ytnglhofegajbiaa
