/-
  What the memory holds while package heap's collector copies.
-/
import Derived.Test.YthbkklnahhdgcaaMMA
import Derived.Test.YthbkklnahhdgcaaMChCc
namespace Go.Proofs.Ythbkklnahhdgcaa.ChD
open Go Go.RowKit Go.Proofs.Ythbkklnahhdgcaa.Lib Go.Proofs.Ythbkklnahhdgcaa.HeapR Go.Proofs.Ythbkklnahhdgcaa.ChA Go.Proofs.Ythbkklnahhdgcaa.ChT Go.Proofs.Ythbkklnahhdgcaa.ChCa Go.Proofs.Ythbkklnahhdgcaa.ChCc

/-- What stays while a collector works. -/
structure Par where
  kb : Nat
  hb : Nat
  hv : Nat
  wb : Nat
  nb : Nat
  B : Nat
  room : Nat
  HB : Array Value
  maj : Bool
  O : List Ob
  base : List HCell
  pl : Nat → Nat × Nat
  src : Nat → Prop
/-- What is moved. -/
def Par.from_ (p : Par) (a : Int) : Bool := if p.maj then true else decide (a < (p.room : Int))
def Par.z (p : Par) : Nat := p.room + p.base.length
/-- The closure that tells it. -/
def Par.fn (p : Par) : Value := if p.maj then .func (Fn.func 28) #[] #[] else .func (Fn.func 22) #[] #[.pointer (some ⟨p.hv, 0, none⟩)]
/-- The mark of an object's head. -/
def Par.mark (p : Par) (L : List Ob) (o : Ob) [Decidable (has L o.addr)] : Int := if has L o.addr then ((fwd L p.z o.addr : Nat) : Int) + 1 else 0
instance (L : List Ob) (a : Nat) : Decidable (has L a) := decidable_of_iff (L.any (fun o => o.addr == a) = true) (by simp [has])
/-- The identities, and where they are. -/
def whereOf (z : Nat) : List Ob → DataW Unit → Nat → DataW Unit
  | [], D, _ => D
  | o :: l, D, n => whereOf z l (putId o.id (z + n) D) (n + o.len)
theorem whereOf_snoc (z : Nat) (l : List Ob) (o : Ob) (D : DataW Unit) (n : Nat) : whereOf z (l ++ [o]) D n = putId o.id (z + n + total l) (whereOf z l D n) := by
  induction l generalizing D n with
  | nil => simp [whereOf, total]
  | cons x l ih =>
    rw [List.cons_append, whereOf, ih, total_cons, whereOf]
    congr 1
    omega

/-- Where an object lies. -/
def Place (p : Par) (o : Ob) : Prop :=
  (o.addr + o.len ≤ p.room ∧ p.pl o.addr = (p.nb, o.addr * 8)) ∨ (p.maj = true ∧ p.room ≤ o.addr ∧ ∃ og n c, og ≠ p.nb ∧ p.HB[1]? = some (.slice (some ⟨og, 0, none⟩) n c) ∧ o.addr - p.room + o.len ≤ n ∧ p.pl o.addr = (og, (o.addr - p.room) * 8))
structure Par.OK (p : Par) : Prop where
  h0 : p.HB[0]? = some (.slice (some ⟨p.nb, 0, none⟩) p.room p.room)
  h3 : p.HB[3]? = some (.int .i64 p.room)
  place : ∀ o ∈ p.O, Place p o
  apart : ∀ x ∈ p.O, ∀ y ∈ p.O, x.addr = y.addr ∨ (p.pl x.addr).1 ≠ (p.pl y.addr).1 ∨ (p.pl x.addr).2 + x.len * 8 ≤ (p.pl y.addr).2 ∨ (p.pl y.addr).2 + y.len * 8 ≤ (p.pl x.addr).2
  sole : Apart p.O
  nd : p.O.Nodup
  closed : ∀ o ∈ p.O, ∀ v ∈ o.fs, v.k = 4 → p.from_ v.n = true → ∃ x ∈ p.O, v.n = (x.addr : Int)
  size : p.room + p.base.length + total p.O + 1 ≤ big
  addr : ∀ o ∈ p.O, o.addr + o.len ≤ big
  ids : ∀ o ∈ p.O, 0 ≤ o.id ∧ o.id ≤ 4611686018427387904
  from_ : ∀ o ∈ p.O, p.from_ (o.addr : Int) = true
  kh : p.kb ≠ p.hb
  kv : p.kb ≠ p.hv
  wk : p.wb ≠ p.kb
  pk : ∀ o ∈ p.O, (p.pl o.addr).1 ≠ p.kb ∧ (p.pl o.addr).1 ≠ p.hb ∧ (p.pl o.addr).1 ≠ p.hv ∧ (p.pl o.addr).1 ≠ p.wb
  wh : p.wb ≠ p.hb
  wv : p.wb ≠ p.hv
  nk : p.nb ≠ p.kb
  nh : p.nb ≠ p.hb
  nv : p.nb ≠ p.hv
  nw : p.nb ≠ p.wb

/-- What is led to. -/
inductive Leads (p : Par) : Ob → Prop
  | src {o : Ob} (ho : o ∈ p.O) (h : p.src o.addr) : Leads p o
  | step {x o : Ob} {v : Vl} (hx : Leads p x) (hv : v ∈ x.fs) (hk : v.k = 4) (hn : v.n = (o.addr : Int)) (ho : o ∈ p.O) : Leads p o
theorem Leads.mem {p : Par} {o : Ob} (h : Leads p o) : o ∈ p.O := by
  cases h with
  | src ho _ => exact ho
  | step _ _ _ _ ho => exact ho

/-- The collector at work: L are copied, of 'to' the cells in P fixed. -/
structure CR (p : Par) (w : World) (tv : Value) (L : List Ob) (P : Nat → Bool) : Prop where
  kblk : w.heap[p.kb]? = some (kblk p.hb tv p.fn (.map (some p.wb)))
  hblk : w.heap[p.hb]? = some (.cells p.HB 49 (0, 0))
  hvar : p.maj = false → w.cell? ⟨p.hv, 0, none⟩ = some (.pointer (some ⟨p.hb, 0, none⟩))
  row : w.ownsRow p.B 55 8 tv (p.base.length + total L) (hvals (tcells p.from_ p.base L p.z P))
  map : w.ownsMap Try.prog 3 (plainElem Try.prog 3) p.wb L.length (whereOf p.z L (.map []) 0)
  src : ∀ o ∈ p.O, ∃ X, w.heap[(p.pl o.addr).1]? = some (.cells X 55 (0, 0)) ∧ ∀ (i : Nat) (c : HCell), (o.cells (p.mark L o))[i]? = some c → ∀ (j : Nat) (v : Value), c.vals[j]? = some v → X[(p.pl o.addr).2 + i * 8 + j]? = some v
  led : Led p.from_ p.base L P
  lt : ∀ i, P i = true → i < p.base.length + total L
  inO : ∀ o ∈ L, o ∈ p.O
  nd : L.Nodup
  come : ∀ o ∈ L, Leads p o
  nurs : ∃ N : List HCell, N.length = p.room ∧ w.heap[p.nb]? = some (.cells (hcells N) 55 (0, 0))
  low : p.B ≤ w.heap.size
  hvl : p.hv < w.heap.size
  tk : tv.ownBlock ≠ some p.kb
  th : tv.ownBlock ≠ some p.hb
  tw : tv.ownBlock ≠ some p.wb
  ts : ∀ o ∈ p.O, tv.ownBlock ≠ some (p.pl o.addr).1
  tn : tv.ownBlock ≠ some p.nb
  tvv : tv.ownBlock ≠ some p.hv
/-- The blocks that the collector turns or reads. -/
def Own (p : Par) (tv : Value) (k : Nat) : Prop := k = p.kb ∨ k = p.hb ∨ k = p.hv ∨ k = p.wb ∨ tv.ownBlock = some k ∨ k = p.nb ∨ ∃ o ∈ p.O, (p.pl o.addr).1 = k
theorem CR.same {p : Par} {w w' : World} {tv : Value} {L : List Ob} {P : Nat → Bool} (h : CR p w tv L P) (hs : ∀ k, Own p tv k → w'.heap[k]? = w.heap[k]?) (hz : w.heap.size ≤ w'.heap.size) : CR p w' tv L P :=
  { h with
    kblk := (hs _ (.inl rfl)).trans h.kblk
    hblk := (hs _ (.inr (.inl rfl))).trans h.hblk
    hvar := fun hm => (World.cell?_of_block (a := ⟨p.hv, 0, none⟩) (hs _ (.inr (.inr (.inl rfl))))).trans (h.hvar hm)
    row := ownsRow_same h.row fun k hk => hs k (.inr (.inr (.inr (.inr (.inl hk)))))
    map := by
      obtain ⟨es, clock, h1, r⟩ := h.map
      exact ⟨es, clock, (hs _ (.inr (.inr (.inr (.inl rfl))))).trans h1, r⟩
    src := fun o ho => by
      obtain ⟨X, h1, h2⟩ := h.src o ho
      exact ⟨X, (hs _ (.inr (.inr (.inr (.inr (.inr (.inr ⟨o, ho, rfl⟩))))))).trans h1, h2⟩
    nurs := by
      obtain ⟨N, h1, h2⟩ := h.nurs
      exact ⟨N, h1, (hs _ (.inr (.inr (.inr (.inr (.inr (.inl rfl))))))).trans h2⟩
    low := Nat.le_trans h.low hz
    hvl := Nat.lt_of_lt_of_le h.hvl hz }
theorem CR.drewN {p : Par} {w : World} {tv : Value} {L : List Ob} {P : Nat → Bool} (h : CR p w tv L P) (n : Nat) : CR p (w.drewN n) tv L P := h.same (fun _ _ => rfl) (Nat.le_refl _)
end Go.Proofs.Ythbkklnahhdgcaa.ChD
