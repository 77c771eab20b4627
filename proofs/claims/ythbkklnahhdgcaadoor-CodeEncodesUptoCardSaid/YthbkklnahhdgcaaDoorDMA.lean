/-
  Words of our own for all walks of this seat: what package heap's memory holds, as plain data; which blocks of a world have turned. No program in sight.
-/
import Derived.WalkKit
import Derived.Maps.Own
import Derived.Deep.QuietTactic
import Derived.Deep.RegionHeld3
import Derived.StillTail
import Derived.Shelf.Bits.Mul64
import Derived.Test.YthbkklnahhdgcaaDoorProg
namespace Go.Proofs.YthbkklnahhdgcaaDoor.Lib
open Go Go.RowKit

/-! ### worlds -/
/-- w' is w but for the blocks of S, and new ones. -/
structure Turned (S : Nat → Prop) (w w' : World) : Prop where
  os : w'.os = w.os
  tape : w'.tape = w.tape
  output : w'.output = w.output
  size : w.heap.size ≤ w'.heap.size
  block : ∀ k, k < w.heap.size → ¬ S k → w'.heap[k]? = w.heap[k]?

theorem Turned.refl (S : Nat → Prop) (w : World) : Turned S w w := ⟨rfl, rfl, rfl, Nat.le_refl _, fun _ _ _ => rfl⟩
theorem Turned.trans {S : Nat → Prop} {a b c : World} (h : Turned S a b) (k : Turned S b c) : Turned S a c :=
  ⟨k.os.trans h.os, k.tape.trans h.tape, k.output.trans h.output, Nat.le_trans h.size k.size, fun i hi hs => (k.block i (Nat.lt_of_lt_of_le hi h.size) hs).trans (h.block i hi hs)⟩
theorem Turned.mono {S T : Nat → Prop} {a b : World} (h : Turned S a b) (hs : ∀ k, S k → T k) : Turned T a b :=
  ⟨h.os, h.tape, h.output, h.size, fun i hi ht => h.block i hi (fun hS => ht (hs i hS))⟩
theorem Turned.drewN {S : Nat → Prop} {a b : World} (h : Turned S a b) (n : Nat) : Turned S a (b.drewN n) := ⟨h.os, h.tape, h.output, h.size, h.block⟩
theorem Turned.drew {S : Nat → Prop} {a b : World} (h : Turned S a b) : Turned S a b.drew := ⟨h.os, h.tape, h.output, h.size, h.block⟩
theorem Turned.alloc {S : Nat → Prop} {a b : World} (h : Turned S a b) (o : Obj) : Turned S a (b.alloc o) :=
  h.trans ⟨rfl, rfl, rfl, by simp, fun k hk _ => Below.heap_alloc _ _ _ (by omega)⟩
theorem Turned.setCell {S : Nat → Prop} {a b : World} (h : Turned S a b) {p : Addr} (hp : S p.block ∨ a.heap.size ≤ p.block) (u : Value) : Turned S a (b.setCell p u) :=
  ⟨h.os, h.tape, h.output, by simpa [World.setCell] using h.size, fun k hk hs => (Below.heap_setCell _ _ _ _ (by rintro rfl; rcases hp with hp | hp; exact hs hp; omega)).trans (h.block k hk hs)⟩
theorem Turned.grown {S : Nat → Prop} {a b c : World} {row : Option Nat} (h : Turned S a b) (hg : b.grownBy c row) (hr : ∀ k, row = some k → S k ∨ a.heap.size ≤ k) : Turned S a c :=
  ⟨hg.os.trans h.os, hg.tape.trans h.tape, hg.output.trans h.output, Nat.le_trans h.size hg.size, fun k hk hs => (hg.block k (Nat.lt_of_lt_of_le hk h.size) (fun e => by rcases hr k e.symm with h1 | h1; exact hs h1; omega)).trans (h.block k hk hs)⟩
theorem Turned.cell {S : Nat → Prop} {a b : World} (h : Turned S a b) {p : Addr} (hp : p.block < a.heap.size) (hs : ¬ S p.block) : b.cell? p = a.cell? p := World.cell?_of_block (h.block _ hp hs)
theorem Turned.below {a b : World} {S : Nat → Prop} {B : Nat} (h : Turned S a b) (hB : B ≤ a.heap.size) (hs : ∀ k, S k → B ≤ k) : Below B a b :=
  ⟨h.os, h.tape, h.output, h.size, fun k hk => h.block k (by omega) (fun hS => by have := hs k hS; omega)⟩
theorem Turned.of_below {a b : World} (S : Nat → Prop) (h : Below a.heap.size a b) : Turned S a b := ⟨h.os, h.tape, h.output, h.size, fun k hk _ => h.block k hk⟩
theorem below_drewN {B : Nat} {a w : World} (h : Below B a w) (n : Nat) : Below B a (w.drewN n) := ⟨h.os, h.tape, h.output, h.size, h.block⟩
theorem bcell {W w1 : World} (hb : Below W.heap.size W w1) : (∀ b o, b < W.heap.size → w1.cell? ⟨b, o, none⟩ = W.cell? ⟨b, o, none⟩) ∧ (∀ b o, b < W.heap.size → w1.frozen? ⟨b, o, none⟩ = W.frozen? ⟨b, o, none⟩) :=
  ⟨fun b o h => hb.cell (p := ⟨b, o, none⟩) h, fun b o h => hb.frozen (p := ⟨b, o, none⟩) h⟩

theorem cell_of_block {w : World} {b i : Nat} {c : Array Value} {t : TypeId} {f : Nat × Nat} {v : Value} (h : w.heap[b]? = some (.cells c t f)) (hv : c[i]? = some v) : w.cell? ⟨b, i, none⟩ = some v := by
  simp [World.cell?, h, hv]
theorem frozen_of_block {w : World} {b i : Nat} {c : Array Value} {t : TypeId} (h : w.heap[b]? = some (.cells c t (0, 0))) : w.frozen? ⟨b, i, none⟩ = false := by
  simp [World.frozen?, h]
theorem blk_set {w : World} {b i : Nat} {c : Array Value} {t : TypeId} {f : Nat × Nat} (h : w.heap[b]? = some (.cells c t f)) (v : Value) : (w.setCell ⟨b, i, none⟩ v).heap[b]? = some (.cells (c.setIfInBounds i v) t f) := by
  simp [World.setCell, Array.getElem?_modify, h]
theorem blk_ne {w : World} {p : Addr} {k : Nat} {v : Value} (h : k ≠ p.block) : (w.setCell p v).heap[k]? = w.heap[k]? := Below.heap_setCell w p v k h
theorem blk_alloc_lt {w : World} {o : Obj} {k : Nat} (h : k < w.heap.size) : (w.alloc o).heap[k]? = w.heap[k]? := Below.heap_alloc w o k h
theorem blk_alloc_at {w : World} {o : Obj} {k : Nat} (h : k = w.heap.size) : (w.alloc o).heap[k]? = some o := by subst h; show (w.heap.push o)[w.heap.size]? = _; simp
theorem blk_drewN {w : World} {n : Nat} : (w.drewN n).heap = w.heap := rfl
theorem lt_of_block {w : World} {b : Nat} {o : Obj} (h : w.heap[b]? = some o) : b < w.heap.size := (Array.getElem?_eq_some_iff.1 h).1

/-! ### the cells of package heap -/
/-- A cell: a head, a value, where an object went. -/
structure HCell where
  kind : Int
  tag : Int
  id : Int
  size : Int
  vk : Int
  vn : Int
  vs : ByteArray
  moved : Int
def HCell.zero : HCell := ⟨0, 0, 0, 0, 0, 0, ByteArray.empty, 0⟩
def HCell.vals (c : HCell) : List Value := [.int .i64 c.kind, .int .i64 c.tag, .int .i64 c.id, .int .i64 c.size, .int .i64 c.vk, .int .i64 c.vn, .string c.vs, .int .i64 c.moved]
def hvals (l : List HCell) : List Value := l.flatMap HCell.vals
def hcells (l : List HCell) : Array Value := (hvals l).toArray

theorem hvals_cons (c : HCell) (l : List HCell) : hvals (c :: l) = c.vals ++ hvals l := rfl
theorem hvals_append (l m : List HCell) : hvals (l ++ m) = hvals l ++ hvals m := by simp [hvals]
theorem length_vals (c : HCell) : c.vals.length = 8 := rfl
theorem length_hvals (l : List HCell) : (hvals l).length = l.length * 8 := by
  induction l with
  | nil => rfl
  | cons c l ih => rw [hvals_cons, List.length_append, length_vals, ih]; simp; omega
theorem hvals_get (l : List HCell) (i j : Nat) (c : HCell) (h : l[i]? = some c) (hj : j < 8) : (hvals l)[i * 8 + j]? = c.vals[j]? := by
  induction l generalizing i with
  | nil => simp at h
  | cons d l ih =>
    cases i with
    | zero =>
      have : d = c := by simpa using h
      subst this
      rw [hvals_cons, List.getElem?_append_left (by rw [length_vals]; omega)]
      simp
    | succ i =>
      rw [hvals_cons, List.getElem?_append_right (by rw [length_vals]; omega), length_vals]
      have e : (i + 1) * 8 + j - 8 = i * 8 + j := by omega
      rw [e]
      exact ih i (by simpa using h)
theorem hcells_get (l : List HCell) (i j : Nat) (c : HCell) (h : l[i]? = some c) (hj : j < 8) : (hcells l)[i * 8 + j]? = c.vals[j]? := by
  simp only [hcells, List.getElem?_toArray]; exact hvals_get l i j c h hj
theorem hvals_set (l : List HCell) (i : Nat) (c : HCell) (h : i < l.length) :
    ((((((((hvals l).set (i * 8) (.int .i64 c.kind)).set (i * 8 + 1) (.int .i64 c.tag)).set (i * 8 + 2) (.int .i64 c.id)).set (i * 8 + 3) (.int .i64 c.size)).set (i * 8 + 4) (.int .i64 c.vk)).set (i * 8 + 5) (.int .i64 c.vn)).set (i * 8 + 6) (.string c.vs)).set (i * 8 + 7) (.int .i64 c.moved) = hvals (l.set i c) := by
  induction l generalizing i with
  | nil => simp at h
  | cons d l ih =>
    cases i with
    | zero => simp [hvals_cons, HCell.vals]
    | succ i =>
      have hi : i < l.length := by simpa using h
      have e : ∀ (m : List Value) (j : Nat) (v : Value), (d.vals ++ m).set ((i + 1) * 8 + j) v = d.vals ++ m.set (i * 8 + j) v := fun m j v => by
        rw [List.set_append_right _ _ (by rw [length_vals]; omega), length_vals]
        congr 2
        omega
      have e0 : ∀ (m : List Value) (v : Value), (d.vals ++ m).set ((i + 1) * 8) v = d.vals ++ m.set (i * 8) v := fun m v => by
        have := e m 0 v; simpa using this
      rw [List.set_cons_succ, hvals_cons, hvals_cons, e0, e, e, e, e, e, e, e, ih i hi]

theorem hcells_set (l : List HCell) (i : Nat) (c : HCell) (h : i < l.length) :
    ((((((((hcells l).setIfInBounds (i * 8) (.int .i64 c.kind)).setIfInBounds (i * 8 + 1) (.int .i64 c.tag)).setIfInBounds (i * 8 + 2) (.int .i64 c.id)).setIfInBounds (i * 8 + 3) (.int .i64 c.size)).setIfInBounds (i * 8 + 4) (.int .i64 c.vk)).setIfInBounds (i * 8 + 5) (.int .i64 c.vn)).setIfInBounds (i * 8 + 6) (.string c.vs)).setIfInBounds (i * 8 + 7) (.int .i64 c.moved) = hcells (l.set i c) := by
  simp only [hcells, List.setIfInBounds_toArray]
  rw [hvals_set l i c h]

theorem hvals_set3 (l : List HCell) (i : Nat) (vk vn : Int) (vs : ByteArray) (h : i < l.length) :
    (((hvals l).set (i * 8 + 4) (.int .i64 vk)).set (i * 8 + 4 + 1) (.int .i64 vn)).set (i * 8 + 4 + 2) (.string vs) = hvals (l.modify i fun d => { d with vk := vk, vn := vn, vs := vs }) := by
  induction l generalizing i with
  | nil => simp at h
  | cons d l ih =>
    cases i with
    | zero => simp [hvals_cons, HCell.vals]
    | succ i =>
      have hi : i < l.length := by simpa using h
      have e : ∀ (m : List Value) (j : Nat) (v : Value), (d.vals ++ m).set ((i + 1) * 8 + j) v = d.vals ++ m.set (i * 8 + j) v := fun m j v => by
        rw [List.set_append_right _ _ (by rw [length_vals]; omega), length_vals]
        congr 2
        omega
      rw [Nat.add_assoc, Nat.add_assoc, List.modify_succ_cons, hvals_cons, hvals_cons, e, e, e]
      have := ih i hi
      rw [Nat.add_assoc, Nat.add_assoc] at this
      rw [this]
theorem hcells_set3 (l : List HCell) (i : Nat) (vk vn : Int) (vs : ByteArray) (h : i < l.length) :
    (((hcells l).setIfInBounds (i * 8 + 4) (.int .i64 vk)).setIfInBounds (i * 8 + 4 + 1) (.int .i64 vn)).setIfInBounds (i * 8 + 4 + 2) (.string vs) = hcells (l.modify i fun d => { d with vk := vk, vn := vn, vs := vs }) := by
  simp only [hcells, List.setIfInBounds_toArray]
  rw [hvals_set3 l i vk vn vs h]

end Go.Proofs.YthbkklnahhdgcaaDoor.Lib

/-
  Package code's images as plain data, and how they lie in memory; what the document asks of them (3.1, 3.2), as plain functions. No program in sight.
-/
namespace Go.Proofs.YthbkklnahhdgcaaDoor.CodeR
open Go Go.RowKit

/-! ### rows and slices in memory -/
/-- These values lie in a block from a place on. -/
def Row (w : World) (b off : Nat) (vs : List Value) : Prop := ∀ (k : Nat) v, vs[k]? = some v → w.cell? ⟨b, off + k, none⟩ = some v
/-- A slice's value: its address, length, room; where it lies, if it is not empty. -/
structure Sl where
  oa : Option Addr
  n : Nat
  c : Nat
  b : Nat
  o : Nat
def Sl.val (s : Sl) : Value := .slice s.oa s.n s.c
/-- The slice's elements, each a row of sz values, lie in memory. -/
structure SlIn (w : World) (s : Sl) (sz : Nat) (rows : List (List Value)) : Prop where
  len : s.n = rows.length
  small : s.n ≤ 9223372036854775807
  addr : 0 < s.n → s.oa = some ⟨s.b, s.o, none⟩
  row : ∀ (i : Nat) r, rows[i]? = some r → Row w s.b (s.o + i * sz) r

theorem Row.of_cells {w w' : World} {b off : Nat} {vs : List Value} (h : Row w b off vs) (hc : ∀ o, w'.cell? ⟨b, o, none⟩ = w.cell? ⟨b, o, none⟩) : Row w' b off vs :=
  fun k v hv => (hc _).trans (h k v hv)
theorem Row.lt {w : World} {b off : Nat} {v : Value} {vs : List Value} (h : Row w b off (v :: vs)) : b < w.heap.size := by
  have := h 0 v rfl
  exact World.block_lt_of_cell? _ _ this
theorem Row.below {w w' : World} {b off B : Nat} {vs : List Value} (h : Row w b off vs) (hb : Below B w w') (hB : w.heap.size ≤ B) : Row w' b off vs := by
  intro k v hv
  have h1 := h k v hv
  have hlt := World.block_lt_of_cell? _ _ h1
  rw [hb.cell (Nat.lt_of_lt_of_le hlt hB)]
  exact h1
theorem SlIn.below {w w' : World} {s : Sl} {sz B : Nat} {rows : List (List Value)} (h : SlIn w s sz rows) (hb : Below B w w') (hB : w.heap.size ≤ B) : SlIn w' s sz rows :=
  ⟨h.len, h.small, h.addr, fun i r hr => (h.row i r hr).below hb hB⟩

/-! ### images -/
structure I3 where
  op : Int
  a : Int
  b : Int
structure H3 where
  f : Int
  t : Int
  g : Int
structure Vr where
  name : ByteArray
  slot : Int
  f : Int
  t : Int
  boxed : Bool
structure Cn where
  text : Bool
  s : ByteArray
  n : Int
structure Fc where
  name : ByteArray
  params : Int
  slots : Int
  code : List I3
  hs : List H3
  vars : List Vr
  codeS : Sl
  hsS : Sl
  varsS : Sl
structure Cl where
  name : ByteArray
  above : Int
  fields : List ByteArray
  names : List ByteArray
  methods : List Int
  fieldsS : Sl
  namesS : Sl
  methodsS : Sl
structure Im where
  funcs : List Fc
  consts : List Cn
  classes : List Cl
  funcsS : Sl
  constsS : Sl
  classesS : Sl

def I3.vals (x : I3) : List Value := [.int .i64 x.op, .int .i64 x.a, .int .i64 x.b]
def H3.vals (x : H3) : List Value := [.int .i64 x.f, .int .i64 x.t, .int .i64 x.g]
def Vr.vals (x : Vr) : List Value := [.string x.name, .int .i64 x.slot, .int .i64 x.f, .int .i64 x.t, .bool x.boxed]
def Cn.vals (x : Cn) : List Value := [.bool x.text, .string x.s, .int .i64 x.n]
def Fc.vals (x : Fc) : List Value := [.string x.name, .int .i64 x.params, .int .i64 x.slots, x.codeS.val, x.hsS.val, x.varsS.val]
def Cl.vals (x : Cl) : List Value := [.string x.name, .int .i64 x.above, x.fieldsS.val, x.namesS.val, x.methodsS.val]
def Im.vals (x : Im) : List Value := [x.funcsS.val, x.constsS.val, x.classesS.val]

/-- A function's parts lie in memory. -/
structure FcIn (w : World) (f : Fc) : Prop where
  code : SlIn w f.codeS 3 (f.code.map I3.vals)
  hs : SlIn w f.hsS 3 (f.hs.map H3.vals)
  vars : SlIn w f.varsS 5 (f.vars.map Vr.vals)
structure ClIn (w : World) (c : Cl) : Prop where
  fields : SlIn w c.fieldsS 1 (c.fields.map fun s => [.string s])
  names : SlIn w c.namesS 1 (c.names.map fun s => [.string s])
  methods : SlIn w c.methodsS 1 (c.methods.map fun n => [.int .i64 n])
/-- An image's parts lie in memory (the image itself, three slices, wherever it is). -/
structure ImIn (w : World) (m : Im) : Prop where
  funcs : SlIn w m.funcsS 6 (m.funcs.map Fc.vals)
  consts : SlIn w m.constsS 3 (m.consts.map Cn.vals)
  classes : SlIn w m.classesS 5 (m.classes.map Cl.vals)
  fn : ∀ f ∈ m.funcs, FcIn w f
  cl : ∀ c ∈ m.classes, ClIn w c

theorem FcIn.below {w w' : World} {f : Fc} {B : Nat} (h : FcIn w f) (hb : Below B w w') (hB : w.heap.size ≤ B) : FcIn w' f := ⟨h.code.below hb hB, h.hs.below hb hB, h.vars.below hb hB⟩
theorem ClIn.below {w w' : World} {c : Cl} {B : Nat} (h : ClIn w c) (hb : Below B w w') (hB : w.heap.size ≤ B) : ClIn w' c := ⟨h.fields.below hb hB, h.names.below hb hB, h.methods.below hb hB⟩
theorem ImIn.below {w w' : World} {m : Im} {B : Nat} (h : ImIn w m) (hb : Below B w w') (hB : w.heap.size ≤ B) : ImIn w' m :=
  ⟨h.funcs.below hb hB, h.consts.below hb hB, h.classes.below hb hB, fun f hf => (h.fn f hf).below hb hB, fun c hc => (h.cl c hc).below hb hB⟩

/-! ### what the document asks (3.1, 3.2) -/
def within (n low top : Int) : Bool := decide (low ≤ n) && decide (n ≤ top)
def Im.textB (m : Im) (k : Int) : Bool := within k 0 ((m.consts.length : Int) - 1) && (match m.consts[k.toNat]? with | some c => c.text | none => false)
def fewB (b : Int) : Bool := within b 0 50
def Im.paramsAt (m : Im) (k : Int) : Option Int := (m.funcs[k.toNat]?).map (·.params)

/-- Is what an instruction names there? -/
def rightB (m : Im) (f : Fc) (x : I3) : Bool :=
  if x.op = 2 then within x.a 0 ((m.consts.length : Int) - 1)
  else if x.op = 6 ∨ x.op = 7 ∨ x.op = 8 ∨ x.op = 9 ∨ x.op = 10 then within x.a 0 (f.slots - 1)
  else if x.op = 11 ∨ x.op = 12 ∨ x.op = 13 ∨ x.op = 29 then within x.a 0 50
  else if x.op = 15 ∨ x.op = 16 ∨ x.op = 17 ∨ x.op = 18 then within x.a 0 ((f.code.length : Int) - 1)
  else if x.op = 32 ∨ x.op = 33 then m.textB x.a
  else if x.op = 34 then m.textB x.a && fewB x.b
  else if x.op = 35 then m.textB x.a && (decide (0 ≤ x.b) && (decide (x.b.tdiv 64 < (m.classes.length : Int)) && decide (x.b.tmod 64 ≤ 50)))
  else if x.op = 36 then within x.a 0 ((m.classes.length : Int) - 1) && fewB x.b
  else if x.op = 37 then fewB x.b
  else if x.op = 38 then within x.a 1 ((m.funcs.length : Int) - 1) && (fewB x.b && decide (m.paramsAt x.a = some x.b))
  else if x.op = 39 then within x.a 1 ((m.funcs.length : Int) - 1) && fewB x.b
  else within x.op 1 45

def takeI (x : I3) : Int :=
  if x.op = 7 ∨ x.op = 8 ∨ x.op = 10 ∨ x.op = 13 ∨ x.op = 14 ∨ x.op = 16 ∨ x.op = 17 ∨ x.op = 18 ∨ x.op = 19 ∨ x.op = 20 ∨ x.op = 21 ∨ x.op = 32 ∨ x.op = 40 ∨ x.op = 41 ∨ x.op = 42 ∨ x.op = 44 then 1
  else if x.op = 22 ∨ x.op = 23 ∨ x.op = 24 ∨ x.op = 25 ∨ x.op = 26 ∨ x.op = 27 ∨ x.op = 28 ∨ x.op = 30 ∨ x.op = 33 then 2
  else if x.op = 31 then 3
  else if x.op = 29 then x.a
  else if x.op = 35 then x.b.tmod 64 + 1
  else if x.op = 34 ∨ x.op = 37 then x.b + 1
  else if x.op = 36 ∨ x.op = 38 ∨ x.op = 39 then x.b
  else 0
def leaveI (x : I3) : Int :=
  if x.op = 2 ∨ x.op = 3 ∨ x.op = 4 ∨ x.op = 5 ∨ x.op = 6 ∨ x.op = 9 ∨ x.op = 11 ∨ x.op = 12 ∨ x.op = 43 ∨ x.op = 19 ∨ x.op = 20 ∨ x.op = 21 ∨ x.op = 32 ∨ x.op = 44 ∨ x.op = 22 ∨ x.op = 23 ∨ x.op = 24 ∨ x.op = 25 ∨ x.op = 26 ∨ x.op = 27 ∨ x.op = 28 ∨ x.op = 30 ∨ x.op = 29 ∨ x.op = 35 ∨ x.op = 34 ∨ x.op = 37 ∨ x.op = 36 ∨ x.op = 38 ∨ x.op = 39 then 1 else 0
def endsB (op : Int) : Bool := decide (op = 15 ∨ op = 40 ∨ op = 41)
/-- Where else it goes, with how many more. -/
def goI (x : I3) : Option (Int × Int) := if x.op = 15 ∨ x.op = 16 then some (x.a, 0) else if x.op = 17 ∨ x.op = 18 then some (x.a, 1) else none

/-- What an instruction at a place, with n values there, asks of the places behind it: the place, the number. -/
def follows (at' : Nat) (n : Int) (x : I3) : List (Int × Int) :=
  (match goI x with | some (to, k) => [(to, n - takeI x + leaveI x + k)] | none => []) ++ (if endsB x.op then [] else [((at' : Int) + 1, n - takeI x + leaveI x)])

/-- A labelling of places with numbers of values. -/
structure Fits (f : Fc) (d : Nat → Option Int) : Prop where
  top : d 0 = some 0
  hand : ∀ h ∈ f.hs, d h.g.toNat = some 1
  within : ∀ (i : Nat) n, d i = some n → i < f.code.length ∧ n ≤ 200
  goes : ∀ (i : Nat) n x, d i = some n → f.code[i]? = some x → takeI x ≤ n ∧ ∀ y ∈ follows i n x, d y.1.toNat = some y.2

end Go.Proofs.YthbkklnahhdgcaaDoor.CodeR

/-
  What an image's bytes are (3.3), as plain lists. No program in sight.
-/
namespace Go.Proofs.YthbkklnahhdgcaaDoor.EncA
open Go Go.RowKit CodeR

def bv (b : UInt8) : Value := .int .u8 (b.toNat : Int)
/-- A number without its sign. -/
def zz (n : Int) : Nat := if 0 ≤ n then (2 * n).toNat else (-2 * n - 1).toNat
/-- Seven bits a byte. -/
def vb (u : Nat) : List UInt8 := if h : u < 128 then [UInt8.ofNat u] else UInt8.ofNat (u % 128 + 128) :: vb (u / 128)
termination_by u
decreasing_by omega
theorem vb_lt {u : Nat} (h : u < 128) : vb u = [UInt8.ofNat u] := by rw [vb, dif_pos h]
theorem vb_ge {u : Nat} (h : 128 ≤ u) : vb u = UInt8.ofNat (u % 128 + 128) :: vb (u / 128) := by rw [vb, dif_neg (by omega)]
theorem vb_pos (u : Nat) : 0 < (vb u).length := by
  by_cases h : u < 128
  · rw [vb_lt h]; simp
  · rw [vb_ge (by omega)]; simp
theorem vb_len : ∀ (k u : Nat), u < 128 ^ (k + 1) → (vb u).length ≤ k + 1
  | 0, u, h => by rw [vb_lt (by simpa using h)]; simp
  | k + 1, u, h => by
    by_cases h1 : u < 128
    · rw [vb_lt h1]; simp
    · rw [vb_ge (by omega), List.length_cons]
      have := vb_len k (u / 128) (by
        rw [Nat.div_lt_iff_lt_mul (by decide)]
        rw [Nat.pow_succ] at h
        exact h)
      omega
theorem zz_lt {n : Int} (h0 : -9223372036854775808 ≤ n) (h1 : n ≤ 9223372036854775807) : zz n < 18446744073709551616 := by
  unfold zz; split <;> omega
def num (n : Int) : List UInt8 := vb (zz n)
theorem num_len {n : Int} (h0 : -9223372036854775808 ≤ n) (h1 : n ≤ 9223372036854775807) : (num n).length ≤ 10 :=
  vb_len 9 _ (Nat.lt_of_lt_of_le (zz_lt h0 h1) (by decide))
def sl (s : ByteArray) : List UInt8 := s.data.toList
def txt (s : ByteArray) : List UInt8 := num s.size ++ sl s
def cn (c : Cn) : List UInt8 := if c.text then num 1 ++ txt c.s else num 0 ++ num c.n
def nm (p : ByteArray × Int) : List UInt8 := txt p.1 ++ num p.2
def cl (c : Cl) : List UInt8 := txt c.name ++ num c.above ++ num c.fields.length ++ c.fields.flatMap txt ++ num c.names.length ++ (c.names.zip c.methods).flatMap nm
def i3 (x : I3) : List UInt8 := num x.op ++ num x.a ++ num x.b
def h3 (x : H3) : List UInt8 := num x.f ++ num x.t ++ num x.g
def vr (x : Vr) : List UInt8 := txt x.name ++ num x.slot ++ num x.f ++ num x.t ++ num (if x.boxed then 1 else 0)
def fc (f : Fc) : List UInt8 := txt f.name ++ num f.params ++ num f.slots ++ num f.code.length ++ f.code.flatMap i3 ++ num f.hs.length ++ f.hs.flatMap h3 ++ num f.vars.length ++ f.vars.flatMap vr
def head : List UInt8 := [82, 87, 78, 68]
def body (m : Im) : List UInt8 := head ++ num m.consts.length ++ m.consts.flatMap cn ++ num m.classes.length ++ m.classes.flatMap cl ++ num m.funcs.length ++ m.funcs.flatMap fc
def sumB (l : List UInt8) : Nat := l.foldl (fun n x => (37 * n + x.toNat) % 8191) 7
def enc (m : Im) : List UInt8 := body m ++ num (sumB (body m))
theorem sumF_lt : ∀ (l : List UInt8) (n : Nat), n < 8191 → l.foldl (fun n x => (37 * n + x.toNat) % 8191) n < 8191
  | [], n, h => h
  | x :: l, n, _ => sumF_lt l _ (Nat.mod_lt _ (by decide))
theorem sumB_lt (l : List UInt8) : sumB l < 8191 := sumF_lt l 7 (by decide)
end Go.Proofs.YthbkklnahhdgcaaDoor.EncA

/-
  Numbers read back from bytes (3.3), as plain functions. No program in sight.
-/
namespace Go.Proofs.YthbkklnahhdgcaaDoor.DecA
open Go Go.RowKit CodeR EncA

/-- A number with its sign. -/
def unz (u : Nat) : Int := if u % 2 = 0 then (u / 2 : Nat) else -((u / 2 : Nat) : Int) - 1
theorem unz_zz {n : Int} : unz (zz n) = n := by
  unfold unz zz
  split <;> split <;> omega

/-- Read on, from a place: j bytes were read, which gave u. The number (mod 2^64), the place behind it, and whether it went well. -/
def numG (L : List UInt8) : Nat → Nat → Nat → Nat → Nat × Nat × Bool
  | 0, _, _, p => (0, p, false)
  | f + 1, j, u, p =>
    match L[p]? with
    | none => (0, p, false)
    | some x =>
      let u' := (u + (x.toNat % 128) * 2 ^ (7 * j)) % 18446744073709551616
      if x.toNat < 128 then (u', p + 1, true) else numG L f (j + 1) u' (p + 1)
def numP (L : List UInt8) (p : Nat) : Nat × Nat × Bool := numG L 10 0 0 p
/-- What cursor.num answers, where it stands behind it, whether it failed. -/
def numV (L : List UInt8) (p : Nat) : Int := if (numP L p).2.2 then unz (numP L p).1 else 0
def numE (L : List UInt8) (p : Nat) : Nat := (numP L p).2.1
def numF (L : List UInt8) (p : Nat) : Bool := !(numP L p).2.2
theorem num_good {L : List UInt8} {p u q : Nat} (h : numP L p = (u, q, true)) : numV L p = unz u ∧ numE L p = q ∧ numF L p = false := by simp [numV, numE, numF, h]
theorem num_bad {L : List UInt8} {p u q : Nat} (h : numP L p = (u, q, false)) : numV L p = 0 ∧ numE L p = q ∧ numF L p = true := by simp [numV, numE, numF, h]

theorem numG_le (L : List UInt8) : ∀ (f j u p : Nat), p ≤ L.length → (numG L f j u p).2.1 ≤ L.length ∧ p ≤ (numG L f j u p).2.1
  | 0, _, _, p, h => ⟨h, Nat.le_refl _⟩
  | f + 1, j, u, p, h => by
    unfold numG
    cases hx : L[p]? with
    | none => exact ⟨h, Nat.le_refl _⟩
    | some x =>
      have hlt := (List.getElem?_eq_some_iff.mp hx).1
      simp only
      split
      · exact ⟨hlt, Nat.le_succ p⟩
      · have := numG_le L f (j + 1) ((u + x.toNat % 128 * 2 ^ (7 * j)) % 18446744073709551616) (p + 1) hlt
        exact ⟨this.1, by omega⟩

/-- What vb wrote is read back. -/
theorem numG_vb (A C : List UInt8) : ∀ (f j n u : Nat), n < 128 ^ f → 0 < f → u + n * 2 ^ (7 * j) < 18446744073709551616 →
    numG (A ++ vb n ++ C) f j u A.length = (u + n * 2 ^ (7 * j), A.length + (vb n).length, true)
  | 0, _, _, _, _, h0, _ => absurd h0 (by decide)
  | f + 1, j, n, u, hn, _, hu => by
    by_cases hs : n < 128
    · have hx : (A ++ vb n ++ C)[A.length]? = some (UInt8.ofNat n) := by
        rw [vb_lt hs, List.append_assoc, List.getElem?_append_right (Nat.le_refl _), Nat.sub_self]
        rfl
      have ht : (UInt8.ofNat n).toNat = n := by rw [UInt8.toNat_ofNat', Nat.mod_eq_of_lt (by omega)]
      unfold numG
      rw [hx]
      simp only [ht]
      rw [if_pos hs, Nat.mod_eq_of_lt hs, Nat.mod_eq_of_lt hu, vb_lt hs]
      rfl
    · have hb : (UInt8.ofNat (n % 128 + 128)).toNat = n % 128 + 128 := by rw [UInt8.toNat_ofNat', Nat.mod_eq_of_lt (by omega)]
      have hx : (A ++ vb n ++ C)[A.length]? = some (UInt8.ofNat (n % 128 + 128)) := by
        rw [vb_ge (by omega), List.append_assoc, List.getElem?_append_right (Nat.le_refl _), Nat.sub_self]
        rfl
      have hsplit : A ++ vb n ++ C = (A ++ [UInt8.ofNat (n % 128 + 128)]) ++ vb (n / 128) ++ C := by
        rw [vb_ge (u := n) (by omega)]
        simp
      have hpow : 2 ^ (7 * (j + 1)) = 2 ^ (7 * j) * 128 := by rw [Nat.mul_add, Nat.pow_add]
      have hval : u + n % 128 * 2 ^ (7 * j) + n / 128 * 2 ^ (7 * (j + 1)) = u + n * 2 ^ (7 * j) := by
        have h1 : n * 2 ^ (7 * j) = (128 * (n / 128) + n % 128) * 2 ^ (7 * j) := by rw [Nat.div_add_mod]
        rw [hpow, h1, Nat.add_mul, Nat.mul_comm 128 (n / 128), Nat.mul_assoc (n / 128) 128, Nat.mul_comm 128 (2 ^ (7 * j))]
        omega
      have hmod : (u + (n % 128 + 128) % 128 * 2 ^ (7 * j)) % 18446744073709551616 = u + n % 128 * 2 ^ (7 * j) := by
        rw [show (n % 128 + 128) % 128 = n % 128 by omega, Nat.mod_eq_of_lt (by omega)]
      have hf : 0 < f := by
        rcases Nat.eq_zero_or_pos f with rfl | h
        · simp at hn; omega
        · exact h
      have hd : n / 128 < 128 ^ f := by
        rw [Nat.div_lt_iff_lt_mul (by decide)]
        rw [Nat.pow_succ] at hn
        exact hn
      unfold numG
      rw [hx]
      simp only [hb]
      rw [if_neg (by omega), hmod, hsplit]
      have ih := numG_vb (A ++ [UInt8.ofNat (n % 128 + 128)]) C f (j + 1) (n / 128) (u + n % 128 * 2 ^ (7 * j)) hd hf (by rw [hval]; exact hu)
      rw [List.length_append, List.length_singleton] at ih
      rw [ih, hval, vb_ge (u := n) (by omega), List.length_cons]
      simp only [Prod.mk.injEq, and_true, true_and]
      omega
theorem numP_num (A C : List UInt8) (n : Int) (h0 : -9223372036854775808 ≤ n) (h1 : n ≤ 9223372036854775807) : numP (A ++ num n ++ C) A.length = (zz n, A.length + (num n).length, true) := by
  have := numG_vb A C 10 0 (zz n) 0 (Nat.lt_of_lt_of_le (zz_lt h0 h1) (by decide)) (by decide) (by simpa using zz_lt h0 h1)
  simpa [numP, num] using this
end Go.Proofs.YthbkklnahhdgcaaDoor.DecA

/-
  How the numbers of values are found, in plain Lean: whatever two ways spread them, what they find is the document's labelling, or there is none. No program in sight.
-/
namespace Go.Proofs.YthbkklnahhdgcaaDoor.CodeP
open Go Go.RowKit CodeR

theorem leave_pos (x : I3) : 0 ≤ leaveI x := by unfold leaveI; split <;> decide

/-- The label at a place: -1 is none. -/
def lab (deep : List Int) (i : Nat) : Option Int := match deep[i]? with | some n => if n < 0 then none else some n | none => none
/-- One comes to a place with a number of values: the labels, the error. -/
def comeD (deep : List Int) (e : Int) (p : Nat) (n : Int) : List Int × Int :=
  if deep.length ≤ p ∨ 200 < n then (deep, 3)
  else if deep.getD p 0 < 0 then (deep.set p n, e)
  else if deep.getD p 0 = n then (deep, e) else (deep, 3)
/-- Is that place new? -/
def comeN (deep : List Int) (p : Nat) (n : Int) : Bool := !(decide (deep.length ≤ p) || decide (200 < n)) && decide (deep.getD p 0 < 0)

theorem lab_some {deep : List Int} {i : Nat} {n : Int} (h : lab deep i = some n) : deep[i]? = some n ∧ 0 ≤ n := by
  unfold lab at h
  split at h
  · rename_i k hk
    split at h
    · cases h
    · cases h; exact ⟨hk, by omega⟩
  · cases h
theorem lab_of {deep : List Int} {i : Nat} {n : Int} (h : deep[i]? = some n) (h0 : 0 ≤ n) : lab deep i = some n := by
  unfold lab; rw [h]; simp only; rw [if_neg (by omega)]
theorem lab_lt {deep : List Int} {i : Nat} {n : Int} (h : lab deep i = some n) : i < deep.length := by
  obtain ⟨h1, _⟩ := lab_some h
  exact (List.getElem?_eq_some_iff.mp h1).1
theorem lab_none {deep : List Int} {i : Nat} (hi : i < deep.length) (h : lab deep i = none) : deep.getD i 0 < 0 := by
  unfold lab at h
  rw [List.getElem?_eq_getElem hi] at h
  rw [List.getD_eq_getElem?_getD, List.getElem?_eq_getElem hi]
  simp only [Option.getD_some] at h ⊢
  split at h
  · assumption
  · cases h
theorem lab_set {deep : List Int} {p : Nat} {n : Int} (hp : p < deep.length) (h0 : 0 ≤ n) (i : Nat) : lab (deep.set p n) i = if i = p then some n else lab deep i := by
  by_cases h : i = p
  · subst h
    rw [if_pos rfl]
    exact lab_of (by rw [List.getElem?_set_self hp]) h0
  · rw [if_neg h]
    unfold lab
    rw [List.getElem?_set_ne (Ne.symm h)]

structure Inv (f : Fc) (P : Nat → Prop) (deep : List Int) (e : Int) : Prop where
  len : deep.length = f.code.length
  range : ∀ n ∈ deep, -1 ≤ n ∧ n ≤ 200
  err : e = 0 ∨ e = 3
  forced : ∀ d, Fits f d → ∀ i n, lab deep i = some n → d i = some n
  bad : e ≠ 0 → ∀ d, ¬ Fits f d
  done : e = 0 → ∀ i n x, lab deep i = some n → ¬ P i → f.code[i]? = some x → takeI x ≤ n ∧ ∀ y ∈ follows i n x, lab deep y.1.toNat = some y.2

theorem Inv.mono {f : Fc} {P Q : Nat → Prop} {deep : List Int} {e : Int} (h : Inv f P deep e) (hPQ : ∀ i, P i → Q i) : Inv f Q deep e :=
  ⟨h.len, h.range, h.err, h.forced, h.bad, fun he i n x hl hq => h.done he i n x hl (fun hp => hq (hPQ i hp))⟩

theorem Inv.top (f : Fc) (P : Nat → Prop) : Inv f P (List.replicate f.code.length (-1)) 0 := by
  have hl : ∀ i, lab (List.replicate f.code.length (-1)) i = none := by
    intro i
    unfold lab
    rw [List.getElem?_replicate]
    split <;> rename_i h
    · split at h
      · cases h; rfl
      · cases h
    · rfl
  refine ⟨by simp, ?_, Or.inl rfl, ?_, fun h => absurd rfl h, ?_⟩
  · intro n hn
    rw [List.mem_replicate] at hn
    omega
  · intro d _ i n h; rw [hl] at h; cases h
  · intro _ i n x h; rw [hl] at h; cases h

/-- What coming to a place does. -/
theorem Inv.come {f : Fc} {P : Nat → Prop} {deep : List Int} {e : Int} (h : Inv f P deep e) {p : Nat} {n : Int} (hn : 0 ≤ n) (hf : ∀ d, Fits f d → d p = some n) :
    Inv f (fun i => P i ∨ (comeN deep p n = true ∧ i = p)) (comeD deep e p n).1 (comeD deep e p n).2 ∧ (∀ i k, lab deep i = some k → lab (comeD deep e p n).1 i = some k) ∧ ((comeD deep e p n).2 = 0 → e = 0 ∧ lab (comeD deep e p n).1 p = some n)
    ∧ (comeN deep p n = true → lab deep p = none ∧ p < deep.length) ∧ (comeN deep p n = false → (comeD deep e p n).1 = deep) := by
  have he3 := h.err
  unfold comeD comeN
  by_cases h1 : deep.length ≤ p ∨ 200 < n
  · rw [if_pos h1]
    have hb : ∀ d, ¬ Fits f d := by
      intro d hd
      have := hd.within p n (hf d hd)
      have := h.len
      omega
    have hd1 : (!(decide (deep.length ≤ p) || decide (200 < n))) = false := by
      rcases h1 with h1 | h1 <;> simp [h1]
    refine ⟨⟨h.len, h.range, Or.inr rfl, h.forced, fun _ => hb, fun h => absurd (show (3 : Int) = 0 from h) (by decide)⟩, fun i k hk => hk, fun h => absurd (show (3 : Int) = 0 from h) (by decide), ?_, fun _ => rfl⟩
    rw [hd1]; intro h; cases h
  · rw [if_neg h1]
    have hp : p < deep.length := by omega
    have hg : deep.getD p 0 = deep[p] := by rw [List.getD_eq_getElem?_getD, List.getElem?_eq_getElem hp]; rfl
    have hq : deep[p]? = some (deep.getD p 0) := by rw [hg, List.getElem?_eq_getElem hp]
    have hd1 : (!(decide (deep.length ≤ p) || decide (200 < n))) = true := by simp; omega
    rw [hd1]
    by_cases h2 : deep.getD p 0 < 0
    · rw [if_pos h2]
      have hls := fun i => lab_set (deep := deep) (n := n) hp hn i
      have hlp : lab deep p = none := by unfold lab; rw [hq]; simp only; rw [if_pos h2]
      have hpers : ∀ i k, lab deep i = some k → lab (deep.set p n) i = some k := by
        intro i k hk
        rw [hls, if_neg]
        · exact hk
        · rintro rfl; rw [hlp] at hk; cases hk
      refine ⟨⟨by simpa using h.len, ?_, h.err, ?_, h.bad, ?_⟩, hpers, fun he => ⟨he, by simp only; rw [hls, if_pos rfl]⟩, fun _ => ⟨hlp, hp⟩, ?_⟩
      · intro k hk
        rcases List.mem_or_eq_of_mem_set hk with hk | rfl
        · exact h.range k hk
        · omega
      · intro d hd i k hk
        simp only [hls] at hk
        split at hk
        · rename_i hi; subst hi; cases hk; exact hf d hd
        · exact h.forced d hd i k hk
      · intro he i k x hk hP hx
        simp only [hls] at hk
        split at hk
        · rename_i hi; exact absurd (Or.inr ⟨by simp only [Bool.true_and, decide_eq_true_eq]; exact h2, hi⟩) hP
        · obtain ⟨h3, h4⟩ := h.done he i k x hk (fun hp' => hP (Or.inl hp')) hx
          exact ⟨h3, fun y hy => hpers _ _ (h4 y hy)⟩
      · intro hN; rw [decide_eq_true h2] at hN; simp at hN
    · rw [if_neg h2]
      have hlp : lab deep p = some (deep.getD p 0) := lab_of hq (by omega)
      have hN : decide (deep.getD p 0 < 0) = false := by simpa using h2
      rw [hN]
      by_cases h3 : deep.getD p 0 = n
      · rw [if_pos h3]
        rw [h3] at hlp
        exact ⟨h.mono (fun i hi => Or.inl hi), fun i k hk => hk, fun he => ⟨he, hlp⟩, fun h => by simp at h, fun _ => rfl⟩
      · rw [if_neg h3]
        refine ⟨⟨h.len, h.range, Or.inr rfl, h.forced, ?_, fun h => absurd (show (3 : Int) = 0 from h) (by decide)⟩, fun i k hk => hk, fun h => absurd (show (3 : Int) = 0 from h) (by decide), fun h => by simp at h, fun _ => rfl⟩
        intro _ d hd
        have h4 := h.forced d hd p _ hlp
        rw [hf d hd] at h4
        cases h4
        exact h3 rfl

/-- An instruction's fewest values are not there: there is no labelling. -/
theorem Inv.few {f : Fc} {P : Nat → Prop} {deep : List Int} {e : Int} (h : Inv f P deep e) {i : Nat} {n : Int} {x : I3} (hl : lab deep i = some n) (hx : f.code[i]? = some x) (ht : n < takeI x) : ∀ d, ¬ Fits f d := by
  intro d hd
  have := (hd.goes i n x (h.forced d hd i n hl) hx).1
  omega
/-- What follows is forced. -/
theorem Inv.goes {f : Fc} {P : Nat → Prop} {deep : List Int} {e : Int} (h : Inv f P deep e) {i : Nat} {n : Int} {x : I3} (hl : lab deep i = some n) (hx : f.code[i]? = some x) {y : Int × Int} (hy : y ∈ follows i n x) : ∀ d, Fits f d → d y.1.toNat = some y.2 :=
  fun d hd => (hd.goes i n x (h.forced d hd i n hl) hx).2 y hy
/-- A place that was owed is done. -/
theorem Inv.pay {f : Fc} {P Q : Nat → Prop} {deep : List Int} {e : Int} (h : Inv f P deep e) {i : Nat} {n : Int} {x : I3} (hl : e = 0 → lab deep i = some n) (hx : f.code[i]? = some x) (ht : takeI x ≤ n)
    (hy : e = 0 → ∀ y ∈ follows i n x, lab deep y.1.toNat = some y.2) (hPQ : ∀ k, P k → Q k ∨ k = i) : Inv f Q deep e := by
  refine ⟨h.len, h.range, h.err, h.forced, h.bad, ?_⟩
  intro he k m z hk hQ hz
  by_cases hki : k = i
  · subst hki
    rw [hl he] at hk; cases hk
    rw [hx] at hz; cases hz
    exact ⟨ht, hy he⟩
  · exact h.done he k m z hk (fun hp => (hPQ k hp).elim hQ hki) hz
/-- Nothing is owed: that is a labelling. -/
theorem Inv.end_ok {f : Fc} {deep : List Int} (h : Inv f (fun _ => False) deep 0) (ht : lab deep 0 = some 0) (hh : ∀ h ∈ f.hs, lab deep h.g.toNat = some 1) : Fits f (lab deep) := by
  refine ⟨ht, hh, ?_, fun i n x hl hx => h.done rfl i n x hl (fun h => h) hx⟩
  intro i n hl
  have h1 := lab_lt hl
  obtain ⟨h2, _⟩ := lab_some hl
  have h3 := h.range n (List.mem_of_getElem? h2)
  exact ⟨by rw [← h.len]; exact h1, h3.2⟩

/-- How many places have no label. -/
def unl (deep : List Int) : Nat := deep.countP (fun n => decide (n < 0))
theorem unl_come {deep : List Int} {e : Int} {p : Nat} {n : Int} (hn : 0 ≤ n) : unl (comeD deep e p n).1 + (if comeN deep p n then 1 else 0) = unl deep := by
  unfold comeD comeN
  by_cases h1 : deep.length ≤ p ∨ 200 < n
  · rw [if_pos h1]
    have hd1 : (!(decide (deep.length ≤ p) || decide (200 < n))) = false := by
      rcases h1 with h1 | h1 <;> simp [h1]
    rw [hd1]; simp
  · rw [if_neg h1]
    have hp : p < deep.length := by omega
    have hd1 : (!(decide (deep.length ≤ p) || decide (200 < n))) = true := by simp; omega
    rw [hd1]
    by_cases h2 : deep.getD p 0 < 0
    · rw [if_pos h2]
      have hg : deep.getD p 0 = deep[p] := by rw [List.getD_eq_getElem?_getD, List.getElem?_eq_getElem hp]; rfl
      simp only [unl, List.countP_set hp, decide_eq_true h2, Bool.true_and, if_true]
      rw [hg] at h2
      have hpos : 0 < deep.countP (fun n => decide (n < 0)) := List.countP_pos_iff.mpr ⟨deep[p], List.getElem_mem hp, by simpa using h2⟩
      simp only [h2, decide_true, if_true]
      rw [if_neg (by simp; omega)]
      omega
    · rw [if_neg h2]
      have hN : decide (deep.getD p 0 < 0) = false := by simpa using h2
      rw [hN]
      by_cases h3 : deep.getD p 0 = n
      · rw [if_pos h3]; simp
      · rw [if_neg h3]; simp

/-! ### what check and function find -/
def limB (f : Fc) : Bool := within f.code.length 1 5000 && (within f.params 0 8 && within f.slots f.params 200)
def handB (f : Fc) (h : H3) : Bool := decide (0 ≤ h.f) && (decide (h.f ≤ h.t) && (decide (h.t ≤ (f.code.length : Int)) && within h.g 0 ((f.code.length : Int) - 1)))
def varB (f : Fc) (v : Vr) : Bool := within v.slot 0 (f.slots - 1) && (decide (0 ≤ v.f) && (decide (v.f ≤ v.t) && decide (v.t ≤ (f.code.length : Int))))
/-- What is wrong with a function (4: too much; 2: what it names isn't there; 3: its numbers of values; 0: nothing). -/
structure Verdict (m : Im) (f : Fc) (e : Int) : Prop where
  lim : limB f = false → e = 4
  right : limB f = true → f.code.all (rightB m f) = false → e = 2
  hand : limB f = true → f.code.all (rightB m f) = true → (f.hs.all (handB f) && f.vars.all (varB f)) = false → e = 2
  fit : limB f = true → f.code.all (rightB m f) = true → (f.hs.all (handB f) && f.vars.all (varB f)) = true → (e = 0 ∧ ∃ d, Fits f d) ∨ (e = 3 ∧ ∀ d, ¬ Fits f d)
theorem Verdict.unique {m : Im} {f : Fc} {a b : Int} (h : Verdict m f a) (k : Verdict m f b) : a = b := by
  cases h1 : limB f
  · rw [h.lim h1, k.lim h1]
  · cases h2 : f.code.all (rightB m f)
    · rw [h.right h1 h2, k.right h1 h2]
    · cases h3 : (f.hs.all (handB f) && f.vars.all (varB f))
      · rw [h.hand h1 h2 h3, k.hand h1 h2 h3]
      · rcases h.fit h1 h2 h3 with ⟨rfl, d, hd⟩ | ⟨rfl, hd⟩ <;> rcases k.fit h1 h2 h3 with ⟨rfl, d', hd'⟩ | ⟨rfl, hd'⟩
        · rfl
        · exact absurd hd (hd' d)
        · exact absurd hd' (hd d')
        · rfl
end Go.Proofs.YthbkklnahhdgcaaDoor.CodeP

/-
  Is a class above itself: two ways to ask, one answer, in plain Lean. No program in sight.
-/
namespace Go.Proofs.YthbkklnahhdgcaaDoor.CodeQ
open Go Go.RowKit CodeR CodeP

theorem pigeon : ∀ (n : Nat) (g : Nat → Nat), (∀ j, j ≤ n → g j < n) → ∃ a b, a < b ∧ b ≤ n ∧ g a = g b
  | 0, g, h => absurd (h 0 (Nat.le_refl _)) (by omega)
  | n + 1, g, h => by
    by_cases hj : ∃ j, j ≤ n ∧ g j = g (n + 1)
    · obtain ⟨j, h1, h2⟩ := hj
      exact ⟨j, n + 1, by omega, Nat.le_refl _, h2⟩
    · have hj' : ∀ j, j ≤ n → g j ≠ g (n + 1) := fun j h1 h2 => hj ⟨j, h1, h2⟩
      have hl := h (n + 1) (Nat.le_refl _)
      obtain ⟨a, b, h1, h2, h3⟩ := pigeon n (fun j => if g j = n then g (n + 1) else g j) (by
        intro j hjn
        have := h j (by omega)
        have := hj' j hjn
        try simp only
        split <;> omega)
      refine ⟨a, b, h1, by omega, ?_⟩
      have ha := hj' a (by omega)
      have hb := hj' b (by omega)
      try simp only at h3
      split at h3 <;> split at h3 <;> omega

/-- So many, from k on, are in range. -/
def liveN (R : Int → Bool) (ab : Int → Int) : Int → Nat → Bool
  | _, 0 => true
  | k, t + 1 => R k && liveN R ab (ab k) t
def it (ab : Int → Int) : Nat → Int → Int
  | 0, k => k
  | t + 1, k => it ab t (ab k)
def refB (R : Int → Bool) (ab : Int → Int) (i : Int) : Int → Nat → Bool
  | _, 0 => true
  | k, t + 1 => R k && (decide (k = i) || refB R ab i (ab k) t)

variable {R : Int → Bool} {ab : Int → Int}
theorem liveN_add : ∀ (a b : Nat) (k : Int), liveN R ab k (a + b) = (liveN R ab k a && liveN R ab (it ab a k) b)
  | 0, b, k => by simp [liveN, it]
  | a + 1, b, k => by
    rw [show a + 1 + b = (a + b) + 1 by omega]
    simp only [liveN, it, liveN_add a b (ab k), Bool.and_assoc]
theorem it_add : ∀ (a b : Nat) (k : Int), it ab (a + b) k = it ab b (it ab a k)
  | 0, b, k => by simp [it]
  | a + 1, b, k => by
    rw [show a + 1 + b = (a + b) + 1 by omega]
    simp only [it, it_add a b (ab k)]
theorem liveN_mono {k : Int} {a b : Nat} (h : liveN R ab k b = true) (hab : a ≤ b) : liveN R ab k a = true := by
  obtain ⟨c, rfl⟩ := Nat.exists_eq_add_of_le hab
  rw [liveN_add, Bool.and_eq_true] at h
  exact h.1
theorem ever_of_cycle {k : Int} {p : Nat} (hp : 0 < p) (hl : liveN R ab k p = true) (hc : it ab p k = k) : ∀ t, liveN R ab k t = true := by
  intro t
  induction t using Nat.strongRecOn with
  | _ t ih =>
    by_cases h : t ≤ p
    · exact liveN_mono hl h
    · rw [show t = p + (t - p) by omega, liveN_add, hl, hc, ih (t - p) (by omega)]; rfl
theorem ever_step {k : Int} (h : ∀ t, liveN R ab k t = true) : R k = true ∧ ∀ t, liveN R ab (ab k) t = true := by
  refine ⟨?_, fun t => ?_⟩
  · have := h 1; simpa [liveN] using this
  · have := h (t + 1); simp only [liveN, Bool.and_eq_true] at this; exact this.2
theorem refB_of_ever (i : Int) : ∀ (t : Nat) (k : Int), (∀ t, liveN R ab k t = true) → refB R ab i k t = true
  | 0, _, _ => rfl
  | t + 1, k, h => by
    obtain ⟨h1, h2⟩ := ever_step h
    simp only [refB, h1, refB_of_ever i t (ab k) h2, Bool.or_true, Bool.and_self]
theorem live_or_reach (i : Int) : ∀ (t : Nat) (k : Int), refB R ab i k t = true → liveN R ab k t = true ∨ ∃ j, it ab j k = i ∧ liveN R ab k j = true
  | 0, _, _ => Or.inl rfl
  | t + 1, k, h => by
    simp only [refB, Bool.and_eq_true, Bool.or_eq_true, decide_eq_true_eq] at h
    obtain ⟨h1, h2⟩ := h
    rcases h2 with h2 | h2
    · exact Or.inr ⟨0, h2, rfl⟩
    · rcases live_or_reach i t (ab k) h2 with h3 | ⟨j, h3, h4⟩
      · exact Or.inl (by simp [liveN, h1, h3])
      · exact Or.inr ⟨j + 1, h3, by simp [liveN, h1, h4]⟩
/-- The two ways find the same. -/
theorem round_eq {L : Nat} (hR : ∀ k, R k = true ↔ 0 ≤ k ∧ k < L) {i : Int} (hi : R i = true) : liveN R ab i (L + 1) = refB R ab i (ab i) (L + 2) := by
  rw [Bool.eq_iff_iff]
  constructor
  · intro h
    have hin : ∀ j, j ≤ L → R (it ab j i) = true := by
      intro j hj
      have h1 := liveN_mono h (show j + 1 ≤ L + 1 by omega)
      rw [liveN_add] at h1
      simp only [liveN, Bool.and_true, Bool.and_eq_true] at h1
      exact h1.2
    obtain ⟨a, b, h1, h2, h3⟩ := pigeon L (fun j => (it ab j i).toNat) (by
      intro j hj
      have := (hR _).mp (hin j hj)
      omega)
    have ha := (hR _).mp (hin a (by omega))
    have hb := (hR _).mp (hin b h2)
    have he : it ab b i = it ab a i := by omega
    have hev : ∀ t, liveN R ab (it ab a i) t = true := by
      refine ever_of_cycle (p := b - a) (by omega) ?_ ?_
      · have h4 := liveN_mono h (show b ≤ L + 1 by omega)
        rw [show b = a + (b - a) by omega, liveN_add, Bool.and_eq_true] at h4
        exact h4.2
      · rw [← it_add, show a + (b - a) = b by omega, he]
    have hev' : ∀ t, liveN R ab i t = true := by
      intro t
      by_cases hta : t ≤ a
      · exact liveN_mono h (by omega)
      · rw [show t = a + (t - a) by omega, liveN_add, hev, Bool.and_true]
        exact liveN_mono h (by omega)
    exact refB_of_ever i _ _ (ever_step hev').2
  · intro h
    rcases live_or_reach i _ _ h with h1 | ⟨j, h1, h2⟩
    · simp only [liveN, hi, Bool.true_and]
      exact liveN_mono h1 (by omega)
    · exact ever_of_cycle (p := j + 1) (by omega) (by simp [liveN, hi, h2]) h1 _

/-! ### what both say of the classes -/
def inB (m : Im) (k : Int) : Bool := decide (0 ≤ k) && decide (k < (m.classes.length : Int))
def aboveI (m : Im) (k : Int) : Int := ((m.classes[k.toNat]?).map (·.above)).getD 0
theorem inB_iff (m : Im) (k : Int) : inB m k = true ↔ 0 ≤ k ∧ k < m.classes.length := by simp [inB]
def methB (m : Im) (k : Int) : Bool := decide (k < 1) || decide ((m.funcs.length : Int) ≤ k)
def roundB (m : Im) (i : Int) : Bool := liveN (inB m) (aboveI m) i (m.classes.length + 1)
/-- A class of which something is wrong. -/
def classBad (m : Im) (i : Nat) (c : Cl) : Bool :=
  decide (c.above < -1) || decide ((m.classes.length : Int) ≤ c.above) || decide (c.names.length ≠ c.methods.length) || c.methods.any (methB m) || roundB m i
def limImB (m : Im) : Bool := within m.funcs.length 1 250 && (decide (m.consts.length ≤ 1000) && decide (m.classes.length ≤ 250))
/-- What is wrong with an image, and where (-1: nowhere). -/
structure ImVerdict (m : Im) (e p : Int) : Prop where
  lim : limImB m = false → e = 4 ∧ p = -1
  cls : limImB m = true → (∃ i c, m.classes[i]? = some c ∧ classBad m i c = true) → e = 2 ∧ p = -1
  fns : limImB m = true → (∀ i c, m.classes[i]? = some c → classBad m i c = false) → (e = 0 ∧ p = -1 ∧ ∀ f ∈ m.funcs, Verdict m f 0) ∨ (∃ (i : Nat) (f : Fc), m.funcs[i]? = some f ∧ p = i ∧ e ≠ 0 ∧ Verdict m f e ∧ ∀ j g, j < i → m.funcs[j]? = some g → Verdict m g 0)
theorem ImVerdict.unique {m : Im} {e p e' p' : Int} (h : ImVerdict m e p) (k : ImVerdict m e' p') : e = e' ∧ p = p' := by
  cases h1 : limImB m
  · obtain ⟨rfl, rfl⟩ := h.lim h1
    obtain ⟨rfl, rfl⟩ := k.lim h1
    exact ⟨rfl, rfl⟩
  · by_cases h2 : ∃ i c, m.classes[i]? = some c ∧ classBad m i c = true
    · obtain ⟨rfl, rfl⟩ := h.cls h1 h2
      obtain ⟨rfl, rfl⟩ := k.cls h1 h2
      exact ⟨rfl, rfl⟩
    · have h2' : ∀ i c, m.classes[i]? = some c → classBad m i c = false := by
        intro i c hc
        cases h3 : classBad m i c
        · rfl
        · exact absurd ⟨i, c, hc, h3⟩ h2
      rcases h.fns h1 h2' with ⟨rfl, rfl, ha⟩ | ⟨i, f, hi, rfl, hne, hv, hb⟩ <;> rcases k.fns h1 h2' with ⟨rfl, rfl, ha'⟩ | ⟨i', f', hi', rfl, hne', hv', hb'⟩
      · exact ⟨rfl, rfl⟩
      · exact absurd (hv'.unique (ha f' (List.mem_of_getElem? hi'))) hne'
      · exact absurd (hv.unique (ha' f (List.mem_of_getElem? hi))) hne
      · rcases Nat.lt_trichotomy i i' with hlt | rfl | hlt
        · exact absurd (hv.unique (hb' i f hlt hi)) hne
        · rw [hi] at hi'; cases hi'
          exact ⟨hv.unique hv', rfl⟩
        · exact absurd (hv'.unique (hb i' f' hlt hi')) hne'
end Go.Proofs.YthbkklnahhdgcaaDoor.CodeQ

/-
  Two images of the same data, wherever they lie: what is wrong with them is the same. No program in sight.
-/
namespace Go.Proofs.YthbkklnahhdgcaaDoor.CodeS
open Go Go.RowKit CodeR CodeP CodeQ

/-- Two functions of the same data. -/
structure FcSame (f g : Fc) : Prop where
  name : f.name = g.name
  params : f.params = g.params
  slots : f.slots = g.slots
  code : f.code = g.code
  hs : f.hs = g.hs
  vars : f.vars = g.vars
structure ClSame (c d : Cl) : Prop where
  name : c.name = d.name
  above : c.above = d.above
  fields : c.fields = d.fields
  names : c.names = d.names
  methods : c.methods = d.methods
inductive All2 {α β : Type} (R : α → β → Prop) : List α → List β → Prop
  | nil : All2 R [] []
  | cons {a b l k} : R a b → All2 R l k → All2 R (a :: l) (b :: k)
theorem All2.length {α β : Type} {R : α → β → Prop} {l : List α} {k : List β} (h : All2 R l k) : l.length = k.length := by
  induction h with
  | nil => rfl
  | cons _ _ ih => simp [ih]
theorem All2.get {α β : Type} {R : α → β → Prop} {l : List α} {k : List β} (h : All2 R l k) {i : Nat} {a : α} (ha : l[i]? = some a) : ∃ b, k[i]? = some b ∧ R a b := by
  induction h generalizing i with
  | nil => simp at ha
  | @cons x y l k hxy _ ih =>
    cases i with
    | zero => simp at ha; subst ha; exact ⟨y, rfl, hxy⟩
    | succ i => simp at ha; simpa using ih ha
theorem All2.symm {α β : Type} {R : α → β → Prop} {l : List α} {k : List β} (h : All2 R l k) : All2 (fun b a => R a b) k l := by
  induction h with
  | nil => exact .nil
  | cons h _ ih => exact .cons h ih
theorem All2.snoc {α β : Type} {R : α → β → Prop} {l : List α} {k : List β} {a : α} {b : β} (h : All2 R l k) (hab : R a b) : All2 R (l ++ [a]) (k ++ [b]) := by
  induction h with
  | nil => exact .cons hab .nil
  | cons h _ ih => exact .cons h ih
structure ImSame (m k : Im) : Prop where
  funcs : All2 FcSame m.funcs k.funcs
  consts : m.consts = k.consts
  classes : All2 ClSame m.classes k.classes

theorem FcSame.symm {f g : Fc} (h : FcSame f g) : FcSame g f := ⟨h.name.symm, h.params.symm, h.slots.symm, h.code.symm, h.hs.symm, h.vars.symm⟩
theorem ClSame.symm {f g : Cl} (h : ClSame f g) : ClSame g f := ⟨h.name.symm, h.above.symm, h.fields.symm, h.names.symm, h.methods.symm⟩
theorem All2.mono {α β : Type} {R S : α → β → Prop} {l : List α} {k : List β} (h : All2 R l k) (hRS : ∀ a b, R a b → S a b) : All2 S l k := by
  induction h with
  | nil => exact .nil
  | cons h _ ih => exact .cons (hRS _ _ h) ih
theorem ImSame.symm {m k : Im} (h : ImSame m k) : ImSame k m := ⟨h.funcs.symm.mono (fun _ _ h => h.symm), h.consts.symm, h.classes.symm.mono (fun _ _ h => h.symm)⟩
theorem paramsAt_same {m k : Im} (h : ImSame m k) (i : Int) : m.paramsAt i = k.paramsAt i := by
  unfold Im.paramsAt
  cases hi : m.funcs[i.toNat]? with
  | none =>
    have : k.funcs[i.toNat]? = none := by
      rw [List.getElem?_eq_none_iff] at hi ⊢
      rw [← h.funcs.length]; exact hi
    rw [this]
  | some f =>
    obtain ⟨g, hg, hs⟩ := h.funcs.get hi
    rw [hg]; simp [hs.params]
theorem right_same {m k : Im} {f g : Fc} (h : ImSame m k) (hf : FcSame f g) : rightB m f = rightB k g := by
  funext x
  unfold rightB Im.textB
  simp only [h.consts, h.funcs.length, h.classes.length, hf.slots, hf.code, paramsAt_same h]
theorem fits_same {f g : Fc} (hf : FcSame f g) {d : Nat → Option Int} (h : Fits f d) : Fits g d :=
  ⟨h.top, by rw [← hf.hs]; exact h.hand, by rw [← hf.code]; exact h.within, by rw [← hf.code]; exact h.goes⟩
theorem verdict_same {m k : Im} {f g : Fc} (h : ImSame m k) (hf : FcSame f g) {e : Int} (hv : Verdict m f e) : Verdict k g e := by
  have e1 : limB g = limB f := by unfold limB; rw [hf.code, hf.params, hf.slots]
  have e2 : g.code.all (rightB k g) = f.code.all (rightB m f) := by rw [hf.code, right_same h hf]
  have e3 : handB g = handB f := by funext x; unfold handB; rw [hf.code]
  have e4 : varB g = varB f := by funext x; unfold varB; rw [hf.code, hf.slots]
  refine ⟨?_, ?_, ?_, ?_⟩
  · rw [e1]; exact hv.lim
  · rw [e1, e2]; exact hv.right
  · rw [e1, e2, e3, e4, ← hf.hs, ← hf.vars]; exact hv.hand
  · rw [e1, e2, e3, e4, ← hf.hs, ← hf.vars]
    intro h1 h2 h3
    rcases hv.fit h1 h2 h3 with ⟨he, d, hd⟩ | ⟨he, hd⟩
    · exact Or.inl ⟨he, d, fits_same hf hd⟩
    · exact Or.inr ⟨he, fun d hd' => hd d (fits_same hf.symm hd')⟩
theorem above_same {m k : Im} (h : ImSame m k) : aboveI m = aboveI k := by
  funext i
  unfold aboveI
  cases hi : m.classes[i.toNat]? with
  | none =>
    have : k.classes[i.toNat]? = none := by
      rw [List.getElem?_eq_none_iff] at hi ⊢
      rw [← h.classes.length]; exact hi
    rw [this]
  | some f =>
    obtain ⟨g, hg, hs⟩ := h.classes.get hi
    rw [hg]; simp [hs.above]
theorem class_same {m k : Im} (h : ImSame m k) {c d : Cl} (hc : ClSame c d) (i : Nat) : classBad m i c = classBad k i d := by
  have e1 : inB m = inB k := by funext x; unfold inB; rw [h.classes.length]
  have e2 : methB m = methB k := by funext x; unfold methB; rw [h.funcs.length]
  unfold classBad roundB
  rw [e1, e2, above_same h, h.classes.length, hc.above, hc.names, hc.methods]
theorem imVerdict_same {m k : Im} (h : ImSame m k) {e p : Int} (hv : ImVerdict m e p) : ImVerdict k e p := by
  have e1 : limImB k = limImB m := by unfold limImB; rw [h.funcs.length, h.consts, h.classes.length]
  refine ⟨?_, ?_, ?_⟩
  · rw [e1]; exact hv.lim
  · rw [e1]
    rintro h1 ⟨i, c, hc, hb⟩
    obtain ⟨d, hd, hs⟩ := h.symm.classes.get hc
    exact hv.cls h1 ⟨i, d, hd, by rw [class_same h hs.symm]; exact hb⟩
  · rw [e1]
    intro h1 h2
    have h2' : ∀ i c, m.classes[i]? = some c → classBad m i c = false := by
      intro i c hc
      obtain ⟨d, hd, hs⟩ := h.classes.get hc
      rw [class_same h hs]; exact h2 i d hd
    rcases hv.fns h1 h2' with ⟨h3, h4, h5⟩ | ⟨i, f, hi, h3, h4, h5, h6⟩
    · refine Or.inl ⟨h3, h4, fun g hg => ?_⟩
      obtain ⟨i, hi⟩ := List.mem_iff_getElem?.mp hg
      obtain ⟨f, hf, hs⟩ := h.symm.funcs.get hi
      exact verdict_same h hs.symm (h5 f (List.mem_of_getElem? hf))
    · obtain ⟨g, hg, hs⟩ := h.funcs.get hi
      refine Or.inr ⟨i, g, hg, h3, h4, verdict_same h hs h5, fun j g' hj hg' => ?_⟩
      obtain ⟨f', hf', hs'⟩ := h.symm.funcs.get hg'
      exact verdict_same h hs'.symm (h6 j f' hj hf')
end Go.Proofs.YthbkklnahhdgcaaDoor.CodeS

/-
  A region that draws its order, with one operation (number L) that comes behind all others, and that may turn what the others read: a condition S on the world is shown anew behind every operation but L. After the kit's wpAnyH (Derived/OrdersHeld.lean). No program in sight.
-/
namespace Go.Proofs.YthbkklnahhdgcaaDoor.RegT
open Go

section
variable {P : Program} {ops : Array Oper} {Q : Exit → Act → World → Prop} {md : Region.Mode} {S : World → Prop} {L : Nat}

/-- Whatever order is picked, and S behind every operation but number L. -/
def wpAnyT (P : Program) (md : Region.Mode) (ops : Array Oper) (Q : Exit → Act → World → Prop) (S : World → Prop) (L : Nat) : Nat → Array Bool → Act → World → Prop
  | 0, listed, a, w => Region.ready md ops listed = [] ∧ Q .normal a w
  | fuel + 1, listed, a, w =>
    (Region.ready md ops listed = [] → Q .normal a w) ∧
    ∀ i ∈ Region.ready md ops listed, wpOp P ops Q i (fun a' w' => (i ≠ L → S w') ∧ wpAnyT P md ops Q S L fuel (listed.setIfInBounds i true) a' w') a w

theorem wpAny_of_T : ∀ (fuel : Nat) (listed : Array Bool) (a : Act) (w : World), wpAnyT P md ops Q S L fuel listed a w → wpAny P md ops Q fuel listed a w
  | 0, _, _, _, h => h
  | fuel + 1, _, _, _, h => ⟨h.1, fun i hi => wpOp_mono (fun a' w' h' => wpAny_of_T fuel _ a' w' h'.2) (h.2 i hi)⟩

theorem not_ready {i : Nat} {listed : Array Bool} (hw : Region.waitsFor md ops L i = true) (hi : listed.getD i true = false) : L ∉ Region.ready md ops listed := by
  intro h
  obtain ⟨_, o, ho, hall⟩ := mem_ready.1 h
  obtain ⟨oj, hj, e, he, hb, hon⟩ := Region.waitsFor_spec hw
  have : oj = o := Option.some.inj (hj.symm.trans ho)
  subst this
  have h2 := hall e he hb
  rw [hon, getD_both hi] at h2
  cases h2

theorem wpAnyT_first {i : Nat} {oi : Oper} {v : Value} (hi : ops[i]? = some oi) (hsel : ∀ (j : Nat) (o : Oper) cs b, ops[j]? = some o → o.op ≠ .select cs b)
    (hQ : ∀ c a w, Q (.panic c) (a.put oi.dst v) w → Q (.panic c) a w) (hL : Region.waitsFor md ops L i = true) :
    ∀ (fuel : Nat) (listed : Array Bool) (a : Act) (w : World),
      (∀ j oj, ops[j]? = some oj → j ≠ i → listed.getD j true = false → (∀ e ∈ oj.after, Region.binds md e = true → e.on ≠ i) → oi.apart ops oj = true) →
      i ∈ Region.ready md ops listed → YieldsIf P ops S oi v a → S w →
      wpAnyT P md ops Q S L fuel (listed.setIfInBounds i true) (a.put oi.dst v) w → wpAnyT P md ops Q S L (fuel + 1) listed a w := by
  intro fuel
  induction fuel with
  | zero =>
    intro listed a w _ hr hy hS H
    refine ⟨fun h => (by rw [h] at hr; cases hr), fun j hj => ?_⟩
    by_cases hji : j = i
    · subst hji; exact hy.wpOp hi hS ⟨fun _ => hS, H⟩
    · have := ready_mono hj hji
      rw [H.1] at this
      cases this
  | succ fuel ih =>
    intro listed a w hfree hr hy hS H
    refine ⟨fun h => (by rw [h] at hr; cases hr), fun j hj => ?_⟩
    by_cases hji : j = i
    · subst hji; exact hy.wpOp hi hS ⟨fun _ => hS, H⟩
    · have h1 := H.2 j (ready_mono hj hji)
      obtain ⟨hjun, oj, hoj, hall⟩ := mem_ready.1 hj
      have hjL : j ≠ L := by
        rintro rfl
        exact not_ready hL (mem_ready.1 hr).1 hj
      have hnot : ∀ e ∈ oj.after, Region.binds md e = true → e.on ≠ i := fun e he hb heq => by
        have h1 := hall e he hb
        rw [heq, getD_both (mem_ready.1 hr).1] at h1
        cases h1
      have h2 := wpOp_putIf hoj (hfree j oj hoj hji hjun hnot) (fun cs b => hsel i oi cs b hi) (fun cs b => hsel j oj cs b hoj) hQ hy h1
      have hfree' : ∀ k ok, ops[k]? = some ok → k ≠ i → (listed.setIfInBounds j true).getD k true = false →
          (∀ e ∈ ok.after, Region.binds md e = true → e.on ≠ i) → oi.apart ops ok = true := fun k ok hk hki hun hno => by
        refine hfree k ok hk hki ?_ hno
        by_cases hjk : j = k
        · subst hjk; exact hjun
        · rw [getD_set_ne true hjk] at hun; exact hun
      refine wpOp_mono (fun a' w' h3 => ⟨h3.2.1, ih (listed.setIfInBounds j true) a' w' hfree' (ready_mono hr (Ne.symm hji)) h3.1 (h3.2.1 hjL) ?_⟩) h2
      rw [Array.setIfInBounds_comm _ _ hji]
      exact h3.2.2

theorem wpAnyT_take {i : Nat} {oi : Oper} {v : Value} {fuel : Nat} {listed : Array Bool} {a : Act} {w : World} (hi : ops[i]? = some oi)
    (hL : Region.waitsFor md ops L i = true) (hs : Region.noSelect ops = true) (hf : Region.free md ops listed i = true) (hr : (Region.ready md ops listed).contains i = true)
    (hQ : ∀ c a w, Q (.panic c) (a.put oi.dst v) w → Q (.panic c) a w) (hy : YieldsIf P ops S oi v a) (hS : S w)
    (h : wpAnyT P md ops Q S L fuel (listed.setIfInBounds i true) (a.put oi.dst v) w) : wpAnyT P md ops Q S L (fuel + 1) listed a w :=
  wpAnyT_first hi (Region.noSelect_spec hs) hQ hL fuel listed a w (Region.free_spec hi hf) (by simpa using hr) hy hS h

/-- One operation alone may come up, and it is not L. -/
theorem wpAnyT_one {i : Nat} {o : Oper} {fuel : Nat} {listed : Array Bool} {a : Act} {w : World} (hr : Region.ready md ops listed = [i]) (ho : ops[i]? = some o)
    (h : ∀ K' : Act → World → Prop, Shut (∀ a w, S w → wpAnyT P md ops Q S L fuel (listed.setIfInBounds i true) a w → K' a w) → if Region.wanted o (yielded ops a.tmps) = true then Oper.wp P o a w K' Q else K' (a.put o.dst undef) w) : wpAnyT P md ops Q S L (fuel + 1) listed a w := by
  refine ⟨fun h0 => (by rw [h0] at hr; cases hr), fun j hj => ?_⟩
  rw [hr] at hj
  have hji : j = i := by simpa using hj
  subst hji
  by_cases hjL : j = L
  · exact wpOp_step ho (fun K' hK => h K' (fun a w hS hW => hK a w ⟨fun _ => hS, hW⟩))
  · exact wpOp_step ho (fun K' hK => h K' (fun a w hS hW => hK a w ⟨fun _ => hS, hW⟩))
/-- The last one. -/
theorem wpAnyT_last {o : Oper} {fuel : Nat} {listed : Array Bool} {a : Act} {w : World} (hr : Region.ready md ops listed = [L]) (ho : ops[L]? = some o)
    (hd : Region.ready md ops (listed.setIfInBounds L true) = [])
    (h : ∀ K' : Act → World → Prop, Shut (∀ a w, Q .normal a w → K' a w) → if Region.wanted o (yielded ops a.tmps) = true then Oper.wp P o a w K' Q else K' (a.put o.dst undef) w) : wpAnyT P md ops Q S L (fuel + 1) listed a w := by
  refine ⟨fun h0 => (by rw [h0] at hr; cases hr), fun j hj => ?_⟩
  rw [hr] at hj
  have hji : j = L := by simpa using hj
  subst hji
  refine wpOp_step ho (fun K' hK => h K' (fun a w hq => hK a w ⟨fun h => absurd rfl h, ?_⟩))
  cases fuel with
  | zero => exact ⟨hd, hq⟩
  | succ f => exact ⟨fun _ => hq, by rw [hd]; simp⟩

/-! ### the same over a list that is written out -/
theorem take {l : List Oper} {i : Nat} {oi : Oper} {v : Value} {fuel : Nat} {listed : Array Bool} {a : Act} {w : World} (hi : l[i]? = some oi)
    (hL : Region.waitsFor md l.toArray L i = true) (hs : Region.noSelect l.toArray = true) (hf : Region.free md l.toArray listed i = true) (hr : (Region.ready md l.toArray listed).contains i = true)
    (hQ : ∀ c a w, Q (.panic c) (a.put oi.dst v) w → Q (.panic c) a w) (hy : YieldsIf P l.toArray S oi v a) (hS : S w)
    (h : wpAnyT P md l.toArray Q S L fuel (listed.setIfInBounds i true) (a.put oi.dst v) w) : wpAnyT P md l.toArray Q S L (fuel + 1) listed a w :=
  wpAnyT_take (by simpa using hi) hL hs hf hr hQ hy hS h
theorem one {l : List Oper} {i : Nat} {o : Oper} {fuel : Nat} {listed : Array Bool} {a : Act} {w : World} (hr : Region.ready md l.toArray listed = [i]) (ho : l[i]? = some o)
    (h : ∀ K' : Act → World → Prop, Shut (∀ a w, S w → (S w → wpAnyT P md l.toArray Q S L fuel (listed.setIfInBounds i true) a w) → K' a w) → if Region.wanted o (yielded l.toArray a.tmps) = true then Oper.wp P o a w K' Q else K' (a.put o.dst undef) w) : wpAnyT P md l.toArray Q S L (fuel + 1) listed a w :=
  wpAnyT_one hr (by simpa using ho) (fun K hK => h K (fun a w hS hW => hK a w hS (hW hS)))
theorem last {l : List Oper} {o : Oper} {fuel : Nat} {listed : Array Bool} {a : Act} {w : World} (hr : Region.ready md l.toArray listed = [L]) (ho : l[L]? = some o)
    (hd : Region.ready md l.toArray (listed.setIfInBounds L true) = [])
    (h : ∀ K' : Act → World → Prop, Shut (∀ a w, Q .normal a w → K' a w) → if Region.wanted o (yielded l.toArray a.tmps) = true then Oper.wp P o a w K' Q else K' (a.put o.dst undef) w) : wpAnyT P md l.toArray Q S L (fuel + 1) listed a w :=
  wpAnyT_last hr (by simpa using ho) hd h

theorem wp_region_T {id : Nat} {a : Act} {w : World} (hm : P.follows .mixedOrders = true) (hS : S w.drew)
    (h : S w.drew → wpAnyT P .any ops Q S L ops.size (Array.replicate ops.size false) a w.drew) : (Code.region id ops true).wp P Q a w :=
  wp_region_any hm (wpAny_of_T _ _ _ _ (h hS))
theorem begin {l : List Oper} {id : Nat} {a : Act} {w : World} (hm : P.follows .mixedOrders = true) (hS : S w.drew)
    (h : S w.drew → wpAnyT P .any l.toArray Q S L l.length (Array.replicate l.length false) a w.drew) : (Code.region id l.toArray true).wp P Q a w :=
  wp_region_T hm hS (by simpa using h)
end
end Go.Proofs.YthbkklnahhdgcaaDoor.RegT

/-
  A region that draws its order: operations that only read are taken first (a condition S on the world is shown anew behind those of N that may come up ahead of them); what is left, in one forced order, is walked as a list. After the kit's wpAnyH (Derived/OrdersHeld.lean). No program in sight.
-/
namespace Go.Proofs.YthbkklnahhdgcaaDoor.RegU
open Go RegT

section
variable {P : Program} {ops : Array Oper} {Q : Exit → Act → World → Prop} {md : Region.Mode} {S : World → Prop} {N : List Nat}

def wpAnyU (P : Program) (md : Region.Mode) (ops : Array Oper) (Q : Exit → Act → World → Prop) (S : World → Prop) (N : List Nat) : Nat → Array Bool → Act → World → Prop
  | 0, listed, a, w => Region.ready md ops listed = [] ∧ Q .normal a w
  | fuel + 1, listed, a, w =>
    (Region.ready md ops listed = [] → Q .normal a w) ∧
    ∀ i ∈ Region.ready md ops listed, wpOp P ops Q i (fun a' w' => (N.contains i = true → S w') ∧ wpAnyU P md ops Q S N fuel (listed.setIfInBounds i true) a' w') a w

theorem wpAny_of_U : ∀ (fuel : Nat) (listed : Array Bool) (a : Act) (w : World), wpAnyU P md ops Q S N fuel listed a w → wpAny P md ops Q fuel listed a w
  | 0, _, _, _, h => h
  | fuel + 1, _, _, _, h => ⟨h.1, fun i hi => wpOp_mono (fun a' w' h' => wpAny_of_U fuel _ a' w' h'.2) (h.2 i hi)⟩

theorem wpAnyU_first {i : Nat} {oi : Oper} {v : Value} (hi : ops[i]? = some oi) (hsel : ∀ (j : Nat) (o : Oper) cs b, ops[j]? = some o → o.op ≠ .select cs b)
    (hQ : ∀ c a w, Q (.panic c) (a.put oi.dst v) w → Q (.panic c) a w) (X : Nat → Prop) (hX2 : ∀ j, X j → ∃ k, (k = i ∨ X k) ∧ Region.waitsFor md ops j k = true) :
    ∀ (fuel : Nat) (listed : Array Bool) (a : Act) (w : World), (∀ j, X j → listed.getD j true = false) → (∀ j, j ≠ i → ¬ X j → N.contains j = true ∨ listed.getD j true = true) →
      (∀ j oj, ops[j]? = some oj → j ≠ i → listed.getD j true = false → (∀ e ∈ oj.after, Region.binds md e = true → e.on ≠ i) → oi.apart ops oj = true) →
      i ∈ Region.ready md ops listed → YieldsIf P ops S oi v a → S w →
      wpAnyU P md ops Q S N fuel (listed.setIfInBounds i true) (a.put oi.dst v) w → wpAnyU P md ops Q S N (fuel + 1) listed a w := by
  intro fuel
  induction fuel with
  | zero =>
    intro listed a w _ _ _ hr hy hS H
    refine ⟨fun h => (by rw [h] at hr; cases hr), fun j hj => ?_⟩
    by_cases hji : j = i
    · subst hji; exact hy.wpOp hi hS ⟨fun _ => hS, H⟩
    · have := ready_mono hj hji
      rw [H.1] at this
      cases this
  | succ fuel ih =>
    intro listed a w hX1 hX3 hfree hr hy hS H
    refine ⟨fun h => (by rw [h] at hr; cases hr), fun j hj => ?_⟩
    by_cases hji : j = i
    · subst hji; exact hy.wpOp hi hS ⟨fun _ => hS, H⟩
    · have h1 := H.2 j (ready_mono hj hji)
      obtain ⟨hjun, oj, hoj, hall⟩ := mem_ready.1 hj
      have hiun := (mem_ready.1 hr).1
      have hjX : ¬ X j := by
        intro hx
        obtain ⟨k, hk, hw⟩ := hX2 j hx
        have hkun : listed.getD k true = false := by
          rcases hk with rfl | hk
          · exact hiun
          · exact hX1 k hk
        exact not_ready hw hkun hj
      have hjN : N.contains j = true := by
        rcases hX3 j hji hjX with h | h
        · exact h
        · rw [h] at hjun; cases hjun
      have hnot : ∀ e ∈ oj.after, Region.binds md e = true → e.on ≠ i := fun e he hb heq => by
        have h1 := hall e he hb
        rw [heq, getD_both hiun] at h1
        cases h1
      have h2 := wpOp_putIf hoj (hfree j oj hoj hji hjun hnot) (fun cs b => hsel i oi cs b hi) (fun cs b => hsel j oj cs b hoj) hQ hy h1
      have hfree' : ∀ k ok, ops[k]? = some ok → k ≠ i → (listed.setIfInBounds j true).getD k true = false →
          (∀ e ∈ ok.after, Region.binds md e = true → e.on ≠ i) → oi.apart ops ok = true := fun k ok hk hki hun hno => by
        refine hfree k ok hk hki ?_ hno
        by_cases hjk : j = k
        · subst hjk; exact hjun
        · rw [getD_set_ne true hjk] at hun; exact hun
      have hX1' : ∀ k, X k → (listed.setIfInBounds j true).getD k true = false := fun k hk => by
        have hjk : j ≠ k := by rintro rfl; exact hjX hk
        rw [getD_set_ne true hjk]
        exact hX1 k hk
      have hX3' : ∀ k, k ≠ i → ¬ X k → N.contains k = true ∨ (listed.setIfInBounds j true).getD k true = true := fun k hk hk2 => by
        rcases hX3 k hk hk2 with h | h
        · exact Or.inl h
        · right
          by_cases hjk : j = k
          · subst hjk; rw [h] at hjun; cases hjun
          · rw [getD_set_ne true hjk]; exact h
      refine wpOp_mono (fun a' w' h3 => ⟨fun _ => h3.2.1 hjN, ih (listed.setIfInBounds j true) a' w' hX1' hX3' hfree' (ready_mono hr (Ne.symm hji)) h3.1 (h3.2.1 hjN) ?_⟩) h2
      rw [Array.setIfInBounds_comm _ _ hji]
      exact h3.2.2

/-- X waits, at once or through others, for number i; all else is in N, or has come up. -/
def waitB (md : Region.Mode) (ops : Array Oper) (N : List Nat) (listed : Array Bool) (i : Nat) (X : List Nat) : Bool :=
  (X.all fun j => (listed.getD j true == false) && (i :: X).any fun k => Region.waitsFor md ops j k) &&
  (List.range ops.size).all fun j => N.contains j || j == i || listed.getD j true || X.contains j

theorem wpAnyU_take (X : List Nat) {i : Nat} {oi : Oper} {v : Value} {fuel : Nat} {listed : Array Bool} {a : Act} {w : World} (hi : ops[i]? = some oi) (hsz : listed.size = ops.size)
    (hL : waitB md ops N listed i X = true) (hs : Region.noSelect ops = true) (hf : Region.free md ops listed i = true) (hr : (Region.ready md ops listed).contains i = true)
    (hQ : ∀ c a w, Q (.panic c) (a.put oi.dst v) w → Q (.panic c) a w) (hy : YieldsIf P ops S oi v a) (hS : S w)
    (h : wpAnyU P md ops Q S N fuel (listed.setIfInBounds i true) (a.put oi.dst v) w) : wpAnyU P md ops Q S N (fuel + 1) listed a w := by
  simp only [waitB, Bool.and_eq_true] at hL
  obtain ⟨hL1, hL2⟩ := hL
  refine wpAnyU_first hi (Region.noSelect_spec hs) hQ (fun j => j ∈ X) ?_ fuel listed a w ?_ ?_ (Region.free_spec hi hf) (by simpa using hr) hy hS h
  · intro j hj
    have h1 := List.all_eq_true.1 hL1 j hj
    simp only [Bool.and_eq_true] at h1
    obtain ⟨k, hk, hk2⟩ := List.any_eq_true.1 h1.2
    exact ⟨k, List.mem_cons.1 hk, hk2⟩
  · intro j hj
    have h1 := List.all_eq_true.1 hL1 j hj
    simp only [Bool.and_eq_true, beq_iff_eq] at h1
    exact h1.1
  · intro j hji hX
    rcases Nat.lt_or_ge j ops.size with hj | hj
    · have h1 := List.all_eq_true.1 hL2 j (List.mem_range.2 hj)
      simp only [Bool.or_eq_true, beq_iff_eq] at h1
      rcases h1 with ((h1 | h1) | h1) | h1
      · exact Or.inl h1
      · exact absurd h1 hji
      · exact Or.inr h1
      · exact absurd (by simpa using h1) hX
    · right
      rw [← hsz] at hj
      simp [Array.getElem?_eq_none hj]

theorem wpAnyU_one {i : Nat} {o : Oper} {fuel : Nat} {listed : Array Bool} {a : Act} {w : World} (hr : Region.ready md ops listed = [i]) (ho : ops[i]? = some o)
    (h : ∀ K' : Act → World → Prop, Shut (∀ a w, S w → wpAnyU P md ops Q S N fuel (listed.setIfInBounds i true) a w → K' a w) → if Region.wanted o (yielded ops a.tmps) = true then Oper.wp P o a w K' Q else K' (a.put o.dst undef) w) : wpAnyU P md ops Q S N (fuel + 1) listed a w := by
  refine ⟨fun h0 => (by rw [h0] at hr; cases hr), fun j hj => ?_⟩
  rw [hr] at hj
  have hji : j = i := by simpa using hj
  subst hji
  exact wpOp_step ho (fun K' hK => h K' (fun a w hS hW => hK a w ⟨fun _ => hS, hW⟩))

theorem wpAnyU_two {i j : Nat} {o o2 : Oper} {fuel : Nat} {listed : Array Bool} {a : Act} {w : World} (hr : Region.ready md ops listed = [i, j]) (ho : ops[i]? = some o) (ho2 : ops[j]? = some o2)
    (h : ∀ K' : Act → World → Prop, Shut (∀ a w, S w → wpAnyU P md ops Q S N fuel (listed.setIfInBounds i true) a w → K' a w) → if Region.wanted o (yielded ops a.tmps) = true then Oper.wp P o a w K' Q else K' (a.put o.dst undef) w)
    (h2 : ∀ K' : Act → World → Prop, Shut (∀ a w, S w → wpAnyU P md ops Q S N fuel (listed.setIfInBounds j true) a w → K' a w) → if Region.wanted o2 (yielded ops a.tmps) = true then Oper.wp P o2 a w K' Q else K' (a.put o2.dst undef) w) : wpAnyU P md ops Q S N (fuel + 1) listed a w := by
  refine ⟨fun h0 => (by rw [h0] at hr; cases hr), fun k hk => ?_⟩
  rw [hr] at hk
  have hki : k = i ∨ k = j := by simpa using hk
  rcases hki with rfl | rfl
  · exact wpOp_step ho (fun K' hK => h K' (fun a w hS hW => hK a w ⟨fun _ => hS, hW⟩))
  · exact wpOp_step ho2 (fun K' hK => h2 K' (fun a w hS hW => hK a w ⟨fun _ => hS, hW⟩))

/-- What is left comes up in one order, and is not in N. -/
def chainB (md : Region.Mode) (ops : Array Oper) (N : List Nat) : Nat → Array Bool → List Nat → Bool
  | 0, listed, is => is.isEmpty && (Region.ready md ops listed).isEmpty
  | _ + 1, listed, [] => (Region.ready md ops listed).isEmpty
  | fuel + 1, listed, i :: is => (Region.ready md ops listed == [i]) && (!N.contains i && chainB md ops N fuel (listed.setIfInBounds i true) is)
theorem wpAnyU_chain : ∀ (fuel : Nat) (listed : Array Bool) (is : List Nat) (a : Act) (w : World), chainB md ops N fuel listed is = true → wpOps P ops Q is a w → wpAnyU P md ops Q S N fuel listed a w
  | 0, listed, is, a, w, hc, h => by
    simp only [chainB, Bool.and_eq_true, List.isEmpty_iff] at hc
    obtain ⟨rfl, h2⟩ := hc
    exact ⟨h2, h⟩
  | fuel + 1, listed, [], a, w, hc, h => by
    simp only [chainB, List.isEmpty_iff] at hc
    exact ⟨fun _ => h, by rw [hc]; simp⟩
  | fuel + 1, listed, i :: is, a, w, hc, h => by
    simp only [chainB, Bool.and_eq_true, beq_iff_eq, Bool.not_eq_true'] at hc
    obtain ⟨h1, h2, h3⟩ := hc
    refine ⟨fun h0 => (by rw [h0] at h1; cases h1), fun j hj => ?_⟩
    rw [h1] at hj
    have hji : j = i := by simpa using hj
    subst hji
    rw [wpOps_cons] at h
    refine wpOp_mono (fun a' w' h' => ⟨fun hn => (by rw [h2] at hn; cases hn), wpAnyU_chain fuel _ is a' w' h3 h'⟩) h

/-! ### the same over a list that is written out -/
theorem take (X : List Nat) {l : List Oper} {i : Nat} {oi : Oper} {v : Value} {fuel : Nat} {listed : Array Bool} {a : Act} {w : World} (hi : l[i]? = some oi) (hsz : listed.size = l.toArray.size)
    (hL : waitB md l.toArray N listed i X = true) (hs : Region.noSelect l.toArray = true) (hf : Region.free md l.toArray listed i = true) (hr : (Region.ready md l.toArray listed).contains i = true)
    (hQ : ∀ c a w, Q (.panic c) (a.put oi.dst v) w → Q (.panic c) a w) (hy : YieldsIf P l.toArray S oi v a) (hS : S w)
    (h : wpAnyU P md l.toArray Q S N fuel (listed.setIfInBounds i true) (a.put oi.dst v) w) : wpAnyU P md l.toArray Q S N (fuel + 1) listed a w :=
  wpAnyU_take X (by simpa using hi) hsz hL hs hf hr hQ hy hS h
theorem one {l : List Oper} {i : Nat} {o : Oper} {fuel : Nat} {listed : Array Bool} {a : Act} {w : World} (hr : Region.ready md l.toArray listed = [i]) (ho : l[i]? = some o)
    (h : ∀ K' : Act → World → Prop, Shut (∀ a w, S w → (S w → wpAnyU P md l.toArray Q S N fuel (listed.setIfInBounds i true) a w) → K' a w) → if Region.wanted o (yielded l.toArray a.tmps) = true then Oper.wp P o a w K' Q else K' (a.put o.dst undef) w) : wpAnyU P md l.toArray Q S N (fuel + 1) listed a w :=
  wpAnyU_one hr (by simpa using ho) (fun K hK => h K (fun a w hS hW => hK a w hS (hW hS)))
theorem two {l : List Oper} {i j : Nat} {o o2 : Oper} {fuel : Nat} {listed : Array Bool} {a : Act} {w : World} (hr : Region.ready md l.toArray listed = [i, j]) (ho : l[i]? = some o) (ho2 : l[j]? = some o2)
    (h : ∀ K' : Act → World → Prop, Shut (∀ a w, S w → (S w → wpAnyU P md l.toArray Q S N fuel (listed.setIfInBounds i true) a w) → K' a w) → if Region.wanted o (yielded l.toArray a.tmps) = true then Oper.wp P o a w K' Q else K' (a.put o.dst undef) w)
    (h2 : ∀ K' : Act → World → Prop, Shut (∀ a w, S w → (S w → wpAnyU P md l.toArray Q S N fuel (listed.setIfInBounds j true) a w) → K' a w) → if Region.wanted o2 (yielded l.toArray a.tmps) = true then Oper.wp P o2 a w K' Q else K' (a.put o2.dst undef) w) : wpAnyU P md l.toArray Q S N (fuel + 1) listed a w :=
  wpAnyU_two hr (by simpa using ho) (by simpa using ho2) (fun K hK => h K (fun a w hS hW => hK a w hS (hW hS))) (fun K hK => h2 K (fun a w hS hW => hK a w hS (hW hS)))
theorem wpOps_list {l : List Oper} : ∀ (is : List Nat) (k : List Oper), is.map (fun i => l[i]?) = k.map some → wpOps P l.toArray Q is = wpList P l.toArray Q k
  | [], [], _ => by funext a w; simp [wpOps, wpList]
  | [], _ :: _, h => by cases h
  | _ :: _, [], h => by cases h
  | i :: is, o :: k, h => by
    simp only [List.map_cons, List.cons.injEq] at h
    have ih := wpOps_list is k h.2
    have h0 : l.toArray[i]? = some o := by simpa using h.1
    funext a w
    simp only [wpOps, h0, wpList, ih]
theorem rest {l : List Oper} {fuel : Nat} {listed : Array Bool} {a : Act} {w : World} (is : List Nat) (k : List Oper) (hc : chainB md l.toArray N fuel listed is = true) (hk : is.map (fun i => l[i]?) = k.map some)
    (h : wpList P l.toArray Q k a w) : wpAnyU P md l.toArray Q S N fuel listed a w :=
  wpAnyU_chain fuel listed is a w hc (by rw [wpOps_list is k hk]; exact h)
theorem begin {l : List Oper} {id : Nat} {a : Act} {w : World} (hm : P.follows .mixedOrders = true) (hS : S w.drew)
    (h : S w.drew → wpAnyU P .any l.toArray Q S N l.length (Array.replicate l.length false) a w.drew) : (Code.region id l.toArray true).wp P Q a w :=
  wp_region_any hm (wpAny_of_U _ _ _ _ (by simpa using h hS))
end
end Go.Proofs.YthbkklnahhdgcaaDoor.RegU

/-
  DERIVED: THE SHELF's CONTRACTS AT THIS DUMP, IN PLAIN WORDS (tools/lay-plain.mjs out of 'TrydShelf.lean', which tools/lay-shelf.mjs wrote): THE SAME DECLARATIONS UNDER THE SAME NAMES: 'import', 'namespace', 'open', 'def', 'theorem' AND NOTHING ELSE: no command of the shelf's: FOR A HAND-IN. Each laying: the table of numbers ('.._ren') and one theorem, a field a fact of the dump's own or the kernel's comparison; each contract: ONE APPLICATION.
-/
namespace Go.Proofs
open Go.Shelf
def Tryd.lays264_ren : Go.Shelf.Ren := ⟨fun | 264 => 124 | n => n, fun | 53 => 202 | 46 => 53 | n => n, fun | n => n⟩
theorem Tryd.lays264 : Go.Proofs.Lays.n264 Tryd.prog Tryd.lays264_ren := {
  mixed := by kernel_rfl
  f264 := Tryd.func124.trans (congrArg some (by kernel_rfl))
  t46 := Tryd.underlying53
  a46 := Tryd.isAgg53
  z46 := Tryd.sizeOf53
  v46 := Tryd.zeroValue53
  t53 := Tryd.underlying202
  a53 := Tryd.isAgg202
  z53 := Tryd.sizeOf202
  v53 := Tryd.zeroValue202 }
open Go.RowKit Go.Lib in
theorem Tryd.bits_Mul64 (x y : Nat) (hx : x < 18446744073709551616) (hy : y < 18446744073709551616) (w : World) :
    Calls Tryd.prog 124 #[.int .u64 x, .int .u64 y] w fun e w' => e = .returned (.tuple #[.int .u64 ((x * y / 18446744073709551616 : Nat) : Int), .int .u64 ((x * y % 18446744073709551616 : Nat) : Int)]) ∧ w' = w := Any.bits_Mul64 Tryd.lays264 x y hx hy w
def Tryd.lays212_ren : Go.Shelf.Ren := ⟨fun | 212 => 101 | 263 => 123 | 264 => 124 | n => n, fun | 46 => 53 | 51 => 250 | 146 => 251 | 53 => 202 | 148 => 253 | n => n, fun | n => n⟩
theorem Tryd.lays212 : Go.Proofs.Lays.n212 Tryd.prog Tryd.lays212_ren := {
  mixed := by kernel_rfl
  f212 := Tryd.func101.trans (congrArg some (by kernel_rfl))
  f263 := Tryd.func123.trans (congrArg some (by kernel_rfl))
  f264 := Tryd.func124.trans (congrArg some (by kernel_rfl))
  t46 := Tryd.underlying53
  a46 := Tryd.isAgg53
  z46 := Tryd.sizeOf53
  v46 := Tryd.zeroValue53
  t51 := Tryd.underlying250
  a51 := Tryd.isAgg250
  z51 := Tryd.sizeOf250
  v51 := Tryd.zeroValue250
  t53 := Tryd.underlying202
  a53 := Tryd.isAgg202
  z53 := Tryd.sizeOf202
  v53 := Tryd.zeroValue202
  t146 := Tryd.underlying251
  a146 := Tryd.isAgg251
  z146 := Tryd.sizeOf251
  v146 := Tryd.zeroValue251
  t148 := Tryd.underlying253
  a148 := Tryd.isAgg253
  z148 := Tryd.sizeOf253
  v148 := Tryd.zeroValue253 }
open Go.RowKit Go.Lib in
/-- math/bits.Mul: "Mul returns the full-width product of x and y": on a machine of 64 bits: Mul64's. (LAID: no walk: one application.) -/
theorem Tryd.bits_Mul (x y : Nat) (hx : x < 18446744073709551616) (hy : y < 18446744073709551616) (w : World) :
    Calls Tryd.prog 101 #[.int .u64 x, .int .u64 y] w fun e w' => e = .returned (.tuple #[.int .u64 ((x * y / 18446744073709551616 : Nat) : Int), .int .u64 ((x * y % 18446744073709551616 : Nat) : Int)]) ∧ w' = w := Any.bits_Mul Tryd.lays212 x y hx hy w
end Go.Proofs

/-
  check's loop in plain Lean: what is to be done is owed; at its end there is a labelling, or none.
-/
namespace Go.Proofs.YthbkklnahhdgcaaDoor.CodeV
open Go Go.RowKit CodeR CodeP

def nextT (deep : List Int) (todo : List Nat) (p : Nat) (n : Int) : List Nat := if comeN deep p n then todo ++ [p] else todo
structure PS (f : Fc) (pend : Nat → Prop) (deep : List Int) (todo : List Nat) (e : Int) : Prop where
  inv : Inv f (fun i => i ∈ todo ∨ pend i) deep e
  room : todo.length + unl deep ≤ f.code.length
  tin : ∀ i ∈ todo, ∃ n, lab deep i = some n
/-- The beginning's labels, and those of k handlers. -/
def St (f : Fc) (k : Nat) (deep : List Int) (e : Int) : Prop := e = 0 → lab deep 0 = some 0 ∧ ∀ j h, j < k → f.hs[j]? = some h → lab deep h.g.toNat = some 1

theorem unl_rep (n : Nat) : unl (List.replicate n (-1)) = n := by
  simp [unl, List.countP_replicate]
theorem PS.top (f : Fc) : PS f (fun _ => False) (List.replicate f.code.length (-1)) [] 0 :=
  ⟨Inv.top f _, by rw [unl_rep]; simp, fun i hi => by cases hi⟩

theorem PS.come {f : Fc} {pend : Nat → Prop} {deep : List Int} {todo : List Nat} {e : Int} (h : PS f pend deep todo e) {p : Nat} {n : Int} (hn : 0 ≤ n) (hf : ∀ d, Fits f d → d p = some n) :
    PS f pend (comeD deep e p n).1 (nextT deep todo p n) (comeD deep e p n).2 ∧ (∀ i k, lab deep i = some k → lab (comeD deep e p n).1 i = some k) ∧ ((comeD deep e p n).2 = 0 → e = 0 ∧ lab (comeD deep e p n).1 p = some n)
    ∧ (nextT deep todo p n).length + 2 * unl (comeD deep e p n).1 ≤ todo.length + 2 * unl deep := by
  obtain ⟨h1, h2, h3, h4, _⟩ := h.inv.come hn hf
  have h6 := unl_come (deep := deep) (e := e) (p := p) hn
  have hr := h.room
  unfold nextT
  cases hN : comeN deep p n
  · rw [hN] at h1 h6
    simp only [Bool.false_eq_true, if_false] at h6 ⊢
    refine ⟨⟨h1.mono ?_, by omega, fun i hi => ?_⟩, h2, h3, by omega⟩
    · rintro i (hi | ⟨hi, _⟩)
      · exact hi
      · cases hi
    · obtain ⟨k, hk⟩ := h.tin i hi
      exact ⟨k, h2 i k hk⟩
  · rw [hN] at h1 h6
    obtain ⟨h7, h8⟩ := h4 hN
    simp only [if_true, List.length_append, List.length_singleton] at h6 ⊢
    refine ⟨⟨h1.mono ?_, by rw [List.length_append, List.length_singleton]; omega, fun i hi => ?_⟩, h2, h3, by omega⟩
    · rintro i (hi | ⟨_, hi⟩)
      · rcases hi with hi | hi
        · exact Or.inl (List.mem_append_left _ hi)
        · exact Or.inr hi
      · exact Or.inl (List.mem_append_right _ (by simp [hi]))
    · rcases List.mem_append.mp hi with hi | hi
      · obtain ⟨k, hk⟩ := h.tin i hi
        exact ⟨k, h2 i k hk⟩
      · have hip : i = p := by simpa using hi
        subst hip
        have hD : comeD deep e i n = (deep.set i n, e) := by
          unfold comeN at hN
          simp only [Bool.and_eq_true, Bool.not_eq_true', Bool.or_eq_false_iff, decide_eq_false_iff_not, decide_eq_true_eq] at hN
          unfold comeD
          rw [if_neg (by omega), if_pos hN.2]
        rw [hD]
        exact ⟨n, by rw [lab_set h8 hn, if_pos rfl]⟩

theorem St.keep {f : Fc} {k : Nat} {deep deep' : List Int} {e e' : Int} (h : St f k deep e) (he : e' = 0 → e = 0) (hl : ∀ i n, lab deep i = some n → lab deep' i = some n) : St f k deep' e' := by
  intro h0
  obtain ⟨h1, h2⟩ := h (he h0)
  exact ⟨hl _ _ h1, fun j x hj hx => hl _ _ (h2 j x hj hx)⟩
theorem St.first {f : Fc} {deep : List Int} {e : Int} (h : e = 0 → lab deep 0 = some 0) : St f 0 deep e := fun h0 => ⟨h h0, fun j x hj => by omega⟩
theorem St.more {f : Fc} {k : Nat} {deep : List Int} {e : Int} (h : St f k deep e) {x : H3} (hx : f.hs[k]? = some x) (hl : e = 0 → lab deep x.g.toNat = some 1) : St f (k + 1) deep e := by
  intro h0
  obtain ⟨h1, h2⟩ := h h0
  refine ⟨h1, fun j y hj hy => ?_⟩
  by_cases hjk : j = k
  · subst hjk; rw [hx] at hy; cases hy; exact hl h0
  · exact h2 j y (by omega) hy
theorem forced_top {f : Fc} : ∀ d, Fits f d → d 0 = some 0 := fun _ h => h.top
theorem forced_hand {f : Fc} {k : Nat} {x : H3} (hx : f.hs[k]? = some x) : ∀ d, Fits f d → d x.g.toNat = some 1 := fun _ h => h.hand x (List.mem_of_getElem? hx)

/-- The last one is taken. -/
theorem PS.pop {f : Fc} {deep : List Int} {t : List Nat} {p : Nat} (h : PS f (fun _ => False) deep (t ++ [p]) 0) : ∃ n, lab deep p = some n ∧ PS f (fun i => i = p) deep t 0 := by
  obtain ⟨n, hn⟩ := h.tin p (by simp)
  refine ⟨n, hn, ⟨h.inv.mono ?_, ?_, fun i hi => h.tin i (List.mem_append_left _ hi)⟩⟩
  · rintro i (hi | hi)
    · rcases List.mem_append.mp hi with hi | hi
      · exact Or.inl hi
      · exact Or.inr (by simpa using hi)
    · exact hi.elim
  · have := h.room
    rw [List.length_append] at this
    simp at this
    omega
/-- All that follows is labelled: that one is done. -/
theorem PS.pay {f : Fc} {deep : List Int} {todo : List Nat} {e : Int} {p : Nat} (h : PS f (fun i => i = p) deep todo e) {n : Int} {x : I3} (hl : e = 0 → lab deep p = some n) (hx : f.code[p]? = some x) (ht : takeI x ≤ n)
    (hy : e = 0 → ∀ y ∈ follows p n x, lab deep y.1.toNat = some y.2) : PS f (fun _ => False) deep todo e :=
  ⟨h.inv.pay hl hx ht hy (fun _k hk => hk.elim (fun hk => Or.inl (Or.inl hk)) Or.inr), h.room, h.tin⟩
/-- At the end. -/
theorem PS.fits {f : Fc} {deep : List Int} (h : PS f (fun _ => False) deep [] 0) (hs : St f f.hs.length deep 0) : ∃ d, Fits f d := by
  obtain ⟨h1, h2⟩ := hs rfl
  refine ⟨lab deep, (h.inv.mono ?_).end_ok h1 ?_⟩
  · rintro i (hi | hi)
    · cases hi
    · exact hi
  · intro x hx
    obtain ⟨j, hj⟩ := List.mem_iff_getElem?.mp hx
    exact h2 j x (List.getElem?_eq_some_iff.mp hj).1 hj
theorem PS.none {f : Fc} {pend : Nat → Prop} {deep : List Int} {todo : List Nat} {e : Int} (h : PS f pend deep todo e) (he : e ≠ 0) : ∀ d, ¬ Fits f d := h.inv.bad he
theorem PS.e3 {f : Fc} {pend : Nat → Prop} {deep : List Int} {todo : List Nat} {e : Int} (h : PS f pend deep todo e) : e = 0 ∨ e = 3 := h.inv.err

/-- What follows an instruction that goes elsewhere, and on, or not. -/
theorem follows_go {p : Nat} {n : Int} {x : I3} {to k : Int} (hg : goI x = some (to, k)) : (to, n - takeI x + leaveI x + k) ∈ follows p n x := by
  unfold follows; rw [hg]; simp
theorem follows_on {p : Nat} {n : Int} {x : I3} (he : endsB x.op = false) : ((p : Int) + 1, n - takeI x + leaveI x) ∈ follows p n x := by
  unfold follows; rw [he]; simp
theorem follows_cases {p : Nat} {n : Int} {x : I3} {y : Int × Int} (h : y ∈ follows p n x) : (∃ to k, goI x = some (to, k) ∧ y = (to, n - takeI x + leaveI x + k)) ∨ (endsB x.op = false ∧ y = ((p : Int) + 1, n - takeI x + leaveI x)) := by
  unfold follows at h
  rcases List.mem_append.mp h with h | h
  · left
    cases hg : goI x with
    | none => rw [hg] at h; simp at h
    | some q => rw [hg] at h; simp at h; exact ⟨q.1, q.2, rfl, h⟩
  · right
    cases he : endsB x.op
    · rw [he] at h; simp at h; exact ⟨rfl, h⟩
    · rw [he] at h; simp at h
end Go.Proofs.YthbkklnahhdgcaaDoor.CodeV
