/-
  Package code's images as plain data, and how they lie in memory; what the document asks of them (3.1, 3.2), as plain functions. No program in sight.
-/
import Derived.Test.YthbkklnahhdgcaaDoorLib
namespace Go.Proofs.YthbkklnahhdgcaaDoor.CodeR
open Go Go.RowKit

/-! ### rows and slices in memory -/
/-- These values lie in a block from a place on. -/
def Row (w : World) (b off : Nat) (vs : List Value) : Prop := ∀ (k : Nat) v, vs[k]? = some v → w.cell? ⟨b, off + k, none⟩ = some v
/-- A slice's value: its address, length, room; where it lies, if it is not empty. -/
structure Sl where
  oa : Option Addr
  n : Nat
  c : Nat
  b : Nat
  o : Nat
def Sl.val (s : Sl) : Value := .slice s.oa s.n s.c
/-- The slice's elements, each a row of sz values, lie in memory. -/
structure SlIn (w : World) (s : Sl) (sz : Nat) (rows : List (List Value)) : Prop where
  len : s.n = rows.length
  small : s.n ≤ 9223372036854775807
  addr : 0 < s.n → s.oa = some ⟨s.b, s.o, none⟩
  row : ∀ (i : Nat) r, rows[i]? = some r → Row w s.b (s.o + i * sz) r

theorem Row.of_cells {w w' : World} {b off : Nat} {vs : List Value} (h : Row w b off vs) (hc : ∀ o, w'.cell? ⟨b, o, none⟩ = w.cell? ⟨b, o, none⟩) : Row w' b off vs :=
  fun k v hv => (hc _).trans (h k v hv)
theorem Row.lt {w : World} {b off : Nat} {v : Value} {vs : List Value} (h : Row w b off (v :: vs)) : b < w.heap.size := by
  have := h 0 v rfl
  exact World.block_lt_of_cell? _ _ this
theorem Row.below {w w' : World} {b off B : Nat} {vs : List Value} (h : Row w b off vs) (hb : Below B w w') (hB : w.heap.size ≤ B) : Row w' b off vs := by
  intro k v hv
  have h1 := h k v hv
  have hlt := World.block_lt_of_cell? _ _ h1
  rw [hb.cell (Nat.lt_of_lt_of_le hlt hB)]
  exact h1
theorem SlIn.below {w w' : World} {s : Sl} {sz B : Nat} {rows : List (List Value)} (h : SlIn w s sz rows) (hb : Below B w w') (hB : w.heap.size ≤ B) : SlIn w' s sz rows :=
  ⟨h.len, h.small, h.addr, fun i r hr => (h.row i r hr).below hb hB⟩

/-! ### images -/
structure I3 where
  op : Int
  a : Int
  b : Int
structure H3 where
  f : Int
  t : Int
  g : Int
structure Vr where
  name : ByteArray
  slot : Int
  f : Int
  t : Int
  boxed : Bool
structure Cn where
  text : Bool
  s : ByteArray
  n : Int
structure Fc where
  name : ByteArray
  params : Int
  slots : Int
  code : List I3
  hs : List H3
  vars : List Vr
  codeS : Sl
  hsS : Sl
  varsS : Sl
structure Cl where
  name : ByteArray
  above : Int
  fields : List ByteArray
  names : List ByteArray
  methods : List Int
  fieldsS : Sl
  namesS : Sl
  methodsS : Sl
structure Im where
  funcs : List Fc
  consts : List Cn
  classes : List Cl
  funcsS : Sl
  constsS : Sl
  classesS : Sl

def I3.vals (x : I3) : List Value := [.int .i64 x.op, .int .i64 x.a, .int .i64 x.b]
def H3.vals (x : H3) : List Value := [.int .i64 x.f, .int .i64 x.t, .int .i64 x.g]
def Vr.vals (x : Vr) : List Value := [.string x.name, .int .i64 x.slot, .int .i64 x.f, .int .i64 x.t, .bool x.boxed]
def Cn.vals (x : Cn) : List Value := [.bool x.text, .string x.s, .int .i64 x.n]
def Fc.vals (x : Fc) : List Value := [.string x.name, .int .i64 x.params, .int .i64 x.slots, x.codeS.val, x.hsS.val, x.varsS.val]
def Cl.vals (x : Cl) : List Value := [.string x.name, .int .i64 x.above, x.fieldsS.val, x.namesS.val, x.methodsS.val]
def Im.vals (x : Im) : List Value := [x.funcsS.val, x.constsS.val, x.classesS.val]

/-- A function's parts lie in memory. -/
structure FcIn (w : World) (f : Fc) : Prop where
  code : SlIn w f.codeS 3 (f.code.map I3.vals)
  hs : SlIn w f.hsS 3 (f.hs.map H3.vals)
  vars : SlIn w f.varsS 5 (f.vars.map Vr.vals)
structure ClIn (w : World) (c : Cl) : Prop where
  fields : SlIn w c.fieldsS 1 (c.fields.map fun s => [.string s])
  names : SlIn w c.namesS 1 (c.names.map fun s => [.string s])
  methods : SlIn w c.methodsS 1 (c.methods.map fun n => [.int .i64 n])
/-- An image's parts lie in memory (the image itself, three slices, wherever it is). -/
structure ImIn (w : World) (m : Im) : Prop where
  funcs : SlIn w m.funcsS 6 (m.funcs.map Fc.vals)
  consts : SlIn w m.constsS 3 (m.consts.map Cn.vals)
  classes : SlIn w m.classesS 5 (m.classes.map Cl.vals)
  fn : ∀ f ∈ m.funcs, FcIn w f
  cl : ∀ c ∈ m.classes, ClIn w c

theorem FcIn.below {w w' : World} {f : Fc} {B : Nat} (h : FcIn w f) (hb : Below B w w') (hB : w.heap.size ≤ B) : FcIn w' f := ⟨h.code.below hb hB, h.hs.below hb hB, h.vars.below hb hB⟩
theorem ClIn.below {w w' : World} {c : Cl} {B : Nat} (h : ClIn w c) (hb : Below B w w') (hB : w.heap.size ≤ B) : ClIn w' c := ⟨h.fields.below hb hB, h.names.below hb hB, h.methods.below hb hB⟩
theorem ImIn.below {w w' : World} {m : Im} {B : Nat} (h : ImIn w m) (hb : Below B w w') (hB : w.heap.size ≤ B) : ImIn w' m :=
  ⟨h.funcs.below hb hB, h.consts.below hb hB, h.classes.below hb hB, fun f hf => (h.fn f hf).below hb hB, fun c hc => (h.cl c hc).below hb hB⟩

/-! ### what the document asks (3.1, 3.2) -/
def within (n low top : Int) : Bool := decide (low ≤ n) && decide (n ≤ top)
def Im.textB (m : Im) (k : Int) : Bool := within k 0 ((m.consts.length : Int) - 1) && (match m.consts[k.toNat]? with | some c => c.text | none => false)
def fewB (b : Int) : Bool := within b 0 50
def Im.paramsAt (m : Im) (k : Int) : Option Int := (m.funcs[k.toNat]?).map (·.params)

/-- Is what an instruction names there? -/
def rightB (m : Im) (f : Fc) (x : I3) : Bool :=
  if x.op = 2 then within x.a 0 ((m.consts.length : Int) - 1)
  else if x.op = 6 ∨ x.op = 7 ∨ x.op = 8 ∨ x.op = 9 ∨ x.op = 10 then within x.a 0 (f.slots - 1)
  else if x.op = 11 ∨ x.op = 12 ∨ x.op = 13 ∨ x.op = 29 then within x.a 0 50
  else if x.op = 15 ∨ x.op = 16 ∨ x.op = 17 ∨ x.op = 18 then within x.a 0 ((f.code.length : Int) - 1)
  else if x.op = 32 ∨ x.op = 33 then m.textB x.a
  else if x.op = 34 then m.textB x.a && fewB x.b
  else if x.op = 35 then m.textB x.a && (decide (0 ≤ x.b) && (decide (x.b.tdiv 64 < (m.classes.length : Int)) && decide (x.b.tmod 64 ≤ 50)))
  else if x.op = 36 then within x.a 0 ((m.classes.length : Int) - 1) && fewB x.b
  else if x.op = 37 then fewB x.b
  else if x.op = 38 then within x.a 1 ((m.funcs.length : Int) - 1) && (fewB x.b && decide (m.paramsAt x.a = some x.b))
  else if x.op = 39 then within x.a 1 ((m.funcs.length : Int) - 1) && fewB x.b
  else within x.op 1 45

def takeI (x : I3) : Int :=
  if x.op = 7 ∨ x.op = 8 ∨ x.op = 10 ∨ x.op = 13 ∨ x.op = 14 ∨ x.op = 16 ∨ x.op = 17 ∨ x.op = 18 ∨ x.op = 19 ∨ x.op = 20 ∨ x.op = 21 ∨ x.op = 32 ∨ x.op = 40 ∨ x.op = 41 ∨ x.op = 42 ∨ x.op = 44 then 1
  else if x.op = 22 ∨ x.op = 23 ∨ x.op = 24 ∨ x.op = 25 ∨ x.op = 26 ∨ x.op = 27 ∨ x.op = 28 ∨ x.op = 30 ∨ x.op = 33 then 2
  else if x.op = 31 then 3
  else if x.op = 29 then x.a
  else if x.op = 35 then x.b.tmod 64 + 1
  else if x.op = 34 ∨ x.op = 37 then x.b + 1
  else if x.op = 36 ∨ x.op = 38 ∨ x.op = 39 then x.b
  else 0
def leaveI (x : I3) : Int :=
  if x.op = 2 ∨ x.op = 3 ∨ x.op = 4 ∨ x.op = 5 ∨ x.op = 6 ∨ x.op = 9 ∨ x.op = 11 ∨ x.op = 12 ∨ x.op = 43 ∨ x.op = 19 ∨ x.op = 20 ∨ x.op = 21 ∨ x.op = 32 ∨ x.op = 44 ∨ x.op = 22 ∨ x.op = 23 ∨ x.op = 24 ∨ x.op = 25 ∨ x.op = 26 ∨ x.op = 27 ∨ x.op = 28 ∨ x.op = 30 ∨ x.op = 29 ∨ x.op = 35 ∨ x.op = 34 ∨ x.op = 37 ∨ x.op = 36 ∨ x.op = 38 ∨ x.op = 39 then 1 else 0
def endsB (op : Int) : Bool := decide (op = 15 ∨ op = 40 ∨ op = 41)
/-- Where else it goes, with how many more. -/
def goI (x : I3) : Option (Int × Int) := if x.op = 15 ∨ x.op = 16 then some (x.a, 0) else if x.op = 17 ∨ x.op = 18 then some (x.a, 1) else none

/-- What an instruction at a place, with n values there, asks of the places behind it: the place, the number. -/
def follows (at' : Nat) (n : Int) (x : I3) : List (Int × Int) :=
  (match goI x with | some (to, k) => [(to, n - takeI x + leaveI x + k)] | none => []) ++ (if endsB x.op then [] else [((at' : Int) + 1, n - takeI x + leaveI x)])

/-- A labelling of places with numbers of values. -/
structure Fits (f : Fc) (d : Nat → Option Int) : Prop where
  top : d 0 = some 0
  hand : ∀ h ∈ f.hs, d h.g.toNat = some 1
  within : ∀ (i : Nat) n, d i = some n → i < f.code.length ∧ n ≤ 200
  goes : ∀ (i : Nat) n x, d i = some n → f.code[i]? = some x → takeI x ≤ n ∧ ∀ y ∈ follows i n x, d y.1.toNat = some y.2

end Go.Proofs.YthbkklnahhdgcaaDoor.CodeR
