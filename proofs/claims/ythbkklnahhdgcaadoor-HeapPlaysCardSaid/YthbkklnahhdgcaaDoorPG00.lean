/-
  Words of our own for all walks of this seat: what package heap's memory holds, as plain data; which blocks of a world have turned. No program in sight.
-/
import Derived.WalkKit
import Derived.Maps.Own
import Derived.Deep.QuietTactic
import Derived.Test.YthbkklnahhdgcaaDoorProg
import Derived.Deep.Fields
import Derived.SizedLaws
import Derived.ChangeBook
import Derived.ChangeStays
import Derived.RowKit
import Derived.OpenShut
import Derived.Deep.RegionHeld3
import Derived.StillTail
set_option maxRecDepth 100000
set_option maxHeartbeats 4000000
namespace Go.Proofs.YthbkklnahhdgcaaDoor.Lib
open Go Go.RowKit

/-! ### worlds -/
/-- w' is w but for the blocks of S, and new ones. -/
structure Turned (S : Nat → Prop) (w w' : World) : Prop where
  os : w'.os = w.os
  tape : w'.tape = w.tape
  output : w'.output = w.output
  size : w.heap.size ≤ w'.heap.size
  block : ∀ k, k < w.heap.size → ¬ S k → w'.heap[k]? = w.heap[k]?

theorem Turned.refl (S : Nat → Prop) (w : World) : Turned S w w := ⟨rfl, rfl, rfl, Nat.le_refl _, fun _ _ _ => rfl⟩
theorem Turned.trans {S : Nat → Prop} {a b c : World} (h : Turned S a b) (k : Turned S b c) : Turned S a c :=
  ⟨k.os.trans h.os, k.tape.trans h.tape, k.output.trans h.output, Nat.le_trans h.size k.size, fun i hi hs => (k.block i (Nat.lt_of_lt_of_le hi h.size) hs).trans (h.block i hi hs)⟩
theorem Turned.mono {S T : Nat → Prop} {a b : World} (h : Turned S a b) (hs : ∀ k, S k → T k) : Turned T a b :=
  ⟨h.os, h.tape, h.output, h.size, fun i hi ht => h.block i hi (fun hS => ht (hs i hS))⟩
theorem Turned.drewN {S : Nat → Prop} {a b : World} (h : Turned S a b) (n : Nat) : Turned S a (b.drewN n) := ⟨h.os, h.tape, h.output, h.size, h.block⟩
theorem Turned.drew {S : Nat → Prop} {a b : World} (h : Turned S a b) : Turned S a b.drew := ⟨h.os, h.tape, h.output, h.size, h.block⟩
theorem Turned.alloc {S : Nat → Prop} {a b : World} (h : Turned S a b) (o : Obj) : Turned S a (b.alloc o) :=
  h.trans ⟨rfl, rfl, rfl, by simp, fun k hk _ => Below.heap_alloc _ _ _ (by omega)⟩
theorem Turned.setCell {S : Nat → Prop} {a b : World} (h : Turned S a b) {p : Addr} (hp : S p.block ∨ a.heap.size ≤ p.block) (u : Value) : Turned S a (b.setCell p u) :=
  ⟨h.os, h.tape, h.output, by simpa [World.setCell] using h.size, fun k hk hs => (Below.heap_setCell _ _ _ _ (by rintro rfl; rcases hp with hp | hp; exact hs hp; omega)).trans (h.block k hk hs)⟩
theorem Turned.grown {S : Nat → Prop} {a b c : World} {row : Option Nat} (h : Turned S a b) (hg : b.grownBy c row) (hr : ∀ k, row = some k → S k ∨ a.heap.size ≤ k) : Turned S a c :=
  ⟨hg.os.trans h.os, hg.tape.trans h.tape, hg.output.trans h.output, Nat.le_trans h.size hg.size, fun k hk hs => (hg.block k (Nat.lt_of_lt_of_le hk h.size) (fun e => by rcases hr k e.symm with h1 | h1; exact hs h1; omega)).trans (h.block k hk hs)⟩
theorem Turned.cell {S : Nat → Prop} {a b : World} (h : Turned S a b) {p : Addr} (hp : p.block < a.heap.size) (hs : ¬ S p.block) : b.cell? p = a.cell? p := World.cell?_of_block (h.block _ hp hs)
theorem Turned.below {a b : World} {S : Nat → Prop} {B : Nat} (h : Turned S a b) (hB : B ≤ a.heap.size) (hs : ∀ k, S k → B ≤ k) : Below B a b :=
  ⟨h.os, h.tape, h.output, h.size, fun k hk => h.block k (by omega) (fun hS => by have := hs k hS; omega)⟩
theorem Turned.of_below {a b : World} (S : Nat → Prop) (h : Below a.heap.size a b) : Turned S a b := ⟨h.os, h.tape, h.output, h.size, fun k hk _ => h.block k hk⟩
theorem below_drewN {B : Nat} {a w : World} (h : Below B a w) (n : Nat) : Below B a (w.drewN n) := ⟨h.os, h.tape, h.output, h.size, h.block⟩
theorem bcell {W w1 : World} (hb : Below W.heap.size W w1) : (∀ b o, b < W.heap.size → w1.cell? ⟨b, o, none⟩ = W.cell? ⟨b, o, none⟩) ∧ (∀ b o, b < W.heap.size → w1.frozen? ⟨b, o, none⟩ = W.frozen? ⟨b, o, none⟩) :=
  ⟨fun b o h => hb.cell (p := ⟨b, o, none⟩) h, fun b o h => hb.frozen (p := ⟨b, o, none⟩) h⟩

theorem cell_of_block {w : World} {b i : Nat} {c : Array Value} {t : TypeId} {f : Nat × Nat} {v : Value} (h : w.heap[b]? = some (.cells c t f)) (hv : c[i]? = some v) : w.cell? ⟨b, i, none⟩ = some v := by
  simp [World.cell?, h, hv]
theorem frozen_of_block {w : World} {b i : Nat} {c : Array Value} {t : TypeId} (h : w.heap[b]? = some (.cells c t (0, 0))) : w.frozen? ⟨b, i, none⟩ = false := by
  simp [World.frozen?, h]
theorem blk_set {w : World} {b i : Nat} {c : Array Value} {t : TypeId} {f : Nat × Nat} (h : w.heap[b]? = some (.cells c t f)) (v : Value) : (w.setCell ⟨b, i, none⟩ v).heap[b]? = some (.cells (c.setIfInBounds i v) t f) := by
  simp [World.setCell, Array.getElem?_modify, h]
theorem blk_ne {w : World} {p : Addr} {k : Nat} {v : Value} (h : k ≠ p.block) : (w.setCell p v).heap[k]? = w.heap[k]? := Below.heap_setCell w p v k h
theorem blk_alloc_lt {w : World} {o : Obj} {k : Nat} (h : k < w.heap.size) : (w.alloc o).heap[k]? = w.heap[k]? := Below.heap_alloc w o k h
theorem blk_alloc_at {w : World} {o : Obj} {k : Nat} (h : k = w.heap.size) : (w.alloc o).heap[k]? = some o := by subst h; show (w.heap.push o)[w.heap.size]? = _; simp
theorem blk_drewN {w : World} {n : Nat} : (w.drewN n).heap = w.heap := rfl
theorem lt_of_block {w : World} {b : Nat} {o : Obj} (h : w.heap[b]? = some o) : b < w.heap.size := (Array.getElem?_eq_some_iff.1 h).1

/-! ### the cells of package heap -/
/-- A cell: a head, a value, where an object went. -/
structure HCell where
  kind : Int
  tag : Int
  id : Int
  size : Int
  vk : Int
  vn : Int
  vs : ByteArray
  moved : Int
def HCell.zero : HCell := ⟨0, 0, 0, 0, 0, 0, ByteArray.empty, 0⟩
def HCell.vals (c : HCell) : List Value := [.int .i64 c.kind, .int .i64 c.tag, .int .i64 c.id, .int .i64 c.size, .int .i64 c.vk, .int .i64 c.vn, .string c.vs, .int .i64 c.moved]
def hvals (l : List HCell) : List Value := l.flatMap HCell.vals
def hcells (l : List HCell) : Array Value := (hvals l).toArray

theorem hvals_cons (c : HCell) (l : List HCell) : hvals (c :: l) = c.vals ++ hvals l := rfl
theorem hvals_append (l m : List HCell) : hvals (l ++ m) = hvals l ++ hvals m := by simp [hvals]
theorem length_vals (c : HCell) : c.vals.length = 8 := rfl
theorem length_hvals (l : List HCell) : (hvals l).length = l.length * 8 := by
  induction l with
  | nil => rfl
  | cons c l ih => rw [hvals_cons, List.length_append, length_vals, ih]; simp; omega
theorem hvals_get (l : List HCell) (i j : Nat) (c : HCell) (h : l[i]? = some c) (hj : j < 8) : (hvals l)[i * 8 + j]? = c.vals[j]? := by
  induction l generalizing i with
  | nil => simp at h
  | cons d l ih =>
    cases i with
    | zero =>
      have : d = c := by simpa using h
      subst this
      rw [hvals_cons, List.getElem?_append_left (by rw [length_vals]; omega)]
      simp
    | succ i =>
      rw [hvals_cons, List.getElem?_append_right (by rw [length_vals]; omega), length_vals]
      have e : (i + 1) * 8 + j - 8 = i * 8 + j := by omega
      rw [e]
      exact ih i (by simpa using h)
theorem hcells_get (l : List HCell) (i j : Nat) (c : HCell) (h : l[i]? = some c) (hj : j < 8) : (hcells l)[i * 8 + j]? = c.vals[j]? := by
  simp only [hcells, List.getElem?_toArray]; exact hvals_get l i j c h hj
theorem hvals_set (l : List HCell) (i : Nat) (c : HCell) (h : i < l.length) :
    ((((((((hvals l).set (i * 8) (.int .i64 c.kind)).set (i * 8 + 1) (.int .i64 c.tag)).set (i * 8 + 2) (.int .i64 c.id)).set (i * 8 + 3) (.int .i64 c.size)).set (i * 8 + 4) (.int .i64 c.vk)).set (i * 8 + 5) (.int .i64 c.vn)).set (i * 8 + 6) (.string c.vs)).set (i * 8 + 7) (.int .i64 c.moved) = hvals (l.set i c) := by
  induction l generalizing i with
  | nil => simp at h
  | cons d l ih =>
    cases i with
    | zero => simp [hvals_cons, HCell.vals]
    | succ i =>
      have hi : i < l.length := by simpa using h
      have e : ∀ (m : List Value) (j : Nat) (v : Value), (d.vals ++ m).set ((i + 1) * 8 + j) v = d.vals ++ m.set (i * 8 + j) v := fun m j v => by
        rw [List.set_append_right _ _ (by rw [length_vals]; omega), length_vals]
        congr 2
        omega
      have e0 : ∀ (m : List Value) (v : Value), (d.vals ++ m).set ((i + 1) * 8) v = d.vals ++ m.set (i * 8) v := fun m v => by
        have := e m 0 v; simpa using this
      rw [List.set_cons_succ, hvals_cons, hvals_cons, e0, e, e, e, e, e, e, e, ih i hi]

theorem hcells_set (l : List HCell) (i : Nat) (c : HCell) (h : i < l.length) :
    ((((((((hcells l).setIfInBounds (i * 8) (.int .i64 c.kind)).setIfInBounds (i * 8 + 1) (.int .i64 c.tag)).setIfInBounds (i * 8 + 2) (.int .i64 c.id)).setIfInBounds (i * 8 + 3) (.int .i64 c.size)).setIfInBounds (i * 8 + 4) (.int .i64 c.vk)).setIfInBounds (i * 8 + 5) (.int .i64 c.vn)).setIfInBounds (i * 8 + 6) (.string c.vs)).setIfInBounds (i * 8 + 7) (.int .i64 c.moved) = hcells (l.set i c) := by
  simp only [hcells, List.setIfInBounds_toArray]
  rw [hvals_set l i c h]

theorem hvals_set3 (l : List HCell) (i : Nat) (vk vn : Int) (vs : ByteArray) (h : i < l.length) :
    (((hvals l).set (i * 8 + 4) (.int .i64 vk)).set (i * 8 + 4 + 1) (.int .i64 vn)).set (i * 8 + 4 + 2) (.string vs) = hvals (l.modify i fun d => { d with vk := vk, vn := vn, vs := vs }) := by
  induction l generalizing i with
  | nil => simp at h
  | cons d l ih =>
    cases i with
    | zero => simp [hvals_cons, HCell.vals]
    | succ i =>
      have hi : i < l.length := by simpa using h
      have e : ∀ (m : List Value) (j : Nat) (v : Value), (d.vals ++ m).set ((i + 1) * 8 + j) v = d.vals ++ m.set (i * 8 + j) v := fun m j v => by
        rw [List.set_append_right _ _ (by rw [length_vals]; omega), length_vals]
        congr 2
        omega
      rw [Nat.add_assoc, Nat.add_assoc, List.modify_succ_cons, hvals_cons, hvals_cons, e, e, e]
      have := ih i hi
      rw [Nat.add_assoc, Nat.add_assoc] at this
      rw [this]
theorem hcells_set3 (l : List HCell) (i : Nat) (vk vn : Int) (vs : ByteArray) (h : i < l.length) :
    (((hcells l).setIfInBounds (i * 8 + 4) (.int .i64 vk)).setIfInBounds (i * 8 + 4 + 1) (.int .i64 vn)).setIfInBounds (i * 8 + 4 + 2) (.string vs) = hcells (l.modify i fun d => { d with vk := vk, vn := vn, vs := vs }) := by
  simp only [hcells, List.setIfInBounds_toArray]
  rw [hvals_set3 l i vk vn vs h]

end Go.Proofs.YthbkklnahhdgcaaDoor.Lib

namespace Go.Proofs.YthbkklnahhdgcaaDoor.RowO
open Go Go.Proofs Go.RowKit Go.Deep Go.ChangeShapes Go.WideShapes Go.Proofs.YthbkklnahhdgcaaDoor.Lib

/-- These values lie in a block from a place on. -/
def Row (w : World) (b off : Nat) (vs : List Value) : Prop := ∀ (k : Nat) v, vs[k]? = some v → w.cell? ⟨b, off + k, none⟩ = some v
/-- A slice's value: its address, length, room; where it lies, if it is not empty. -/
structure Sl where
  oa : Option Addr
  n : Nat
  c : Nat
  b : Nat
  o : Nat
def Sl.val (s : Sl) : Value := .slice s.oa s.n s.c
/-- The slice's elements, each a row of sz values, lie in memory. -/
structure SlIn (w : World) (s : Sl) (sz : Nat) (rows : List (List Value)) : Prop where
  len : s.n = rows.length
  small : s.n ≤ 9223372036854775807
  addr : 0 < s.n → s.oa = some ⟨s.b, s.o, none⟩
  row : ∀ (i : Nat) r, rows[i]? = some r → Row w s.b (s.o + i * sz) r
def i64 (n : Int) : Prop := -9223372036854775808 ≤ n ∧ n ≤ 9223372036854775807
section
variable {H : Type} {enc : TypeId × Value → H} {P : Program} {w : World} {base : Nat} {spare : Nat → Bool} {held : Bool}

theorem weightsAll_mem {e : TypeId} : ∀ {l : List (DataW H)} {d : DataW H}, d ∈ l → ∀ n ∈ d.weights P e, n ∈ DataW.weightsAll P e l
  | d0 :: l, d, hd, n, hn => by
    rw [DataW.weightsAll, List.mem_append]
    rcases List.mem_cons.mp hd with rfl | hd
    · exact Or.inl hn
    · exact Or.inr (weightsAll_mem hd n hn)
  | [], _, hd, _, _ => by cases hd

theorem open_fields {t : TypeId} {fs : Array Field} {fuel : Nat} {cs : List Value} {x : DataW H × List MemPlace} (ht : P.underlying t = some (.struct fs)) (hone : oneCellFields P fs = true) (hC : P.cellsOf t = fs.size) (h : DataW.trod enc P w base spare held fuel t cs = some x) :
    cs.length = fs.size ∧ ∃ n, ∀ (i : Nat) (f : Field), fs[i]? = some f → ∃ v y, cs[i]? = some v ∧ DataW.trod enc P w base spare held n f.type [v] = some y ∧ ∀ k ∈ y.1.weights P f.type, k ∈ x.1.weights P t := by
  obtain ⟨xs, n, _, rfl, hl, hxl, hf⟩ := DataW.trod_struct ht h
  refine ⟨by rw [hl, hC], n, fun i f hi => ?_⟩
  have hlt : i < fs.size := (Array.getElem?_eq_some_iff.1 hi).1
  obtain ⟨ho, hc1⟩ := hone_of hone i f hi
  have g := hf i f hi
  rw [ho, hc1, take1_drop cs i undef (by omega)] at g
  have hx : xs[i]? = some xs[i] := List.getElem?_eq_getElem (by omega)
  rw [hx] at g
  refine ⟨cs.getD i undef, xs[i], ?_, g, ?_⟩
  · rw [List.getD_eq_getElem?_getD, List.getElem?_eq_getElem (by omega)]; rfl
  · intro k hk
    simp only [DataW.weights, ht]
    refine DataW.weights_mem_each (j := i) (t := f.type) (d := xs[i].1) ?_ ?_ k hk
    · rw [List.getElem?_map, Array.getElem?_toList, hi]; rfl
    · rw [List.getElem?_map, hx]; rfl

theorem int_field {t : TypeId} (ht : P.underlying t = some (.int .i64)) {n : Nat} {v : Value} {y : DataW H × List MemPlace} (h : DataW.trod enc P w base spare held n t [v] = some y) : ∃ k, v = .int .i64 k ∧ i64 k := by
  obtain ⟨k, e, _, hw⟩ := DataW.trod_int ht h
  simp only [List.cons.injEq, and_true] at e
  exact ⟨k, e, Go.bounds_i64 hw⟩

theorem open_rows {t e : TypeId} {fuel sz : Nat} {v : Value} {x : DataW H × List MemPlace} {A : Type} (vals : A → List Value) (Q : A → Prop)
    (ht : P.underlying t = some (.slice e)) (hc : P.cellsOf e = sz) (hpos : 0 < sz) (hb : 0 < P.bytesOf e)
    (hx : DataW.trod enc P w 0 (fun _ => true) true fuel t [v] = some x) (hwt : ∀ n ∈ x.1.weights P t, n ≤ reachBytes)
    (hel : ∀ n cs' y, DataW.trod enc P w 0 (fun _ => true) true n e cs' = some y → (∀ n ∈ y.1.weights P e, n ≤ reachBytes) → ∃ a, cs' = vals a ∧ Q a) :
    ∃ (S : Sl) (l : List A), v = S.val ∧ SlIn w S sz (l.map vals) ∧ (∀ a ∈ l, Q a) ∧ l.length ≤ 140737488355328 := by
  rcases open_slice ht hx with ⟨e0, rfl⟩ | ⟨a, len, cap, m, n, D, Pl, e0, _, hl, hm, hmm, rfl, hall⟩
  · simp only [List.cons.injEq, and_true] at e0
    exact ⟨⟨none, 0, 0, 0, 0⟩, [], e0, ⟨rfl, by decide, (fun h => by cases h), (fun i r h => by simp at h)⟩, (fun _ h => by cases h), Nat.zero_le _⟩
  · simp only [if_true] at hmm
    subst hmm
    simp only [List.cons.injEq, and_true] at e0
    have hw0 := hwt
    have key : ∀ i, i < len → ∃ y : A, (w.cells? 0 (a.add (i * sz)) sz = some (vals y)) ∧ Q y := by
      intro i hi
      obtain ⟨cs', h1, h2⟩ := hall i (by omega)
      obtain ⟨y, rfl, hq⟩ := hel n cs' _ h2 (fun k hk => hwt k (by
        simp only [DataW.weights, ht]
        refine List.mem_cons_of_mem _ (List.mem_append.mpr (Or.inl ?_))
        exact weightsAll_mem (List.mem_map.mpr ⟨i, List.mem_range.mpr hi, rfl⟩) k hk))
      rw [hc] at h1
      exact ⟨y, h1, hq⟩
    have hlen : len ≤ 140737488355328 := by
      have := hwt _ (by simp only [DataW.weights, ht]; exact List.mem_cons_self ..)
      have h2 := reachBytes_lt
      simp only [List.length_map, List.length_range] at this
      have h3 : len * 1 ≤ (len + (m - len)) * P.bytesOf e := Nat.mul_le_mul (by omega) hb
      omega
    obtain ⟨b, o, spot⟩ := a
    obtain ⟨l, hll, hlg⟩ : ∃ l : List A, l.length = len ∧ ∀ (i : Nat) y, l[i]? = some y → w.cells? 0 ((⟨b, o, spot⟩ : Addr).add (i * sz)) sz = some (vals y) ∧ Q y := by
      classical
      clear e0 hall hwt hw0 hx hl hlen
      induction len with
      | zero => exact ⟨[], rfl, fun i y h => by simp at h⟩
      | succ k ih =>
        obtain ⟨l, h1, h2⟩ := ih (fun i hi => key i (by omega))
        obtain ⟨y, hy⟩ := key k (by omega)
        refine ⟨l ++ [y], by simp [h1], fun i z hz => ?_⟩
        by_cases hi : i < l.length
        · rw [List.getElem?_append_left hi] at hz
          exact h2 i z hz
        · have hik : i = k := by
            have := (List.getElem?_eq_some_iff.mp hz).1
            simp at this
            omega
          subst hik
          rw [List.getElem?_append_right (by omega), h1, Nat.sub_self] at hz
          simp only [List.getElem?_cons_zero, Option.some.injEq] at hz
          subst hz
          exact hy
    have hspot : 0 < len → spot = none := by
      intro hp
      obtain ⟨y, hy⟩ : ∃ y, l[0]? = some y := ⟨l[0], List.getElem?_eq_getElem (by omega)⟩
      obtain ⟨h1, _⟩ := hlg 0 y hy
      obtain ⟨_, h3, h2⟩ := World.cells?_some h1
      have g := h2 0 hpos
      rw [List.getElem?_eq_getElem (by omega)] at g
      simpa [Addr.add] using World.cell?_spot g
    refine ⟨⟨some ⟨b, o, spot⟩, len, m, b, o⟩, l, e0, ⟨by simp [hll], ?_, ?_, ?_⟩, ?_, by omega⟩
    · show len ≤ _; omega
    · intro hp
      have hp' : 0 < len := hp
      rw [hspot hp']
    · intro i r hr
      rw [List.getElem?_map] at hr
      cases hy : l[i]? with
      | none => rw [hy] at hr; cases hr
      | some y =>
        rw [hy] at hr
        simp only [Option.map_some, Option.some.injEq] at hr
        subst hr
        obtain ⟨h1, _⟩ := hlg i y hy
        have hp : 0 < len := by have := (List.getElem?_eq_some_iff.mp hy).1; omega
        obtain rfl := hspot hp
        obtain ⟨_, h3, h2⟩ := World.cells?_some h1
        intro k v hv
        have hk : k < sz := by have := (List.getElem?_eq_some_iff.mp hv).1; omega
        have g := h2 k hk
        rw [hv] at g
        rw [add_add] at g
        unfold Addr.add at g
        split at g
        · rename_i h0
          rw [show o + i * sz + k = o by omega]; exact g
        · rw [Nat.add_assoc]; exact g
    · intro y hy
      obtain ⟨i, hi⟩ := List.mem_iff_getElem?.mp hy
      exact (hlg i y hi).2
end
section
variable {H : Type} {enc : TypeId × Value → H}
theorem laidOut' : laidOutB Tryd.prog = true := by kernel_rfl
theorem Below.sameAt {w w' : World} {B : Nat} (hb : Below B w w') {p : MemPlace} (hp : p.block < B) : w.sameAt w' p := by
  cases p with
  | cell b o => exact hb.cell (p := ⟨b, o, none⟩) hp
  | map b => exact hb.block b hp
theorem stays {t : TypeId} (hr : Tryd.prog.readableRec t = true) (hrow : t < Tryd.prog.types.size) {W W' : World} {sp' : Nat → Bool} {n : Nat} {cs : List Value} {x : DataW H × List MemPlace} (h : DataW.trod enc Tryd.prog W 0 (fun _ => true) true n t cs = some x)
    (hsame : ∀ p ∈ x.2, W.sameAt W' p) (hs : ∀ p ∈ x.2, sp' p.block = true) : DataW.trod enc Tryd.prog W' 0 sp' true n t cs = some x :=
  DataW.trod_stays (kids_book laidOut' hr) (book_sized hr) (fun h => by cases h) ⟨hrow, book_self t⟩ h hsame hs
end
end Go.Proofs.YthbkklnahhdgcaaDoor.RowO

namespace Go.Proofs.YthbkklnahhdgcaaDoor.RegT
open Go

section
variable {P : Program} {ops : Array Oper} {Q : Exit → Act → World → Prop} {md : Region.Mode} {S : World → Prop} {L : Nat}

/-- Whatever order is picked, and S behind every operation but number L. -/
def wpAnyT (P : Program) (md : Region.Mode) (ops : Array Oper) (Q : Exit → Act → World → Prop) (S : World → Prop) (L : Nat) : Nat → Array Bool → Act → World → Prop
  | 0, listed, a, w => Region.ready md ops listed = [] ∧ Q .normal a w
  | fuel + 1, listed, a, w =>
    (Region.ready md ops listed = [] → Q .normal a w) ∧
    ∀ i ∈ Region.ready md ops listed, wpOp P ops Q i (fun a' w' => (i ≠ L → S w') ∧ wpAnyT P md ops Q S L fuel (listed.setIfInBounds i true) a' w') a w

theorem wpAny_of_T : ∀ (fuel : Nat) (listed : Array Bool) (a : Act) (w : World), wpAnyT P md ops Q S L fuel listed a w → wpAny P md ops Q fuel listed a w
  | 0, _, _, _, h => h
  | fuel + 1, _, _, _, h => ⟨h.1, fun i hi => wpOp_mono (fun a' w' h' => wpAny_of_T fuel _ a' w' h'.2) (h.2 i hi)⟩

theorem not_ready {i : Nat} {listed : Array Bool} (hw : Region.waitsFor md ops L i = true) (hi : listed.getD i true = false) : L ∉ Region.ready md ops listed := by
  intro h
  obtain ⟨_, o, ho, hall⟩ := mem_ready.1 h
  obtain ⟨oj, hj, e, he, hb, hon⟩ := Region.waitsFor_spec hw
  have : oj = o := Option.some.inj (hj.symm.trans ho)
  subst this
  have h2 := hall e he hb
  rw [hon, getD_both hi] at h2
  cases h2

theorem wpAnyT_first {i : Nat} {oi : Oper} {v : Value} (hi : ops[i]? = some oi) (hsel : ∀ (j : Nat) (o : Oper) cs b, ops[j]? = some o → o.op ≠ .select cs b)
    (hQ : ∀ c a w, Q (.panic c) (a.put oi.dst v) w → Q (.panic c) a w) (hL : Region.waitsFor md ops L i = true) :
    ∀ (fuel : Nat) (listed : Array Bool) (a : Act) (w : World),
      (∀ j oj, ops[j]? = some oj → j ≠ i → listed.getD j true = false → (∀ e ∈ oj.after, Region.binds md e = true → e.on ≠ i) → oi.apart ops oj = true) →
      i ∈ Region.ready md ops listed → YieldsIf P ops S oi v a → S w →
      wpAnyT P md ops Q S L fuel (listed.setIfInBounds i true) (a.put oi.dst v) w → wpAnyT P md ops Q S L (fuel + 1) listed a w := by
  intro fuel
  induction fuel with
  | zero =>
    intro listed a w _ hr hy hS H
    refine ⟨fun h => (by rw [h] at hr; cases hr), fun j hj => ?_⟩
    by_cases hji : j = i
    · subst hji; exact hy.wpOp hi hS ⟨fun _ => hS, H⟩
    · have := ready_mono hj hji
      rw [H.1] at this
      cases this
  | succ fuel ih =>
    intro listed a w hfree hr hy hS H
    refine ⟨fun h => (by rw [h] at hr; cases hr), fun j hj => ?_⟩
    by_cases hji : j = i
    · subst hji; exact hy.wpOp hi hS ⟨fun _ => hS, H⟩
    · have h1 := H.2 j (ready_mono hj hji)
      obtain ⟨hjun, oj, hoj, hall⟩ := mem_ready.1 hj
      have hjL : j ≠ L := by
        rintro rfl
        exact not_ready hL (mem_ready.1 hr).1 hj
      have hnot : ∀ e ∈ oj.after, Region.binds md e = true → e.on ≠ i := fun e he hb heq => by
        have h1 := hall e he hb
        rw [heq, getD_both (mem_ready.1 hr).1] at h1
        cases h1
      have h2 := wpOp_putIf hoj (hfree j oj hoj hji hjun hnot) (fun cs b => hsel i oi cs b hi) (fun cs b => hsel j oj cs b hoj) hQ hy h1
      have hfree' : ∀ k ok, ops[k]? = some ok → k ≠ i → (listed.setIfInBounds j true).getD k true = false →
          (∀ e ∈ ok.after, Region.binds md e = true → e.on ≠ i) → oi.apart ops ok = true := fun k ok hk hki hun hno => by
        refine hfree k ok hk hki ?_ hno
        by_cases hjk : j = k
        · subst hjk; exact hjun
        · rw [getD_set_ne true hjk] at hun; exact hun
      refine wpOp_mono (fun a' w' h3 => ⟨h3.2.1, ih (listed.setIfInBounds j true) a' w' hfree' (ready_mono hr (Ne.symm hji)) h3.1 (h3.2.1 hjL) ?_⟩) h2
      rw [Array.setIfInBounds_comm _ _ hji]
      exact h3.2.2

theorem wpAnyT_take {i : Nat} {oi : Oper} {v : Value} {fuel : Nat} {listed : Array Bool} {a : Act} {w : World} (hi : ops[i]? = some oi)
    (hL : Region.waitsFor md ops L i = true) (hs : Region.noSelect ops = true) (hf : Region.free md ops listed i = true) (hr : (Region.ready md ops listed).contains i = true)
    (hQ : ∀ c a w, Q (.panic c) (a.put oi.dst v) w → Q (.panic c) a w) (hy : YieldsIf P ops S oi v a) (hS : S w)
    (h : wpAnyT P md ops Q S L fuel (listed.setIfInBounds i true) (a.put oi.dst v) w) : wpAnyT P md ops Q S L (fuel + 1) listed a w :=
  wpAnyT_first hi (Region.noSelect_spec hs) hQ hL fuel listed a w (Region.free_spec hi hf) (by simpa using hr) hy hS h

/-- One operation alone may come up, and it is not L. -/
theorem wpAnyT_one {i : Nat} {o : Oper} {fuel : Nat} {listed : Array Bool} {a : Act} {w : World} (hr : Region.ready md ops listed = [i]) (ho : ops[i]? = some o)
    (h : ∀ K' : Act → World → Prop, Shut (∀ a w, S w → wpAnyT P md ops Q S L fuel (listed.setIfInBounds i true) a w → K' a w) → if Region.wanted o (yielded ops a.tmps) = true then Oper.wp P o a w K' Q else K' (a.put o.dst undef) w) : wpAnyT P md ops Q S L (fuel + 1) listed a w := by
  refine ⟨fun h0 => (by rw [h0] at hr; cases hr), fun j hj => ?_⟩
  rw [hr] at hj
  have hji : j = i := by simpa using hj
  subst hji
  by_cases hjL : j = L
  · exact wpOp_step ho (fun K' hK => h K' (fun a w hS hW => hK a w ⟨fun _ => hS, hW⟩))
  · exact wpOp_step ho (fun K' hK => h K' (fun a w hS hW => hK a w ⟨fun _ => hS, hW⟩))
/-- The last one. -/
theorem wpAnyT_last {o : Oper} {fuel : Nat} {listed : Array Bool} {a : Act} {w : World} (hr : Region.ready md ops listed = [L]) (ho : ops[L]? = some o)
    (hd : Region.ready md ops (listed.setIfInBounds L true) = [])
    (h : ∀ K' : Act → World → Prop, Shut (∀ a w, Q .normal a w → K' a w) → if Region.wanted o (yielded ops a.tmps) = true then Oper.wp P o a w K' Q else K' (a.put o.dst undef) w) : wpAnyT P md ops Q S L (fuel + 1) listed a w := by
  refine ⟨fun h0 => (by rw [h0] at hr; cases hr), fun j hj => ?_⟩
  rw [hr] at hj
  have hji : j = L := by simpa using hj
  subst hji
  refine wpOp_step ho (fun K' hK => h K' (fun a w hq => hK a w ⟨fun h => absurd rfl h, ?_⟩))
  cases fuel with
  | zero => exact ⟨hd, hq⟩
  | succ f => exact ⟨fun _ => hq, by rw [hd]; simp⟩

/-! ### the same over a list that is written out -/
theorem take {l : List Oper} {i : Nat} {oi : Oper} {v : Value} {fuel : Nat} {listed : Array Bool} {a : Act} {w : World} (hi : l[i]? = some oi)
    (hL : Region.waitsFor md l.toArray L i = true) (hs : Region.noSelect l.toArray = true) (hf : Region.free md l.toArray listed i = true) (hr : (Region.ready md l.toArray listed).contains i = true)
    (hQ : ∀ c a w, Q (.panic c) (a.put oi.dst v) w → Q (.panic c) a w) (hy : YieldsIf P l.toArray S oi v a) (hS : S w)
    (h : wpAnyT P md l.toArray Q S L fuel (listed.setIfInBounds i true) (a.put oi.dst v) w) : wpAnyT P md l.toArray Q S L (fuel + 1) listed a w :=
  wpAnyT_take (by simpa using hi) hL hs hf hr hQ hy hS h
theorem one {l : List Oper} {i : Nat} {o : Oper} {fuel : Nat} {listed : Array Bool} {a : Act} {w : World} (hr : Region.ready md l.toArray listed = [i]) (ho : l[i]? = some o)
    (h : ∀ K' : Act → World → Prop, Shut (∀ a w, S w → (S w → wpAnyT P md l.toArray Q S L fuel (listed.setIfInBounds i true) a w) → K' a w) → if Region.wanted o (yielded l.toArray a.tmps) = true then Oper.wp P o a w K' Q else K' (a.put o.dst undef) w) : wpAnyT P md l.toArray Q S L (fuel + 1) listed a w :=
  wpAnyT_one hr (by simpa using ho) (fun K hK => h K (fun a w hS hW => hK a w hS (hW hS)))
theorem last {l : List Oper} {o : Oper} {fuel : Nat} {listed : Array Bool} {a : Act} {w : World} (hr : Region.ready md l.toArray listed = [L]) (ho : l[L]? = some o)
    (hd : Region.ready md l.toArray (listed.setIfInBounds L true) = [])
    (h : ∀ K' : Act → World → Prop, Shut (∀ a w, Q .normal a w → K' a w) → if Region.wanted o (yielded l.toArray a.tmps) = true then Oper.wp P o a w K' Q else K' (a.put o.dst undef) w) : wpAnyT P md l.toArray Q S L (fuel + 1) listed a w :=
  wpAnyT_last hr (by simpa using ho) hd h

theorem wp_region_T {id : Nat} {a : Act} {w : World} (hm : P.follows .mixedOrders = true) (hS : S w.drew)
    (h : S w.drew → wpAnyT P .any ops Q S L ops.size (Array.replicate ops.size false) a w.drew) : (Code.region id ops true).wp P Q a w :=
  wp_region_any hm (wpAny_of_T _ _ _ _ (h hS))
theorem begin {l : List Oper} {id : Nat} {a : Act} {w : World} (hm : P.follows .mixedOrders = true) (hS : S w.drew)
    (h : S w.drew → wpAnyT P .any l.toArray Q S L l.length (Array.replicate l.length false) a w.drew) : (Code.region id l.toArray true).wp P Q a w :=
  wp_region_T hm hS (by simpa using h)
end
end Go.Proofs.YthbkklnahhdgcaaDoor.RegT

namespace Go.Proofs.YthbkklnahhdgcaaDoor.RegU
open Go RegT

section
variable {P : Program} {ops : Array Oper} {Q : Exit → Act → World → Prop} {md : Region.Mode} {S : World → Prop} {N : List Nat}

def wpAnyU (P : Program) (md : Region.Mode) (ops : Array Oper) (Q : Exit → Act → World → Prop) (S : World → Prop) (N : List Nat) : Nat → Array Bool → Act → World → Prop
  | 0, listed, a, w => Region.ready md ops listed = [] ∧ Q .normal a w
  | fuel + 1, listed, a, w =>
    (Region.ready md ops listed = [] → Q .normal a w) ∧
    ∀ i ∈ Region.ready md ops listed, wpOp P ops Q i (fun a' w' => (N.contains i = true → S w') ∧ wpAnyU P md ops Q S N fuel (listed.setIfInBounds i true) a' w') a w

theorem wpAny_of_U : ∀ (fuel : Nat) (listed : Array Bool) (a : Act) (w : World), wpAnyU P md ops Q S N fuel listed a w → wpAny P md ops Q fuel listed a w
  | 0, _, _, _, h => h
  | fuel + 1, _, _, _, h => ⟨h.1, fun i hi => wpOp_mono (fun a' w' h' => wpAny_of_U fuel _ a' w' h'.2) (h.2 i hi)⟩

theorem wpAnyU_first {i : Nat} {oi : Oper} {v : Value} (hi : ops[i]? = some oi) (hsel : ∀ (j : Nat) (o : Oper) cs b, ops[j]? = some o → o.op ≠ .select cs b)
    (hQ : ∀ c a w, Q (.panic c) (a.put oi.dst v) w → Q (.panic c) a w) (X : Nat → Prop) (hX2 : ∀ j, X j → ∃ k, (k = i ∨ X k) ∧ Region.waitsFor md ops j k = true) :
    ∀ (fuel : Nat) (listed : Array Bool) (a : Act) (w : World), (∀ j, X j → listed.getD j true = false) → (∀ j, j ≠ i → ¬ X j → N.contains j = true ∨ listed.getD j true = true) →
      (∀ j oj, ops[j]? = some oj → j ≠ i → listed.getD j true = false → (∀ e ∈ oj.after, Region.binds md e = true → e.on ≠ i) → oi.apart ops oj = true) →
      i ∈ Region.ready md ops listed → YieldsIf P ops S oi v a → S w →
      wpAnyU P md ops Q S N fuel (listed.setIfInBounds i true) (a.put oi.dst v) w → wpAnyU P md ops Q S N (fuel + 1) listed a w := by
  intro fuel
  induction fuel with
  | zero =>
    intro listed a w _ _ _ hr hy hS H
    refine ⟨fun h => (by rw [h] at hr; cases hr), fun j hj => ?_⟩
    by_cases hji : j = i
    · subst hji; exact hy.wpOp hi hS ⟨fun _ => hS, H⟩
    · have := ready_mono hj hji
      rw [H.1] at this
      cases this
  | succ fuel ih =>
    intro listed a w hX1 hX3 hfree hr hy hS H
    refine ⟨fun h => (by rw [h] at hr; cases hr), fun j hj => ?_⟩
    by_cases hji : j = i
    · subst hji; exact hy.wpOp hi hS ⟨fun _ => hS, H⟩
    · have h1 := H.2 j (ready_mono hj hji)
      obtain ⟨hjun, oj, hoj, hall⟩ := mem_ready.1 hj
      have hiun := (mem_ready.1 hr).1
      have hjX : ¬ X j := by
        intro hx
        obtain ⟨k, hk, hw⟩ := hX2 j hx
        have hkun : listed.getD k true = false := by
          rcases hk with rfl | hk
          · exact hiun
          · exact hX1 k hk
        exact not_ready hw hkun hj
      have hjN : N.contains j = true := by
        rcases hX3 j hji hjX with h | h
        · exact h
        · rw [h] at hjun; cases hjun
      have hnot : ∀ e ∈ oj.after, Region.binds md e = true → e.on ≠ i := fun e he hb heq => by
        have h1 := hall e he hb
        rw [heq, getD_both hiun] at h1
        cases h1
      have h2 := wpOp_putIf hoj (hfree j oj hoj hji hjun hnot) (fun cs b => hsel i oi cs b hi) (fun cs b => hsel j oj cs b hoj) hQ hy h1
      have hfree' : ∀ k ok, ops[k]? = some ok → k ≠ i → (listed.setIfInBounds j true).getD k true = false →
          (∀ e ∈ ok.after, Region.binds md e = true → e.on ≠ i) → oi.apart ops ok = true := fun k ok hk hki hun hno => by
        refine hfree k ok hk hki ?_ hno
        by_cases hjk : j = k
        · subst hjk; exact hjun
        · rw [getD_set_ne true hjk] at hun; exact hun
      have hX1' : ∀ k, X k → (listed.setIfInBounds j true).getD k true = false := fun k hk => by
        have hjk : j ≠ k := by rintro rfl; exact hjX hk
        rw [getD_set_ne true hjk]
        exact hX1 k hk
      have hX3' : ∀ k, k ≠ i → ¬ X k → N.contains k = true ∨ (listed.setIfInBounds j true).getD k true = true := fun k hk hk2 => by
        rcases hX3 k hk hk2 with h | h
        · exact Or.inl h
        · right
          by_cases hjk : j = k
          · subst hjk; rw [h] at hjun; cases hjun
          · rw [getD_set_ne true hjk]; exact h
      refine wpOp_mono (fun a' w' h3 => ⟨fun _ => h3.2.1 hjN, ih (listed.setIfInBounds j true) a' w' hX1' hX3' hfree' (ready_mono hr (Ne.symm hji)) h3.1 (h3.2.1 hjN) ?_⟩) h2
      rw [Array.setIfInBounds_comm _ _ hji]
      exact h3.2.2

/-- X waits, at once or through others, for number i; all else is in N, or has come up. -/
def waitB (md : Region.Mode) (ops : Array Oper) (N : List Nat) (listed : Array Bool) (i : Nat) (X : List Nat) : Bool :=
  (X.all fun j => (listed.getD j true == false) && (i :: X).any fun k => Region.waitsFor md ops j k) &&
  (List.range ops.size).all fun j => N.contains j || j == i || listed.getD j true || X.contains j

theorem wpAnyU_take (X : List Nat) {i : Nat} {oi : Oper} {v : Value} {fuel : Nat} {listed : Array Bool} {a : Act} {w : World} (hi : ops[i]? = some oi) (hsz : listed.size = ops.size)
    (hL : waitB md ops N listed i X = true) (hs : Region.noSelect ops = true) (hf : Region.free md ops listed i = true) (hr : (Region.ready md ops listed).contains i = true)
    (hQ : ∀ c a w, Q (.panic c) (a.put oi.dst v) w → Q (.panic c) a w) (hy : YieldsIf P ops S oi v a) (hS : S w)
    (h : wpAnyU P md ops Q S N fuel (listed.setIfInBounds i true) (a.put oi.dst v) w) : wpAnyU P md ops Q S N (fuel + 1) listed a w := by
  simp only [waitB, Bool.and_eq_true] at hL
  obtain ⟨hL1, hL2⟩ := hL
  refine wpAnyU_first hi (Region.noSelect_spec hs) hQ (fun j => j ∈ X) ?_ fuel listed a w ?_ ?_ (Region.free_spec hi hf) (by simpa using hr) hy hS h
  · intro j hj
    have h1 := List.all_eq_true.1 hL1 j hj
    simp only [Bool.and_eq_true] at h1
    obtain ⟨k, hk, hk2⟩ := List.any_eq_true.1 h1.2
    exact ⟨k, List.mem_cons.1 hk, hk2⟩
  · intro j hj
    have h1 := List.all_eq_true.1 hL1 j hj
    simp only [Bool.and_eq_true, beq_iff_eq] at h1
    exact h1.1
  · intro j hji hX
    rcases Nat.lt_or_ge j ops.size with hj | hj
    · have h1 := List.all_eq_true.1 hL2 j (List.mem_range.2 hj)
      simp only [Bool.or_eq_true, beq_iff_eq] at h1
      rcases h1 with ((h1 | h1) | h1) | h1
      · exact Or.inl h1
      · exact absurd h1 hji
      · exact Or.inr h1
      · exact absurd (by simpa using h1) hX
    · right
      rw [← hsz] at hj
      simp [Array.getElem?_eq_none hj]

theorem wpAnyU_one {i : Nat} {o : Oper} {fuel : Nat} {listed : Array Bool} {a : Act} {w : World} (hr : Region.ready md ops listed = [i]) (ho : ops[i]? = some o)
    (h : ∀ K' : Act → World → Prop, Shut (∀ a w, S w → wpAnyU P md ops Q S N fuel (listed.setIfInBounds i true) a w → K' a w) → if Region.wanted o (yielded ops a.tmps) = true then Oper.wp P o a w K' Q else K' (a.put o.dst undef) w) : wpAnyU P md ops Q S N (fuel + 1) listed a w := by
  refine ⟨fun h0 => (by rw [h0] at hr; cases hr), fun j hj => ?_⟩
  rw [hr] at hj
  have hji : j = i := by simpa using hj
  subst hji
  exact wpOp_step ho (fun K' hK => h K' (fun a w hS hW => hK a w ⟨fun _ => hS, hW⟩))

theorem wpAnyU_two {i j : Nat} {o o2 : Oper} {fuel : Nat} {listed : Array Bool} {a : Act} {w : World} (hr : Region.ready md ops listed = [i, j]) (ho : ops[i]? = some o) (ho2 : ops[j]? = some o2)
    (h : ∀ K' : Act → World → Prop, Shut (∀ a w, S w → wpAnyU P md ops Q S N fuel (listed.setIfInBounds i true) a w → K' a w) → if Region.wanted o (yielded ops a.tmps) = true then Oper.wp P o a w K' Q else K' (a.put o.dst undef) w)
    (h2 : ∀ K' : Act → World → Prop, Shut (∀ a w, S w → wpAnyU P md ops Q S N fuel (listed.setIfInBounds j true) a w → K' a w) → if Region.wanted o2 (yielded ops a.tmps) = true then Oper.wp P o2 a w K' Q else K' (a.put o2.dst undef) w) : wpAnyU P md ops Q S N (fuel + 1) listed a w := by
  refine ⟨fun h0 => (by rw [h0] at hr; cases hr), fun k hk => ?_⟩
  rw [hr] at hk
  have hki : k = i ∨ k = j := by simpa using hk
  rcases hki with rfl | rfl
  · exact wpOp_step ho (fun K' hK => h K' (fun a w hS hW => hK a w ⟨fun _ => hS, hW⟩))
  · exact wpOp_step ho2 (fun K' hK => h2 K' (fun a w hS hW => hK a w ⟨fun _ => hS, hW⟩))

/-- What is left comes up in one order, and is not in N. -/
def chainB (md : Region.Mode) (ops : Array Oper) (N : List Nat) : Nat → Array Bool → List Nat → Bool
  | 0, listed, is => is.isEmpty && (Region.ready md ops listed).isEmpty
  | _ + 1, listed, [] => (Region.ready md ops listed).isEmpty
  | fuel + 1, listed, i :: is => (Region.ready md ops listed == [i]) && (!N.contains i && chainB md ops N fuel (listed.setIfInBounds i true) is)
theorem wpAnyU_chain : ∀ (fuel : Nat) (listed : Array Bool) (is : List Nat) (a : Act) (w : World), chainB md ops N fuel listed is = true → wpOps P ops Q is a w → wpAnyU P md ops Q S N fuel listed a w
  | 0, listed, is, a, w, hc, h => by
    simp only [chainB, Bool.and_eq_true, List.isEmpty_iff] at hc
    obtain ⟨rfl, h2⟩ := hc
    exact ⟨h2, h⟩
  | fuel + 1, listed, [], a, w, hc, h => by
    simp only [chainB, List.isEmpty_iff] at hc
    exact ⟨fun _ => h, by rw [hc]; simp⟩
  | fuel + 1, listed, i :: is, a, w, hc, h => by
    simp only [chainB, Bool.and_eq_true, beq_iff_eq, Bool.not_eq_true'] at hc
    obtain ⟨h1, h2, h3⟩ := hc
    refine ⟨fun h0 => (by rw [h0] at h1; cases h1), fun j hj => ?_⟩
    rw [h1] at hj
    have hji : j = i := by simpa using hj
    subst hji
    rw [wpOps_cons] at h
    refine wpOp_mono (fun a' w' h' => ⟨fun hn => (by rw [h2] at hn; cases hn), wpAnyU_chain fuel _ is a' w' h3 h'⟩) h

/-! ### the same over a list that is written out -/
theorem take (X : List Nat) {l : List Oper} {i : Nat} {oi : Oper} {v : Value} {fuel : Nat} {listed : Array Bool} {a : Act} {w : World} (hi : l[i]? = some oi) (hsz : listed.size = l.toArray.size)
    (hL : waitB md l.toArray N listed i X = true) (hs : Region.noSelect l.toArray = true) (hf : Region.free md l.toArray listed i = true) (hr : (Region.ready md l.toArray listed).contains i = true)
    (hQ : ∀ c a w, Q (.panic c) (a.put oi.dst v) w → Q (.panic c) a w) (hy : YieldsIf P l.toArray S oi v a) (hS : S w)
    (h : wpAnyU P md l.toArray Q S N fuel (listed.setIfInBounds i true) (a.put oi.dst v) w) : wpAnyU P md l.toArray Q S N (fuel + 1) listed a w :=
  wpAnyU_take X (by simpa using hi) hsz hL hs hf hr hQ hy hS h
theorem one {l : List Oper} {i : Nat} {o : Oper} {fuel : Nat} {listed : Array Bool} {a : Act} {w : World} (hr : Region.ready md l.toArray listed = [i]) (ho : l[i]? = some o)
    (h : ∀ K' : Act → World → Prop, Shut (∀ a w, S w → (S w → wpAnyU P md l.toArray Q S N fuel (listed.setIfInBounds i true) a w) → K' a w) → if Region.wanted o (yielded l.toArray a.tmps) = true then Oper.wp P o a w K' Q else K' (a.put o.dst undef) w) : wpAnyU P md l.toArray Q S N (fuel + 1) listed a w :=
  wpAnyU_one hr (by simpa using ho) (fun K hK => h K (fun a w hS hW => hK a w hS (hW hS)))
theorem two {l : List Oper} {i j : Nat} {o o2 : Oper} {fuel : Nat} {listed : Array Bool} {a : Act} {w : World} (hr : Region.ready md l.toArray listed = [i, j]) (ho : l[i]? = some o) (ho2 : l[j]? = some o2)
    (h : ∀ K' : Act → World → Prop, Shut (∀ a w, S w → (S w → wpAnyU P md l.toArray Q S N fuel (listed.setIfInBounds i true) a w) → K' a w) → if Region.wanted o (yielded l.toArray a.tmps) = true then Oper.wp P o a w K' Q else K' (a.put o.dst undef) w)
    (h2 : ∀ K' : Act → World → Prop, Shut (∀ a w, S w → (S w → wpAnyU P md l.toArray Q S N fuel (listed.setIfInBounds j true) a w) → K' a w) → if Region.wanted o2 (yielded l.toArray a.tmps) = true then Oper.wp P o2 a w K' Q else K' (a.put o2.dst undef) w) : wpAnyU P md l.toArray Q S N (fuel + 1) listed a w :=
  wpAnyU_two hr (by simpa using ho) (by simpa using ho2) (fun K hK => h K (fun a w hS hW => hK a w hS (hW hS))) (fun K hK => h2 K (fun a w hS hW => hK a w hS (hW hS)))
theorem wpOps_list {l : List Oper} : ∀ (is : List Nat) (k : List Oper), is.map (fun i => l[i]?) = k.map some → wpOps P l.toArray Q is = wpList P l.toArray Q k
  | [], [], _ => by funext a w; simp [wpOps, wpList]
  | [], _ :: _, h => by cases h
  | _ :: _, [], h => by cases h
  | i :: is, o :: k, h => by
    simp only [List.map_cons, List.cons.injEq] at h
    have ih := wpOps_list is k h.2
    have h0 : l.toArray[i]? = some o := by simpa using h.1
    funext a w
    simp only [wpOps, h0, wpList, ih]
theorem rest {l : List Oper} {fuel : Nat} {listed : Array Bool} {a : Act} {w : World} (is : List Nat) (k : List Oper) (hc : chainB md l.toArray N fuel listed is = true) (hk : is.map (fun i => l[i]?) = k.map some)
    (h : wpList P l.toArray Q k a w) : wpAnyU P md l.toArray Q S N fuel listed a w :=
  wpAnyU_chain fuel listed is a w hc (by rw [wpOps_list is k hk]; exact h)
theorem begin {l : List Oper} {id : Nat} {a : Act} {w : World} (hm : P.follows .mixedOrders = true) (hS : S w.drew)
    (h : S w.drew → wpAnyU P .any l.toArray Q S N l.length (Array.replicate l.length false) a w.drew) : (Code.region id l.toArray true).wp P Q a w :=
  wp_region_any hm (wpAny_of_U _ _ _ _ (by simpa using h hS))
/-! ### ahead of S: what reads no memory -/
theorem beginA {l : List Oper} {id : Nat} {a : Act} {w : World} (hm : P.follows .mixedOrders = true) (h : wpAny P .any l.toArray Q l.length (Array.replicate l.length false) a w.drew) : (Code.region id l.toArray true).wp P Q a w :=
  wp_region_any hm (by simpa using h)
theorem takeA {l : List Oper} {i : Nat} {oi : Oper} {v : Value} {fuel : Nat} {listed : Array Bool} {a : Act} {w : World} (hi : l[i]? = some oi) (hs : Region.noSelect l.toArray = true) (hf : Region.free md l.toArray listed i = true) (hr : (Region.ready md l.toArray listed).contains i = true)
    (hQ : ∀ c a w, Q (.panic c) (a.put oi.dst v) w → Q (.panic c) a w) (hy : Yields P l.toArray oi v a) (h : wpAny P md l.toArray Q fuel (listed.setIfInBounds i true) (a.put oi.dst v) w) : wpAny P md l.toArray Q (fuel + 1) listed a w :=
  wpAny_take (by simpa using hi) hs hf hr hQ hy h
theorem toU {l : List Oper} {fuel : Nat} {listed : Array Bool} {a : Act} {w : World} (hS : S w) (h : S w → wpAnyU P md l.toArray Q S N fuel listed a w) : wpAny P md l.toArray Q fuel listed a w := wpAny_of_U _ _ _ _ (h hS)
end
end Go.Proofs.YthbkklnahhdgcaaDoor.RegU

namespace Go.Proofs.YthbkklnahhdgcaaDoor.RegU
open Go Go.RowKit RegT

section
variable {P : Program} {Q : Exit → Act → World → Prop} {md : Region.Mode} {S : World → Prop} {N : List Nat}
theorem tk (X : List Nat) (i : Nat) {l : List Oper} {oi : Oper} {v : Value} {a' : Act} {fuel : Nat} {listed : Array Bool} {a : Act} {w : World} (h : wpAnyU P md l.toArray Q S N fuel (listed.setIfInBounds i true) a' w)
    (hi : l[i]? = some oi := by rfl) (hy : YieldsIf P l.toArray S oi v a := by refine Or.inl ⟨by rfl, ?_⟩; intro w hSw; (try dsimp only at hSw); go_simp; first | done | with_reducible rfl)
    (ha : a.put oi.dst v = a' := by (try simp only [Act.put, List.setIfInBounds_toArray, List.set_cons_zero, List.set_cons_succ]); rfl) (hS : S w := by assumption)
    (hsz : listed.size = l.toArray.size := by kernel_rfl) (hL : waitB md l.toArray N listed i X = true := by kernel_rfl) (hs : Region.noSelect l.toArray = true := by kernel_rfl) (hf : Region.free md l.toArray listed i = true := by kernel_rfl) (hr : (Region.ready md l.toArray listed).contains i = true := by kernel_rfl)
    (hQ : ∀ c a w, Q (.panic c) (a.put oi.dst v) w → Q (.panic c) a w := by exact fun _ _ _ h => h) : wpAnyU P md l.toArray Q S N (fuel + 1) listed a w := by
  subst ha
  exact take X hi hsz hL hs hf hr hQ hy hS h
/-- The same of an operation that is not wanted. -/
theorem tu (X : List Nat) (i : Nat) {l : List Oper} {oi : Oper} {v : Value} {a' : Act} {fuel : Nat} {listed : Array Bool} {a : Act} {w : World} (h : wpAnyU P md l.toArray Q S N fuel (listed.setIfInBounds i true) a' w)
    (hi : l[i]? = some oi := by rfl) (hy : YieldsIf P l.toArray S oi v a := by exact Or.inr ⟨by rfl, rfl⟩)
    (ha : a.put oi.dst v = a' := by (try simp only [Act.put, List.setIfInBounds_toArray, List.set_cons_zero, List.set_cons_succ]); rfl) (hS : S w := by assumption)
    (hsz : listed.size = l.toArray.size := by kernel_rfl) (hL : waitB md l.toArray N listed i X = true := by kernel_rfl) (hs : Region.noSelect l.toArray = true := by kernel_rfl) (hf : Region.free md l.toArray listed i = true := by kernel_rfl) (hr : (Region.ready md l.toArray listed).contains i = true := by kernel_rfl)
    (hQ : ∀ c a w, Q (.panic c) (a.put oi.dst v) w → Q (.panic c) a w := by exact fun _ _ _ h => h) : wpAnyU P md l.toArray Q S N (fuel + 1) listed a w := by
  subst ha
  exact take X hi hsz hL hs hf hr hQ hy hS h
end
end Go.Proofs.YthbkklnahhdgcaaDoor.RegU

namespace Go.Proofs.YthbkklnahhdgcaaDoor.HeapR
open Go Go.RowKit Go.Proofs.YthbkklnahhdgcaaDoor.Lib

/-- A heap as plain data. -/
structure HS where
  nur : List HCell
  old : List HCell
  top : Nat
  room : Nat
  cap : Nat
  most : Nat
  rem : List Int
  wh : DataW Unit
  next : Nat
  minors : Nat
  majors : Nat

/-- The ten cells of the struct. -/
def hblock (nb mb : Nat) (ov rv : Value) (H : HS) : Array Value :=
  #[.slice (some ⟨nb, 0, none⟩) H.room H.cap, ov, .int .i64 H.top, .int .i64 H.room, .int .i64 H.most, rv, .map (some mb), .int .i64 H.next, .int .i64 H.minors, .int .i64 H.majors]

/-- The heap at hb is H; nothing of it lies below B. -/
structure HR (w : World) (hb nb mb : Nat) (ov rv : Value) (B : Nat) (H : HS) : Prop where
  blk : w.heap[hb]? = some (.cells (hblock nb mb ov rv H) 98 (0, 0))
  nur : w.heap[nb]? = some (.cells (hcells H.nur) 105 (0, 0))
  len : H.room ≤ H.nur.length
  old : w.ownsRow B 105 8 ov H.old.length (hvals H.old)
  rem : w.ownsRow B 3 1 rv H.rem.length (H.rem.map (Value.int .i64))
  map : w.ownsMap Tryd.prog 3 (plainElem Tryd.prog 3) mb H.next H.wh
  hn : hb ≠ nb
  oh : ov.ownBlock ≠ some hb
  on : ov.ownBlock ≠ some nb
  rh : rv.ownBlock ≠ some hb
  rn : rv.ownBlock ≠ some nb
  ro : ov.ownBlock = none ∨ ov.ownBlock ≠ rv.ownBlock
  lo : B ≤ hb ∧ B ≤ nb ∧ B ≤ mb
  tr : H.top ≤ H.room
  rr : H.room ≤ 65536
  mm : H.most ≤ 1048576
  om : H.old.length ≤ H.most

/-- The blocks of a heap. -/
def Owns (hb nb mb : Nat) (ov rv : Value) (k : Nat) : Prop := k = hb ∨ k = nb ∨ k = mb ∨ ov.ownBlock = some k ∨ rv.ownBlock = some k

variable {w w' : World} {hb nb mb : Nat} {ov rv : Value} {B : Nat} {H : HS}

theorem HR.hm (h : HR w hb nb mb ov rv B H) : hb ≠ mb := by
  rintro rfl
  obtain ⟨es, clock, h1, _⟩ := h.map
  rw [h.blk] at h1; cases h1
theorem HR.nm (h : HR w hb nb mb ov rv B H) : nb ≠ mb := by
  rintro rfl
  obtain ⟨es, clock, h1, _⟩ := h.map
  rw [h.nur] at h1; cases h1
theorem HR.om' (h : HR w hb nb mb ov rv B H) : ov.ownBlock ≠ some mb := by
  intro e
  obtain ⟨es, clock, h1, _⟩ := h.map
  rcases h.old.2 with ⟨h2, _⟩ | ⟨g, cap, cur, h2, _, h3, _⟩
  · subst h2; simp [Value.ownBlock] at e
  · subst h2
    simp [Value.ownBlock] at e
    subst e
    rw [h3] at h1; cases h1
theorem HR.rm (h : HR w hb nb mb ov rv B H) : rv.ownBlock ≠ some mb := by
  intro e
  obtain ⟨es, clock, h1, _⟩ := h.map
  rcases h.rem.2 with ⟨h2, _⟩ | ⟨g, cap, cur, h2, _, h3, _⟩
  · subst h2; simp [Value.ownBlock] at e
  · subst h2
    simp [Value.ownBlock] at e
    subst e
    rw [h3] at h1; cases h1
theorem ownsRow_same {w w' : World} {base e size n : Nat} {v : Value} {xs : List Value} (h : w.ownsRow base e size v n xs) (hs : ∀ k, v.ownBlock = some k → w'.heap[k]? = w.heap[k]?) : w'.ownsRow base e size v n xs := by
  refine ⟨h.1, ?_⟩
  rcases h.2 with hn | ⟨g, cap, cur, rfl, hb, hg, rest⟩
  · exact .inl hn
  · exact .inr ⟨g, cap, cur, rfl, hb, by rw [hs g rfl]; exact hg, rest⟩
theorem HR.lt (h : HR w hb nb mb ov rv B H) {k : Nat} (hk : Owns hb nb mb ov rv k) : k < w.heap.size := by
  rcases hk with rfl | rfl | rfl | hk | hk
  · exact lt_of_block h.blk
  · exact lt_of_block h.nur
  · exact h.map.lt
  · exact (h.old.lt k hk).2
  · exact (h.rem.lt k hk).2
theorem HR.ge (h : HR w hb nb mb ov rv B H) {k : Nat} (hk : Owns hb nb mb ov rv k) : B ≤ k := by
  rcases hk with rfl | rfl | rfl | hk | hk
  · exact h.lo.1
  · exact h.lo.2.1
  · exact h.lo.2.2
  · exact (h.old.lt k hk).1
  · exact (h.rem.lt k hk).1
theorem HR.same (h : HR w hb nb mb ov rv B H) (hs : ∀ k, Owns hb nb mb ov rv k → w'.heap[k]? = w.heap[k]?) : HR w' hb nb mb ov rv B H := by
  refine { h with blk := ?_, nur := ?_, old := ?_, rem := ?_, map := ?_ }
  · rw [hs _ (.inl rfl)]; exact h.blk
  · rw [hs _ (.inr (.inl rfl))]; exact h.nur
  · exact ownsRow_same h.old fun k hk => hs k (.inr (.inr (.inr (.inl hk))))
  · exact ownsRow_same h.rem fun k hk => hs k (.inr (.inr (.inr (.inr hk))))
  · obtain ⟨es, clock, h1, r⟩ := h.map
    exact ⟨es, clock, by rw [hs mb (.inr (.inr (.inl rfl)))]; exact h1, r⟩
theorem HR.turned {S : Nat → Prop} (h : HR w hb nb mb ov rv B H) (ht : Turned S w w') (hs : ∀ k, Owns hb nb mb ov rv k → ¬ S k) : HR w' hb nb mb ov rv B H :=
  h.same fun k hk => ht.block k (h.lt hk) (hs k hk)
theorem HR.below (h : HR w hb nb mb ov rv B H) (ht : Below w.heap.size w w') : HR w' hb nb mb ov rv B H :=
  h.same fun k hk => ht.block k (h.lt hk)
theorem HR.drewN (h : HR w hb nb mb ov rv B H) (n : Nat) : HR (w.drewN n) hb nb mb ov rv B H := h.same fun _ _ => rfl

/-! ### the struct's cells -/
theorem HR.c0 (h : HR w hb nb mb ov rv B H) : w.cell? ⟨hb, 0, none⟩ = some (.slice (some ⟨nb, 0, none⟩) H.room H.cap) := cell_of_block h.blk rfl
theorem HR.c1 (h : HR w hb nb mb ov rv B H) : w.cell? ⟨hb, 1, none⟩ = some ov := cell_of_block h.blk rfl
theorem HR.c2 (h : HR w hb nb mb ov rv B H) : w.cell? ⟨hb, 2, none⟩ = some (.int .i64 H.top) := cell_of_block h.blk rfl
theorem HR.c3 (h : HR w hb nb mb ov rv B H) : w.cell? ⟨hb, 3, none⟩ = some (.int .i64 H.room) := cell_of_block h.blk rfl
theorem HR.c4 (h : HR w hb nb mb ov rv B H) : w.cell? ⟨hb, 4, none⟩ = some (.int .i64 H.most) := cell_of_block h.blk rfl
theorem HR.c5 (h : HR w hb nb mb ov rv B H) : w.cell? ⟨hb, 5, none⟩ = some rv := cell_of_block h.blk rfl
theorem HR.c6 (h : HR w hb nb mb ov rv B H) : w.cell? ⟨hb, 6, none⟩ = some (.map (some mb)) := cell_of_block h.blk rfl
theorem HR.c7 (h : HR w hb nb mb ov rv B H) : w.cell? ⟨hb, 7, none⟩ = some (.int .i64 H.next) := cell_of_block h.blk rfl
theorem HR.c8 (h : HR w hb nb mb ov rv B H) : w.cell? ⟨hb, 8, none⟩ = some (.int .i64 H.minors) := cell_of_block h.blk rfl
theorem HR.c9 (h : HR w hb nb mb ov rv B H) : w.cell? ⟨hb, 9, none⟩ = some (.int .i64 H.majors) := cell_of_block h.blk rfl
theorem HR.fz (h : HR w hb nb mb ov rv B H) (i : Nat) : w.frozen? ⟨hb, i, none⟩ = false := frozen_of_block h.blk
theorem HR.fn (h : HR w hb nb mb ov rv B H) (i : Nat) : w.frozen? ⟨nb, i, none⟩ = false := frozen_of_block h.nur
theorem HR.ncell (h : HR w hb nb mb ov rv B H) (i j : Nat) (c : HCell) (hc : H.nur[i]? = some c) (hj : j < 8) : w.cell? ⟨nb, i * 8 + j, none⟩ = c.vals[j]? := by
  have e := hcells_get H.nur i j c hc hj
  rw [World.cell?, h.nur]
  simpa using e

end Go.Proofs.YthbkklnahhdgcaaDoor.HeapR
