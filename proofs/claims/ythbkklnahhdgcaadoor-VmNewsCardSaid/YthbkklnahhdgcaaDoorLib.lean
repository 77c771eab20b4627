/-
  Words of our own for all walks of this seat: what package heap's memory holds, as plain data; which blocks of a world have turned. No program in sight.
-/
import Derived.WalkKit
import Derived.Maps.Own
import Derived.Deep.QuietTactic
namespace Go.Proofs.YthbkklnahhdgcaaDoor.Lib
open Go Go.RowKit

/-! ### worlds -/
/-- w' is w but for the blocks of S, and new ones. -/
structure Turned (S : Nat → Prop) (w w' : World) : Prop where
  os : w'.os = w.os
  tape : w'.tape = w.tape
  output : w'.output = w.output
  size : w.heap.size ≤ w'.heap.size
  block : ∀ k, k < w.heap.size → ¬ S k → w'.heap[k]? = w.heap[k]?

theorem Turned.refl (S : Nat → Prop) (w : World) : Turned S w w := ⟨rfl, rfl, rfl, Nat.le_refl _, fun _ _ _ => rfl⟩
theorem Turned.trans {S : Nat → Prop} {a b c : World} (h : Turned S a b) (k : Turned S b c) : Turned S a c :=
  ⟨k.os.trans h.os, k.tape.trans h.tape, k.output.trans h.output, Nat.le_trans h.size k.size, fun i hi hs => (k.block i (Nat.lt_of_lt_of_le hi h.size) hs).trans (h.block i hi hs)⟩
theorem Turned.mono {S T : Nat → Prop} {a b : World} (h : Turned S a b) (hs : ∀ k, S k → T k) : Turned T a b :=
  ⟨h.os, h.tape, h.output, h.size, fun i hi ht => h.block i hi (fun hS => ht (hs i hS))⟩
theorem Turned.drewN {S : Nat → Prop} {a b : World} (h : Turned S a b) (n : Nat) : Turned S a (b.drewN n) := ⟨h.os, h.tape, h.output, h.size, h.block⟩
theorem Turned.drew {S : Nat → Prop} {a b : World} (h : Turned S a b) : Turned S a b.drew := ⟨h.os, h.tape, h.output, h.size, h.block⟩
theorem Turned.alloc {S : Nat → Prop} {a b : World} (h : Turned S a b) (o : Obj) : Turned S a (b.alloc o) :=
  h.trans ⟨rfl, rfl, rfl, by simp, fun k hk _ => Below.heap_alloc _ _ _ (by omega)⟩
theorem Turned.setCell {S : Nat → Prop} {a b : World} (h : Turned S a b) {p : Addr} (hp : S p.block ∨ a.heap.size ≤ p.block) (u : Value) : Turned S a (b.setCell p u) :=
  ⟨h.os, h.tape, h.output, by simpa [World.setCell] using h.size, fun k hk hs => (Below.heap_setCell _ _ _ _ (by rintro rfl; rcases hp with hp | hp; exact hs hp; omega)).trans (h.block k hk hs)⟩
theorem Turned.grown {S : Nat → Prop} {a b c : World} {row : Option Nat} (h : Turned S a b) (hg : b.grownBy c row) (hr : ∀ k, row = some k → S k ∨ a.heap.size ≤ k) : Turned S a c :=
  ⟨hg.os.trans h.os, hg.tape.trans h.tape, hg.output.trans h.output, Nat.le_trans h.size hg.size, fun k hk hs => (hg.block k (Nat.lt_of_lt_of_le hk h.size) (fun e => by rcases hr k e.symm with h1 | h1; exact hs h1; omega)).trans (h.block k hk hs)⟩
theorem Turned.cell {S : Nat → Prop} {a b : World} (h : Turned S a b) {p : Addr} (hp : p.block < a.heap.size) (hs : ¬ S p.block) : b.cell? p = a.cell? p := World.cell?_of_block (h.block _ hp hs)
theorem Turned.below {a b : World} {S : Nat → Prop} {B : Nat} (h : Turned S a b) (hB : B ≤ a.heap.size) (hs : ∀ k, S k → B ≤ k) : Below B a b :=
  ⟨h.os, h.tape, h.output, h.size, fun k hk => h.block k (by omega) (fun hS => by have := hs k hS; omega)⟩
theorem Turned.of_below {a b : World} (S : Nat → Prop) (h : Below a.heap.size a b) : Turned S a b := ⟨h.os, h.tape, h.output, h.size, fun k hk _ => h.block k hk⟩
theorem below_drewN {B : Nat} {a w : World} (h : Below B a w) (n : Nat) : Below B a (w.drewN n) := ⟨h.os, h.tape, h.output, h.size, h.block⟩
theorem bcell {W w1 : World} (hb : Below W.heap.size W w1) : (∀ b o, b < W.heap.size → w1.cell? ⟨b, o, none⟩ = W.cell? ⟨b, o, none⟩) ∧ (∀ b o, b < W.heap.size → w1.frozen? ⟨b, o, none⟩ = W.frozen? ⟨b, o, none⟩) :=
  ⟨fun b o h => hb.cell (p := ⟨b, o, none⟩) h, fun b o h => hb.frozen (p := ⟨b, o, none⟩) h⟩

theorem cell_of_block {w : World} {b i : Nat} {c : Array Value} {t : TypeId} {f : Nat × Nat} {v : Value} (h : w.heap[b]? = some (.cells c t f)) (hv : c[i]? = some v) : w.cell? ⟨b, i, none⟩ = some v := by
  simp [World.cell?, h, hv]
theorem frozen_of_block {w : World} {b i : Nat} {c : Array Value} {t : TypeId} (h : w.heap[b]? = some (.cells c t (0, 0))) : w.frozen? ⟨b, i, none⟩ = false := by
  simp [World.frozen?, h]
theorem blk_set {w : World} {b i : Nat} {c : Array Value} {t : TypeId} {f : Nat × Nat} (h : w.heap[b]? = some (.cells c t f)) (v : Value) : (w.setCell ⟨b, i, none⟩ v).heap[b]? = some (.cells (c.setIfInBounds i v) t f) := by
  simp [World.setCell, Array.getElem?_modify, h]
theorem blk_ne {w : World} {p : Addr} {k : Nat} {v : Value} (h : k ≠ p.block) : (w.setCell p v).heap[k]? = w.heap[k]? := Below.heap_setCell w p v k h
theorem blk_alloc_lt {w : World} {o : Obj} {k : Nat} (h : k < w.heap.size) : (w.alloc o).heap[k]? = w.heap[k]? := Below.heap_alloc w o k h
theorem blk_alloc_at {w : World} {o : Obj} {k : Nat} (h : k = w.heap.size) : (w.alloc o).heap[k]? = some o := by subst h; show (w.heap.push o)[w.heap.size]? = _; simp
theorem blk_drewN {w : World} {n : Nat} : (w.drewN n).heap = w.heap := rfl
theorem lt_of_block {w : World} {b : Nat} {o : Obj} (h : w.heap[b]? = some o) : b < w.heap.size := (Array.getElem?_eq_some_iff.1 h).1

/-! ### the cells of package heap -/
/-- A cell: a head, a value, where an object went. -/
structure HCell where
  kind : Int
  tag : Int
  id : Int
  size : Int
  vk : Int
  vn : Int
  vs : ByteArray
  moved : Int
def HCell.zero : HCell := ⟨0, 0, 0, 0, 0, 0, ByteArray.empty, 0⟩
def HCell.vals (c : HCell) : List Value := [.int .i64 c.kind, .int .i64 c.tag, .int .i64 c.id, .int .i64 c.size, .int .i64 c.vk, .int .i64 c.vn, .string c.vs, .int .i64 c.moved]
def hvals (l : List HCell) : List Value := l.flatMap HCell.vals
def hcells (l : List HCell) : Array Value := (hvals l).toArray

theorem hvals_cons (c : HCell) (l : List HCell) : hvals (c :: l) = c.vals ++ hvals l := rfl
theorem hvals_append (l m : List HCell) : hvals (l ++ m) = hvals l ++ hvals m := by simp [hvals]
theorem length_vals (c : HCell) : c.vals.length = 8 := rfl
theorem length_hvals (l : List HCell) : (hvals l).length = l.length * 8 := by
  induction l with
  | nil => rfl
  | cons c l ih => rw [hvals_cons, List.length_append, length_vals, ih]; simp; omega
theorem hvals_get (l : List HCell) (i j : Nat) (c : HCell) (h : l[i]? = some c) (hj : j < 8) : (hvals l)[i * 8 + j]? = c.vals[j]? := by
  induction l generalizing i with
  | nil => simp at h
  | cons d l ih =>
    cases i with
    | zero =>
      have : d = c := by simpa using h
      subst this
      rw [hvals_cons, List.getElem?_append_left (by rw [length_vals]; omega)]
      simp
    | succ i =>
      rw [hvals_cons, List.getElem?_append_right (by rw [length_vals]; omega), length_vals]
      have e : (i + 1) * 8 + j - 8 = i * 8 + j := by omega
      rw [e]
      exact ih i (by simpa using h)
theorem hcells_get (l : List HCell) (i j : Nat) (c : HCell) (h : l[i]? = some c) (hj : j < 8) : (hcells l)[i * 8 + j]? = c.vals[j]? := by
  simp only [hcells, List.getElem?_toArray]; exact hvals_get l i j c h hj
theorem hvals_set (l : List HCell) (i : Nat) (c : HCell) (h : i < l.length) :
    ((((((((hvals l).set (i * 8) (.int .i64 c.kind)).set (i * 8 + 1) (.int .i64 c.tag)).set (i * 8 + 2) (.int .i64 c.id)).set (i * 8 + 3) (.int .i64 c.size)).set (i * 8 + 4) (.int .i64 c.vk)).set (i * 8 + 5) (.int .i64 c.vn)).set (i * 8 + 6) (.string c.vs)).set (i * 8 + 7) (.int .i64 c.moved) = hvals (l.set i c) := by
  induction l generalizing i with
  | nil => simp at h
  | cons d l ih =>
    cases i with
    | zero => simp [hvals_cons, HCell.vals]
    | succ i =>
      have hi : i < l.length := by simpa using h
      have e : ∀ (m : List Value) (j : Nat) (v : Value), (d.vals ++ m).set ((i + 1) * 8 + j) v = d.vals ++ m.set (i * 8 + j) v := fun m j v => by
        rw [List.set_append_right _ _ (by rw [length_vals]; omega), length_vals]
        congr 2
        omega
      have e0 : ∀ (m : List Value) (v : Value), (d.vals ++ m).set ((i + 1) * 8) v = d.vals ++ m.set (i * 8) v := fun m v => by
        have := e m 0 v; simpa using this
      rw [List.set_cons_succ, hvals_cons, hvals_cons, e0, e, e, e, e, e, e, e, ih i hi]

theorem hcells_set (l : List HCell) (i : Nat) (c : HCell) (h : i < l.length) :
    ((((((((hcells l).setIfInBounds (i * 8) (.int .i64 c.kind)).setIfInBounds (i * 8 + 1) (.int .i64 c.tag)).setIfInBounds (i * 8 + 2) (.int .i64 c.id)).setIfInBounds (i * 8 + 3) (.int .i64 c.size)).setIfInBounds (i * 8 + 4) (.int .i64 c.vk)).setIfInBounds (i * 8 + 5) (.int .i64 c.vn)).setIfInBounds (i * 8 + 6) (.string c.vs)).setIfInBounds (i * 8 + 7) (.int .i64 c.moved) = hcells (l.set i c) := by
  simp only [hcells, List.setIfInBounds_toArray]
  rw [hvals_set l i c h]

theorem hvals_set3 (l : List HCell) (i : Nat) (vk vn : Int) (vs : ByteArray) (h : i < l.length) :
    (((hvals l).set (i * 8 + 4) (.int .i64 vk)).set (i * 8 + 4 + 1) (.int .i64 vn)).set (i * 8 + 4 + 2) (.string vs) = hvals (l.modify i fun d => { d with vk := vk, vn := vn, vs := vs }) := by
  induction l generalizing i with
  | nil => simp at h
  | cons d l ih =>
    cases i with
    | zero => simp [hvals_cons, HCell.vals]
    | succ i =>
      have hi : i < l.length := by simpa using h
      have e : ∀ (m : List Value) (j : Nat) (v : Value), (d.vals ++ m).set ((i + 1) * 8 + j) v = d.vals ++ m.set (i * 8 + j) v := fun m j v => by
        rw [List.set_append_right _ _ (by rw [length_vals]; omega), length_vals]
        congr 2
        omega
      rw [Nat.add_assoc, Nat.add_assoc, List.modify_succ_cons, hvals_cons, hvals_cons, e, e, e]
      have := ih i hi
      rw [Nat.add_assoc, Nat.add_assoc] at this
      rw [this]
theorem hcells_set3 (l : List HCell) (i : Nat) (vk vn : Int) (vs : ByteArray) (h : i < l.length) :
    (((hcells l).setIfInBounds (i * 8 + 4) (.int .i64 vk)).setIfInBounds (i * 8 + 4 + 1) (.int .i64 vn)).setIfInBounds (i * 8 + 4 + 2) (.string vs) = hcells (l.modify i fun d => { d with vk := vk, vn := vn, vs := vs }) := by
  simp only [hcells, List.setIfInBounds_toArray]
  rw [hvals_set3 l i vk vn vs h]

end Go.Proofs.YthbkklnahhdgcaaDoor.Lib
