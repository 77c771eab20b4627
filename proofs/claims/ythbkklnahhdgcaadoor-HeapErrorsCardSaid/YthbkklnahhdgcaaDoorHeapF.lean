/-
  Package heap's Alloc over a heap as plain data: where there is room.
-/
import Derived.Test.YthbkklnahhdgcaaDoorHeapE
namespace Go.Proofs.YthbkklnahhdgcaaDoor.HeapF
open Go Go.RowKit Go.Maps Go.Proofs.YthbkklnahhdgcaaDoor.Lib Go.Proofs.YthbkklnahhdgcaaDoor.HeapR Go.Proofs.YthbkklnahhdgcaaDoor.HeapC

theorem grown_some {w w' : World} {r : Option Nat} (h : w.grownBy w' r) {k : Nat} {o : Obj} (hk : some k ≠ r) (ho : w.heap[k]? = some o) : w'.heap[k]? = some o :=
  (h.block k (lt_of_block ho) hk).trans ho
theorem ownsMap_same {w w' : World} {P : Program} {k : TypeId} {R : Value → Option (DataW Unit × List MemPlace)} {b n : Nat} {D : DataW Unit} (h : w.ownsMap P k R b n D) (e : w'.heap[b]? = w.heap[b]?) : w'.ownsMap P k R b n D := by
  obtain ⟨es, clock, h1, r⟩ := h
  exact ⟨es, clock, e.trans h1, r⟩

/-- Cells are empty from some place on. -/
def zeros (l : List HCell) (at_ : Nat) : Nat → List HCell
  | 0 => l
  | n + 1 => (zeros l at_ n).set (at_ + n) HCell.zero
theorem length_zeros (l : List HCell) (a n : Nat) : (zeros l a n).length = l.length := by
  induction n with
  | zero => rfl
  | succ n ih => simp [zeros, ih]

/-- What eight stores into a row of cells make. -/
theorem store8 {w : World} {nb i : Nat} {L : List HCell} (h : w.heap[nb]? = some (.cells (hcells L) 105 (0, 0))) (hi : i < L.length) (c : HCell) :
    ((((((((w.setCell ⟨nb, i * 8, none⟩ (.int .i64 c.kind)).setCell ⟨nb, i * 8 + 1, none⟩ (.int .i64 c.tag)).setCell ⟨nb, i * 8 + 2, none⟩ (.int .i64 c.id)).setCell ⟨nb, i * 8 + 3, none⟩ (.int .i64 c.size)).setCell ⟨nb, i * 8 + 4, none⟩ (.int .i64 c.vk)).setCell ⟨nb, i * 8 + 5, none⟩ (.int .i64 c.vn)).setCell ⟨nb, i * 8 + 6, none⟩ (.string c.vs)).setCell ⟨nb, i * 8 + 7, none⟩ (.int .i64 c.moved)).heap[nb]? = some (.cells (hcells (L.set i c)) 105 (0, 0)) := by
  rw [blk_set (blk_set (blk_set (blk_set (blk_set (blk_set (blk_set (blk_set h _) _) _) _) _) _) _) _]
  rw [hcells_set L i c hi]
theorem store8_ne {w : World} {nb i k : Nat} (hk : k ≠ nb) (a0 a1 a2 a3 a4 a5 a6 a7 : Value) :
    ((((((((w.setCell ⟨nb, i * 8, none⟩ a0).setCell ⟨nb, i * 8 + 1, none⟩ a1).setCell ⟨nb, i * 8 + 2, none⟩ a2).setCell ⟨nb, i * 8 + 3, none⟩ a3).setCell ⟨nb, i * 8 + 4, none⟩ a4).setCell ⟨nb, i * 8 + 5, none⟩ a5).setCell ⟨nb, i * 8 + 6, none⟩ a6).setCell ⟨nb, i * 8 + 7, none⟩ a7).heap[k]? = w.heap[k]? := by
  simp only [World.setCell, Array.getElem?_modify]
  simp [Ne.symm hk]
/-- w' is w but for the row nb; no block is new. -/
structure Only (nb : Nat) (w w' : World) : Prop where
  os : w'.os = w.os
  tape : w'.tape = w.tape
  output : w'.output = w.output
  size : w'.heap.size = w.heap.size
  block : ∀ k, k ≠ nb → w'.heap[k]? = w.heap[k]?
theorem Only.refl (nb : Nat) (w : World) : Only nb w w := ⟨rfl, rfl, rfl, rfl, fun _ _ => rfl⟩
theorem Only.trans {nb : Nat} {a b c : World} (h : Only nb a b) (k : Only nb b c) : Only nb a c :=
  ⟨k.os.trans h.os, k.tape.trans h.tape, k.output.trans h.output, k.size.trans h.size, fun i hi => (k.block i hi).trans (h.block i hi)⟩
theorem Only.setCell {nb : Nat} {a b : World} (h : Only nb a b) (o : Nat) (v : Value) : Only nb a (b.setCell ⟨nb, o, none⟩ v) :=
  ⟨h.os, h.tape, h.output, by rw [World.size_setCell]; exact h.size, fun k hk => (blk_ne (by simpa using hk)).trans (h.block k hk)⟩
theorem only8 {w : World} {nb i : Nat} (a0 a1 a2 a3 a4 a5 a6 a7 : Value) :
    Only nb w ((((((((w.setCell ⟨nb, i * 8, none⟩ a0).setCell ⟨nb, i * 8 + 1, none⟩ a1).setCell ⟨nb, i * 8 + 2, none⟩ a2).setCell ⟨nb, i * 8 + 3, none⟩ a3).setCell ⟨nb, i * 8 + 4, none⟩ a4).setCell ⟨nb, i * 8 + 5, none⟩ a5).setCell ⟨nb, i * 8 + 6, none⟩ a6).setCell ⟨nb, i * 8 + 7, none⟩ a7) :=
  (((((((((Only.refl nb w).setCell _ _).setCell _ _).setCell _ _).setCell _ _).setCell _ _).setCell _ _).setCell _ _).setCell _ _)

/-- The nursery's cells are there. -/
theorem cells8 {w : World} {nb : Nat} {L : List HCell} (h : w.heap[nb]? = some (.cells (hcells L) 105 (0, 0))) (i : Nat) (hi : i < L.length) :
    ∃ v0 v1 v2 v3 v4 v5 v6 v7, w.cell? ⟨nb, i * 8, none⟩ = some v0 ∧ w.cell? ⟨nb, i * 8 + 1, none⟩ = some v1 ∧ w.cell? ⟨nb, i * 8 + 2, none⟩ = some v2 ∧ w.cell? ⟨nb, i * 8 + 3, none⟩ = some v3 ∧ w.cell? ⟨nb, i * 8 + 4, none⟩ = some v4 ∧ w.cell? ⟨nb, i * 8 + 5, none⟩ = some v5 ∧ w.cell? ⟨nb, i * 8 + 6, none⟩ = some v6 ∧ w.cell? ⟨nb, i * 8 + 7, none⟩ = some v7 := by
  have hc : L[i]? = some L[i] := List.getElem?_eq_getElem hi
  have g : ∀ j, j < 8 → w.cell? ⟨nb, i * 8 + j, none⟩ = (L[i]).vals[j]? := fun j hj => by
    have e := hcells_get L i j _ hc hj
    rw [World.cell?, h]; simpa using e
  exact ⟨_, _, _, _, _, _, _, _, g 0 (by omega), g 1 (by omega), g 2 (by omega), g 3 (by omega), g 4 (by omega), g 5 (by omega), g 6 (by omega), g 7 (by omega)⟩

variable {w : World} {hb nb mb : Nat} {ov rv : Value} {B : Nat} {H : HS}
end Go.Proofs.YthbkklnahhdgcaaDoor.HeapF
