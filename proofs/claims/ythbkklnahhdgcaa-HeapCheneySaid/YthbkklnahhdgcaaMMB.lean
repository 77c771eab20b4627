/-
  Package heap's Alloc over a heap as plain data.
-/
import Derived.Test.YthbkklnahhdgcaaMHeapC
import Derived.Maps.OwnOps
import Derived.Test.YthbkklnahhdgcaaMMA
import Derived.Laws.MakeOwn
import Derived.BigQuiet
namespace Go.Proofs.Ythbkklnahhdgcaa.HeapE
open Go Go.RowKit Go.Maps Go.Proofs.Ythbkklnahhdgcaa.Lib Go.Proofs.Ythbkklnahhdgcaa.HeapR Go.Proofs.Ythbkklnahhdgcaa.HeapC

variable {w : World} {hb nb mb : Nat} {ov rv : Value} {B : Nat} {H : HS}

set_option maxRecDepth 100000 in
set_option maxHeartbeats 1000000 in
theorem alloc_bad (kind tag size : Int) (a : Addr) (w : World) (h : kind < 1 ∨ 4 < kind ∨ size < 0 ∨ 1000 < size) :
    Calls Try.prog 6 #[.pointer (some a), .int .i64 kind, .int .i64 tag, .int .i64 size] w fun e w' => e = .returned (.tuple #[.int .i64 0, .iface 45 (.int .i64 1)]) ∧ w' = w := by
  rcases Int.lt_or_le kind 1 with h1 | h1
  · have g1 : decide (kind < 1) = true := by simpa using h1
    go_enter Try.func6, Try.ntmps6
    go_wp2
    go_ret2
    exact ⟨rfl, rfl⟩
  have g1 : decide (kind < 1) = false := by simpa using h1
  rcases Int.lt_or_le 4 kind with h2 | h2
  · have g2 : decide (4 < kind) = true := by simpa using h2
    go_enter Try.func6, Try.ntmps6
    go_wp2
    go_ret2
    exact ⟨rfl, rfl⟩
  have g2 : decide (4 < kind) = false := by simpa using h2
  rcases Int.lt_or_le size 0 with h3 | h3
  · have g3 : decide (size < 0) = true := by simpa using h3
    go_enter Try.func6, Try.ntmps6
    go_wp2
    go_ret2
    exact ⟨rfl, rfl⟩
  have g3 : decide (size < 0) = false := by simpa using h3
  have h4 : 1000 < size := by omega
  have g4 : decide (1000 < size) = true := by simpa using h4
  go_enter Try.func6, Try.ntmps6
  go_wp2
  go_ret2
  exact ⟨rfl, rfl⟩

set_option maxRecDepth 100000 in
set_option maxHeartbeats 1000000 in
theorem alloc_full (hb : Nat) (top room kind tag size : Int) (w : World)
    (c2 : w.cell? ⟨hb, 2, none⟩ = some (.int .i64 top)) (c3 : w.cell? ⟨hb, 3, none⟩ = some (.int .i64 room))
    (h1 : 1 ≤ kind) (h2 : kind ≤ 4) (h3 : 0 ≤ size) (h4 : size ≤ 1000) (ht : 0 ≤ top) (ht2 : top ≤ 65536) (hf : room < top + 1 + size) :
    Calls Try.prog 6 #[.pointer (some ⟨hb, 0, none⟩), .int .i64 kind, .int .i64 tag, .int .i64 size] w fun e w' => e = .returned (.tuple #[.int .i64 0, .iface 45 (.int .i64 12)]) ∧ ∃ n, w' = w.drewN n := by
  have g1 : decide (kind < 1) = false := by simpa using h1
  have g2 : decide (4 < kind) = false := by simpa using h2
  have g3 : decide (size < 0) = false := by simpa using h3
  have g4 : decide (1000 < size) = false := by simpa using h4
  have g5 : decide (room < top + 1 + size) = true := by simpa using hf
  go_enter Try.func6, Try.ntmps6
  go_wp2_with fail
  go_quiet (fail)
  go_wp2
  go_ret2
  exact ⟨rfl, _, rfl⟩
end Go.Proofs.Ythbkklnahhdgcaa.HeapE

/-
  Package heap's Alloc over a heap as plain data: where there is room.
-/
namespace Go.Proofs.Ythbkklnahhdgcaa.HeapF
open Go Go.RowKit Go.Maps Go.Proofs.Ythbkklnahhdgcaa.Lib Go.Proofs.Ythbkklnahhdgcaa.HeapR Go.Proofs.Ythbkklnahhdgcaa.HeapC

theorem grown_some {w w' : World} {r : Option Nat} (h : w.grownBy w' r) {k : Nat} {o : Obj} (hk : some k ≠ r) (ho : w.heap[k]? = some o) : w'.heap[k]? = some o :=
  (h.block k (lt_of_block ho) hk).trans ho
theorem ownsMap_same {w w' : World} {P : Program} {k : TypeId} {R : Value → Option (DataW Unit × List MemPlace)} {b n : Nat} {D : DataW Unit} (h : w.ownsMap P k R b n D) (e : w'.heap[b]? = w.heap[b]?) : w'.ownsMap P k R b n D := by
  obtain ⟨es, clock, h1, r⟩ := h
  exact ⟨es, clock, e.trans h1, r⟩

/-- Cells are empty from some place on. -/
def zeros (l : List HCell) (at_ : Nat) : Nat → List HCell
  | 0 => l
  | n + 1 => (zeros l at_ n).set (at_ + n) HCell.zero
theorem length_zeros (l : List HCell) (a n : Nat) : (zeros l a n).length = l.length := by
  induction n with
  | zero => rfl
  | succ n ih => simp [zeros, ih]

/-- What eight stores into a row of cells make. -/
theorem store8 {w : World} {nb i : Nat} {L : List HCell} (h : w.heap[nb]? = some (.cells (hcells L) 55 (0, 0))) (hi : i < L.length) (c : HCell) :
    ((((((((w.setCell ⟨nb, i * 8, none⟩ (.int .i64 c.kind)).setCell ⟨nb, i * 8 + 1, none⟩ (.int .i64 c.tag)).setCell ⟨nb, i * 8 + 2, none⟩ (.int .i64 c.id)).setCell ⟨nb, i * 8 + 3, none⟩ (.int .i64 c.size)).setCell ⟨nb, i * 8 + 4, none⟩ (.int .i64 c.vk)).setCell ⟨nb, i * 8 + 5, none⟩ (.int .i64 c.vn)).setCell ⟨nb, i * 8 + 6, none⟩ (.string c.vs)).setCell ⟨nb, i * 8 + 7, none⟩ (.int .i64 c.moved)).heap[nb]? = some (.cells (hcells (L.set i c)) 55 (0, 0)) := by
  rw [blk_set (blk_set (blk_set (blk_set (blk_set (blk_set (blk_set (blk_set h _) _) _) _) _) _) _) _]
  rw [hcells_set L i c hi]
theorem store8_ne {w : World} {nb i k : Nat} (hk : k ≠ nb) (a0 a1 a2 a3 a4 a5 a6 a7 : Value) :
    ((((((((w.setCell ⟨nb, i * 8, none⟩ a0).setCell ⟨nb, i * 8 + 1, none⟩ a1).setCell ⟨nb, i * 8 + 2, none⟩ a2).setCell ⟨nb, i * 8 + 3, none⟩ a3).setCell ⟨nb, i * 8 + 4, none⟩ a4).setCell ⟨nb, i * 8 + 5, none⟩ a5).setCell ⟨nb, i * 8 + 6, none⟩ a6).setCell ⟨nb, i * 8 + 7, none⟩ a7).heap[k]? = w.heap[k]? := by
  simp only [World.setCell, Array.getElem?_modify]
  simp [Ne.symm hk]
/-- w' is w but for the row nb; no block is new. -/
structure Only (nb : Nat) (w w' : World) : Prop where
  os : w'.os = w.os
  tape : w'.tape = w.tape
  output : w'.output = w.output
  size : w'.heap.size = w.heap.size
  block : ∀ k, k ≠ nb → w'.heap[k]? = w.heap[k]?
theorem Only.refl (nb : Nat) (w : World) : Only nb w w := ⟨rfl, rfl, rfl, rfl, fun _ _ => rfl⟩
theorem Only.trans {nb : Nat} {a b c : World} (h : Only nb a b) (k : Only nb b c) : Only nb a c :=
  ⟨k.os.trans h.os, k.tape.trans h.tape, k.output.trans h.output, k.size.trans h.size, fun i hi => (k.block i hi).trans (h.block i hi)⟩
theorem Only.setCell {nb : Nat} {a b : World} (h : Only nb a b) (o : Nat) (v : Value) : Only nb a (b.setCell ⟨nb, o, none⟩ v) :=
  ⟨h.os, h.tape, h.output, by rw [World.size_setCell]; exact h.size, fun k hk => (blk_ne (by simpa using hk)).trans (h.block k hk)⟩
theorem only8 {w : World} {nb i : Nat} (a0 a1 a2 a3 a4 a5 a6 a7 : Value) :
    Only nb w ((((((((w.setCell ⟨nb, i * 8, none⟩ a0).setCell ⟨nb, i * 8 + 1, none⟩ a1).setCell ⟨nb, i * 8 + 2, none⟩ a2).setCell ⟨nb, i * 8 + 3, none⟩ a3).setCell ⟨nb, i * 8 + 4, none⟩ a4).setCell ⟨nb, i * 8 + 5, none⟩ a5).setCell ⟨nb, i * 8 + 6, none⟩ a6).setCell ⟨nb, i * 8 + 7, none⟩ a7) :=
  (((((((((Only.refl nb w).setCell _ _).setCell _ _).setCell _ _).setCell _ _).setCell _ _).setCell _ _).setCell _ _).setCell _ _)

/-- The nursery's cells are there. -/
theorem cells8 {w : World} {nb : Nat} {L : List HCell} (h : w.heap[nb]? = some (.cells (hcells L) 55 (0, 0))) (i : Nat) (hi : i < L.length) :
    ∃ v0 v1 v2 v3 v4 v5 v6 v7, w.cell? ⟨nb, i * 8, none⟩ = some v0 ∧ w.cell? ⟨nb, i * 8 + 1, none⟩ = some v1 ∧ w.cell? ⟨nb, i * 8 + 2, none⟩ = some v2 ∧ w.cell? ⟨nb, i * 8 + 3, none⟩ = some v3 ∧ w.cell? ⟨nb, i * 8 + 4, none⟩ = some v4 ∧ w.cell? ⟨nb, i * 8 + 5, none⟩ = some v5 ∧ w.cell? ⟨nb, i * 8 + 6, none⟩ = some v6 ∧ w.cell? ⟨nb, i * 8 + 7, none⟩ = some v7 := by
  have hc : L[i]? = some L[i] := List.getElem?_eq_getElem hi
  have g : ∀ j, j < 8 → w.cell? ⟨nb, i * 8 + j, none⟩ = (L[i]).vals[j]? := fun j hj => by
    have e := hcells_get L i j _ hc hj
    rw [World.cell?, h]; simpa using e
  exact ⟨_, _, _, _, _, _, _, _, g 0 (by omega), g 1 (by omega), g 2 (by omega), g 3 (by omega), g 4 (by omega), g 5 (by omega), g 6 (by omega), g 7 (by omega)⟩

variable {w : World} {hb nb mb : Nat} {ov rv : Value} {B : Nat} {H : HS}
end Go.Proofs.Ythbkklnahhdgcaa.HeapF

/-
  Package heap's New: its two ways.
-/
namespace Go.Proofs.Ythbkklnahhdgcaa.HeapB
open Go Go.RowKit Go.Proofs.Ythbkklnahhdgcaa.Lib Go.Proofs.Ythbkklnahhdgcaa.HeapR

theorem infoCell : (Try.prog.info? 55).map (fun i => (i.zero, i.size, i.bytes)) = some (some (.agg #[.int .i64 0, .int .i64 0, .int .i64 0, .int .i64 0, .int .i64 0, .int .i64 0, .string ByteArray.empty, .int .i64 0]), 8, 72) := by kernel_rfl

theorem made_cells (n : Nat) : madeCells (Value.agg #[.int .i64 0, .int .i64 0, .int .i64 0, .int .i64 0, .int .i64 0, .int .i64 0, .string ByteArray.empty, .int .i64 0]).cells (n * 8) = hcells (List.replicate n HCell.zero) := by
  apply Array.ext
  · rw [size_madeCells, hcells, List.size_toArray, length_hvals]; simp
  · intro i h1 h2
    have hi : i < n * 8 := by rw [size_madeCells] at h1; exact h1
    have e : i = i / 8 * 8 + i % 8 := by omega
    have hc : (List.replicate n HCell.zero)[i / 8]? = some HCell.zero := by rw [List.getElem?_replicate, if_pos (by omega)]
    have g := hcells_get _ _ (i % 8) _ hc (by omega)
    rw [← e] at g
    have g2 : (hcells (List.replicate n HCell.zero))[i]? = some ((hcells (List.replicate n HCell.zero))[i]) := Array.getElem?_eq_getElem h2
    rw [g2] at g
    have hm : i % 8 = 0 ∨ i % 8 = 1 ∨ i % 8 = 2 ∨ i % 8 = 3 ∨ i % 8 = 4 ∨ i % 8 = 5 ∨ i % 8 = 6 ∨ i % 8 = 7 := by omega
    refine Option.some.inj ?_
    rw [g]
    simp only [madeCells, Array.getElem_map, Array.getElem_range, Value.cells]
    rcases hm with h | h | h | h | h | h | h | h <;> (rw [h]; simp [HCell.vals, HCell.zero, h])

set_option maxHeartbeats 1000000 in
theorem new_bad (n o : Int) (w : World) (h : n < 1 ∨ 65536 < n ∨ o < 1 ∨ 1048576 < o) :
    Calls Try.prog 4 #[.int .i64 n, .int .i64 o] w fun e w' => e = .returned (.tuple #[.pointer none, .iface 45 (.int .i64 2)]) ∧ w' = w := by
  rcases Int.lt_or_le n 1 with h1 | h1
  · have g1 : decide (n < 1) = true := by simpa using h1
    go_enter Try.func4, Try.ntmps4
    go_wp2
    go_ret2
    exact ⟨rfl, rfl⟩
  have g1 : decide (n < 1) = false := by simpa using h1
  rcases Int.lt_or_le 65536 n with h2 | h2
  · have g2 : decide (65536 < n) = true := by simpa using h2
    go_enter Try.func4, Try.ntmps4
    go_wp2
    go_ret2
    exact ⟨rfl, rfl⟩
  have g2 : decide (65536 < n) = false := by simpa using h2
  rcases Int.lt_or_le o 1 with h3 | h3
  · have g3 : decide (o < 1) = true := by simpa using h3
    go_enter Try.func4, Try.ntmps4
    go_wp2
    go_ret2
    exact ⟨rfl, rfl⟩
  have g3 : decide (o < 1) = false := by simpa using h3
  have h4 : 1048576 < o := by omega
  have g4 : decide (1048576 < o) = true := by simpa using h4
  go_enter Try.func4, Try.ntmps4
  go_wp2
  go_ret2
  exact ⟨rfl, rfl⟩

theorem castMap {w : World} {P : Program} {k : TypeId} {R : Value → Option (DataW Unit × List MemPlace)} {b b' n : Nat} {D : DataW Unit} (h : w.ownsMap P k R b n D) (e : b = b') : w.ownsMap P k R b' n D := e ▸ h

/-- An empty heap. -/
def fresh (n o : Nat) : HS := { nur := List.replicate n HCell.zero, old := [], top := 0, room := n, most := o, rem := [], wh := .map [], next := 0, minors := 0, majors := 0 }

set_option maxHeartbeats 1000000 in
theorem new_ok (n o : Nat) (w : World) (h1 : 1 ≤ n) (h2 : n ≤ 65536) (h3 : 1 ≤ o) (h4 : o ≤ 1048576) :
    Calls Try.prog 4 #[.int .i64 n, .int .i64 o] w fun e w' => e = .returned (.tuple #[.pointer (some ⟨w.heap.size + 2, 0, none⟩), .nilIface]) ∧
      HR w' (w.heap.size + 2) w.heap.size (w.heap.size + 1) (.slice none 0 0) (.slice none 0 0) w.heap.size (fresh n o) ∧ Below w.heap.size w w' := by
  obtain ⟨i0, hi, hz0, hz1, hz2⟩ := info_parts infoCell
  have hmk : ∀ u : World, (Instr.makeSlice 46 (.int .i64 (n : Int)) (.int .i64 (n : Int))).run Try.prog u =
      .ok (.slice (some ⟨u.heap.size, 0, none⟩) n n) (u.alloc (.cells (hcells (List.replicate n HCell.zero)) 55)) := fun u => by
    have h := run_make (P := Try.prog) u 46 55 i0 _ Try.underlying46 hi hz0 .i64 .i64 (n : Int) (n : Int) (by omega) (Int.le_refl _) (by rw [hz2]; omega) (by omega)
    rw [Int.toNat_natCast, hz1, made_cells] at h
    exact h
  have hmm := @run_makeMap Try.prog
  have g1 : decide ((n : Int) < 1) = false := by simp; omega
  have g2 : decide (65536 < (n : Int)) = false := by simp; omega
  have g3 : decide ((o : Int) < 1) = false := by simp; omega
  have g4 : decide (1048576 < (o : Int)) = false := by simp; omega
  go_enter Try.func4, Try.ntmps4
  go_wp2
  go_ret2
  refine ⟨rfl, ?_, ?_⟩
  · exact {
      blk := blk_alloc_at (by simp)
      nur := by
        rw [blk_alloc_lt (by simp; omega), blk_alloc_lt (by simp)]
        exact blk_alloc_at rfl
      len := by simp [fresh]
      old := World.ownsRow_nil _ _ _ _
      rem := World.ownsRow_nil _ _ _ _
      map := castMap ((World.ownsMap_made (w.alloc (.cells (hcells (List.replicate n HCell.zero)) 55)) Try.prog 3 (plainElem Try.prog 3)).alloc _) (by simp)
      hn := by omega
      oh := by simp [Value.ownBlock]
      on := by simp [Value.ownBlock]
      rh := by simp [Value.ownBlock]
      rn := by simp [Value.ownBlock]
      ro := .inl rfl
      lo := by omega
      tr := Nat.zero_le _
      rr := h2
      mm := h4
      om := Nat.zero_le _ }
  · repeat (refine Below.alloc ?_ (by first | exact Nat.le_refl _ | (simp; done) | (simp; omega)) _)
    exact Below.refl _ _
end Go.Proofs.Ythbkklnahhdgcaa.HeapB
