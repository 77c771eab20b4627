/-
  Package heap's New: its two ways.
-/
import Derived.Test.YthbkklnahhdgcaaDoorHeapR
import Derived.Laws.MakeOwn
import Derived.BigQuiet
namespace Go.Proofs.YthbkklnahhdgcaaDoor.HeapB
open Go Go.RowKit Go.Proofs.YthbkklnahhdgcaaDoor.Lib Go.Proofs.YthbkklnahhdgcaaDoor.HeapR

theorem infoCell : (Tryd.prog.info? 105).map (fun i => (i.zero, i.size, i.bytes)) = some (some (.agg #[.int .i64 0, .int .i64 0, .int .i64 0, .int .i64 0, .int .i64 0, .int .i64 0, .string ByteArray.empty, .int .i64 0]), 8, 72) := by kernel_rfl

theorem made_cells (n : Nat) : madeCells (Value.agg #[.int .i64 0, .int .i64 0, .int .i64 0, .int .i64 0, .int .i64 0, .int .i64 0, .string ByteArray.empty, .int .i64 0]).cells (n * 8) = hcells (List.replicate n HCell.zero) := by
  apply Array.ext
  · rw [size_madeCells, hcells, List.size_toArray, length_hvals]; simp
  · intro i h1 h2
    have hi : i < n * 8 := by rw [size_madeCells] at h1; exact h1
    have e : i = i / 8 * 8 + i % 8 := by omega
    have hc : (List.replicate n HCell.zero)[i / 8]? = some HCell.zero := by rw [List.getElem?_replicate, if_pos (by omega)]
    have g := hcells_get _ _ (i % 8) _ hc (by omega)
    rw [← e] at g
    have g2 : (hcells (List.replicate n HCell.zero))[i]? = some ((hcells (List.replicate n HCell.zero))[i]) := Array.getElem?_eq_getElem h2
    rw [g2] at g
    have hm : i % 8 = 0 ∨ i % 8 = 1 ∨ i % 8 = 2 ∨ i % 8 = 3 ∨ i % 8 = 4 ∨ i % 8 = 5 ∨ i % 8 = 6 ∨ i % 8 = 7 := by omega
    refine Option.some.inj ?_
    rw [g]
    simp only [madeCells, Array.getElem_map, Array.getElem_range, Value.cells]
    rcases hm with h | h | h | h | h | h | h | h <;> (rw [h]; simp [HCell.vals, HCell.zero, h])

set_option maxHeartbeats 1000000 in
theorem new_bad (n o : Int) (w : World) (h : n < 1 ∨ 65536 < n ∨ o < 1 ∨ 1048576 < o) :
    Calls Tryd.prog 10 #[.int .i64 n, .int .i64 o] w fun e w' => e = .returned (.tuple #[.pointer none, .iface 35 (.int .i64 2)]) ∧ w' = w := by
  rcases Int.lt_or_le n 1 with h1 | h1
  · have g1 : decide (n < 1) = true := by simpa using h1
    go_enter Tryd.func10, Tryd.ntmps10
    go_wp2
    go_ret2
    exact ⟨rfl, rfl⟩
  have g1 : decide (n < 1) = false := by simpa using h1
  rcases Int.lt_or_le 65536 n with h2 | h2
  · have g2 : decide (65536 < n) = true := by simpa using h2
    go_enter Tryd.func10, Tryd.ntmps10
    go_wp2
    go_ret2
    exact ⟨rfl, rfl⟩
  have g2 : decide (65536 < n) = false := by simpa using h2
  rcases Int.lt_or_le o 1 with h3 | h3
  · have g3 : decide (o < 1) = true := by simpa using h3
    go_enter Tryd.func10, Tryd.ntmps10
    go_wp2
    go_ret2
    exact ⟨rfl, rfl⟩
  have g3 : decide (o < 1) = false := by simpa using h3
  have h4 : 1048576 < o := by omega
  have g4 : decide (1048576 < o) = true := by simpa using h4
  go_enter Tryd.func10, Tryd.ntmps10
  go_wp2
  go_ret2
  exact ⟨rfl, rfl⟩

theorem castMap {w : World} {P : Program} {k : TypeId} {R : Value → Option (DataW Unit × List MemPlace)} {b b' n : Nat} {D : DataW Unit} (h : w.ownsMap P k R b n D) (e : b = b') : w.ownsMap P k R b' n D := e ▸ h

/-- An empty heap. -/
def fresh (n o : Nat) : HS := { nur := List.replicate n HCell.zero, old := [], top := 0, room := n, most := o, rem := [], wh := .map [], next := 0, minors := 0, majors := 0 }

set_option maxHeartbeats 1000000 in
theorem new_ok (n o : Nat) (w : World) (h1 : 1 ≤ n) (h2 : n ≤ 65536) (h3 : 1 ≤ o) (h4 : o ≤ 1048576) :
    Calls Tryd.prog 10 #[.int .i64 n, .int .i64 o] w fun e w' => e = .returned (.tuple #[.pointer (some ⟨w.heap.size + 2, 0, none⟩), .nilIface]) ∧
      HR w' (w.heap.size + 2) w.heap.size (w.heap.size + 1) (.slice none 0 0) (.slice none 0 0) w.heap.size (fresh n o) ∧ Below w.heap.size w w' := by
  obtain ⟨i0, hi, hz0, hz1, hz2⟩ := info_parts infoCell
  have hmk : ∀ u : World, (Instr.makeSlice 95 (.int .i64 (n : Int)) (.int .i64 (n : Int))).run Tryd.prog u =
      .ok (.slice (some ⟨u.heap.size, 0, none⟩) n n) (u.alloc (.cells (hcells (List.replicate n HCell.zero)) 105)) := fun u => by
    have h := run_make (P := Tryd.prog) u 95 105 i0 _ Tryd.underlying95 hi hz0 .i64 .i64 (n : Int) (n : Int) (by omega) (Int.le_refl _) (by rw [hz2]; omega) (by omega)
    rw [Int.toNat_natCast, hz1, made_cells] at h
    exact h
  have hmm := @run_makeMap Tryd.prog
  have g1 : decide ((n : Int) < 1) = false := by simp; omega
  have g2 : decide (65536 < (n : Int)) = false := by simp; omega
  have g3 : decide ((o : Int) < 1) = false := by simp; omega
  have g4 : decide (1048576 < (o : Int)) = false := by simp; omega
  go_enter Tryd.func10, Tryd.ntmps10
  go_wp2
  go_ret2
  refine ⟨rfl, ?_, ?_⟩
  · exact {
      blk := blk_alloc_at (by simp)
      nur := by
        rw [blk_alloc_lt (by simp; omega), blk_alloc_lt (by simp)]
        exact blk_alloc_at rfl
      len := by simp [fresh]
      old := World.ownsRow_nil _ _ _ _
      rem := World.ownsRow_nil _ _ _ _
      map := castMap ((World.ownsMap_made (w.alloc (.cells (hcells (List.replicate n HCell.zero)) 105)) Tryd.prog 3 (plainElem Tryd.prog 3)).alloc _) (by simp)
      hn := by omega
      oh := by simp [Value.ownBlock]
      on := by simp [Value.ownBlock]
      rh := by simp [Value.ownBlock]
      rn := by simp [Value.ownBlock]
      ro := .inl rfl
      lo := by omega
      tr := Nat.zero_le _
      rr := h2
      mm := h4
      om := Nat.zero_le _ }
  · repeat (refine Below.alloc ?_ (by first | exact Nat.le_refl _ | (simp; done) | (simp; omega)) _)
    exact Below.refl _ _
end Go.Proofs.YthbkklnahhdgcaaDoor.HeapB
