/-
  Package heap's collector: move, where nothing is copied.
-/
import Derived.Test.YthbkklnahhdgcaaDoorPG01
import Derived.Maps.OwnOps
import Derived.Test.YthbkklnahhdgcaaDoorPG00
import Derived.Laws.MakeOwn
import Derived.BigQuiet
import Derived.WalkKit
import Derived.Deep.AppendLies
import Derived.LoopTactic
import Derived.Deep.LoopGhost
set_option maxRecDepth 100000
set_option maxHeartbeats 4000000
namespace Go.Proofs.YthbkklnahhdgcaaDoor.ChB
open Go Go.Proofs Go.RowKit Lib HeapA

theorem from_minor (hv hb : Nat) (a room : Int) (w : World) (c0 : w.cell? ⟨hv, 0, none⟩ = some (.pointer (some ⟨hb, 0, none⟩))) (c3 : w.cell? ⟨hb, 3, none⟩ = some (.int .i64 room)) :
    Calls Tryd.prog 108 #[.int .i64 a, .pointer (some ⟨hv, 0, none⟩)] w fun e w' => e = .returned (.bool (decide (a < room))) ∧ w' = w := by
  go_enter Tryd.func108, Tryd.ntmps108
  go_wp2
  go_ret
  exact ⟨rfl, rfl⟩
theorem from_major (a : Int) (w : World) :
    Calls Tryd.prog 114 #[.int .i64 a] w fun e w' => e = .returned (.bool true) ∧ w' = w := by
  go_enter Tryd.func114, Tryd.ntmps114
  go_wp2
  go_ret
  exact ⟨rfl, rfl⟩

theorem move_not (kb vb vo : Nat) (k : Int) (w : World) (hk : k ≠ 4) (v0 : w.cell? ⟨vb, vo, none⟩ = some (.int .i64 k)) :
    Calls Tryd.prog 109 #[.pointer (some ⟨kb, 0, none⟩), .pointer (some ⟨vb, vo, none⟩)] w fun e w' => e = .returned (.tuple #[]) ∧ ∃ n, w' = w.drewN n := by
  have hkd : (k != 4) = true := by simpa using hk
  go_enter Tryd.func109, Tryd.ntmps109
  go_wp2_with (go_quiet (fail))
  refine bodyPost_ret (results_none Tryd.results109 _ _ _) rfl ?_
  exact ⟨rfl, _, rfl⟩

theorem move_stays (kb hv hb vb vo : Nat) (a room : Int) (w : World) (ha : room ≤ a) (k2 : w.cell? ⟨kb, 2, none⟩ = some (.func (Fn.func 108) #[] #[.pointer (some ⟨hv, 0, none⟩)])) (hv0 : w.cell? ⟨hv, 0, none⟩ = some (.pointer (some ⟨hb, 0, none⟩))) (h3 : w.cell? ⟨hb, 3, none⟩ = some (.int .i64 room)) (v0 : w.cell? ⟨vb, vo, none⟩ = some (.int .i64 4)) (v1 : w.cell? ⟨vb, vo + 1, none⟩ = some (.int .i64 a)) :
    Calls Tryd.prog 109 #[.pointer (some ⟨kb, 0, none⟩), .pointer (some ⟨vb, vo, none⟩)] w fun e w' => e = .returned (.tuple #[]) ∧ ∃ n, w' = w.drewN n := by
  have hkd : ((4 : Int) != 4) = false := by decide
  have had : decide (a < room) = false := by simpa using ha
  have hc : ∀ w : World, w.cell? ⟨hv, 0, none⟩ = some (.pointer (some ⟨hb, 0, none⟩)) → w.cell? ⟨hb, 3, none⟩ = some (.int .i64 room) → Calls Tryd.prog 108 #[.int .i64 a, .pointer (some ⟨hv, 0, none⟩)] w fun e w' => e = .returned (.bool false) ∧ w' = w := fun w h1 h2 => by
    have h := from_minor hv hb a room w h1 h2
    rw [had] at h
    exact h
  go_enter Tryd.func109, Tryd.ntmps109
  go_wp2_with (go_quiet ((go_at_call 108; exact Calls.quiet_of_same (hc _ hv0 h3))))
  refine bodyPost_ret (results_none Tryd.results109 _ _ _) rfl ?_
  exact ⟨rfl, _, rfl⟩

theorem move_old_minor (kb hv hb xb xo vb vo : Nat) (a m : Int) (room : Int) (w : World) (hkb : w.cell? ⟨kb, 0, none⟩ = some (.pointer (some ⟨hb, 0, none⟩))) (k2 : w.cell? ⟨kb, 2, none⟩ = some (.func (Fn.func 108) #[] #[.pointer (some ⟨hv, 0, none⟩)])) (hv0 : w.cell? ⟨hv, 0, none⟩ = some (.pointer (some ⟨hb, 0, none⟩))) (h3 : w.cell? ⟨hb, 3, none⟩ = some (.int .i64 room)) (har : (a : Int) < room) (v0 : w.cell? ⟨vb, vo, none⟩ = some (.int .i64 4)) (v1 : w.cell? ⟨vb, vo + 1, none⟩ = some (.int .i64 a)) (vf : w.frozen? ⟨vb, vo + 1, none⟩ = false)
    (hat : ∀ w1 : World, w1.heap = w.heap → Calls Tryd.prog 36 #[.pointer (some ⟨hb, 0, none⟩), .int .i64 a] w1 fun e w' => e = .returned (.pointer (some ⟨xb, xo, none⟩)) ∧ ∃ k, w' = w1.drewN k) (hm : m ≠ 0) (hm1 : 0 < m) (hm2 : m ≤ 9223372036854775807) (x7 : w.cell? ⟨xb, xo + 7, none⟩ = some (.int .i64 m)) :
    Calls Tryd.prog 109 #[.pointer (some ⟨kb, 0, none⟩), .pointer (some ⟨vb, vo, none⟩)] w fun e w' => e = .returned (.tuple #[]) ∧ ∃ n, w' = (w.drewN n).setCell ⟨vb, vo + 1, none⟩ (.int .i64 (m - 1)) := by
  have had : decide (a < room) = true := by simpa using har
  have hc : ∀ w : World, w.cell? ⟨hv, 0, none⟩ = some (.pointer (some ⟨hb, 0, none⟩)) → w.cell? ⟨hb, 3, none⟩ = some (.int .i64 room) → Calls Tryd.prog 108 #[.int .i64 a, .pointer (some ⟨hv, 0, none⟩)] w fun e w' => e = .returned (.bool true) ∧ w' = w := fun w h1 h2 => by
    have h := from_minor hv hb a room w h1 h2
    rw [had] at h
    exact h
  have hkd : ((4 : Int) != 4) = false := by decide
  have hmd : (m == 0) = false := by simpa using hm
  have hms : wrap64 (m - 1) = m - 1 := by unfold wrap64; omega
  go_enter Tryd.func109, Tryd.ntmps109
  go_wp2_with (go_quiet ((go_at_call 108; exact Calls.quiet_of_same (hc _ hv0 h3))))
  have g0 : (w.drewN nq).cell? ⟨kb, 0, none⟩ = _ := hkb
  have g1 : (w.drewN nq).cell? ⟨vb, vo + 1, none⟩ = _ := v1
  have g7 : (w.drewN nq).cell? ⟨xb, xo + 7, none⟩ = _ := x7
  have gf : (w.drewN nq).frozen? ⟨vb, vo + 1, none⟩ = _ := vf
  have hat2 : ∀ w2 : World, w2.heap = (w.drewN nq).heap → Calls Tryd.prog 36 #[.pointer (some ⟨hb, 0, none⟩), .int .i64 a] w2 fun e w' => e = .returned (.pointer (some ⟨xb, xo, none⟩)) ∧ ∃ k, w' = w2.drewN k := fun w2 h => hat w2 h
  generalize hw1 : w.drewN nq = w1 at *
  clear hkb k2 v0 v1 vf x7 hat
  go_quiet ((go_at_call 36; exact Calls.quiet_of (hat2 _ rfl)))
  go_wp2
  refine bodyPost_end (results_none Tryd.results109 _ _ _) rfl ?_
  exact ⟨rfl, _, by rw [← hw1, World.drewN_drewN]⟩

theorem move_old_major (kb hb xb xo vb vo : Nat) (a m : Int) (w : World) (hkb : w.cell? ⟨kb, 0, none⟩ = some (.pointer (some ⟨hb, 0, none⟩))) (k2 : w.cell? ⟨kb, 2, none⟩ = some (.func (Fn.func 114) #[] #[])) (v0 : w.cell? ⟨vb, vo, none⟩ = some (.int .i64 4)) (v1 : w.cell? ⟨vb, vo + 1, none⟩ = some (.int .i64 a)) (vf : w.frozen? ⟨vb, vo + 1, none⟩ = false)
    (hat : ∀ w1 : World, w1.heap = w.heap → Calls Tryd.prog 36 #[.pointer (some ⟨hb, 0, none⟩), .int .i64 a] w1 fun e w' => e = .returned (.pointer (some ⟨xb, xo, none⟩)) ∧ ∃ k, w' = w1.drewN k) (hm : m ≠ 0) (hm1 : 0 < m) (hm2 : m ≤ 9223372036854775807) (x7 : w.cell? ⟨xb, xo + 7, none⟩ = some (.int .i64 m)) :
    Calls Tryd.prog 109 #[.pointer (some ⟨kb, 0, none⟩), .pointer (some ⟨vb, vo, none⟩)] w fun e w' => e = .returned (.tuple #[]) ∧ ∃ n, w' = (w.drewN n).setCell ⟨vb, vo + 1, none⟩ (.int .i64 (m - 1)) := by
  have hc : ∀ w : World, Calls Tryd.prog 114 #[.int .i64 a] w fun e w' => e = .returned (.bool true) ∧ w' = w := fun w => from_major a w
  have hkd : ((4 : Int) != 4) = false := by decide
  have hmd : (m == 0) = false := by simpa using hm
  have hms : wrap64 (m - 1) = m - 1 := by unfold wrap64; omega
  go_enter Tryd.func109, Tryd.ntmps109
  go_wp2_with (go_quiet ((go_at_call 114; exact Calls.quiet_of_same (hc _))))
  have g0 : (w.drewN nq).cell? ⟨kb, 0, none⟩ = _ := hkb
  have g1 : (w.drewN nq).cell? ⟨vb, vo + 1, none⟩ = _ := v1
  have g7 : (w.drewN nq).cell? ⟨xb, xo + 7, none⟩ = _ := x7
  have gf : (w.drewN nq).frozen? ⟨vb, vo + 1, none⟩ = _ := vf
  have hat2 : ∀ w2 : World, w2.heap = (w.drewN nq).heap → Calls Tryd.prog 36 #[.pointer (some ⟨hb, 0, none⟩), .int .i64 a] w2 fun e w' => e = .returned (.pointer (some ⟨xb, xo, none⟩)) ∧ ∃ k, w' = w2.drewN k := fun w2 h => hat w2 h
  generalize hw1 : w.drewN nq = w1 at *
  clear hkb k2 v0 v1 vf x7 hat
  go_quiet ((go_at_call 36; exact Calls.quiet_of (hat2 _ rfl)))
  go_wp2
  refine bodyPost_end (results_none Tryd.results109 _ _ _) rfl ?_
  exact ⟨rfl, _, by rw [← hw1, World.drewN_drewN]⟩
end Go.Proofs.YthbkklnahhdgcaaDoor.ChB

namespace Go.Proofs.YthbkklnahhdgcaaDoor.HeapE
open Go Go.RowKit Go.Maps Go.Proofs.YthbkklnahhdgcaaDoor.Lib HeapR HeapC

variable {w : World} {hb nb mb : Nat} {ov rv : Value} {B : Nat} {H : HS}

theorem alloc_bad (kind tag size : Int) (a : Addr) (w : World) (h : kind < 1 ∨ 4 < kind ∨ size < 0 ∨ 1000 < size) :
    Calls Tryd.prog 13 #[.pointer (some a), .int .i64 kind, .int .i64 tag, .int .i64 size] w fun e w' => e = .returned (.tuple #[.int .i64 0, .iface 35 (.int .i64 1)]) ∧ w' = w := by
  rcases Int.lt_or_le kind 1 with h1 | h1
  · have g1 : decide (kind < 1) = true := by simpa using h1
    go_enter Tryd.func13, Tryd.ntmps13
    go_wp2
    go_ret2
    exact ⟨rfl, rfl⟩
  have g1 : decide (kind < 1) = false := by simpa using h1
  rcases Int.lt_or_le 4 kind with h2 | h2
  · have g2 : decide (4 < kind) = true := by simpa using h2
    go_enter Tryd.func13, Tryd.ntmps13
    go_wp2
    go_ret2
    exact ⟨rfl, rfl⟩
  have g2 : decide (4 < kind) = false := by simpa using h2
  rcases Int.lt_or_le size 0 with h3 | h3
  · have g3 : decide (size < 0) = true := by simpa using h3
    go_enter Tryd.func13, Tryd.ntmps13
    go_wp2
    go_ret2
    exact ⟨rfl, rfl⟩
  have g3 : decide (size < 0) = false := by simpa using h3
  have h4 : 1000 < size := by omega
  have g4 : decide (1000 < size) = true := by simpa using h4
  go_enter Tryd.func13, Tryd.ntmps13
  go_wp2
  go_ret2
  exact ⟨rfl, rfl⟩

theorem alloc_full (hb : Nat) (top room kind tag size : Int) (w : World)
    (c2 : w.cell? ⟨hb, 2, none⟩ = some (.int .i64 top)) (c3 : w.cell? ⟨hb, 3, none⟩ = some (.int .i64 room))
    (h1 : 1 ≤ kind) (h2 : kind ≤ 4) (h3 : 0 ≤ size) (h4 : size ≤ 1000) (ht : 0 ≤ top) (ht2 : top ≤ 65536) (hf : room < top + 1 + size) :
    Calls Tryd.prog 13 #[.pointer (some ⟨hb, 0, none⟩), .int .i64 kind, .int .i64 tag, .int .i64 size] w fun e w' => e = .returned (.tuple #[.int .i64 0, .iface 35 (.int .i64 12)]) ∧ ∃ n, w' = w.drewN n := by
  have g1 : decide (kind < 1) = false := by simpa using h1
  have g2 : decide (4 < kind) = false := by simpa using h2
  have g3 : decide (size < 0) = false := by simpa using h3
  have g4 : decide (1000 < size) = false := by simpa using h4
  have g5 : decide (room < top + 1 + size) = true := by simpa using hf
  go_enter Tryd.func13, Tryd.ntmps13
  go_wp2_with fail
  go_quiet (fail)
  go_wp2
  go_ret2
  exact ⟨rfl, _, rfl⟩
end Go.Proofs.YthbkklnahhdgcaaDoor.HeapE

namespace Go.Proofs.YthbkklnahhdgcaaDoor.HeapF
open Go Go.RowKit Go.Maps Go.Proofs.YthbkklnahhdgcaaDoor.Lib HeapR HeapC

theorem grown_some {w w' : World} {r : Option Nat} (h : w.grownBy w' r) {k : Nat} {o : Obj} (hk : some k ≠ r) (ho : w.heap[k]? = some o) : w'.heap[k]? = some o :=
  (h.block k (lt_of_block ho) hk).trans ho
theorem ownsMap_same {w w' : World} {P : Program} {k : TypeId} {R : Value → Option (DataW Unit × List MemPlace)} {b n : Nat} {D : DataW Unit} (h : w.ownsMap P k R b n D) (e : w'.heap[b]? = w.heap[b]?) : w'.ownsMap P k R b n D := by
  obtain ⟨es, clock, h1, r⟩ := h
  exact ⟨es, clock, e.trans h1, r⟩

/-- Cells are empty from some place on. -/
def zeros (l : List HCell) (at_ : Nat) : Nat → List HCell
  | 0 => l
  | n + 1 => (zeros l at_ n).set (at_ + n) HCell.zero
theorem length_zeros (l : List HCell) (a n : Nat) : (zeros l a n).length = l.length := by
  induction n with
  | zero => rfl
  | succ n ih => simp [zeros, ih]

/-- What eight stores into a row of cells make. -/
theorem store8 {w : World} {nb i : Nat} {L : List HCell} (h : w.heap[nb]? = some (.cells (hcells L) 105 (0, 0))) (hi : i < L.length) (c : HCell) :
    ((((((((w.setCell ⟨nb, i * 8, none⟩ (.int .i64 c.kind)).setCell ⟨nb, i * 8 + 1, none⟩ (.int .i64 c.tag)).setCell ⟨nb, i * 8 + 2, none⟩ (.int .i64 c.id)).setCell ⟨nb, i * 8 + 3, none⟩ (.int .i64 c.size)).setCell ⟨nb, i * 8 + 4, none⟩ (.int .i64 c.vk)).setCell ⟨nb, i * 8 + 5, none⟩ (.int .i64 c.vn)).setCell ⟨nb, i * 8 + 6, none⟩ (.string c.vs)).setCell ⟨nb, i * 8 + 7, none⟩ (.int .i64 c.moved)).heap[nb]? = some (.cells (hcells (L.set i c)) 105 (0, 0)) := by
  rw [blk_set (blk_set (blk_set (blk_set (blk_set (blk_set (blk_set (blk_set h _) _) _) _) _) _) _) _]
  rw [hcells_set L i c hi]
theorem store8_ne {w : World} {nb i k : Nat} (hk : k ≠ nb) (a0 a1 a2 a3 a4 a5 a6 a7 : Value) :
    ((((((((w.setCell ⟨nb, i * 8, none⟩ a0).setCell ⟨nb, i * 8 + 1, none⟩ a1).setCell ⟨nb, i * 8 + 2, none⟩ a2).setCell ⟨nb, i * 8 + 3, none⟩ a3).setCell ⟨nb, i * 8 + 4, none⟩ a4).setCell ⟨nb, i * 8 + 5, none⟩ a5).setCell ⟨nb, i * 8 + 6, none⟩ a6).setCell ⟨nb, i * 8 + 7, none⟩ a7).heap[k]? = w.heap[k]? := by
  simp only [World.setCell, Array.getElem?_modify]
  simp [Ne.symm hk]
/-- w' is w but for the row nb; no block is new. -/
structure Only (nb : Nat) (w w' : World) : Prop where
  os : w'.os = w.os
  tape : w'.tape = w.tape
  output : w'.output = w.output
  size : w'.heap.size = w.heap.size
  block : ∀ k, k ≠ nb → w'.heap[k]? = w.heap[k]?
theorem Only.refl (nb : Nat) (w : World) : Only nb w w := ⟨rfl, rfl, rfl, rfl, fun _ _ => rfl⟩
theorem Only.trans {nb : Nat} {a b c : World} (h : Only nb a b) (k : Only nb b c) : Only nb a c :=
  ⟨k.os.trans h.os, k.tape.trans h.tape, k.output.trans h.output, k.size.trans h.size, fun i hi => (k.block i hi).trans (h.block i hi)⟩
theorem Only.setCell {nb : Nat} {a b : World} (h : Only nb a b) (o : Nat) (v : Value) : Only nb a (b.setCell ⟨nb, o, none⟩ v) :=
  ⟨h.os, h.tape, h.output, by rw [World.size_setCell]; exact h.size, fun k hk => (blk_ne (by simpa using hk)).trans (h.block k hk)⟩
theorem only8 {w : World} {nb i : Nat} (a0 a1 a2 a3 a4 a5 a6 a7 : Value) :
    Only nb w ((((((((w.setCell ⟨nb, i * 8, none⟩ a0).setCell ⟨nb, i * 8 + 1, none⟩ a1).setCell ⟨nb, i * 8 + 2, none⟩ a2).setCell ⟨nb, i * 8 + 3, none⟩ a3).setCell ⟨nb, i * 8 + 4, none⟩ a4).setCell ⟨nb, i * 8 + 5, none⟩ a5).setCell ⟨nb, i * 8 + 6, none⟩ a6).setCell ⟨nb, i * 8 + 7, none⟩ a7) :=
  (((((((((Only.refl nb w).setCell _ _).setCell _ _).setCell _ _).setCell _ _).setCell _ _).setCell _ _).setCell _ _).setCell _ _)

/-- The nursery's cells are there. -/
theorem cells8 {w : World} {nb : Nat} {L : List HCell} (h : w.heap[nb]? = some (.cells (hcells L) 105 (0, 0))) (i : Nat) (hi : i < L.length) :
    ∃ v0 v1 v2 v3 v4 v5 v6 v7, w.cell? ⟨nb, i * 8, none⟩ = some v0 ∧ w.cell? ⟨nb, i * 8 + 1, none⟩ = some v1 ∧ w.cell? ⟨nb, i * 8 + 2, none⟩ = some v2 ∧ w.cell? ⟨nb, i * 8 + 3, none⟩ = some v3 ∧ w.cell? ⟨nb, i * 8 + 4, none⟩ = some v4 ∧ w.cell? ⟨nb, i * 8 + 5, none⟩ = some v5 ∧ w.cell? ⟨nb, i * 8 + 6, none⟩ = some v6 ∧ w.cell? ⟨nb, i * 8 + 7, none⟩ = some v7 := by
  have hc : L[i]? = some L[i] := List.getElem?_eq_getElem hi
  have g : ∀ j, j < 8 → w.cell? ⟨nb, i * 8 + j, none⟩ = (L[i]).vals[j]? := fun j hj => by
    have e := hcells_get L i j _ hc hj
    rw [World.cell?, h]; simpa using e
  exact ⟨_, _, _, _, _, _, _, _, g 0 (by omega), g 1 (by omega), g 2 (by omega), g 3 (by omega), g 4 (by omega), g 5 (by omega), g 6 (by omega), g 7 (by omega)⟩

variable {w : World} {hb nb mb : Nat} {ov rv : Value} {B : Nat} {H : HS}
end Go.Proofs.YthbkklnahhdgcaaDoor.HeapF

namespace Go.Proofs.YthbkklnahhdgcaaDoor.HeapB
open Go Go.RowKit Go.Proofs.YthbkklnahhdgcaaDoor.Lib HeapR

theorem infoCell : (Tryd.prog.info? 105).map (fun i => (i.zero, i.size, i.bytes)) = some (some (.agg #[.int .i64 0, .int .i64 0, .int .i64 0, .int .i64 0, .int .i64 0, .int .i64 0, .string ByteArray.empty, .int .i64 0]), 8, 72) := by kernel_rfl

theorem made_cells (n : Nat) : madeCells (Value.agg #[.int .i64 0, .int .i64 0, .int .i64 0, .int .i64 0, .int .i64 0, .int .i64 0, .string ByteArray.empty, .int .i64 0]).cells (n * 8) = hcells (List.replicate n HCell.zero) := by
  apply Array.ext
  · rw [size_madeCells, hcells, List.size_toArray, length_hvals]; simp
  · intro i h1 h2
    have hi : i < n * 8 := by rw [size_madeCells] at h1; exact h1
    have e : i = i / 8 * 8 + i % 8 := by omega
    have hc : (List.replicate n HCell.zero)[i / 8]? = some HCell.zero := by rw [List.getElem?_replicate, if_pos (by omega)]
    have g := hcells_get _ _ (i % 8) _ hc (by omega)
    rw [← e] at g
    have g2 : (hcells (List.replicate n HCell.zero))[i]? = some ((hcells (List.replicate n HCell.zero))[i]) := Array.getElem?_eq_getElem h2
    rw [g2] at g
    have hm : i % 8 = 0 ∨ i % 8 = 1 ∨ i % 8 = 2 ∨ i % 8 = 3 ∨ i % 8 = 4 ∨ i % 8 = 5 ∨ i % 8 = 6 ∨ i % 8 = 7 := by omega
    refine Option.some.inj ?_
    rw [g]
    simp only [madeCells, Array.getElem_map, Array.getElem_range, Value.cells]
    rcases hm with h | h | h | h | h | h | h | h <;> (rw [h]; simp [HCell.vals, HCell.zero, h])

theorem new_bad (n o : Int) (w : World) (h : n < 1 ∨ 65536 < n ∨ o < 1 ∨ 1048576 < o) :
    Calls Tryd.prog 10 #[.int .i64 n, .int .i64 o] w fun e w' => e = .returned (.tuple #[.pointer none, .iface 35 (.int .i64 2)]) ∧ w' = w := by
  rcases Int.lt_or_le n 1 with h1 | h1
  · have g1 : decide (n < 1) = true := by simpa using h1
    go_enter Tryd.func10, Tryd.ntmps10
    go_wp2
    go_ret2
    exact ⟨rfl, rfl⟩
  have g1 : decide (n < 1) = false := by simpa using h1
  rcases Int.lt_or_le 65536 n with h2 | h2
  · have g2 : decide (65536 < n) = true := by simpa using h2
    go_enter Tryd.func10, Tryd.ntmps10
    go_wp2
    go_ret2
    exact ⟨rfl, rfl⟩
  have g2 : decide (65536 < n) = false := by simpa using h2
  rcases Int.lt_or_le o 1 with h3 | h3
  · have g3 : decide (o < 1) = true := by simpa using h3
    go_enter Tryd.func10, Tryd.ntmps10
    go_wp2
    go_ret2
    exact ⟨rfl, rfl⟩
  have g3 : decide (o < 1) = false := by simpa using h3
  have h4 : 1048576 < o := by omega
  have g4 : decide (1048576 < o) = true := by simpa using h4
  go_enter Tryd.func10, Tryd.ntmps10
  go_wp2
  go_ret2
  exact ⟨rfl, rfl⟩

theorem castMap {w : World} {P : Program} {k : TypeId} {R : Value → Option (DataW Unit × List MemPlace)} {b b' n : Nat} {D : DataW Unit} (h : w.ownsMap P k R b n D) (e : b = b') : w.ownsMap P k R b' n D := e ▸ h

/-- An empty heap. -/
def fresh (n o : Nat) : HS := { nur := List.replicate n HCell.zero, old := [], top := 0, room := n, cap := n, most := o, rem := [], wh := .map [], next := 0, minors := 0, majors := 0 }

theorem new_ok (n o : Nat) (w : World) (h1 : 1 ≤ n) (h2 : n ≤ 65536) (h3 : 1 ≤ o) (h4 : o ≤ 1048576) :
    Calls Tryd.prog 10 #[.int .i64 n, .int .i64 o] w fun e w' => e = .returned (.tuple #[.pointer (some ⟨w.heap.size + 2, 0, none⟩), .nilIface]) ∧
      HR w' (w.heap.size + 2) w.heap.size (w.heap.size + 1) (.slice none 0 0) (.slice none 0 0) w.heap.size (fresh n o) ∧ Below w.heap.size w w' := by
  obtain ⟨i0, hi, hz0, hz1, hz2⟩ := info_parts infoCell
  have hmk : ∀ u : World, (Instr.makeSlice 95 (.int .i64 (n : Int)) (.int .i64 (n : Int))).run Tryd.prog u =
      .ok (.slice (some ⟨u.heap.size, 0, none⟩) n n) (u.alloc (.cells (hcells (List.replicate n HCell.zero)) 105)) := fun u => by
    have h := run_make (P := Tryd.prog) u 95 105 i0 _ Tryd.underlying95 hi hz0 .i64 .i64 (n : Int) (n : Int) (by omega) (Int.le_refl _) (by rw [hz2]; omega) (by omega)
    rw [Int.toNat_natCast, hz1, made_cells] at h
    exact h
  have hmm := @run_makeMap Tryd.prog
  have g1 : decide ((n : Int) < 1) = false := by simp; omega
  have g2 : decide (65536 < (n : Int)) = false := by simp; omega
  have g3 : decide ((o : Int) < 1) = false := by simp; omega
  have g4 : decide (1048576 < (o : Int)) = false := by simp; omega
  go_enter Tryd.func10, Tryd.ntmps10
  go_wp2
  go_ret2
  refine ⟨rfl, ?_, ?_⟩
  · exact {
      blk := blk_alloc_at (by simp)
      nur := by
        rw [blk_alloc_lt (by simp; omega), blk_alloc_lt (by simp)]
        exact blk_alloc_at rfl
      len := by simp [fresh]
      old := World.ownsRow_nil _ _ _ _
      rem := World.ownsRow_nil _ _ _ _
      map := castMap ((World.ownsMap_made (w.alloc (.cells (hcells (List.replicate n HCell.zero)) 105)) Tryd.prog 3 (plainElem Tryd.prog 3)).alloc _) (by simp)
      hn := by omega
      oh := by simp [Value.ownBlock]
      on := by simp [Value.ownBlock]
      rh := by simp [Value.ownBlock]
      rn := by simp [Value.ownBlock]
      ro := .inl rfl
      lo := by omega
      tr := Nat.zero_le _
      rr := h2
      mm := h4
      om := Nat.zero_le _ }
  · repeat (refine Below.alloc ?_ (by first | exact Nat.le_refl _ | (simp; done) | (simp; omega)) _)
    exact Below.refl _ _
end Go.Proofs.YthbkklnahhdgcaaDoor.HeapB

namespace Go.Proofs.YthbkklnahhdgcaaDoor.Cut
open Go

/-- Is region n in it? -/
def holds (n : Nat) : Code → Bool
  | .region i _ _ => i == n
  | .seq a b => holds n a || holds n b
  | .block _ c => holds n c
  | .loop c => holds n c
  | .scope c => holds n c
  | .cond _ a b => holds n a || holds n b
  | _ => false
/-- Region n. -/
def region (n : Nat) : Code → Option Code
  | .region i ops d => if i = n then some (.region i ops d) else none
  | .seq a b => match region n a with
    | some c => some c
    | none => region n b
  | .block _ c => region n c
  | .loop c => region n c
  | .scope c => region n c
  | .cond _ a b => match region n a with
    | some c => some c
    | none => region n b
  | _ => none
/-- The innermost loop that holds region n. -/
def loop (n : Nat) : Code → Option Code
  | .loop c => match loop n c with
    | some d => some d
    | none => if holds n c = true then some (.loop c) else none
  | .seq a b => match loop n a with
    | some c => some c
    | none => loop n b
  | .block _ c => loop n c
  | .scope c => loop n c
  | .cond _ a b => match loop n a with
    | some c => some c
    | none => loop n b
  | _ => none
/-- Its body. -/
def body (n : Nat) (c : Code) : Option Code := match loop n c with
  | some (.loop d) => some d
  | _ => none
/-- What begins with region n, up to the end of the sequence in which it stands. -/
def tail (n : Nat) : Code → Option Code
  | .seq (.region i ops d) b => if i = n then some (.seq (.region i ops d) b) else tail n b
  | .seq a b => match tail n a with
    | some c => some c
    | none => tail n b
  | .block _ c => tail n c
  | .loop c => tail n c
  | .scope c => tail n c
  | .cond _ a b => match tail n a with
    | some c => some c
    | none => tail n b
  | _ => none
/-- A piece of a function. -/
def piece (f : Func) (g : Code → Option Code) : Code := (f.body.bind g).getD .skip
end Go.Proofs.YthbkklnahhdgcaaDoor.Cut

namespace Go.Proofs.YthbkklnahhdgcaaDoor.ChCa
open Go Go.Proofs Go.RowKit Lib HeapR HeapA HeapB HeapF ChA ChB

/-- More cells than any heap has. -/
def big : Nat := 4000000
theorem wrap_two (a b : Nat) (h : a + b ≤ big) : wrap64 ((a : Int) + (b : Int)) = (a : Int) + (b : Int) := by
  unfold big at h
  unfold wrap64
  omega
theorem wrapk_two (a b : Nat) (h : a + b ≤ big) : IntKind.i64.wrap ((a : Int) + (b : Int)) = (a : Int) + (b : Int) := by
  unfold big at h
  exact IntWalk.i64_in _ (by omega)
theorem max_of (n : Nat) (h : n ≤ big) : n ≤ maxLen := by
  unfold big at h
  unfold maxLen
  omega
theorem bytes_of (n : Nat) (h : n ≤ big) : n * 72 ≤ 140737488355328 := by
  unfold big at h
  omega
theorem own_slice {w : World} {base e size : Nat} {v : Value} {n : Nat} {xs : List Value} (h : w.ownsRow base e size v n xs) : ∃ o c, v = .slice o n c := by
  rcases h.2 with ⟨rfl, h0⟩ | ⟨g, cap, cur, rfl, _⟩
  · exact ⟨none, 0, by rw [h0]⟩
  · exact ⟨_, _, rfl⟩
theorem own_lt {w : World} {base e size : Nat} {v : Value} {n : Nat} {xs : List Value} (h : w.ownsRow base e size v n xs) {k : Nat} (hk : v.ownBlock = some k) : base ≤ k ∧ k < w.heap.size := World.ownsRow.lt h k hk
theorem alloc_cell {w : World} {b o : Nat} {v : Value} (h : w.cell? ⟨b, o, none⟩ = some v) (ob : Obj) : (w.alloc ob).cell? ⟨b, o, none⟩ = some v :=
  (Below.cell (B := w.heap.size) (p := ⟨b, o, none⟩) ((Below.refl _ w).alloc (Nat.le_refl _) ob) (World.block_lt_of_cell? w _ h)).trans h
theorem heap_alloc_at {w : World} {n : Nat} (h : w.heap.size = n) (o : Obj) : (w.alloc o).heap[n]? = some o := by
  subst h
  show (w.heap.push o)[w.heap.size]? = _
  simp
theorem heap_alloc_last (w : World) (o : Obj) : (w.alloc o).heap[w.heap.size]? = some o := by
  show (w.heap.push o)[w.heap.size]? = _
  simp
/-- The collector's block. -/
def kblk (hb : Nat) (tv fv mv : Value) : Obj := .cells #[.pointer (some ⟨hb, 0, none⟩), tv, fv, mv] 238 (0, 0)

theorem copy_region {Q : Exit → Act → World → Prop} {u2 u3 u4 u5 u7 u8 u9 Ja Jb Jc Jd Je Jf Jg Jh Ji Jj Jk Jl Jm Jn Jo Jp Jq Jr Js Jt Ju Jv Jw Jx Jy Jz Qa Qb Qc Qd Qe Qf Qg Qh Qi Qj Qk Ql Qm Qn Qo Qp Qq Qr Qs Qt Qu Qv Qw Qx Qy Qz Xe Xg Xh Xi Xj Xk Xn Xo Xp Xq Xt Xu Xv Xx Xy Xz Yg Yh Yi Yj Yk Yl Ym Yn Yo Yp Yq Yr Ys Yt Yu Yv Yw Yx Yy Yz Ua Ub Uc Ud Ue Uf Ug Uh Ui Uj Uk Ul Um Un : Value} (kb hb xb yo vb vo B : Nat) (a i : Nat) (o : Option Addr) (n c : Nat) (fv mv : Value) (X : Array Value) (x : HCell) (xs : List Value) (w : World)
    (hkb : w.heap[kb]? = some (kblk hb (.slice o n c) fv mv)) (v1 : w.cell? ⟨vb, vo + 1, none⟩ = some (.int .i64 (a : Int)))
    (hX : w.heap[xb]? = some (.cells X 105 (0, 0))) (hx : ∀ (j : Nat) (v : Value), x.vals[j]? = some v → X[yo + j]? = some v)
    (hcall : Calls Tryd.prog 36 #[.pointer (some ⟨hb, 0, none⟩), .int .i64 ((a : Int) + (i : Int))] w.drew fun e w' => e = .returned (.pointer (some ⟨xb, yo, none⟩)) ∧ ∃ k, w' = w.drew.drewN k)
    (hrow : w.ownsRow B 105 8 (.slice o n c) n xs) (hB : B ≤ w.heap.size) (t1 : (Value.slice o n c).ownBlock ≠ some kb) (t4 : (Value.slice o n c).ownBlock ≠ some vb) (hnb : n + 1 ≤ big) (hab : a + i ≤ big)
    (hp : ∀ (c : List PanicEntry) (a : Act) (d : Tmp) (v : Value) (w : World), Q (.panic c) (a.put (some d) v) w → Q (.panic c) a w)
    (hQ : ∀ (s60 s61 s62 s63 s64 s65 s66 s67 s68 s69 s70 s71 s72 s73 s74 s75 s76 s77 s78 s79 s80 s81 : Value) (g cap : Nat) (w' : World), w'.heap[kb]? = some (kblk hb (.slice (some ⟨g, 0, none⟩) (n + 1) cap) fv mv) → w'.ownsRow B 105 8 (.slice (some ⟨g, 0, none⟩) (n + 1) cap) (n + 1) (xs ++ x.vals) → Turned (fun k => k = kb ∨ (Value.slice o n c).ownBlock = some k) w w' → ((Value.slice o n c).ownBlock = some g ∨ w.heap.size ≤ g) →
      Q .normal ⟨#[(.pointer (some ⟨kb,0,none⟩)),(.pointer (some ⟨vb,vo,none⟩)),u2,u3,u4,u5,(.int .i64 (i : Int)),u7,u8,u9,Ja,Jb,Jc,Jd,Je,Jf,Jg,Jh,Ji,Jj,Jk,Jl,Jm,Jn,Jo,Jp,Jq,Jr,Js,Jt,Ju,Jv,Jw,Jx,Jy,Jz,Qa,Qb,Qc,Qd,Qe,Qf,Qg,Qh,Qi,Qj,Qk,Ql,Qm,Qn,Qo,Qp,Qq,Qr,Qs,Qt,Qu,Qv,Qw,Qx,s60,s61,s62,s63,s64,s65,s66,s67,s68,s69,s70,s71,s72,s73,s74,s75,s76,s77,s78,s79,s80,s81,Yk,Yl,Ym,Yn,Yo,Yp,Yq,Yr,Ys,Yt,Yu,Yv,Yw,Yx,Yy,Yz,Ua,Ub,Uc,Ud,Ue,Uf,Ug,Uh,Ui,Uj,Uk,Ul,Um,Un], []⟩ w') :
    Code.wp Tryd.prog (Cut.piece Tryd.f109 (Cut.region 7)) Q ⟨#[(.pointer (some ⟨kb,0,none⟩)),(.pointer (some ⟨vb,vo,none⟩)),u2,u3,u4,u5,(.int .i64 (i : Int)),u7,u8,u9,Ja,Jb,Jc,Jd,Je,Jf,Jg,Jh,Ji,Jj,Jk,Jl,Jm,Jn,Jo,Jp,Jq,Jr,Js,Jt,Ju,Jv,Jw,Jx,Jy,Jz,Qa,Qb,Qc,Qd,Qe,Qf,Qg,Qh,Qi,Qj,Qk,Ql,Qm,Qn,Qo,Qp,Qq,Qr,Qs,Qt,Qu,Qv,Qw,Qx,Qy,Qz,Xe,Xg,Xh,Xi,Xj,Xk,Xn,Xo,Xp,Xq,Xt,Xu,Xv,Xx,Xy,Xz,Yg,Yh,Yi,Yj,Yk,Yl,Ym,Yn,Yo,Yp,Yq,Yr,Ys,Yt,Yu,Yv,Yw,Yx,Yy,Yz,Ua,Ub,Uc,Ud,Ue,Uf,Ug,Uh,Ui,Uj,Uk,Ul,Um,Un], []⟩ w := by
  have hsum : IntKind.i64.wrap ((a : Int) + (i : Int)) = (a : Int) + (i : Int) := wrapk_two a i hab
  have hml := max_of _ hnb
  have hbt := bytes_of _ hnb
  have k0 : w.cell? ⟨kb, 0, none⟩ = some (.pointer (some ⟨hb, 0, none⟩)) := cell_of_block hkb rfl
  have k1 : w.cell? ⟨kb, 1, none⟩ = some (.slice o n c) := cell_of_block hkb rfl
  obtain ⟨iC, hiC, hzC0, hzC1, hzC2⟩ := info_parts infoCell
  clear hnb hab
  have hXl := lt_of_block hX
  have hkl := lt_of_block hkb
  have hvl : vb < w.heap.size := World.block_lt_of_cell? w _ v1
  conv => arg 2; whnf
  refine RegT.begin (S := fun wz => wz.cell? ⟨kb, 0, none⟩ = some (.pointer (some ⟨hb, 0, none⟩)) ∧ wz.cell? ⟨kb, 1, none⟩ = some (.slice o n c) ∧ wz.cell? ⟨vb, vo + 1, none⟩ = some (.int .i64 (a : Int))) (L := 22) (by kernel_rfl) ⟨k0, k1, v1⟩ (fun hHeld => ?_)
  refine RegT.take (i := 0) (v := ?_) rfl (by kernel_rfl) (by kernel_rfl) (by kernel_rfl) (by kernel_rfl) (fun c a w h => hp c a _ _ w h) (Or.inl ⟨by rfl, ?_⟩) (by assumption) ?_
  rotate_left
  · intro w hSw; (try dsimp only at hSw); go_simp; first | done | with_reducible rfl
  try simp only [Act.put, List.setIfInBounds_toArray, List.set_cons_zero, List.set_cons_succ]
  refine RegT.take (i := 1) (v := ?_) rfl (by kernel_rfl) (by kernel_rfl) (by kernel_rfl) (by kernel_rfl) (fun c a w h => hp c a _ _ w h) (Or.inl ⟨by rfl, ?_⟩) (by assumption) ?_
  rotate_left
  · intro w hSw; (try dsimp only at hSw); go_simp; first | done | with_reducible rfl
  try simp only [Act.put, List.setIfInBounds_toArray, List.set_cons_zero, List.set_cons_succ]
  refine RegT.take (i := 2) (v := ?_) rfl (by kernel_rfl) (by kernel_rfl) (by kernel_rfl) (by kernel_rfl) (fun c a w h => hp c a _ _ w h) (Or.inl ⟨by rfl, ?_⟩) (by assumption) ?_
  rotate_left
  · intro w hSw; (try dsimp only at hSw); go_simp; first | done | with_reducible rfl
  try simp only [Act.put, List.setIfInBounds_toArray, List.set_cons_zero, List.set_cons_succ]
  refine RegT.take (i := 3) (v := ?_) rfl (by kernel_rfl) (by kernel_rfl) (by kernel_rfl) (by kernel_rfl) (fun c a w h => hp c a _ _ w h) (Or.inl ⟨by rfl, ?_⟩) (by assumption) ?_
  rotate_left
  · intro w hSw; (try dsimp only at hSw); go_simp; first | done | with_reducible rfl
  try simp only [Act.put, List.setIfInBounds_toArray, List.set_cons_zero, List.set_cons_succ]
  refine RegT.take (i := 4) (v := ?_) rfl (by kernel_rfl) (by kernel_rfl) (by kernel_rfl) (by kernel_rfl) (fun c a w h => hp c a _ _ w h) (Or.inl ⟨by rfl, ?_⟩) (by assumption) ?_
  rotate_left
  · intro w hSw; (try dsimp only at hSw); go_simp; first | done | with_reducible rfl
  try simp only [Act.put, List.setIfInBounds_toArray, List.set_cons_zero, List.set_cons_succ]
  refine RegT.take (i := 5) (v := ?_) rfl (by kernel_rfl) (by kernel_rfl) (by kernel_rfl) (by kernel_rfl) (fun c a w h => hp c a _ _ w h) (Or.inl ⟨by rfl, ?_⟩) (by assumption) ?_
  rotate_left
  · intro w hSw; (try dsimp only at hSw); go_simp; first | done | with_reducible rfl
  try simp only [Act.put, List.setIfInBounds_toArray, List.set_cons_zero, List.set_cons_succ]
  refine RegT.take (i := 6) (v := ?_) rfl (by kernel_rfl) (by kernel_rfl) (by kernel_rfl) (by kernel_rfl) (fun c a w h => hp c a _ _ w h) (Or.inl ⟨by rfl, ?_⟩) (by assumption) ?_
  rotate_left
  · intro w hSw; (try dsimp only at hSw); go_simp; first | done | with_reducible rfl
  try simp only [Act.put, List.setIfInBounds_toArray, List.set_cons_zero, List.set_cons_succ]
  refine RegT.take (i := 7) (v := ?_) rfl (by kernel_rfl) (by kernel_rfl) (by kernel_rfl) (by kernel_rfl) (fun c a w h => hp c a _ _ w h) (Or.inl ⟨by rfl, ?_⟩) (by assumption) ?_
  rotate_left
  · intro w hSw; (try dsimp only at hSw); go_simp; first | done | with_reducible rfl
  try simp only [Act.put, List.setIfInBounds_toArray, List.set_cons_zero, List.set_cons_succ]
  refine RegT.take (i := 8) (v := ?_) rfl (by kernel_rfl) (by kernel_rfl) (by kernel_rfl) (by kernel_rfl) (fun c a w h => hp c a _ _ w h) (Or.inl ⟨by rfl, ?_⟩) (by assumption) ?_
  rotate_left
  · intro w hSw; (try dsimp only at hSw); go_simp; first | done | with_reducible rfl
  try simp only [Act.put, List.setIfInBounds_toArray, List.set_cons_zero, List.set_cons_succ]
  refine RegT.take (i := 9) (v := ?_) rfl (by kernel_rfl) (by kernel_rfl) (by kernel_rfl) (by kernel_rfl) (fun c a w h => hp c a _ _ w h) (Or.inl ⟨by rfl, ?_⟩) (by assumption) ?_
  rotate_left
  · intro w hSw; (try dsimp only at hSw); go_simp; first | done | with_reducible rfl
  try simp only [Act.put, List.setIfInBounds_toArray, List.set_cons_zero, List.set_cons_succ]
  refine RegT.take (i := 10) (v := ?_) rfl (by kernel_rfl) (by kernel_rfl) (by kernel_rfl) (by kernel_rfl) (fun c a w h => hp c a _ _ w h) (Or.inl ⟨by rfl, ?_⟩) (by assumption) ?_
  rotate_left
  · intro w hSw; (try dsimp only at hSw); go_simp; first | done | with_reducible rfl
  try simp only [Act.put, List.setIfInBounds_toArray, List.set_cons_zero, List.set_cons_succ]
  refine RegT.take (i := 11) (v := ?_) rfl (by kernel_rfl) (by kernel_rfl) (by kernel_rfl) (by kernel_rfl) (fun c a w h => hp c a _ _ w h) (Or.inl ⟨by rfl, ?_⟩) (by assumption) ?_
  rotate_left
  · intro w hSw; (try dsimp only at hSw); go_simp; first | done | with_reducible rfl
  try simp only [Act.put, List.setIfInBounds_toArray, List.set_cons_zero, List.set_cons_succ]
  refine RegT.take (i := 12) (v := ?_) rfl (by kernel_rfl) (by kernel_rfl) (by kernel_rfl) (by kernel_rfl) (fun c a w h => hp c a _ _ w h) (Or.inl ⟨by rfl, ?_⟩) (by assumption) ?_
  rotate_left
  · intro w hSw; (try dsimp only at hSw); go_simp; first | done | with_reducible rfl
  try simp only [Act.put, List.setIfInBounds_toArray, List.set_cons_zero, List.set_cons_succ]
  refine RegT.take (i := 13) (v := ?_) rfl (by kernel_rfl) (by kernel_rfl) (by kernel_rfl) (by kernel_rfl) (fun c a w h => hp c a _ _ w h) (Or.inl ⟨by rfl, ?_⟩) (by assumption) ?_
  rotate_left
  · intro w hSw; (try dsimp only at hSw); go_simp; first | done | with_reducible rfl
  try simp only [Act.put, List.setIfInBounds_toArray, List.set_cons_zero, List.set_cons_succ]
  refine RegT.take (i := 14) (v := ?_) rfl (by kernel_rfl) (by kernel_rfl) (by kernel_rfl) (by kernel_rfl) (fun c a w h => hp c a _ _ w h) (Or.inl ⟨by rfl, ?_⟩) (by assumption) ?_
  rotate_left
  · intro w hSw; (try dsimp only at hSw); go_simp; first | done | with_reducible rfl
  try simp only [Act.put, List.setIfInBounds_toArray, List.set_cons_zero, List.set_cons_succ]
  refine RegT.one (i := 15) (by kernel_rfl) rfl (fun K hK => ?_)
  go_simp
  refine hcall.mono ?_
  rintro e w3 ⟨rfl, k, rfl⟩
  refine hK.out _ _ ⟨k0, k1, v1⟩ (fun hHeld => ?_)
  clear hK K hcall
  try simp only [Act.put, List.setIfInBounds_toArray, List.set_cons_zero, List.set_cons_succ]
  have hkb3 : (w.drew.drewN k).heap[kb]? = some (kblk hb (.slice o n c) fv mv) := hkb
  have hX3 : (w.drew.drewN k).heap[xb]? = some (.cells X 105 (0, 0)) := hX
  have hrow3 : (w.drew.drewN k).ownsRow B 105 8 (.slice o n c) n xs := hrow
  have hT3 : Turned (fun k => k = kb ∨ (Value.slice o n c).ownBlock = some k) w (w.drew.drewN k) := ((Turned.refl _ w).drew).drewN k
  have hB3 : B ≤ (w.drew.drewN k).heap.size := hB
  have hz3 : (w.drew.drewN k).heap.size = w.heap.size := rfl
  have v13 : (w.drew.drewN k).cell? ⟨vb, vo + 1, none⟩ = some (.int .i64 (a : Int)) := v1
  clear hkb hX hrow k0 k1 v1 hB
  generalize w.drew.drewN k = w3 at *
  have e0 : w3.cell? ⟨xb, yo, none⟩ = some (.int .i64 x.kind) := cell_of_block (i := yo) hX3 (hx 0 _ rfl)
  have e1 : w3.cell? ⟨xb, yo + 1, none⟩ = some (.int .i64 x.tag) := cell_of_block (i := yo + 1) hX3 (hx 1 _ rfl)
  have e2 : w3.cell? ⟨xb, yo + 2, none⟩ = some (.int .i64 x.id) := cell_of_block (i := yo + 2) hX3 (hx 2 _ rfl)
  have e3 : w3.cell? ⟨xb, yo + 3, none⟩ = some (.int .i64 x.size) := cell_of_block (i := yo + 3) hX3 (hx 3 _ rfl)
  have e4 : w3.cell? ⟨xb, yo + 4, none⟩ = some (.int .i64 x.vk) := cell_of_block (i := yo + 4) hX3 (hx 4 _ rfl)
  have e5 : w3.cell? ⟨xb, yo + 5, none⟩ = some (.int .i64 x.vn) := cell_of_block (i := yo + 5) hX3 (hx 5 _ rfl)
  have e6 : w3.cell? ⟨xb, yo + 6, none⟩ = some (.string x.vs) := cell_of_block (i := yo + 6) hX3 (hx 6 _ rfl)
  have e7 : w3.cell? ⟨xb, yo + 7, none⟩ = some (.int .i64 x.moved) := cell_of_block (i := yo + 7) hX3 (hx 7 _ rfl)
  refine RegT.one (i := 16) (by kernel_rfl) rfl (fun K hK => ?_)
  go_simp
  refine hK.out _ _ (by assumption) (fun hHeld => ?_)
  clear hK K
  try simp only [Act.put, List.setIfInBounds_toArray, List.set_cons_zero, List.set_cons_succ]
  refine RegT.one (i := 17) (by kernel_rfl) rfl (fun K hK => ?_)
  go_simp
  refine hK.out _ _ (by assumption) (fun hHeld => ?_)
  clear hK K
  try simp only [Act.put, List.setIfInBounds_toArray, List.set_cons_zero, List.set_cons_succ]
  clear e0 e1 e2 e3 e4 e5 e6 e7
  refine RegT.one (i := 18) (by kernel_rfl) rfl (fun K hK => ?_)
  go_simp
  refine hK.out _ _ ⟨alloc_cell hHeld.1 _, alloc_cell hHeld.2.1 _, alloc_cell hHeld.2.2 _⟩ (fun hHeld => ?_)
  clear hK K
  try simp only [Act.put, List.setIfInBounds_toArray, List.set_cons_zero, List.set_cons_succ]
  refine RegT.one (i := 19) (by kernel_rfl) rfl (fun K hK => ?_)
  refine step_append_lies _ (by rfl) _ _ _ (by rfl) B 105 iC _ 8 72 Tryd.underlying95 hiC hzC0 hzC1 hzC2 rfl (by decide) (.slice o n c) n xs (by rfl) (hrow3.alloc _) ⟨w.heap.size, 0, none⟩ 1 1 x.vals (by rfl) (by rfl) (World.news_of_block (cs := x.vals.toArray) (t := 105) (fr := (0, 0)) (heap_alloc_at hz3 _)) (by simp [HCell.vals, Value.oneCell']) (by decide) hml hbt (by simp; omega) (w.heap.size + 1) (by simp [hz3]) ?_
  intro g cap w4 hown4 hgrow4 hat4 hlt4
  have hkb4 : w4.heap[kb]? = some (kblk hb (.slice o n c) fv mv) := (hgrow4.block kb (by simp; omega) (fun h => t1 h.symm)).trans ((Below.heap_alloc w3 _ kb (by omega)).trans hkb3)
  have hv4 : w4.cell? ⟨vb, vo + 1, none⟩ = some (.int .i64 (a : Int)) := ((hgrow4.cell_far ⟨vb, vo + 1, none⟩ (by simp; omega) (fun h => t4 h.symm)).trans (Below.cell (B := w3.heap.size) ((Below.refl _ w3).alloc (Nat.le_refl _) _) (by simp; omega))).trans v13
  have hT4 : Turned (fun k => k = kb ∨ (Value.slice o n c).ownBlock = some k) w w4 := (hT3.alloc _).grown hgrow4 (fun k hk => Or.inl (Or.inr hk))
  have hg4 : (Value.slice o n c).ownBlock = some g ∨ w.heap.size ≤ g := hat4.imp id (fun h => by omega)
  have z0 : w4.cell? ⟨kb, 0, none⟩ = some (.pointer (some ⟨hb, 0, none⟩)) := cell_of_block hkb4 rfl
  have z1 : w4.cell? ⟨kb, 1, none⟩ = some (.slice o n c) := cell_of_block hkb4 rfl
  have zf : w4.frozen? ⟨kb, 1, none⟩ = false := frozen_of_block hkb4
  refine hK.out _ _ ⟨z0, z1, hv4⟩ (fun hHeld => ?_)
  clear hK K
  try simp only [Act.put, List.setIfInBounds_toArray, List.set_cons_zero, List.set_cons_succ]
  clear hat4 hgrow4 hX3 hrow3 hT3 v13 hkb3
  refine RegT.one (i := 20) (by kernel_rfl) rfl (fun K hK => ?_)
  go_simp
  refine hK.out _ _ (by assumption) (fun hHeld => ?_)
  clear hK K
  try simp only [Act.put, List.setIfInBounds_toArray, List.set_cons_zero, List.set_cons_succ]
  refine RegT.one (i := 21) (by kernel_rfl) rfl (fun K hK => ?_)
  go_simp
  refine hK.out _ _ (by assumption) (fun hHeld => ?_)
  clear hK K
  try simp only [Act.put, List.setIfInBounds_toArray, List.set_cons_zero, List.set_cons_succ]
  refine RegT.last (by kernel_rfl) rfl (by kernel_rfl) (fun K hK => ?_)
  go_simp
  refine hK.out _ _ ?_
  clear hK K
  try simp only [Act.put, List.setIfInBounds_toArray, List.set_cons_zero, List.set_cons_succ]
  refine hQ _ _ _ _ _ _ _ _ _ _ _ _ _ _ _ _ _ _ _ _ _ _ g cap _ ?_ ?_ ?_ hg4
  · exact blk_set hkb4 _
  · exact ownsRow_same hown4 (fun k hk => blk_ne (fun h => by simp at h; subst h; simp [Value.ownBlock] at hk; rcases hg4 with h1 | h1; exact t1 (h1.trans (by rw [hk])); omega))
  · exact hT4.setCell (Or.inl (Or.inl rfl)) _
end Go.Proofs.YthbkklnahhdgcaaDoor.ChCa

namespace Go.Proofs.YthbkklnahhdgcaaDoor.ChCb
open Go Go.Proofs Go.RowKit Lib HeapR HeapA HeapB HeapF ChA ChB ChCa

/-- What holds at each round's head. -/
def Rel (kb hb B n : Nat) (tv0 fv mv : Value) (xs : List Value) (ob : Ob) (w : World) (i : Nat) (wr : World) : Prop :=
  i ≤ ob.len ∧ ∃ o c, wr.heap[kb]? = some (kblk hb (.slice o (n + i) c) fv mv) ∧ wr.ownsRow B 105 8 (.slice o (n + i) c) (n + i) (xs ++ hvals ((ob.cells 0).take i)) ∧ Turned (fun k => k = kb ∨ tv0.ownBlock = some k) w wr ∧ ∀ k, (Value.slice o (n + i) c).ownBlock = some k → tv0.ownBlock = some k ∨ w.heap.size ≤ k

def Inv (kb hb vb vo B n : Nat) (tv0 fv mv : Value) (xs : List Value) (ob : Ob) (w : World) (u2 u3 u4 u5 u7 u8 u9 Ja Jb Jc Jd Je Jf Jg Jh Ji Jj Jk Jl Jm Jn Jo Jp Jq Jr Js Jt Ju Jv Jw Jx Jy Jz Qa Qb Qc Qd Qe Qf Qg Qh Qi Qj Qk Ql Qm Qn Qo Qp Qq Qr Qs Qt Yl Ym Yn Yo Yp Yq Yr Ys Yt Yu Yv Yw Yx Yy Yz Ua Ub Uc Ud Ue Uf Ug Uh Ui Uj Uk Ul Um Un : Value) (a : Act) (wr : World) : Prop :=
  ∃ (i : Nat) (s6 s58 s59 s60 s61 s62 s63 s64 s65 s66 s67 s68 s69 s70 s71 s72 s73 s74 s75 s76 s77 s78 s79 s80 s81 s82 : Value), Rel kb hb B n tv0 fv mv xs ob w i wr ∧ a = ⟨#[(.pointer (some ⟨kb,0,none⟩)),(.pointer (some ⟨vb,vo,none⟩)),u2,u3,u4,u5,s6,u7,u8,u9,Ja,Jb,Jc,Jd,Je,Jf,Jg,Jh,Ji,Jj,Jk,Jl,Jm,Jn,Jo,Jp,Jq,Jr,Js,Jt,Ju,Jv,Jw,Jx,Jy,Jz,Qa,Qb,Qc,Qd,Qe,Qf,Qg,Qh,Qi,Qj,Qk,Ql,Qm,Qn,Qo,Qp,Qq,Qr,Qs,Qt,(.int .i64 (ob.len : Int)),(.int .i64 (i : Int)),s58,s59,s60,s61,s62,s63,s64,s65,s66,s67,s68,s69,s70,s71,s72,s73,s74,s75,s76,s77,s78,s79,s80,s81,s82,Yl,Ym,Yn,Yo,Yp,Yq,Yr,Ys,Yt,Yu,Yv,Yw,Yx,Yy,Yz,Ua,Ub,Uc,Ud,Ue,Uf,Ug,Uh,Ui,Uj,Uk,Ul,Um,Un], []⟩
def mu (ob : Ob) (a : Act) (_ : World) : Nat := ob.len - (intOf (a.tmps.getD 57 undef)).toNat

theorem turned_row {w wr w' : World} {kb : Nat} {r0 r : Option Nat} (h : Turned (fun k => k = kb ∨ r0 = some k) w wr) (h' : Turned (fun k => k = kb ∨ r = some k) wr w') (ho : ∀ k, r = some k → r0 = some k ∨ w.heap.size ≤ k) (_ : kb < w.heap.size) : Turned (fun k => k = kb ∨ r0 = some k) w w' :=
  ⟨h'.os.trans h.os, h'.tape.trans h.tape, h'.output.trans h.output, Nat.le_trans h.size h'.size, fun k hk hs => (h'.block k (Nat.lt_of_lt_of_le hk h.size) (fun e => e.elim (fun e => hs (Or.inl e)) (fun e => (ho k e).elim (fun e => hs (Or.inr e)) (fun e => by omega)))).trans (h.block k hk hs)⟩
theorem hvals_snoc (l : List HCell) (i : Nat) (x : HCell) (h : l[i]? = some x) : hvals (l.take (i + 1)) = hvals (l.take i) ++ x.vals := by
  rw [List.take_add_one, h]
  simp [hvals]

theorem copy_loop {Q : Exit → Act → World → Prop} {u2 u3 u4 u5 u6 u7 u8 u9 Ja Jb Jc Jd Je Jf Jg Jh Ji Jj Jk Jl Jm Jn Jo Jp Jq Jr Js Jt Ju Jv Jw Jx Jy Jz Qa Qb Qc Qd Qe Qf Qg Qh Qi Qj Qk Ql Qm Qn Qo Qp Qq Qr Qs Qt Qw Qx Qy Qz Xe Xg Xh Xi Xj Xk Xn Xo Xp Xq Xt Xu Xv Xx Xy Xz Yg Yh Yi Yj Yk Yl Ym Yn Yo Yp Yq Yr Ys Yt Yu Yv Yw Yx Yy Yz Ua Ub Uc Ud Ue Uf Ug Uh Ui Uj Uk Ul Um Un : Value} (kb hb xb xo vb vo B : Nat) (a : Nat) (n : Nat) (tv0 fv mv : Value) (X : Array Value) (ob : Ob) (xs : List Value) (w : World)
    (hkb : w.heap[kb]? = some (kblk hb tv0 fv mv)) (v1 : w.cell? ⟨vb, vo + 1, none⟩ = some (.int .i64 (a : Int)))
    (hX : w.heap[xb]? = some (.cells X 105 (0, 0))) (hXc : ∀ (i : Nat) (c : HCell), (ob.cells 0)[i]? = some c → ∀ (j : Nat) (v : Value), c.vals[j]? = some v → X[xo + i * 8 + j]? = some v)
    (hat : ∀ (w1 : World), w1.heap[hb]? = w.heap[hb]? → ∀ i : Nat, i < ob.len → Calls Tryd.prog 36 #[.pointer (some ⟨hb, 0, none⟩), .int .i64 ((a : Int) + (i : Int))] w1 fun e w' => e = .returned (.pointer (some ⟨xb, xo + i * 8, none⟩)) ∧ ∃ k, w' = w1.drewN k)
    (hrow : w.ownsRow B 105 8 tv0 n xs) (hB : B ≤ w.heap.size) (t1 : tv0.ownBlock ≠ some kb) (t2 : tv0.ownBlock ≠ some hb) (t3 : tv0.ownBlock ≠ some xb) (t4 : tv0.ownBlock ≠ some vb) (d1 : hb ≠ kb) (d2 : xb ≠ kb) (d3 : vb ≠ kb) (hbl : hb < w.heap.size)
    (hnb : n + ob.len ≤ big) (hab : a + ob.len ≤ big)
    (hp : ∀ (c : List PanicEntry) (a : Act) (d : Tmp) (v : Value) (w : World), Q (.panic c) (a.put (some d) v) w → Q (.panic c) a w)
    (hQ : ∀ (s6 s58 s59 s60 s61 s62 s63 s64 s65 s66 s67 s68 s69 s70 s71 s72 s73 s74 s75 s76 s77 s78 s79 s80 s81 s82 : Value) (o : Option Addr) (c : Nat) (w' : World), w'.heap[kb]? = some (kblk hb (.slice o (n + ob.len) c) fv mv) → w'.ownsRow B 105 8 (.slice o (n + ob.len) c) (n + ob.len) (xs ++ hvals (ob.cells 0)) → Turned (fun k => k = kb ∨ tv0.ownBlock = some k) w w' → (∀ k, (Value.slice o (n + ob.len) c).ownBlock = some k → tv0.ownBlock = some k ∨ w.heap.size ≤ k) →
      Q (.exit 0) ⟨#[(.pointer (some ⟨kb,0,none⟩)),(.pointer (some ⟨vb,vo,none⟩)),u2,u3,u4,u5,s6,u7,u8,u9,Ja,Jb,Jc,Jd,Je,Jf,Jg,Jh,Ji,Jj,Jk,Jl,Jm,Jn,Jo,Jp,Jq,Jr,Js,Jt,Ju,Jv,Jw,Jx,Jy,Jz,Qa,Qb,Qc,Qd,Qe,Qf,Qg,Qh,Qi,Qj,Qk,Ql,Qm,Qn,Qo,Qp,Qq,Qr,Qs,Qt,(.int .i64 (ob.len : Int)),(.int .i64 (ob.len : Int)),s58,s59,s60,s61,s62,s63,s64,s65,s66,s67,s68,s69,s70,s71,s72,s73,s74,s75,s76,s77,s78,s79,s80,s81,s82,Yl,Ym,Yn,Yo,Yp,Yq,Yr,Ys,Yt,Yu,Yv,Yw,Yx,Yy,Yz,Ua,Ub,Uc,Ud,Ue,Uf,Ug,Uh,Ui,Uj,Uk,Ul,Um,Un], []⟩ w') :
    Code.wp Tryd.prog (Cut.piece Tryd.f109 (Cut.loop 7)) Q ⟨#[(.pointer (some ⟨kb,0,none⟩)),(.pointer (some ⟨vb,vo,none⟩)),u2,u3,u4,u5,u6,u7,u8,u9,Ja,Jb,Jc,Jd,Je,Jf,Jg,Jh,Ji,Jj,Jk,Jl,Jm,Jn,Jo,Jp,Jq,Jr,Js,Jt,Ju,Jv,Jw,Jx,Jy,Jz,Qa,Qb,Qc,Qd,Qe,Qf,Qg,Qh,Qi,Qj,Qk,Ql,Qm,Qn,Qo,Qp,Qq,Qr,Qs,Qt,(.int .i64 (ob.len : Int)),(.int .i64 (0 : Int)),Qw,Qx,Qy,Qz,Xe,Xg,Xh,Xi,Xj,Xk,Xn,Xo,Xp,Xq,Xt,Xu,Xv,Xx,Xy,Xz,Yg,Yh,Yi,Yj,Yk,Yl,Ym,Yn,Yo,Yp,Yq,Yr,Ys,Yt,Yu,Yv,Yw,Yx,Yy,Yz,Ua,Ub,Uc,Ud,Ue,Uf,Ug,Uh,Ui,Uj,Uk,Ul,Um,Un], []⟩ w := by
  conv => arg 2; whnf
  refine wp_loop (Inv kb hb vb vo B n tv0 fv mv xs ob w u2 u3 u4 u5 u7 u8 u9 Ja Jb Jc Jd Je Jf Jg Jh Ji Jj Jk Jl Jm Jn Jo Jp Jq Jr Js Jt Ju Jv Jw Jx Jy Jz Qa Qb Qc Qd Qe Qf Qg Qh Qi Qj Qk Ql Qm Qn Qo Qp Qq Qr Qs Qt Yl Ym Yn Yo Yp Yq Yr Ys Yt Yu Yv Yw Yx Yy Yz Ua Ub Uc Ud Ue Uf Ug Uh Ui Uj Uk Ul Um Un) (mu ob) ?_ (fun a' wr hI => ?_)
  · obtain ⟨o, c, rfl⟩ := own_slice hrow
    exact ⟨0, u6, Qw, Qx, Qy, Qz, Xe, Xg, Xh, Xi, Xj, Xk, Xn, Xo, Xp, Xq, Xt, Xu, Xv, Xx, Xy, Xz, Yg, Yh, Yi, Yj, Yk, ⟨Nat.zero_le _, o, c, hkb, by rw [List.take_zero]; simpa [hvals] using hrow, Turned.refl _ _, fun k h => Or.inl h⟩, rfl⟩
  obtain ⟨i, s6, s58, s59, s60, s61, s62, s63, s64, s65, s66, s67, s68, s69, s70, s71, s72, s73, s74, s75, s76, s77, s78, s79, s80, s81, s82, hI⟩ := hI
  obtain ⟨hR, rfl⟩ := hI
  obtain ⟨hi, o, c, hkbr, hrowr, hTr, hown⟩ := hR
  have hor : ∀ k, tv0.ownBlock ≠ some k → k < w.heap.size → (Value.slice o (n + i) c).ownBlock ≠ some k := fun k h1 h2 h3 => (hown k h3).elim h1 (fun h => by omega)
  have hvl : vb < w.heap.size := World.block_lt_of_cell? w _ v1
  have hkl := lt_of_block hkb
  have hXr : wr.heap[xb]? = some (.cells X 105 (0, 0)) := (hTr.block xb (lt_of_block hX) (fun h => h.elim d2 t3)).trans hX
  have hbr : wr.heap[hb]? = w.heap[hb]? := hTr.block hb hbl (fun h => h.elim d1 t2)
  have v1r : wr.cell? ⟨vb, vo + 1, none⟩ = some (.int .i64 (a : Int)) := (World.cell?_of_block (a := ⟨vb, vo + 1, none⟩) (hTr.block vb hvl (fun h => h.elim d3 t4))).trans v1
  have hBr : B ≤ wr.heap.size := Nat.le_trans hB hTr.size
  have q1 := hor kb t1 hkl
  have q4 := hor vb t4 hvl
  have hzr := hTr.size
  by_cases hil : i < ob.len
  · have hil' : decide ((i : Int) < (ob.len : Int)) = true := by simpa using hil
    obtain ⟨x, hx⟩ : ∃ x, (ob.cells 0)[i]? = some x := ⟨_, List.getElem?_eq_getElem (by rw [Ob.length_cells]; exact hil)⟩
    have hcall : ∀ k : Nat, Calls Tryd.prog 36 #[.pointer (some ⟨hb, 0, none⟩), .int .i64 ((a : Int) + (i : Int))] (wr.drew) fun e w' => e = .returned (.pointer (some ⟨xb, xo + i * 8, none⟩)) ∧ ∃ k, w' = (wr.drew).drewN k := fun _ => hat wr.drew hbr i hil
    have hb1 : n + i + 1 ≤ big := by omega
    have hb2 : a + i ≤ big := by omega
    have hsnoc := hvals_snoc (ob.cells 0) i x hx
    have hi1 : IntKind.i64.wrap ((i : Int) + 1) = ((i + 1 : Nat) : Int) := wrapk_two i 1 (by omega)
    go_wp2
    refine copy_region kb hb xb (xo + i * 8) vb vo B a i o (n + i) c fv mv X x (xs ++ hvals ((ob.cells 0).take i)) wr hkbr v1r hXr (fun j v hv => hXc i x hx j v hv) (hcall 0) hrowr hBr q1 q4 hb1 hb2 ?_ ?_
    · exact fun c a d v w h => hp c a d v w h
    intro t60 t61 t62 t63 t64 t65 t66 t67 t68 t69 t70 t71 t72 t73 t74 t75 t76 t77 t78 t79 t80 t81 g cap w' hkb' hrow' hT' hg
    clear hat hcall
    go_wp2
    refine ⟨⟨i + 1, _, _, _, _, _, _, _, _, _, _, _, _, _, _, _, _, _, _, _, _, _, _, _, _, _, _, ⟨by omega, some ⟨g, 0, none⟩, cap, hkb', by rw [hsnoc, ← List.append_assoc]; exact hrow', turned_row hTr hT' hown hkl, fun k hk => ?_⟩, rfl⟩, ?_⟩
    · simp only [Value.ownBlock, Option.some.injEq] at hk
      subst hk
      rcases hg with h | h
      · exact hown _ h
      · exact Or.inr (by omega)
    · have hi57 : i + 1 ≤ ob.len := by omega
      simp [mu, intOf]
      omega
  · have hie : i = ob.len := by omega
    subst hie
    have hil' : decide ((ob.len : Int) < (ob.len : Int)) = false := by simp
    go_wp2
    rw [List.take_of_length_le (by rw [Ob.length_cells]; omega)] at hrowr
    exact hQ _ _ _ _ _ _ _ _ _ _ _ _ _ _ _ _ _ _ _ _ _ _ _ _ _ _ o c wr hkbr hrowr hTr hown

end Go.Proofs.YthbkklnahhdgcaaDoor.ChCb
