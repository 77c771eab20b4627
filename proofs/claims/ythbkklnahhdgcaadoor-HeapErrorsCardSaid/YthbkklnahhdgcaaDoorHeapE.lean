/-
  Package heap's Alloc over a heap as plain data.
-/
import Derived.Test.YthbkklnahhdgcaaDoorHeapC
import Derived.Maps.OwnOps
namespace Go.Proofs.YthbkklnahhdgcaaDoor.HeapE
open Go Go.RowKit Go.Maps Go.Proofs.YthbkklnahhdgcaaDoor.Lib Go.Proofs.YthbkklnahhdgcaaDoor.HeapR Go.Proofs.YthbkklnahhdgcaaDoor.HeapC

variable {w : World} {hb nb mb : Nat} {ov rv : Value} {B : Nat} {H : HS}

set_option maxRecDepth 100000 in
set_option maxHeartbeats 1000000 in
theorem alloc_bad (kind tag size : Int) (a : Addr) (w : World) (h : kind < 1 ∨ 4 < kind ∨ size < 0 ∨ 1000 < size) :
    Calls Tryd.prog 13 #[.pointer (some a), .int .i64 kind, .int .i64 tag, .int .i64 size] w fun e w' => e = .returned (.tuple #[.int .i64 0, .iface 35 (.int .i64 1)]) ∧ w' = w := by
  rcases Int.lt_or_le kind 1 with h1 | h1
  · have g1 : decide (kind < 1) = true := by simpa using h1
    go_enter Tryd.func13, Tryd.ntmps13
    go_wp2
    go_ret2
    exact ⟨rfl, rfl⟩
  have g1 : decide (kind < 1) = false := by simpa using h1
  rcases Int.lt_or_le 4 kind with h2 | h2
  · have g2 : decide (4 < kind) = true := by simpa using h2
    go_enter Tryd.func13, Tryd.ntmps13
    go_wp2
    go_ret2
    exact ⟨rfl, rfl⟩
  have g2 : decide (4 < kind) = false := by simpa using h2
  rcases Int.lt_or_le size 0 with h3 | h3
  · have g3 : decide (size < 0) = true := by simpa using h3
    go_enter Tryd.func13, Tryd.ntmps13
    go_wp2
    go_ret2
    exact ⟨rfl, rfl⟩
  have g3 : decide (size < 0) = false := by simpa using h3
  have h4 : 1000 < size := by omega
  have g4 : decide (1000 < size) = true := by simpa using h4
  go_enter Tryd.func13, Tryd.ntmps13
  go_wp2
  go_ret2
  exact ⟨rfl, rfl⟩

set_option maxRecDepth 100000 in
set_option maxHeartbeats 1000000 in
theorem alloc_full (hb : Nat) (top room kind tag size : Int) (w : World)
    (c2 : w.cell? ⟨hb, 2, none⟩ = some (.int .i64 top)) (c3 : w.cell? ⟨hb, 3, none⟩ = some (.int .i64 room))
    (h1 : 1 ≤ kind) (h2 : kind ≤ 4) (h3 : 0 ≤ size) (h4 : size ≤ 1000) (ht : 0 ≤ top) (ht2 : top ≤ 65536) (hf : room < top + 1 + size) :
    Calls Tryd.prog 13 #[.pointer (some ⟨hb, 0, none⟩), .int .i64 kind, .int .i64 tag, .int .i64 size] w fun e w' => e = .returned (.tuple #[.int .i64 0, .iface 35 (.int .i64 12)]) ∧ ∃ n, w' = w.drewN n := by
  have g1 : decide (kind < 1) = false := by simpa using h1
  have g2 : decide (4 < kind) = false := by simpa using h2
  have g3 : decide (size < 0) = false := by simpa using h3
  have g4 : decide (1000 < size) = false := by simpa using h4
  have g5 : decide (room < top + 1 + size) = true := by simpa using hf
  go_enter Tryd.func13, Tryd.ntmps13
  go_wp2_with fail
  go_quiet (fail)
  go_wp2
  go_ret2
  exact ⟨rfl, _, rfl⟩
end Go.Proofs.YthbkklnahhdgcaaDoor.HeapE
