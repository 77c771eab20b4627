/-
  Contracts of package code's takes, ends, text.
-/
import Derived.Test.YthbkklnahhdgcaaDoorProg
import Derived.Test.YthbkklnahhdgcaaDoorDMA
import Derived.WalkKit
import Derived.Deep.QuietTactic
import Derived.BigQuiet
import Derived.LoopTactic
import Derived.Deep.LoopGhost
import Derived.OneCell
import Derived.Laws.AppendOwn
import Derived.Deep.AppendLies
import Derived.Deep.RegionHeld3
import Derived.Laws.Bits64
import Derived.Laws.Shifts
import Derived.Lib.AppendStr
import Derived.Lib.SlBytesConst
import Derived.Maps.OwnOps
import Derived.Maps.OwnSet
namespace Go.Proofs.YthbkklnahhdgcaaDoor.CodeA
open Go Go.Proofs Go.RowKit Lib CodeR

/-- What a walk that only makes new blocks leaves: close such an end. -/
theorem below_alloc {B : Nat} {w w' : World} (h : Below B w w') (o : Obj) (hB : B ≤ w.heap.size) : Below B w (w'.alloc o) :=
  ⟨h.os, h.tape, h.output, by have := h.size; simp; omega, fun k hk => (Below.heap_alloc _ _ _ (by have := h.size; omega)).trans (h.block k hk)⟩

set_option maxHeartbeats 1000000 in
theorem takes_1 (a b : Int) (w : World) : Calls Tryd.prog 84 #[.agg #[.int .i64 1, .int .i64 a, .int .i64 b]] w fun e w' => e = .returned (.tuple #[.int .i64 (takeI ⟨1, a, b⟩), .int .i64 (leaveI ⟨1, a, b⟩)]) ∧ Below w.heap.size w w' := by
  go_enter Tryd.func84, Tryd.ntmps84
  go_wp2
  go_ret2
  exact ⟨by simp [takeI, leaveI], below_alloc (Below.refl _ _) _ (Nat.le_refl _)⟩

set_option maxHeartbeats 1000000 in
theorem takes_2 (a b : Int) (w : World) : Calls Tryd.prog 84 #[.agg #[.int .i64 2, .int .i64 a, .int .i64 b]] w fun e w' => e = .returned (.tuple #[.int .i64 (takeI ⟨2, a, b⟩), .int .i64 (leaveI ⟨2, a, b⟩)]) ∧ Below w.heap.size w w' := by
  go_enter Tryd.func84, Tryd.ntmps84
  go_wp2
  go_ret2
  exact ⟨by simp [takeI, leaveI], below_alloc (Below.refl _ _) _ (Nat.le_refl _)⟩

set_option maxHeartbeats 1000000 in
theorem takes_3 (a b : Int) (w : World) : Calls Tryd.prog 84 #[.agg #[.int .i64 3, .int .i64 a, .int .i64 b]] w fun e w' => e = .returned (.tuple #[.int .i64 (takeI ⟨3, a, b⟩), .int .i64 (leaveI ⟨3, a, b⟩)]) ∧ Below w.heap.size w w' := by
  go_enter Tryd.func84, Tryd.ntmps84
  go_wp2
  go_ret2
  exact ⟨by simp [takeI, leaveI], below_alloc (Below.refl _ _) _ (Nat.le_refl _)⟩

set_option maxHeartbeats 1000000 in
theorem takes_4 (a b : Int) (w : World) : Calls Tryd.prog 84 #[.agg #[.int .i64 4, .int .i64 a, .int .i64 b]] w fun e w' => e = .returned (.tuple #[.int .i64 (takeI ⟨4, a, b⟩), .int .i64 (leaveI ⟨4, a, b⟩)]) ∧ Below w.heap.size w w' := by
  go_enter Tryd.func84, Tryd.ntmps84
  go_wp2
  go_ret2
  exact ⟨by simp [takeI, leaveI], below_alloc (Below.refl _ _) _ (Nat.le_refl _)⟩

set_option maxHeartbeats 1000000 in
theorem takes_5 (a b : Int) (w : World) : Calls Tryd.prog 84 #[.agg #[.int .i64 5, .int .i64 a, .int .i64 b]] w fun e w' => e = .returned (.tuple #[.int .i64 (takeI ⟨5, a, b⟩), .int .i64 (leaveI ⟨5, a, b⟩)]) ∧ Below w.heap.size w w' := by
  go_enter Tryd.func84, Tryd.ntmps84
  go_wp2
  go_ret2
  exact ⟨by simp [takeI, leaveI], below_alloc (Below.refl _ _) _ (Nat.le_refl _)⟩

set_option maxHeartbeats 1000000 in
theorem takes_6 (a b : Int) (w : World) : Calls Tryd.prog 84 #[.agg #[.int .i64 6, .int .i64 a, .int .i64 b]] w fun e w' => e = .returned (.tuple #[.int .i64 (takeI ⟨6, a, b⟩), .int .i64 (leaveI ⟨6, a, b⟩)]) ∧ Below w.heap.size w w' := by
  go_enter Tryd.func84, Tryd.ntmps84
  go_wp2
  go_ret2
  exact ⟨by simp [takeI, leaveI], below_alloc (Below.refl _ _) _ (Nat.le_refl _)⟩

set_option maxHeartbeats 1000000 in
theorem takes_7 (a b : Int) (w : World) : Calls Tryd.prog 84 #[.agg #[.int .i64 7, .int .i64 a, .int .i64 b]] w fun e w' => e = .returned (.tuple #[.int .i64 (takeI ⟨7, a, b⟩), .int .i64 (leaveI ⟨7, a, b⟩)]) ∧ Below w.heap.size w w' := by
  go_enter Tryd.func84, Tryd.ntmps84
  go_wp2
  go_ret2
  exact ⟨by simp [takeI, leaveI], below_alloc (Below.refl _ _) _ (Nat.le_refl _)⟩

set_option maxHeartbeats 1000000 in
theorem takes_8 (a b : Int) (w : World) : Calls Tryd.prog 84 #[.agg #[.int .i64 8, .int .i64 a, .int .i64 b]] w fun e w' => e = .returned (.tuple #[.int .i64 (takeI ⟨8, a, b⟩), .int .i64 (leaveI ⟨8, a, b⟩)]) ∧ Below w.heap.size w w' := by
  go_enter Tryd.func84, Tryd.ntmps84
  go_wp2
  go_ret2
  exact ⟨by simp [takeI, leaveI], below_alloc (Below.refl _ _) _ (Nat.le_refl _)⟩

set_option maxHeartbeats 1000000 in
theorem takes_9 (a b : Int) (w : World) : Calls Tryd.prog 84 #[.agg #[.int .i64 9, .int .i64 a, .int .i64 b]] w fun e w' => e = .returned (.tuple #[.int .i64 (takeI ⟨9, a, b⟩), .int .i64 (leaveI ⟨9, a, b⟩)]) ∧ Below w.heap.size w w' := by
  go_enter Tryd.func84, Tryd.ntmps84
  go_wp2
  go_ret2
  exact ⟨by simp [takeI, leaveI], below_alloc (Below.refl _ _) _ (Nat.le_refl _)⟩

set_option maxHeartbeats 1000000 in
theorem takes_10 (a b : Int) (w : World) : Calls Tryd.prog 84 #[.agg #[.int .i64 10, .int .i64 a, .int .i64 b]] w fun e w' => e = .returned (.tuple #[.int .i64 (takeI ⟨10, a, b⟩), .int .i64 (leaveI ⟨10, a, b⟩)]) ∧ Below w.heap.size w w' := by
  go_enter Tryd.func84, Tryd.ntmps84
  go_wp2
  go_ret2
  exact ⟨by simp [takeI, leaveI], below_alloc (Below.refl _ _) _ (Nat.le_refl _)⟩

set_option maxHeartbeats 1000000 in
theorem takes_11 (a b : Int) (w : World) : Calls Tryd.prog 84 #[.agg #[.int .i64 11, .int .i64 a, .int .i64 b]] w fun e w' => e = .returned (.tuple #[.int .i64 (takeI ⟨11, a, b⟩), .int .i64 (leaveI ⟨11, a, b⟩)]) ∧ Below w.heap.size w w' := by
  go_enter Tryd.func84, Tryd.ntmps84
  go_wp2
  go_ret2
  exact ⟨by simp [takeI, leaveI], below_alloc (Below.refl _ _) _ (Nat.le_refl _)⟩

set_option maxHeartbeats 1000000 in
theorem takes_12 (a b : Int) (w : World) : Calls Tryd.prog 84 #[.agg #[.int .i64 12, .int .i64 a, .int .i64 b]] w fun e w' => e = .returned (.tuple #[.int .i64 (takeI ⟨12, a, b⟩), .int .i64 (leaveI ⟨12, a, b⟩)]) ∧ Below w.heap.size w w' := by
  go_enter Tryd.func84, Tryd.ntmps84
  go_wp2
  go_ret2
  exact ⟨by simp [takeI, leaveI], below_alloc (Below.refl _ _) _ (Nat.le_refl _)⟩

set_option maxHeartbeats 1000000 in
theorem takes_13 (a b : Int) (w : World) : Calls Tryd.prog 84 #[.agg #[.int .i64 13, .int .i64 a, .int .i64 b]] w fun e w' => e = .returned (.tuple #[.int .i64 (takeI ⟨13, a, b⟩), .int .i64 (leaveI ⟨13, a, b⟩)]) ∧ Below w.heap.size w w' := by
  go_enter Tryd.func84, Tryd.ntmps84
  go_wp2
  go_ret2
  exact ⟨by simp [takeI, leaveI], below_alloc (Below.refl _ _) _ (Nat.le_refl _)⟩

set_option maxHeartbeats 1000000 in
theorem takes_14 (a b : Int) (w : World) : Calls Tryd.prog 84 #[.agg #[.int .i64 14, .int .i64 a, .int .i64 b]] w fun e w' => e = .returned (.tuple #[.int .i64 (takeI ⟨14, a, b⟩), .int .i64 (leaveI ⟨14, a, b⟩)]) ∧ Below w.heap.size w w' := by
  go_enter Tryd.func84, Tryd.ntmps84
  go_wp2
  go_ret2
  exact ⟨by simp [takeI, leaveI], below_alloc (Below.refl _ _) _ (Nat.le_refl _)⟩

set_option maxHeartbeats 1000000 in
theorem takes_15 (a b : Int) (w : World) : Calls Tryd.prog 84 #[.agg #[.int .i64 15, .int .i64 a, .int .i64 b]] w fun e w' => e = .returned (.tuple #[.int .i64 (takeI ⟨15, a, b⟩), .int .i64 (leaveI ⟨15, a, b⟩)]) ∧ Below w.heap.size w w' := by
  go_enter Tryd.func84, Tryd.ntmps84
  go_wp2
  go_ret2
  exact ⟨by simp [takeI, leaveI], below_alloc (Below.refl _ _) _ (Nat.le_refl _)⟩

set_option maxHeartbeats 1000000 in
theorem takes_16 (a b : Int) (w : World) : Calls Tryd.prog 84 #[.agg #[.int .i64 16, .int .i64 a, .int .i64 b]] w fun e w' => e = .returned (.tuple #[.int .i64 (takeI ⟨16, a, b⟩), .int .i64 (leaveI ⟨16, a, b⟩)]) ∧ Below w.heap.size w w' := by
  go_enter Tryd.func84, Tryd.ntmps84
  go_wp2
  go_ret2
  exact ⟨by simp [takeI, leaveI], below_alloc (Below.refl _ _) _ (Nat.le_refl _)⟩

set_option maxHeartbeats 1000000 in
theorem takes_17 (a b : Int) (w : World) : Calls Tryd.prog 84 #[.agg #[.int .i64 17, .int .i64 a, .int .i64 b]] w fun e w' => e = .returned (.tuple #[.int .i64 (takeI ⟨17, a, b⟩), .int .i64 (leaveI ⟨17, a, b⟩)]) ∧ Below w.heap.size w w' := by
  go_enter Tryd.func84, Tryd.ntmps84
  go_wp2
  go_ret2
  exact ⟨by simp [takeI, leaveI], below_alloc (Below.refl _ _) _ (Nat.le_refl _)⟩

set_option maxHeartbeats 1000000 in
theorem takes_18 (a b : Int) (w : World) : Calls Tryd.prog 84 #[.agg #[.int .i64 18, .int .i64 a, .int .i64 b]] w fun e w' => e = .returned (.tuple #[.int .i64 (takeI ⟨18, a, b⟩), .int .i64 (leaveI ⟨18, a, b⟩)]) ∧ Below w.heap.size w w' := by
  go_enter Tryd.func84, Tryd.ntmps84
  go_wp2
  go_ret2
  exact ⟨by simp [takeI, leaveI], below_alloc (Below.refl _ _) _ (Nat.le_refl _)⟩

set_option maxHeartbeats 1000000 in
theorem takes_19 (a b : Int) (w : World) : Calls Tryd.prog 84 #[.agg #[.int .i64 19, .int .i64 a, .int .i64 b]] w fun e w' => e = .returned (.tuple #[.int .i64 (takeI ⟨19, a, b⟩), .int .i64 (leaveI ⟨19, a, b⟩)]) ∧ Below w.heap.size w w' := by
  go_enter Tryd.func84, Tryd.ntmps84
  go_wp2
  go_ret2
  exact ⟨by simp [takeI, leaveI], below_alloc (Below.refl _ _) _ (Nat.le_refl _)⟩

set_option maxHeartbeats 1000000 in
theorem takes_20 (a b : Int) (w : World) : Calls Tryd.prog 84 #[.agg #[.int .i64 20, .int .i64 a, .int .i64 b]] w fun e w' => e = .returned (.tuple #[.int .i64 (takeI ⟨20, a, b⟩), .int .i64 (leaveI ⟨20, a, b⟩)]) ∧ Below w.heap.size w w' := by
  go_enter Tryd.func84, Tryd.ntmps84
  go_wp2
  go_ret2
  exact ⟨by simp [takeI, leaveI], below_alloc (Below.refl _ _) _ (Nat.le_refl _)⟩

set_option maxHeartbeats 1000000 in
theorem takes_21 (a b : Int) (w : World) : Calls Tryd.prog 84 #[.agg #[.int .i64 21, .int .i64 a, .int .i64 b]] w fun e w' => e = .returned (.tuple #[.int .i64 (takeI ⟨21, a, b⟩), .int .i64 (leaveI ⟨21, a, b⟩)]) ∧ Below w.heap.size w w' := by
  go_enter Tryd.func84, Tryd.ntmps84
  go_wp2
  go_ret2
  exact ⟨by simp [takeI, leaveI], below_alloc (Below.refl _ _) _ (Nat.le_refl _)⟩

set_option maxHeartbeats 1000000 in
theorem takes_22 (a b : Int) (w : World) : Calls Tryd.prog 84 #[.agg #[.int .i64 22, .int .i64 a, .int .i64 b]] w fun e w' => e = .returned (.tuple #[.int .i64 (takeI ⟨22, a, b⟩), .int .i64 (leaveI ⟨22, a, b⟩)]) ∧ Below w.heap.size w w' := by
  go_enter Tryd.func84, Tryd.ntmps84
  go_wp2
  go_ret2
  exact ⟨by simp [takeI, leaveI], below_alloc (Below.refl _ _) _ (Nat.le_refl _)⟩

set_option maxHeartbeats 1000000 in
theorem takes_23 (a b : Int) (w : World) : Calls Tryd.prog 84 #[.agg #[.int .i64 23, .int .i64 a, .int .i64 b]] w fun e w' => e = .returned (.tuple #[.int .i64 (takeI ⟨23, a, b⟩), .int .i64 (leaveI ⟨23, a, b⟩)]) ∧ Below w.heap.size w w' := by
  go_enter Tryd.func84, Tryd.ntmps84
  go_wp2
  go_ret2
  exact ⟨by simp [takeI, leaveI], below_alloc (Below.refl _ _) _ (Nat.le_refl _)⟩

set_option maxHeartbeats 1000000 in
theorem takes_24 (a b : Int) (w : World) : Calls Tryd.prog 84 #[.agg #[.int .i64 24, .int .i64 a, .int .i64 b]] w fun e w' => e = .returned (.tuple #[.int .i64 (takeI ⟨24, a, b⟩), .int .i64 (leaveI ⟨24, a, b⟩)]) ∧ Below w.heap.size w w' := by
  go_enter Tryd.func84, Tryd.ntmps84
  go_wp2
  go_ret2
  exact ⟨by simp [takeI, leaveI], below_alloc (Below.refl _ _) _ (Nat.le_refl _)⟩

set_option maxHeartbeats 1000000 in
theorem takes_25 (a b : Int) (w : World) : Calls Tryd.prog 84 #[.agg #[.int .i64 25, .int .i64 a, .int .i64 b]] w fun e w' => e = .returned (.tuple #[.int .i64 (takeI ⟨25, a, b⟩), .int .i64 (leaveI ⟨25, a, b⟩)]) ∧ Below w.heap.size w w' := by
  go_enter Tryd.func84, Tryd.ntmps84
  go_wp2
  go_ret2
  exact ⟨by simp [takeI, leaveI], below_alloc (Below.refl _ _) _ (Nat.le_refl _)⟩

set_option maxHeartbeats 1000000 in
theorem takes_26 (a b : Int) (w : World) : Calls Tryd.prog 84 #[.agg #[.int .i64 26, .int .i64 a, .int .i64 b]] w fun e w' => e = .returned (.tuple #[.int .i64 (takeI ⟨26, a, b⟩), .int .i64 (leaveI ⟨26, a, b⟩)]) ∧ Below w.heap.size w w' := by
  go_enter Tryd.func84, Tryd.ntmps84
  go_wp2
  go_ret2
  exact ⟨by simp [takeI, leaveI], below_alloc (Below.refl _ _) _ (Nat.le_refl _)⟩

set_option maxHeartbeats 1000000 in
theorem takes_27 (a b : Int) (w : World) : Calls Tryd.prog 84 #[.agg #[.int .i64 27, .int .i64 a, .int .i64 b]] w fun e w' => e = .returned (.tuple #[.int .i64 (takeI ⟨27, a, b⟩), .int .i64 (leaveI ⟨27, a, b⟩)]) ∧ Below w.heap.size w w' := by
  go_enter Tryd.func84, Tryd.ntmps84
  go_wp2
  go_ret2
  exact ⟨by simp [takeI, leaveI], below_alloc (Below.refl _ _) _ (Nat.le_refl _)⟩

set_option maxHeartbeats 1000000 in
theorem takes_28 (a b : Int) (w : World) : Calls Tryd.prog 84 #[.agg #[.int .i64 28, .int .i64 a, .int .i64 b]] w fun e w' => e = .returned (.tuple #[.int .i64 (takeI ⟨28, a, b⟩), .int .i64 (leaveI ⟨28, a, b⟩)]) ∧ Below w.heap.size w w' := by
  go_enter Tryd.func84, Tryd.ntmps84
  go_wp2
  go_ret2
  exact ⟨by simp [takeI, leaveI], below_alloc (Below.refl _ _) _ (Nat.le_refl _)⟩

set_option maxHeartbeats 1000000 in
theorem takes_29 (a b : Int) (w : World) : Calls Tryd.prog 84 #[.agg #[.int .i64 29, .int .i64 a, .int .i64 b]] w fun e w' => e = .returned (.tuple #[.int .i64 (takeI ⟨29, a, b⟩), .int .i64 (leaveI ⟨29, a, b⟩)]) ∧ Below w.heap.size w w' := by
  go_enter Tryd.func84, Tryd.ntmps84
  go_wp2
  go_ret2
  exact ⟨by simp [takeI, leaveI], below_alloc (Below.refl _ _) _ (Nat.le_refl _)⟩

set_option maxHeartbeats 1000000 in
theorem takes_30 (a b : Int) (w : World) : Calls Tryd.prog 84 #[.agg #[.int .i64 30, .int .i64 a, .int .i64 b]] w fun e w' => e = .returned (.tuple #[.int .i64 (takeI ⟨30, a, b⟩), .int .i64 (leaveI ⟨30, a, b⟩)]) ∧ Below w.heap.size w w' := by
  go_enter Tryd.func84, Tryd.ntmps84
  go_wp2
  go_ret2
  exact ⟨by simp [takeI, leaveI], below_alloc (Below.refl _ _) _ (Nat.le_refl _)⟩

set_option maxHeartbeats 1000000 in
theorem takes_31 (a b : Int) (w : World) : Calls Tryd.prog 84 #[.agg #[.int .i64 31, .int .i64 a, .int .i64 b]] w fun e w' => e = .returned (.tuple #[.int .i64 (takeI ⟨31, a, b⟩), .int .i64 (leaveI ⟨31, a, b⟩)]) ∧ Below w.heap.size w w' := by
  go_enter Tryd.func84, Tryd.ntmps84
  go_wp2
  go_ret2
  exact ⟨by simp [takeI, leaveI], below_alloc (Below.refl _ _) _ (Nat.le_refl _)⟩

set_option maxHeartbeats 1000000 in
theorem takes_32 (a b : Int) (w : World) : Calls Tryd.prog 84 #[.agg #[.int .i64 32, .int .i64 a, .int .i64 b]] w fun e w' => e = .returned (.tuple #[.int .i64 (takeI ⟨32, a, b⟩), .int .i64 (leaveI ⟨32, a, b⟩)]) ∧ Below w.heap.size w w' := by
  go_enter Tryd.func84, Tryd.ntmps84
  go_wp2
  go_ret2
  exact ⟨by simp [takeI, leaveI], below_alloc (Below.refl _ _) _ (Nat.le_refl _)⟩

set_option maxHeartbeats 1000000 in
theorem takes_33 (a b : Int) (w : World) : Calls Tryd.prog 84 #[.agg #[.int .i64 33, .int .i64 a, .int .i64 b]] w fun e w' => e = .returned (.tuple #[.int .i64 (takeI ⟨33, a, b⟩), .int .i64 (leaveI ⟨33, a, b⟩)]) ∧ Below w.heap.size w w' := by
  go_enter Tryd.func84, Tryd.ntmps84
  go_wp2
  go_ret2
  exact ⟨by simp [takeI, leaveI], below_alloc (Below.refl _ _) _ (Nat.le_refl _)⟩

set_option maxHeartbeats 1000000 in
theorem takes_34 (a b : Int) (w : World) (hb : 0 ≤ b ∧ b ≤ 50) : Calls Tryd.prog 84 #[.agg #[.int .i64 34, .int .i64 a, .int .i64 b]] w fun e w' => e = .returned (.tuple #[.int .i64 (takeI ⟨34, a, b⟩), .int .i64 (leaveI ⟨34, a, b⟩)]) ∧ Below w.heap.size w w' := by
  go_enter Tryd.func84, Tryd.ntmps84
  go_wp2
  go_ret2
  exact ⟨by simp [takeI, leaveI], below_alloc (Below.refl _ _) _ (Nat.le_refl _)⟩

set_option maxHeartbeats 1000000 in
theorem takes_35 (a b : Int) (w : World) (hb : 0 ≤ b) : Calls Tryd.prog 84 #[.agg #[.int .i64 35, .int .i64 a, .int .i64 b]] w fun e w' => e = .returned (.tuple #[.int .i64 (takeI ⟨35, a, b⟩), .int .i64 (leaveI ⟨35, a, b⟩)]) ∧ Below w.heap.size w w' := by
  have h1 : 0 ≤ b.tmod 64 := Int.tmod_nonneg _ hb
  have h2 : b.tmod 64 < 64 := Int.tmod_lt_of_pos _ (by omega)
  go_enter Tryd.func84, Tryd.ntmps84
  go_wp2
  go_ret2
  exact ⟨by simp [takeI, leaveI, Int.tmod_eq_emod_of_nonneg hb], below_alloc (Below.refl _ _) _ (Nat.le_refl _)⟩

set_option maxHeartbeats 1000000 in
theorem takes_36 (a b : Int) (w : World) : Calls Tryd.prog 84 #[.agg #[.int .i64 36, .int .i64 a, .int .i64 b]] w fun e w' => e = .returned (.tuple #[.int .i64 (takeI ⟨36, a, b⟩), .int .i64 (leaveI ⟨36, a, b⟩)]) ∧ Below w.heap.size w w' := by
  go_enter Tryd.func84, Tryd.ntmps84
  go_wp2
  go_ret2
  exact ⟨by simp [takeI, leaveI], below_alloc (Below.refl _ _) _ (Nat.le_refl _)⟩

set_option maxHeartbeats 1000000 in
theorem takes_37 (a b : Int) (w : World) (hb : 0 ≤ b ∧ b ≤ 50) : Calls Tryd.prog 84 #[.agg #[.int .i64 37, .int .i64 a, .int .i64 b]] w fun e w' => e = .returned (.tuple #[.int .i64 (takeI ⟨37, a, b⟩), .int .i64 (leaveI ⟨37, a, b⟩)]) ∧ Below w.heap.size w w' := by
  go_enter Tryd.func84, Tryd.ntmps84
  go_wp2
  go_ret2
  exact ⟨by simp [takeI, leaveI], below_alloc (Below.refl _ _) _ (Nat.le_refl _)⟩

set_option maxHeartbeats 1000000 in
theorem takes_38 (a b : Int) (w : World) : Calls Tryd.prog 84 #[.agg #[.int .i64 38, .int .i64 a, .int .i64 b]] w fun e w' => e = .returned (.tuple #[.int .i64 (takeI ⟨38, a, b⟩), .int .i64 (leaveI ⟨38, a, b⟩)]) ∧ Below w.heap.size w w' := by
  go_enter Tryd.func84, Tryd.ntmps84
  go_wp2
  go_ret2
  exact ⟨by simp [takeI, leaveI], below_alloc (Below.refl _ _) _ (Nat.le_refl _)⟩

set_option maxHeartbeats 1000000 in
theorem takes_39 (a b : Int) (w : World) : Calls Tryd.prog 84 #[.agg #[.int .i64 39, .int .i64 a, .int .i64 b]] w fun e w' => e = .returned (.tuple #[.int .i64 (takeI ⟨39, a, b⟩), .int .i64 (leaveI ⟨39, a, b⟩)]) ∧ Below w.heap.size w w' := by
  go_enter Tryd.func84, Tryd.ntmps84
  go_wp2
  go_ret2
  exact ⟨by simp [takeI, leaveI], below_alloc (Below.refl _ _) _ (Nat.le_refl _)⟩

set_option maxHeartbeats 1000000 in
theorem takes_40 (a b : Int) (w : World) : Calls Tryd.prog 84 #[.agg #[.int .i64 40, .int .i64 a, .int .i64 b]] w fun e w' => e = .returned (.tuple #[.int .i64 (takeI ⟨40, a, b⟩), .int .i64 (leaveI ⟨40, a, b⟩)]) ∧ Below w.heap.size w w' := by
  go_enter Tryd.func84, Tryd.ntmps84
  go_wp2
  go_ret2
  exact ⟨by simp [takeI, leaveI], below_alloc (Below.refl _ _) _ (Nat.le_refl _)⟩

set_option maxHeartbeats 1000000 in
theorem takes_41 (a b : Int) (w : World) : Calls Tryd.prog 84 #[.agg #[.int .i64 41, .int .i64 a, .int .i64 b]] w fun e w' => e = .returned (.tuple #[.int .i64 (takeI ⟨41, a, b⟩), .int .i64 (leaveI ⟨41, a, b⟩)]) ∧ Below w.heap.size w w' := by
  go_enter Tryd.func84, Tryd.ntmps84
  go_wp2
  go_ret2
  exact ⟨by simp [takeI, leaveI], below_alloc (Below.refl _ _) _ (Nat.le_refl _)⟩

set_option maxHeartbeats 1000000 in
theorem takes_42 (a b : Int) (w : World) : Calls Tryd.prog 84 #[.agg #[.int .i64 42, .int .i64 a, .int .i64 b]] w fun e w' => e = .returned (.tuple #[.int .i64 (takeI ⟨42, a, b⟩), .int .i64 (leaveI ⟨42, a, b⟩)]) ∧ Below w.heap.size w w' := by
  go_enter Tryd.func84, Tryd.ntmps84
  go_wp2
  go_ret2
  exact ⟨by simp [takeI, leaveI], below_alloc (Below.refl _ _) _ (Nat.le_refl _)⟩

set_option maxHeartbeats 1000000 in
theorem takes_43 (a b : Int) (w : World) : Calls Tryd.prog 84 #[.agg #[.int .i64 43, .int .i64 a, .int .i64 b]] w fun e w' => e = .returned (.tuple #[.int .i64 (takeI ⟨43, a, b⟩), .int .i64 (leaveI ⟨43, a, b⟩)]) ∧ Below w.heap.size w w' := by
  go_enter Tryd.func84, Tryd.ntmps84
  go_wp2
  go_ret2
  exact ⟨by simp [takeI, leaveI], below_alloc (Below.refl _ _) _ (Nat.le_refl _)⟩

set_option maxHeartbeats 1000000 in
theorem takes_44 (a b : Int) (w : World) : Calls Tryd.prog 84 #[.agg #[.int .i64 44, .int .i64 a, .int .i64 b]] w fun e w' => e = .returned (.tuple #[.int .i64 (takeI ⟨44, a, b⟩), .int .i64 (leaveI ⟨44, a, b⟩)]) ∧ Below w.heap.size w w' := by
  go_enter Tryd.func84, Tryd.ntmps84
  go_wp2
  go_ret2
  exact ⟨by simp [takeI, leaveI], below_alloc (Below.refl _ _) _ (Nat.le_refl _)⟩

set_option maxHeartbeats 1000000 in
theorem takes_45 (a b : Int) (w : World) : Calls Tryd.prog 84 #[.agg #[.int .i64 45, .int .i64 a, .int .i64 b]] w fun e w' => e = .returned (.tuple #[.int .i64 (takeI ⟨45, a, b⟩), .int .i64 (leaveI ⟨45, a, b⟩)]) ∧ Below w.heap.size w w' := by
  go_enter Tryd.func84, Tryd.ntmps84
  go_wp2
  go_ret2
  exact ⟨by simp [takeI, leaveI], below_alloc (Below.refl _ _) _ (Nat.le_refl _)⟩

theorem takes_any (x : I3) (w : World) (ho : 1 ≤ x.op ∧ x.op ≤ 45) (hb : x.op = 34 ∨ x.op = 37 → 0 ≤ x.b ∧ x.b ≤ 50) (hc : x.op = 35 → 0 ≤ x.b) :
    Calls Tryd.prog 84 #[.agg #[.int .i64 x.op, .int .i64 x.a, .int .i64 x.b]] w fun e w' => e = .returned (.tuple #[.int .i64 (takeI x), .int .i64 (leaveI x)]) ∧ Below w.heap.size w w' := by
  obtain ⟨op, a, b⟩ := x
  simp only at ho hb hc ⊢
  have hcase : op = 1 ∨ op = 2 ∨ op = 3 ∨ op = 4 ∨ op = 5 ∨ op = 6 ∨ op = 7 ∨ op = 8 ∨ op = 9 ∨ op = 10 ∨ op = 11 ∨ op = 12 ∨ op = 13 ∨ op = 14 ∨ op = 15 ∨ op = 16 ∨ op = 17 ∨ op = 18 ∨ op = 19 ∨ op = 20 ∨ op = 21 ∨ op = 22 ∨ op = 23 ∨ op = 24 ∨ op = 25 ∨ op = 26 ∨ op = 27 ∨ op = 28 ∨ op = 29 ∨ op = 30 ∨ op = 31 ∨ op = 32 ∨ op = 33 ∨ op = 34 ∨ op = 35 ∨ op = 36 ∨ op = 37 ∨ op = 38 ∨ op = 39 ∨ op = 40 ∨ op = 41 ∨ op = 42 ∨ op = 43 ∨ op = 44 ∨ op = 45 := by omega
  rcases hcase with rfl | rfl | rfl | rfl | rfl | rfl | rfl | rfl | rfl | rfl | rfl | rfl | rfl | rfl | rfl | rfl | rfl | rfl | rfl | rfl | rfl | rfl | rfl | rfl | rfl | rfl | rfl | rfl | rfl | rfl | rfl | rfl | rfl | rfl | rfl | rfl | rfl | rfl | rfl | rfl | rfl | rfl | rfl | rfl | rfl
  · exact takes_1 a b w
  · exact takes_2 a b w
  · exact takes_3 a b w
  · exact takes_4 a b w
  · exact takes_5 a b w
  · exact takes_6 a b w
  · exact takes_7 a b w
  · exact takes_8 a b w
  · exact takes_9 a b w
  · exact takes_10 a b w
  · exact takes_11 a b w
  · exact takes_12 a b w
  · exact takes_13 a b w
  · exact takes_14 a b w
  · exact takes_15 a b w
  · exact takes_16 a b w
  · exact takes_17 a b w
  · exact takes_18 a b w
  · exact takes_19 a b w
  · exact takes_20 a b w
  · exact takes_21 a b w
  · exact takes_22 a b w
  · exact takes_23 a b w
  · exact takes_24 a b w
  · exact takes_25 a b w
  · exact takes_26 a b w
  · exact takes_27 a b w
  · exact takes_28 a b w
  · exact takes_29 a b w
  · exact takes_30 a b w
  · exact takes_31 a b w
  · exact takes_32 a b w
  · exact takes_33 a b w
  · exact takes_34 a b w (hb (by omega))
  · exact takes_35 a b w (hc rfl)
  · exact takes_36 a b w
  · exact takes_37 a b w (hb (by omega))
  · exact takes_38 a b w
  · exact takes_39 a b w
  · exact takes_40 a b w
  · exact takes_41 a b w
  · exact takes_42 a b w
  · exact takes_43 a b w
  · exact takes_44 a b w
  · exact takes_45 a b w

set_option maxHeartbeats 1000000 in
theorem ends_any (op : Int) (w : World) : Calls Tryd.prog 85 #[.int .i64 op] w fun e w' => e = .returned (.bool (endsB op)) ∧ w' = w := by
  go_enter Tryd.func85, Tryd.ntmps85
  by_cases h1 : op = 15
  · subst h1
    go_wp2
    go_ret
    exact ⟨rfl, rfl⟩
  · by_cases h2 : op = 40
    · subst h2
      go_wp2
      go_ret
      exact ⟨rfl, rfl⟩
    · have h3 : (op == 15) = false := by simpa using h1
      have h4 : (op == 40) = false := by simpa using h2
      go_wp2
      go_ret
      exact ⟨by simp [endsB, h1, h2]; rw [Bool.eq_iff_iff]; simp, rfl⟩
end Go.Proofs.YthbkklnahhdgcaaDoor.CodeA

/-
  Contracts of package code's text, right.
-/
namespace Go.Proofs.YthbkklnahhdgcaaDoor.CodeB
open Go Go.Proofs Go.RowKit Lib CodeR CodeA

/-- An image's three cells. -/
theorem im_cells {w : World} {mb mo : Nat} {m : Im} (h : Row w mb mo m.vals) :
    w.cell? ⟨mb, mo, none⟩ = some m.funcsS.val ∧ w.cell? ⟨mb, mo + 1, none⟩ = some m.constsS.val ∧ w.cell? ⟨mb, mo + 2, none⟩ = some m.classesS.val :=
  ⟨h 0 _ rfl, h 1 _ rfl, h 2 _ rfl⟩
theorem alloc_cell {w : World} {b o : Nat} {v : Value} (h : w.cell? ⟨b, o, none⟩ = some v) (ob : Obj) : (w.alloc ob).cell? ⟨b, o, none⟩ = some v :=
  ((below_alloc (Below.refl w.heap.size w) ob (Nat.le_refl _)).cell (World.block_lt_of_cell? w _ h)).trans h
theorem wrap64_id {n : Int} (h0 : -9223372036854775808 ≤ n) (h1 : n ≤ 9223372036854775807) : IntKind.i64.wrap n = n := by
  unfold IntKind.wrap; simp [IntKind.bits, IntKind.signed]; omega
theorem get_of_lt {α : Type} {l : List α} {k : Int} (h0 : 0 ≤ k) (h1 : k < l.length) : ∃ x, l[k.toNat]? = some x := ⟨l[k.toNat]'(by omega), List.getElem?_eq_getElem (by omega)⟩

set_option maxHeartbeats 1000000 in
theorem text_any (mb mo : Nat) (m : Im) (k : Int) (w : World) (hm : Row w mb mo m.vals) (hi : ImIn w m) :
    Calls Tryd.prog 100 #[.pointer (some ⟨mb, mo, none⟩), .int .i64 k] w fun e w' => e = .returned (.bool (m.textB k)) ∧ w' = w := by
  obtain ⟨_, c1, _⟩ := im_cells hm
  have hl := hi.consts.len
  have hs := hi.consts.small
  have ha := hi.consts.addr
  have hr := hi.consts.row
  clear hm hi
  rw [List.length_map] at hl
  unfold Sl.val at c1
  generalize hS : m.constsS = S at *
  obtain ⟨oa, n, c, b, o⟩ := S
  simp only at hl hs ha hr c1
  by_cases h0 : 0 ≤ k
  · by_cases h1 : k < (n : Int)
    · obtain ⟨x, hx⟩ := get_of_lt (l := m.consts) h0 (by omega)
      obtain rfl := ha (by omega)
      have hrow := hr k.toNat x.vals (by rw [List.getElem?_map, hx]; rfl)
      have hc := hrow 0 _ rfl
      simp only [Nat.add_zero] at hc
      have ht : m.textB k = x.text := by
        simp only [Im.textB, CodeR.within, hx]
        rw [decide_eq_true h0, decide_eq_true (by omega)]
        rfl
      rw [ht]
      clear ht hr hrow
      go_enter Tryd.func100, Tryd.ntmps100
      go_wp2
      go_ret
      exact ⟨rfl, rfl⟩
    · have ht : m.textB k = false := by
        simp only [Im.textB, CodeR.within]
        rw [decide_eq_false (p := k ≤ _) (by omega)]
        simp
      rw [ht]
      clear ht hr
      go_enter Tryd.func100, Tryd.ntmps100
      go_wp2
      go_ret
      exact ⟨rfl, rfl⟩
  · have ht : m.textB k = false := by
      simp only [Im.textB, CodeR.within]
      rw [decide_eq_false (p := 0 ≤ k) (by omega)]
      rfl
    rw [ht]
    clear ht hr
    go_enter Tryd.func100, Tryd.ntmps100
    go_wp2
    go_ret
    exact ⟨rfl, rfl⟩
end Go.Proofs.YthbkklnahhdgcaaDoor.CodeB

/-
  Contracts of package code's round, of Check's closure, of slices.ContainsFunc at it.
-/
namespace Go.Proofs.YthbkklnahhdgcaaDoor.CodeH
open Go Go.Proofs Go.RowKit Lib CodeR CodeA CodeB CodeP CodeQ

theorem inB_true {m : Im} {k : Int} (h0 : 0 ≤ k) (h1 : k < m.classes.length) : inB m k = true := by simp [inB, h0, h1]
theorem inB_false {m : Im} {k : Int} (h : ¬ (0 ≤ k ∧ k < m.classes.length)) : inB m k = false := by
  unfold inB
  rw [Bool.and_eq_false_iff, decide_eq_false_iff_not, decide_eq_false_iff_not]
  omega

set_option maxRecDepth 100000 in
set_option maxHeartbeats 2000000 in
theorem round_any (mb mo : Nat) (m : Im) (i : Int) (w : World) (hm : Row w mb mo m.vals) (hi : ImIn w m) (hlim : m.classes.length ≤ 250) :
    Calls Tryd.prog 40 #[.pointer (some ⟨mb, mo, none⟩), .int .i64 i] w fun e w' => e = .returned (.bool (roundB m i)) ∧ w' = w := by
  have c2 := (im_cells hm).2.2
  have hl := hi.classes.len
  have ha := hi.classes.addr
  have hr := fun (k : Nat) (x : Cl) (hx : m.classes[k]? = some x) => hi.classes.row k x.vals (by rw [List.getElem?_map, hx]; rfl)
  rw [List.length_map] at hl
  unfold Sl.val at c2
  rw [hl] at c2 ha
  generalize m.classesS.oa = oa at *
  clear hm hi hl
  go_enter Tryd.func40, Tryd.ntmps40
  go_wp2
  go_loop [5, 6] (fun s5 s6 => ∃ (n : Nat) (k : Int), s5 = .int .i64 (n : Int) ∧ s6 = .int .i64 k ∧ n ≤ m.classes.length ∧ roundB m i = liveN (inB m) (aboveI m) k (m.classes.length + 1 - n)) (fun s5 _ => m.classes.length + 1 - (intOf s5).toNat)
  case atStart => exact ⟨0, i, rfl, rfl, Nat.zero_le _, rfl⟩
  case round =>
    obtain ⟨n, k, rfl, rfl, hn, hlv⟩ := hrel
    obtain ⟨t, ht⟩ : ∃ t, m.classes.length + 1 - n = t + 1 := ⟨m.classes.length - n, by omega⟩
    rw [ht] at hlv
    have hA : Aside (roundB m i = liveN (inB m) (aboveI m) k (t + 1)) := hlv
    clear hlv
    by_cases h0 : 0 ≤ k
    · have hd0 : decide (0 ≤ k) = true := by simpa using h0
      by_cases h1 : k < (m.classes.length : Int)
      · have hd1 : decide (k < (m.classes.length : Int)) = true := by simpa using h1
        obtain ⟨x, hx⟩ := get_of_lt (l := m.classes) h0 h1
        obtain rfl := ha (by omega)
        have hc := hr k.toNat x hx 1 _ rfl
        have hab : aboveI m k = x.above := by unfold aboveI; rw [hx]; rfl
        clear hr ha
        by_cases h2 : (m.classes.length : Int) < (n : Int) + 1
        · have hd2 : decide ((m.classes.length : Int) < (n : Int) + 1) = true := by simpa using h2
          have ht0 : t = 0 := by omega
          subst ht0
          go_wp2
          go_ret
          refine ⟨?_, rfl⟩
          rw [hA.out]
          simp only [liveN, inB_true h0 h1, Bool.and_self]
          rfl
        · have hd2 : decide ((m.classes.length : Int) < (n : Int) + 1) = false := by simpa using h2
          go_wp2
          go_round
          case rel =>
            refine ⟨n + 1, x.above, by simp, rfl, by omega, ?_⟩
            rw [hA.out, show m.classes.length + 1 - (n + 1) = t by omega]
            simp only [liveN, inB_true h0 h1, Bool.true_and, hab]
          case measure => simp [intOf]; omega
      · have hd1 : decide (k < (m.classes.length : Int)) = false := by simpa using h1
        clear hr ha
        go_wp2
        go_ret
        refine ⟨?_, rfl⟩
        rw [hA.out]
        simp only [liveN, inB_false (m := m) (k := k) (by omega), Bool.false_and]
        rfl
    · have hd0 : decide (0 ≤ k) = false := by simpa using h0
      clear hr ha
      go_wp2
      go_ret
      refine ⟨?_, rfl⟩
      rw [hA.out]
      simp only [liveN, inB_false (m := m) (k := k) (by omega), Bool.false_and]
      rfl

theorem meth_any (mb mo bx : Nat) (m : Im) (k : Int) (w : World) (hm : Row w mb mo m.vals) (hi : ImIn w m) (hb : w.cell? ⟨bx, 0, none⟩ = some (.pointer (some ⟨mb, mo, none⟩))) :
    Calls Tryd.prog 39 #[.int .i64 k, .pointer (some ⟨bx, 0, none⟩)] w fun e w' => e = .returned (.bool (methB m k)) ∧ w' = w := by
  have c0 := (im_cells hm).1
  have hl := hi.funcs.len
  rw [List.length_map] at hl
  unfold Sl.val at c0
  rw [hl] at c0
  clear hm hi hl
  unfold methB
  by_cases h0 : k < 1
  · have hd0 : decide (k < 1) = true := by simpa using h0
    go_enter Tryd.func39, Tryd.ntmps39
    go_wp2
    go_ret
    exact ⟨by simp [h0], rfl⟩
  · have hd0 : decide (k < 1) = false := by simpa using h0
    go_enter Tryd.func39, Tryd.ntmps39
    go_wp2
    go_ret
    exact ⟨by simp, rfl⟩

set_option maxRecDepth 100000 in
set_option maxHeartbeats 2000000 in
theorem index_any (mb mo bx : Nat) (m : Im) (S : Sl) (l : List Int) (w : World) (hm : Row w mb mo m.vals) (hi : ImIn w m) (hb : w.cell? ⟨bx, 0, none⟩ = some (.pointer (some ⟨mb, mo, none⟩))) (hS : SlIn w S 1 (l.map fun n => [.int .i64 n])) :
    Calls Tryd.prog 80 #[S.val, .func (Fn.func 39) #[] #[.pointer (some ⟨bx, 0, none⟩)]] w fun e w' => (∃ r : Int, e = .returned (.int .i64 r) ∧ decide (0 ≤ r) = l.any (methB m)) ∧ w' = w := by
  have hl := hS.len
  have hsm := hS.small
  have ha := hS.addr
  have hr := fun (k : Nat) (n : Int) (hx : l[k]? = some n) => hS.row k [.int .i64 n] (by rw [List.getElem?_map, hx]; rfl) 0 _ rfl
  rw [List.length_map] at hl
  unfold Sl.val
  rw [hl] at ha hsm ⊢
  generalize S.oa = oa at *
  have hT := fun k => meth_any mb mo bx m k w hm hi hb
  clear hm hi hb hS hl
  go_enter Tryd.func80, Tryd.ntmps80
  go_wp2
  go_loop [8] (fun s8 => ∃ k : Nat, s8 = .int .i64 (k : Int) ∧ k ≤ l.length ∧ (∀ j n, j < k → l[j]? = some n → methB m n = false)) (fun s8 => l.length - (intOf s8).toNat)
  case atStart => exact ⟨0, rfl, Nat.zero_le _, fun j n hj => by omega⟩
  case round =>
    obtain ⟨k, rfl, hk, hall⟩ := hrel
    by_cases hkn : k < l.length
    · obtain ⟨n, hx⟩ : ∃ n, l[k]? = some n := ⟨_, List.getElem?_eq_getElem hkn⟩
      have hkd : decide ((k : Int) < (l.length : Int)) = true := by simp; omega
      obtain rfl := ha (by omega)
      have hc := hr k n hx
      simp only [Nat.mul_one, Nat.add_zero] at hc
      clear hr ha
      cases hmn : methB m n
      · go_wp2_with (go_at_call 39; refine (hT _).mono ?_; rintro e w' ⟨rfl, hw⟩; rw [hw]; clear hw; rw [hmn])
        go_round
        case rel =>
          refine ⟨k + 1, by simp, by omega, ?_⟩
          intro j y hj hy
          by_cases hjk : j = k
          · subst hjk; rw [hx] at hy; cases hy; exact hmn
          · exact hall j y (by omega) hy
        case measure => simp [intOf]; omega
      · go_wp2_with (go_at_call 39; refine (hT _).mono ?_; rintro e w' ⟨rfl, hw⟩; rw [hw]; clear hw; rw [hmn])
        go_ret
        refine ⟨⟨(k : Int), rfl, ?_⟩, rfl⟩
        rw [List.any_eq_true.mpr ⟨n, List.mem_of_getElem? hx, hmn⟩]
        simp
    · obtain rfl : k = l.length := by omega
      have hkd : decide ((l.length : Int) < (l.length : Int)) = false := by simp
      clear hr ha
      go_wp2
      go_ret
      refine ⟨⟨-1, rfl, ?_⟩, rfl⟩
      have : l.any (methB m) = false := by
        rw [Bool.eq_false_iff]
        intro h
        obtain ⟨y, hy, hy2⟩ := List.any_eq_true.mp h
        obtain ⟨j, hj⟩ := List.mem_iff_getElem?.mp hy
        rw [hall j y (List.getElem?_eq_some_iff.mp hj).1 hj] at hy2
        cases hy2
      rw [this]
      decide

theorem contains_any (mb mo bx : Nat) (m : Im) (S : Sl) (l : List Int) (w : World) (hm : Row w mb mo m.vals) (hi : ImIn w m) (hb : w.cell? ⟨bx, 0, none⟩ = some (.pointer (some ⟨mb, mo, none⟩))) (hS : SlIn w S 1 (l.map fun n => [.int .i64 n])) :
    Calls Tryd.prog 38 #[S.val, .func (Fn.func 39) #[] #[.pointer (some ⟨bx, 0, none⟩)]] w fun e w' => e = .returned (.bool (l.any (methB m))) ∧ w' = w := by
  have hT := index_any mb mo bx m S l w hm hi hb hS
  unfold Sl.val at *
  clear hm hi hb hS
  go_enter Tryd.func38, Tryd.ntmps38
  go_wp2_with (go_at_call 80; refine hT.mono ?_; rintro e w' ⟨⟨r, rfl, hr⟩, hw⟩; rw [hw]; clear hw)
  go_ret
  exact ⟨by rw [← hr]; rfl, rfl⟩
end Go.Proofs.YthbkklnahhdgcaaDoor.CodeH

/-
  The contract of check's closure come: one comes to a place with a number of values.
-/
namespace Go.Proofs.YthbkklnahhdgcaaDoor.CodeD
open Go Go.Proofs Go.RowKit Lib CodeR CodeA CodeB CodeP

/-- An owned row stays where its block does. -/
theorem own_keep {w w' : World} {base : Nat} {e : TypeId} {size : Nat} {v : Value} {n : Nat} {xs : List Value} (h : w.ownsRow base e size v n xs) (hb : ∀ g, v.ownBlock = some g → w'.heap[g]? = w.heap[g]?) : w'.ownsRow base e size v n xs := by
  obtain ⟨h1, h2⟩ := h
  refine ⟨h1, ?_⟩
  rcases h2 with h2 | ⟨g, cap, cur, rfl, h3, h4, h5⟩
  · exact Or.inl h2
  · exact Or.inr ⟨g, cap, cur, rfl, h3, (hb g rfl).trans h4, h5⟩
theorem own_base {w : World} {base : Nat} {e : TypeId} {size : Nat} {v : Value} {n : Nat} {xs : List Value} (h : w.ownsRow base e size v n xs) {g : Nat} (hg : v.ownBlock = some g) : base ≤ g ∧ g < w.heap.size := by
  obtain ⟨_, h2⟩ := h
  rcases h2 with ⟨rfl, _⟩ | ⟨g', cap, cur, rfl, h3, h4, _⟩
  · cases hg
  · cases hg; exact ⟨h3, lt_of_block h4⟩

theorem own_form {w : World} {base : Nat} {e : TypeId} {size : Nat} {v : Value} {k : Nat} {xs : List Value} (h : w.ownsRow base e size v (k + 1) xs) : ∃ g cap, v = .slice (some ⟨g, 0, none⟩) (k + 1) cap := by
  obtain ⟨_, h2⟩ := h
  rcases h2 with ⟨_, h2⟩ | ⟨g, cap, _, h2, _⟩
  · omega
  · exact ⟨g, cap, h2⟩

/-- What come sees: check's boxes and what lies in them. fx, ex, dx, tx: the boxes of f, e, deep, todo; da: deep's array; v: todo. All of todo's rows are from base on. -/
structure CS (w : World) (lo fx ex dx tx da base : Nat) (F : Value) (deep : List Int) (todo : List Nat) (e : Int) (v : Value) : Prop where
  fbox : w.heap[fx]? = some (.cells #[F] 116 (0, 0))
  ebox : w.heap[ex]? = some (.cells #[.int .i64 e] 35 (0, 0))
  dbox : w.heap[dx]? = some (.cells #[.slice (some ⟨da, 0, none⟩) deep.length deep.length] 52 (0, 0))
  darr : w.heap[da]? = some (.cells (deep.map (Value.int .i64)).toArray 3 (0, 0))
  tbox : w.heap[tx]? = some (.cells #[v] 52 (0, 0))
  own : w.ownsRow base 3 1 v todo.length (todo.map fun (i : Nat) => Value.int .i64 (i : Int))
  low : fx < base ∧ ex < base ∧ dx < base ∧ tx < base ∧ da < base
  high : lo ≤ fx ∧ lo ≤ ex ∧ lo ≤ dx ∧ lo ≤ tx ∧ lo ≤ da
  fe : fx ≠ ex
  fd : fx ≠ da
  ft : fx ≠ tx
  ed : ex ≠ da
  et : ex ≠ tx
  edx : ex ≠ dx
  dd : dx ≠ da
  dt : dx ≠ tx
  at' : da ≠ tx

theorem CS.size {w : World} {lo fx ex dx tx da base : Nat} {F : Value} {deep : List Int} {todo : List Nat} {e : Int} {v : Value} (S : CS w lo fx ex dx tx da base F deep todo e v) : fx < w.heap.size ∧ ex < w.heap.size ∧ dx < w.heap.size ∧ da < w.heap.size ∧ tx < w.heap.size :=
  ⟨lt_of_block S.fbox, lt_of_block S.ebox, lt_of_block S.dbox, lt_of_block S.darr, lt_of_block S.tbox⟩
/-- Whatever keeps its blocks keeps it. -/
theorem CS.keep {w w' : World} {lo fx ex dx tx da base : Nat} {F : Value} {deep : List Int} {todo : List Nat} {e : Int} {v : Value} (S : CS w lo fx ex dx tx da base F deep todo e v) (hb : ∀ k, k < w.heap.size → w'.heap[k]? = w.heap[k]?) : CS w' lo fx ex dx tx da base F deep todo e v := by
  obtain ⟨h1, h2, h3, h4, h5⟩ := S.size
  exact ⟨(hb _ h1).trans S.fbox, (hb _ h2).trans S.ebox, (hb _ h3).trans S.dbox, (hb _ h4).trans S.darr, (hb _ h5).trans S.tbox, own_keep S.own (fun g hg => hb g (own_base S.own hg).2), S.low, S.high, S.fe, S.fd, S.ft, S.ed, S.et, S.edx, S.dd, S.dt, S.at'⟩
theorem CS.below {w w' : World} {lo fx ex dx tx da base : Nat} {F : Value} {deep : List Int} {todo : List Nat} {e : Int} {v : Value} (S : CS w lo fx ex dx tx da base F deep todo e v) (hb : Below w.heap.size w w') : CS w' lo fx ex dx tx da base F deep todo e v :=
  S.keep fun k hk => hb.block k hk
theorem CS.dcell {w : World} {lo fx ex dx tx da base : Nat} {F : Value} {deep : List Int} {todo : List Nat} {e : Int} {v : Value} (S : CS w lo fx ex dx tx da base F deep todo e v) {i : Nat} (hi : i < deep.length) : w.cell? ⟨da, i, none⟩ = some (.int .i64 (deep.getD i 0)) := by
  simp [World.cell?, S.darr, List.getD_eq_getElem?_getD, List.getElem?_eq_getElem hi]
/-- The boxes that come writes. -/
def Ws (ex da tx : Nat) (v : Value) (k : Nat) : Prop := k = ex ∨ k = da ∨ k = tx ∨ some k = v.ownBlock

theorem block_setCell_ne {w : World} {a : Addr} {u : Value} {k : Nat} (h : k ≠ a.block) : (w.setCell a u).heap[k]? = w.heap[k]? := Below.heap_setCell _ _ _ _ h

/-- e becomes ErrForm. -/
theorem CS.setE {w : World} {lo fx ex dx tx da base : Nat} {F : Value} {deep : List Int} {todo : List Nat} {e : Int} {v : Value} (S : CS w lo fx ex dx tx da base F deep todo e v) (x : Int) : CS (w.setCell ⟨ex, 0, none⟩ (.int .i64 x)) lo fx ex dx tx da base F deep todo x v := by
  have hk : ∀ k, k ≠ ex → (w.setCell ⟨ex, 0, none⟩ (.int .i64 x)).heap[k]? = w.heap[k]? := fun k hk => block_setCell_ne hk
  refine ⟨(hk _ S.fe).trans S.fbox, one_setCell S.ebox, (hk _ S.edx.symm).trans S.dbox, (hk _ S.ed.symm).trans S.darr, (hk _ S.et.symm).trans S.tbox, own_keep S.own (fun g hg => hk g ?_), S.low, S.high, S.fe, S.fd, S.ft, S.ed, S.et, S.edx, S.dd, S.dt, S.at'⟩
  have := (own_base S.own hg).1
  have := S.low
  omega
theorem CS.turnE {w : World} {lo fx ex dx tx da base : Nat} {F : Value} {deep : List Int} {todo : List Nat} {e : Int} {v : Value} (_S : CS w lo fx ex dx tx da base F deep todo e v) (x : Value) : Turned (Ws ex da tx v) w (w.setCell ⟨ex, 0, none⟩ x) :=
  (Turned.refl _ w).setCell (Or.inl (Or.inl rfl)) _

set_option maxRecDepth 100000 in
set_option maxHeartbeats 2000000 in
/-- come, at a place that isn't there or with too many values. -/
theorem come_bad (w : World) (lo fx ex dx tx da base fb fo : Nat) (f : Fc) (deep : List Int) (todo : List Nat) (e : Int) (v : Value) (p : Nat) (n : Int)
    (S : CS w lo fx ex dx tx da base (.pointer (some ⟨fb, fo, none⟩)) deep todo e v) (hf : Row w fb fo f.vals) (hfi : FcIn w f) (hd : deep.length = f.code.length) (h : deep.length ≤ p ∨ 200 < n) :
    Calls Tryd.prog 83 #[.int .i64 (p : Int), .int .i64 n, .pointer (some ⟨fx, 0, none⟩), .pointer (some ⟨ex, 0, none⟩), .pointer (some ⟨dx, 0, none⟩), .pointer (some ⟨tx, 0, none⟩)] w
      fun r w' => r = .returned (.tuple #[]) ∧ w' = w.setCell ⟨ex, 0, none⟩ (.int .i64 3) := by
  have hfc : w.cell? ⟨fb, fo + 3, none⟩ = some f.codeS.val := hf 3 _ rfl
  have hl := hfi.code.len
  rw [List.length_map] at hl
  unfold Sl.val at hfc
  have hfx := cell_of_one S.fbox
  have hex := cell_of_one S.ebox
  have hez := free_of_one S.ebox
  rw [hd] at h
  clear S hf hfi
  rcases Nat.lt_or_ge p f.code.length with h0 | h0
  · have h1 : 200 < n := by omega
    have hd0 : decide ((f.code.length : Int) ≤ (p : Int)) = false := by simp; omega
    have hd1 : decide (200 < n) = true := by simp; omega
    go_enter Tryd.func83, Tryd.ntmps83
    go_wp2
    go_end0
    exact ⟨rfl, rfl⟩
  · have hd0 : decide ((f.code.length : Int) ≤ (p : Int)) = true := by simp; omega
    go_enter Tryd.func83, Tryd.ntmps83
    go_wp2
    go_end0
    exact ⟨rfl, rfl⟩

/-- The facts of a walk through come at a place that is there. -/
theorem come_place {p : Nat} {n : Int} {L : Nat} (h : ¬ (L ≤ p ∨ 200 < n)) : p < L ∧ decide ((L : Int) ≤ (p : Int)) = false ∧ decide (200 < n) = false := by
  refine ⟨by omega, by simp; omega, by simp; omega⟩

set_option maxRecDepth 100000 in
set_option maxHeartbeats 2000000 in
/-- come, at a place that has that number. -/
theorem come_same (w : World) (lo fx ex dx tx da base fb fo : Nat) (f : Fc) (deep : List Int) (todo : List Nat) (e : Int) (v : Value) (p : Nat) (n : Int)
    (S : CS w lo fx ex dx tx da base (.pointer (some ⟨fb, fo, none⟩)) deep todo e v) (hf : Row w fb fo f.vals) (hfi : FcIn w f) (hd : deep.length = f.code.length) (_hlim : deep.length ≤ 5000) (h : ¬ (deep.length ≤ p ∨ 200 < n)) (h2 : ¬ deep.getD p 0 < 0) (h3 : deep.getD p 0 = n) :
    Calls Tryd.prog 83 #[.int .i64 (p : Int), .int .i64 n, .pointer (some ⟨fx, 0, none⟩), .pointer (some ⟨ex, 0, none⟩), .pointer (some ⟨dx, 0, none⟩), .pointer (some ⟨tx, 0, none⟩)] w
      fun r w' => r = .returned (.tuple #[]) ∧ w' = w := by
  have hfc : w.cell? ⟨fb, fo + 3, none⟩ = some f.codeS.val := hf 3 _ rfl
  have hl := hfi.code.len
  rw [List.length_map] at hl
  unfold Sl.val at hfc
  have hfx := cell_of_one S.fbox
  have hdx := cell_of_one S.dbox
  obtain ⟨hp, hd0, hd1⟩ := come_place h
  have hda := S.dcell hp
  rw [h3] at hda h2
  have hn : (n == n) = true := by simp
  have hd2 : decide (n < 0) = false := by simp; omega
  have hp0 : (0 : Int) ≤ (p : Int) := by omega
  have hp1 : (p : Int) < (deep.length : Int) := by omega
  rw [← hd] at hl
  clear S hf hfi h3 h h2 hd
  generalize deep.length = L at *
  go_enter Tryd.func83, Tryd.ntmps83
  go_wp2
  go_end0
  exact ⟨rfl, rfl⟩

set_option maxRecDepth 100000 in
set_option maxHeartbeats 2000000 in
/-- come, at a place that has another number. -/
theorem come_other (w : World) (lo fx ex dx tx da base fb fo : Nat) (f : Fc) (deep : List Int) (todo : List Nat) (e : Int) (v : Value) (p : Nat) (n : Int)
    (S : CS w lo fx ex dx tx da base (.pointer (some ⟨fb, fo, none⟩)) deep todo e v) (hf : Row w fb fo f.vals) (hfi : FcIn w f) (hd : deep.length = f.code.length) (_hlim : deep.length ≤ 5000) (h : ¬ (deep.length ≤ p ∨ 200 < n)) (h2 : ¬ deep.getD p 0 < 0) (h3 : ¬ deep.getD p 0 = n) :
    Calls Tryd.prog 83 #[.int .i64 (p : Int), .int .i64 n, .pointer (some ⟨fx, 0, none⟩), .pointer (some ⟨ex, 0, none⟩), .pointer (some ⟨dx, 0, none⟩), .pointer (some ⟨tx, 0, none⟩)] w
      fun r w' => r = .returned (.tuple #[]) ∧ w' = w.setCell ⟨ex, 0, none⟩ (.int .i64 3) := by
  have hfc : w.cell? ⟨fb, fo + 3, none⟩ = some f.codeS.val := hf 3 _ rfl
  have hl := hfi.code.len
  rw [List.length_map] at hl
  unfold Sl.val at hfc
  have hfx := cell_of_one S.fbox
  have hdx := cell_of_one S.dbox
  have hex := cell_of_one S.ebox
  have hez := free_of_one S.ebox
  obtain ⟨hp, hd0, hd1⟩ := come_place h
  have hda := S.dcell hp
  have hp0 : (0 : Int) ≤ (p : Int) := by omega
  have hp1 : (p : Int) < (deep.length : Int) := by omega
  rw [← hd] at hl
  clear S hf hfi h hd
  generalize deep.getD p 0 = u at *
  generalize deep.length = L at *
  have hn : (u == n) = false := by simp; omega
  have hd2 : decide (u < 0) = false := by simp; omega
  clear h2 h3
  go_enter Tryd.func83, Tryd.ntmps83
  go_wp2
  go_end0
  exact ⟨rfl, rfl⟩

theorem arr_setCell {w : World} {da p : Nat} {xs : List Int} {t : TypeId} {n : Int} (h : w.heap[da]? = some (.cells (xs.map (Value.int .i64)).toArray t (0, 0))) : (w.setCell ⟨da, p, none⟩ (.int .i64 n)).heap[da]? = some (.cells ((xs.set p n).map (Value.int .i64)).toArray t (0, 0)) := by
  have hlt := lt_of_block h
  have h' : w.heap[da] = .cells (xs.map (Value.int .i64)).toArray t (0, 0) := by simpa [Array.getElem?_eq_getElem hlt] using h
  show (w.heap.modify da _)[da]? = _
  rw [Array.getElem?_eq_getElem (by simpa using hlt), Array.getElem_modify_self, h']
  simp [List.map_set]
theorem infoInt : (Tryd.prog.info? 3).map (fun i => (i.zero, i.size, i.bytes)) = some (some (.int .i64 0), 1, 8) := by kernel_rfl

set_option maxRecDepth 100000 in
set_option maxHeartbeats 4000000 in
/-- come, at a new place. -/
theorem come_new (w : World) (lo fx ex dx tx da base fb fo : Nat) (f : Fc) (deep : List Int) (todo : List Nat) (e : Int) (v : Value) (p : Nat) (n : Int)
    (S : CS w lo fx ex dx tx da base (.pointer (some ⟨fb, fo, none⟩)) deep todo e v) (hf : Row w fb fo f.vals) (hfi : FcIn w f) (hd : deep.length = f.code.length) (_hlim : deep.length ≤ 5000) (htl : todo.length ≤ 5000) (hbw : base ≤ w.heap.size) (h : ¬ (deep.length ≤ p ∨ 200 < n)) (h2 : deep.getD p 0 < 0) :
    Calls Tryd.prog 83 #[.int .i64 (p : Int), .int .i64 n, .pointer (some ⟨fx, 0, none⟩), .pointer (some ⟨ex, 0, none⟩), .pointer (some ⟨dx, 0, none⟩), .pointer (some ⟨tx, 0, none⟩)] w
      fun r w' => r = .returned (.tuple #[]) ∧ ∃ v', CS w' lo fx ex dx tx da base (.pointer (some ⟨fb, fo, none⟩)) (deep.set p n) (todo ++ [p]) e v' ∧ Turned (Ws ex da tx v) w w' := by
  have hfc : w.cell? ⟨fb, fo + 3, none⟩ = some f.codeS.val := hf 3 _ rfl
  have hl := hfi.code.len
  rw [List.length_map] at hl
  unfold Sl.val at hfc
  have hfx := cell_of_one S.fbox
  have hdx := cell_of_one S.dbox
  obtain ⟨hp, hd0, hd1⟩ := come_place h
  have hda := S.dcell hp
  have hdz : w.frozen? ⟨da, p, none⟩ = false := by simp [World.frozen?, S.darr]
  have hp0 : (0 : Int) ≤ (p : Int) := by omega
  have hp1 : (p : Int) < (deep.length : Int) := by omega
  rw [← hd] at hl
  obtain ⟨i0, hi, hz0, hz1, hz2⟩ := info_parts infoInt
  obtain ⟨sz1, sz2, sz3, sz4, sz5⟩ := S.size
  have hlow := S.low
  -- the store into deep
  have hk1 : ∀ k, k ≠ da → (w.setCell ⟨da, p, none⟩ (.int .i64 n)).heap[k]? = w.heap[k]? := fun k hk => block_setCell_ne hk
  have hd' : (w.setCell ⟨da, p, none⟩ (.int .i64 n)).heap[da]? = some (.cells ((deep.set p n).map (Value.int .i64)).toArray 3 (0, 0)) := arr_setCell S.darr
  have how : (w.setCell ⟨da, p, none⟩ (.int .i64 n)).ownsRow base 3 1 v todo.length (todo.map fun (i : Nat) => Value.int .i64 (i : Int)) := own_keep S.own (fun g hg => hk1 g (by have := (own_base S.own hg).1; omega))
  have htx1 := cell_of_one ((hk1 tx S.at'.symm).trans S.tbox)
  generalize hw1 : w.setCell ⟨da, p, none⟩ (.int .i64 n) = w1 at *
  generalize hu : deep.getD p 0 = u at *
  have hdu : decide (u < 0) = true := by simpa using h2
  have hL : ∃ L, L = deep.length := ⟨_, rfl⟩
  obtain ⟨L, hL⟩ := hL
  rw [← hL] at *
  have hT1 : Turned (Ws ex da tx v) w w1 := by rw [← hw1]; exact (Turned.refl _ w).setCell (Or.inl (Or.inr (Or.inl rfl))) _
  have hC := S
  clear S hf hfi h hd
  go_enter Tryd.func83, Tryd.ntmps83
  go_wp2_with (at_builtin; refine wpList_append_own _ rfl _ _ 52 rfl base 3 i0 (.int .i64 0) 1 8 Tryd.underlying52 hi hz0 hz1 hz2 rfl (by decide) _ _ _ rfl (how.alloc _) ⟨w1.heap.size, 0, none⟩ 1 1 [.int .i64 (p : Int)] rfl rfl ?c1 ?c2 ?c3 ?c4 ?c5 ?_)
  case c2 => first | rfl | (intro u hu; simp at hu; subst hu; rfl)
  case c3 => unfold maxLen; omega
  case c4 => omega
  case c5 => have := hT1.size; simp; omega
  intro v' w2 hown' hgrow _
  obtain ⟨g', cap', rfl⟩ := own_form hown'
  have hk2 : ∀ k, k < w.heap.size → some k ≠ v.ownBlock → w2.heap[k]? = w1.heap[k]? := fun k hk hv => (hgrow.block k (by have := hT1.size; simp; omega) hv).trans (Below.heap_alloc _ _ _ (by have := hT1.size; omega))
  have hnv : ∀ k, k < base → some k ≠ v.ownBlock := fun k hk hv => by have := (own_base hC.own hv.symm).1; omega
  have htx2 : w2.heap[tx]? = some (.cells #[v] 52 (0, 0)) := (hk2 tx sz5 (hnv tx hlow.2.2.2.1)).trans ((hk1 tx hC.at'.symm).trans hC.tbox)
  have htx3 := cell_of_one htx2
  have htz3 := free_of_one htx2
  clear how
  go_wp2
  go_end0
  have hk3 : ∀ k, k ≠ tx → (w2.setCell ⟨tx, 0, none⟩ (.slice (some ⟨g', 0, none⟩) (todo.length + 1) cap')).heap[k]? = w2.heap[k]? := fun k hk => block_setCell_ne hk
  have hg' := own_base hown' rfl
  have hall : ∀ k, k < base → k ≠ da → k ≠ tx → (w2.setCell ⟨tx, 0, none⟩ (.slice (some ⟨g', 0, none⟩) (todo.length + 1) cap')).heap[k]? = w.heap[k]? := fun k h1 h2 h3 =>
    (hk3 k h3).trans ((hk2 k (by omega) (hnv k h1)).trans (hk1 k h2))
  refine ⟨rfl, _, ⟨(hall _ hlow.1 hC.fd hC.ft).trans hC.fbox, (hall _ hlow.2.1 hC.ed hC.et).trans hC.ebox, ?_, ?_, one_setCell htx2, ?_, hlow, hC.high, hC.fe, hC.fd, hC.ft, hC.ed, hC.et, hC.edx, hC.dd, hC.dt, hC.at'⟩, ?_⟩
  · rw [List.length_set]
    exact (hall _ hlow.2.2.1 hC.dd hC.dt).trans hC.dbox
  · exact (hk3 _ hC.at').trans ((hk2 _ sz4 (hnv _ hlow.2.2.2.2)).trans hd')
  · rw [List.map_append, List.length_append]
    exact own_keep hown' (fun g hg => hk3 g (by rintro rfl; have := (own_base hown' hg).1; omega))
  · exact ((hT1.alloc _).grown hgrow (fun k hk => Or.inl (Or.inr (Or.inr (Or.inr hk.symm))))).setCell (Or.inl (Or.inr (Or.inr (Or.inl rfl)))) _

theorem CS.under {w w' : World} {lo fx ex dx tx da base : Nat} {F : Value} {deep : List Int} {todo : List Nat} {e : Int} {v : Value} (S : CS w lo fx ex dx tx da base F deep todo e v) (h : Turned (Ws ex da tx v) w w') : Below lo w w' := by
  have h1 := S.high
  have h2 := S.low
  obtain ⟨h3, _⟩ := S.size
  refine h.below (by omega) ?_
  intro k hk
  rcases hk with rfl | rfl | rfl | hk
  · exact h1.2.1
  · exact h1.2.2.2.2
  · exact h1.2.2.2.1
  · have := (own_base S.own hk.symm).1; omega

/-- come: the labels, what is to be done, and the error, behind it. -/
theorem come_any (w : World) (lo fx ex dx tx da base fb fo : Nat) (f : Fc) (deep : List Int) (todo : List Nat) (e : Int) (v : Value) (p : Nat) (n : Int)
    (S : CS w lo fx ex dx tx da base (.pointer (some ⟨fb, fo, none⟩)) deep todo e v) (hf : Row w fb fo f.vals) (hfi : FcIn w f) (hd : deep.length = f.code.length) (hlim : deep.length ≤ 5000) (htl : todo.length ≤ 5000) (hbw : base ≤ w.heap.size) :
    Calls Tryd.prog 83 #[.int .i64 (p : Int), .int .i64 n, .pointer (some ⟨fx, 0, none⟩), .pointer (some ⟨ex, 0, none⟩), .pointer (some ⟨dx, 0, none⟩), .pointer (some ⟨tx, 0, none⟩)] w
      fun r w' => r = .returned (.tuple #[]) ∧ ∃ v', CS w' lo fx ex dx tx da base (.pointer (some ⟨fb, fo, none⟩)) (comeD deep e p n).1 (if comeN deep p n then todo ++ [p] else todo) (comeD deep e p n).2 v' ∧ Turned (Ws ex da tx v) w w' := by
  by_cases h1 : deep.length ≤ p ∨ 200 < n
  · have hN : comeN deep p n = false := by
      unfold comeN
      rcases h1 with h1 | h1 <;> simp [h1]
    have hD : comeD deep e p n = (deep, 3) := by unfold comeD; rw [if_pos h1]
    rw [hN, hD]
    refine (come_bad w lo fx ex dx tx da base fb fo f deep todo e v p n S hf hfi hd h1).mono ?_
    rintro r w' ⟨rfl, rfl⟩
    exact ⟨rfl, v, S.setE 3, S.turnE _⟩
  · by_cases h2 : deep.getD p 0 < 0
    · have hN : comeN deep p n = true := by
        unfold comeN
        simp only [Bool.and_eq_true, Bool.not_eq_true', Bool.or_eq_false_iff, decide_eq_false_iff_not, decide_eq_true_eq]
        exact ⟨⟨fun h => h1 (Or.inl h), fun h => h1 (Or.inr h)⟩, h2⟩
      have hD : comeD deep e p n = (deep.set p n, e) := by unfold comeD; rw [if_neg h1, if_pos h2]
      rw [hN, hD]
      exact come_new w lo fx ex dx tx da base fb fo f deep todo e v p n S hf hfi hd hlim htl hbw h1 h2
    · have hN : comeN deep p n = false := by
        unfold comeN
        rw [decide_eq_false h2, Bool.and_false]
      rw [hN]
      by_cases h3 : deep.getD p 0 = n
      · have hD : comeD deep e p n = (deep, e) := by unfold comeD; rw [if_neg h1, if_neg h2, if_pos h3]
        rw [hD]
        refine (come_same w lo fx ex dx tx da base fb fo f deep todo e v p n S hf hfi hd hlim h1 h2 h3).mono ?_
        rintro r w' ⟨rfl, rfl⟩
        exact ⟨rfl, v, S, Turned.refl _ _⟩
      · have hD : comeD deep e p n = (deep, 3) := by unfold comeD; rw [if_neg h1, if_neg h2, if_neg h3]
        rw [hD]
        refine (come_other w lo fx ex dx tx da base fb fo f deep todo e v p n S hf hfi hd hlim h1 h2 h3).mono ?_
        rintro r w' ⟨rfl, rfl⟩
        exact ⟨rfl, v, S.setE 3, S.turnE _⟩
end Go.Proofs.YthbkklnahhdgcaaDoor.CodeD

/-
  The contracts of the laws' few at an image, and of package code's Check at nil.
-/
namespace Go.Proofs.YthbkklnahhdgcaaDoor.CodeK
open Go Go.Proofs Go.RowKit Lib CodeR CodeA CodeB CodeP CodeQ CodeD CodeH

theorem Check_nil (w : World) : Calls Tryd.prog 20 #[.pointer none] w fun r w' => r = .returned (.iface 35 (.int .i64 7)) ∧ Below w.heap.size w w' := by
  go_enter Tryd.func20, Tryd.ntmps20
  go_wp2
  go_ret
  exact ⟨rfl, below_alloc (Below.refl _ _) _ (Nat.le_refl _)⟩

/-! ### how many parts -/
def fSize (f : Fc) : Nat := f.code.length + (f.hs.length + f.vars.length)
def cSize (c : Cl) : Nat := c.fields.length + (c.names.length + c.methods.length)
def sumTo {α : Type} (g : α → Nat) (l : List α) (i : Nat) : Nat := ((l.take i).map g).sum
theorem sumTo_zero {α : Type} (g : α → Nat) (l : List α) : sumTo g l 0 = 0 := by simp [sumTo]
theorem sumTo_succ {α : Type} (g : α → Nat) {l : List α} {i : Nat} {x : α} (h : l[i]? = some x) : sumTo g l (i + 1) = sumTo g l i + g x := by
  unfold sumTo
  rw [List.take_add_one, h]
  simp
theorem sumTo_le {α : Type} (g : α → Nat) (B : Nat) {l : List α} (h : ∀ x ∈ l, g x ≤ B) : ∀ i, sumTo g l i ≤ i * B
  | 0 => by simp [sumTo]
  | i + 1 => by
    by_cases hi : i < l.length
    · have h1 := sumTo_succ g (l := l) (i := i) (List.getElem?_eq_getElem hi)
      have h2 := h _ (List.getElem_mem hi)
      have h3 := sumTo_le g B h i
      rw [h1, Nat.succ_mul]
      omega
    · have h3 := sumTo_le g B h i
      have h1 : sumTo g l (i + 1) = sumTo g l i := by
        unfold sumTo
        rw [List.take_of_length_le (by omega), List.take_of_length_le (by omega)]
      rw [h1, Nat.succ_mul]
      omega
theorem le_sumTo {α : Type} (g : α → Nat) : ∀ {l : List α} {x : α}, x ∈ l → g x ≤ sumTo g l l.length
  | y :: l, x, h => by
    have e : sumTo g (y :: l) (y :: l).length = g y + sumTo g l l.length := by simp [sumTo]
    rw [e]
    rcases List.mem_cons.mp h with rfl | h
    · omega
    · have := le_sumTo g h; omega
/-- An image that is small enough. -/
def FewIm (m : Im) : Prop := m.funcs.length ≤ 260 ∧ m.consts.length ≤ 1100 ∧ m.classes.length ≤ 260 ∧ (∀ f ∈ m.funcs, fSize f ≤ 6000) ∧ ∀ c ∈ m.classes, cSize c ≤ 6000

set_option maxRecDepth 100000 in
set_option maxHeartbeats 8000000 in
theorem few_any (m : Im) (w : World) (hi : ImIn w m) (hfr : ∀ f ∈ m.funcs, f.code.length ≤ 140737488355328 ∧ f.hs.length ≤ 140737488355328 ∧ f.vars.length ≤ 140737488355328) (hcr : ∀ c ∈ m.classes, c.fields.length ≤ 140737488355328 ∧ c.names.length ≤ 140737488355328 ∧ c.methods.length ≤ 140737488355328) :
    Calls Tryd.prog 18 #[.agg #[.slice m.funcsS.oa m.funcsS.n m.funcsS.c, .slice m.constsS.oa m.constsS.n m.constsS.c, .slice m.classesS.oa m.classesS.n m.classesS.c]] w fun r w' => ∃ b, r = .returned (.bool b) ∧ (b = true → FewIm m) ∧ Below w.heap.size w w' := by
  have l0 := hi.funcs.len
  have l1 := hi.consts.len
  have l2 := hi.classes.len
  have a0 := hi.funcs.addr
  have a2 := hi.classes.addr
  have s0 := hi.funcs.small
  have s1 := hi.consts.small
  have s2 := hi.classes.small
  rw [List.length_map] at l0 l1 l2
  rw [l0] at a0 s0
  rw [l1] at s1
  rw [l2] at a2 s2
  have hrow0 := fun (k : Nat) (x : Fc) (hx : m.funcs[k]? = some x) => hi.funcs.row k x.vals (by rw [List.getElem?_map, hx]; rfl)
  have hrow2 := fun (k : Nat) (x : Cl) (hx : m.classes[k]? = some x) => hi.classes.row k x.vals (by rw [List.getElem?_map, hx]; rfl)
  rw [l0, l1, l2]
  generalize m.funcsS.oa = oa0 at *
  generalize m.constsS.oa = oa1 at *
  generalize m.classesS.oa = oa2 at *
  clear l0 l1 l2
  by_cases z0 : (260 : Int) < (m.funcs.length : Int)
  · have z0' : decide ((260 : Int) < (m.funcs.length : Int)) = true := decide_eq_true z0
    go_enter Tryd.func18, Tryd.ntmps18
    go_wp2
    go_ret
    first | exact ⟨false, rfl, (fun h => by cases h), below_alloc (Below.refl _ _) _ (Nat.le_refl _)⟩ | exact Or.inl ⟨rfl, below_alloc (Below.refl _ _) _ (Nat.le_refl _)⟩ | exact Or.inl ⟨rfl, (fun h => by cases h), below_alloc (Below.refl _ _) _ (Nat.le_refl _)⟩
  by_cases z1 : (1100 : Int) < (m.consts.length : Int)
  · have z0' : decide ((260 : Int) < (m.funcs.length : Int)) = false := decide_eq_false z0
    have z1' : decide ((1100 : Int) < (m.consts.length : Int)) = true := decide_eq_true z1
    go_enter Tryd.func18, Tryd.ntmps18
    go_wp2
    go_ret
    first | exact ⟨false, rfl, (fun h => by cases h), below_alloc (Below.refl _ _) _ (Nat.le_refl _)⟩ | exact Or.inl ⟨rfl, below_alloc (Below.refl _ _) _ (Nat.le_refl _)⟩ | exact Or.inl ⟨rfl, (fun h => by cases h), below_alloc (Below.refl _ _) _ (Nat.le_refl _)⟩
  by_cases z2 : (260 : Int) < (m.classes.length : Int)
  · have z0' : decide ((260 : Int) < (m.funcs.length : Int)) = false := decide_eq_false z0
    have z1' : decide ((1100 : Int) < (m.consts.length : Int)) = false := decide_eq_false z1
    have z2' : decide ((260 : Int) < (m.classes.length : Int)) = true := decide_eq_true z2
    go_enter Tryd.func18, Tryd.ntmps18
    go_wp2
    go_ret
    first | exact ⟨false, rfl, (fun h => by cases h), below_alloc (Below.refl _ _) _ (Nat.le_refl _)⟩ | exact Or.inl ⟨rfl, below_alloc (Below.refl _ _) _ (Nat.le_refl _)⟩ | exact Or.inl ⟨rfl, (fun h => by cases h), below_alloc (Below.refl _ _) _ (Nat.le_refl _)⟩
  have z0' : decide ((260 : Int) < (m.funcs.length : Int)) = false := decide_eq_false z0
  have z1' : decide ((1100 : Int) < (m.consts.length : Int)) = false := decide_eq_false z1
  have z2' : decide ((260 : Int) < (m.classes.length : Int)) = false := decide_eq_false z2
  have hbF := sumTo_le fSize 422212465065984 (l := m.funcs) (fun f hf => by have := hfr f hf; unfold fSize; omega)
  have hbC := sumTo_le cSize 422212465065984 (l := m.classes) (fun c hc => by have := hcr c hc; unfold cSize; omega)
  have hbx1 : (w.alloc (.cells #[.slice oa0 m.funcs.length m.funcsS.c, .slice oa1 m.consts.length m.constsS.c, .slice oa2 m.classes.length m.classesS.c] 42)).heap[w.heap.size]? = some (.cells #[.slice oa0 m.funcs.length m.funcsS.c, .slice oa1 m.consts.length m.constsS.c, .slice oa2 m.classes.length m.classesS.c] 42 (0, 0)) := heap_alloc_new w _
  have hbl1 : Below w.heap.size w (w.alloc (.cells #[.slice oa0 m.funcs.length m.funcsS.c, .slice oa1 m.consts.length m.constsS.c, .slice oa2 m.classes.length m.classesS.c] 42)) := below_alloc (Below.refl _ _) _ (Nat.le_refl _)
  have hsz1 : (w.alloc (.cells #[.slice oa0 m.funcs.length m.funcsS.c, .slice oa1 m.consts.length m.constsS.c, .slice oa2 m.classes.length m.classesS.c] 42)).heap.size = w.heap.size + 1 := by simp
  go_enter Tryd.func18, Tryd.ntmps18
  go_wp2
  clear z0' z1' z2'
  generalize (w.alloc (.cells #[.slice oa0 m.funcs.length m.funcsS.c, .slice oa1 m.consts.length m.constsS.c, .slice oa2 m.classes.length m.classesS.c] 42)) = w1 at *
  generalize hX : w.heap.size = X at *
  go_loopw [3, 4] (fun s3 s4 wr => ∃ k : Nat, k ≤ m.funcs.length ∧ s4 = .int .i64 (k : Int) ∧ s3 = .int .i64 ((sumTo fSize m.funcs k : Nat) : Int) ∧ Below (X + 1) w1 wr) (fun _ s4 _ => m.funcs.length - (intOf s4).toNat)
  case atStart => exact ⟨0, Nat.zero_le _, rfl, by rw [sumTo_zero]; rfl, Below.refl _ _⟩
  case round =>
    obtain ⟨k, hk, rfl, rfl, hb⟩ := hrel
    have hbw : Below X w wr := hbl1.trans (hb.mono (Nat.le_succ X))
    have hbxr := (hb.block X (Nat.lt_succ_self X)).trans hbx1
    have k0 : wr.cell? ⟨X, 0, none⟩ = some (.slice oa0 m.funcs.length m.funcsS.c) := cell_of_block hbxr rfl
    have k2 : wr.cell? ⟨X, 2, none⟩ = some (.slice oa2 m.classes.length m.classesS.c) := cell_of_block hbxr rfl
    by_cases hkn : k < m.funcs.length
    · obtain ⟨f, hx⟩ : ∃ f, m.funcs[k]? = some f := ⟨_, List.getElem?_eq_getElem hkn⟩
      have hfm := List.mem_of_getElem? hx
      have hkd : decide ((k : Int) < (m.funcs.length : Int)) = true := by simp; omega
      have hoa := a0 (by omega)
      subst hoa
      have hfi := hi.fn f hfm
      have n3 := hfi.code.len
      have n4 := hfi.hs.len
      have n5 := hfi.vars.len
      rw [List.length_map] at n3 n4 n5
      have hxr : Row wr m.funcsS.b (m.funcsS.o + k * 6) f.vals := (hrow0 k f hx).below hbw (Nat.le_of_eq hX)
      have e3 : wr.cell? ⟨m.funcsS.b, m.funcsS.o + k * 6 + 3, none⟩ = some (.slice f.codeS.oa f.codeS.n f.codeS.c) := hxr 3 _ rfl
      have e4 : wr.cell? ⟨m.funcsS.b, m.funcsS.o + k * 6 + 4, none⟩ = some (.slice f.hsS.oa f.hsS.n f.hsS.c) := hxr 4 _ rfl
      have e5 : wr.cell? ⟨m.funcsS.b, m.funcsS.o + k * 6 + 5, none⟩ = some (.slice f.varsS.oa f.varsS.n f.varsS.c) := hxr 5 _ rfl
      rw [n3] at e3
      rw [n4] at e4
      rw [n5] at e5
      obtain ⟨r1, r2, r3⟩ := hfr f hfm
      have hs := sumTo_succ fSize hx
      have hbk := hbF k
      have i1 : (0 : Int) ≤ (k : Int) := by omega
      have i2 : (k : Int) < (m.funcs.length : Int) := by omega
      obtain ⟨S, hS⟩ : ∃ S, S = sumTo fSize m.funcs k := ⟨_, rfl⟩
      rw [← hS] at hs hbk ⊢
      have hSA : Aside (S = sumTo fSize m.funcs k) := hS
      have hsA : Aside (sumTo fSize m.funcs (k + 1) = S + fSize f) := hs
      have hSb : S ≤ 109775240917155840 := by
        have : k * 422212465065984 ≤ 260 * 422212465065984 := Nat.mul_le_mul_right _ (by omega)
        omega
      clear hS hs hxr hrow0 hrow2 hfi n3 n4 n5 hbxr hbk k2 hbF hbC hfr hcr
      go_wp2
      go_quiet (fail)
      go_wp2
      go_roundw
      case rel =>
        refine ⟨k + 1, by omega, by simp, ?_, below_drewN hb _⟩
        rw [hsA.out]
        unfold fSize
        refine congrArg (Value.int .i64) ?_
        omega
      case measure => simp [intOf]; omega
    · obtain rfl : k = m.funcs.length := by omega
      have hkd : decide ((m.funcs.length : Int) < (m.funcs.length : Int)) = false := by simp
      have hSF := hbF m.funcs.length
      obtain ⟨SF, hSF0⟩ : ∃ SF, SF = sumTo fSize m.funcs m.funcs.length := ⟨_, rfl⟩
      rw [← hSF0] at hSF ⊢
      have hSFA : Aside (SF = sumTo fSize m.funcs m.funcs.length) := hSF0
      have hSFb : SF ≤ 109775240917155840 := by
        have : m.funcs.length * 422212465065984 ≤ 260 * 422212465065984 := Nat.mul_le_mul_right _ (by omega)
        omega
      have hb1 := hb
      clear hb hbw hbxr hSF hSF0 k2 hrow0 a0
      go_wp2
      clear k0
      go_loopw [3, 5] (fun s3 s5 wr => ∃ k : Nat, k ≤ m.classes.length ∧ s5 = .int .i64 (k : Int) ∧ s3 = .int .i64 ((SF : Int) + ((sumTo cSize m.classes k : Nat) : Int)) ∧ Below (X + 1) w1 wr) (fun _ s5 _ => m.classes.length - (intOf s5).toNat)
      case atStart => exact ⟨0, Nat.zero_le _, rfl, by rw [sumTo_zero]; simp, hb1⟩
      case round =>
        clear hb1
        obtain ⟨k, hk, rfl, rfl, hb⟩ := hrel
        have hbw : Below X w wr := hbl1.trans (hb.mono (Nat.le_succ X))
        have hbxr := (hb.block X (Nat.lt_succ_self X)).trans hbx1
        have k2 : wr.cell? ⟨X, 2, none⟩ = some (.slice oa2 m.classes.length m.classesS.c) := cell_of_block hbxr rfl
        by_cases hkn : k < m.classes.length
        · obtain ⟨c, hx⟩ : ∃ c, m.classes[k]? = some c := ⟨_, List.getElem?_eq_getElem hkn⟩
          have hcm := List.mem_of_getElem? hx
          have hkd : decide ((k : Int) < (m.classes.length : Int)) = true := by simp; omega
          have hoa := a2 (by omega)
          subst hoa
          have hcl := hi.cl c hcm
          have n2 := hcl.fields.len
          have n3 := hcl.names.len
          have n4 := hcl.methods.len
          rw [List.length_map] at n2 n3 n4
          have hxr : Row wr m.classesS.b (m.classesS.o + k * 5) c.vals := (hrow2 k c hx).below hbw (Nat.le_of_eq hX)
          have e2 : wr.cell? ⟨m.classesS.b, m.classesS.o + k * 5 + 2, none⟩ = some (.slice c.fieldsS.oa c.fieldsS.n c.fieldsS.c) := hxr 2 _ rfl
          have e3 : wr.cell? ⟨m.classesS.b, m.classesS.o + k * 5 + 3, none⟩ = some (.slice c.namesS.oa c.namesS.n c.namesS.c) := hxr 3 _ rfl
          have e4 : wr.cell? ⟨m.classesS.b, m.classesS.o + k * 5 + 4, none⟩ = some (.slice c.methodsS.oa c.methodsS.n c.methodsS.c) := hxr 4 _ rfl
          rw [n2] at e2
          rw [n3] at e3
          rw [n4] at e4
          obtain ⟨r1, r2, r3⟩ := hcr c hcm
          have hs := sumTo_succ cSize hx
          have hbk := hbC k
          have i1 : (0 : Int) ≤ (k : Int) := by omega
          have i2 : (k : Int) < (m.classes.length : Int) := by omega
          obtain ⟨S, hS⟩ : ∃ S, S = sumTo cSize m.classes k := ⟨_, rfl⟩
          rw [← hS] at hs hbk ⊢
          have hsA : Aside (sumTo cSize m.classes (k + 1) = S + cSize c) := hs
          have hSb : S ≤ 109775240917155840 := by
            have : k * 422212465065984 ≤ 260 * 422212465065984 := Nat.mul_le_mul_right _ (by omega)
            omega
          clear hS hs hxr hrow2 hcl n2 n3 n4 hbxr hbk hbF hbC hfr hcr
          go_wp2
          go_quiet (fail)
          go_wp2
          go_roundw
          case rel =>
            refine ⟨k + 1, by omega, by simp, ?_, below_drewN hb _⟩
            rw [hsA.out]
            unfold cSize
            refine congrArg (Value.int .i64) ?_
            omega
          case measure => simp [intOf]; omega
        · obtain rfl : k = m.classes.length := by omega
          have hkd : decide ((m.classes.length : Int) < (m.classes.length : Int)) = false := by simp
          go_wp2
          go_ret
          refine ⟨_, rfl, ?_, ?_⟩
          · intro h
            have h6 : (SF : Int) + ((sumTo cSize m.classes m.classes.length : Nat) : Int) ≤ 6000 := by simpa using h
            rw [hSFA.out] at h6
            refine ⟨by omega, by omega, by omega, fun f hf => ?_, fun c hc => ?_⟩
            · have := le_sumTo fSize hf; omega
            · have := le_sumTo cSize hc; omega
          · try rw [hX]
            exact hbw
end Go.Proofs.YthbkklnahhdgcaaDoor.CodeK

/-
  The contract of the laws' image: an image as the document's, the same data.
-/
namespace Go.Proofs.YthbkklnahhdgcaaDoor.CodeL
open Go Go.Proofs Go.RowKit Lib CodeR CodeA CodeB CodeP CodeQ CodeD CodeS CodeH CodeK

theorem infoC : (Tryd.prog.info? 132).map (fun i => (i.zero, i.size, i.bytes)) = some (some (.agg #[.bool false, .string ByteArray.empty, .int .i64 0]), 3, 32) := by kernel_rfl
theorem infoK : (Tryd.prog.info? 125).map (fun i => (i.zero, i.size, i.bytes)) = some (some (.agg #[.string ByteArray.empty, .int .i64 0, .slice none 0 0, .slice none 0 0, .slice none 0 0]), 5, 96) := by kernel_rfl
theorem infoF : (Tryd.prog.info? 130).map (fun i => (i.zero, i.size, i.bytes)) = some (some (.agg #[.string ByteArray.empty, .int .i64 0, .int .i64 0, .slice none 0 0, .slice none 0 0, .slice none 0 0]), 6, 104) := by kernel_rfl
theorem infoI : (Tryd.prog.info? 135).map (fun i => (i.zero, i.size, i.bytes)) = some (some (.agg #[.int .i64 0, .int .i64 0, .int .i64 0]), 3, 24) := by kernel_rfl
theorem infoH : (Tryd.prog.info? 138).map (fun i => (i.zero, i.size, i.bytes)) = some (some (.agg #[.int .i64 0, .int .i64 0, .int .i64 0]), 3, 24) := by kernel_rfl
theorem infoS : (Tryd.prog.info? 141).map (fun i => (i.zero, i.size, i.bytes)) = some (some (.agg #[.string ByteArray.empty, .int .i64 0, .int .i64 0, .int .i64 0, .bool false]), 5, 48) := by kernel_rfl

/-- A row of the call's own, of elements of several cells. -/
def OR (w : World) (base E sz : Nat) (v : Value) (rows : List (List Value)) : Prop := w.ownsRow base E sz v rows.length rows.flatten
theorem OR.nil (w : World) (base E sz : Nat) : OR w base E sz (.slice none 0 0) [] := World.ownsRow_nil _ _ _ _
theorem OR.keep {w w' : World} {base E sz : Nat} {v : Value} {rows : List (List Value)} (h : OR w base E sz v rows) (hb : ∀ g, v.ownBlock = some g → w'.heap[g]? = w.heap[g]?) : OR w' base E sz v rows := own_keep h hb
/-- The block of an own row has its type. -/
theorem own_block {w : World} {base : Nat} {e : TypeId} {size : Nat} {v : Value} {n : Nat} {xs : List Value} (h : w.ownsRow base e size v n xs) {g : Nat} (hg : v.ownBlock = some g) : ∃ cur, w.heap[g]? = some (.cells cur e (0, 0)) := by
  obtain ⟨_, h2⟩ := h
  rcases h2 with ⟨rfl, _⟩ | ⟨g', cap, cur, rfl, _, h4, _⟩
  · cases hg
  · cases hg; exact ⟨cur, h4⟩
theorem own_apart {w : World} {base base' : Nat} {e e' : TypeId} {size size' : Nat} {v v' : Value} {n n' : Nat} {xs xs' : List Value} (h : w.ownsRow base e size v n xs) (h' : w.ownsRow base' e' size' v' n' xs') (hne : e ≠ e') {g : Nat} (hg : v.ownBlock = some g) : v'.ownBlock ≠ some g := by
  intro hg'
  obtain ⟨c, h1⟩ := own_block h hg
  obtain ⟨c', h2⟩ := own_block h' hg'
  rw [h1] at h2
  cases h2
  exact hne rfl
theorem sum_const {rows : List (List Value)} {sz : Nat} (hr : ∀ r ∈ rows, r.length = sz) : rows.flatten.length = rows.length * sz := by
  induction rows with
  | nil => simp
  | cons a l ih =>
    rw [List.flatten_cons, List.length_append, ih (fun r hr' => hr r (List.mem_cons_of_mem _ hr')), hr a List.mem_cons_self, List.length_cons, Nat.succ_mul]
    omega
theorem flatten_get {rows : List (List Value)} {sz : Nat} (hr : ∀ r ∈ rows, r.length = sz) : ∀ (i : Nat) (r : List Value), rows[i]? = some r → ∀ (k : Nat) (v : Value), r[k]? = some v → rows.flatten[i * sz + k]? = some v := by
  induction rows with
  | nil => intro i r h; simp at h
  | cons a l ih =>
    intro i r h k v hv
    have hla := hr a List.mem_cons_self
    cases i with
    | zero =>
      simp at h
      subst h
      have hk : k < a.length := (List.getElem?_eq_some_iff.mp hv).1
      rw [List.flatten_cons, Nat.zero_mul, Nat.zero_add, List.getElem?_append_left hk]
      exact hv
    | succ i =>
      rw [List.flatten_cons, List.getElem?_append_right (by rw [hla, Nat.succ_mul]; omega), hla, Nat.succ_mul, show i * sz + sz + k - sz = i * sz + k by omega]
      exact ih (fun r hr' => hr r (List.mem_cons_of_mem _ hr')) i r (by simpa using h) k v hv
/-- An own row, as the images' predicates say it. -/
theorem OR.slIn {w : World} {base E sz : Nat} {v : Value} {rows : List (List Value)} (h : OR w base E sz v rows) (hr : ∀ r ∈ rows, r.length = sz) : ∃ S : Sl, S.val = v ∧ SlIn w S sz rows ∧ (S.oa = none ∨ S.oa = some ⟨S.b, S.o, none⟩) := by
  obtain ⟨h1, h2⟩ := h
  rcases h2 with ⟨rfl, h2⟩ | ⟨g, cap, cur, rfl, _, h4, h5, h6, _, h8⟩
  · have h0 : rows = [] := List.eq_nil_of_length_eq_zero h2
    subst h0
    exact ⟨⟨none, 0, 0, 0, 0⟩, rfl, ⟨rfl, Nat.zero_le _, fun h => absurd h (by simp), fun i r hr => by simp at hr⟩, Or.inl rfl⟩
  · refine ⟨⟨some ⟨g, 0, none⟩, rows.length, cap, g, 0⟩, rfl, ⟨rfl, by (show rows.length ≤ 9223372036854775807; unfold maxLen at h6; omega), fun _ => rfl, ?_⟩, Or.inr rfl⟩
    intro i r hi k u hu
    have hk : k < r.length := (List.getElem?_eq_some_iff.mp hu).1
    have hlr := hr r (List.mem_of_getElem? hi)
    have hil : i < rows.length := (List.getElem?_eq_some_iff.mp hi).1
    have hb : i * sz + k < rows.length * sz := by
      have : (i + 1) * sz ≤ rows.length * sz := Nat.mul_le_mul_right _ hil
      rw [Nat.succ_mul] at this
      omega
    have h9 := flatten_get hr i r hi k u hu
    rw [← h8, List.getElem?_take_of_lt hb] at h9
    refine Lib.cell_of_block h4 ?_
    rw [Nat.zero_add]
    simpa using h9
def mkSl : Value → Sl
  | .slice (some a) n c => ⟨some a, n, c, a.block, a.off⟩
  | .slice none n c => ⟨none, n, c, 0, 0⟩
  | _ => ⟨none, 0, 0, 0, 0⟩
theorem OR.mkIn {w : World} {base E sz : Nat} {v : Value} {rows : List (List Value)} (h : OR w base E sz v rows) (hr : ∀ r ∈ rows, r.length = sz) : (mkSl v).val = v ∧ SlIn w (mkSl v) sz rows := by
  have h' := h
  obtain ⟨_, h2⟩ := h'
  obtain ⟨S, hS, hI, hg⟩ := h.slIn hr
  rcases h2 with ⟨rfl, h2⟩ | ⟨g, cap, cur, rfl, _, h4, h5, h6, _, h8⟩
  · have h0 : rows = [] := List.eq_nil_of_length_eq_zero h2
    subst h0
    exact ⟨rfl, ⟨rfl, Nat.zero_le _, fun h => absurd h (by simp [mkSl]), fun i r hr => by simp at hr⟩⟩
  · refine ⟨rfl, ?_⟩
    have hoa : S.oa = some ⟨g, 0, none⟩ := by unfold Sl.val at hS; injection hS
    have hn : S.n = rows.length := hI.len
    have hb : rows = [] ∨ (S.b = g ∧ S.o = 0) := by
      by_cases h0 : rows = []
      · exact Or.inl h0
      · right
        rcases hg with hg | hg
        · rw [hoa] at hg; cases hg
        · rw [hoa] at hg
          injection hg with hg
          injection hg with h1 h2
          exact ⟨h1.symm, h2.symm⟩
    refine ⟨rfl, by (show rows.length ≤ 9223372036854775807; rw [← hn]; exact hI.small), fun _ => rfl, ?_⟩
    intro i r hi
    rcases hb with rfl | ⟨h1, h2⟩
    · simp at hi
    · have := hI.row i r hi
      rw [h1, h2] at this
      exact this
theorem OR.low {w : World} {base E sz : Nat} {v : Value} {rows : List (List Value)} (h : OR w base E sz v rows) : OR w 0 E sz v rows := by
  obtain ⟨h1, h2⟩ := h
  refine ⟨h1, ?_⟩
  rcases h2 with h2 | ⟨g, cap, cur, rfl, _, r⟩
  · exact Or.inl h2
  · exact Or.inr ⟨g, cap, cur, rfl, Nat.zero_le _, r⟩
/-- A function's three rows are the call's own. -/
structure OwnF (w : World) (f : Fc) : Prop where
  code : OR w 0 135 3 f.codeS.val (f.code.map I3.vals)
  hs : OR w 0 138 3 f.hsS.val (f.hs.map H3.vals)
  vars : OR w 0 141 5 f.varsS.val (f.vars.map Vr.vals)
  c1 : mkSl f.codeS.val = f.codeS
  c2 : mkSl f.hsS.val = f.hsS
  c3 : mkSl f.varsS.val = f.varsS
theorem OwnF.fcIn {w : World} {f : Fc} (h : OwnF w f) : FcIn w f := by
  have h1 := (h.code.mkIn (by intro r hr; obtain ⟨x, _, rfl⟩ := List.mem_map.mp hr; rfl)).2
  have h2 := (h.hs.mkIn (by intro r hr; obtain ⟨x, _, rfl⟩ := List.mem_map.mp hr; rfl)).2
  have h3 := (h.vars.mkIn (by intro r hr; obtain ⟨x, _, rfl⟩ := List.mem_map.mp hr; rfl)).2
  rw [h.c1] at h1
  rw [h.c2] at h2
  rw [h.c3] at h3
  exact ⟨h1, h2, h3⟩
theorem OwnF.keep {w w' : World} {f : Fc} (h : OwnF w f) (hb : ∀ (g : Nat) (cur : Array Value) (E : TypeId), (E = 135 ∨ E = 138 ∨ E = 141) → w.heap[g]? = some (Obj.cells cur E (0, 0)) → w'.heap[g]? = w.heap[g]?) : OwnF w' f :=
  ⟨h.code.keep (fun g hg => by obtain ⟨cur, hc⟩ := own_block h.code hg; exact hb g cur _ (Or.inl rfl) hc), h.hs.keep (fun g hg => by obtain ⟨cur, hc⟩ := own_block h.hs hg; exact hb g cur _ (Or.inr (Or.inl rfl)) hc), h.vars.keep (fun g hg => by obtain ⟨cur, hc⟩ := own_block h.vars hg; exact hb g cur _ (Or.inr (Or.inr rfl)) hc), h.c1, h.c2, h.c3⟩
theorem mkSl_idem (v : Value) (oa : Option Addr) (n c : Nat) (h : v = .slice oa n c) : mkSl (mkSl v).val = mkSl v := by
  subst h
  cases oa <;> rfl
theorem own_one {w : World} {base : Nat} {e : TypeId} {size : Nat} {v : Value} {n : Nat} {xs : List Value} (h : w.ownsRow base e size v n xs) : v.oneCell' = true := by
  obtain ⟨_, h2⟩ := h
  rcases h2 with ⟨rfl, _⟩ | ⟨g, cap, _, rfl, _⟩ <;> rfl
theorem img_set {w : World} {X i : Nat} {c : Array Value} {v : Value} {t : TypeId} (h : w.heap[X]? = some (.cells c t (0, 0))) : (w.setCell ⟨X, i, none⟩ v).heap[X]? = some (.cells (c.setIfInBounds i v) t (0, 0)) := by
  have hlt := lt_of_block h
  have h' : w.heap[X] = .cells c t (0, 0) := by simpa [Array.getElem?_eq_getElem hlt] using h
  show (w.heap.modify X _)[X]? = _
  rw [Array.getElem?_eq_getElem (by simpa using hlt), Array.getElem_modify_self, h']
  rfl
theorem OR_step {w : World} {B E sz n : Nat} {v u : Value} {rows : List (List Value)} {r : List Value} {X i : Nat} (h : w.ownsRow B E sz v (n + 1) (rows.flatten ++ r)) (hn : rows.length = n) (hX : X < B) : OR (w.setCell ⟨X, i, none⟩ u) B E sz v (rows ++ [r]) := by
  unfold OR
  rw [List.length_append, List.length_singleton, hn, List.flatten_append, List.flatten_singleton]
  exact own_keep h (fun g hg => block_setCell_ne (by have := (own_base h hg).1; simp only; omega))
theorem take_map_succ {α β : Type} (g : α → β) {l : List α} {k : Nat} {x : α} (h : l[k]? = some x) : (l.take (k + 1)).map g = (l.take k).map g ++ [g x] := by
  rw [List.take_add_one, h]; simp
end Go.Proofs.YthbkklnahhdgcaaDoor.CodeL

/-
  Package code's put, putText and sum: bytes behind bytes.
-/
namespace Go.Proofs.YthbkklnahhdgcaaDoor.EncB
open Go Go.Proofs Go.RowKit Lib CodeR CodeA CodeB CodeL EncA

theorem infoByte : (Tryd.prog.info? 5).map (fun i => (i.zero, i.size, i.bytes)) = some (some (.int .u8 0), 1, 1) := by kernel_rfl

/-- A row of bytes of the call's own. -/
def Bu (w : World) (B : Nat) (v : Value) (l : List UInt8) : Prop := w.ownsRow B 5 1 v l.length (l.map bv)
/-- A constant text's bytes: full, and marked behind their last one. -/
def Hd (w : World) (B : Nat) (v : Value) (l : List UInt8) : Prop := ∃ g, v = .slice (some ⟨g, 0, none⟩) l.length l.length ∧ B ≤ g ∧ 0 < l.length ∧ w.heap[g]? = some (.cells (l.map bv).toArray 5 (l.length, l.length + 1))
def Bw (w : World) (B : Nat) (v : Value) (l : List UInt8) : Prop := Bu w B v l ∨ Hd w B v l
def Ow (v : Value) (k : Nat) : Prop := v.ownBlock = some k
/-- From a row v to a row v': nothing else has turned. -/
structure Tn (w : World) (v : Value) (w' : World) (v' : Value) : Prop where
  turned : Turned (Ow v) w w'
  own : ∀ k, Ow v' k → Ow v k ∨ w.heap.size ≤ k
structure Grew (B : Nat) (w : World) (v : Value) (w' : World) (v' : Value) (l' : List UInt8) : Prop extends Tn w v w' v' where
  row : Bu w' B v' l'
theorem Tn.trans {w w1 w2 : World} {v v1 v2 : Value} (h : Tn w v w1 v1) (k : Tn w1 v1 w2 v2) : Tn w v w2 v2 := by
  refine ⟨?_, ?_⟩
  · exact ⟨k.turned.os.trans h.turned.os, k.turned.tape.trans h.turned.tape, k.turned.output.trans h.turned.output, Nat.le_trans h.turned.size k.turned.size, fun i hi hs => by
      refine (k.turned.block i (Nat.lt_of_lt_of_le hi h.turned.size) ?_).trans (h.turned.block i hi hs)
      intro ho
      rcases h.own i ho with h1 | h1
      · exact hs h1
      · omega⟩
  · intro i hi
    rcases k.own i hi with h1 | h1
    · exact h.own i h1
    · exact Or.inr (Nat.le_trans h.turned.size h1)
theorem Tn.refl (w : World) (v : Value) : Tn w v w v := ⟨Turned.refl _ _, fun _ h => Or.inl h⟩
theorem Grew.trans {B : Nat} {w w1 w2 : World} {v v1 v2 : Value} {l1 l2 : List UInt8} (h : Grew B w v w1 v1 l1) (k : Grew B w1 v1 w2 v2 l2) : Grew B w v w2 v2 l2 := ⟨h.toTn.trans k.toTn, k.row⟩
theorem Grew.refl {B : Nat} {w : World} {v : Value} {l : List UInt8} (h : Bu w B v l) : Grew B w v w v l := ⟨Tn.refl _ _, h⟩

theorem append_bytes {B : Nat} {w' : World} {v' : Value} {l m : List UInt8} (h : w'.ownsRow B 5 1 v' (l.length + m.length) (l.map bv ++ m.map bv)) : Bu w' B v' (l ++ m) := by
  unfold Bu
  rw [List.length_append, List.map_append]
  exact h

theorem Bw.alloc {w : World} {B : Nat} {v : Value} {l : List UInt8} (h : Bw w B v l) (o : Obj) : Bw (w.alloc o) B v l := by
  rcases h with h | ⟨g, h1, h2, h3, h4⟩
  · exact Or.inl (World.ownsRow.alloc h o)
  · exact Or.inr ⟨g, h1, h2, h3, (Below.heap_alloc w o g (lt_of_block h4)).trans h4⟩

/-- One byte more. -/
theorem run_byte (w : World) (B : Nat) (v : Value) (l : List UInt8) (h : Bw w B v l) (ad : Addr) (c : Nat) (b : UInt8) (hnew : w.cell? ad = some (bv b)) (hl : l.length ≤ 70368744177674) (hB : B ≤ w.heap.size) :
    ∃ g cap w', (Builtin.append_ #[64, 64] 64 #[v, .slice (some ad) 1 c]).run Tryd.prog w = .ok (.slice (some ⟨g, 0, none⟩) (l.length + 1) cap) w' ∧ Bu w' B (.slice (some ⟨g, 0, none⟩) (l.length + 1) cap) (l ++ [b]) ∧ w.grownBy w' v.ownBlock ∧ (v.ownBlock = some g ∨ g = w.heap.size) := by
  obtain ⟨i0, hi, hz0, hz1, hz2⟩ := info_parts infoByte
  have hnews : ∀ (j : Nat) (u : Value), ([bv b] : List Value)[j]? = some u → w.cell? (ad.add j) = some u := by
    intro j u hu
    have hj : j = 0 := by
      have := (List.getElem?_eq_some_iff.mp hu).1
      simpa using this
    subst hj
    cases hu
    simpa [Addr.add] using hnew
  rcases h with h | ⟨g, rfl, h2, h3, h4⟩
  · obtain ⟨g, cap, w', hr, ho, hg, hat, _⟩ := run_append_lies (P := Tryd.prog) w 64 64 B 5 i0 (.int .u8 0) 1 1 Tryd.underlying64 hi hz0 hz1 hz2 rfl (by decide) v l.length (l.map bv) h ad 1 c [bv b] rfl hnews (by intro x hx; cases List.mem_singleton.mp hx; rfl) (by decide) (by unfold maxLen; omega) (by omega) hB _ rfl
    exact ⟨g, cap, w', hr, append_bytes ho, hg, hat⟩
  · have holds : ∀ (j : Nat) (u : Value), (l.map bv)[j]? = some u → w.cell? ((⟨g, 0, none⟩ : Addr).add j) = some u := by
      intro j u hu
      rw [Addr.add_lit, Nat.zero_add]
      exact cell_of_block h4 (by simpa using hu)
    have hr := run_append_grow (P := Tryd.prog) w 64 64 5 i0 (.int .u8 0) Tryd.underlying64 hi hz0 ⟨g, 0, none⟩ l.length l.length (l.map bv) (by rw [hz1]; simp) holds ad 1 c [bv b] (by rw [hz1]; rfl) hnews (by omega) (by omega) (by rw [hz2]; exact growslice_fits (by omega) (by omega))
    refine ⟨w.heap.size, _, _, hr, ?_, ⟨rfl, rfl, rfl, by simp, fun k hk _ => Below.heap_alloc w.drew _ k hk⟩, Or.inr rfl⟩
    have hge := grownCap_ge w (l.length + 1) l.length 5
    have hcm := grownCap_le_maxLen w (l.length + 1) l.length 5 (by unfold maxLen; omega)
    refine ⟨by simp, Or.inr ⟨w.heap.size, _, _, by simp, hB, heap_alloc_new w.drew _, by simpa using hge, hcm, ?_, ?_⟩⟩
    · have hz1 : (Value.int IntKind.u8 0).cells.size = 1 := rfl
      simp only [Array.size_append, List.size_toArray, size_zeroCells, hz1, List.length_map, List.length_singleton]
      omega
    · rw [List.map_append]
      simp only [Array.toList_append, List.append_assoc]
      rw [← List.append_assoc]
      exact List.take_left' (by simp)
theorem wpList_byte (w : World) {ops : Array Oper} {rest : List Oper} {o : Oper} {a : Act} {Q : Exit → Act → World → Prop} (hgd : o.guard = none) (s x : Operand)
    (ho : o.op = .call { callee := .builtin .append, args := #[s, x], argTypes := #[64, 64] }) (hty : o.type = 64) (B : Nat) (v : Value) (l : List UInt8) (hs : a.eval s = v) (h : Bw w B v l) (ad : Addr) (c : Nat) (hx : a.eval x = .slice (some ad) 1 c) (b : UInt8) (hnew : w.cell? ad = some (bv b)) (hl : l.length ≤ 70368744177674) (hB : B ≤ w.heap.size)
    (K : ∀ g cap w', Bu w' B (.slice (some ⟨g, 0, none⟩) (l.length + 1) cap) (l ++ [b]) → w.grownBy w' v.ownBlock → (v.ownBlock = some g ∨ g = w.heap.size) → wpList Tryd.prog ops Q rest (a.put o.dst (.slice (some ⟨g, 0, none⟩) (l.length + 1) cap)) w') : wpList Tryd.prog ops Q (o :: rest) a w := by
  refine wpList_plain hgd fun _ hK => ?_
  obtain ⟨g, cap, w', hr, h2, h3, h4⟩ := run_byte w B v l h ad c b hnew hl hB
  unfold Oper.wp execOp
  simp only [ho, hty, resolve, invoke, builtin, Sem.run_bind, Sem.run_pure, Result.andThen_ok, List.map_toArray, List.map_cons, List.map_nil, hs, hx, hr]
  exact hK _ _ (K g cap w' h2 h3 h4)

theorem zz_bits (n : Int) (h0 : -9223372036854775808 ≤ n) (h1 : n ≤ 9223372036854775807) : bits .xor .u64 (IntKind.u64.wrap (wrap64 (n * 2))) (IntKind.u64.wrap (n / 9223372036854775808)) = (zz n : Int) := by
  by_cases hn : 0 ≤ n
  · have e1 : IntKind.u64.wrap (wrap64 (n * 2)) = (((n * 2).toNat : Nat) : Int) := by rw [IntKind.wrap_u64]; unfold wrap64; omega
    have e2 : IntKind.u64.wrap (n / 9223372036854775808) = ((0 : Nat) : Int) := by rw [IntKind.wrap_u64]; omega
    rw [e1, e2, bits_xor_u64_nat _ _ (by omega) (by omega), Nat.xor_zero]
    unfold zz
    rw [if_pos hn]
    omega
  · have e1 : IntKind.u64.wrap (wrap64 (n * 2)) = (((18446744073709551616 + n * 2).toNat : Nat) : Int) := by rw [IntKind.wrap_u64]; unfold wrap64; omega
    have e2 : IntKind.u64.wrap (n / 9223372036854775808) = ((18446744073709551615 : Nat) : Int) := by rw [IntKind.wrap_u64]; omega
    have hx : ∀ a : Nat, a < 18446744073709551616 → a ^^^ 18446744073709551615 = 18446744073709551615 - a := by
      intro a ha
      have h := congrArg BitVec.toNat (BitVec.xor_allOnes (x := BitVec.ofNat 64 a))
      rw [BitVec.toNat_xor, BitVec.toNat_not, BitVec.toNat_allOnes, BitVec.toNat_ofNat, Nat.mod_eq_of_lt (by simpa using ha)] at h
      simpa using h
    rw [e1, e2, bits_xor_u64_nat _ _ (by omega) (by omega), hx _ (by omega)]
    unfold zz
    rw [if_neg hn]
    omega
theorem or_bits (u : Nat) : bits .or .u8 ((u : Int) % 256) 128 = ((UInt8.ofNat (u % 128 + 128)).toNat : Int) := by
  have e1 : (u : Int) % 256 = ((u % 256 : Nat) : Int) := by omega
  rw [e1]
  have e2 : (UInt8.ofNat (u % 128 + 128)).toNat = u % 256 % 128 + 128 := by
    rw [UInt8.toNat_ofNat', Nat.mod_eq_of_lt (by omega)]
    omega
  rw [e2]
  have key : ∀ a : Fin 256, bits .or .u8 ((a.val : Nat) : Int) 128 = ((a.val % 128 + 128 : Nat) : Int) := by decide +kernel
  exact key ⟨u % 256, Nat.mod_lt _ (by decide)⟩
theorem shr7 (u : Nat) (w : World) : (binOp .shr 202 (.int .u64 (u : Int)) (.int .u64 7)).run Tryd.prog w = .ok (.int .u64 ((u / 128 : Nat) : Int)) w := by
  rw [binOp_shr, shift_shr_any _ _ _ _ (by decide)]
  have e : ((u : Int) / 2 ^ (min (7 : Int).toNat IntKind.u64.bits)) = ((u / 128 : Nat) : Int) := by
    show (u : Int) / 128 = _
    omega
  rw [e]
  rfl
theorem low_bits (u : Nat) (h : u < 128) : (u : Int) % 256 = ((UInt8.ofNat u).toNat : Int) := by
  rw [UInt8.toNat_ofNat', Nat.mod_eq_of_lt (by omega)]
  omega

/-! ### a text's bytes behind a row, and where the new row lies -/
section
variable {P : Program} (w : World)
theorem run_text (base : Nat) (t u ty e : TypeId) (i : TypeInfo) (ht : P.underlying t = some (.slice e)) (hu : P.underlying u = some .string) (hi : P.info? e = some i) (hz : i.zero = some (.int .u8 0))
    (hsize : i.size = 1) (hby : i.bytes = 1) (v : Value) (n : Nat) (xs : List Value) (hown : w.ownsRow base e 1 v n xs) (s : ByteArray) (hb : n + s.size ≤ 140737488355328) (hbase : base ≤ w.heap.size) :
    ∃ v' w', (Builtin.append_ #[t, u] ty #[v, .string s]).run P w = .ok v' w' ∧ w'.ownsRow base e 1 v' (n + s.size) (xs ++ Go.Lib.strCells s) ∧ w.grownBy w' v.ownBlock ∧ ∀ k, v'.ownBlock = some k → v.ownBlock = some k ∨ w.heap.size ≤ k := by
  obtain ⟨v', w', hr, ho, hg, hn⟩ := Go.Lib.run_append_own_string (P := P) w base t u ty e i ht hu hi hz hsize hby v n xs hown s (by unfold maxLen; omega) hb hbase
  refine ⟨v', w', hr, ho, hg, fun k hk => ?_⟩
  rcases hown.2 with ⟨rfl, rfl⟩ | ⟨g, cap, cur, rfl, hbg, hgc, hnc, hcm, hcs, htake⟩
  · by_cases hs : s.size = 0
    · rw [hn.2 ⟨rfl, hs⟩] at hk
      cases hk
    · have h2 := run_append_nil_string (P := P) w t u ty e i (.int .u8 0) ht hu hi hz s (by omega) (by omega) (by rw [hby]; omega)
      rw [h2] at hr
      injection hr with h3 _
      subst h3
      right
      have h4 : w.heap.size = k := Option.some.inj hk
      omega
  · by_cases hroom : n + s.size ≤ cap
    · have hcs' : cur.size = cap := by simpa using hcs
      have h2 := Go.Lib.run_append_room_string (P := P) w t u ty e i ht hu hi hsize g n cap cur hgc s hroom (by omega)
      rw [h2] at hr
      injection hr with h3 _
      subst h3
      exact Or.inl hk
    · have h2 := Go.Lib.run_append_grow_string (P := P) w t u ty e i (.int .u8 0) ht hu hi hz ⟨g, 0, none⟩ n cap xs (by rw [hsize]; exact hown.1) (hown.cells (g := g) rfl) s (by omega) (by omega) (by rw [hby]; exact growslice_fits (by omega) (by omega))
      rw [h2] at hr
      injection hr with h3 _
      subst h3
      right
      have h4 : w.heap.size = k := Option.some.inj hk
      omega
theorem wpList_text {ops : Array Oper} {rest : List Oper} {o : Oper} {a : Act} {Q : Exit → Act → World → Prop} (hgd : o.guard = none) (sl x : Operand) (t u : TypeId)
    (ho : o.op = .call { callee := .builtin .append, args := #[sl, x], argTypes := #[t, u] }) (base : Nat) (e : TypeId) (i : TypeInfo) (ht : P.underlying t = some (.slice e)) (hu : P.underlying u = some .string)
    (hi : P.info? e = some i) (hz : i.zero = some (.int .u8 0)) (hsize : i.size = 1) (hby : i.bytes = 1) (v : Value) (n : Nat) (xs : List Value) (hs : a.eval sl = v) (hown : w.ownsRow base e 1 v n xs) (s : ByteArray) (hx : a.eval x = .string s)
    (hb : n + s.size ≤ 140737488355328) (hbase : base ≤ w.heap.size)
    (h : ∀ v' w', w'.ownsRow base e 1 v' (n + s.size) (xs ++ Go.Lib.strCells s) → w.grownBy w' v.ownBlock → (∀ k, v'.ownBlock = some k → v.ownBlock = some k ∨ w.heap.size ≤ k) → wpList P ops Q rest (a.put o.dst v') w') : wpList P ops Q (o :: rest) a w := by
  refine wpList_plain hgd fun K hK => ?_
  obtain ⟨v', w', hr, h2, h3, h4⟩ := run_text (P := P) w base t u o.type e i ht hu hi hz hsize hby v n xs hown s hb hbase
  unfold Oper.wp execOp
  simp only [ho, resolve, invoke, builtin, Sem.run_bind, Sem.run_pure, Result.andThen_ok, List.map_toArray, List.map_cons, List.map_nil, hs, hx, hr]
  exact hK _ _ (h v' w' h2 h3 h4)
end
theorem cells_text {B : Nat} {w' : World} {v' : Value} {l : List UInt8} {s : ByteArray} (h : w'.ownsRow B 5 1 v' (l.length + s.size) (l.map bv ++ Go.Lib.strCells s)) : Bu w' B v' (l ++ sl s) := by
  unfold Bu
  rw [List.length_append, List.map_append]
  exact h

set_option maxRecDepth 100000 in
set_option maxHeartbeats 4000000 in
theorem put_any (B : Nat) (v : Value) (l : List UInt8) (n : Int) (w : World) (h : Bw w B v l) (hB : B ≤ w.heap.size) (h0 : -9223372036854775808 ≤ n) (h1 : n ≤ 9223372036854775807) (hl : l.length ≤ 70368744177664) :
    Calls Tryd.prog 48 #[v, .int .i64 n] w fun e w' => ∃ v', e = .returned v' ∧ Grew B w v w' v' (l ++ num n) := by
  have hzb := zz_bits n h0 h1
  have hzl := zz_lt h0 h1
  have hnl := num_len h0 h1
  have hG0 := Tn.refl w v
  unfold num at hnl ⊢
  generalize zz n = z at *
  go_enter Tryd.func48, Tryd.ntmps48
  go_wp2_with fail
  clear hzb
  go_loopw [0, 5] (fun s0 s5 wr => ∃ (u : Nat) (l' : List UInt8) (v' : Value), v' = s0 ∧ s5 = .int .u64 (u : Int) ∧ Bw wr B v' l' ∧ Tn w v wr v' ∧ l' ++ vb u = l ++ vb z ∧ u < 18446744073709551616) (fun _ s5 _ => (intOf s5).toNat)
  case atStart => exact ⟨z, l, v, rfl, rfl, h, hG0, rfl, hzl⟩
  case round =>
    obtain ⟨u, l', v', rfl, rfl, hrow, hG, heq, hu⟩ := hrel
    have hlen : l'.length + (vb u).length = l.length + (vb z).length := by rw [← List.length_append, heq, List.length_append]
    have hpos := vb_pos u
    have hBr : B ≤ wr.heap.size := Nat.le_trans hB hG.turned.size
    by_cases hge : 128 ≤ u
    · have hd : decide (128 ≤ (u : Int)) = true := by simp; omega
      obtain ⟨b, hb⟩ : ∃ b, UInt8.ofNat (u % 128 + 128) = b := ⟨_, rfl⟩
      have hvb := vb_ge hge
      have hor := or_bits u
      rw [hb] at hor hvb
      clear hb
      have hshr := shr7 u
      go_wp2_with (at_builtin; refine wpList_byte _ rfl _ _ rfl rfl B v' l' rfl (hrow.alloc _) ⟨wr.heap.size, 0, none⟩ 1 rfl b (cell_of_block (heap_alloc_new wr _) rfl) (by omega) (by simp; omega) ?_)
      intro g cap w6 hown hgrow hat
      have hG1 : Tn wr v' w6 (.slice (some ⟨g, 0, none⟩) (l'.length + 1) cap) :=
        ⟨((Turned.refl _ wr).alloc _).grown hgrow (fun k hk => Or.inl hk), fun k hk => by
          have hk' : g = k := Option.some.inj hk
          subst hk'
          rcases hat with h | h
          · exact Or.inl h
          · right; rw [h]; simp⟩
      have hG2 := hG.trans hG1
      go_wp2
      go_roundw
      case rel =>
        refine ⟨u / 128, _, _, rfl, rfl, Or.inl hown, hG2, ?_, by omega⟩
        rw [List.append_assoc, List.singleton_append, ← hvb]
        exact heq
      case measure => simp [intOf]; omega
    · have hd : decide (128 ≤ (u : Int)) = false := by simp; omega
      obtain ⟨b, hb⟩ : ∃ b, UInt8.ofNat u = b := ⟨_, rfl⟩
      have hvb := vb_lt (u := u) (by omega)
      have hub : b.toNat = u := by rw [← hb, UInt8.toNat_ofNat', Nat.mod_eq_of_lt (by omega)]
      rw [hb] at hvb
      clear hb
      subst hub
      go_wp2_with (at_builtin; refine wpList_byte _ rfl _ _ rfl rfl B v' l' rfl (hrow.alloc _) ⟨wr.heap.size, 0, none⟩ 1 rfl b (cell_of_block (heap_alloc_new wr _) rfl) (by omega) (by simp; omega) ?_)
      intro g cap w6 hown hgrow hat
      have hG1 : Tn wr v' w6 (.slice (some ⟨g, 0, none⟩) (l'.length + 1) cap) :=
        ⟨((Turned.refl _ wr).alloc _).grown hgrow (fun k hk => Or.inl hk), fun k hk => by
          have hk' : g = k := Option.some.inj hk
          subst hk'
          rcases hat with h | h
          · exact Or.inl h
          · right; rw [h]; simp⟩
      have hG2 := hG.trans hG1
      go_wp2
      go_ret
      refine ⟨_, rfl, hG2, ?_⟩
      rw [← heq, hvb]
      exact hown

set_option maxRecDepth 100000 in
set_option maxHeartbeats 4000000 in
theorem putText_any (B : Nat) (v : Value) (l : List UInt8) (s : ByteArray) (w : World) (h : Bu w B v l) (hB : B ≤ w.heap.size) (hl : l.length ≤ 70368744177664) (hs : s.size ≤ 35184372088832) :
    Calls Tryd.prog 49 #[v, .string s] w fun e w' => ∃ v', e = .returned v' ∧ Grew B w v w' v' (l ++ txt s) := by
  obtain ⟨i0, hi, hz0, hz1, hz2⟩ := info_parts infoByte
  have hnl := num_len (n := (s.size : Int)) (by omega) (by omega)
  have hput := put_any B v l (s.size : Int) w (Or.inl h) hB (by omega) (by omega) hl
  go_enter Tryd.func49, Tryd.ntmps49
  go_wp2_with fail
  refine hput.mono ?_
  rintro e w1 ⟨v1, rfl, hG⟩
  have hB1 : B ≤ w1.heap.size := Nat.le_trans hB hG.turned.size
  have hl1 : (l ++ num (s.size : Int)).length ≤ 70368744177674 := by rw [List.length_append]; omega
  obtain ⟨m, hm⟩ : ∃ m, l ++ num (s.size : Int) = m := ⟨_, rfl⟩
  rw [hm] at hG hl1
  go_wp2_with (at_builtin; refine wpList_text _ rfl _ _ 64 9 rfl B 5 i0 Tryd.underlying64 Tryd.underlying9 hi hz0 hz1 hz2 v1 m.length (m.map bv) rfl hG.row s rfl (by omega) hB1 ?_)
  intro v2 w2 hown hgrow hat
  have hG1 : Grew B w1 v1 w2 v2 (m ++ sl s) := ⟨⟨(Turned.refl _ w1).grown hgrow (fun k hk => Or.inl hk), hat⟩, cells_text hown⟩
  have hG2 := hG.trans hG1
  go_wp2
  go_ret
  refine ⟨_, rfl, ?_⟩
  unfold txt
  rw [← List.append_assoc, hm]
  exact hG2
end Go.Proofs.YthbkklnahhdgcaaDoor.EncB

/-
  Package code's sum over bytes in memory.
-/
namespace Go.Proofs.YthbkklnahhdgcaaDoor.EncS
open Go Go.Proofs Go.RowKit Lib CodeR CodeA CodeB CodeL EncA EncB

set_option maxRecDepth 100000 in
set_option maxHeartbeats 4000000 in
/-- The sum over bytes that lie in memory. -/
theorem sum_any (oa : Option Addr) (c : Nat) (l : List UInt8) (w : World) (hlen : l.length ≤ 140737488355328) (hc : ∀ (k : Nat) (b : UInt8), l[k]? = some b → ∃ ad, oa = some ad ∧ w.cell? (ad.add k) = some (bv b)) :
    Calls Tryd.prog 50 #[.slice oa l.length c] w fun e w' => e = .returned (.int .i64 (sumB l : Int)) ∧ w' = w := by
  go_enter Tryd.func50, Tryd.ntmps50
  go_wp2_with fail
  go_loop [3, 8] (fun s3 s8 => ∃ k : Nat, s8 = .int .i64 (k : Int) ∧ s3 = .int .i64 (sumB (l.take k) : Int) ∧ k ≤ l.length) (fun _ s8 => l.length - (intOf s8).toNat)
  case atStart => exact ⟨0, rfl, rfl, Nat.zero_le _⟩
  case round =>
    obtain ⟨k, rfl, rfl, hk⟩ := hrel
    by_cases hkn : k < l.length
    · obtain ⟨b, hx⟩ : ∃ b, l[k]? = some b := ⟨_, List.getElem?_eq_getElem hkn⟩
      have hkd : decide ((k : Int) < (l.length : Int)) = true := by simp; omega
      obtain ⟨ad, rfl, hcell⟩ := hc k b hx
      have hlt := sumB_lt (l.take k)
      have hb := b.toNat_lt
      have hsum : sumB (l.take (k + 1)) = (37 * sumB (l.take k) + b.toNat) % 8191 := by
        unfold sumB
        rw [List.take_add_one, hx, Option.toList_some, List.foldl_append]
        rfl
      unfold bv at hcell
      generalize b.toNat = bn at *
      generalize hS : sumB (l.take k) = S at *
      have a1 : wrap64 (37 * (S : Int)) = 37 * (S : Int) := by unfold wrap64; omega
      have a2 : wrap64 (37 * (S : Int) + (bn : Int)) = 37 * (S : Int) + (bn : Int) := by unfold wrap64; omega
      have a3 : (37 * (S : Int) + (bn : Int)).tmod 8191 = (((37 * S + bn) % 8191 : Nat) : Int) := by rw [Int.tmod_eq_emod_of_nonneg (by omega)]; omega
      have a4 : wrap64 ((k : Int) + 1) = (k : Int) + 1 := by unfold wrap64; omega
      have a5' : (37 * (S : Int) + (bn : Int)) % 8191 = (((37 * S + bn) % 8191 : Nat) : Int) := by clear hsum hS; omega
      have a5 : Aside ((37 * (S : Int) + (bn : Int)) % 8191 = (((37 * S + bn) % 8191 : Nat) : Int)) := a5'
      have a6 : Aside (sumB (l.take (k + 1)) = (37 * S + bn) % 8191) := hsum
      have a7 : wrap64 (bn : Int) = (bn : Int) := by unfold wrap64; omega
      clear a5' hsum hS hlt hb hc
      go_wp2
      go_round
      case rel =>
        refine ⟨k + 1, by simp, ?_, hkn⟩
        first | (rw [a6.out, ← a5.out]; done) | (rw [a6.out]; done)
      case measure =>
        clear a1 a2 a3 a5 a6 a7 hcell
        simp [intOf]
        omega
    · obtain rfl : k = l.length := by omega
      have hkd : decide ((l.length : Int) < (l.length : Int)) = false := by simp
      clear hc
      go_wp2
      go_ret
      exact ⟨rfl, rfl⟩

theorem sum_bu {B : Nat} {v : Value} {l : List UInt8} {w : World} (h : Bu w B v l) (hlen : l.length ≤ 140737488355328) :
    Calls Tryd.prog 50 #[v] w fun e w' => e = .returned (.int .i64 (sumB l : Int)) ∧ w' = w := by
  rcases h.2 with ⟨rfl, h0⟩ | ⟨g, cap, cur, rfl, _, _⟩
  · obtain rfl : l = [] := List.eq_nil_of_length_eq_zero h0
    exact sum_any none 0 [] w (by simp) (fun k b hb => by simp at hb)
  · refine sum_any (some ⟨g, 0, none⟩) cap l w hlen (fun k b hb => ⟨_, rfl, ?_⟩)
    exact World.ownsRow.cells h (g := g) rfl k (bv b) (by rw [List.getElem?_map, hb]; rfl)
end Go.Proofs.YthbkklnahhdgcaaDoor.EncS

/-
  Contracts of the document's within, and of effect's closure text.
-/
namespace Go.Proofs.YthbkklnahhdgcaaDoor.CodeEa
open Go Go.Proofs Go.RowKit Lib CodeR CodeA CodeB

theorem within_any (n lo hi : Int) (w : World) : Calls Tryd.prog 42 #[.int .i64 n, .int .i64 lo, .int .i64 hi] w fun e w' => e = .returned (.bool (CodeR.within n lo hi)) ∧ w' = w := by
  unfold CodeR.within
  by_cases h : lo ≤ n
  · have h0 : decide (lo ≤ n) = true := by simpa using h
    go_enter Tryd.func42, Tryd.ntmps42
    go_wp2
    go_ret
    exact ⟨by simp [h], rfl⟩
  · have h0 : decide (lo ≤ n) = false := by simpa using h
    go_enter Tryd.func42, Tryd.ntmps42
    go_wp2
    go_ret
    exact ⟨by simp, rfl⟩

set_option maxHeartbeats 1000000 in
theorem rtext_any (mb mo bx : Nat) (m : Im) (k : Int) (w : World) (hm : Row w mb mo m.vals) (hi : ImIn w m) (hb : w.cell? ⟨bx, 0, none⟩ = some (.pointer (some ⟨mb, mo, none⟩))) :
    Calls Tryd.prog 102 #[.int .i64 k, .pointer (some ⟨bx, 0, none⟩)] w fun e w' => e = .returned (.bool (m.textB k)) ∧ w' = w := by
  obtain ⟨_, c1, _⟩ := im_cells hm
  have hl := hi.consts.len
  have hs := hi.consts.small
  have ha := hi.consts.addr
  have hr := hi.consts.row
  clear hm hi
  rw [List.length_map] at hl
  unfold Sl.val at c1
  generalize hS : m.constsS = S at *
  obtain ⟨oa, n, c, b, o⟩ := S
  simp only at hl hs ha hr c1
  have hsm : m.consts.length ≤ 9223372036854775807 := by omega
  have hw := within_any k 0 ((m.consts.length : Int) - 1)
  cases hin : CodeR.within k 0 ((m.consts.length : Int) - 1)
  · rw [hin] at hw
    have ht : m.textB k = false := by
      simp only [Im.textB]
      rw [hin]
      rfl
    rw [ht]
    clear ht hr hin
    go_enter Tryd.func102, Tryd.ntmps102
    go_wp2_with (go_at_call 42; refine (hw _).mono ?_; rintro e w1 ⟨rfl, hw1⟩; rw [hw1]; clear hw1)
    go_ret
    exact ⟨rfl, rfl⟩
  · rw [hin] at hw
    have hin' : 0 ≤ k ∧ k < (n : Int) := by simp [CodeR.within] at hin; omega
    obtain ⟨h0, h1⟩ := hin'
    obtain ⟨x, hx⟩ := get_of_lt (l := m.consts) h0 (by omega)
    obtain rfl := ha (by omega)
    have hrow := hr k.toNat x.vals (by rw [List.getElem?_map, hx]; rfl)
    have hc := hrow 0 _ rfl
    simp only [Nat.add_zero] at hc
    have ht : m.textB k = x.text := by
      simp only [Im.textB, hx]
      rw [hin]
      rfl
    rw [ht]
    clear ht hr hrow hin
    go_enter Tryd.func102, Tryd.ntmps102
    go_wp2_with (go_at_call 42; refine (hw _).mono ?_; rintro e w1 ⟨rfl, hw1⟩; rw [hw1]; clear hw1)
    go_ret
    exact ⟨rfl, rfl⟩
/-! ### effect's six results -/
def toI (x : I3) : Int := match goI x with | some (a, _) => a | none => -1
def thereI (x : I3) : Int := match goI x with | some (_, k) => k | none => 0
/-- What effect returns: is it right; if so, how many it takes, leaves, where else it goes, what it leaves there, does it go on. -/
def EffR (m : Im) (f : Fc) (x : I3) (e : Ending) : Prop :=
  ∃ (tk lv to th : Int) (on : Bool), e = .returned (.tuple #[.bool (rightB m f x), .int .i64 tk, .int .i64 lv, .int .i64 to, .int .i64 th, .bool on]) ∧ (rightB m f x = true → tk = takeI x ∧ lv = leaveI x ∧ to = toI x ∧ th = thereI x ∧ on = !endsB x.op)
theorem results_tmp6 {fn : Func} {a b c d e g : Tmp} (h : fn.results = #[.tmp a, .tmp b, .tmp c, .tmp d, .tmp e, .tmp g]) (tmps : Array Value) (P : Program) (w : World) :
    (results fn tmps).run P w = .ok (.tuple #[tmps.getD a undef, tmps.getD b undef, tmps.getD c undef, tmps.getD d undef, tmps.getD e undef, tmps.getD g undef]) w := by
  simp [results, h]
theorem alloc3_cell {w : World} {b o : Nat} {v : Value} (h : w.cell? ⟨b, o, none⟩ = some v) (o1 o2 o3 : Obj) : (((w.alloc o1).alloc o2).alloc o3).cell? ⟨b, o, none⟩ = some v :=
  alloc_cell (alloc_cell (alloc_cell h o1) o2) o3
theorem below_alloc3 {B : Nat} {a w2 : World} (h : Below B a w2) (hB : B ≤ a.heap.size) (o1 o2 o3 : Obj) : Below B a (((w2.alloc o1).alloc o2).alloc o3) :=
  below_alloc (below_alloc (below_alloc h o1 hB) o2 hB) o3 hB
end Go.Proofs.YthbkklnahhdgcaaDoor.CodeEa

/-
  The contract of the document's function's closure come.
-/
namespace Go.Proofs.YthbkklnahhdgcaaDoor.CodeF
open Go Go.Proofs Go.RowKit Go.Maps Lib CodeR CodeA CodeB CodeP CodeD

/-- The map holds the labels. -/
def MR (D : DataW Unit) (deep : List Int) : Prop :=
  IsMap D ∧ ∀ i : Nat, i < deep.length → Maps.has D (.int .i64 (i : Int)) = decide (0 ≤ deep.getD i 0) ∧ (0 ≤ deep.getD i 0 → D.atKey (.int .i64 (i : Int)) (.lit (.int .i64 0)) = .lit (.int .i64 (deep.getD i 0)))
/-- What the document's come sees: the boxes of f, good, many; the map. -/
structure RS (w : World) (lo fx gx mx mb : Nat) (f : Fc) (deep : List Int) (e : Int) : Prop where
  fbox : w.heap[fx]? = some (.cells f.vals.toArray 130 (0, 0))
  gbox : w.heap[gx]? = some (.cells #[.bool (decide (e = 0))] 4 (0, 0))
  mbox : w.heap[mx]? = some (.cells #[.map (some mb)] 96 (0, 0))
  map : ∃ n D, w.ownsMap Tryd.prog 3 (plainElem Tryd.prog 3) mb n D ∧ n + unl deep ≤ deep.length ∧ MR D deep
  high : lo ≤ fx ∧ lo ≤ gx ∧ lo ≤ mx ∧ lo ≤ mb
  fg : fx ≠ gx
  fm : fx ≠ mb
  gm : gx ≠ mb
  gx' : gx ≠ mx
  mm : mx ≠ mb

theorem ownsMap_same {w w' : World} {P : Program} {k : TypeId} {R : Value → Option (DataW Unit × List MemPlace)} {b n : Nat} {D : DataW Unit} (h : w.ownsMap P k R b n D) (e : w'.heap[b]? = w.heap[b]?) : w'.ownsMap P k R b n D := by
  obtain ⟨es, clock, hb, F, hs, hD⟩ := h
  exact ⟨es, clock, e.trans hb, F, hs, hD⟩
theorem RS.size {w : World} {lo fx gx mx mb : Nat} {f : Fc} {deep : List Int} {e : Int} (S : RS w lo fx gx mx mb f deep e) : fx < w.heap.size ∧ gx < w.heap.size ∧ mx < w.heap.size ∧ mb < w.heap.size := by
  obtain ⟨n, D, h, _⟩ := S.map
  exact ⟨lt_of_block S.fbox, lt_of_block S.gbox, lt_of_block S.mbox, h.lt⟩
theorem RS.keep {w w' : World} {lo fx gx mx mb : Nat} {f : Fc} {deep : List Int} {e : Int} (S : RS w lo fx gx mx mb f deep e) (hb : ∀ k, k < w.heap.size → w'.heap[k]? = w.heap[k]?) : RS w' lo fx gx mx mb f deep e := by
  obtain ⟨h1, h2, h3, h4⟩ := S.size
  obtain ⟨n, D, h, hn⟩ := S.map
  exact ⟨(hb _ h1).trans S.fbox, (hb _ h2).trans S.gbox, (hb _ h3).trans S.mbox, ⟨n, D, ownsMap_same h (hb _ h4), hn⟩, S.high, S.fg, S.fm, S.gm, S.gx', S.mm⟩
theorem RS.below {w w' : World} {lo fx gx mx mb : Nat} {f : Fc} {deep : List Int} {e : Int} (S : RS w lo fx gx mx mb f deep e) (hb : Below w.heap.size w w') : RS w' lo fx gx mx mb f deep e := S.keep fun k hk => hb.block k hk
/-- What come writes: good's box and the map. -/
def Gs (gx mb : Nat) (k : Nat) : Prop := k = gx ∨ k = mb
theorem RS.bad {w : World} {lo fx gx mx mb : Nat} {f : Fc} {deep : List Int} {e : Int} (S : RS w lo fx gx mx mb f deep e) : RS (w.setCell ⟨gx, 0, none⟩ (.bool false)) lo fx gx mx mb f deep 3 := by
  have hk : ∀ k, k ≠ gx → (w.setCell ⟨gx, 0, none⟩ (.bool false)).heap[k]? = w.heap[k]? := fun k hk => block_setCell_ne hk
  obtain ⟨n, D, h, hn⟩ := S.map
  exact ⟨(hk _ S.fg).trans S.fbox, one_setCell S.gbox, (hk _ S.gx'.symm).trans S.mbox, ⟨n, D, ownsMap_same h (hk _ S.gm.symm), hn⟩, S.high, S.fg, S.fm, S.gm, S.gx', S.mm⟩
theorem RS.badT {w : World} {gx mb : Nat} (u : Value) : Turned (Gs gx mb) w (w.setCell ⟨gx, 0, none⟩ u) := (Turned.refl _ w).setCell (Or.inl (Or.inl rfl)) _

theorem lit_ne {i j : Nat} (h : i ≠ j) : (Lit.int .i64 (i : Int)) ≠ .int .i64 (j : Int) := by
  intro hc
  injection hc with _ h2
  omega
theorem MR.put {D : DataW Unit} {deep : List Int} {p : Nat} {n : Int} (h : MR D deep) (hp : p < deep.length) (h0 : 0 ≤ n) : MR (D.put (.int .i64 (p : Int)) (.lit (.int .i64 n))) (deep.set p n) := by
  obtain ⟨hm, h⟩ := h
  refine ⟨hm.put _ _, ?_⟩
  intro i hi
  rw [List.length_set] at hi
  have hk : WideAt.IsKeyLit (.int .i64 (p : Int)) := by first | trivial | decide | (simp [WideAt.IsKeyLit])
  by_cases hip : i = p
  · subst hip
    have hg : (deep.set i n).getD i 0 = n := by rw [List.getD_eq_getElem?_getD, List.getElem?_set_self hp]; rfl
    rw [hg, has_put_same hm hk, atKey_put_same hm hk]
    exact ⟨by simp [h0], fun _ => rfl⟩
  · have hg : (deep.set p n).getD i 0 = deep.getD i 0 := by rw [List.getD_eq_getElem?_getD, List.getElem?_set_ne (Ne.symm hip), List.getD_eq_getElem?_getD]
    rw [hg, has_put_other (lit_ne hip), atKey_put_other (lit_ne hip)]
    exact h i hi
theorem lit_inj {a b : Int} (h : (DataW.lit (.int .i64 a) : DataW Unit) = .lit (.int .i64 b)) : a = b := by
  injection h with h1
  injection h1 with _ h2
theorem zeroInt (w : World) : (zeroValue 3).run Tryd.prog w = .ok (.int .i64 0) w := by kernel_rfl

theorem fbox_cell {w : World} {fx : Nat} {f : Fc} {t : TypeId} (h : w.heap[fx]? = some (.cells f.vals.toArray t (0, 0))) : Row w fx 0 f.vals := by
  intro k v hv
  refine cell_of_block h ?_
  rw [Nat.zero_add]
  simpa using hv

section
variable (w : World) (lo fx gx mx mb : Nat) (f : Fc) (deep : List Int) (e : Int) (p : Nat) (n : Int)

set_option maxRecDepth 100000 in
set_option maxHeartbeats 2000000 in
theorem rcome_bad (S : RS w lo fx gx mx mb f deep e) (hn : f.codeS.n = f.code.length) (hd : deep.length = f.code.length) (h : deep.length ≤ p ∨ 200 < n) :
    Calls Tryd.prog 87 #[.int .i64 (p : Int), .int .i64 n, .pointer (some ⟨fx, 0, none⟩), .pointer (some ⟨gx, 0, none⟩), .pointer (some ⟨mx, 0, none⟩)] w
      fun r w' => r = .returned (.bool false) ∧ w' = w.setCell ⟨gx, 0, none⟩ (.bool false) := by
  have hfc : w.cell? ⟨fx, 3, none⟩ = some f.codeS.val := by simpa using fbox_cell S.fbox 3 _ rfl
  unfold Sl.val at hfc
  rw [hn] at hfc
  have hgx := cell_of_one S.gbox
  have hgz := free_of_one S.gbox
  rw [hd] at h
  clear S
  rcases Nat.lt_or_ge p f.code.length with h0 | h0
  · have h1 : 200 < n := by omega
    have hd0 : decide ((f.code.length : Int) ≤ (p : Int)) = false := by simp; omega
    have hd1 : decide (200 < n) = true := by simp; omega
    go_enter Tryd.func87, Tryd.ntmps87
    go_wp2
    go_ret
    exact ⟨rfl, rfl⟩
  · have hd0 : decide ((f.code.length : Int) ≤ (p : Int)) = true := by simp; omega
    go_enter Tryd.func87, Tryd.ntmps87
    go_wp2
    go_ret
    exact ⟨rfl, rfl⟩

set_option maxRecDepth 100000 in
set_option maxHeartbeats 2000000 in
theorem rcome_old (S : RS w lo fx gx mx mb f deep e) (hn : f.codeS.n = f.code.length) (hd : deep.length = f.code.length) (hlim : deep.length ≤ 5000) (h : ¬ (deep.length ≤ p ∨ 200 < n)) (h2 : ¬ deep.getD p 0 < 0) :
    Calls Tryd.prog 87 #[.int .i64 (p : Int), .int .i64 n, .pointer (some ⟨fx, 0, none⟩), .pointer (some ⟨gx, 0, none⟩), .pointer (some ⟨mx, 0, none⟩)] w
      fun r w' => r = .returned (.bool false) ∧ w' = if deep.getD p 0 = n then w else w.setCell ⟨gx, 0, none⟩ (.bool false) := by
  have hfc : w.cell? ⟨fx, 3, none⟩ = some f.codeS.val := by simpa using fbox_cell S.fbox 3 _ rfl
  unfold Sl.val at hfc
  rw [hn] at hfc
  have hgx := cell_of_one S.gbox
  have hgz := free_of_one S.gbox
  have hmx := cell_of_one S.mbox
  obtain ⟨nm, D, hown, hroom, _, hMR⟩ := S.map
  obtain ⟨hp, hd0, hd1⟩ := come_place h
  obtain ⟨hh, ha⟩ := hMR p hp
  have hh' : Maps.has D (.int .i64 (p : Int)) = true := by rw [hh]; first | exact decide_eq_true (by omega) | exact decide_eq_false (by omega)
  have ha' := ha (by omega)
  have hzero := zeroInt
  have hwp : (Lit.int .i64 (p : Int)).wf = true := WalkArith.wf_i64 (by omega)
  rw [hd] at hd0
  generalize deep.getD p 0 = u at *
  clear S ha hh hMR h
  by_cases h3 : u = n
  · subst h3
    rw [if_pos rfl]
    have hne : (u != u) = false := by simp
    go_enter Tryd.func87, Tryd.ntmps87
    go_wp2_with (at_lookup; refine wpList_lookup_own_ok_int _ rfl _ _ 96 rfl 3 3 .i64 (int_keyed Tryd.underlying3) Tryd.underlying96 Tryd.underlying3 (hzero _) mb nm D rfl hown _ (.int .i64 (p : Int)) rfl (keyOf_int_mk Tryd.underlying3 hwp) ?_; intro c hat _; rw [ha'] at hat; obtain rfl := lit_inj hat; rw [hh']; clear hat)
    go_ret
    exact ⟨rfl, rfl⟩
  · rw [if_neg h3]
    have hne : (u != n) = true := by simp; omega
    go_enter Tryd.func87, Tryd.ntmps87
    go_wp2_with (at_lookup; refine wpList_lookup_own_ok_int _ rfl _ _ 96 rfl 3 3 .i64 (int_keyed Tryd.underlying3) Tryd.underlying96 Tryd.underlying3 (hzero _) mb nm D rfl hown _ (.int .i64 (p : Int)) rfl (keyOf_int_mk Tryd.underlying3 hwp) ?_; intro c hat _; rw [ha'] at hat; obtain rfl := lit_inj hat; rw [hh']; clear hat)
    go_ret
    exact ⟨rfl, rfl⟩

set_option maxRecDepth 100000 in
set_option maxHeartbeats 2000000 in
theorem rcome_new (S : RS w lo fx gx mx mb f deep e) (hn : f.codeS.n = f.code.length) (hd : deep.length = f.code.length) (hlim : deep.length ≤ 5000) (h : ¬ (deep.length ≤ p ∨ 200 < n)) (hn0 : 0 ≤ n) (h2 : deep.getD p 0 < 0) :
    Calls Tryd.prog 87 #[.int .i64 (p : Int), .int .i64 n, .pointer (some ⟨fx, 0, none⟩), .pointer (some ⟨gx, 0, none⟩), .pointer (some ⟨mx, 0, none⟩)] w
      fun r w' => r = .returned (.bool true) ∧ RS w' lo fx gx mx mb f (deep.set p n) e ∧ Turned (Gs gx mb) w w' := by
  have hfc : w.cell? ⟨fx, 3, none⟩ = some f.codeS.val := by simpa using fbox_cell S.fbox 3 _ rfl
  unfold Sl.val at hfc
  rw [hn] at hfc
  have hmx := cell_of_one S.mbox
  obtain ⟨nm, D, hown, hroom, hMR⟩ := S.map
  obtain ⟨hp, hd0, hd1⟩ := come_place h
  obtain ⟨hh, _⟩ := hMR.2 p hp
  have hh' : Maps.has D (.int .i64 (p : Int)) = false := by rw [hh]; first | exact decide_eq_true (by omega) | exact decide_eq_false (by omega)
  have hzero := zeroInt
  have hunl := unl_come (deep := deep) (e := e) (p := p) hn0
  have hN : comeN deep p n = true := by
    unfold comeN
    simp only [Bool.and_eq_true, Bool.not_eq_true', Bool.or_eq_false_iff, decide_eq_false_iff_not, decide_eq_true_eq]
    exact ⟨⟨fun h' => h (Or.inl h'), fun h' => h (Or.inr h')⟩, h2⟩
  have hD : comeD deep e p n = (deep.set p n, e) := by unfold comeD; rw [if_neg h, if_pos h2]
  rw [hN, hD] at hunl
  simp only [if_true] at hunl
  have hMR' := hMR.put hp hn0
  have hC := S
  have hnl : n ≤ 200 := by omega
  have hwp : (Lit.int .i64 (p : Int)).wf = true := WalkArith.wf_i64 (by omega)
  have hwn : (Lit.int .i64 n).wf = true := WalkArith.wf_i64 (by omega)
  have hnm : nm < maxLen := by unfold maxLen; omega
  rw [hd] at hd0
  clear S hh hMR h hD hN
  go_enter Tryd.func87, Tryd.ntmps87
  go_wp2_with (first | (at_lookup; refine wpList_lookup_own_ok_int _ rfl _ _ 96 rfl 3 3 .i64 (int_keyed Tryd.underlying3) Tryd.underlying96 Tryd.underlying3 (hzero _) mb nm D rfl hown _ (.int .i64 (p : Int)) rfl (keyOf_int_mk Tryd.underlying3 hwp) ?_; intro c hat _; rw [hh']; clear hat) | (at_mapUpdate; refine wpList_mapUpdate_own _ rfl _ _ _ 96 rfl 3 3 (int_keyed Tryd.underlying3) Tryd.underlying96 _ mb nm D rfl hown hnm _ _ (.int .i64 (p : Int)) rfl rfl (keyOf_int_mk Tryd.underlying3 hwp) _ [] (plainElem_int Tryd.underlying3 hwn) ?_; intro w2 hown2 hgrow2))
  have hk : ∀ k, k < w.heap.size → k ≠ mb → w2.heap[k]? = w.heap[k]? := fun k h1 h2 => hgrow2.block k h1 (by simpa using h2)
  obtain ⟨z1, z2, z3, z4⟩ := hC.size
  go_ret
  refine ⟨rfl, ⟨(hk _ z1 hC.fm).trans hC.fbox, (hk _ z2 hC.gm).trans hC.gbox, (hk _ z3 hC.mm).trans hC.mbox, ⟨nm + 1, _, hown2, by rw [List.length_set]; omega, hMR'⟩, hC.high, hC.fg, hC.fm, hC.gm, hC.gx', hC.mm⟩, ?_⟩
  exact (Turned.refl _ w).grown hgrow2 (fun k hk => Or.inl (Or.inr (Option.some.inj hk).symm))
end

/-- The document's come: the labels and the error behind it; is the place new. -/
theorem rcome_any (w : World) (lo fx gx mx mb : Nat) (f : Fc) (deep : List Int) (e : Int) (p : Nat) (n : Int) (S : RS w lo fx gx mx mb f deep e) (hn : f.codeS.n = f.code.length) (hd : deep.length = f.code.length) (hlim : deep.length ≤ 5000) (hn0 : 0 ≤ n) :
    Calls Tryd.prog 87 #[.int .i64 (p : Int), .int .i64 n, .pointer (some ⟨fx, 0, none⟩), .pointer (some ⟨gx, 0, none⟩), .pointer (some ⟨mx, 0, none⟩)] w
      fun r w' => r = .returned (.bool (comeN deep p n)) ∧ RS w' lo fx gx mx mb f (comeD deep e p n).1 (comeD deep e p n).2 ∧ Turned (Gs gx mb) w w' := by
  by_cases h1 : deep.length ≤ p ∨ 200 < n
  · have hN : comeN deep p n = false := by
      unfold comeN
      rcases h1 with h1 | h1 <;> simp [h1]
    have hD : comeD deep e p n = (deep, 3) := by unfold comeD; rw [if_pos h1]
    rw [hN, hD]
    refine (rcome_bad w lo fx gx mx mb f deep e p n S hn hd h1).mono ?_
    rintro r w' ⟨rfl, rfl⟩
    exact ⟨rfl, S.bad, RS.badT _⟩
  · by_cases h2 : deep.getD p 0 < 0
    · have hN : comeN deep p n = true := by
        unfold comeN
        simp only [Bool.and_eq_true, Bool.not_eq_true', Bool.or_eq_false_iff, decide_eq_false_iff_not, decide_eq_true_eq]
        exact ⟨⟨fun h => h1 (Or.inl h), fun h => h1 (Or.inr h)⟩, h2⟩
      have hD : comeD deep e p n = (deep.set p n, e) := by unfold comeD; rw [if_neg h1, if_pos h2]
      rw [hN, hD]
      exact rcome_new w lo fx gx mx mb f deep e p n S hn hd hlim h1 hn0 h2
    · have hN : comeN deep p n = false := by
        unfold comeN
        rw [decide_eq_false h2, Bool.and_false]
      rw [hN]
      refine (rcome_old w lo fx gx mx mb f deep e p n S hn hd hlim h1 h2).mono ?_
      by_cases h3 : deep.getD p 0 = n
      · have hD : comeD deep e p n = (deep, e) := by unfold comeD; rw [if_neg h1, if_neg h2, if_pos h3]
        rw [hD, if_pos h3]
        rintro r w' ⟨rfl, rfl⟩
        exact ⟨rfl, S, Turned.refl _ _⟩
      · have hD : comeD deep e p n = (deep, 3) := by unfold comeD; rw [if_neg h1, if_neg h2, if_neg h3]
        rw [hD, if_neg h3]
        rintro r w' ⟨rfl, rfl⟩
        exact ⟨rfl, S.bad, RS.badT _⟩
end Go.Proofs.YthbkklnahhdgcaaDoor.CodeF
