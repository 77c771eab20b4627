/-
  Contracts of package code's takes, ends, text.
-/
import Derived.Test.YthbkklnahhdgcaaDoorProg
import Derived.Test.YthbkklnahhdgcaaDoorCodeR
import Derived.WalkKit
import Derived.Deep.QuietTactic
import Derived.BigQuiet
namespace Go.Proofs.YthbkklnahhdgcaaDoor.CodeA
open Go Go.Proofs Go.RowKit Lib CodeR

/-- What a walk that only makes new blocks leaves: close such an end. -/
theorem below_alloc {B : Nat} {w w' : World} (h : Below B w w') (o : Obj) (hB : B ≤ w.heap.size) : Below B w (w'.alloc o) :=
  ⟨h.os, h.tape, h.output, by have := h.size; simp; omega, fun k hk => (Below.heap_alloc _ _ _ (by have := h.size; omega)).trans (h.block k hk)⟩

set_option maxHeartbeats 1000000 in
theorem takes_1 (a b : Int) (w : World) : Calls Tryd.prog 84 #[.agg #[.int .i64 1, .int .i64 a, .int .i64 b]] w fun e w' => e = .returned (.tuple #[.int .i64 (takeI ⟨1, a, b⟩), .int .i64 (leaveI ⟨1, a, b⟩)]) ∧ Below w.heap.size w w' := by
  go_enter Tryd.func84, Tryd.ntmps84
  go_wp2
  go_ret2
  exact ⟨by simp [takeI, leaveI], below_alloc (Below.refl _ _) _ (Nat.le_refl _)⟩

set_option maxHeartbeats 1000000 in
theorem takes_2 (a b : Int) (w : World) : Calls Tryd.prog 84 #[.agg #[.int .i64 2, .int .i64 a, .int .i64 b]] w fun e w' => e = .returned (.tuple #[.int .i64 (takeI ⟨2, a, b⟩), .int .i64 (leaveI ⟨2, a, b⟩)]) ∧ Below w.heap.size w w' := by
  go_enter Tryd.func84, Tryd.ntmps84
  go_wp2
  go_ret2
  exact ⟨by simp [takeI, leaveI], below_alloc (Below.refl _ _) _ (Nat.le_refl _)⟩

set_option maxHeartbeats 1000000 in
theorem takes_3 (a b : Int) (w : World) : Calls Tryd.prog 84 #[.agg #[.int .i64 3, .int .i64 a, .int .i64 b]] w fun e w' => e = .returned (.tuple #[.int .i64 (takeI ⟨3, a, b⟩), .int .i64 (leaveI ⟨3, a, b⟩)]) ∧ Below w.heap.size w w' := by
  go_enter Tryd.func84, Tryd.ntmps84
  go_wp2
  go_ret2
  exact ⟨by simp [takeI, leaveI], below_alloc (Below.refl _ _) _ (Nat.le_refl _)⟩

set_option maxHeartbeats 1000000 in
theorem takes_4 (a b : Int) (w : World) : Calls Tryd.prog 84 #[.agg #[.int .i64 4, .int .i64 a, .int .i64 b]] w fun e w' => e = .returned (.tuple #[.int .i64 (takeI ⟨4, a, b⟩), .int .i64 (leaveI ⟨4, a, b⟩)]) ∧ Below w.heap.size w w' := by
  go_enter Tryd.func84, Tryd.ntmps84
  go_wp2
  go_ret2
  exact ⟨by simp [takeI, leaveI], below_alloc (Below.refl _ _) _ (Nat.le_refl _)⟩

set_option maxHeartbeats 1000000 in
theorem takes_5 (a b : Int) (w : World) : Calls Tryd.prog 84 #[.agg #[.int .i64 5, .int .i64 a, .int .i64 b]] w fun e w' => e = .returned (.tuple #[.int .i64 (takeI ⟨5, a, b⟩), .int .i64 (leaveI ⟨5, a, b⟩)]) ∧ Below w.heap.size w w' := by
  go_enter Tryd.func84, Tryd.ntmps84
  go_wp2
  go_ret2
  exact ⟨by simp [takeI, leaveI], below_alloc (Below.refl _ _) _ (Nat.le_refl _)⟩

set_option maxHeartbeats 1000000 in
theorem takes_6 (a b : Int) (w : World) : Calls Tryd.prog 84 #[.agg #[.int .i64 6, .int .i64 a, .int .i64 b]] w fun e w' => e = .returned (.tuple #[.int .i64 (takeI ⟨6, a, b⟩), .int .i64 (leaveI ⟨6, a, b⟩)]) ∧ Below w.heap.size w w' := by
  go_enter Tryd.func84, Tryd.ntmps84
  go_wp2
  go_ret2
  exact ⟨by simp [takeI, leaveI], below_alloc (Below.refl _ _) _ (Nat.le_refl _)⟩

set_option maxHeartbeats 1000000 in
theorem takes_7 (a b : Int) (w : World) : Calls Tryd.prog 84 #[.agg #[.int .i64 7, .int .i64 a, .int .i64 b]] w fun e w' => e = .returned (.tuple #[.int .i64 (takeI ⟨7, a, b⟩), .int .i64 (leaveI ⟨7, a, b⟩)]) ∧ Below w.heap.size w w' := by
  go_enter Tryd.func84, Tryd.ntmps84
  go_wp2
  go_ret2
  exact ⟨by simp [takeI, leaveI], below_alloc (Below.refl _ _) _ (Nat.le_refl _)⟩

set_option maxHeartbeats 1000000 in
theorem takes_8 (a b : Int) (w : World) : Calls Tryd.prog 84 #[.agg #[.int .i64 8, .int .i64 a, .int .i64 b]] w fun e w' => e = .returned (.tuple #[.int .i64 (takeI ⟨8, a, b⟩), .int .i64 (leaveI ⟨8, a, b⟩)]) ∧ Below w.heap.size w w' := by
  go_enter Tryd.func84, Tryd.ntmps84
  go_wp2
  go_ret2
  exact ⟨by simp [takeI, leaveI], below_alloc (Below.refl _ _) _ (Nat.le_refl _)⟩

set_option maxHeartbeats 1000000 in
theorem takes_9 (a b : Int) (w : World) : Calls Tryd.prog 84 #[.agg #[.int .i64 9, .int .i64 a, .int .i64 b]] w fun e w' => e = .returned (.tuple #[.int .i64 (takeI ⟨9, a, b⟩), .int .i64 (leaveI ⟨9, a, b⟩)]) ∧ Below w.heap.size w w' := by
  go_enter Tryd.func84, Tryd.ntmps84
  go_wp2
  go_ret2
  exact ⟨by simp [takeI, leaveI], below_alloc (Below.refl _ _) _ (Nat.le_refl _)⟩

set_option maxHeartbeats 1000000 in
theorem takes_10 (a b : Int) (w : World) : Calls Tryd.prog 84 #[.agg #[.int .i64 10, .int .i64 a, .int .i64 b]] w fun e w' => e = .returned (.tuple #[.int .i64 (takeI ⟨10, a, b⟩), .int .i64 (leaveI ⟨10, a, b⟩)]) ∧ Below w.heap.size w w' := by
  go_enter Tryd.func84, Tryd.ntmps84
  go_wp2
  go_ret2
  exact ⟨by simp [takeI, leaveI], below_alloc (Below.refl _ _) _ (Nat.le_refl _)⟩

set_option maxHeartbeats 1000000 in
theorem takes_11 (a b : Int) (w : World) : Calls Tryd.prog 84 #[.agg #[.int .i64 11, .int .i64 a, .int .i64 b]] w fun e w' => e = .returned (.tuple #[.int .i64 (takeI ⟨11, a, b⟩), .int .i64 (leaveI ⟨11, a, b⟩)]) ∧ Below w.heap.size w w' := by
  go_enter Tryd.func84, Tryd.ntmps84
  go_wp2
  go_ret2
  exact ⟨by simp [takeI, leaveI], below_alloc (Below.refl _ _) _ (Nat.le_refl _)⟩

set_option maxHeartbeats 1000000 in
theorem takes_12 (a b : Int) (w : World) : Calls Tryd.prog 84 #[.agg #[.int .i64 12, .int .i64 a, .int .i64 b]] w fun e w' => e = .returned (.tuple #[.int .i64 (takeI ⟨12, a, b⟩), .int .i64 (leaveI ⟨12, a, b⟩)]) ∧ Below w.heap.size w w' := by
  go_enter Tryd.func84, Tryd.ntmps84
  go_wp2
  go_ret2
  exact ⟨by simp [takeI, leaveI], below_alloc (Below.refl _ _) _ (Nat.le_refl _)⟩

set_option maxHeartbeats 1000000 in
theorem takes_13 (a b : Int) (w : World) : Calls Tryd.prog 84 #[.agg #[.int .i64 13, .int .i64 a, .int .i64 b]] w fun e w' => e = .returned (.tuple #[.int .i64 (takeI ⟨13, a, b⟩), .int .i64 (leaveI ⟨13, a, b⟩)]) ∧ Below w.heap.size w w' := by
  go_enter Tryd.func84, Tryd.ntmps84
  go_wp2
  go_ret2
  exact ⟨by simp [takeI, leaveI], below_alloc (Below.refl _ _) _ (Nat.le_refl _)⟩

set_option maxHeartbeats 1000000 in
theorem takes_14 (a b : Int) (w : World) : Calls Tryd.prog 84 #[.agg #[.int .i64 14, .int .i64 a, .int .i64 b]] w fun e w' => e = .returned (.tuple #[.int .i64 (takeI ⟨14, a, b⟩), .int .i64 (leaveI ⟨14, a, b⟩)]) ∧ Below w.heap.size w w' := by
  go_enter Tryd.func84, Tryd.ntmps84
  go_wp2
  go_ret2
  exact ⟨by simp [takeI, leaveI], below_alloc (Below.refl _ _) _ (Nat.le_refl _)⟩

set_option maxHeartbeats 1000000 in
theorem takes_15 (a b : Int) (w : World) : Calls Tryd.prog 84 #[.agg #[.int .i64 15, .int .i64 a, .int .i64 b]] w fun e w' => e = .returned (.tuple #[.int .i64 (takeI ⟨15, a, b⟩), .int .i64 (leaveI ⟨15, a, b⟩)]) ∧ Below w.heap.size w w' := by
  go_enter Tryd.func84, Tryd.ntmps84
  go_wp2
  go_ret2
  exact ⟨by simp [takeI, leaveI], below_alloc (Below.refl _ _) _ (Nat.le_refl _)⟩

set_option maxHeartbeats 1000000 in
theorem takes_16 (a b : Int) (w : World) : Calls Tryd.prog 84 #[.agg #[.int .i64 16, .int .i64 a, .int .i64 b]] w fun e w' => e = .returned (.tuple #[.int .i64 (takeI ⟨16, a, b⟩), .int .i64 (leaveI ⟨16, a, b⟩)]) ∧ Below w.heap.size w w' := by
  go_enter Tryd.func84, Tryd.ntmps84
  go_wp2
  go_ret2
  exact ⟨by simp [takeI, leaveI], below_alloc (Below.refl _ _) _ (Nat.le_refl _)⟩

set_option maxHeartbeats 1000000 in
theorem takes_17 (a b : Int) (w : World) : Calls Tryd.prog 84 #[.agg #[.int .i64 17, .int .i64 a, .int .i64 b]] w fun e w' => e = .returned (.tuple #[.int .i64 (takeI ⟨17, a, b⟩), .int .i64 (leaveI ⟨17, a, b⟩)]) ∧ Below w.heap.size w w' := by
  go_enter Tryd.func84, Tryd.ntmps84
  go_wp2
  go_ret2
  exact ⟨by simp [takeI, leaveI], below_alloc (Below.refl _ _) _ (Nat.le_refl _)⟩

set_option maxHeartbeats 1000000 in
theorem takes_18 (a b : Int) (w : World) : Calls Tryd.prog 84 #[.agg #[.int .i64 18, .int .i64 a, .int .i64 b]] w fun e w' => e = .returned (.tuple #[.int .i64 (takeI ⟨18, a, b⟩), .int .i64 (leaveI ⟨18, a, b⟩)]) ∧ Below w.heap.size w w' := by
  go_enter Tryd.func84, Tryd.ntmps84
  go_wp2
  go_ret2
  exact ⟨by simp [takeI, leaveI], below_alloc (Below.refl _ _) _ (Nat.le_refl _)⟩

set_option maxHeartbeats 1000000 in
theorem takes_19 (a b : Int) (w : World) : Calls Tryd.prog 84 #[.agg #[.int .i64 19, .int .i64 a, .int .i64 b]] w fun e w' => e = .returned (.tuple #[.int .i64 (takeI ⟨19, a, b⟩), .int .i64 (leaveI ⟨19, a, b⟩)]) ∧ Below w.heap.size w w' := by
  go_enter Tryd.func84, Tryd.ntmps84
  go_wp2
  go_ret2
  exact ⟨by simp [takeI, leaveI], below_alloc (Below.refl _ _) _ (Nat.le_refl _)⟩

set_option maxHeartbeats 1000000 in
theorem takes_20 (a b : Int) (w : World) : Calls Tryd.prog 84 #[.agg #[.int .i64 20, .int .i64 a, .int .i64 b]] w fun e w' => e = .returned (.tuple #[.int .i64 (takeI ⟨20, a, b⟩), .int .i64 (leaveI ⟨20, a, b⟩)]) ∧ Below w.heap.size w w' := by
  go_enter Tryd.func84, Tryd.ntmps84
  go_wp2
  go_ret2
  exact ⟨by simp [takeI, leaveI], below_alloc (Below.refl _ _) _ (Nat.le_refl _)⟩

set_option maxHeartbeats 1000000 in
theorem takes_21 (a b : Int) (w : World) : Calls Tryd.prog 84 #[.agg #[.int .i64 21, .int .i64 a, .int .i64 b]] w fun e w' => e = .returned (.tuple #[.int .i64 (takeI ⟨21, a, b⟩), .int .i64 (leaveI ⟨21, a, b⟩)]) ∧ Below w.heap.size w w' := by
  go_enter Tryd.func84, Tryd.ntmps84
  go_wp2
  go_ret2
  exact ⟨by simp [takeI, leaveI], below_alloc (Below.refl _ _) _ (Nat.le_refl _)⟩

set_option maxHeartbeats 1000000 in
theorem takes_22 (a b : Int) (w : World) : Calls Tryd.prog 84 #[.agg #[.int .i64 22, .int .i64 a, .int .i64 b]] w fun e w' => e = .returned (.tuple #[.int .i64 (takeI ⟨22, a, b⟩), .int .i64 (leaveI ⟨22, a, b⟩)]) ∧ Below w.heap.size w w' := by
  go_enter Tryd.func84, Tryd.ntmps84
  go_wp2
  go_ret2
  exact ⟨by simp [takeI, leaveI], below_alloc (Below.refl _ _) _ (Nat.le_refl _)⟩

set_option maxHeartbeats 1000000 in
theorem takes_23 (a b : Int) (w : World) : Calls Tryd.prog 84 #[.agg #[.int .i64 23, .int .i64 a, .int .i64 b]] w fun e w' => e = .returned (.tuple #[.int .i64 (takeI ⟨23, a, b⟩), .int .i64 (leaveI ⟨23, a, b⟩)]) ∧ Below w.heap.size w w' := by
  go_enter Tryd.func84, Tryd.ntmps84
  go_wp2
  go_ret2
  exact ⟨by simp [takeI, leaveI], below_alloc (Below.refl _ _) _ (Nat.le_refl _)⟩

set_option maxHeartbeats 1000000 in
theorem takes_24 (a b : Int) (w : World) : Calls Tryd.prog 84 #[.agg #[.int .i64 24, .int .i64 a, .int .i64 b]] w fun e w' => e = .returned (.tuple #[.int .i64 (takeI ⟨24, a, b⟩), .int .i64 (leaveI ⟨24, a, b⟩)]) ∧ Below w.heap.size w w' := by
  go_enter Tryd.func84, Tryd.ntmps84
  go_wp2
  go_ret2
  exact ⟨by simp [takeI, leaveI], below_alloc (Below.refl _ _) _ (Nat.le_refl _)⟩

set_option maxHeartbeats 1000000 in
theorem takes_25 (a b : Int) (w : World) : Calls Tryd.prog 84 #[.agg #[.int .i64 25, .int .i64 a, .int .i64 b]] w fun e w' => e = .returned (.tuple #[.int .i64 (takeI ⟨25, a, b⟩), .int .i64 (leaveI ⟨25, a, b⟩)]) ∧ Below w.heap.size w w' := by
  go_enter Tryd.func84, Tryd.ntmps84
  go_wp2
  go_ret2
  exact ⟨by simp [takeI, leaveI], below_alloc (Below.refl _ _) _ (Nat.le_refl _)⟩

set_option maxHeartbeats 1000000 in
theorem takes_26 (a b : Int) (w : World) : Calls Tryd.prog 84 #[.agg #[.int .i64 26, .int .i64 a, .int .i64 b]] w fun e w' => e = .returned (.tuple #[.int .i64 (takeI ⟨26, a, b⟩), .int .i64 (leaveI ⟨26, a, b⟩)]) ∧ Below w.heap.size w w' := by
  go_enter Tryd.func84, Tryd.ntmps84
  go_wp2
  go_ret2
  exact ⟨by simp [takeI, leaveI], below_alloc (Below.refl _ _) _ (Nat.le_refl _)⟩

set_option maxHeartbeats 1000000 in
theorem takes_27 (a b : Int) (w : World) : Calls Tryd.prog 84 #[.agg #[.int .i64 27, .int .i64 a, .int .i64 b]] w fun e w' => e = .returned (.tuple #[.int .i64 (takeI ⟨27, a, b⟩), .int .i64 (leaveI ⟨27, a, b⟩)]) ∧ Below w.heap.size w w' := by
  go_enter Tryd.func84, Tryd.ntmps84
  go_wp2
  go_ret2
  exact ⟨by simp [takeI, leaveI], below_alloc (Below.refl _ _) _ (Nat.le_refl _)⟩

set_option maxHeartbeats 1000000 in
theorem takes_28 (a b : Int) (w : World) : Calls Tryd.prog 84 #[.agg #[.int .i64 28, .int .i64 a, .int .i64 b]] w fun e w' => e = .returned (.tuple #[.int .i64 (takeI ⟨28, a, b⟩), .int .i64 (leaveI ⟨28, a, b⟩)]) ∧ Below w.heap.size w w' := by
  go_enter Tryd.func84, Tryd.ntmps84
  go_wp2
  go_ret2
  exact ⟨by simp [takeI, leaveI], below_alloc (Below.refl _ _) _ (Nat.le_refl _)⟩

set_option maxHeartbeats 1000000 in
theorem takes_29 (a b : Int) (w : World) : Calls Tryd.prog 84 #[.agg #[.int .i64 29, .int .i64 a, .int .i64 b]] w fun e w' => e = .returned (.tuple #[.int .i64 (takeI ⟨29, a, b⟩), .int .i64 (leaveI ⟨29, a, b⟩)]) ∧ Below w.heap.size w w' := by
  go_enter Tryd.func84, Tryd.ntmps84
  go_wp2
  go_ret2
  exact ⟨by simp [takeI, leaveI], below_alloc (Below.refl _ _) _ (Nat.le_refl _)⟩

set_option maxHeartbeats 1000000 in
theorem takes_30 (a b : Int) (w : World) : Calls Tryd.prog 84 #[.agg #[.int .i64 30, .int .i64 a, .int .i64 b]] w fun e w' => e = .returned (.tuple #[.int .i64 (takeI ⟨30, a, b⟩), .int .i64 (leaveI ⟨30, a, b⟩)]) ∧ Below w.heap.size w w' := by
  go_enter Tryd.func84, Tryd.ntmps84
  go_wp2
  go_ret2
  exact ⟨by simp [takeI, leaveI], below_alloc (Below.refl _ _) _ (Nat.le_refl _)⟩

set_option maxHeartbeats 1000000 in
theorem takes_31 (a b : Int) (w : World) : Calls Tryd.prog 84 #[.agg #[.int .i64 31, .int .i64 a, .int .i64 b]] w fun e w' => e = .returned (.tuple #[.int .i64 (takeI ⟨31, a, b⟩), .int .i64 (leaveI ⟨31, a, b⟩)]) ∧ Below w.heap.size w w' := by
  go_enter Tryd.func84, Tryd.ntmps84
  go_wp2
  go_ret2
  exact ⟨by simp [takeI, leaveI], below_alloc (Below.refl _ _) _ (Nat.le_refl _)⟩

set_option maxHeartbeats 1000000 in
theorem takes_32 (a b : Int) (w : World) : Calls Tryd.prog 84 #[.agg #[.int .i64 32, .int .i64 a, .int .i64 b]] w fun e w' => e = .returned (.tuple #[.int .i64 (takeI ⟨32, a, b⟩), .int .i64 (leaveI ⟨32, a, b⟩)]) ∧ Below w.heap.size w w' := by
  go_enter Tryd.func84, Tryd.ntmps84
  go_wp2
  go_ret2
  exact ⟨by simp [takeI, leaveI], below_alloc (Below.refl _ _) _ (Nat.le_refl _)⟩

set_option maxHeartbeats 1000000 in
theorem takes_33 (a b : Int) (w : World) : Calls Tryd.prog 84 #[.agg #[.int .i64 33, .int .i64 a, .int .i64 b]] w fun e w' => e = .returned (.tuple #[.int .i64 (takeI ⟨33, a, b⟩), .int .i64 (leaveI ⟨33, a, b⟩)]) ∧ Below w.heap.size w w' := by
  go_enter Tryd.func84, Tryd.ntmps84
  go_wp2
  go_ret2
  exact ⟨by simp [takeI, leaveI], below_alloc (Below.refl _ _) _ (Nat.le_refl _)⟩

set_option maxHeartbeats 1000000 in
theorem takes_34 (a b : Int) (w : World) (hb : 0 ≤ b ∧ b ≤ 50) : Calls Tryd.prog 84 #[.agg #[.int .i64 34, .int .i64 a, .int .i64 b]] w fun e w' => e = .returned (.tuple #[.int .i64 (takeI ⟨34, a, b⟩), .int .i64 (leaveI ⟨34, a, b⟩)]) ∧ Below w.heap.size w w' := by
  go_enter Tryd.func84, Tryd.ntmps84
  go_wp2
  go_ret2
  exact ⟨by simp [takeI, leaveI], below_alloc (Below.refl _ _) _ (Nat.le_refl _)⟩

set_option maxHeartbeats 1000000 in
theorem takes_35 (a b : Int) (w : World) (hb : 0 ≤ b) : Calls Tryd.prog 84 #[.agg #[.int .i64 35, .int .i64 a, .int .i64 b]] w fun e w' => e = .returned (.tuple #[.int .i64 (takeI ⟨35, a, b⟩), .int .i64 (leaveI ⟨35, a, b⟩)]) ∧ Below w.heap.size w w' := by
  have h1 : 0 ≤ b.tmod 64 := Int.tmod_nonneg _ hb
  have h2 : b.tmod 64 < 64 := Int.tmod_lt_of_pos _ (by omega)
  go_enter Tryd.func84, Tryd.ntmps84
  go_wp2
  go_ret2
  exact ⟨by simp [takeI, leaveI, Int.tmod_eq_emod_of_nonneg hb], below_alloc (Below.refl _ _) _ (Nat.le_refl _)⟩

set_option maxHeartbeats 1000000 in
theorem takes_36 (a b : Int) (w : World) : Calls Tryd.prog 84 #[.agg #[.int .i64 36, .int .i64 a, .int .i64 b]] w fun e w' => e = .returned (.tuple #[.int .i64 (takeI ⟨36, a, b⟩), .int .i64 (leaveI ⟨36, a, b⟩)]) ∧ Below w.heap.size w w' := by
  go_enter Tryd.func84, Tryd.ntmps84
  go_wp2
  go_ret2
  exact ⟨by simp [takeI, leaveI], below_alloc (Below.refl _ _) _ (Nat.le_refl _)⟩

set_option maxHeartbeats 1000000 in
theorem takes_37 (a b : Int) (w : World) (hb : 0 ≤ b ∧ b ≤ 50) : Calls Tryd.prog 84 #[.agg #[.int .i64 37, .int .i64 a, .int .i64 b]] w fun e w' => e = .returned (.tuple #[.int .i64 (takeI ⟨37, a, b⟩), .int .i64 (leaveI ⟨37, a, b⟩)]) ∧ Below w.heap.size w w' := by
  go_enter Tryd.func84, Tryd.ntmps84
  go_wp2
  go_ret2
  exact ⟨by simp [takeI, leaveI], below_alloc (Below.refl _ _) _ (Nat.le_refl _)⟩

set_option maxHeartbeats 1000000 in
theorem takes_38 (a b : Int) (w : World) : Calls Tryd.prog 84 #[.agg #[.int .i64 38, .int .i64 a, .int .i64 b]] w fun e w' => e = .returned (.tuple #[.int .i64 (takeI ⟨38, a, b⟩), .int .i64 (leaveI ⟨38, a, b⟩)]) ∧ Below w.heap.size w w' := by
  go_enter Tryd.func84, Tryd.ntmps84
  go_wp2
  go_ret2
  exact ⟨by simp [takeI, leaveI], below_alloc (Below.refl _ _) _ (Nat.le_refl _)⟩

set_option maxHeartbeats 1000000 in
theorem takes_39 (a b : Int) (w : World) : Calls Tryd.prog 84 #[.agg #[.int .i64 39, .int .i64 a, .int .i64 b]] w fun e w' => e = .returned (.tuple #[.int .i64 (takeI ⟨39, a, b⟩), .int .i64 (leaveI ⟨39, a, b⟩)]) ∧ Below w.heap.size w w' := by
  go_enter Tryd.func84, Tryd.ntmps84
  go_wp2
  go_ret2
  exact ⟨by simp [takeI, leaveI], below_alloc (Below.refl _ _) _ (Nat.le_refl _)⟩

set_option maxHeartbeats 1000000 in
theorem takes_40 (a b : Int) (w : World) : Calls Tryd.prog 84 #[.agg #[.int .i64 40, .int .i64 a, .int .i64 b]] w fun e w' => e = .returned (.tuple #[.int .i64 (takeI ⟨40, a, b⟩), .int .i64 (leaveI ⟨40, a, b⟩)]) ∧ Below w.heap.size w w' := by
  go_enter Tryd.func84, Tryd.ntmps84
  go_wp2
  go_ret2
  exact ⟨by simp [takeI, leaveI], below_alloc (Below.refl _ _) _ (Nat.le_refl _)⟩

set_option maxHeartbeats 1000000 in
theorem takes_41 (a b : Int) (w : World) : Calls Tryd.prog 84 #[.agg #[.int .i64 41, .int .i64 a, .int .i64 b]] w fun e w' => e = .returned (.tuple #[.int .i64 (takeI ⟨41, a, b⟩), .int .i64 (leaveI ⟨41, a, b⟩)]) ∧ Below w.heap.size w w' := by
  go_enter Tryd.func84, Tryd.ntmps84
  go_wp2
  go_ret2
  exact ⟨by simp [takeI, leaveI], below_alloc (Below.refl _ _) _ (Nat.le_refl _)⟩

set_option maxHeartbeats 1000000 in
theorem takes_42 (a b : Int) (w : World) : Calls Tryd.prog 84 #[.agg #[.int .i64 42, .int .i64 a, .int .i64 b]] w fun e w' => e = .returned (.tuple #[.int .i64 (takeI ⟨42, a, b⟩), .int .i64 (leaveI ⟨42, a, b⟩)]) ∧ Below w.heap.size w w' := by
  go_enter Tryd.func84, Tryd.ntmps84
  go_wp2
  go_ret2
  exact ⟨by simp [takeI, leaveI], below_alloc (Below.refl _ _) _ (Nat.le_refl _)⟩

set_option maxHeartbeats 1000000 in
theorem takes_43 (a b : Int) (w : World) : Calls Tryd.prog 84 #[.agg #[.int .i64 43, .int .i64 a, .int .i64 b]] w fun e w' => e = .returned (.tuple #[.int .i64 (takeI ⟨43, a, b⟩), .int .i64 (leaveI ⟨43, a, b⟩)]) ∧ Below w.heap.size w w' := by
  go_enter Tryd.func84, Tryd.ntmps84
  go_wp2
  go_ret2
  exact ⟨by simp [takeI, leaveI], below_alloc (Below.refl _ _) _ (Nat.le_refl _)⟩

set_option maxHeartbeats 1000000 in
theorem takes_44 (a b : Int) (w : World) : Calls Tryd.prog 84 #[.agg #[.int .i64 44, .int .i64 a, .int .i64 b]] w fun e w' => e = .returned (.tuple #[.int .i64 (takeI ⟨44, a, b⟩), .int .i64 (leaveI ⟨44, a, b⟩)]) ∧ Below w.heap.size w w' := by
  go_enter Tryd.func84, Tryd.ntmps84
  go_wp2
  go_ret2
  exact ⟨by simp [takeI, leaveI], below_alloc (Below.refl _ _) _ (Nat.le_refl _)⟩

set_option maxHeartbeats 1000000 in
theorem takes_45 (a b : Int) (w : World) : Calls Tryd.prog 84 #[.agg #[.int .i64 45, .int .i64 a, .int .i64 b]] w fun e w' => e = .returned (.tuple #[.int .i64 (takeI ⟨45, a, b⟩), .int .i64 (leaveI ⟨45, a, b⟩)]) ∧ Below w.heap.size w w' := by
  go_enter Tryd.func84, Tryd.ntmps84
  go_wp2
  go_ret2
  exact ⟨by simp [takeI, leaveI], below_alloc (Below.refl _ _) _ (Nat.le_refl _)⟩

theorem takes_any (x : I3) (w : World) (ho : 1 ≤ x.op ∧ x.op ≤ 45) (hb : x.op = 34 ∨ x.op = 37 → 0 ≤ x.b ∧ x.b ≤ 50) (hc : x.op = 35 → 0 ≤ x.b) :
    Calls Tryd.prog 84 #[.agg #[.int .i64 x.op, .int .i64 x.a, .int .i64 x.b]] w fun e w' => e = .returned (.tuple #[.int .i64 (takeI x), .int .i64 (leaveI x)]) ∧ Below w.heap.size w w' := by
  obtain ⟨op, a, b⟩ := x
  simp only at ho hb hc ⊢
  have hcase : op = 1 ∨ op = 2 ∨ op = 3 ∨ op = 4 ∨ op = 5 ∨ op = 6 ∨ op = 7 ∨ op = 8 ∨ op = 9 ∨ op = 10 ∨ op = 11 ∨ op = 12 ∨ op = 13 ∨ op = 14 ∨ op = 15 ∨ op = 16 ∨ op = 17 ∨ op = 18 ∨ op = 19 ∨ op = 20 ∨ op = 21 ∨ op = 22 ∨ op = 23 ∨ op = 24 ∨ op = 25 ∨ op = 26 ∨ op = 27 ∨ op = 28 ∨ op = 29 ∨ op = 30 ∨ op = 31 ∨ op = 32 ∨ op = 33 ∨ op = 34 ∨ op = 35 ∨ op = 36 ∨ op = 37 ∨ op = 38 ∨ op = 39 ∨ op = 40 ∨ op = 41 ∨ op = 42 ∨ op = 43 ∨ op = 44 ∨ op = 45 := by omega
  rcases hcase with rfl | rfl | rfl | rfl | rfl | rfl | rfl | rfl | rfl | rfl | rfl | rfl | rfl | rfl | rfl | rfl | rfl | rfl | rfl | rfl | rfl | rfl | rfl | rfl | rfl | rfl | rfl | rfl | rfl | rfl | rfl | rfl | rfl | rfl | rfl | rfl | rfl | rfl | rfl | rfl | rfl | rfl | rfl | rfl | rfl
  · exact takes_1 a b w
  · exact takes_2 a b w
  · exact takes_3 a b w
  · exact takes_4 a b w
  · exact takes_5 a b w
  · exact takes_6 a b w
  · exact takes_7 a b w
  · exact takes_8 a b w
  · exact takes_9 a b w
  · exact takes_10 a b w
  · exact takes_11 a b w
  · exact takes_12 a b w
  · exact takes_13 a b w
  · exact takes_14 a b w
  · exact takes_15 a b w
  · exact takes_16 a b w
  · exact takes_17 a b w
  · exact takes_18 a b w
  · exact takes_19 a b w
  · exact takes_20 a b w
  · exact takes_21 a b w
  · exact takes_22 a b w
  · exact takes_23 a b w
  · exact takes_24 a b w
  · exact takes_25 a b w
  · exact takes_26 a b w
  · exact takes_27 a b w
  · exact takes_28 a b w
  · exact takes_29 a b w
  · exact takes_30 a b w
  · exact takes_31 a b w
  · exact takes_32 a b w
  · exact takes_33 a b w
  · exact takes_34 a b w (hb (by omega))
  · exact takes_35 a b w (hc rfl)
  · exact takes_36 a b w
  · exact takes_37 a b w (hb (by omega))
  · exact takes_38 a b w
  · exact takes_39 a b w
  · exact takes_40 a b w
  · exact takes_41 a b w
  · exact takes_42 a b w
  · exact takes_43 a b w
  · exact takes_44 a b w
  · exact takes_45 a b w

set_option maxHeartbeats 1000000 in
theorem ends_any (op : Int) (w : World) : Calls Tryd.prog 85 #[.int .i64 op] w fun e w' => e = .returned (.bool (endsB op)) ∧ w' = w := by
  go_enter Tryd.func85, Tryd.ntmps85
  by_cases h1 : op = 15
  · subst h1
    go_wp2
    go_ret
    exact ⟨rfl, rfl⟩
  · by_cases h2 : op = 40
    · subst h2
      go_wp2
      go_ret
      exact ⟨rfl, rfl⟩
    · have h3 : (op == 15) = false := by simpa using h1
      have h4 : (op == 40) = false := by simpa using h2
      go_wp2
      go_ret
      exact ⟨by simp [endsB, h1, h2]; rw [Bool.eq_iff_iff]; simp, rfl⟩
end Go.Proofs.YthbkklnahhdgcaaDoor.CodeA

