/-
  Contracts of package heap's functions at and head, each for its ways.
-/
import Derived.Test.YthbkklnahhdgcaaProg
import Derived.WalkKit
import Derived.Deep.QuietTactic
import Derived.BigQuiet
namespace Go.Proofs.Ythbkklnahhdgcaa.HeapA
open Go Go.Proofs Go.RowKit

/-! ### at -/
set_option maxHeartbeats 1000000 in
theorem at_lo (hb a nb n c : Nat) (room : Int) (w : World)
    (c0 : w.cell? ⟨hb, 0, none⟩ = some (.slice (some ⟨nb, 0, none⟩) n c))
    (c3 : w.cell? ⟨hb, 3, none⟩ = some (.int .i64 room))
    (ha : (a : Int) < room) (han : (a : Int) < (n : Int)) :
    Calls Try.prog 19 #[.pointer (some ⟨hb, 0, none⟩), .int .i64 (a : Int)] w fun e w' => e = .returned (.pointer (some ⟨nb, a * 8, none⟩)) ∧ w = w' := by
  go_enter Try.func19, Try.ntmps19
  go_wp2
  go_ret
  exact ⟨rfl, rfl⟩

set_option maxHeartbeats 1000000 in
theorem at_hi (hb ob n c : Nat) (a room : Int) (w : World)
    (c1 : w.cell? ⟨hb, 1, none⟩ = some (.slice (some ⟨ob, 0, none⟩) n c))
    (c3 : w.cell? ⟨hb, 3, none⟩ = some (.int .i64 room))
    (hr0 : 0 ≤ room) (hr : room ≤ a) (ha2 : a ≤ 9223372036854775807) (han : a - room < (n : Int)) :
    Calls Try.prog 19 #[.pointer (some ⟨hb, 0, none⟩), .int .i64 a] w fun e w' => e = .returned (.pointer (some ⟨ob, (a - room).toNat * 8, none⟩)) ∧ ∃ n, w' = w.drewN n := by
  have h1 : decide (a < room) = false := by simpa using hr
  have h0 : 0 ≤ a - room := by omega
  go_enter Try.func19, Try.ntmps19
  go_wp2_with fail
  go_quiet (fail)
  go_wp2
  go_ret
  exact ⟨rfl, _, rfl⟩

/-! ### head -/
set_option maxHeartbeats 1000000 in
theorem head_neg (hb : Nat) (a : Int) (w : World) (ha : a < 0) :
    Calls Try.prog 18 #[.pointer (some ⟨hb, 0, none⟩), .int .i64 a] w fun e w' => e = .returned (.tuple #[.pointer none, .bool false]) ∧ ∃ n, w' = w.drewN n := by
  have h1 : decide (a < 0) = true := by simpa using ha
  go_enter Try.func18, Try.ntmps18
  go_wp2_with fail
  go_quiet (fail)
  go_wp2
  go_ret2
  exact ⟨rfl, _, rfl⟩

set_option maxHeartbeats 1000000 in
theorem head_out_lo (hb : Nat) (a room top : Int) (w : World)
    (c2 : w.cell? ⟨hb, 2, none⟩ = some (.int .i64 top))
    (c3 : w.cell? ⟨hb, 3, none⟩ = some (.int .i64 room))
    (ha : 0 ≤ a) (hr : a < room) (ht : top ≤ a) :
    Calls Try.prog 18 #[.pointer (some ⟨hb, 0, none⟩), .int .i64 a] w fun e w' => e = .returned (.tuple #[.pointer none, .bool false]) ∧ ∃ n, w' = w.drewN n := by
  have h1 : decide (a < 0) = false := by simpa using ha
  have h2 : decide (room ≤ a) = false := by simpa using hr
  have h3 : decide (a < room) = true := by simpa using hr
  have h4 : decide (top ≤ a) = true := by simpa using ht
  go_enter Try.func18, Try.ntmps18
  go_wp2_with fail
  go_quiet (fail)
  go_wp2
  go_ret2
  exact ⟨rfl, _, rfl⟩

set_option maxHeartbeats 1000000 in
theorem head_out_hi (hb : Nat) (a room : Int) (oa : Option Addr) (n c : Nat) (w : World)
    (c1 : w.cell? ⟨hb, 1, none⟩ = some (.slice oa n c))
    (c3 : w.cell? ⟨hb, 3, none⟩ = some (.int .i64 room))
    (ha : 0 ≤ a) (ha2 : a ≤ 9223372036854775807) (hr0 : 0 ≤ room) (hr : room ≤ a) (ht : (n : Int) ≤ a - room) :
    Calls Try.prog 18 #[.pointer (some ⟨hb, 0, none⟩), .int .i64 a] w fun e w' => e = .returned (.tuple #[.pointer none, .bool false]) ∧ ∃ n, w' = w.drewN n := by
  have h1 : decide (a < 0) = false := by simpa using ha
  have h2 : decide (room ≤ a) = true := by simpa using hr
  have h3 : decide ((n : Int) ≤ a - room) = true := by simpa using ht
  go_enter Try.func18, Try.ntmps18
  go_wp2_with fail
  go_quiet (fail)
  go_wp2
  go_ret2
  exact ⟨rfl, _, rfl⟩

set_option maxHeartbeats 1000000 in
theorem head_lo (hb a nb n c : Nat) (room top kind : Int) (w : World)
    (c0 : w.cell? ⟨hb, 0, none⟩ = some (.slice (some ⟨nb, 0, none⟩) n c))
    (c2 : w.cell? ⟨hb, 2, none⟩ = some (.int .i64 top))
    (c3 : w.cell? ⟨hb, 3, none⟩ = some (.int .i64 room))
    (ck : w.cell? ⟨nb, a * 8, none⟩ = some (.int .i64 kind))
    (hr : (a : Int) < room) (han : (a : Int) < (n : Int)) (ht : (a : Int) < top) :
    Calls Try.prog 18 #[.pointer (some ⟨hb, 0, none⟩), .int .i64 (a : Int)] w fun e w' => e = .returned (.tuple #[.pointer (some ⟨nb, a * 8, none⟩), .bool (kind != 0)]) ∧ ∃ n, w' = w.drewN n := by
  have h1 : decide ((a : Int) < 0) = false := by simp
  have h2 : decide (room ≤ (a : Int)) = false := by simpa using hr
  have h3 : decide ((a : Int) < room) = true := by simpa using hr
  have h4 : decide (top ≤ (a : Int)) = false := by simpa using ht
  go_enter Try.func18, Try.ntmps18
  go_wp2_with fail
  go_quiet (fail)
  go_wp2_with (go_at_call 19; refine (at_lo hb a nb n c room _ (by simpa using c0) (by simpa using c3) hr han).mono ?_; rintro e w' ⟨rfl, rfl⟩)
  go_quiet (fail)
  go_wp2
  go_ret2
  exact ⟨rfl, _, World.drewN_drewN _ _ _⟩

set_option maxHeartbeats 1000000 in
theorem head_hi (hb ob n c : Nat) (a room kind : Int) (w : World)
    (c1 : w.cell? ⟨hb, 1, none⟩ = some (.slice (some ⟨ob, 0, none⟩) n c))
    (c3 : w.cell? ⟨hb, 3, none⟩ = some (.int .i64 room))
    (ck : w.cell? ⟨ob, (a - room).toNat * 8, none⟩ = some (.int .i64 kind))
    (hr0 : 0 ≤ room) (hr : room ≤ a) (ha2 : a ≤ 9223372036854775807) (han : a - room < (n : Int)) :
    Calls Try.prog 18 #[.pointer (some ⟨hb, 0, none⟩), .int .i64 a] w fun e w' => e = .returned (.tuple #[.pointer (some ⟨ob, (a - room).toNat * 8, none⟩), .bool (kind != 0)]) ∧ ∃ n, w' = w.drewN n := by
  have h1 : decide (a < 0) = false := by simp; omega
  have h2 : decide (room ≤ a) = true := by simpa using hr
  have h3 : decide ((n : Int) ≤ a - room) = false := by simpa using han
  have h4 : decide (a < room) = false := by simpa using hr
  go_enter Try.func18, Try.ntmps18
  go_wp2_with fail
  go_quiet (fail)
  go_wp2_with (go_at_call 19; refine (at_hi hb ob n c a room _ (by simpa using c1) (by simpa using c3) hr0 hr ha2 han).mono ?_; rintro e w' ⟨rfl, n1, rfl⟩)
  go_quiet (fail)
  go_wp2
  go_ret2
  exact ⟨rfl, _, by simp only [World.drewN_drewN]; rfl⟩

end Go.Proofs.Ythbkklnahhdgcaa.HeapA
