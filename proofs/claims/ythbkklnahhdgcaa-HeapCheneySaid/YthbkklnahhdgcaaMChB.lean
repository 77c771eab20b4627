/-
  Package heap's collector: move, where nothing is copied.
-/
import Derived.Test.YthbkklnahhdgcaaMHeapD
import Derived.Test.YthbkklnahhdgcaaMMA
namespace Go.Proofs.Ythbkklnahhdgcaa.ChB
open Go Go.Proofs Go.RowKit Lib HeapA

theorem from_minor (hv hb : Nat) (a room : Int) (w : World) (c0 : w.cell? ⟨hv, 0, none⟩ = some (.pointer (some ⟨hb, 0, none⟩))) (c3 : w.cell? ⟨hb, 3, none⟩ = some (.int .i64 room)) :
    Calls Try.prog 22 #[.int .i64 a, .pointer (some ⟨hv, 0, none⟩)] w fun e w' => e = .returned (.bool (decide (a < room))) ∧ w' = w := by
  go_enter Try.func22, Try.ntmps22
  go_wp2
  go_ret
  exact ⟨rfl, rfl⟩
theorem from_major (a : Int) (w : World) :
    Calls Try.prog 28 #[.int .i64 a] w fun e w' => e = .returned (.bool true) ∧ w' = w := by
  go_enter Try.func28, Try.ntmps28
  go_wp2
  go_ret
  exact ⟨rfl, rfl⟩

set_option maxHeartbeats 1000000 in
set_option maxRecDepth 100000 in
theorem move_not (kb vb vo : Nat) (k : Int) (w : World) (hk : k ≠ 4) (v0 : w.cell? ⟨vb, vo, none⟩ = some (.int .i64 k)) :
    Calls Try.prog 23 #[.pointer (some ⟨kb, 0, none⟩), .pointer (some ⟨vb, vo, none⟩)] w fun e w' => e = .returned (.tuple #[]) ∧ ∃ n, w' = w.drewN n := by
  have hkd : (k != 4) = true := by simpa using hk
  go_enter Try.func23, Try.ntmps23
  go_wp2_with (go_quiet (fail))
  refine bodyPost_ret (results_none Try.results23 _ _ _) rfl ?_
  exact ⟨rfl, _, rfl⟩

set_option maxHeartbeats 1000000 in
set_option maxRecDepth 100000 in
theorem move_stays (kb hv hb vb vo : Nat) (a room : Int) (w : World) (ha : room ≤ a) (k2 : w.cell? ⟨kb, 2, none⟩ = some (.func (Fn.func 22) #[] #[.pointer (some ⟨hv, 0, none⟩)])) (hv0 : w.cell? ⟨hv, 0, none⟩ = some (.pointer (some ⟨hb, 0, none⟩))) (h3 : w.cell? ⟨hb, 3, none⟩ = some (.int .i64 room)) (v0 : w.cell? ⟨vb, vo, none⟩ = some (.int .i64 4)) (v1 : w.cell? ⟨vb, vo + 1, none⟩ = some (.int .i64 a)) :
    Calls Try.prog 23 #[.pointer (some ⟨kb, 0, none⟩), .pointer (some ⟨vb, vo, none⟩)] w fun e w' => e = .returned (.tuple #[]) ∧ ∃ n, w' = w.drewN n := by
  have hkd : ((4 : Int) != 4) = false := by decide
  have had : decide (a < room) = false := by simpa using ha
  have hc : ∀ w : World, w.cell? ⟨hv, 0, none⟩ = some (.pointer (some ⟨hb, 0, none⟩)) → w.cell? ⟨hb, 3, none⟩ = some (.int .i64 room) → Calls Try.prog 22 #[.int .i64 a, .pointer (some ⟨hv, 0, none⟩)] w fun e w' => e = .returned (.bool false) ∧ w' = w := fun w h1 h2 => by
    have h := from_minor hv hb a room w h1 h2
    rw [had] at h
    exact h
  go_enter Try.func23, Try.ntmps23
  go_wp2_with (go_quiet ((go_at_call 22; exact Calls.quiet_of_same (hc _ hv0 h3))))
  refine bodyPost_ret (results_none Try.results23 _ _ _) rfl ?_
  exact ⟨rfl, _, rfl⟩

set_option maxHeartbeats 1000000 in
set_option maxRecDepth 100000 in
theorem move_old_minor (kb hv hb xb xo vb vo : Nat) (a m : Int) (room : Int) (w : World) (hkb : w.cell? ⟨kb, 0, none⟩ = some (.pointer (some ⟨hb, 0, none⟩))) (k2 : w.cell? ⟨kb, 2, none⟩ = some (.func (Fn.func 22) #[] #[.pointer (some ⟨hv, 0, none⟩)])) (hv0 : w.cell? ⟨hv, 0, none⟩ = some (.pointer (some ⟨hb, 0, none⟩))) (h3 : w.cell? ⟨hb, 3, none⟩ = some (.int .i64 room)) (har : (a : Int) < room) (v0 : w.cell? ⟨vb, vo, none⟩ = some (.int .i64 4)) (v1 : w.cell? ⟨vb, vo + 1, none⟩ = some (.int .i64 a)) (vf : w.frozen? ⟨vb, vo + 1, none⟩ = false)
    (hat : ∀ w1 : World, w1.heap = w.heap → Calls Try.prog 19 #[.pointer (some ⟨hb, 0, none⟩), .int .i64 a] w1 fun e w' => e = .returned (.pointer (some ⟨xb, xo, none⟩)) ∧ ∃ k, w' = w1.drewN k) (hm : m ≠ 0) (hm1 : 0 < m) (hm2 : m ≤ 9223372036854775807) (x7 : w.cell? ⟨xb, xo + 7, none⟩ = some (.int .i64 m)) :
    Calls Try.prog 23 #[.pointer (some ⟨kb, 0, none⟩), .pointer (some ⟨vb, vo, none⟩)] w fun e w' => e = .returned (.tuple #[]) ∧ ∃ n, w' = (w.drewN n).setCell ⟨vb, vo + 1, none⟩ (.int .i64 (m - 1)) := by
  have had : decide (a < room) = true := by simpa using har
  have hc : ∀ w : World, w.cell? ⟨hv, 0, none⟩ = some (.pointer (some ⟨hb, 0, none⟩)) → w.cell? ⟨hb, 3, none⟩ = some (.int .i64 room) → Calls Try.prog 22 #[.int .i64 a, .pointer (some ⟨hv, 0, none⟩)] w fun e w' => e = .returned (.bool true) ∧ w' = w := fun w h1 h2 => by
    have h := from_minor hv hb a room w h1 h2
    rw [had] at h
    exact h
  have hkd : ((4 : Int) != 4) = false := by decide
  have hmd : (m == 0) = false := by simpa using hm
  have hms : wrap64 (m - 1) = m - 1 := by unfold wrap64; omega
  go_enter Try.func23, Try.ntmps23
  go_wp2_with (go_quiet ((go_at_call 22; exact Calls.quiet_of_same (hc _ hv0 h3))))
  have g0 : (w.drewN nq).cell? ⟨kb, 0, none⟩ = _ := hkb
  have g1 : (w.drewN nq).cell? ⟨vb, vo + 1, none⟩ = _ := v1
  have g7 : (w.drewN nq).cell? ⟨xb, xo + 7, none⟩ = _ := x7
  have gf : (w.drewN nq).frozen? ⟨vb, vo + 1, none⟩ = _ := vf
  have hat2 : ∀ w2 : World, w2.heap = (w.drewN nq).heap → Calls Try.prog 19 #[.pointer (some ⟨hb, 0, none⟩), .int .i64 a] w2 fun e w' => e = .returned (.pointer (some ⟨xb, xo, none⟩)) ∧ ∃ k, w' = w2.drewN k := fun w2 h => hat w2 h
  generalize hw1 : w.drewN nq = w1 at *
  clear hkb k2 v0 v1 vf x7 hat
  go_quiet ((go_at_call 19; exact Calls.quiet_of (hat2 _ rfl)))
  go_wp2
  refine bodyPost_end (results_none Try.results23 _ _ _) rfl ?_
  exact ⟨rfl, _, by rw [← hw1, World.drewN_drewN]⟩

set_option maxHeartbeats 1000000 in
set_option maxRecDepth 100000 in
theorem move_old_major (kb hb xb xo vb vo : Nat) (a m : Int) (w : World) (hkb : w.cell? ⟨kb, 0, none⟩ = some (.pointer (some ⟨hb, 0, none⟩))) (k2 : w.cell? ⟨kb, 2, none⟩ = some (.func (Fn.func 28) #[] #[])) (v0 : w.cell? ⟨vb, vo, none⟩ = some (.int .i64 4)) (v1 : w.cell? ⟨vb, vo + 1, none⟩ = some (.int .i64 a)) (vf : w.frozen? ⟨vb, vo + 1, none⟩ = false)
    (hat : ∀ w1 : World, w1.heap = w.heap → Calls Try.prog 19 #[.pointer (some ⟨hb, 0, none⟩), .int .i64 a] w1 fun e w' => e = .returned (.pointer (some ⟨xb, xo, none⟩)) ∧ ∃ k, w' = w1.drewN k) (hm : m ≠ 0) (hm1 : 0 < m) (hm2 : m ≤ 9223372036854775807) (x7 : w.cell? ⟨xb, xo + 7, none⟩ = some (.int .i64 m)) :
    Calls Try.prog 23 #[.pointer (some ⟨kb, 0, none⟩), .pointer (some ⟨vb, vo, none⟩)] w fun e w' => e = .returned (.tuple #[]) ∧ ∃ n, w' = (w.drewN n).setCell ⟨vb, vo + 1, none⟩ (.int .i64 (m - 1)) := by
  have hc : ∀ w : World, Calls Try.prog 28 #[.int .i64 a] w fun e w' => e = .returned (.bool true) ∧ w' = w := fun w => from_major a w
  have hkd : ((4 : Int) != 4) = false := by decide
  have hmd : (m == 0) = false := by simpa using hm
  have hms : wrap64 (m - 1) = m - 1 := by unfold wrap64; omega
  go_enter Try.func23, Try.ntmps23
  go_wp2_with (go_quiet ((go_at_call 28; exact Calls.quiet_of_same (hc _))))
  have g0 : (w.drewN nq).cell? ⟨kb, 0, none⟩ = _ := hkb
  have g1 : (w.drewN nq).cell? ⟨vb, vo + 1, none⟩ = _ := v1
  have g7 : (w.drewN nq).cell? ⟨xb, xo + 7, none⟩ = _ := x7
  have gf : (w.drewN nq).frozen? ⟨vb, vo + 1, none⟩ = _ := vf
  have hat2 : ∀ w2 : World, w2.heap = (w.drewN nq).heap → Calls Try.prog 19 #[.pointer (some ⟨hb, 0, none⟩), .int .i64 a] w2 fun e w' => e = .returned (.pointer (some ⟨xb, xo, none⟩)) ∧ ∃ k, w' = w2.drewN k := fun w2 h => hat w2 h
  generalize hw1 : w.drewN nq = w1 at *
  clear hkb k2 v0 v1 vf x7 hat
  go_quiet ((go_at_call 19; exact Calls.quiet_of (hat2 _ rfl)))
  go_wp2
  refine bodyPost_end (results_none Try.results23 _ _ _) rfl ?_
  exact ⟨rfl, _, by rw [← hw1, World.drewN_drewN]⟩
end Go.Proofs.Ythbkklnahhdgcaa.ChB
