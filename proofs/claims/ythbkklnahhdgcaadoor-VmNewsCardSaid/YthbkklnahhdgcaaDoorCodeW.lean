/-
  The contract of package code's check, at a function that is too much.
-/
import Derived.Test.YthbkklnahhdgcaaDoorCodeT
import Derived.Test.YthbkklnahhdgcaaDoorCodeP
namespace Go.Proofs.YthbkklnahhdgcaaDoor.CodeW
open Go Go.Proofs Go.RowKit Lib CodeR CodeA CodeB CodeP

theorem lim_cases (f : Fc) : (limB f = true ∧ 1 ≤ f.code.length ∧ f.code.length ≤ 5000 ∧ 0 ≤ f.params ∧ f.params ≤ 8 ∧ f.params ≤ f.slots ∧ f.slots ≤ 200) ∨ (limB f = false ∧ ((f.code.length : Int) < 1 ∨ 5000 < (f.code.length : Int) ∨ f.params < 0 ∨ 8 < f.params ∨ f.slots < f.params ∨ 200 < f.slots)) := by
  unfold limB CodeR.within
  by_cases h : 1 ≤ (f.code.length : Int) ∧ (f.code.length : Int) ≤ 5000 ∧ 0 ≤ f.params ∧ f.params ≤ 8 ∧ f.params ≤ f.slots ∧ f.slots ≤ 200
  · left
    refine ⟨?_, by omega, by omega, by omega, by omega, by omega, by omega⟩
    simp; omega
  · right
    refine ⟨?_, by omega⟩
    rw [Bool.eq_false_iff]
    intro hc
    apply h
    simp at hc
    omega

set_option maxRecDepth 100000 in
set_option maxHeartbeats 4000000 in
theorem check_lim (mb mo fb fo : Nat) (_m : Im) (f : Fc) (w : World) (hf : Row w fb fo f.vals) (hfi : FcIn w f) (hl : limB f = false) :
    Calls Tryd.prog 41 #[.pointer (some ⟨mb, mo, none⟩), .pointer (some ⟨fb, fo, none⟩)] w fun r w' => r = .returned (.int .i64 4) ∧ Below w.heap.size w w' := by
  have hf1 : w.cell? ⟨fb, fo + 1, none⟩ = some (.int .i64 f.params) := hf 1 _ rfl
  have hf2 : w.cell? ⟨fb, fo + 2, none⟩ = some (.int .i64 f.slots) := hf 2 _ rfl
  have hf3 : w.cell? ⟨fb, fo + 3, none⟩ = some f.codeS.val := hf 3 _ rfl
  have hn := hfi.code.len
  rw [List.length_map] at hn
  unfold Sl.val at hf3
  have d1 := alloc_cell hf1
  have d2 := alloc_cell hf2
  have d3 := alloc_cell hf3
  rcases lim_cases f with h | ⟨_, h⟩
  · rw [hl] at h; cases h.1
  clear hf hfi hl

  by_cases c1 : (f.code.length : Int) < 1
  · have k0 : decide ((f.code.length : Int) < 1) = true := by simpa using c1
    clear h
    go_enter Tryd.func41, Tryd.ntmps41
    go_wp2
    go_quiet (fail)
    go_wp2
    go_ret
    exact ⟨rfl, below_drewN (below_alloc (Below.refl _ _) _ (Nat.le_refl _)) _⟩
  have k0 : decide ((f.code.length : Int) < 1) = false := by simpa using c1
  by_cases c2 : 5000 < (f.code.length : Int)
  · have k1 : decide (5000 < (f.code.length : Int)) = true := by simpa using c2
    clear h
    go_enter Tryd.func41, Tryd.ntmps41
    go_wp2
    go_quiet (fail)
    go_wp2
    go_ret
    exact ⟨rfl, below_drewN (below_alloc (Below.refl _ _) _ (Nat.le_refl _)) _⟩
  have k1 : decide (5000 < (f.code.length : Int)) = false := by simpa using c2
  by_cases c3 : f.params < 0
  · have k2 : decide (f.params < 0) = true := by simpa using c3
    clear h
    go_enter Tryd.func41, Tryd.ntmps41
    go_wp2
    go_quiet (fail)
    go_wp2
    go_ret
    exact ⟨rfl, below_drewN (below_alloc (Below.refl _ _) _ (Nat.le_refl _)) _⟩
  have k2 : decide (f.params < 0) = false := by simpa using c3
  by_cases c4 : 8 < f.params
  · have k3 : decide (8 < f.params) = true := by simpa using c4
    clear h
    go_enter Tryd.func41, Tryd.ntmps41
    go_wp2
    go_quiet (fail)
    go_wp2
    go_ret
    exact ⟨rfl, below_drewN (below_alloc (Below.refl _ _) _ (Nat.le_refl _)) _⟩
  have k3 : decide (8 < f.params) = false := by simpa using c4
  by_cases c5 : f.slots < f.params
  · have k4 : decide (f.slots < f.params) = true := by simpa using c5
    clear h
    go_enter Tryd.func41, Tryd.ntmps41
    go_wp2
    go_quiet (fail)
    go_wp2
    go_ret
    exact ⟨rfl, below_drewN (below_alloc (Below.refl _ _) _ (Nat.le_refl _)) _⟩
  have k4 : decide (f.slots < f.params) = false := by simpa using c5
  · have c6 : 200 < f.slots := by omega
    have k5 : decide (200 < f.slots) = true := by simpa using c6
    clear h
    go_enter Tryd.func41, Tryd.ntmps41
    go_wp2
    go_quiet (fail)
    go_wp2
    go_ret
    exact ⟨rfl, below_drewN (below_alloc (Below.refl _ _) _ (Nat.le_refl _)) _⟩

end Go.Proofs.YthbkklnahhdgcaaDoor.CodeW
