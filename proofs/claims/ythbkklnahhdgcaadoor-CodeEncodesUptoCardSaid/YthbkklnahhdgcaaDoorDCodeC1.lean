/-
  The contract of package code's right: is what an instruction names there? (an operation each)
-/
import Derived.Test.YthbkklnahhdgcaaDoorDMC
namespace Go.Proofs.YthbkklnahhdgcaaDoor.CodeC1
open Go Go.Proofs Go.RowKit Lib CodeR CodeA CodeB

set_option maxRecDepth 100000 in
set_option maxHeartbeats 4000000 in
theorem right_1 (mb mo fb fo : Nat) (m : Im) (f : Fc) (a b : Int) (w : World) (_hm : Row w mb mo m.vals) (_hi : ImIn w m) (_hf : Row w fb fo f.vals) (_hfi : FcIn w f) :
    Calls Tryd.prog 81 #[.pointer (some ⟨mb, mo, none⟩), .pointer (some ⟨fb, fo, none⟩), .agg #[.int .i64 1, .int .i64 a, .int .i64 b]] w fun e w' => e = .returned (.bool (rightB m f ⟨1, a, b⟩)) ∧ Below w.heap.size w w' := by
  clear _hm _hi _hf _hfi
  have hbs : b < 0 ∨ (0 ≤ b ∧ b ≤ 50) ∨ 50 < b := by omega
  rcases hbs with hb | ⟨hb, hb'⟩ | hb
  · have hb0 : decide (0 ≤ b) = false := by simp; omega
    have hres : rightB m f ⟨1, a, b⟩ = true := by simp [rightB, CodeR.within] <;> omega
    rw [hres]
    go_enter Tryd.func81, Tryd.ntmps81
    go_wp2
    go_ret
    exact ⟨by first | rfl | simp [hres] | (simp; omega), by first | exact below_alloc (Below.refl _ _) _ (Nat.le_refl _) | exact below_drewN (below_alloc (Below.refl _ _) _ (Nat.le_refl _)) _⟩
  · have hb0 : decide (0 ≤ b) = true := by simp; omega
    have hb1 : decide (b ≤ 50) = true := by simp; omega
    have hres : rightB m f ⟨1, a, b⟩ = true := by simp [rightB, CodeR.within] <;> omega
    rw [hres]
    go_enter Tryd.func81, Tryd.ntmps81
    go_wp2
    go_ret
    exact ⟨by first | rfl | simp [hres] | (simp; omega), by first | exact below_alloc (Below.refl _ _) _ (Nat.le_refl _) | exact below_drewN (below_alloc (Below.refl _ _) _ (Nat.le_refl _)) _⟩
  · have hb0 : decide (0 ≤ b) = true := by simp; omega
    have hb1 : decide (b ≤ 50) = false := by simp; omega
    have hres : rightB m f ⟨1, a, b⟩ = true := by simp [rightB, CodeR.within] <;> omega
    rw [hres]
    go_enter Tryd.func81, Tryd.ntmps81
    go_wp2
    go_ret
    exact ⟨by first | rfl | simp [hres] | (simp; omega), by first | exact below_alloc (Below.refl _ _) _ (Nat.le_refl _) | exact below_drewN (below_alloc (Below.refl _ _) _ (Nat.le_refl _)) _⟩

set_option maxRecDepth 100000 in
set_option maxHeartbeats 4000000 in
theorem right_2 (mb mo fb fo : Nat) (m : Im) (f : Fc) (a b : Int) (w : World) (hm : Row w mb mo m.vals) (hi : ImIn w m) (_hf : Row w fb fo f.vals) (_hfi : FcIn w f) :
    Calls Tryd.prog 81 #[.pointer (some ⟨mb, mo, none⟩), .pointer (some ⟨fb, fo, none⟩), .agg #[.int .i64 2, .int .i64 a, .int .i64 b]] w fun e w' => e = .returned (.bool (rightB m f ⟨2, a, b⟩)) ∧ Below w.heap.size w w' := by
  have c0 := (im_cells hm).2.1
  have hl := hi.consts.len
  rw [List.length_map] at hl
  unfold Sl.val at c0
  have d0 := alloc_cell c0
  clear hm hi _hf _hfi
  have hbs : b < 0 ∨ (0 ≤ b ∧ b ≤ 50) ∨ 50 < b := by omega
  have has : a < 0 ∨ (0 ≤ a ∧ a < (m.consts.length : Int)) ∨ (0 ≤ a ∧ (m.consts.length : Int) ≤ a) := by omega
  rcases has with h0 | ⟨h0, h1⟩ | ⟨h0, h1⟩
  · have hd0 : decide (0 ≤ a) = false := by simp; omega
    rcases hbs with hb | ⟨hb, hb'⟩ | hb
    · have hb0 : decide (0 ≤ b) = false := by simp; omega
      have hres : rightB m f ⟨2, a, b⟩ = false := by simp [rightB, CodeR.within] <;> omega
      rw [hres]
      go_enter Tryd.func81, Tryd.ntmps81
      go_wp2
      go_quiet (fail)
      go_wp2
      go_ret
      exact ⟨by first | rfl | simp [hres] | (simp; omega), by first | exact below_alloc (Below.refl _ _) _ (Nat.le_refl _) | exact below_drewN (below_alloc (Below.refl _ _) _ (Nat.le_refl _)) _⟩
    · have hb0 : decide (0 ≤ b) = true := by simp; omega
      have hb1 : decide (b ≤ 50) = true := by simp; omega
      have hres : rightB m f ⟨2, a, b⟩ = false := by simp [rightB, CodeR.within] <;> omega
      rw [hres]
      go_enter Tryd.func81, Tryd.ntmps81
      go_wp2
      go_quiet (fail)
      go_wp2
      go_ret
      exact ⟨by first | rfl | simp [hres] | (simp; omega), by first | exact below_alloc (Below.refl _ _) _ (Nat.le_refl _) | exact below_drewN (below_alloc (Below.refl _ _) _ (Nat.le_refl _)) _⟩
    · have hb0 : decide (0 ≤ b) = true := by simp; omega
      have hb1 : decide (b ≤ 50) = false := by simp; omega
      have hres : rightB m f ⟨2, a, b⟩ = false := by simp [rightB, CodeR.within] <;> omega
      rw [hres]
      go_enter Tryd.func81, Tryd.ntmps81
      go_wp2
      go_quiet (fail)
      go_wp2
      go_ret
      exact ⟨by first | rfl | simp [hres] | (simp; omega), by first | exact below_alloc (Below.refl _ _) _ (Nat.le_refl _) | exact below_drewN (below_alloc (Below.refl _ _) _ (Nat.le_refl _)) _⟩
  · have hd0 : decide (0 ≤ a) = true := by simp; omega
    have hd1 : decide (a < (m.consts.length : Int)) = true := by simp; omega
    rcases hbs with hb | ⟨hb, hb'⟩ | hb
    · have hb0 : decide (0 ≤ b) = false := by simp; omega
      have hres : rightB m f ⟨2, a, b⟩ = true := by simp [rightB, CodeR.within] <;> omega
      rw [hres]
      go_enter Tryd.func81, Tryd.ntmps81
      go_wp2
      go_quiet (fail)
      go_wp2
      go_ret
      exact ⟨by first | rfl | simp [hres] | (simp; omega), by first | exact below_alloc (Below.refl _ _) _ (Nat.le_refl _) | exact below_drewN (below_alloc (Below.refl _ _) _ (Nat.le_refl _)) _⟩
    · have hb0 : decide (0 ≤ b) = true := by simp; omega
      have hb1 : decide (b ≤ 50) = true := by simp; omega
      have hres : rightB m f ⟨2, a, b⟩ = true := by simp [rightB, CodeR.within] <;> omega
      rw [hres]
      go_enter Tryd.func81, Tryd.ntmps81
      go_wp2
      go_quiet (fail)
      go_wp2
      go_ret
      exact ⟨by first | rfl | simp [hres] | (simp; omega), by first | exact below_alloc (Below.refl _ _) _ (Nat.le_refl _) | exact below_drewN (below_alloc (Below.refl _ _) _ (Nat.le_refl _)) _⟩
    · have hb0 : decide (0 ≤ b) = true := by simp; omega
      have hb1 : decide (b ≤ 50) = false := by simp; omega
      have hres : rightB m f ⟨2, a, b⟩ = true := by simp [rightB, CodeR.within] <;> omega
      rw [hres]
      go_enter Tryd.func81, Tryd.ntmps81
      go_wp2
      go_quiet (fail)
      go_wp2
      go_ret
      exact ⟨by first | rfl | simp [hres] | (simp; omega), by first | exact below_alloc (Below.refl _ _) _ (Nat.le_refl _) | exact below_drewN (below_alloc (Below.refl _ _) _ (Nat.le_refl _)) _⟩
  · have hd0 : decide (0 ≤ a) = true := by simp; omega
    have hd1 : decide (a < (m.consts.length : Int)) = false := by simp; omega
    rcases hbs with hb | ⟨hb, hb'⟩ | hb
    · have hb0 : decide (0 ≤ b) = false := by simp; omega
      have hres : rightB m f ⟨2, a, b⟩ = false := by simp [rightB, CodeR.within] <;> omega
      rw [hres]
      go_enter Tryd.func81, Tryd.ntmps81
      go_wp2
      go_quiet (fail)
      go_wp2
      go_ret
      exact ⟨by first | rfl | simp [hres] | (simp; omega), by first | exact below_alloc (Below.refl _ _) _ (Nat.le_refl _) | exact below_drewN (below_alloc (Below.refl _ _) _ (Nat.le_refl _)) _⟩
    · have hb0 : decide (0 ≤ b) = true := by simp; omega
      have hb1 : decide (b ≤ 50) = true := by simp; omega
      have hres : rightB m f ⟨2, a, b⟩ = false := by simp [rightB, CodeR.within] <;> omega
      rw [hres]
      go_enter Tryd.func81, Tryd.ntmps81
      go_wp2
      go_quiet (fail)
      go_wp2
      go_ret
      exact ⟨by first | rfl | simp [hres] | (simp; omega), by first | exact below_alloc (Below.refl _ _) _ (Nat.le_refl _) | exact below_drewN (below_alloc (Below.refl _ _) _ (Nat.le_refl _)) _⟩
    · have hb0 : decide (0 ≤ b) = true := by simp; omega
      have hb1 : decide (b ≤ 50) = false := by simp; omega
      have hres : rightB m f ⟨2, a, b⟩ = false := by simp [rightB, CodeR.within] <;> omega
      rw [hres]
      go_enter Tryd.func81, Tryd.ntmps81
      go_wp2
      go_quiet (fail)
      go_wp2
      go_ret
      exact ⟨by first | rfl | simp [hres] | (simp; omega), by first | exact below_alloc (Below.refl _ _) _ (Nat.le_refl _) | exact below_drewN (below_alloc (Below.refl _ _) _ (Nat.le_refl _)) _⟩

set_option maxRecDepth 100000 in
set_option maxHeartbeats 4000000 in
theorem right_3 (mb mo fb fo : Nat) (m : Im) (f : Fc) (a b : Int) (w : World) (_hm : Row w mb mo m.vals) (_hi : ImIn w m) (_hf : Row w fb fo f.vals) (_hfi : FcIn w f) :
    Calls Tryd.prog 81 #[.pointer (some ⟨mb, mo, none⟩), .pointer (some ⟨fb, fo, none⟩), .agg #[.int .i64 3, .int .i64 a, .int .i64 b]] w fun e w' => e = .returned (.bool (rightB m f ⟨3, a, b⟩)) ∧ Below w.heap.size w w' := by
  clear _hm _hi _hf _hfi
  have hbs : b < 0 ∨ (0 ≤ b ∧ b ≤ 50) ∨ 50 < b := by omega
  rcases hbs with hb | ⟨hb, hb'⟩ | hb
  · have hb0 : decide (0 ≤ b) = false := by simp; omega
    have hres : rightB m f ⟨3, a, b⟩ = true := by simp [rightB, CodeR.within] <;> omega
    rw [hres]
    go_enter Tryd.func81, Tryd.ntmps81
    go_wp2
    go_ret
    exact ⟨by first | rfl | simp [hres] | (simp; omega), by first | exact below_alloc (Below.refl _ _) _ (Nat.le_refl _) | exact below_drewN (below_alloc (Below.refl _ _) _ (Nat.le_refl _)) _⟩
  · have hb0 : decide (0 ≤ b) = true := by simp; omega
    have hb1 : decide (b ≤ 50) = true := by simp; omega
    have hres : rightB m f ⟨3, a, b⟩ = true := by simp [rightB, CodeR.within] <;> omega
    rw [hres]
    go_enter Tryd.func81, Tryd.ntmps81
    go_wp2
    go_ret
    exact ⟨by first | rfl | simp [hres] | (simp; omega), by first | exact below_alloc (Below.refl _ _) _ (Nat.le_refl _) | exact below_drewN (below_alloc (Below.refl _ _) _ (Nat.le_refl _)) _⟩
  · have hb0 : decide (0 ≤ b) = true := by simp; omega
    have hb1 : decide (b ≤ 50) = false := by simp; omega
    have hres : rightB m f ⟨3, a, b⟩ = true := by simp [rightB, CodeR.within] <;> omega
    rw [hres]
    go_enter Tryd.func81, Tryd.ntmps81
    go_wp2
    go_ret
    exact ⟨by first | rfl | simp [hres] | (simp; omega), by first | exact below_alloc (Below.refl _ _) _ (Nat.le_refl _) | exact below_drewN (below_alloc (Below.refl _ _) _ (Nat.le_refl _)) _⟩

set_option maxRecDepth 100000 in
set_option maxHeartbeats 4000000 in
theorem right_4 (mb mo fb fo : Nat) (m : Im) (f : Fc) (a b : Int) (w : World) (_hm : Row w mb mo m.vals) (_hi : ImIn w m) (_hf : Row w fb fo f.vals) (_hfi : FcIn w f) :
    Calls Tryd.prog 81 #[.pointer (some ⟨mb, mo, none⟩), .pointer (some ⟨fb, fo, none⟩), .agg #[.int .i64 4, .int .i64 a, .int .i64 b]] w fun e w' => e = .returned (.bool (rightB m f ⟨4, a, b⟩)) ∧ Below w.heap.size w w' := by
  clear _hm _hi _hf _hfi
  have hbs : b < 0 ∨ (0 ≤ b ∧ b ≤ 50) ∨ 50 < b := by omega
  rcases hbs with hb | ⟨hb, hb'⟩ | hb
  · have hb0 : decide (0 ≤ b) = false := by simp; omega
    have hres : rightB m f ⟨4, a, b⟩ = true := by simp [rightB, CodeR.within] <;> omega
    rw [hres]
    go_enter Tryd.func81, Tryd.ntmps81
    go_wp2
    go_ret
    exact ⟨by first | rfl | simp [hres] | (simp; omega), by first | exact below_alloc (Below.refl _ _) _ (Nat.le_refl _) | exact below_drewN (below_alloc (Below.refl _ _) _ (Nat.le_refl _)) _⟩
  · have hb0 : decide (0 ≤ b) = true := by simp; omega
    have hb1 : decide (b ≤ 50) = true := by simp; omega
    have hres : rightB m f ⟨4, a, b⟩ = true := by simp [rightB, CodeR.within] <;> omega
    rw [hres]
    go_enter Tryd.func81, Tryd.ntmps81
    go_wp2
    go_ret
    exact ⟨by first | rfl | simp [hres] | (simp; omega), by first | exact below_alloc (Below.refl _ _) _ (Nat.le_refl _) | exact below_drewN (below_alloc (Below.refl _ _) _ (Nat.le_refl _)) _⟩
  · have hb0 : decide (0 ≤ b) = true := by simp; omega
    have hb1 : decide (b ≤ 50) = false := by simp; omega
    have hres : rightB m f ⟨4, a, b⟩ = true := by simp [rightB, CodeR.within] <;> omega
    rw [hres]
    go_enter Tryd.func81, Tryd.ntmps81
    go_wp2
    go_ret
    exact ⟨by first | rfl | simp [hres] | (simp; omega), by first | exact below_alloc (Below.refl _ _) _ (Nat.le_refl _) | exact below_drewN (below_alloc (Below.refl _ _) _ (Nat.le_refl _)) _⟩

set_option maxRecDepth 100000 in
set_option maxHeartbeats 4000000 in
theorem right_5 (mb mo fb fo : Nat) (m : Im) (f : Fc) (a b : Int) (w : World) (_hm : Row w mb mo m.vals) (_hi : ImIn w m) (_hf : Row w fb fo f.vals) (_hfi : FcIn w f) :
    Calls Tryd.prog 81 #[.pointer (some ⟨mb, mo, none⟩), .pointer (some ⟨fb, fo, none⟩), .agg #[.int .i64 5, .int .i64 a, .int .i64 b]] w fun e w' => e = .returned (.bool (rightB m f ⟨5, a, b⟩)) ∧ Below w.heap.size w w' := by
  clear _hm _hi _hf _hfi
  have hbs : b < 0 ∨ (0 ≤ b ∧ b ≤ 50) ∨ 50 < b := by omega
  rcases hbs with hb | ⟨hb, hb'⟩ | hb
  · have hb0 : decide (0 ≤ b) = false := by simp; omega
    have hres : rightB m f ⟨5, a, b⟩ = true := by simp [rightB, CodeR.within] <;> omega
    rw [hres]
    go_enter Tryd.func81, Tryd.ntmps81
    go_wp2
    go_ret
    exact ⟨by first | rfl | simp [hres] | (simp; omega), by first | exact below_alloc (Below.refl _ _) _ (Nat.le_refl _) | exact below_drewN (below_alloc (Below.refl _ _) _ (Nat.le_refl _)) _⟩
  · have hb0 : decide (0 ≤ b) = true := by simp; omega
    have hb1 : decide (b ≤ 50) = true := by simp; omega
    have hres : rightB m f ⟨5, a, b⟩ = true := by simp [rightB, CodeR.within] <;> omega
    rw [hres]
    go_enter Tryd.func81, Tryd.ntmps81
    go_wp2
    go_ret
    exact ⟨by first | rfl | simp [hres] | (simp; omega), by first | exact below_alloc (Below.refl _ _) _ (Nat.le_refl _) | exact below_drewN (below_alloc (Below.refl _ _) _ (Nat.le_refl _)) _⟩
  · have hb0 : decide (0 ≤ b) = true := by simp; omega
    have hb1 : decide (b ≤ 50) = false := by simp; omega
    have hres : rightB m f ⟨5, a, b⟩ = true := by simp [rightB, CodeR.within] <;> omega
    rw [hres]
    go_enter Tryd.func81, Tryd.ntmps81
    go_wp2
    go_ret
    exact ⟨by first | rfl | simp [hres] | (simp; omega), by first | exact below_alloc (Below.refl _ _) _ (Nat.le_refl _) | exact below_drewN (below_alloc (Below.refl _ _) _ (Nat.le_refl _)) _⟩

set_option maxRecDepth 100000 in
set_option maxHeartbeats 4000000 in
theorem right_6 (mb mo fb fo : Nat) (m : Im) (f : Fc) (a b : Int) (w : World) (_hm : Row w mb mo m.vals) (_hi : ImIn w m) (hf : Row w fb fo f.vals) (_hfi : FcIn w f) :
    Calls Tryd.prog 81 #[.pointer (some ⟨mb, mo, none⟩), .pointer (some ⟨fb, fo, none⟩), .agg #[.int .i64 6, .int .i64 a, .int .i64 b]] w fun e w' => e = .returned (.bool (rightB m f ⟨6, a, b⟩)) ∧ Below w.heap.size w w' := by
  have hfs : w.cell? ⟨fb, fo + 2, none⟩ = some (.int .i64 f.slots) := hf 2 _ rfl
  have d0 := alloc_cell hfs
  clear _hm _hi hf _hfi
  have hbs : b < 0 ∨ (0 ≤ b ∧ b ≤ 50) ∨ 50 < b := by omega
  have has : a < 0 ∨ (0 ≤ a ∧ a < f.slots) ∨ (0 ≤ a ∧ f.slots ≤ a) := by omega
  rcases has with h0 | ⟨h0, h1⟩ | ⟨h0, h1⟩
  · have hd0 : decide (0 ≤ a) = false := by simp; omega
    rcases hbs with hb | ⟨hb, hb'⟩ | hb
    · have hb0 : decide (0 ≤ b) = false := by simp; omega
      have hres : rightB m f ⟨6, a, b⟩ = false := by simp [rightB, CodeR.within] <;> omega
      rw [hres]
      go_enter Tryd.func81, Tryd.ntmps81
      go_wp2
      go_quiet (fail)
      go_wp2
      go_ret
      exact ⟨by first | rfl | simp [hres] | (simp; omega), by first | exact below_alloc (Below.refl _ _) _ (Nat.le_refl _) | exact below_drewN (below_alloc (Below.refl _ _) _ (Nat.le_refl _)) _⟩
    · have hb0 : decide (0 ≤ b) = true := by simp; omega
      have hb1 : decide (b ≤ 50) = true := by simp; omega
      have hres : rightB m f ⟨6, a, b⟩ = false := by simp [rightB, CodeR.within] <;> omega
      rw [hres]
      go_enter Tryd.func81, Tryd.ntmps81
      go_wp2
      go_quiet (fail)
      go_wp2
      go_ret
      exact ⟨by first | rfl | simp [hres] | (simp; omega), by first | exact below_alloc (Below.refl _ _) _ (Nat.le_refl _) | exact below_drewN (below_alloc (Below.refl _ _) _ (Nat.le_refl _)) _⟩
    · have hb0 : decide (0 ≤ b) = true := by simp; omega
      have hb1 : decide (b ≤ 50) = false := by simp; omega
      have hres : rightB m f ⟨6, a, b⟩ = false := by simp [rightB, CodeR.within] <;> omega
      rw [hres]
      go_enter Tryd.func81, Tryd.ntmps81
      go_wp2
      go_quiet (fail)
      go_wp2
      go_ret
      exact ⟨by first | rfl | simp [hres] | (simp; omega), by first | exact below_alloc (Below.refl _ _) _ (Nat.le_refl _) | exact below_drewN (below_alloc (Below.refl _ _) _ (Nat.le_refl _)) _⟩
  · have hd0 : decide (0 ≤ a) = true := by simp; omega
    have hd1 : decide (a < f.slots) = true := by simp; omega
    rcases hbs with hb | ⟨hb, hb'⟩ | hb
    · have hb0 : decide (0 ≤ b) = false := by simp; omega
      have hres : rightB m f ⟨6, a, b⟩ = true := by simp [rightB, CodeR.within] <;> omega
      rw [hres]
      go_enter Tryd.func81, Tryd.ntmps81
      go_wp2
      go_quiet (fail)
      go_wp2
      go_ret
      exact ⟨by first | rfl | simp [hres] | (simp; omega), by first | exact below_alloc (Below.refl _ _) _ (Nat.le_refl _) | exact below_drewN (below_alloc (Below.refl _ _) _ (Nat.le_refl _)) _⟩
    · have hb0 : decide (0 ≤ b) = true := by simp; omega
      have hb1 : decide (b ≤ 50) = true := by simp; omega
      have hres : rightB m f ⟨6, a, b⟩ = true := by simp [rightB, CodeR.within] <;> omega
      rw [hres]
      go_enter Tryd.func81, Tryd.ntmps81
      go_wp2
      go_quiet (fail)
      go_wp2
      go_ret
      exact ⟨by first | rfl | simp [hres] | (simp; omega), by first | exact below_alloc (Below.refl _ _) _ (Nat.le_refl _) | exact below_drewN (below_alloc (Below.refl _ _) _ (Nat.le_refl _)) _⟩
    · have hb0 : decide (0 ≤ b) = true := by simp; omega
      have hb1 : decide (b ≤ 50) = false := by simp; omega
      have hres : rightB m f ⟨6, a, b⟩ = true := by simp [rightB, CodeR.within] <;> omega
      rw [hres]
      go_enter Tryd.func81, Tryd.ntmps81
      go_wp2
      go_quiet (fail)
      go_wp2
      go_ret
      exact ⟨by first | rfl | simp [hres] | (simp; omega), by first | exact below_alloc (Below.refl _ _) _ (Nat.le_refl _) | exact below_drewN (below_alloc (Below.refl _ _) _ (Nat.le_refl _)) _⟩
  · have hd0 : decide (0 ≤ a) = true := by simp; omega
    have hd1 : decide (a < f.slots) = false := by simp; omega
    rcases hbs with hb | ⟨hb, hb'⟩ | hb
    · have hb0 : decide (0 ≤ b) = false := by simp; omega
      have hres : rightB m f ⟨6, a, b⟩ = false := by simp [rightB, CodeR.within] <;> omega
      rw [hres]
      go_enter Tryd.func81, Tryd.ntmps81
      go_wp2
      go_quiet (fail)
      go_wp2
      go_ret
      exact ⟨by first | rfl | simp [hres] | (simp; omega), by first | exact below_alloc (Below.refl _ _) _ (Nat.le_refl _) | exact below_drewN (below_alloc (Below.refl _ _) _ (Nat.le_refl _)) _⟩
    · have hb0 : decide (0 ≤ b) = true := by simp; omega
      have hb1 : decide (b ≤ 50) = true := by simp; omega
      have hres : rightB m f ⟨6, a, b⟩ = false := by simp [rightB, CodeR.within] <;> omega
      rw [hres]
      go_enter Tryd.func81, Tryd.ntmps81
      go_wp2
      go_quiet (fail)
      go_wp2
      go_ret
      exact ⟨by first | rfl | simp [hres] | (simp; omega), by first | exact below_alloc (Below.refl _ _) _ (Nat.le_refl _) | exact below_drewN (below_alloc (Below.refl _ _) _ (Nat.le_refl _)) _⟩
    · have hb0 : decide (0 ≤ b) = true := by simp; omega
      have hb1 : decide (b ≤ 50) = false := by simp; omega
      have hres : rightB m f ⟨6, a, b⟩ = false := by simp [rightB, CodeR.within] <;> omega
      rw [hres]
      go_enter Tryd.func81, Tryd.ntmps81
      go_wp2
      go_quiet (fail)
      go_wp2
      go_ret
      exact ⟨by first | rfl | simp [hres] | (simp; omega), by first | exact below_alloc (Below.refl _ _) _ (Nat.le_refl _) | exact below_drewN (below_alloc (Below.refl _ _) _ (Nat.le_refl _)) _⟩

set_option maxRecDepth 100000 in
set_option maxHeartbeats 4000000 in
theorem right_7 (mb mo fb fo : Nat) (m : Im) (f : Fc) (a b : Int) (w : World) (_hm : Row w mb mo m.vals) (_hi : ImIn w m) (hf : Row w fb fo f.vals) (_hfi : FcIn w f) :
    Calls Tryd.prog 81 #[.pointer (some ⟨mb, mo, none⟩), .pointer (some ⟨fb, fo, none⟩), .agg #[.int .i64 7, .int .i64 a, .int .i64 b]] w fun e w' => e = .returned (.bool (rightB m f ⟨7, a, b⟩)) ∧ Below w.heap.size w w' := by
  have hfs : w.cell? ⟨fb, fo + 2, none⟩ = some (.int .i64 f.slots) := hf 2 _ rfl
  have d0 := alloc_cell hfs
  clear _hm _hi hf _hfi
  have hbs : b < 0 ∨ (0 ≤ b ∧ b ≤ 50) ∨ 50 < b := by omega
  have has : a < 0 ∨ (0 ≤ a ∧ a < f.slots) ∨ (0 ≤ a ∧ f.slots ≤ a) := by omega
  rcases has with h0 | ⟨h0, h1⟩ | ⟨h0, h1⟩
  · have hd0 : decide (0 ≤ a) = false := by simp; omega
    rcases hbs with hb | ⟨hb, hb'⟩ | hb
    · have hb0 : decide (0 ≤ b) = false := by simp; omega
      have hres : rightB m f ⟨7, a, b⟩ = false := by simp [rightB, CodeR.within] <;> omega
      rw [hres]
      go_enter Tryd.func81, Tryd.ntmps81
      go_wp2
      go_quiet (fail)
      go_wp2
      go_ret
      exact ⟨by first | rfl | simp [hres] | (simp; omega), by first | exact below_alloc (Below.refl _ _) _ (Nat.le_refl _) | exact below_drewN (below_alloc (Below.refl _ _) _ (Nat.le_refl _)) _⟩
    · have hb0 : decide (0 ≤ b) = true := by simp; omega
      have hb1 : decide (b ≤ 50) = true := by simp; omega
      have hres : rightB m f ⟨7, a, b⟩ = false := by simp [rightB, CodeR.within] <;> omega
      rw [hres]
      go_enter Tryd.func81, Tryd.ntmps81
      go_wp2
      go_quiet (fail)
      go_wp2
      go_ret
      exact ⟨by first | rfl | simp [hres] | (simp; omega), by first | exact below_alloc (Below.refl _ _) _ (Nat.le_refl _) | exact below_drewN (below_alloc (Below.refl _ _) _ (Nat.le_refl _)) _⟩
    · have hb0 : decide (0 ≤ b) = true := by simp; omega
      have hb1 : decide (b ≤ 50) = false := by simp; omega
      have hres : rightB m f ⟨7, a, b⟩ = false := by simp [rightB, CodeR.within] <;> omega
      rw [hres]
      go_enter Tryd.func81, Tryd.ntmps81
      go_wp2
      go_quiet (fail)
      go_wp2
      go_ret
      exact ⟨by first | rfl | simp [hres] | (simp; omega), by first | exact below_alloc (Below.refl _ _) _ (Nat.le_refl _) | exact below_drewN (below_alloc (Below.refl _ _) _ (Nat.le_refl _)) _⟩
  · have hd0 : decide (0 ≤ a) = true := by simp; omega
    have hd1 : decide (a < f.slots) = true := by simp; omega
    rcases hbs with hb | ⟨hb, hb'⟩ | hb
    · have hb0 : decide (0 ≤ b) = false := by simp; omega
      have hres : rightB m f ⟨7, a, b⟩ = true := by simp [rightB, CodeR.within] <;> omega
      rw [hres]
      go_enter Tryd.func81, Tryd.ntmps81
      go_wp2
      go_quiet (fail)
      go_wp2
      go_ret
      exact ⟨by first | rfl | simp [hres] | (simp; omega), by first | exact below_alloc (Below.refl _ _) _ (Nat.le_refl _) | exact below_drewN (below_alloc (Below.refl _ _) _ (Nat.le_refl _)) _⟩
    · have hb0 : decide (0 ≤ b) = true := by simp; omega
      have hb1 : decide (b ≤ 50) = true := by simp; omega
      have hres : rightB m f ⟨7, a, b⟩ = true := by simp [rightB, CodeR.within] <;> omega
      rw [hres]
      go_enter Tryd.func81, Tryd.ntmps81
      go_wp2
      go_quiet (fail)
      go_wp2
      go_ret
      exact ⟨by first | rfl | simp [hres] | (simp; omega), by first | exact below_alloc (Below.refl _ _) _ (Nat.le_refl _) | exact below_drewN (below_alloc (Below.refl _ _) _ (Nat.le_refl _)) _⟩
    · have hb0 : decide (0 ≤ b) = true := by simp; omega
      have hb1 : decide (b ≤ 50) = false := by simp; omega
      have hres : rightB m f ⟨7, a, b⟩ = true := by simp [rightB, CodeR.within] <;> omega
      rw [hres]
      go_enter Tryd.func81, Tryd.ntmps81
      go_wp2
      go_quiet (fail)
      go_wp2
      go_ret
      exact ⟨by first | rfl | simp [hres] | (simp; omega), by first | exact below_alloc (Below.refl _ _) _ (Nat.le_refl _) | exact below_drewN (below_alloc (Below.refl _ _) _ (Nat.le_refl _)) _⟩
  · have hd0 : decide (0 ≤ a) = true := by simp; omega
    have hd1 : decide (a < f.slots) = false := by simp; omega
    rcases hbs with hb | ⟨hb, hb'⟩ | hb
    · have hb0 : decide (0 ≤ b) = false := by simp; omega
      have hres : rightB m f ⟨7, a, b⟩ = false := by simp [rightB, CodeR.within] <;> omega
      rw [hres]
      go_enter Tryd.func81, Tryd.ntmps81
      go_wp2
      go_quiet (fail)
      go_wp2
      go_ret
      exact ⟨by first | rfl | simp [hres] | (simp; omega), by first | exact below_alloc (Below.refl _ _) _ (Nat.le_refl _) | exact below_drewN (below_alloc (Below.refl _ _) _ (Nat.le_refl _)) _⟩
    · have hb0 : decide (0 ≤ b) = true := by simp; omega
      have hb1 : decide (b ≤ 50) = true := by simp; omega
      have hres : rightB m f ⟨7, a, b⟩ = false := by simp [rightB, CodeR.within] <;> omega
      rw [hres]
      go_enter Tryd.func81, Tryd.ntmps81
      go_wp2
      go_quiet (fail)
      go_wp2
      go_ret
      exact ⟨by first | rfl | simp [hres] | (simp; omega), by first | exact below_alloc (Below.refl _ _) _ (Nat.le_refl _) | exact below_drewN (below_alloc (Below.refl _ _) _ (Nat.le_refl _)) _⟩
    · have hb0 : decide (0 ≤ b) = true := by simp; omega
      have hb1 : decide (b ≤ 50) = false := by simp; omega
      have hres : rightB m f ⟨7, a, b⟩ = false := by simp [rightB, CodeR.within] <;> omega
      rw [hres]
      go_enter Tryd.func81, Tryd.ntmps81
      go_wp2
      go_quiet (fail)
      go_wp2
      go_ret
      exact ⟨by first | rfl | simp [hres] | (simp; omega), by first | exact below_alloc (Below.refl _ _) _ (Nat.le_refl _) | exact below_drewN (below_alloc (Below.refl _ _) _ (Nat.le_refl _)) _⟩

set_option maxRecDepth 100000 in
set_option maxHeartbeats 4000000 in
theorem right_8 (mb mo fb fo : Nat) (m : Im) (f : Fc) (a b : Int) (w : World) (_hm : Row w mb mo m.vals) (_hi : ImIn w m) (hf : Row w fb fo f.vals) (_hfi : FcIn w f) :
    Calls Tryd.prog 81 #[.pointer (some ⟨mb, mo, none⟩), .pointer (some ⟨fb, fo, none⟩), .agg #[.int .i64 8, .int .i64 a, .int .i64 b]] w fun e w' => e = .returned (.bool (rightB m f ⟨8, a, b⟩)) ∧ Below w.heap.size w w' := by
  have hfs : w.cell? ⟨fb, fo + 2, none⟩ = some (.int .i64 f.slots) := hf 2 _ rfl
  have d0 := alloc_cell hfs
  clear _hm _hi hf _hfi
  have hbs : b < 0 ∨ (0 ≤ b ∧ b ≤ 50) ∨ 50 < b := by omega
  have has : a < 0 ∨ (0 ≤ a ∧ a < f.slots) ∨ (0 ≤ a ∧ f.slots ≤ a) := by omega
  rcases has with h0 | ⟨h0, h1⟩ | ⟨h0, h1⟩
  · have hd0 : decide (0 ≤ a) = false := by simp; omega
    rcases hbs with hb | ⟨hb, hb'⟩ | hb
    · have hb0 : decide (0 ≤ b) = false := by simp; omega
      have hres : rightB m f ⟨8, a, b⟩ = false := by simp [rightB, CodeR.within] <;> omega
      rw [hres]
      go_enter Tryd.func81, Tryd.ntmps81
      go_wp2
      go_quiet (fail)
      go_wp2
      go_ret
      exact ⟨by first | rfl | simp [hres] | (simp; omega), by first | exact below_alloc (Below.refl _ _) _ (Nat.le_refl _) | exact below_drewN (below_alloc (Below.refl _ _) _ (Nat.le_refl _)) _⟩
    · have hb0 : decide (0 ≤ b) = true := by simp; omega
      have hb1 : decide (b ≤ 50) = true := by simp; omega
      have hres : rightB m f ⟨8, a, b⟩ = false := by simp [rightB, CodeR.within] <;> omega
      rw [hres]
      go_enter Tryd.func81, Tryd.ntmps81
      go_wp2
      go_quiet (fail)
      go_wp2
      go_ret
      exact ⟨by first | rfl | simp [hres] | (simp; omega), by first | exact below_alloc (Below.refl _ _) _ (Nat.le_refl _) | exact below_drewN (below_alloc (Below.refl _ _) _ (Nat.le_refl _)) _⟩
    · have hb0 : decide (0 ≤ b) = true := by simp; omega
      have hb1 : decide (b ≤ 50) = false := by simp; omega
      have hres : rightB m f ⟨8, a, b⟩ = false := by simp [rightB, CodeR.within] <;> omega
      rw [hres]
      go_enter Tryd.func81, Tryd.ntmps81
      go_wp2
      go_quiet (fail)
      go_wp2
      go_ret
      exact ⟨by first | rfl | simp [hres] | (simp; omega), by first | exact below_alloc (Below.refl _ _) _ (Nat.le_refl _) | exact below_drewN (below_alloc (Below.refl _ _) _ (Nat.le_refl _)) _⟩
  · have hd0 : decide (0 ≤ a) = true := by simp; omega
    have hd1 : decide (a < f.slots) = true := by simp; omega
    rcases hbs with hb | ⟨hb, hb'⟩ | hb
    · have hb0 : decide (0 ≤ b) = false := by simp; omega
      have hres : rightB m f ⟨8, a, b⟩ = true := by simp [rightB, CodeR.within] <;> omega
      rw [hres]
      go_enter Tryd.func81, Tryd.ntmps81
      go_wp2
      go_quiet (fail)
      go_wp2
      go_ret
      exact ⟨by first | rfl | simp [hres] | (simp; omega), by first | exact below_alloc (Below.refl _ _) _ (Nat.le_refl _) | exact below_drewN (below_alloc (Below.refl _ _) _ (Nat.le_refl _)) _⟩
    · have hb0 : decide (0 ≤ b) = true := by simp; omega
      have hb1 : decide (b ≤ 50) = true := by simp; omega
      have hres : rightB m f ⟨8, a, b⟩ = true := by simp [rightB, CodeR.within] <;> omega
      rw [hres]
      go_enter Tryd.func81, Tryd.ntmps81
      go_wp2
      go_quiet (fail)
      go_wp2
      go_ret
      exact ⟨by first | rfl | simp [hres] | (simp; omega), by first | exact below_alloc (Below.refl _ _) _ (Nat.le_refl _) | exact below_drewN (below_alloc (Below.refl _ _) _ (Nat.le_refl _)) _⟩
    · have hb0 : decide (0 ≤ b) = true := by simp; omega
      have hb1 : decide (b ≤ 50) = false := by simp; omega
      have hres : rightB m f ⟨8, a, b⟩ = true := by simp [rightB, CodeR.within] <;> omega
      rw [hres]
      go_enter Tryd.func81, Tryd.ntmps81
      go_wp2
      go_quiet (fail)
      go_wp2
      go_ret
      exact ⟨by first | rfl | simp [hres] | (simp; omega), by first | exact below_alloc (Below.refl _ _) _ (Nat.le_refl _) | exact below_drewN (below_alloc (Below.refl _ _) _ (Nat.le_refl _)) _⟩
  · have hd0 : decide (0 ≤ a) = true := by simp; omega
    have hd1 : decide (a < f.slots) = false := by simp; omega
    rcases hbs with hb | ⟨hb, hb'⟩ | hb
    · have hb0 : decide (0 ≤ b) = false := by simp; omega
      have hres : rightB m f ⟨8, a, b⟩ = false := by simp [rightB, CodeR.within] <;> omega
      rw [hres]
      go_enter Tryd.func81, Tryd.ntmps81
      go_wp2
      go_quiet (fail)
      go_wp2
      go_ret
      exact ⟨by first | rfl | simp [hres] | (simp; omega), by first | exact below_alloc (Below.refl _ _) _ (Nat.le_refl _) | exact below_drewN (below_alloc (Below.refl _ _) _ (Nat.le_refl _)) _⟩
    · have hb0 : decide (0 ≤ b) = true := by simp; omega
      have hb1 : decide (b ≤ 50) = true := by simp; omega
      have hres : rightB m f ⟨8, a, b⟩ = false := by simp [rightB, CodeR.within] <;> omega
      rw [hres]
      go_enter Tryd.func81, Tryd.ntmps81
      go_wp2
      go_quiet (fail)
      go_wp2
      go_ret
      exact ⟨by first | rfl | simp [hres] | (simp; omega), by first | exact below_alloc (Below.refl _ _) _ (Nat.le_refl _) | exact below_drewN (below_alloc (Below.refl _ _) _ (Nat.le_refl _)) _⟩
    · have hb0 : decide (0 ≤ b) = true := by simp; omega
      have hb1 : decide (b ≤ 50) = false := by simp; omega
      have hres : rightB m f ⟨8, a, b⟩ = false := by simp [rightB, CodeR.within] <;> omega
      rw [hres]
      go_enter Tryd.func81, Tryd.ntmps81
      go_wp2
      go_quiet (fail)
      go_wp2
      go_ret
      exact ⟨by first | rfl | simp [hres] | (simp; omega), by first | exact below_alloc (Below.refl _ _) _ (Nat.le_refl _) | exact below_drewN (below_alloc (Below.refl _ _) _ (Nat.le_refl _)) _⟩

set_option maxRecDepth 100000 in
set_option maxHeartbeats 4000000 in
theorem right_9 (mb mo fb fo : Nat) (m : Im) (f : Fc) (a b : Int) (w : World) (_hm : Row w mb mo m.vals) (_hi : ImIn w m) (hf : Row w fb fo f.vals) (_hfi : FcIn w f) :
    Calls Tryd.prog 81 #[.pointer (some ⟨mb, mo, none⟩), .pointer (some ⟨fb, fo, none⟩), .agg #[.int .i64 9, .int .i64 a, .int .i64 b]] w fun e w' => e = .returned (.bool (rightB m f ⟨9, a, b⟩)) ∧ Below w.heap.size w w' := by
  have hfs : w.cell? ⟨fb, fo + 2, none⟩ = some (.int .i64 f.slots) := hf 2 _ rfl
  have d0 := alloc_cell hfs
  clear _hm _hi hf _hfi
  have hbs : b < 0 ∨ (0 ≤ b ∧ b ≤ 50) ∨ 50 < b := by omega
  have has : a < 0 ∨ (0 ≤ a ∧ a < f.slots) ∨ (0 ≤ a ∧ f.slots ≤ a) := by omega
  rcases has with h0 | ⟨h0, h1⟩ | ⟨h0, h1⟩
  · have hd0 : decide (0 ≤ a) = false := by simp; omega
    rcases hbs with hb | ⟨hb, hb'⟩ | hb
    · have hb0 : decide (0 ≤ b) = false := by simp; omega
      have hres : rightB m f ⟨9, a, b⟩ = false := by simp [rightB, CodeR.within] <;> omega
      rw [hres]
      go_enter Tryd.func81, Tryd.ntmps81
      go_wp2
      go_quiet (fail)
      go_wp2
      go_ret
      exact ⟨by first | rfl | simp [hres] | (simp; omega), by first | exact below_alloc (Below.refl _ _) _ (Nat.le_refl _) | exact below_drewN (below_alloc (Below.refl _ _) _ (Nat.le_refl _)) _⟩
    · have hb0 : decide (0 ≤ b) = true := by simp; omega
      have hb1 : decide (b ≤ 50) = true := by simp; omega
      have hres : rightB m f ⟨9, a, b⟩ = false := by simp [rightB, CodeR.within] <;> omega
      rw [hres]
      go_enter Tryd.func81, Tryd.ntmps81
      go_wp2
      go_quiet (fail)
      go_wp2
      go_ret
      exact ⟨by first | rfl | simp [hres] | (simp; omega), by first | exact below_alloc (Below.refl _ _) _ (Nat.le_refl _) | exact below_drewN (below_alloc (Below.refl _ _) _ (Nat.le_refl _)) _⟩
    · have hb0 : decide (0 ≤ b) = true := by simp; omega
      have hb1 : decide (b ≤ 50) = false := by simp; omega
      have hres : rightB m f ⟨9, a, b⟩ = false := by simp [rightB, CodeR.within] <;> omega
      rw [hres]
      go_enter Tryd.func81, Tryd.ntmps81
      go_wp2
      go_quiet (fail)
      go_wp2
      go_ret
      exact ⟨by first | rfl | simp [hres] | (simp; omega), by first | exact below_alloc (Below.refl _ _) _ (Nat.le_refl _) | exact below_drewN (below_alloc (Below.refl _ _) _ (Nat.le_refl _)) _⟩
  · have hd0 : decide (0 ≤ a) = true := by simp; omega
    have hd1 : decide (a < f.slots) = true := by simp; omega
    rcases hbs with hb | ⟨hb, hb'⟩ | hb
    · have hb0 : decide (0 ≤ b) = false := by simp; omega
      have hres : rightB m f ⟨9, a, b⟩ = true := by simp [rightB, CodeR.within] <;> omega
      rw [hres]
      go_enter Tryd.func81, Tryd.ntmps81
      go_wp2
      go_quiet (fail)
      go_wp2
      go_ret
      exact ⟨by first | rfl | simp [hres] | (simp; omega), by first | exact below_alloc (Below.refl _ _) _ (Nat.le_refl _) | exact below_drewN (below_alloc (Below.refl _ _) _ (Nat.le_refl _)) _⟩
    · have hb0 : decide (0 ≤ b) = true := by simp; omega
      have hb1 : decide (b ≤ 50) = true := by simp; omega
      have hres : rightB m f ⟨9, a, b⟩ = true := by simp [rightB, CodeR.within] <;> omega
      rw [hres]
      go_enter Tryd.func81, Tryd.ntmps81
      go_wp2
      go_quiet (fail)
      go_wp2
      go_ret
      exact ⟨by first | rfl | simp [hres] | (simp; omega), by first | exact below_alloc (Below.refl _ _) _ (Nat.le_refl _) | exact below_drewN (below_alloc (Below.refl _ _) _ (Nat.le_refl _)) _⟩
    · have hb0 : decide (0 ≤ b) = true := by simp; omega
      have hb1 : decide (b ≤ 50) = false := by simp; omega
      have hres : rightB m f ⟨9, a, b⟩ = true := by simp [rightB, CodeR.within] <;> omega
      rw [hres]
      go_enter Tryd.func81, Tryd.ntmps81
      go_wp2
      go_quiet (fail)
      go_wp2
      go_ret
      exact ⟨by first | rfl | simp [hres] | (simp; omega), by first | exact below_alloc (Below.refl _ _) _ (Nat.le_refl _) | exact below_drewN (below_alloc (Below.refl _ _) _ (Nat.le_refl _)) _⟩
  · have hd0 : decide (0 ≤ a) = true := by simp; omega
    have hd1 : decide (a < f.slots) = false := by simp; omega
    rcases hbs with hb | ⟨hb, hb'⟩ | hb
    · have hb0 : decide (0 ≤ b) = false := by simp; omega
      have hres : rightB m f ⟨9, a, b⟩ = false := by simp [rightB, CodeR.within] <;> omega
      rw [hres]
      go_enter Tryd.func81, Tryd.ntmps81
      go_wp2
      go_quiet (fail)
      go_wp2
      go_ret
      exact ⟨by first | rfl | simp [hres] | (simp; omega), by first | exact below_alloc (Below.refl _ _) _ (Nat.le_refl _) | exact below_drewN (below_alloc (Below.refl _ _) _ (Nat.le_refl _)) _⟩
    · have hb0 : decide (0 ≤ b) = true := by simp; omega
      have hb1 : decide (b ≤ 50) = true := by simp; omega
      have hres : rightB m f ⟨9, a, b⟩ = false := by simp [rightB, CodeR.within] <;> omega
      rw [hres]
      go_enter Tryd.func81, Tryd.ntmps81
      go_wp2
      go_quiet (fail)
      go_wp2
      go_ret
      exact ⟨by first | rfl | simp [hres] | (simp; omega), by first | exact below_alloc (Below.refl _ _) _ (Nat.le_refl _) | exact below_drewN (below_alloc (Below.refl _ _) _ (Nat.le_refl _)) _⟩
    · have hb0 : decide (0 ≤ b) = true := by simp; omega
      have hb1 : decide (b ≤ 50) = false := by simp; omega
      have hres : rightB m f ⟨9, a, b⟩ = false := by simp [rightB, CodeR.within] <;> omega
      rw [hres]
      go_enter Tryd.func81, Tryd.ntmps81
      go_wp2
      go_quiet (fail)
      go_wp2
      go_ret
      exact ⟨by first | rfl | simp [hres] | (simp; omega), by first | exact below_alloc (Below.refl _ _) _ (Nat.le_refl _) | exact below_drewN (below_alloc (Below.refl _ _) _ (Nat.le_refl _)) _⟩

set_option maxRecDepth 100000 in
set_option maxHeartbeats 4000000 in
theorem right_10 (mb mo fb fo : Nat) (m : Im) (f : Fc) (a b : Int) (w : World) (_hm : Row w mb mo m.vals) (_hi : ImIn w m) (hf : Row w fb fo f.vals) (_hfi : FcIn w f) :
    Calls Tryd.prog 81 #[.pointer (some ⟨mb, mo, none⟩), .pointer (some ⟨fb, fo, none⟩), .agg #[.int .i64 10, .int .i64 a, .int .i64 b]] w fun e w' => e = .returned (.bool (rightB m f ⟨10, a, b⟩)) ∧ Below w.heap.size w w' := by
  have hfs : w.cell? ⟨fb, fo + 2, none⟩ = some (.int .i64 f.slots) := hf 2 _ rfl
  have d0 := alloc_cell hfs
  clear _hm _hi hf _hfi
  have hbs : b < 0 ∨ (0 ≤ b ∧ b ≤ 50) ∨ 50 < b := by omega
  have has : a < 0 ∨ (0 ≤ a ∧ a < f.slots) ∨ (0 ≤ a ∧ f.slots ≤ a) := by omega
  rcases has with h0 | ⟨h0, h1⟩ | ⟨h0, h1⟩
  · have hd0 : decide (0 ≤ a) = false := by simp; omega
    rcases hbs with hb | ⟨hb, hb'⟩ | hb
    · have hb0 : decide (0 ≤ b) = false := by simp; omega
      have hres : rightB m f ⟨10, a, b⟩ = false := by simp [rightB, CodeR.within] <;> omega
      rw [hres]
      go_enter Tryd.func81, Tryd.ntmps81
      go_wp2
      go_quiet (fail)
      go_wp2
      go_ret
      exact ⟨by first | rfl | simp [hres] | (simp; omega), by first | exact below_alloc (Below.refl _ _) _ (Nat.le_refl _) | exact below_drewN (below_alloc (Below.refl _ _) _ (Nat.le_refl _)) _⟩
    · have hb0 : decide (0 ≤ b) = true := by simp; omega
      have hb1 : decide (b ≤ 50) = true := by simp; omega
      have hres : rightB m f ⟨10, a, b⟩ = false := by simp [rightB, CodeR.within] <;> omega
      rw [hres]
      go_enter Tryd.func81, Tryd.ntmps81
      go_wp2
      go_quiet (fail)
      go_wp2
      go_ret
      exact ⟨by first | rfl | simp [hres] | (simp; omega), by first | exact below_alloc (Below.refl _ _) _ (Nat.le_refl _) | exact below_drewN (below_alloc (Below.refl _ _) _ (Nat.le_refl _)) _⟩
    · have hb0 : decide (0 ≤ b) = true := by simp; omega
      have hb1 : decide (b ≤ 50) = false := by simp; omega
      have hres : rightB m f ⟨10, a, b⟩ = false := by simp [rightB, CodeR.within] <;> omega
      rw [hres]
      go_enter Tryd.func81, Tryd.ntmps81
      go_wp2
      go_quiet (fail)
      go_wp2
      go_ret
      exact ⟨by first | rfl | simp [hres] | (simp; omega), by first | exact below_alloc (Below.refl _ _) _ (Nat.le_refl _) | exact below_drewN (below_alloc (Below.refl _ _) _ (Nat.le_refl _)) _⟩
  · have hd0 : decide (0 ≤ a) = true := by simp; omega
    have hd1 : decide (a < f.slots) = true := by simp; omega
    rcases hbs with hb | ⟨hb, hb'⟩ | hb
    · have hb0 : decide (0 ≤ b) = false := by simp; omega
      have hres : rightB m f ⟨10, a, b⟩ = true := by simp [rightB, CodeR.within] <;> omega
      rw [hres]
      go_enter Tryd.func81, Tryd.ntmps81
      go_wp2
      go_quiet (fail)
      go_wp2
      go_ret
      exact ⟨by first | rfl | simp [hres] | (simp; omega), by first | exact below_alloc (Below.refl _ _) _ (Nat.le_refl _) | exact below_drewN (below_alloc (Below.refl _ _) _ (Nat.le_refl _)) _⟩
    · have hb0 : decide (0 ≤ b) = true := by simp; omega
      have hb1 : decide (b ≤ 50) = true := by simp; omega
      have hres : rightB m f ⟨10, a, b⟩ = true := by simp [rightB, CodeR.within] <;> omega
      rw [hres]
      go_enter Tryd.func81, Tryd.ntmps81
      go_wp2
      go_quiet (fail)
      go_wp2
      go_ret
      exact ⟨by first | rfl | simp [hres] | (simp; omega), by first | exact below_alloc (Below.refl _ _) _ (Nat.le_refl _) | exact below_drewN (below_alloc (Below.refl _ _) _ (Nat.le_refl _)) _⟩
    · have hb0 : decide (0 ≤ b) = true := by simp; omega
      have hb1 : decide (b ≤ 50) = false := by simp; omega
      have hres : rightB m f ⟨10, a, b⟩ = true := by simp [rightB, CodeR.within] <;> omega
      rw [hres]
      go_enter Tryd.func81, Tryd.ntmps81
      go_wp2
      go_quiet (fail)
      go_wp2
      go_ret
      exact ⟨by first | rfl | simp [hres] | (simp; omega), by first | exact below_alloc (Below.refl _ _) _ (Nat.le_refl _) | exact below_drewN (below_alloc (Below.refl _ _) _ (Nat.le_refl _)) _⟩
  · have hd0 : decide (0 ≤ a) = true := by simp; omega
    have hd1 : decide (a < f.slots) = false := by simp; omega
    rcases hbs with hb | ⟨hb, hb'⟩ | hb
    · have hb0 : decide (0 ≤ b) = false := by simp; omega
      have hres : rightB m f ⟨10, a, b⟩ = false := by simp [rightB, CodeR.within] <;> omega
      rw [hres]
      go_enter Tryd.func81, Tryd.ntmps81
      go_wp2
      go_quiet (fail)
      go_wp2
      go_ret
      exact ⟨by first | rfl | simp [hres] | (simp; omega), by first | exact below_alloc (Below.refl _ _) _ (Nat.le_refl _) | exact below_drewN (below_alloc (Below.refl _ _) _ (Nat.le_refl _)) _⟩
    · have hb0 : decide (0 ≤ b) = true := by simp; omega
      have hb1 : decide (b ≤ 50) = true := by simp; omega
      have hres : rightB m f ⟨10, a, b⟩ = false := by simp [rightB, CodeR.within] <;> omega
      rw [hres]
      go_enter Tryd.func81, Tryd.ntmps81
      go_wp2
      go_quiet (fail)
      go_wp2
      go_ret
      exact ⟨by first | rfl | simp [hres] | (simp; omega), by first | exact below_alloc (Below.refl _ _) _ (Nat.le_refl _) | exact below_drewN (below_alloc (Below.refl _ _) _ (Nat.le_refl _)) _⟩
    · have hb0 : decide (0 ≤ b) = true := by simp; omega
      have hb1 : decide (b ≤ 50) = false := by simp; omega
      have hres : rightB m f ⟨10, a, b⟩ = false := by simp [rightB, CodeR.within] <;> omega
      rw [hres]
      go_enter Tryd.func81, Tryd.ntmps81
      go_wp2
      go_quiet (fail)
      go_wp2
      go_ret
      exact ⟨by first | rfl | simp [hres] | (simp; omega), by first | exact below_alloc (Below.refl _ _) _ (Nat.le_refl _) | exact below_drewN (below_alloc (Below.refl _ _) _ (Nat.le_refl _)) _⟩

end Go.Proofs.YthbkklnahhdgcaaDoor.CodeC1
