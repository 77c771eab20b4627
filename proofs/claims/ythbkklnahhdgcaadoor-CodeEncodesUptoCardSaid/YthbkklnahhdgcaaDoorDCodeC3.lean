/-
  The contract of package code's right: is what an instruction names there? (an operation each)
-/
import Derived.Test.YthbkklnahhdgcaaDoorDMC
namespace Go.Proofs.YthbkklnahhdgcaaDoor.CodeC3
open Go Go.Proofs Go.RowKit Lib CodeR CodeA CodeB

set_option maxRecDepth 100000 in
set_option maxHeartbeats 4000000 in
theorem right_25 (mb mo fb fo : Nat) (m : Im) (f : Fc) (a b : Int) (w : World) (_hm : Row w mb mo m.vals) (_hi : ImIn w m) (_hf : Row w fb fo f.vals) (_hfi : FcIn w f) :
    Calls Tryd.prog 81 #[.pointer (some ⟨mb, mo, none⟩), .pointer (some ⟨fb, fo, none⟩), .agg #[.int .i64 25, .int .i64 a, .int .i64 b]] w fun e w' => e = .returned (.bool (rightB m f ⟨25, a, b⟩)) ∧ Below w.heap.size w w' := by
  clear _hm _hi _hf _hfi
  have hbs : b < 0 ∨ (0 ≤ b ∧ b ≤ 50) ∨ 50 < b := by omega
  rcases hbs with hb | ⟨hb, hb'⟩ | hb
  · have hb0 : decide (0 ≤ b) = false := by simp; omega
    have hres : rightB m f ⟨25, a, b⟩ = true := by simp [rightB, CodeR.within] <;> omega
    rw [hres]
    go_enter Tryd.func81, Tryd.ntmps81
    go_wp2
    go_ret
    exact ⟨by first | rfl | simp [hres] | (simp; omega), by first | exact below_alloc (Below.refl _ _) _ (Nat.le_refl _) | exact below_drewN (below_alloc (Below.refl _ _) _ (Nat.le_refl _)) _⟩
  · have hb0 : decide (0 ≤ b) = true := by simp; omega
    have hb1 : decide (b ≤ 50) = true := by simp; omega
    have hres : rightB m f ⟨25, a, b⟩ = true := by simp [rightB, CodeR.within] <;> omega
    rw [hres]
    go_enter Tryd.func81, Tryd.ntmps81
    go_wp2
    go_ret
    exact ⟨by first | rfl | simp [hres] | (simp; omega), by first | exact below_alloc (Below.refl _ _) _ (Nat.le_refl _) | exact below_drewN (below_alloc (Below.refl _ _) _ (Nat.le_refl _)) _⟩
  · have hb0 : decide (0 ≤ b) = true := by simp; omega
    have hb1 : decide (b ≤ 50) = false := by simp; omega
    have hres : rightB m f ⟨25, a, b⟩ = true := by simp [rightB, CodeR.within] <;> omega
    rw [hres]
    go_enter Tryd.func81, Tryd.ntmps81
    go_wp2
    go_ret
    exact ⟨by first | rfl | simp [hres] | (simp; omega), by first | exact below_alloc (Below.refl _ _) _ (Nat.le_refl _) | exact below_drewN (below_alloc (Below.refl _ _) _ (Nat.le_refl _)) _⟩

set_option maxRecDepth 100000 in
set_option maxHeartbeats 4000000 in
theorem right_26 (mb mo fb fo : Nat) (m : Im) (f : Fc) (a b : Int) (w : World) (_hm : Row w mb mo m.vals) (_hi : ImIn w m) (_hf : Row w fb fo f.vals) (_hfi : FcIn w f) :
    Calls Tryd.prog 81 #[.pointer (some ⟨mb, mo, none⟩), .pointer (some ⟨fb, fo, none⟩), .agg #[.int .i64 26, .int .i64 a, .int .i64 b]] w fun e w' => e = .returned (.bool (rightB m f ⟨26, a, b⟩)) ∧ Below w.heap.size w w' := by
  clear _hm _hi _hf _hfi
  have hbs : b < 0 ∨ (0 ≤ b ∧ b ≤ 50) ∨ 50 < b := by omega
  rcases hbs with hb | ⟨hb, hb'⟩ | hb
  · have hb0 : decide (0 ≤ b) = false := by simp; omega
    have hres : rightB m f ⟨26, a, b⟩ = true := by simp [rightB, CodeR.within] <;> omega
    rw [hres]
    go_enter Tryd.func81, Tryd.ntmps81
    go_wp2
    go_ret
    exact ⟨by first | rfl | simp [hres] | (simp; omega), by first | exact below_alloc (Below.refl _ _) _ (Nat.le_refl _) | exact below_drewN (below_alloc (Below.refl _ _) _ (Nat.le_refl _)) _⟩
  · have hb0 : decide (0 ≤ b) = true := by simp; omega
    have hb1 : decide (b ≤ 50) = true := by simp; omega
    have hres : rightB m f ⟨26, a, b⟩ = true := by simp [rightB, CodeR.within] <;> omega
    rw [hres]
    go_enter Tryd.func81, Tryd.ntmps81
    go_wp2
    go_ret
    exact ⟨by first | rfl | simp [hres] | (simp; omega), by first | exact below_alloc (Below.refl _ _) _ (Nat.le_refl _) | exact below_drewN (below_alloc (Below.refl _ _) _ (Nat.le_refl _)) _⟩
  · have hb0 : decide (0 ≤ b) = true := by simp; omega
    have hb1 : decide (b ≤ 50) = false := by simp; omega
    have hres : rightB m f ⟨26, a, b⟩ = true := by simp [rightB, CodeR.within] <;> omega
    rw [hres]
    go_enter Tryd.func81, Tryd.ntmps81
    go_wp2
    go_ret
    exact ⟨by first | rfl | simp [hres] | (simp; omega), by first | exact below_alloc (Below.refl _ _) _ (Nat.le_refl _) | exact below_drewN (below_alloc (Below.refl _ _) _ (Nat.le_refl _)) _⟩

set_option maxRecDepth 100000 in
set_option maxHeartbeats 4000000 in
theorem right_27 (mb mo fb fo : Nat) (m : Im) (f : Fc) (a b : Int) (w : World) (_hm : Row w mb mo m.vals) (_hi : ImIn w m) (_hf : Row w fb fo f.vals) (_hfi : FcIn w f) :
    Calls Tryd.prog 81 #[.pointer (some ⟨mb, mo, none⟩), .pointer (some ⟨fb, fo, none⟩), .agg #[.int .i64 27, .int .i64 a, .int .i64 b]] w fun e w' => e = .returned (.bool (rightB m f ⟨27, a, b⟩)) ∧ Below w.heap.size w w' := by
  clear _hm _hi _hf _hfi
  have hbs : b < 0 ∨ (0 ≤ b ∧ b ≤ 50) ∨ 50 < b := by omega
  rcases hbs with hb | ⟨hb, hb'⟩ | hb
  · have hb0 : decide (0 ≤ b) = false := by simp; omega
    have hres : rightB m f ⟨27, a, b⟩ = true := by simp [rightB, CodeR.within] <;> omega
    rw [hres]
    go_enter Tryd.func81, Tryd.ntmps81
    go_wp2
    go_ret
    exact ⟨by first | rfl | simp [hres] | (simp; omega), by first | exact below_alloc (Below.refl _ _) _ (Nat.le_refl _) | exact below_drewN (below_alloc (Below.refl _ _) _ (Nat.le_refl _)) _⟩
  · have hb0 : decide (0 ≤ b) = true := by simp; omega
    have hb1 : decide (b ≤ 50) = true := by simp; omega
    have hres : rightB m f ⟨27, a, b⟩ = true := by simp [rightB, CodeR.within] <;> omega
    rw [hres]
    go_enter Tryd.func81, Tryd.ntmps81
    go_wp2
    go_ret
    exact ⟨by first | rfl | simp [hres] | (simp; omega), by first | exact below_alloc (Below.refl _ _) _ (Nat.le_refl _) | exact below_drewN (below_alloc (Below.refl _ _) _ (Nat.le_refl _)) _⟩
  · have hb0 : decide (0 ≤ b) = true := by simp; omega
    have hb1 : decide (b ≤ 50) = false := by simp; omega
    have hres : rightB m f ⟨27, a, b⟩ = true := by simp [rightB, CodeR.within] <;> omega
    rw [hres]
    go_enter Tryd.func81, Tryd.ntmps81
    go_wp2
    go_ret
    exact ⟨by first | rfl | simp [hres] | (simp; omega), by first | exact below_alloc (Below.refl _ _) _ (Nat.le_refl _) | exact below_drewN (below_alloc (Below.refl _ _) _ (Nat.le_refl _)) _⟩

set_option maxRecDepth 100000 in
set_option maxHeartbeats 4000000 in
theorem right_28 (mb mo fb fo : Nat) (m : Im) (f : Fc) (a b : Int) (w : World) (_hm : Row w mb mo m.vals) (_hi : ImIn w m) (_hf : Row w fb fo f.vals) (_hfi : FcIn w f) :
    Calls Tryd.prog 81 #[.pointer (some ⟨mb, mo, none⟩), .pointer (some ⟨fb, fo, none⟩), .agg #[.int .i64 28, .int .i64 a, .int .i64 b]] w fun e w' => e = .returned (.bool (rightB m f ⟨28, a, b⟩)) ∧ Below w.heap.size w w' := by
  clear _hm _hi _hf _hfi
  have hbs : b < 0 ∨ (0 ≤ b ∧ b ≤ 50) ∨ 50 < b := by omega
  rcases hbs with hb | ⟨hb, hb'⟩ | hb
  · have hb0 : decide (0 ≤ b) = false := by simp; omega
    have hres : rightB m f ⟨28, a, b⟩ = true := by simp [rightB, CodeR.within] <;> omega
    rw [hres]
    go_enter Tryd.func81, Tryd.ntmps81
    go_wp2
    go_ret
    exact ⟨by first | rfl | simp [hres] | (simp; omega), by first | exact below_alloc (Below.refl _ _) _ (Nat.le_refl _) | exact below_drewN (below_alloc (Below.refl _ _) _ (Nat.le_refl _)) _⟩
  · have hb0 : decide (0 ≤ b) = true := by simp; omega
    have hb1 : decide (b ≤ 50) = true := by simp; omega
    have hres : rightB m f ⟨28, a, b⟩ = true := by simp [rightB, CodeR.within] <;> omega
    rw [hres]
    go_enter Tryd.func81, Tryd.ntmps81
    go_wp2
    go_ret
    exact ⟨by first | rfl | simp [hres] | (simp; omega), by first | exact below_alloc (Below.refl _ _) _ (Nat.le_refl _) | exact below_drewN (below_alloc (Below.refl _ _) _ (Nat.le_refl _)) _⟩
  · have hb0 : decide (0 ≤ b) = true := by simp; omega
    have hb1 : decide (b ≤ 50) = false := by simp; omega
    have hres : rightB m f ⟨28, a, b⟩ = true := by simp [rightB, CodeR.within] <;> omega
    rw [hres]
    go_enter Tryd.func81, Tryd.ntmps81
    go_wp2
    go_ret
    exact ⟨by first | rfl | simp [hres] | (simp; omega), by first | exact below_alloc (Below.refl _ _) _ (Nat.le_refl _) | exact below_drewN (below_alloc (Below.refl _ _) _ (Nat.le_refl _)) _⟩

set_option maxRecDepth 100000 in
set_option maxHeartbeats 4000000 in
theorem right_29 (mb mo fb fo : Nat) (m : Im) (f : Fc) (a b : Int) (w : World) (_hm : Row w mb mo m.vals) (_hi : ImIn w m) (_hf : Row w fb fo f.vals) (_hfi : FcIn w f) :
    Calls Tryd.prog 81 #[.pointer (some ⟨mb, mo, none⟩), .pointer (some ⟨fb, fo, none⟩), .agg #[.int .i64 29, .int .i64 a, .int .i64 b]] w fun e w' => e = .returned (.bool (rightB m f ⟨29, a, b⟩)) ∧ Below w.heap.size w w' := by
  clear _hm _hi _hf _hfi
  have hbs : b < 0 ∨ (0 ≤ b ∧ b ≤ 50) ∨ 50 < b := by omega
  have has : a < 0 ∨ (0 ≤ a ∧ a ≤ 50) ∨ 50 < a := by omega
  rcases has with h0 | ⟨h0, h1⟩ | h0
  · have hd0 : decide (0 ≤ a) = false := by simp; omega
    rcases hbs with hb | ⟨hb, hb'⟩ | hb
    · have hb0 : decide (0 ≤ b) = false := by simp; omega
      have hres : rightB m f ⟨29, a, b⟩ = false := by simp [rightB, CodeR.within] <;> omega
      rw [hres]
      go_enter Tryd.func81, Tryd.ntmps81
      go_wp2
      go_ret
      exact ⟨by first | rfl | simp [hres] | (simp; omega), by first | exact below_alloc (Below.refl _ _) _ (Nat.le_refl _) | exact below_drewN (below_alloc (Below.refl _ _) _ (Nat.le_refl _)) _⟩
    · have hb0 : decide (0 ≤ b) = true := by simp; omega
      have hb1 : decide (b ≤ 50) = true := by simp; omega
      have hres : rightB m f ⟨29, a, b⟩ = false := by simp [rightB, CodeR.within] <;> omega
      rw [hres]
      go_enter Tryd.func81, Tryd.ntmps81
      go_wp2
      go_ret
      exact ⟨by first | rfl | simp [hres] | (simp; omega), by first | exact below_alloc (Below.refl _ _) _ (Nat.le_refl _) | exact below_drewN (below_alloc (Below.refl _ _) _ (Nat.le_refl _)) _⟩
    · have hb0 : decide (0 ≤ b) = true := by simp; omega
      have hb1 : decide (b ≤ 50) = false := by simp; omega
      have hres : rightB m f ⟨29, a, b⟩ = false := by simp [rightB, CodeR.within] <;> omega
      rw [hres]
      go_enter Tryd.func81, Tryd.ntmps81
      go_wp2
      go_ret
      exact ⟨by first | rfl | simp [hres] | (simp; omega), by first | exact below_alloc (Below.refl _ _) _ (Nat.le_refl _) | exact below_drewN (below_alloc (Below.refl _ _) _ (Nat.le_refl _)) _⟩
  · have hd0 : decide (0 ≤ a) = true := by simp; omega
    have hd1 : decide (a ≤ 50) = true := by simp; omega
    rcases hbs with hb | ⟨hb, hb'⟩ | hb
    · have hb0 : decide (0 ≤ b) = false := by simp; omega
      have hres : rightB m f ⟨29, a, b⟩ = true := by simp [rightB, CodeR.within] <;> omega
      rw [hres]
      go_enter Tryd.func81, Tryd.ntmps81
      go_wp2
      go_ret
      exact ⟨by first | rfl | simp [hres] | (simp; omega), by first | exact below_alloc (Below.refl _ _) _ (Nat.le_refl _) | exact below_drewN (below_alloc (Below.refl _ _) _ (Nat.le_refl _)) _⟩
    · have hb0 : decide (0 ≤ b) = true := by simp; omega
      have hb1 : decide (b ≤ 50) = true := by simp; omega
      have hres : rightB m f ⟨29, a, b⟩ = true := by simp [rightB, CodeR.within] <;> omega
      rw [hres]
      go_enter Tryd.func81, Tryd.ntmps81
      go_wp2
      go_ret
      exact ⟨by first | rfl | simp [hres] | (simp; omega), by first | exact below_alloc (Below.refl _ _) _ (Nat.le_refl _) | exact below_drewN (below_alloc (Below.refl _ _) _ (Nat.le_refl _)) _⟩
    · have hb0 : decide (0 ≤ b) = true := by simp; omega
      have hb1 : decide (b ≤ 50) = false := by simp; omega
      have hres : rightB m f ⟨29, a, b⟩ = true := by simp [rightB, CodeR.within] <;> omega
      rw [hres]
      go_enter Tryd.func81, Tryd.ntmps81
      go_wp2
      go_ret
      exact ⟨by first | rfl | simp [hres] | (simp; omega), by first | exact below_alloc (Below.refl _ _) _ (Nat.le_refl _) | exact below_drewN (below_alloc (Below.refl _ _) _ (Nat.le_refl _)) _⟩
  · have hd0 : decide (0 ≤ a) = true := by simp; omega
    have hd1 : decide (a ≤ 50) = false := by simp; omega
    rcases hbs with hb | ⟨hb, hb'⟩ | hb
    · have hb0 : decide (0 ≤ b) = false := by simp; omega
      have hres : rightB m f ⟨29, a, b⟩ = false := by simp [rightB, CodeR.within] <;> omega
      rw [hres]
      go_enter Tryd.func81, Tryd.ntmps81
      go_wp2
      go_ret
      exact ⟨by first | rfl | simp [hres] | (simp; omega), by first | exact below_alloc (Below.refl _ _) _ (Nat.le_refl _) | exact below_drewN (below_alloc (Below.refl _ _) _ (Nat.le_refl _)) _⟩
    · have hb0 : decide (0 ≤ b) = true := by simp; omega
      have hb1 : decide (b ≤ 50) = true := by simp; omega
      have hres : rightB m f ⟨29, a, b⟩ = false := by simp [rightB, CodeR.within] <;> omega
      rw [hres]
      go_enter Tryd.func81, Tryd.ntmps81
      go_wp2
      go_ret
      exact ⟨by first | rfl | simp [hres] | (simp; omega), by first | exact below_alloc (Below.refl _ _) _ (Nat.le_refl _) | exact below_drewN (below_alloc (Below.refl _ _) _ (Nat.le_refl _)) _⟩
    · have hb0 : decide (0 ≤ b) = true := by simp; omega
      have hb1 : decide (b ≤ 50) = false := by simp; omega
      have hres : rightB m f ⟨29, a, b⟩ = false := by simp [rightB, CodeR.within] <;> omega
      rw [hres]
      go_enter Tryd.func81, Tryd.ntmps81
      go_wp2
      go_ret
      exact ⟨by first | rfl | simp [hres] | (simp; omega), by first | exact below_alloc (Below.refl _ _) _ (Nat.le_refl _) | exact below_drewN (below_alloc (Below.refl _ _) _ (Nat.le_refl _)) _⟩

set_option maxRecDepth 100000 in
set_option maxHeartbeats 4000000 in
theorem right_30 (mb mo fb fo : Nat) (m : Im) (f : Fc) (a b : Int) (w : World) (_hm : Row w mb mo m.vals) (_hi : ImIn w m) (_hf : Row w fb fo f.vals) (_hfi : FcIn w f) :
    Calls Tryd.prog 81 #[.pointer (some ⟨mb, mo, none⟩), .pointer (some ⟨fb, fo, none⟩), .agg #[.int .i64 30, .int .i64 a, .int .i64 b]] w fun e w' => e = .returned (.bool (rightB m f ⟨30, a, b⟩)) ∧ Below w.heap.size w w' := by
  clear _hm _hi _hf _hfi
  have hbs : b < 0 ∨ (0 ≤ b ∧ b ≤ 50) ∨ 50 < b := by omega
  rcases hbs with hb | ⟨hb, hb'⟩ | hb
  · have hb0 : decide (0 ≤ b) = false := by simp; omega
    have hres : rightB m f ⟨30, a, b⟩ = true := by simp [rightB, CodeR.within] <;> omega
    rw [hres]
    go_enter Tryd.func81, Tryd.ntmps81
    go_wp2
    go_ret
    exact ⟨by first | rfl | simp [hres] | (simp; omega), by first | exact below_alloc (Below.refl _ _) _ (Nat.le_refl _) | exact below_drewN (below_alloc (Below.refl _ _) _ (Nat.le_refl _)) _⟩
  · have hb0 : decide (0 ≤ b) = true := by simp; omega
    have hb1 : decide (b ≤ 50) = true := by simp; omega
    have hres : rightB m f ⟨30, a, b⟩ = true := by simp [rightB, CodeR.within] <;> omega
    rw [hres]
    go_enter Tryd.func81, Tryd.ntmps81
    go_wp2
    go_ret
    exact ⟨by first | rfl | simp [hres] | (simp; omega), by first | exact below_alloc (Below.refl _ _) _ (Nat.le_refl _) | exact below_drewN (below_alloc (Below.refl _ _) _ (Nat.le_refl _)) _⟩
  · have hb0 : decide (0 ≤ b) = true := by simp; omega
    have hb1 : decide (b ≤ 50) = false := by simp; omega
    have hres : rightB m f ⟨30, a, b⟩ = true := by simp [rightB, CodeR.within] <;> omega
    rw [hres]
    go_enter Tryd.func81, Tryd.ntmps81
    go_wp2
    go_ret
    exact ⟨by first | rfl | simp [hres] | (simp; omega), by first | exact below_alloc (Below.refl _ _) _ (Nat.le_refl _) | exact below_drewN (below_alloc (Below.refl _ _) _ (Nat.le_refl _)) _⟩

set_option maxRecDepth 100000 in
set_option maxHeartbeats 4000000 in
theorem right_31 (mb mo fb fo : Nat) (m : Im) (f : Fc) (a b : Int) (w : World) (_hm : Row w mb mo m.vals) (_hi : ImIn w m) (_hf : Row w fb fo f.vals) (_hfi : FcIn w f) :
    Calls Tryd.prog 81 #[.pointer (some ⟨mb, mo, none⟩), .pointer (some ⟨fb, fo, none⟩), .agg #[.int .i64 31, .int .i64 a, .int .i64 b]] w fun e w' => e = .returned (.bool (rightB m f ⟨31, a, b⟩)) ∧ Below w.heap.size w w' := by
  clear _hm _hi _hf _hfi
  have hbs : b < 0 ∨ (0 ≤ b ∧ b ≤ 50) ∨ 50 < b := by omega
  rcases hbs with hb | ⟨hb, hb'⟩ | hb
  · have hb0 : decide (0 ≤ b) = false := by simp; omega
    have hres : rightB m f ⟨31, a, b⟩ = true := by simp [rightB, CodeR.within] <;> omega
    rw [hres]
    go_enter Tryd.func81, Tryd.ntmps81
    go_wp2
    go_ret
    exact ⟨by first | rfl | simp [hres] | (simp; omega), by first | exact below_alloc (Below.refl _ _) _ (Nat.le_refl _) | exact below_drewN (below_alloc (Below.refl _ _) _ (Nat.le_refl _)) _⟩
  · have hb0 : decide (0 ≤ b) = true := by simp; omega
    have hb1 : decide (b ≤ 50) = true := by simp; omega
    have hres : rightB m f ⟨31, a, b⟩ = true := by simp [rightB, CodeR.within] <;> omega
    rw [hres]
    go_enter Tryd.func81, Tryd.ntmps81
    go_wp2
    go_ret
    exact ⟨by first | rfl | simp [hres] | (simp; omega), by first | exact below_alloc (Below.refl _ _) _ (Nat.le_refl _) | exact below_drewN (below_alloc (Below.refl _ _) _ (Nat.le_refl _)) _⟩
  · have hb0 : decide (0 ≤ b) = true := by simp; omega
    have hb1 : decide (b ≤ 50) = false := by simp; omega
    have hres : rightB m f ⟨31, a, b⟩ = true := by simp [rightB, CodeR.within] <;> omega
    rw [hres]
    go_enter Tryd.func81, Tryd.ntmps81
    go_wp2
    go_ret
    exact ⟨by first | rfl | simp [hres] | (simp; omega), by first | exact below_alloc (Below.refl _ _) _ (Nat.le_refl _) | exact below_drewN (below_alloc (Below.refl _ _) _ (Nat.le_refl _)) _⟩

set_option maxRecDepth 100000 in
set_option maxHeartbeats 4000000 in
theorem right_32 (mb mo fb fo : Nat) (m : Im) (f : Fc) (a b : Int) (w : World) (hm : Row w mb mo m.vals) (hi : ImIn w m) (_hf : Row w fb fo f.vals) (_hfi : FcIn w f) :
    Calls Tryd.prog 81 #[.pointer (some ⟨mb, mo, none⟩), .pointer (some ⟨fb, fo, none⟩), .agg #[.int .i64 32, .int .i64 a, .int .i64 b]] w fun e w' => e = .returned (.bool (rightB m f ⟨32, a, b⟩)) ∧ Below w.heap.size w w' := by
  have hT : ∀ ob, Calls Tryd.prog 100 #[.pointer (some ⟨mb, mo, none⟩), .int .i64 a] (w.alloc ob) fun e w' => e = .returned (.bool (m.textB a)) ∧ w' = w.alloc ob :=
    fun ob => text_any mb mo m a _ (hm.below (below_alloc (Below.refl w.heap.size w) ob (Nat.le_refl _)) (Nat.le_refl _)) (hi.below (below_alloc (Below.refl w.heap.size w) ob (Nat.le_refl _)) (Nat.le_refl _))
  clear hm hi _hf _hfi
  have hbs : b < 0 ∨ (0 ≤ b ∧ b ≤ 50) ∨ 50 < b := by omega
  rcases ht : m.textB a with _ | _
  · rw [ht] at hT
    rcases hbs with hb | ⟨hb, hb'⟩ | hb
    · have hb0 : decide (0 ≤ b) = false := by simp; omega
      have hres : rightB m f ⟨32, a, b⟩ = false := by simp [rightB, ht] <;> omega
      rw [hres]
      go_enter Tryd.func81, Tryd.ntmps81
      go_wp2_with (go_at_call 100; refine (hT _).mono ?_; rintro e w' ⟨rfl, rfl⟩)
      go_ret
      exact ⟨by first | rfl | simp [hres] | (simp; omega), by first | exact below_alloc (Below.refl _ _) _ (Nat.le_refl _) | exact below_drewN (below_alloc (Below.refl _ _) _ (Nat.le_refl _)) _⟩
    · have hb0 : decide (0 ≤ b) = true := by simp; omega
      have hb1 : decide (b ≤ 50) = true := by simp; omega
      have hres : rightB m f ⟨32, a, b⟩ = false := by simp [rightB, ht] <;> omega
      rw [hres]
      go_enter Tryd.func81, Tryd.ntmps81
      go_wp2_with (go_at_call 100; refine (hT _).mono ?_; rintro e w' ⟨rfl, rfl⟩)
      go_ret
      exact ⟨by first | rfl | simp [hres] | (simp; omega), by first | exact below_alloc (Below.refl _ _) _ (Nat.le_refl _) | exact below_drewN (below_alloc (Below.refl _ _) _ (Nat.le_refl _)) _⟩
    · have hb0 : decide (0 ≤ b) = true := by simp; omega
      have hb1 : decide (b ≤ 50) = false := by simp; omega
      have hres : rightB m f ⟨32, a, b⟩ = false := by simp [rightB, ht] <;> omega
      rw [hres]
      go_enter Tryd.func81, Tryd.ntmps81
      go_wp2_with (go_at_call 100; refine (hT _).mono ?_; rintro e w' ⟨rfl, rfl⟩)
      go_ret
      exact ⟨by first | rfl | simp [hres] | (simp; omega), by first | exact below_alloc (Below.refl _ _) _ (Nat.le_refl _) | exact below_drewN (below_alloc (Below.refl _ _) _ (Nat.le_refl _)) _⟩
  · rw [ht] at hT
    rcases hbs with hb | ⟨hb, hb'⟩ | hb
    · have hb0 : decide (0 ≤ b) = false := by simp; omega
      have hres : rightB m f ⟨32, a, b⟩ = true := by simp [rightB, ht] <;> omega
      rw [hres]
      go_enter Tryd.func81, Tryd.ntmps81
      go_wp2_with (go_at_call 100; refine (hT _).mono ?_; rintro e w' ⟨rfl, rfl⟩)
      go_ret
      exact ⟨by first | rfl | simp [hres] | (simp; omega), by first | exact below_alloc (Below.refl _ _) _ (Nat.le_refl _) | exact below_drewN (below_alloc (Below.refl _ _) _ (Nat.le_refl _)) _⟩
    · have hb0 : decide (0 ≤ b) = true := by simp; omega
      have hb1 : decide (b ≤ 50) = true := by simp; omega
      have hres : rightB m f ⟨32, a, b⟩ = true := by simp [rightB, ht] <;> omega
      rw [hres]
      go_enter Tryd.func81, Tryd.ntmps81
      go_wp2_with (go_at_call 100; refine (hT _).mono ?_; rintro e w' ⟨rfl, rfl⟩)
      go_ret
      exact ⟨by first | rfl | simp [hres] | (simp; omega), by first | exact below_alloc (Below.refl _ _) _ (Nat.le_refl _) | exact below_drewN (below_alloc (Below.refl _ _) _ (Nat.le_refl _)) _⟩
    · have hb0 : decide (0 ≤ b) = true := by simp; omega
      have hb1 : decide (b ≤ 50) = false := by simp; omega
      have hres : rightB m f ⟨32, a, b⟩ = true := by simp [rightB, ht] <;> omega
      rw [hres]
      go_enter Tryd.func81, Tryd.ntmps81
      go_wp2_with (go_at_call 100; refine (hT _).mono ?_; rintro e w' ⟨rfl, rfl⟩)
      go_ret
      exact ⟨by first | rfl | simp [hres] | (simp; omega), by first | exact below_alloc (Below.refl _ _) _ (Nat.le_refl _) | exact below_drewN (below_alloc (Below.refl _ _) _ (Nat.le_refl _)) _⟩

set_option maxRecDepth 100000 in
set_option maxHeartbeats 4000000 in
theorem right_33 (mb mo fb fo : Nat) (m : Im) (f : Fc) (a b : Int) (w : World) (hm : Row w mb mo m.vals) (hi : ImIn w m) (_hf : Row w fb fo f.vals) (_hfi : FcIn w f) :
    Calls Tryd.prog 81 #[.pointer (some ⟨mb, mo, none⟩), .pointer (some ⟨fb, fo, none⟩), .agg #[.int .i64 33, .int .i64 a, .int .i64 b]] w fun e w' => e = .returned (.bool (rightB m f ⟨33, a, b⟩)) ∧ Below w.heap.size w w' := by
  have hT : ∀ ob, Calls Tryd.prog 100 #[.pointer (some ⟨mb, mo, none⟩), .int .i64 a] (w.alloc ob) fun e w' => e = .returned (.bool (m.textB a)) ∧ w' = w.alloc ob :=
    fun ob => text_any mb mo m a _ (hm.below (below_alloc (Below.refl w.heap.size w) ob (Nat.le_refl _)) (Nat.le_refl _)) (hi.below (below_alloc (Below.refl w.heap.size w) ob (Nat.le_refl _)) (Nat.le_refl _))
  clear hm hi _hf _hfi
  have hbs : b < 0 ∨ (0 ≤ b ∧ b ≤ 50) ∨ 50 < b := by omega
  rcases ht : m.textB a with _ | _
  · rw [ht] at hT
    rcases hbs with hb | ⟨hb, hb'⟩ | hb
    · have hb0 : decide (0 ≤ b) = false := by simp; omega
      have hres : rightB m f ⟨33, a, b⟩ = false := by simp [rightB, ht] <;> omega
      rw [hres]
      go_enter Tryd.func81, Tryd.ntmps81
      go_wp2_with (go_at_call 100; refine (hT _).mono ?_; rintro e w' ⟨rfl, rfl⟩)
      go_ret
      exact ⟨by first | rfl | simp [hres] | (simp; omega), by first | exact below_alloc (Below.refl _ _) _ (Nat.le_refl _) | exact below_drewN (below_alloc (Below.refl _ _) _ (Nat.le_refl _)) _⟩
    · have hb0 : decide (0 ≤ b) = true := by simp; omega
      have hb1 : decide (b ≤ 50) = true := by simp; omega
      have hres : rightB m f ⟨33, a, b⟩ = false := by simp [rightB, ht] <;> omega
      rw [hres]
      go_enter Tryd.func81, Tryd.ntmps81
      go_wp2_with (go_at_call 100; refine (hT _).mono ?_; rintro e w' ⟨rfl, rfl⟩)
      go_ret
      exact ⟨by first | rfl | simp [hres] | (simp; omega), by first | exact below_alloc (Below.refl _ _) _ (Nat.le_refl _) | exact below_drewN (below_alloc (Below.refl _ _) _ (Nat.le_refl _)) _⟩
    · have hb0 : decide (0 ≤ b) = true := by simp; omega
      have hb1 : decide (b ≤ 50) = false := by simp; omega
      have hres : rightB m f ⟨33, a, b⟩ = false := by simp [rightB, ht] <;> omega
      rw [hres]
      go_enter Tryd.func81, Tryd.ntmps81
      go_wp2_with (go_at_call 100; refine (hT _).mono ?_; rintro e w' ⟨rfl, rfl⟩)
      go_ret
      exact ⟨by first | rfl | simp [hres] | (simp; omega), by first | exact below_alloc (Below.refl _ _) _ (Nat.le_refl _) | exact below_drewN (below_alloc (Below.refl _ _) _ (Nat.le_refl _)) _⟩
  · rw [ht] at hT
    rcases hbs with hb | ⟨hb, hb'⟩ | hb
    · have hb0 : decide (0 ≤ b) = false := by simp; omega
      have hres : rightB m f ⟨33, a, b⟩ = true := by simp [rightB, ht] <;> omega
      rw [hres]
      go_enter Tryd.func81, Tryd.ntmps81
      go_wp2_with (go_at_call 100; refine (hT _).mono ?_; rintro e w' ⟨rfl, rfl⟩)
      go_ret
      exact ⟨by first | rfl | simp [hres] | (simp; omega), by first | exact below_alloc (Below.refl _ _) _ (Nat.le_refl _) | exact below_drewN (below_alloc (Below.refl _ _) _ (Nat.le_refl _)) _⟩
    · have hb0 : decide (0 ≤ b) = true := by simp; omega
      have hb1 : decide (b ≤ 50) = true := by simp; omega
      have hres : rightB m f ⟨33, a, b⟩ = true := by simp [rightB, ht] <;> omega
      rw [hres]
      go_enter Tryd.func81, Tryd.ntmps81
      go_wp2_with (go_at_call 100; refine (hT _).mono ?_; rintro e w' ⟨rfl, rfl⟩)
      go_ret
      exact ⟨by first | rfl | simp [hres] | (simp; omega), by first | exact below_alloc (Below.refl _ _) _ (Nat.le_refl _) | exact below_drewN (below_alloc (Below.refl _ _) _ (Nat.le_refl _)) _⟩
    · have hb0 : decide (0 ≤ b) = true := by simp; omega
      have hb1 : decide (b ≤ 50) = false := by simp; omega
      have hres : rightB m f ⟨33, a, b⟩ = true := by simp [rightB, ht] <;> omega
      rw [hres]
      go_enter Tryd.func81, Tryd.ntmps81
      go_wp2_with (go_at_call 100; refine (hT _).mono ?_; rintro e w' ⟨rfl, rfl⟩)
      go_ret
      exact ⟨by first | rfl | simp [hres] | (simp; omega), by first | exact below_alloc (Below.refl _ _) _ (Nat.le_refl _) | exact below_drewN (below_alloc (Below.refl _ _) _ (Nat.le_refl _)) _⟩

set_option maxRecDepth 100000 in
set_option maxHeartbeats 4000000 in
theorem right_34 (mb mo fb fo : Nat) (m : Im) (f : Fc) (a b : Int) (w : World) (hm : Row w mb mo m.vals) (hi : ImIn w m) (_hf : Row w fb fo f.vals) (_hfi : FcIn w f) :
    Calls Tryd.prog 81 #[.pointer (some ⟨mb, mo, none⟩), .pointer (some ⟨fb, fo, none⟩), .agg #[.int .i64 34, .int .i64 a, .int .i64 b]] w fun e w' => e = .returned (.bool (rightB m f ⟨34, a, b⟩)) ∧ Below w.heap.size w w' := by
  have hT : ∀ ob, Calls Tryd.prog 100 #[.pointer (some ⟨mb, mo, none⟩), .int .i64 a] (w.alloc ob) fun e w' => e = .returned (.bool (m.textB a)) ∧ w' = w.alloc ob :=
    fun ob => text_any mb mo m a _ (hm.below (below_alloc (Below.refl w.heap.size w) ob (Nat.le_refl _)) (Nat.le_refl _)) (hi.below (below_alloc (Below.refl w.heap.size w) ob (Nat.le_refl _)) (Nat.le_refl _))
  clear hm hi _hf _hfi
  have hbs : b < 0 ∨ (0 ≤ b ∧ b ≤ 50) ∨ 50 < b := by omega
  rcases ht : m.textB a with _ | _
  · rw [ht] at hT
    rcases hbs with hb | ⟨hb, hb'⟩ | hb
    · have hb0 : decide (0 ≤ b) = false := by simp; omega
      have hres : rightB m f ⟨34, a, b⟩ = false := by simp [rightB, CodeR.within, fewB, ht] <;> omega
      rw [hres]
      go_enter Tryd.func81, Tryd.ntmps81
      go_wp2_with (go_at_call 100; refine (hT _).mono ?_; rintro e w' ⟨rfl, rfl⟩)
      go_ret
      exact ⟨by first | rfl | simp [hres] | (simp; omega), by first | exact below_alloc (Below.refl _ _) _ (Nat.le_refl _) | exact below_drewN (below_alloc (Below.refl _ _) _ (Nat.le_refl _)) _⟩
    · have hb0 : decide (0 ≤ b) = true := by simp; omega
      have hb1 : decide (b ≤ 50) = true := by simp; omega
      have hres : rightB m f ⟨34, a, b⟩ = false := by simp [rightB, CodeR.within, fewB, ht] <;> omega
      rw [hres]
      go_enter Tryd.func81, Tryd.ntmps81
      go_wp2_with (go_at_call 100; refine (hT _).mono ?_; rintro e w' ⟨rfl, rfl⟩)
      go_ret
      exact ⟨by first | rfl | simp [hres] | (simp; omega), by first | exact below_alloc (Below.refl _ _) _ (Nat.le_refl _) | exact below_drewN (below_alloc (Below.refl _ _) _ (Nat.le_refl _)) _⟩
    · have hb0 : decide (0 ≤ b) = true := by simp; omega
      have hb1 : decide (b ≤ 50) = false := by simp; omega
      have hres : rightB m f ⟨34, a, b⟩ = false := by simp [rightB, CodeR.within, fewB, ht] <;> omega
      rw [hres]
      go_enter Tryd.func81, Tryd.ntmps81
      go_wp2_with (go_at_call 100; refine (hT _).mono ?_; rintro e w' ⟨rfl, rfl⟩)
      go_ret
      exact ⟨by first | rfl | simp [hres] | (simp; omega), by first | exact below_alloc (Below.refl _ _) _ (Nat.le_refl _) | exact below_drewN (below_alloc (Below.refl _ _) _ (Nat.le_refl _)) _⟩
  · rw [ht] at hT
    rcases hbs with hb | ⟨hb, hb'⟩ | hb
    · have hb0 : decide (0 ≤ b) = false := by simp; omega
      have hres : rightB m f ⟨34, a, b⟩ = false := by simp [rightB, CodeR.within, fewB, ht] <;> omega
      rw [hres]
      go_enter Tryd.func81, Tryd.ntmps81
      go_wp2_with (go_at_call 100; refine (hT _).mono ?_; rintro e w' ⟨rfl, rfl⟩)
      go_ret
      exact ⟨by first | rfl | simp [hres] | (simp; omega), by first | exact below_alloc (Below.refl _ _) _ (Nat.le_refl _) | exact below_drewN (below_alloc (Below.refl _ _) _ (Nat.le_refl _)) _⟩
    · have hb0 : decide (0 ≤ b) = true := by simp; omega
      have hb1 : decide (b ≤ 50) = true := by simp; omega
      have hres : rightB m f ⟨34, a, b⟩ = true := by simp [rightB, CodeR.within, fewB, ht] <;> omega
      rw [hres]
      go_enter Tryd.func81, Tryd.ntmps81
      go_wp2_with (go_at_call 100; refine (hT _).mono ?_; rintro e w' ⟨rfl, rfl⟩)
      go_ret
      exact ⟨by first | rfl | simp [hres] | (simp; omega), by first | exact below_alloc (Below.refl _ _) _ (Nat.le_refl _) | exact below_drewN (below_alloc (Below.refl _ _) _ (Nat.le_refl _)) _⟩
    · have hb0 : decide (0 ≤ b) = true := by simp; omega
      have hb1 : decide (b ≤ 50) = false := by simp; omega
      have hres : rightB m f ⟨34, a, b⟩ = false := by simp [rightB, CodeR.within, fewB, ht] <;> omega
      rw [hres]
      go_enter Tryd.func81, Tryd.ntmps81
      go_wp2_with (go_at_call 100; refine (hT _).mono ?_; rintro e w' ⟨rfl, rfl⟩)
      go_ret
      exact ⟨by first | rfl | simp [hres] | (simp; omega), by first | exact below_alloc (Below.refl _ _) _ (Nat.le_refl _) | exact below_drewN (below_alloc (Below.refl _ _) _ (Nat.le_refl _)) _⟩

set_option maxRecDepth 100000 in
set_option maxHeartbeats 4000000 in
theorem right_36 (mb mo fb fo : Nat) (m : Im) (f : Fc) (a b : Int) (w : World) (hm : Row w mb mo m.vals) (hi : ImIn w m) (_hf : Row w fb fo f.vals) (_hfi : FcIn w f) :
    Calls Tryd.prog 81 #[.pointer (some ⟨mb, mo, none⟩), .pointer (some ⟨fb, fo, none⟩), .agg #[.int .i64 36, .int .i64 a, .int .i64 b]] w fun e w' => e = .returned (.bool (rightB m f ⟨36, a, b⟩)) ∧ Below w.heap.size w w' := by
  have c0 := (im_cells hm).2.2
  have hl := hi.classes.len
  rw [List.length_map] at hl
  unfold Sl.val at c0
  have d0 := alloc_cell c0
  clear hm hi _hf _hfi
  have hbs : b < 0 ∨ (0 ≤ b ∧ b ≤ 50) ∨ 50 < b := by omega
  have has : a < 0 ∨ (0 ≤ a ∧ a < (m.classes.length : Int)) ∨ (0 ≤ a ∧ (m.classes.length : Int) ≤ a) := by omega
  rcases has with h0 | ⟨h0, h1⟩ | ⟨h0, h1⟩
  · have hd0 : decide (0 ≤ a) = false := by simp; omega
    rcases hbs with hb | ⟨hb, hb'⟩ | hb
    · have hb0 : decide (0 ≤ b) = false := by simp; omega
      have hres : rightB m f ⟨36, a, b⟩ = false := by simp [rightB, CodeR.within, fewB] <;> omega
      rw [hres]
      go_enter Tryd.func81, Tryd.ntmps81
      go_wp2
      go_quiet (fail)
      go_wp2
      go_ret
      exact ⟨by first | rfl | simp [hres] | (simp; omega), by first | exact below_alloc (Below.refl _ _) _ (Nat.le_refl _) | exact below_drewN (below_alloc (Below.refl _ _) _ (Nat.le_refl _)) _⟩
    · have hb0 : decide (0 ≤ b) = true := by simp; omega
      have hb1 : decide (b ≤ 50) = true := by simp; omega
      have hres : rightB m f ⟨36, a, b⟩ = false := by simp [rightB, CodeR.within, fewB] <;> omega
      rw [hres]
      go_enter Tryd.func81, Tryd.ntmps81
      go_wp2
      go_quiet (fail)
      go_wp2
      go_ret
      exact ⟨by first | rfl | simp [hres] | (simp; omega), by first | exact below_alloc (Below.refl _ _) _ (Nat.le_refl _) | exact below_drewN (below_alloc (Below.refl _ _) _ (Nat.le_refl _)) _⟩
    · have hb0 : decide (0 ≤ b) = true := by simp; omega
      have hb1 : decide (b ≤ 50) = false := by simp; omega
      have hres : rightB m f ⟨36, a, b⟩ = false := by simp [rightB, CodeR.within, fewB] <;> omega
      rw [hres]
      go_enter Tryd.func81, Tryd.ntmps81
      go_wp2
      go_quiet (fail)
      go_wp2
      go_ret
      exact ⟨by first | rfl | simp [hres] | (simp; omega), by first | exact below_alloc (Below.refl _ _) _ (Nat.le_refl _) | exact below_drewN (below_alloc (Below.refl _ _) _ (Nat.le_refl _)) _⟩
  · have hd0 : decide (0 ≤ a) = true := by simp; omega
    have hd1 : decide (a < (m.classes.length : Int)) = true := by simp; omega
    rcases hbs with hb | ⟨hb, hb'⟩ | hb
    · have hb0 : decide (0 ≤ b) = false := by simp; omega
      have hres : rightB m f ⟨36, a, b⟩ = false := by simp [rightB, CodeR.within, fewB] <;> omega
      rw [hres]
      go_enter Tryd.func81, Tryd.ntmps81
      go_wp2
      go_quiet (fail)
      go_wp2
      go_ret
      exact ⟨by first | rfl | simp [hres] | (simp; omega), by first | exact below_alloc (Below.refl _ _) _ (Nat.le_refl _) | exact below_drewN (below_alloc (Below.refl _ _) _ (Nat.le_refl _)) _⟩
    · have hb0 : decide (0 ≤ b) = true := by simp; omega
      have hb1 : decide (b ≤ 50) = true := by simp; omega
      have hres : rightB m f ⟨36, a, b⟩ = true := by simp [rightB, CodeR.within, fewB] <;> omega
      rw [hres]
      go_enter Tryd.func81, Tryd.ntmps81
      go_wp2
      go_quiet (fail)
      go_wp2
      go_ret
      exact ⟨by first | rfl | simp [hres] | (simp; omega), by first | exact below_alloc (Below.refl _ _) _ (Nat.le_refl _) | exact below_drewN (below_alloc (Below.refl _ _) _ (Nat.le_refl _)) _⟩
    · have hb0 : decide (0 ≤ b) = true := by simp; omega
      have hb1 : decide (b ≤ 50) = false := by simp; omega
      have hres : rightB m f ⟨36, a, b⟩ = false := by simp [rightB, CodeR.within, fewB] <;> omega
      rw [hres]
      go_enter Tryd.func81, Tryd.ntmps81
      go_wp2
      go_quiet (fail)
      go_wp2
      go_ret
      exact ⟨by first | rfl | simp [hres] | (simp; omega), by first | exact below_alloc (Below.refl _ _) _ (Nat.le_refl _) | exact below_drewN (below_alloc (Below.refl _ _) _ (Nat.le_refl _)) _⟩
  · have hd0 : decide (0 ≤ a) = true := by simp; omega
    have hd1 : decide (a < (m.classes.length : Int)) = false := by simp; omega
    rcases hbs with hb | ⟨hb, hb'⟩ | hb
    · have hb0 : decide (0 ≤ b) = false := by simp; omega
      have hres : rightB m f ⟨36, a, b⟩ = false := by simp [rightB, CodeR.within, fewB] <;> omega
      rw [hres]
      go_enter Tryd.func81, Tryd.ntmps81
      go_wp2
      go_quiet (fail)
      go_wp2
      go_ret
      exact ⟨by first | rfl | simp [hres] | (simp; omega), by first | exact below_alloc (Below.refl _ _) _ (Nat.le_refl _) | exact below_drewN (below_alloc (Below.refl _ _) _ (Nat.le_refl _)) _⟩
    · have hb0 : decide (0 ≤ b) = true := by simp; omega
      have hb1 : decide (b ≤ 50) = true := by simp; omega
      have hres : rightB m f ⟨36, a, b⟩ = false := by simp [rightB, CodeR.within, fewB] <;> omega
      rw [hres]
      go_enter Tryd.func81, Tryd.ntmps81
      go_wp2
      go_quiet (fail)
      go_wp2
      go_ret
      exact ⟨by first | rfl | simp [hres] | (simp; omega), by first | exact below_alloc (Below.refl _ _) _ (Nat.le_refl _) | exact below_drewN (below_alloc (Below.refl _ _) _ (Nat.le_refl _)) _⟩
    · have hb0 : decide (0 ≤ b) = true := by simp; omega
      have hb1 : decide (b ≤ 50) = false := by simp; omega
      have hres : rightB m f ⟨36, a, b⟩ = false := by simp [rightB, CodeR.within, fewB] <;> omega
      rw [hres]
      go_enter Tryd.func81, Tryd.ntmps81
      go_wp2
      go_quiet (fail)
      go_wp2
      go_ret
      exact ⟨by first | rfl | simp [hres] | (simp; omega), by first | exact below_alloc (Below.refl _ _) _ (Nat.le_refl _) | exact below_drewN (below_alloc (Below.refl _ _) _ (Nat.le_refl _)) _⟩

set_option maxRecDepth 100000 in
set_option maxHeartbeats 4000000 in
theorem right_37 (mb mo fb fo : Nat) (m : Im) (f : Fc) (a b : Int) (w : World) (_hm : Row w mb mo m.vals) (_hi : ImIn w m) (_hf : Row w fb fo f.vals) (_hfi : FcIn w f) :
    Calls Tryd.prog 81 #[.pointer (some ⟨mb, mo, none⟩), .pointer (some ⟨fb, fo, none⟩), .agg #[.int .i64 37, .int .i64 a, .int .i64 b]] w fun e w' => e = .returned (.bool (rightB m f ⟨37, a, b⟩)) ∧ Below w.heap.size w w' := by
  clear _hm _hi _hf _hfi
  have hbs : b < 0 ∨ (0 ≤ b ∧ b ≤ 50) ∨ 50 < b := by omega
  rcases hbs with hb | ⟨hb, hb'⟩ | hb
  · have hb0 : decide (0 ≤ b) = false := by simp; omega
    have hres : rightB m f ⟨37, a, b⟩ = false := by simp [rightB, CodeR.within, fewB] <;> omega
    rw [hres]
    go_enter Tryd.func81, Tryd.ntmps81
    go_wp2
    go_ret
    exact ⟨by first | rfl | simp [hres] | (simp; omega), by first | exact below_alloc (Below.refl _ _) _ (Nat.le_refl _) | exact below_drewN (below_alloc (Below.refl _ _) _ (Nat.le_refl _)) _⟩
  · have hb0 : decide (0 ≤ b) = true := by simp; omega
    have hb1 : decide (b ≤ 50) = true := by simp; omega
    have hres : rightB m f ⟨37, a, b⟩ = true := by simp [rightB, CodeR.within, fewB] <;> omega
    rw [hres]
    go_enter Tryd.func81, Tryd.ntmps81
    go_wp2
    go_ret
    exact ⟨by first | rfl | simp [hres] | (simp; omega), by first | exact below_alloc (Below.refl _ _) _ (Nat.le_refl _) | exact below_drewN (below_alloc (Below.refl _ _) _ (Nat.le_refl _)) _⟩
  · have hb0 : decide (0 ≤ b) = true := by simp; omega
    have hb1 : decide (b ≤ 50) = false := by simp; omega
    have hres : rightB m f ⟨37, a, b⟩ = false := by simp [rightB, CodeR.within, fewB] <;> omega
    rw [hres]
    go_enter Tryd.func81, Tryd.ntmps81
    go_wp2
    go_ret
    exact ⟨by first | rfl | simp [hres] | (simp; omega), by first | exact below_alloc (Below.refl _ _) _ (Nat.le_refl _) | exact below_drewN (below_alloc (Below.refl _ _) _ (Nat.le_refl _)) _⟩

end Go.Proofs.YthbkklnahhdgcaaDoor.CodeC3
