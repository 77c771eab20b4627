/-
  The contract of package code's right: is what an instruction names there? (an operation each)
-/
import Derived.Test.YthbkklnahhdgcaaDoorDMC
namespace Go.Proofs.YthbkklnahhdgcaaDoor.CodeC2
open Go Go.Proofs Go.RowKit Lib CodeR CodeA CodeB

set_option maxRecDepth 100000 in
set_option maxHeartbeats 4000000 in
theorem right_11 (mb mo fb fo : Nat) (m : Im) (f : Fc) (a b : Int) (w : World) (_hm : Row w mb mo m.vals) (_hi : ImIn w m) (_hf : Row w fb fo f.vals) (_hfi : FcIn w f) :
    Calls Tryd.prog 81 #[.pointer (some ⟨mb, mo, none⟩), .pointer (some ⟨fb, fo, none⟩), .agg #[.int .i64 11, .int .i64 a, .int .i64 b]] w fun e w' => e = .returned (.bool (rightB m f ⟨11, a, b⟩)) ∧ Below w.heap.size w w' := by
  clear _hm _hi _hf _hfi
  have hbs : b < 0 ∨ (0 ≤ b ∧ b ≤ 50) ∨ 50 < b := by omega
  have has : a < 0 ∨ (0 ≤ a ∧ a ≤ 50) ∨ 50 < a := by omega
  rcases has with h0 | ⟨h0, h1⟩ | h0
  · have hd0 : decide (0 ≤ a) = false := by simp; omega
    rcases hbs with hb | ⟨hb, hb'⟩ | hb
    · have hb0 : decide (0 ≤ b) = false := by simp; omega
      have hres : rightB m f ⟨11, a, b⟩ = false := by simp [rightB, CodeR.within] <;> omega
      rw [hres]
      go_enter Tryd.func81, Tryd.ntmps81
      go_wp2
      go_ret
      exact ⟨by first | rfl | simp [hres] | (simp; omega), by first | exact below_alloc (Below.refl _ _) _ (Nat.le_refl _) | exact below_drewN (below_alloc (Below.refl _ _) _ (Nat.le_refl _)) _⟩
    · have hb0 : decide (0 ≤ b) = true := by simp; omega
      have hb1 : decide (b ≤ 50) = true := by simp; omega
      have hres : rightB m f ⟨11, a, b⟩ = false := by simp [rightB, CodeR.within] <;> omega
      rw [hres]
      go_enter Tryd.func81, Tryd.ntmps81
      go_wp2
      go_ret
      exact ⟨by first | rfl | simp [hres] | (simp; omega), by first | exact below_alloc (Below.refl _ _) _ (Nat.le_refl _) | exact below_drewN (below_alloc (Below.refl _ _) _ (Nat.le_refl _)) _⟩
    · have hb0 : decide (0 ≤ b) = true := by simp; omega
      have hb1 : decide (b ≤ 50) = false := by simp; omega
      have hres : rightB m f ⟨11, a, b⟩ = false := by simp [rightB, CodeR.within] <;> omega
      rw [hres]
      go_enter Tryd.func81, Tryd.ntmps81
      go_wp2
      go_ret
      exact ⟨by first | rfl | simp [hres] | (simp; omega), by first | exact below_alloc (Below.refl _ _) _ (Nat.le_refl _) | exact below_drewN (below_alloc (Below.refl _ _) _ (Nat.le_refl _)) _⟩
  · have hd0 : decide (0 ≤ a) = true := by simp; omega
    have hd1 : decide (a ≤ 50) = true := by simp; omega
    rcases hbs with hb | ⟨hb, hb'⟩ | hb
    · have hb0 : decide (0 ≤ b) = false := by simp; omega
      have hres : rightB m f ⟨11, a, b⟩ = true := by simp [rightB, CodeR.within] <;> omega
      rw [hres]
      go_enter Tryd.func81, Tryd.ntmps81
      go_wp2
      go_ret
      exact ⟨by first | rfl | simp [hres] | (simp; omega), by first | exact below_alloc (Below.refl _ _) _ (Nat.le_refl _) | exact below_drewN (below_alloc (Below.refl _ _) _ (Nat.le_refl _)) _⟩
    · have hb0 : decide (0 ≤ b) = true := by simp; omega
      have hb1 : decide (b ≤ 50) = true := by simp; omega
      have hres : rightB m f ⟨11, a, b⟩ = true := by simp [rightB, CodeR.within] <;> omega
      rw [hres]
      go_enter Tryd.func81, Tryd.ntmps81
      go_wp2
      go_ret
      exact ⟨by first | rfl | simp [hres] | (simp; omega), by first | exact below_alloc (Below.refl _ _) _ (Nat.le_refl _) | exact below_drewN (below_alloc (Below.refl _ _) _ (Nat.le_refl _)) _⟩
    · have hb0 : decide (0 ≤ b) = true := by simp; omega
      have hb1 : decide (b ≤ 50) = false := by simp; omega
      have hres : rightB m f ⟨11, a, b⟩ = true := by simp [rightB, CodeR.within] <;> omega
      rw [hres]
      go_enter Tryd.func81, Tryd.ntmps81
      go_wp2
      go_ret
      exact ⟨by first | rfl | simp [hres] | (simp; omega), by first | exact below_alloc (Below.refl _ _) _ (Nat.le_refl _) | exact below_drewN (below_alloc (Below.refl _ _) _ (Nat.le_refl _)) _⟩
  · have hd0 : decide (0 ≤ a) = true := by simp; omega
    have hd1 : decide (a ≤ 50) = false := by simp; omega
    rcases hbs with hb | ⟨hb, hb'⟩ | hb
    · have hb0 : decide (0 ≤ b) = false := by simp; omega
      have hres : rightB m f ⟨11, a, b⟩ = false := by simp [rightB, CodeR.within] <;> omega
      rw [hres]
      go_enter Tryd.func81, Tryd.ntmps81
      go_wp2
      go_ret
      exact ⟨by first | rfl | simp [hres] | (simp; omega), by first | exact below_alloc (Below.refl _ _) _ (Nat.le_refl _) | exact below_drewN (below_alloc (Below.refl _ _) _ (Nat.le_refl _)) _⟩
    · have hb0 : decide (0 ≤ b) = true := by simp; omega
      have hb1 : decide (b ≤ 50) = true := by simp; omega
      have hres : rightB m f ⟨11, a, b⟩ = false := by simp [rightB, CodeR.within] <;> omega
      rw [hres]
      go_enter Tryd.func81, Tryd.ntmps81
      go_wp2
      go_ret
      exact ⟨by first | rfl | simp [hres] | (simp; omega), by first | exact below_alloc (Below.refl _ _) _ (Nat.le_refl _) | exact below_drewN (below_alloc (Below.refl _ _) _ (Nat.le_refl _)) _⟩
    · have hb0 : decide (0 ≤ b) = true := by simp; omega
      have hb1 : decide (b ≤ 50) = false := by simp; omega
      have hres : rightB m f ⟨11, a, b⟩ = false := by simp [rightB, CodeR.within] <;> omega
      rw [hres]
      go_enter Tryd.func81, Tryd.ntmps81
      go_wp2
      go_ret
      exact ⟨by first | rfl | simp [hres] | (simp; omega), by first | exact below_alloc (Below.refl _ _) _ (Nat.le_refl _) | exact below_drewN (below_alloc (Below.refl _ _) _ (Nat.le_refl _)) _⟩

set_option maxRecDepth 100000 in
set_option maxHeartbeats 4000000 in
theorem right_12 (mb mo fb fo : Nat) (m : Im) (f : Fc) (a b : Int) (w : World) (_hm : Row w mb mo m.vals) (_hi : ImIn w m) (_hf : Row w fb fo f.vals) (_hfi : FcIn w f) :
    Calls Tryd.prog 81 #[.pointer (some ⟨mb, mo, none⟩), .pointer (some ⟨fb, fo, none⟩), .agg #[.int .i64 12, .int .i64 a, .int .i64 b]] w fun e w' => e = .returned (.bool (rightB m f ⟨12, a, b⟩)) ∧ Below w.heap.size w w' := by
  clear _hm _hi _hf _hfi
  have hbs : b < 0 ∨ (0 ≤ b ∧ b ≤ 50) ∨ 50 < b := by omega
  have has : a < 0 ∨ (0 ≤ a ∧ a ≤ 50) ∨ 50 < a := by omega
  rcases has with h0 | ⟨h0, h1⟩ | h0
  · have hd0 : decide (0 ≤ a) = false := by simp; omega
    rcases hbs with hb | ⟨hb, hb'⟩ | hb
    · have hb0 : decide (0 ≤ b) = false := by simp; omega
      have hres : rightB m f ⟨12, a, b⟩ = false := by simp [rightB, CodeR.within] <;> omega
      rw [hres]
      go_enter Tryd.func81, Tryd.ntmps81
      go_wp2
      go_ret
      exact ⟨by first | rfl | simp [hres] | (simp; omega), by first | exact below_alloc (Below.refl _ _) _ (Nat.le_refl _) | exact below_drewN (below_alloc (Below.refl _ _) _ (Nat.le_refl _)) _⟩
    · have hb0 : decide (0 ≤ b) = true := by simp; omega
      have hb1 : decide (b ≤ 50) = true := by simp; omega
      have hres : rightB m f ⟨12, a, b⟩ = false := by simp [rightB, CodeR.within] <;> omega
      rw [hres]
      go_enter Tryd.func81, Tryd.ntmps81
      go_wp2
      go_ret
      exact ⟨by first | rfl | simp [hres] | (simp; omega), by first | exact below_alloc (Below.refl _ _) _ (Nat.le_refl _) | exact below_drewN (below_alloc (Below.refl _ _) _ (Nat.le_refl _)) _⟩
    · have hb0 : decide (0 ≤ b) = true := by simp; omega
      have hb1 : decide (b ≤ 50) = false := by simp; omega
      have hres : rightB m f ⟨12, a, b⟩ = false := by simp [rightB, CodeR.within] <;> omega
      rw [hres]
      go_enter Tryd.func81, Tryd.ntmps81
      go_wp2
      go_ret
      exact ⟨by first | rfl | simp [hres] | (simp; omega), by first | exact below_alloc (Below.refl _ _) _ (Nat.le_refl _) | exact below_drewN (below_alloc (Below.refl _ _) _ (Nat.le_refl _)) _⟩
  · have hd0 : decide (0 ≤ a) = true := by simp; omega
    have hd1 : decide (a ≤ 50) = true := by simp; omega
    rcases hbs with hb | ⟨hb, hb'⟩ | hb
    · have hb0 : decide (0 ≤ b) = false := by simp; omega
      have hres : rightB m f ⟨12, a, b⟩ = true := by simp [rightB, CodeR.within] <;> omega
      rw [hres]
      go_enter Tryd.func81, Tryd.ntmps81
      go_wp2
      go_ret
      exact ⟨by first | rfl | simp [hres] | (simp; omega), by first | exact below_alloc (Below.refl _ _) _ (Nat.le_refl _) | exact below_drewN (below_alloc (Below.refl _ _) _ (Nat.le_refl _)) _⟩
    · have hb0 : decide (0 ≤ b) = true := by simp; omega
      have hb1 : decide (b ≤ 50) = true := by simp; omega
      have hres : rightB m f ⟨12, a, b⟩ = true := by simp [rightB, CodeR.within] <;> omega
      rw [hres]
      go_enter Tryd.func81, Tryd.ntmps81
      go_wp2
      go_ret
      exact ⟨by first | rfl | simp [hres] | (simp; omega), by first | exact below_alloc (Below.refl _ _) _ (Nat.le_refl _) | exact below_drewN (below_alloc (Below.refl _ _) _ (Nat.le_refl _)) _⟩
    · have hb0 : decide (0 ≤ b) = true := by simp; omega
      have hb1 : decide (b ≤ 50) = false := by simp; omega
      have hres : rightB m f ⟨12, a, b⟩ = true := by simp [rightB, CodeR.within] <;> omega
      rw [hres]
      go_enter Tryd.func81, Tryd.ntmps81
      go_wp2
      go_ret
      exact ⟨by first | rfl | simp [hres] | (simp; omega), by first | exact below_alloc (Below.refl _ _) _ (Nat.le_refl _) | exact below_drewN (below_alloc (Below.refl _ _) _ (Nat.le_refl _)) _⟩
  · have hd0 : decide (0 ≤ a) = true := by simp; omega
    have hd1 : decide (a ≤ 50) = false := by simp; omega
    rcases hbs with hb | ⟨hb, hb'⟩ | hb
    · have hb0 : decide (0 ≤ b) = false := by simp; omega
      have hres : rightB m f ⟨12, a, b⟩ = false := by simp [rightB, CodeR.within] <;> omega
      rw [hres]
      go_enter Tryd.func81, Tryd.ntmps81
      go_wp2
      go_ret
      exact ⟨by first | rfl | simp [hres] | (simp; omega), by first | exact below_alloc (Below.refl _ _) _ (Nat.le_refl _) | exact below_drewN (below_alloc (Below.refl _ _) _ (Nat.le_refl _)) _⟩
    · have hb0 : decide (0 ≤ b) = true := by simp; omega
      have hb1 : decide (b ≤ 50) = true := by simp; omega
      have hres : rightB m f ⟨12, a, b⟩ = false := by simp [rightB, CodeR.within] <;> omega
      rw [hres]
      go_enter Tryd.func81, Tryd.ntmps81
      go_wp2
      go_ret
      exact ⟨by first | rfl | simp [hres] | (simp; omega), by first | exact below_alloc (Below.refl _ _) _ (Nat.le_refl _) | exact below_drewN (below_alloc (Below.refl _ _) _ (Nat.le_refl _)) _⟩
    · have hb0 : decide (0 ≤ b) = true := by simp; omega
      have hb1 : decide (b ≤ 50) = false := by simp; omega
      have hres : rightB m f ⟨12, a, b⟩ = false := by simp [rightB, CodeR.within] <;> omega
      rw [hres]
      go_enter Tryd.func81, Tryd.ntmps81
      go_wp2
      go_ret
      exact ⟨by first | rfl | simp [hres] | (simp; omega), by first | exact below_alloc (Below.refl _ _) _ (Nat.le_refl _) | exact below_drewN (below_alloc (Below.refl _ _) _ (Nat.le_refl _)) _⟩

set_option maxRecDepth 100000 in
set_option maxHeartbeats 4000000 in
theorem right_13 (mb mo fb fo : Nat) (m : Im) (f : Fc) (a b : Int) (w : World) (_hm : Row w mb mo m.vals) (_hi : ImIn w m) (_hf : Row w fb fo f.vals) (_hfi : FcIn w f) :
    Calls Tryd.prog 81 #[.pointer (some ⟨mb, mo, none⟩), .pointer (some ⟨fb, fo, none⟩), .agg #[.int .i64 13, .int .i64 a, .int .i64 b]] w fun e w' => e = .returned (.bool (rightB m f ⟨13, a, b⟩)) ∧ Below w.heap.size w w' := by
  clear _hm _hi _hf _hfi
  have hbs : b < 0 ∨ (0 ≤ b ∧ b ≤ 50) ∨ 50 < b := by omega
  have has : a < 0 ∨ (0 ≤ a ∧ a ≤ 50) ∨ 50 < a := by omega
  rcases has with h0 | ⟨h0, h1⟩ | h0
  · have hd0 : decide (0 ≤ a) = false := by simp; omega
    rcases hbs with hb | ⟨hb, hb'⟩ | hb
    · have hb0 : decide (0 ≤ b) = false := by simp; omega
      have hres : rightB m f ⟨13, a, b⟩ = false := by simp [rightB, CodeR.within] <;> omega
      rw [hres]
      go_enter Tryd.func81, Tryd.ntmps81
      go_wp2
      go_ret
      exact ⟨by first | rfl | simp [hres] | (simp; omega), by first | exact below_alloc (Below.refl _ _) _ (Nat.le_refl _) | exact below_drewN (below_alloc (Below.refl _ _) _ (Nat.le_refl _)) _⟩
    · have hb0 : decide (0 ≤ b) = true := by simp; omega
      have hb1 : decide (b ≤ 50) = true := by simp; omega
      have hres : rightB m f ⟨13, a, b⟩ = false := by simp [rightB, CodeR.within] <;> omega
      rw [hres]
      go_enter Tryd.func81, Tryd.ntmps81
      go_wp2
      go_ret
      exact ⟨by first | rfl | simp [hres] | (simp; omega), by first | exact below_alloc (Below.refl _ _) _ (Nat.le_refl _) | exact below_drewN (below_alloc (Below.refl _ _) _ (Nat.le_refl _)) _⟩
    · have hb0 : decide (0 ≤ b) = true := by simp; omega
      have hb1 : decide (b ≤ 50) = false := by simp; omega
      have hres : rightB m f ⟨13, a, b⟩ = false := by simp [rightB, CodeR.within] <;> omega
      rw [hres]
      go_enter Tryd.func81, Tryd.ntmps81
      go_wp2
      go_ret
      exact ⟨by first | rfl | simp [hres] | (simp; omega), by first | exact below_alloc (Below.refl _ _) _ (Nat.le_refl _) | exact below_drewN (below_alloc (Below.refl _ _) _ (Nat.le_refl _)) _⟩
  · have hd0 : decide (0 ≤ a) = true := by simp; omega
    have hd1 : decide (a ≤ 50) = true := by simp; omega
    rcases hbs with hb | ⟨hb, hb'⟩ | hb
    · have hb0 : decide (0 ≤ b) = false := by simp; omega
      have hres : rightB m f ⟨13, a, b⟩ = true := by simp [rightB, CodeR.within] <;> omega
      rw [hres]
      go_enter Tryd.func81, Tryd.ntmps81
      go_wp2
      go_ret
      exact ⟨by first | rfl | simp [hres] | (simp; omega), by first | exact below_alloc (Below.refl _ _) _ (Nat.le_refl _) | exact below_drewN (below_alloc (Below.refl _ _) _ (Nat.le_refl _)) _⟩
    · have hb0 : decide (0 ≤ b) = true := by simp; omega
      have hb1 : decide (b ≤ 50) = true := by simp; omega
      have hres : rightB m f ⟨13, a, b⟩ = true := by simp [rightB, CodeR.within] <;> omega
      rw [hres]
      go_enter Tryd.func81, Tryd.ntmps81
      go_wp2
      go_ret
      exact ⟨by first | rfl | simp [hres] | (simp; omega), by first | exact below_alloc (Below.refl _ _) _ (Nat.le_refl _) | exact below_drewN (below_alloc (Below.refl _ _) _ (Nat.le_refl _)) _⟩
    · have hb0 : decide (0 ≤ b) = true := by simp; omega
      have hb1 : decide (b ≤ 50) = false := by simp; omega
      have hres : rightB m f ⟨13, a, b⟩ = true := by simp [rightB, CodeR.within] <;> omega
      rw [hres]
      go_enter Tryd.func81, Tryd.ntmps81
      go_wp2
      go_ret
      exact ⟨by first | rfl | simp [hres] | (simp; omega), by first | exact below_alloc (Below.refl _ _) _ (Nat.le_refl _) | exact below_drewN (below_alloc (Below.refl _ _) _ (Nat.le_refl _)) _⟩
  · have hd0 : decide (0 ≤ a) = true := by simp; omega
    have hd1 : decide (a ≤ 50) = false := by simp; omega
    rcases hbs with hb | ⟨hb, hb'⟩ | hb
    · have hb0 : decide (0 ≤ b) = false := by simp; omega
      have hres : rightB m f ⟨13, a, b⟩ = false := by simp [rightB, CodeR.within] <;> omega
      rw [hres]
      go_enter Tryd.func81, Tryd.ntmps81
      go_wp2
      go_ret
      exact ⟨by first | rfl | simp [hres] | (simp; omega), by first | exact below_alloc (Below.refl _ _) _ (Nat.le_refl _) | exact below_drewN (below_alloc (Below.refl _ _) _ (Nat.le_refl _)) _⟩
    · have hb0 : decide (0 ≤ b) = true := by simp; omega
      have hb1 : decide (b ≤ 50) = true := by simp; omega
      have hres : rightB m f ⟨13, a, b⟩ = false := by simp [rightB, CodeR.within] <;> omega
      rw [hres]
      go_enter Tryd.func81, Tryd.ntmps81
      go_wp2
      go_ret
      exact ⟨by first | rfl | simp [hres] | (simp; omega), by first | exact below_alloc (Below.refl _ _) _ (Nat.le_refl _) | exact below_drewN (below_alloc (Below.refl _ _) _ (Nat.le_refl _)) _⟩
    · have hb0 : decide (0 ≤ b) = true := by simp; omega
      have hb1 : decide (b ≤ 50) = false := by simp; omega
      have hres : rightB m f ⟨13, a, b⟩ = false := by simp [rightB, CodeR.within] <;> omega
      rw [hres]
      go_enter Tryd.func81, Tryd.ntmps81
      go_wp2
      go_ret
      exact ⟨by first | rfl | simp [hres] | (simp; omega), by first | exact below_alloc (Below.refl _ _) _ (Nat.le_refl _) | exact below_drewN (below_alloc (Below.refl _ _) _ (Nat.le_refl _)) _⟩

set_option maxRecDepth 100000 in
set_option maxHeartbeats 4000000 in
theorem right_14 (mb mo fb fo : Nat) (m : Im) (f : Fc) (a b : Int) (w : World) (_hm : Row w mb mo m.vals) (_hi : ImIn w m) (_hf : Row w fb fo f.vals) (_hfi : FcIn w f) :
    Calls Tryd.prog 81 #[.pointer (some ⟨mb, mo, none⟩), .pointer (some ⟨fb, fo, none⟩), .agg #[.int .i64 14, .int .i64 a, .int .i64 b]] w fun e w' => e = .returned (.bool (rightB m f ⟨14, a, b⟩)) ∧ Below w.heap.size w w' := by
  clear _hm _hi _hf _hfi
  have hbs : b < 0 ∨ (0 ≤ b ∧ b ≤ 50) ∨ 50 < b := by omega
  rcases hbs with hb | ⟨hb, hb'⟩ | hb
  · have hb0 : decide (0 ≤ b) = false := by simp; omega
    have hres : rightB m f ⟨14, a, b⟩ = true := by simp [rightB, CodeR.within] <;> omega
    rw [hres]
    go_enter Tryd.func81, Tryd.ntmps81
    go_wp2
    go_ret
    exact ⟨by first | rfl | simp [hres] | (simp; omega), by first | exact below_alloc (Below.refl _ _) _ (Nat.le_refl _) | exact below_drewN (below_alloc (Below.refl _ _) _ (Nat.le_refl _)) _⟩
  · have hb0 : decide (0 ≤ b) = true := by simp; omega
    have hb1 : decide (b ≤ 50) = true := by simp; omega
    have hres : rightB m f ⟨14, a, b⟩ = true := by simp [rightB, CodeR.within] <;> omega
    rw [hres]
    go_enter Tryd.func81, Tryd.ntmps81
    go_wp2
    go_ret
    exact ⟨by first | rfl | simp [hres] | (simp; omega), by first | exact below_alloc (Below.refl _ _) _ (Nat.le_refl _) | exact below_drewN (below_alloc (Below.refl _ _) _ (Nat.le_refl _)) _⟩
  · have hb0 : decide (0 ≤ b) = true := by simp; omega
    have hb1 : decide (b ≤ 50) = false := by simp; omega
    have hres : rightB m f ⟨14, a, b⟩ = true := by simp [rightB, CodeR.within] <;> omega
    rw [hres]
    go_enter Tryd.func81, Tryd.ntmps81
    go_wp2
    go_ret
    exact ⟨by first | rfl | simp [hres] | (simp; omega), by first | exact below_alloc (Below.refl _ _) _ (Nat.le_refl _) | exact below_drewN (below_alloc (Below.refl _ _) _ (Nat.le_refl _)) _⟩

set_option maxRecDepth 100000 in
set_option maxHeartbeats 4000000 in
theorem right_15 (mb mo fb fo : Nat) (m : Im) (f : Fc) (a b : Int) (w : World) (_hm : Row w mb mo m.vals) (_hi : ImIn w m) (hf : Row w fb fo f.vals) (hfi : FcIn w f) :
    Calls Tryd.prog 81 #[.pointer (some ⟨mb, mo, none⟩), .pointer (some ⟨fb, fo, none⟩), .agg #[.int .i64 15, .int .i64 a, .int .i64 b]] w fun e w' => e = .returned (.bool (rightB m f ⟨15, a, b⟩)) ∧ Below w.heap.size w w' := by
  have hfc : w.cell? ⟨fb, fo + 3, none⟩ = some f.codeS.val := hf 3 _ rfl
  have hl := hfi.code.len
  rw [List.length_map] at hl
  unfold Sl.val at hfc
  have d0 := alloc_cell hfc
  clear _hm _hi hf hfi
  have hbs : b < 0 ∨ (0 ≤ b ∧ b ≤ 50) ∨ 50 < b := by omega
  have has : a < 0 ∨ (0 ≤ a ∧ a < (f.code.length : Int)) ∨ (0 ≤ a ∧ (f.code.length : Int) ≤ a) := by omega
  rcases has with h0 | ⟨h0, h1⟩ | ⟨h0, h1⟩
  · have hd0 : decide (0 ≤ a) = false := by simp; omega
    rcases hbs with hb | ⟨hb, hb'⟩ | hb
    · have hb0 : decide (0 ≤ b) = false := by simp; omega
      have hres : rightB m f ⟨15, a, b⟩ = false := by simp [rightB, CodeR.within] <;> omega
      rw [hres]
      go_enter Tryd.func81, Tryd.ntmps81
      go_wp2
      go_quiet (fail)
      go_wp2
      go_ret
      exact ⟨by first | rfl | simp [hres] | (simp; omega), by first | exact below_alloc (Below.refl _ _) _ (Nat.le_refl _) | exact below_drewN (below_alloc (Below.refl _ _) _ (Nat.le_refl _)) _⟩
    · have hb0 : decide (0 ≤ b) = true := by simp; omega
      have hb1 : decide (b ≤ 50) = true := by simp; omega
      have hres : rightB m f ⟨15, a, b⟩ = false := by simp [rightB, CodeR.within] <;> omega
      rw [hres]
      go_enter Tryd.func81, Tryd.ntmps81
      go_wp2
      go_quiet (fail)
      go_wp2
      go_ret
      exact ⟨by first | rfl | simp [hres] | (simp; omega), by first | exact below_alloc (Below.refl _ _) _ (Nat.le_refl _) | exact below_drewN (below_alloc (Below.refl _ _) _ (Nat.le_refl _)) _⟩
    · have hb0 : decide (0 ≤ b) = true := by simp; omega
      have hb1 : decide (b ≤ 50) = false := by simp; omega
      have hres : rightB m f ⟨15, a, b⟩ = false := by simp [rightB, CodeR.within] <;> omega
      rw [hres]
      go_enter Tryd.func81, Tryd.ntmps81
      go_wp2
      go_quiet (fail)
      go_wp2
      go_ret
      exact ⟨by first | rfl | simp [hres] | (simp; omega), by first | exact below_alloc (Below.refl _ _) _ (Nat.le_refl _) | exact below_drewN (below_alloc (Below.refl _ _) _ (Nat.le_refl _)) _⟩
  · have hd0 : decide (0 ≤ a) = true := by simp; omega
    have hd1 : decide (a < (f.code.length : Int)) = true := by simp; omega
    rcases hbs with hb | ⟨hb, hb'⟩ | hb
    · have hb0 : decide (0 ≤ b) = false := by simp; omega
      have hres : rightB m f ⟨15, a, b⟩ = true := by simp [rightB, CodeR.within] <;> omega
      rw [hres]
      go_enter Tryd.func81, Tryd.ntmps81
      go_wp2
      go_quiet (fail)
      go_wp2
      go_ret
      exact ⟨by first | rfl | simp [hres] | (simp; omega), by first | exact below_alloc (Below.refl _ _) _ (Nat.le_refl _) | exact below_drewN (below_alloc (Below.refl _ _) _ (Nat.le_refl _)) _⟩
    · have hb0 : decide (0 ≤ b) = true := by simp; omega
      have hb1 : decide (b ≤ 50) = true := by simp; omega
      have hres : rightB m f ⟨15, a, b⟩ = true := by simp [rightB, CodeR.within] <;> omega
      rw [hres]
      go_enter Tryd.func81, Tryd.ntmps81
      go_wp2
      go_quiet (fail)
      go_wp2
      go_ret
      exact ⟨by first | rfl | simp [hres] | (simp; omega), by first | exact below_alloc (Below.refl _ _) _ (Nat.le_refl _) | exact below_drewN (below_alloc (Below.refl _ _) _ (Nat.le_refl _)) _⟩
    · have hb0 : decide (0 ≤ b) = true := by simp; omega
      have hb1 : decide (b ≤ 50) = false := by simp; omega
      have hres : rightB m f ⟨15, a, b⟩ = true := by simp [rightB, CodeR.within] <;> omega
      rw [hres]
      go_enter Tryd.func81, Tryd.ntmps81
      go_wp2
      go_quiet (fail)
      go_wp2
      go_ret
      exact ⟨by first | rfl | simp [hres] | (simp; omega), by first | exact below_alloc (Below.refl _ _) _ (Nat.le_refl _) | exact below_drewN (below_alloc (Below.refl _ _) _ (Nat.le_refl _)) _⟩
  · have hd0 : decide (0 ≤ a) = true := by simp; omega
    have hd1 : decide (a < (f.code.length : Int)) = false := by simp; omega
    rcases hbs with hb | ⟨hb, hb'⟩ | hb
    · have hb0 : decide (0 ≤ b) = false := by simp; omega
      have hres : rightB m f ⟨15, a, b⟩ = false := by simp [rightB, CodeR.within] <;> omega
      rw [hres]
      go_enter Tryd.func81, Tryd.ntmps81
      go_wp2
      go_quiet (fail)
      go_wp2
      go_ret
      exact ⟨by first | rfl | simp [hres] | (simp; omega), by first | exact below_alloc (Below.refl _ _) _ (Nat.le_refl _) | exact below_drewN (below_alloc (Below.refl _ _) _ (Nat.le_refl _)) _⟩
    · have hb0 : decide (0 ≤ b) = true := by simp; omega
      have hb1 : decide (b ≤ 50) = true := by simp; omega
      have hres : rightB m f ⟨15, a, b⟩ = false := by simp [rightB, CodeR.within] <;> omega
      rw [hres]
      go_enter Tryd.func81, Tryd.ntmps81
      go_wp2
      go_quiet (fail)
      go_wp2
      go_ret
      exact ⟨by first | rfl | simp [hres] | (simp; omega), by first | exact below_alloc (Below.refl _ _) _ (Nat.le_refl _) | exact below_drewN (below_alloc (Below.refl _ _) _ (Nat.le_refl _)) _⟩
    · have hb0 : decide (0 ≤ b) = true := by simp; omega
      have hb1 : decide (b ≤ 50) = false := by simp; omega
      have hres : rightB m f ⟨15, a, b⟩ = false := by simp [rightB, CodeR.within] <;> omega
      rw [hres]
      go_enter Tryd.func81, Tryd.ntmps81
      go_wp2
      go_quiet (fail)
      go_wp2
      go_ret
      exact ⟨by first | rfl | simp [hres] | (simp; omega), by first | exact below_alloc (Below.refl _ _) _ (Nat.le_refl _) | exact below_drewN (below_alloc (Below.refl _ _) _ (Nat.le_refl _)) _⟩

set_option maxRecDepth 100000 in
set_option maxHeartbeats 4000000 in
theorem right_16 (mb mo fb fo : Nat) (m : Im) (f : Fc) (a b : Int) (w : World) (_hm : Row w mb mo m.vals) (_hi : ImIn w m) (hf : Row w fb fo f.vals) (hfi : FcIn w f) :
    Calls Tryd.prog 81 #[.pointer (some ⟨mb, mo, none⟩), .pointer (some ⟨fb, fo, none⟩), .agg #[.int .i64 16, .int .i64 a, .int .i64 b]] w fun e w' => e = .returned (.bool (rightB m f ⟨16, a, b⟩)) ∧ Below w.heap.size w w' := by
  have hfc : w.cell? ⟨fb, fo + 3, none⟩ = some f.codeS.val := hf 3 _ rfl
  have hl := hfi.code.len
  rw [List.length_map] at hl
  unfold Sl.val at hfc
  have d0 := alloc_cell hfc
  clear _hm _hi hf hfi
  have hbs : b < 0 ∨ (0 ≤ b ∧ b ≤ 50) ∨ 50 < b := by omega
  have has : a < 0 ∨ (0 ≤ a ∧ a < (f.code.length : Int)) ∨ (0 ≤ a ∧ (f.code.length : Int) ≤ a) := by omega
  rcases has with h0 | ⟨h0, h1⟩ | ⟨h0, h1⟩
  · have hd0 : decide (0 ≤ a) = false := by simp; omega
    rcases hbs with hb | ⟨hb, hb'⟩ | hb
    · have hb0 : decide (0 ≤ b) = false := by simp; omega
      have hres : rightB m f ⟨16, a, b⟩ = false := by simp [rightB, CodeR.within] <;> omega
      rw [hres]
      go_enter Tryd.func81, Tryd.ntmps81
      go_wp2
      go_quiet (fail)
      go_wp2
      go_ret
      exact ⟨by first | rfl | simp [hres] | (simp; omega), by first | exact below_alloc (Below.refl _ _) _ (Nat.le_refl _) | exact below_drewN (below_alloc (Below.refl _ _) _ (Nat.le_refl _)) _⟩
    · have hb0 : decide (0 ≤ b) = true := by simp; omega
      have hb1 : decide (b ≤ 50) = true := by simp; omega
      have hres : rightB m f ⟨16, a, b⟩ = false := by simp [rightB, CodeR.within] <;> omega
      rw [hres]
      go_enter Tryd.func81, Tryd.ntmps81
      go_wp2
      go_quiet (fail)
      go_wp2
      go_ret
      exact ⟨by first | rfl | simp [hres] | (simp; omega), by first | exact below_alloc (Below.refl _ _) _ (Nat.le_refl _) | exact below_drewN (below_alloc (Below.refl _ _) _ (Nat.le_refl _)) _⟩
    · have hb0 : decide (0 ≤ b) = true := by simp; omega
      have hb1 : decide (b ≤ 50) = false := by simp; omega
      have hres : rightB m f ⟨16, a, b⟩ = false := by simp [rightB, CodeR.within] <;> omega
      rw [hres]
      go_enter Tryd.func81, Tryd.ntmps81
      go_wp2
      go_quiet (fail)
      go_wp2
      go_ret
      exact ⟨by first | rfl | simp [hres] | (simp; omega), by first | exact below_alloc (Below.refl _ _) _ (Nat.le_refl _) | exact below_drewN (below_alloc (Below.refl _ _) _ (Nat.le_refl _)) _⟩
  · have hd0 : decide (0 ≤ a) = true := by simp; omega
    have hd1 : decide (a < (f.code.length : Int)) = true := by simp; omega
    rcases hbs with hb | ⟨hb, hb'⟩ | hb
    · have hb0 : decide (0 ≤ b) = false := by simp; omega
      have hres : rightB m f ⟨16, a, b⟩ = true := by simp [rightB, CodeR.within] <;> omega
      rw [hres]
      go_enter Tryd.func81, Tryd.ntmps81
      go_wp2
      go_quiet (fail)
      go_wp2
      go_ret
      exact ⟨by first | rfl | simp [hres] | (simp; omega), by first | exact below_alloc (Below.refl _ _) _ (Nat.le_refl _) | exact below_drewN (below_alloc (Below.refl _ _) _ (Nat.le_refl _)) _⟩
    · have hb0 : decide (0 ≤ b) = true := by simp; omega
      have hb1 : decide (b ≤ 50) = true := by simp; omega
      have hres : rightB m f ⟨16, a, b⟩ = true := by simp [rightB, CodeR.within] <;> omega
      rw [hres]
      go_enter Tryd.func81, Tryd.ntmps81
      go_wp2
      go_quiet (fail)
      go_wp2
      go_ret
      exact ⟨by first | rfl | simp [hres] | (simp; omega), by first | exact below_alloc (Below.refl _ _) _ (Nat.le_refl _) | exact below_drewN (below_alloc (Below.refl _ _) _ (Nat.le_refl _)) _⟩
    · have hb0 : decide (0 ≤ b) = true := by simp; omega
      have hb1 : decide (b ≤ 50) = false := by simp; omega
      have hres : rightB m f ⟨16, a, b⟩ = true := by simp [rightB, CodeR.within] <;> omega
      rw [hres]
      go_enter Tryd.func81, Tryd.ntmps81
      go_wp2
      go_quiet (fail)
      go_wp2
      go_ret
      exact ⟨by first | rfl | simp [hres] | (simp; omega), by first | exact below_alloc (Below.refl _ _) _ (Nat.le_refl _) | exact below_drewN (below_alloc (Below.refl _ _) _ (Nat.le_refl _)) _⟩
  · have hd0 : decide (0 ≤ a) = true := by simp; omega
    have hd1 : decide (a < (f.code.length : Int)) = false := by simp; omega
    rcases hbs with hb | ⟨hb, hb'⟩ | hb
    · have hb0 : decide (0 ≤ b) = false := by simp; omega
      have hres : rightB m f ⟨16, a, b⟩ = false := by simp [rightB, CodeR.within] <;> omega
      rw [hres]
      go_enter Tryd.func81, Tryd.ntmps81
      go_wp2
      go_quiet (fail)
      go_wp2
      go_ret
      exact ⟨by first | rfl | simp [hres] | (simp; omega), by first | exact below_alloc (Below.refl _ _) _ (Nat.le_refl _) | exact below_drewN (below_alloc (Below.refl _ _) _ (Nat.le_refl _)) _⟩
    · have hb0 : decide (0 ≤ b) = true := by simp; omega
      have hb1 : decide (b ≤ 50) = true := by simp; omega
      have hres : rightB m f ⟨16, a, b⟩ = false := by simp [rightB, CodeR.within] <;> omega
      rw [hres]
      go_enter Tryd.func81, Tryd.ntmps81
      go_wp2
      go_quiet (fail)
      go_wp2
      go_ret
      exact ⟨by first | rfl | simp [hres] | (simp; omega), by first | exact below_alloc (Below.refl _ _) _ (Nat.le_refl _) | exact below_drewN (below_alloc (Below.refl _ _) _ (Nat.le_refl _)) _⟩
    · have hb0 : decide (0 ≤ b) = true := by simp; omega
      have hb1 : decide (b ≤ 50) = false := by simp; omega
      have hres : rightB m f ⟨16, a, b⟩ = false := by simp [rightB, CodeR.within] <;> omega
      rw [hres]
      go_enter Tryd.func81, Tryd.ntmps81
      go_wp2
      go_quiet (fail)
      go_wp2
      go_ret
      exact ⟨by first | rfl | simp [hres] | (simp; omega), by first | exact below_alloc (Below.refl _ _) _ (Nat.le_refl _) | exact below_drewN (below_alloc (Below.refl _ _) _ (Nat.le_refl _)) _⟩

set_option maxRecDepth 100000 in
set_option maxHeartbeats 4000000 in
theorem right_17 (mb mo fb fo : Nat) (m : Im) (f : Fc) (a b : Int) (w : World) (_hm : Row w mb mo m.vals) (_hi : ImIn w m) (hf : Row w fb fo f.vals) (hfi : FcIn w f) :
    Calls Tryd.prog 81 #[.pointer (some ⟨mb, mo, none⟩), .pointer (some ⟨fb, fo, none⟩), .agg #[.int .i64 17, .int .i64 a, .int .i64 b]] w fun e w' => e = .returned (.bool (rightB m f ⟨17, a, b⟩)) ∧ Below w.heap.size w w' := by
  have hfc : w.cell? ⟨fb, fo + 3, none⟩ = some f.codeS.val := hf 3 _ rfl
  have hl := hfi.code.len
  rw [List.length_map] at hl
  unfold Sl.val at hfc
  have d0 := alloc_cell hfc
  clear _hm _hi hf hfi
  have hbs : b < 0 ∨ (0 ≤ b ∧ b ≤ 50) ∨ 50 < b := by omega
  have has : a < 0 ∨ (0 ≤ a ∧ a < (f.code.length : Int)) ∨ (0 ≤ a ∧ (f.code.length : Int) ≤ a) := by omega
  rcases has with h0 | ⟨h0, h1⟩ | ⟨h0, h1⟩
  · have hd0 : decide (0 ≤ a) = false := by simp; omega
    rcases hbs with hb | ⟨hb, hb'⟩ | hb
    · have hb0 : decide (0 ≤ b) = false := by simp; omega
      have hres : rightB m f ⟨17, a, b⟩ = false := by simp [rightB, CodeR.within] <;> omega
      rw [hres]
      go_enter Tryd.func81, Tryd.ntmps81
      go_wp2
      go_quiet (fail)
      go_wp2
      go_ret
      exact ⟨by first | rfl | simp [hres] | (simp; omega), by first | exact below_alloc (Below.refl _ _) _ (Nat.le_refl _) | exact below_drewN (below_alloc (Below.refl _ _) _ (Nat.le_refl _)) _⟩
    · have hb0 : decide (0 ≤ b) = true := by simp; omega
      have hb1 : decide (b ≤ 50) = true := by simp; omega
      have hres : rightB m f ⟨17, a, b⟩ = false := by simp [rightB, CodeR.within] <;> omega
      rw [hres]
      go_enter Tryd.func81, Tryd.ntmps81
      go_wp2
      go_quiet (fail)
      go_wp2
      go_ret
      exact ⟨by first | rfl | simp [hres] | (simp; omega), by first | exact below_alloc (Below.refl _ _) _ (Nat.le_refl _) | exact below_drewN (below_alloc (Below.refl _ _) _ (Nat.le_refl _)) _⟩
    · have hb0 : decide (0 ≤ b) = true := by simp; omega
      have hb1 : decide (b ≤ 50) = false := by simp; omega
      have hres : rightB m f ⟨17, a, b⟩ = false := by simp [rightB, CodeR.within] <;> omega
      rw [hres]
      go_enter Tryd.func81, Tryd.ntmps81
      go_wp2
      go_quiet (fail)
      go_wp2
      go_ret
      exact ⟨by first | rfl | simp [hres] | (simp; omega), by first | exact below_alloc (Below.refl _ _) _ (Nat.le_refl _) | exact below_drewN (below_alloc (Below.refl _ _) _ (Nat.le_refl _)) _⟩
  · have hd0 : decide (0 ≤ a) = true := by simp; omega
    have hd1 : decide (a < (f.code.length : Int)) = true := by simp; omega
    rcases hbs with hb | ⟨hb, hb'⟩ | hb
    · have hb0 : decide (0 ≤ b) = false := by simp; omega
      have hres : rightB m f ⟨17, a, b⟩ = true := by simp [rightB, CodeR.within] <;> omega
      rw [hres]
      go_enter Tryd.func81, Tryd.ntmps81
      go_wp2
      go_quiet (fail)
      go_wp2
      go_ret
      exact ⟨by first | rfl | simp [hres] | (simp; omega), by first | exact below_alloc (Below.refl _ _) _ (Nat.le_refl _) | exact below_drewN (below_alloc (Below.refl _ _) _ (Nat.le_refl _)) _⟩
    · have hb0 : decide (0 ≤ b) = true := by simp; omega
      have hb1 : decide (b ≤ 50) = true := by simp; omega
      have hres : rightB m f ⟨17, a, b⟩ = true := by simp [rightB, CodeR.within] <;> omega
      rw [hres]
      go_enter Tryd.func81, Tryd.ntmps81
      go_wp2
      go_quiet (fail)
      go_wp2
      go_ret
      exact ⟨by first | rfl | simp [hres] | (simp; omega), by first | exact below_alloc (Below.refl _ _) _ (Nat.le_refl _) | exact below_drewN (below_alloc (Below.refl _ _) _ (Nat.le_refl _)) _⟩
    · have hb0 : decide (0 ≤ b) = true := by simp; omega
      have hb1 : decide (b ≤ 50) = false := by simp; omega
      have hres : rightB m f ⟨17, a, b⟩ = true := by simp [rightB, CodeR.within] <;> omega
      rw [hres]
      go_enter Tryd.func81, Tryd.ntmps81
      go_wp2
      go_quiet (fail)
      go_wp2
      go_ret
      exact ⟨by first | rfl | simp [hres] | (simp; omega), by first | exact below_alloc (Below.refl _ _) _ (Nat.le_refl _) | exact below_drewN (below_alloc (Below.refl _ _) _ (Nat.le_refl _)) _⟩
  · have hd0 : decide (0 ≤ a) = true := by simp; omega
    have hd1 : decide (a < (f.code.length : Int)) = false := by simp; omega
    rcases hbs with hb | ⟨hb, hb'⟩ | hb
    · have hb0 : decide (0 ≤ b) = false := by simp; omega
      have hres : rightB m f ⟨17, a, b⟩ = false := by simp [rightB, CodeR.within] <;> omega
      rw [hres]
      go_enter Tryd.func81, Tryd.ntmps81
      go_wp2
      go_quiet (fail)
      go_wp2
      go_ret
      exact ⟨by first | rfl | simp [hres] | (simp; omega), by first | exact below_alloc (Below.refl _ _) _ (Nat.le_refl _) | exact below_drewN (below_alloc (Below.refl _ _) _ (Nat.le_refl _)) _⟩
    · have hb0 : decide (0 ≤ b) = true := by simp; omega
      have hb1 : decide (b ≤ 50) = true := by simp; omega
      have hres : rightB m f ⟨17, a, b⟩ = false := by simp [rightB, CodeR.within] <;> omega
      rw [hres]
      go_enter Tryd.func81, Tryd.ntmps81
      go_wp2
      go_quiet (fail)
      go_wp2
      go_ret
      exact ⟨by first | rfl | simp [hres] | (simp; omega), by first | exact below_alloc (Below.refl _ _) _ (Nat.le_refl _) | exact below_drewN (below_alloc (Below.refl _ _) _ (Nat.le_refl _)) _⟩
    · have hb0 : decide (0 ≤ b) = true := by simp; omega
      have hb1 : decide (b ≤ 50) = false := by simp; omega
      have hres : rightB m f ⟨17, a, b⟩ = false := by simp [rightB, CodeR.within] <;> omega
      rw [hres]
      go_enter Tryd.func81, Tryd.ntmps81
      go_wp2
      go_quiet (fail)
      go_wp2
      go_ret
      exact ⟨by first | rfl | simp [hres] | (simp; omega), by first | exact below_alloc (Below.refl _ _) _ (Nat.le_refl _) | exact below_drewN (below_alloc (Below.refl _ _) _ (Nat.le_refl _)) _⟩

set_option maxRecDepth 100000 in
set_option maxHeartbeats 4000000 in
theorem right_18 (mb mo fb fo : Nat) (m : Im) (f : Fc) (a b : Int) (w : World) (_hm : Row w mb mo m.vals) (_hi : ImIn w m) (hf : Row w fb fo f.vals) (hfi : FcIn w f) :
    Calls Tryd.prog 81 #[.pointer (some ⟨mb, mo, none⟩), .pointer (some ⟨fb, fo, none⟩), .agg #[.int .i64 18, .int .i64 a, .int .i64 b]] w fun e w' => e = .returned (.bool (rightB m f ⟨18, a, b⟩)) ∧ Below w.heap.size w w' := by
  have hfc : w.cell? ⟨fb, fo + 3, none⟩ = some f.codeS.val := hf 3 _ rfl
  have hl := hfi.code.len
  rw [List.length_map] at hl
  unfold Sl.val at hfc
  have d0 := alloc_cell hfc
  clear _hm _hi hf hfi
  have hbs : b < 0 ∨ (0 ≤ b ∧ b ≤ 50) ∨ 50 < b := by omega
  have has : a < 0 ∨ (0 ≤ a ∧ a < (f.code.length : Int)) ∨ (0 ≤ a ∧ (f.code.length : Int) ≤ a) := by omega
  rcases has with h0 | ⟨h0, h1⟩ | ⟨h0, h1⟩
  · have hd0 : decide (0 ≤ a) = false := by simp; omega
    rcases hbs with hb | ⟨hb, hb'⟩ | hb
    · have hb0 : decide (0 ≤ b) = false := by simp; omega
      have hres : rightB m f ⟨18, a, b⟩ = false := by simp [rightB, CodeR.within] <;> omega
      rw [hres]
      go_enter Tryd.func81, Tryd.ntmps81
      go_wp2
      go_quiet (fail)
      go_wp2
      go_ret
      exact ⟨by first | rfl | simp [hres] | (simp; omega), by first | exact below_alloc (Below.refl _ _) _ (Nat.le_refl _) | exact below_drewN (below_alloc (Below.refl _ _) _ (Nat.le_refl _)) _⟩
    · have hb0 : decide (0 ≤ b) = true := by simp; omega
      have hb1 : decide (b ≤ 50) = true := by simp; omega
      have hres : rightB m f ⟨18, a, b⟩ = false := by simp [rightB, CodeR.within] <;> omega
      rw [hres]
      go_enter Tryd.func81, Tryd.ntmps81
      go_wp2
      go_quiet (fail)
      go_wp2
      go_ret
      exact ⟨by first | rfl | simp [hres] | (simp; omega), by first | exact below_alloc (Below.refl _ _) _ (Nat.le_refl _) | exact below_drewN (below_alloc (Below.refl _ _) _ (Nat.le_refl _)) _⟩
    · have hb0 : decide (0 ≤ b) = true := by simp; omega
      have hb1 : decide (b ≤ 50) = false := by simp; omega
      have hres : rightB m f ⟨18, a, b⟩ = false := by simp [rightB, CodeR.within] <;> omega
      rw [hres]
      go_enter Tryd.func81, Tryd.ntmps81
      go_wp2
      go_quiet (fail)
      go_wp2
      go_ret
      exact ⟨by first | rfl | simp [hres] | (simp; omega), by first | exact below_alloc (Below.refl _ _) _ (Nat.le_refl _) | exact below_drewN (below_alloc (Below.refl _ _) _ (Nat.le_refl _)) _⟩
  · have hd0 : decide (0 ≤ a) = true := by simp; omega
    have hd1 : decide (a < (f.code.length : Int)) = true := by simp; omega
    rcases hbs with hb | ⟨hb, hb'⟩ | hb
    · have hb0 : decide (0 ≤ b) = false := by simp; omega
      have hres : rightB m f ⟨18, a, b⟩ = true := by simp [rightB, CodeR.within] <;> omega
      rw [hres]
      go_enter Tryd.func81, Tryd.ntmps81
      go_wp2
      go_quiet (fail)
      go_wp2
      go_ret
      exact ⟨by first | rfl | simp [hres] | (simp; omega), by first | exact below_alloc (Below.refl _ _) _ (Nat.le_refl _) | exact below_drewN (below_alloc (Below.refl _ _) _ (Nat.le_refl _)) _⟩
    · have hb0 : decide (0 ≤ b) = true := by simp; omega
      have hb1 : decide (b ≤ 50) = true := by simp; omega
      have hres : rightB m f ⟨18, a, b⟩ = true := by simp [rightB, CodeR.within] <;> omega
      rw [hres]
      go_enter Tryd.func81, Tryd.ntmps81
      go_wp2
      go_quiet (fail)
      go_wp2
      go_ret
      exact ⟨by first | rfl | simp [hres] | (simp; omega), by first | exact below_alloc (Below.refl _ _) _ (Nat.le_refl _) | exact below_drewN (below_alloc (Below.refl _ _) _ (Nat.le_refl _)) _⟩
    · have hb0 : decide (0 ≤ b) = true := by simp; omega
      have hb1 : decide (b ≤ 50) = false := by simp; omega
      have hres : rightB m f ⟨18, a, b⟩ = true := by simp [rightB, CodeR.within] <;> omega
      rw [hres]
      go_enter Tryd.func81, Tryd.ntmps81
      go_wp2
      go_quiet (fail)
      go_wp2
      go_ret
      exact ⟨by first | rfl | simp [hres] | (simp; omega), by first | exact below_alloc (Below.refl _ _) _ (Nat.le_refl _) | exact below_drewN (below_alloc (Below.refl _ _) _ (Nat.le_refl _)) _⟩
  · have hd0 : decide (0 ≤ a) = true := by simp; omega
    have hd1 : decide (a < (f.code.length : Int)) = false := by simp; omega
    rcases hbs with hb | ⟨hb, hb'⟩ | hb
    · have hb0 : decide (0 ≤ b) = false := by simp; omega
      have hres : rightB m f ⟨18, a, b⟩ = false := by simp [rightB, CodeR.within] <;> omega
      rw [hres]
      go_enter Tryd.func81, Tryd.ntmps81
      go_wp2
      go_quiet (fail)
      go_wp2
      go_ret
      exact ⟨by first | rfl | simp [hres] | (simp; omega), by first | exact below_alloc (Below.refl _ _) _ (Nat.le_refl _) | exact below_drewN (below_alloc (Below.refl _ _) _ (Nat.le_refl _)) _⟩
    · have hb0 : decide (0 ≤ b) = true := by simp; omega
      have hb1 : decide (b ≤ 50) = true := by simp; omega
      have hres : rightB m f ⟨18, a, b⟩ = false := by simp [rightB, CodeR.within] <;> omega
      rw [hres]
      go_enter Tryd.func81, Tryd.ntmps81
      go_wp2
      go_quiet (fail)
      go_wp2
      go_ret
      exact ⟨by first | rfl | simp [hres] | (simp; omega), by first | exact below_alloc (Below.refl _ _) _ (Nat.le_refl _) | exact below_drewN (below_alloc (Below.refl _ _) _ (Nat.le_refl _)) _⟩
    · have hb0 : decide (0 ≤ b) = true := by simp; omega
      have hb1 : decide (b ≤ 50) = false := by simp; omega
      have hres : rightB m f ⟨18, a, b⟩ = false := by simp [rightB, CodeR.within] <;> omega
      rw [hres]
      go_enter Tryd.func81, Tryd.ntmps81
      go_wp2
      go_quiet (fail)
      go_wp2
      go_ret
      exact ⟨by first | rfl | simp [hres] | (simp; omega), by first | exact below_alloc (Below.refl _ _) _ (Nat.le_refl _) | exact below_drewN (below_alloc (Below.refl _ _) _ (Nat.le_refl _)) _⟩

set_option maxRecDepth 100000 in
set_option maxHeartbeats 4000000 in
theorem right_19 (mb mo fb fo : Nat) (m : Im) (f : Fc) (a b : Int) (w : World) (_hm : Row w mb mo m.vals) (_hi : ImIn w m) (_hf : Row w fb fo f.vals) (_hfi : FcIn w f) :
    Calls Tryd.prog 81 #[.pointer (some ⟨mb, mo, none⟩), .pointer (some ⟨fb, fo, none⟩), .agg #[.int .i64 19, .int .i64 a, .int .i64 b]] w fun e w' => e = .returned (.bool (rightB m f ⟨19, a, b⟩)) ∧ Below w.heap.size w w' := by
  clear _hm _hi _hf _hfi
  have hbs : b < 0 ∨ (0 ≤ b ∧ b ≤ 50) ∨ 50 < b := by omega
  rcases hbs with hb | ⟨hb, hb'⟩ | hb
  · have hb0 : decide (0 ≤ b) = false := by simp; omega
    have hres : rightB m f ⟨19, a, b⟩ = true := by simp [rightB, CodeR.within] <;> omega
    rw [hres]
    go_enter Tryd.func81, Tryd.ntmps81
    go_wp2
    go_ret
    exact ⟨by first | rfl | simp [hres] | (simp; omega), by first | exact below_alloc (Below.refl _ _) _ (Nat.le_refl _) | exact below_drewN (below_alloc (Below.refl _ _) _ (Nat.le_refl _)) _⟩
  · have hb0 : decide (0 ≤ b) = true := by simp; omega
    have hb1 : decide (b ≤ 50) = true := by simp; omega
    have hres : rightB m f ⟨19, a, b⟩ = true := by simp [rightB, CodeR.within] <;> omega
    rw [hres]
    go_enter Tryd.func81, Tryd.ntmps81
    go_wp2
    go_ret
    exact ⟨by first | rfl | simp [hres] | (simp; omega), by first | exact below_alloc (Below.refl _ _) _ (Nat.le_refl _) | exact below_drewN (below_alloc (Below.refl _ _) _ (Nat.le_refl _)) _⟩
  · have hb0 : decide (0 ≤ b) = true := by simp; omega
    have hb1 : decide (b ≤ 50) = false := by simp; omega
    have hres : rightB m f ⟨19, a, b⟩ = true := by simp [rightB, CodeR.within] <;> omega
    rw [hres]
    go_enter Tryd.func81, Tryd.ntmps81
    go_wp2
    go_ret
    exact ⟨by first | rfl | simp [hres] | (simp; omega), by first | exact below_alloc (Below.refl _ _) _ (Nat.le_refl _) | exact below_drewN (below_alloc (Below.refl _ _) _ (Nat.le_refl _)) _⟩

set_option maxRecDepth 100000 in
set_option maxHeartbeats 4000000 in
theorem right_20 (mb mo fb fo : Nat) (m : Im) (f : Fc) (a b : Int) (w : World) (_hm : Row w mb mo m.vals) (_hi : ImIn w m) (_hf : Row w fb fo f.vals) (_hfi : FcIn w f) :
    Calls Tryd.prog 81 #[.pointer (some ⟨mb, mo, none⟩), .pointer (some ⟨fb, fo, none⟩), .agg #[.int .i64 20, .int .i64 a, .int .i64 b]] w fun e w' => e = .returned (.bool (rightB m f ⟨20, a, b⟩)) ∧ Below w.heap.size w w' := by
  clear _hm _hi _hf _hfi
  have hbs : b < 0 ∨ (0 ≤ b ∧ b ≤ 50) ∨ 50 < b := by omega
  rcases hbs with hb | ⟨hb, hb'⟩ | hb
  · have hb0 : decide (0 ≤ b) = false := by simp; omega
    have hres : rightB m f ⟨20, a, b⟩ = true := by simp [rightB, CodeR.within] <;> omega
    rw [hres]
    go_enter Tryd.func81, Tryd.ntmps81
    go_wp2
    go_ret
    exact ⟨by first | rfl | simp [hres] | (simp; omega), by first | exact below_alloc (Below.refl _ _) _ (Nat.le_refl _) | exact below_drewN (below_alloc (Below.refl _ _) _ (Nat.le_refl _)) _⟩
  · have hb0 : decide (0 ≤ b) = true := by simp; omega
    have hb1 : decide (b ≤ 50) = true := by simp; omega
    have hres : rightB m f ⟨20, a, b⟩ = true := by simp [rightB, CodeR.within] <;> omega
    rw [hres]
    go_enter Tryd.func81, Tryd.ntmps81
    go_wp2
    go_ret
    exact ⟨by first | rfl | simp [hres] | (simp; omega), by first | exact below_alloc (Below.refl _ _) _ (Nat.le_refl _) | exact below_drewN (below_alloc (Below.refl _ _) _ (Nat.le_refl _)) _⟩
  · have hb0 : decide (0 ≤ b) = true := by simp; omega
    have hb1 : decide (b ≤ 50) = false := by simp; omega
    have hres : rightB m f ⟨20, a, b⟩ = true := by simp [rightB, CodeR.within] <;> omega
    rw [hres]
    go_enter Tryd.func81, Tryd.ntmps81
    go_wp2
    go_ret
    exact ⟨by first | rfl | simp [hres] | (simp; omega), by first | exact below_alloc (Below.refl _ _) _ (Nat.le_refl _) | exact below_drewN (below_alloc (Below.refl _ _) _ (Nat.le_refl _)) _⟩

set_option maxRecDepth 100000 in
set_option maxHeartbeats 4000000 in
theorem right_21 (mb mo fb fo : Nat) (m : Im) (f : Fc) (a b : Int) (w : World) (_hm : Row w mb mo m.vals) (_hi : ImIn w m) (_hf : Row w fb fo f.vals) (_hfi : FcIn w f) :
    Calls Tryd.prog 81 #[.pointer (some ⟨mb, mo, none⟩), .pointer (some ⟨fb, fo, none⟩), .agg #[.int .i64 21, .int .i64 a, .int .i64 b]] w fun e w' => e = .returned (.bool (rightB m f ⟨21, a, b⟩)) ∧ Below w.heap.size w w' := by
  clear _hm _hi _hf _hfi
  have hbs : b < 0 ∨ (0 ≤ b ∧ b ≤ 50) ∨ 50 < b := by omega
  rcases hbs with hb | ⟨hb, hb'⟩ | hb
  · have hb0 : decide (0 ≤ b) = false := by simp; omega
    have hres : rightB m f ⟨21, a, b⟩ = true := by simp [rightB, CodeR.within] <;> omega
    rw [hres]
    go_enter Tryd.func81, Tryd.ntmps81
    go_wp2
    go_ret
    exact ⟨by first | rfl | simp [hres] | (simp; omega), by first | exact below_alloc (Below.refl _ _) _ (Nat.le_refl _) | exact below_drewN (below_alloc (Below.refl _ _) _ (Nat.le_refl _)) _⟩
  · have hb0 : decide (0 ≤ b) = true := by simp; omega
    have hb1 : decide (b ≤ 50) = true := by simp; omega
    have hres : rightB m f ⟨21, a, b⟩ = true := by simp [rightB, CodeR.within] <;> omega
    rw [hres]
    go_enter Tryd.func81, Tryd.ntmps81
    go_wp2
    go_ret
    exact ⟨by first | rfl | simp [hres] | (simp; omega), by first | exact below_alloc (Below.refl _ _) _ (Nat.le_refl _) | exact below_drewN (below_alloc (Below.refl _ _) _ (Nat.le_refl _)) _⟩
  · have hb0 : decide (0 ≤ b) = true := by simp; omega
    have hb1 : decide (b ≤ 50) = false := by simp; omega
    have hres : rightB m f ⟨21, a, b⟩ = true := by simp [rightB, CodeR.within] <;> omega
    rw [hres]
    go_enter Tryd.func81, Tryd.ntmps81
    go_wp2
    go_ret
    exact ⟨by first | rfl | simp [hres] | (simp; omega), by first | exact below_alloc (Below.refl _ _) _ (Nat.le_refl _) | exact below_drewN (below_alloc (Below.refl _ _) _ (Nat.le_refl _)) _⟩

set_option maxRecDepth 100000 in
set_option maxHeartbeats 4000000 in
theorem right_22 (mb mo fb fo : Nat) (m : Im) (f : Fc) (a b : Int) (w : World) (_hm : Row w mb mo m.vals) (_hi : ImIn w m) (_hf : Row w fb fo f.vals) (_hfi : FcIn w f) :
    Calls Tryd.prog 81 #[.pointer (some ⟨mb, mo, none⟩), .pointer (some ⟨fb, fo, none⟩), .agg #[.int .i64 22, .int .i64 a, .int .i64 b]] w fun e w' => e = .returned (.bool (rightB m f ⟨22, a, b⟩)) ∧ Below w.heap.size w w' := by
  clear _hm _hi _hf _hfi
  have hbs : b < 0 ∨ (0 ≤ b ∧ b ≤ 50) ∨ 50 < b := by omega
  rcases hbs with hb | ⟨hb, hb'⟩ | hb
  · have hb0 : decide (0 ≤ b) = false := by simp; omega
    have hres : rightB m f ⟨22, a, b⟩ = true := by simp [rightB, CodeR.within] <;> omega
    rw [hres]
    go_enter Tryd.func81, Tryd.ntmps81
    go_wp2
    go_ret
    exact ⟨by first | rfl | simp [hres] | (simp; omega), by first | exact below_alloc (Below.refl _ _) _ (Nat.le_refl _) | exact below_drewN (below_alloc (Below.refl _ _) _ (Nat.le_refl _)) _⟩
  · have hb0 : decide (0 ≤ b) = true := by simp; omega
    have hb1 : decide (b ≤ 50) = true := by simp; omega
    have hres : rightB m f ⟨22, a, b⟩ = true := by simp [rightB, CodeR.within] <;> omega
    rw [hres]
    go_enter Tryd.func81, Tryd.ntmps81
    go_wp2
    go_ret
    exact ⟨by first | rfl | simp [hres] | (simp; omega), by first | exact below_alloc (Below.refl _ _) _ (Nat.le_refl _) | exact below_drewN (below_alloc (Below.refl _ _) _ (Nat.le_refl _)) _⟩
  · have hb0 : decide (0 ≤ b) = true := by simp; omega
    have hb1 : decide (b ≤ 50) = false := by simp; omega
    have hres : rightB m f ⟨22, a, b⟩ = true := by simp [rightB, CodeR.within] <;> omega
    rw [hres]
    go_enter Tryd.func81, Tryd.ntmps81
    go_wp2
    go_ret
    exact ⟨by first | rfl | simp [hres] | (simp; omega), by first | exact below_alloc (Below.refl _ _) _ (Nat.le_refl _) | exact below_drewN (below_alloc (Below.refl _ _) _ (Nat.le_refl _)) _⟩

set_option maxRecDepth 100000 in
set_option maxHeartbeats 4000000 in
theorem right_23 (mb mo fb fo : Nat) (m : Im) (f : Fc) (a b : Int) (w : World) (_hm : Row w mb mo m.vals) (_hi : ImIn w m) (_hf : Row w fb fo f.vals) (_hfi : FcIn w f) :
    Calls Tryd.prog 81 #[.pointer (some ⟨mb, mo, none⟩), .pointer (some ⟨fb, fo, none⟩), .agg #[.int .i64 23, .int .i64 a, .int .i64 b]] w fun e w' => e = .returned (.bool (rightB m f ⟨23, a, b⟩)) ∧ Below w.heap.size w w' := by
  clear _hm _hi _hf _hfi
  have hbs : b < 0 ∨ (0 ≤ b ∧ b ≤ 50) ∨ 50 < b := by omega
  rcases hbs with hb | ⟨hb, hb'⟩ | hb
  · have hb0 : decide (0 ≤ b) = false := by simp; omega
    have hres : rightB m f ⟨23, a, b⟩ = true := by simp [rightB, CodeR.within] <;> omega
    rw [hres]
    go_enter Tryd.func81, Tryd.ntmps81
    go_wp2
    go_ret
    exact ⟨by first | rfl | simp [hres] | (simp; omega), by first | exact below_alloc (Below.refl _ _) _ (Nat.le_refl _) | exact below_drewN (below_alloc (Below.refl _ _) _ (Nat.le_refl _)) _⟩
  · have hb0 : decide (0 ≤ b) = true := by simp; omega
    have hb1 : decide (b ≤ 50) = true := by simp; omega
    have hres : rightB m f ⟨23, a, b⟩ = true := by simp [rightB, CodeR.within] <;> omega
    rw [hres]
    go_enter Tryd.func81, Tryd.ntmps81
    go_wp2
    go_ret
    exact ⟨by first | rfl | simp [hres] | (simp; omega), by first | exact below_alloc (Below.refl _ _) _ (Nat.le_refl _) | exact below_drewN (below_alloc (Below.refl _ _) _ (Nat.le_refl _)) _⟩
  · have hb0 : decide (0 ≤ b) = true := by simp; omega
    have hb1 : decide (b ≤ 50) = false := by simp; omega
    have hres : rightB m f ⟨23, a, b⟩ = true := by simp [rightB, CodeR.within] <;> omega
    rw [hres]
    go_enter Tryd.func81, Tryd.ntmps81
    go_wp2
    go_ret
    exact ⟨by first | rfl | simp [hres] | (simp; omega), by first | exact below_alloc (Below.refl _ _) _ (Nat.le_refl _) | exact below_drewN (below_alloc (Below.refl _ _) _ (Nat.le_refl _)) _⟩

set_option maxRecDepth 100000 in
set_option maxHeartbeats 4000000 in
theorem right_24 (mb mo fb fo : Nat) (m : Im) (f : Fc) (a b : Int) (w : World) (_hm : Row w mb mo m.vals) (_hi : ImIn w m) (_hf : Row w fb fo f.vals) (_hfi : FcIn w f) :
    Calls Tryd.prog 81 #[.pointer (some ⟨mb, mo, none⟩), .pointer (some ⟨fb, fo, none⟩), .agg #[.int .i64 24, .int .i64 a, .int .i64 b]] w fun e w' => e = .returned (.bool (rightB m f ⟨24, a, b⟩)) ∧ Below w.heap.size w w' := by
  clear _hm _hi _hf _hfi
  have hbs : b < 0 ∨ (0 ≤ b ∧ b ≤ 50) ∨ 50 < b := by omega
  rcases hbs with hb | ⟨hb, hb'⟩ | hb
  · have hb0 : decide (0 ≤ b) = false := by simp; omega
    have hres : rightB m f ⟨24, a, b⟩ = true := by simp [rightB, CodeR.within] <;> omega
    rw [hres]
    go_enter Tryd.func81, Tryd.ntmps81
    go_wp2
    go_ret
    exact ⟨by first | rfl | simp [hres] | (simp; omega), by first | exact below_alloc (Below.refl _ _) _ (Nat.le_refl _) | exact below_drewN (below_alloc (Below.refl _ _) _ (Nat.le_refl _)) _⟩
  · have hb0 : decide (0 ≤ b) = true := by simp; omega
    have hb1 : decide (b ≤ 50) = true := by simp; omega
    have hres : rightB m f ⟨24, a, b⟩ = true := by simp [rightB, CodeR.within] <;> omega
    rw [hres]
    go_enter Tryd.func81, Tryd.ntmps81
    go_wp2
    go_ret
    exact ⟨by first | rfl | simp [hres] | (simp; omega), by first | exact below_alloc (Below.refl _ _) _ (Nat.le_refl _) | exact below_drewN (below_alloc (Below.refl _ _) _ (Nat.le_refl _)) _⟩
  · have hb0 : decide (0 ≤ b) = true := by simp; omega
    have hb1 : decide (b ≤ 50) = false := by simp; omega
    have hres : rightB m f ⟨24, a, b⟩ = true := by simp [rightB, CodeR.within] <;> omega
    rw [hres]
    go_enter Tryd.func81, Tryd.ntmps81
    go_wp2
    go_ret
    exact ⟨by first | rfl | simp [hres] | (simp; omega), by first | exact below_alloc (Below.refl _ _) _ (Nat.le_refl _) | exact below_drewN (below_alloc (Below.refl _ _) _ (Nat.le_refl _)) _⟩

end Go.Proofs.YthbkklnahhdgcaaDoor.CodeC2
