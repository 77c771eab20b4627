/-
  The contract of package code's right: is what an instruction names there? (an operation each)
-/
import Derived.Test.YthbkklnahhdgcaaDoorDMC
namespace Go.Proofs.YthbkklnahhdgcaaDoor.CodeC5
open Go Go.Proofs Go.RowKit Lib CodeR CodeA CodeB

set_option maxRecDepth 100000 in
set_option maxHeartbeats 4000000 in
theorem right_35 (mb mo fb fo : Nat) (m : Im) (f : Fc) (a b : Int) (w : World) (hm : Row w mb mo m.vals) (hi : ImIn w m) (_hf : Row w fb fo f.vals) (_hfi : FcIn w f) (hbx : -9223372036854775808 ≤ b ∧ b ≤ 9223372036854775807) :
    Calls Tryd.prog 81 #[.pointer (some ⟨mb, mo, none⟩), .pointer (some ⟨fb, fo, none⟩), .agg #[.int .i64 35, .int .i64 a, .int .i64 b]] w fun e w' => e = .returned (.bool (rightB m f ⟨35, a, b⟩)) ∧ Below w.heap.size w w' := by
  have c0 := (im_cells hm).2.2
  have hl := hi.classes.len
  rw [List.length_map] at hl
  unfold Sl.val at c0
  have d0 := alloc_cell c0
  have hT : ∀ ob n, Calls Tryd.prog 100 #[.pointer (some ⟨mb, mo, none⟩), .int .i64 a] ((w.alloc ob).drewN n) fun e w' => e = .returned (.bool (m.textB a)) ∧ w' = (w.alloc ob).drewN n :=
    fun ob n => text_any mb mo m a _ (hm.below (below_drewN (below_alloc (Below.refl w.heap.size w) ob (Nat.le_refl _)) n) (Nat.le_refl _)) (hi.below (below_drewN (below_alloc (Below.refl w.heap.size w) ob (Nat.le_refl _)) n) (Nat.le_refl _))
  clear hm hi _hf _hfi
  have hbs : b < 0 ∨ (0 ≤ b ∧ b ≤ 50) ∨ 50 < b := by omega
  have hq1 : 0 ≤ b → 0 ≤ b.tdiv 64 ∧ b.tdiv 64 ≤ b := fun h => ⟨Int.tdiv_nonneg h (by decide), by have := Int.tdiv_le_self (b := 64) h; omega⟩
  have hw : 0 ≤ b → IntKind.i64.wrap (b.tdiv 64) = b.tdiv 64 := fun h => wrap64_id (by have := hq1 h; omega) (by have := hq1 h; omega)
  have hr1 : 0 ≤ b → 0 ≤ b.tmod 64 ∧ b.tmod 64 < 64 := fun h => ⟨Int.tmod_nonneg _ h, Int.tmod_lt_of_pos _ (by decide)⟩
  rcases ht : m.textB a with _ | _
  · rw [ht] at hT
    rcases hbs with hb | ⟨hb, hb'⟩ | hb
    · have hb0 : decide (0 ≤ b) = false := by simp; omega
      have hres : rightB m f ⟨35, a, b⟩ = false := by simp [rightB, ht] <;> omega
      rw [hres]
      go_enter Tryd.func81, Tryd.ntmps81
      go_wp2
      go_quiet ((go_at_call 100; exact Calls.quiet_of_same (hT _ _)))
      go_wp2
      go_ret
      exact ⟨by first | rfl | simp [hres] | (simp; omega), by first | exact below_alloc (Below.refl _ _) _ (Nat.le_refl _) | exact below_drewN (below_alloc (Below.refl _ _) _ (Nat.le_refl _)) _⟩
    · have hb0 : decide (0 ≤ b) = true := by simp; omega
      have hb1 : decide (b ≤ 50) = true := by simp; omega
      have hres : rightB m f ⟨35, a, b⟩ = false := by simp [rightB, ht] <;> omega
      rw [hres]
      go_enter Tryd.func81, Tryd.ntmps81
      go_wp2
      go_quiet ((go_at_call 100; exact Calls.quiet_of_same (hT _ _)))
      go_wp2
      go_ret
      exact ⟨by first | rfl | simp [hres] | (simp; omega), by first | exact below_alloc (Below.refl _ _) _ (Nat.le_refl _) | exact below_drewN (below_alloc (Below.refl _ _) _ (Nat.le_refl _)) _⟩
    · have hb0 : decide (0 ≤ b) = true := by simp; omega
      have hb1 : decide (b ≤ 50) = false := by simp; omega
      have hres : rightB m f ⟨35, a, b⟩ = false := by simp [rightB, ht] <;> omega
      rw [hres]
      go_enter Tryd.func81, Tryd.ntmps81
      go_wp2
      go_quiet ((go_at_call 100; exact Calls.quiet_of_same (hT _ _)))
      go_wp2
      go_ret
      exact ⟨by first | rfl | simp [hres] | (simp; omega), by first | exact below_alloc (Below.refl _ _) _ (Nat.le_refl _) | exact below_drewN (below_alloc (Below.refl _ _) _ (Nat.le_refl _)) _⟩
  · rw [ht] at hT
    rcases hbs with hb | hb
    · have hb0 : decide (0 ≤ b) = false := by simp; omega
      have hres : rightB m f ⟨35, a, b⟩ = false := by simp [rightB, ht]; omega
      rw [hres]
      go_enter Tryd.func81, Tryd.ntmps81
      go_wp2
      go_quiet ((go_at_call 100; exact Calls.quiet_of_same (hT _ _)))
      go_wp2
      go_ret
      exact ⟨by first | rfl | simp [hres] | (simp; omega), by first | exact below_alloc (Below.refl _ _) _ (Nat.le_refl _) | exact below_drewN (below_alloc (Below.refl _ _) _ (Nat.le_refl _)) _⟩
    · have hbn : 0 ≤ b := by omega
      have hb0 : decide (0 ≤ b) = true := by simp; omega
      have ht1 : b.tdiv 64 = b / 64 := Int.tdiv_eq_ediv_of_nonneg hbn
      have ht2 : b.tmod 64 = b % 64 := Int.tmod_eq_emod_of_nonneg hbn
      clear hq1 hw hr1
      by_cases hb2 : b / 64 < (m.classes.length : Int)
      · have hd2 : decide (b / 64 < (m.classes.length : Int)) = true := by simp; omega
        have hres : rightB m f ⟨35, a, b⟩ = decide (b % 64 ≤ 50) := by simp [rightB, ht, hbn, ht1, ht2, hb2]
        rw [hres]
        have hbs : b < 0 ∨ (0 ≤ b ∧ b ≤ 50) ∨ 50 < b := by omega
        rcases hbs with hb | ⟨hb, hb'⟩ | hb
        · omega
        · have hb1 : decide (b ≤ 50) = true := by simp; omega
          go_enter Tryd.func81, Tryd.ntmps81
          go_wp2
          go_quiet ((go_at_call 100; exact Calls.quiet_of_same (hT _ _)))
          go_wp2
          go_ret
          exact ⟨by first | rfl | simp [hres] | (simp; omega), by first | exact below_alloc (Below.refl _ _) _ (Nat.le_refl _) | exact below_drewN (below_alloc (Below.refl _ _) _ (Nat.le_refl _)) _⟩
        · have hb1 : decide (b ≤ 50) = false := by simp; omega
          go_enter Tryd.func81, Tryd.ntmps81
          go_wp2
          go_quiet ((go_at_call 100; exact Calls.quiet_of_same (hT _ _)))
          go_wp2
          go_ret
          exact ⟨by first | rfl | simp [hres] | (simp; omega), by first | exact below_alloc (Below.refl _ _) _ (Nat.le_refl _) | exact below_drewN (below_alloc (Below.refl _ _) _ (Nat.le_refl _)) _⟩
      · have hd2 : decide (b / 64 < (m.classes.length : Int)) = false := by simp; omega
        have hres : rightB m f ⟨35, a, b⟩ = false := by simp [rightB, ht, hbn, ht1, hb2]
        rw [hres]
        have hbs : b < 0 ∨ (0 ≤ b ∧ b ≤ 50) ∨ 50 < b := by omega
        rcases hbs with hb | ⟨hb, hb'⟩ | hb
        · omega
        · have hb1 : decide (b ≤ 50) = true := by simp; omega
          go_enter Tryd.func81, Tryd.ntmps81
          go_wp2
          go_quiet ((go_at_call 100; exact Calls.quiet_of_same (hT _ _)))
          go_wp2
          go_ret
          exact ⟨by first | rfl | simp [hres] | (simp; omega), by first | exact below_alloc (Below.refl _ _) _ (Nat.le_refl _) | exact below_drewN (below_alloc (Below.refl _ _) _ (Nat.le_refl _)) _⟩
        · have hb1 : decide (b ≤ 50) = false := by simp; omega
          go_enter Tryd.func81, Tryd.ntmps81
          go_wp2
          go_quiet ((go_at_call 100; exact Calls.quiet_of_same (hT _ _)))
          go_wp2
          go_ret
          exact ⟨by first | rfl | simp [hres] | (simp; omega), by first | exact below_alloc (Below.refl _ _) _ (Nat.le_refl _) | exact below_drewN (below_alloc (Below.refl _ _) _ (Nat.le_refl _)) _⟩

end Go.Proofs.YthbkklnahhdgcaaDoor.CodeC5
