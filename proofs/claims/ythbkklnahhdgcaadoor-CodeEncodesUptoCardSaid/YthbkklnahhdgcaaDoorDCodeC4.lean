/-
  The contract of package code's right: is what an instruction names there? (an operation each)
-/
import Derived.Test.YthbkklnahhdgcaaDoorDMC
namespace Go.Proofs.YthbkklnahhdgcaaDoor.CodeC4
open Go Go.Proofs Go.RowKit Lib CodeR CodeA CodeB

set_option maxRecDepth 100000 in
set_option maxHeartbeats 4000000 in
theorem right_38 (mb mo fb fo : Nat) (m : Im) (f : Fc) (a b : Int) (w : World) (hm : Row w mb mo m.vals) (hi : ImIn w m) (_hf : Row w fb fo f.vals) (_hfi : FcIn w f) :
    Calls Tryd.prog 81 #[.pointer (some ⟨mb, mo, none⟩), .pointer (some ⟨fb, fo, none⟩), .agg #[.int .i64 38, .int .i64 a, .int .i64 b]] w fun e w' => e = .returned (.bool (rightB m f ⟨38, a, b⟩)) ∧ Below w.heap.size w w' := by
  have c0 := (im_cells hm).1
  have hl := hi.funcs.len
  have ha := hi.funcs.addr
  have hr := hi.funcs.row
  rw [List.length_map] at hl
  unfold Sl.val at c0
  clear hm hi _hf _hfi
  generalize hS : m.funcsS = S at *
  obtain ⟨oa, n, c, sb, so⟩ := S
  simp only at c0 hl ha hr
  have hbs : b < 0 ∨ (0 ≤ b ∧ b ≤ 50) ∨ 50 < b := by omega
  have has : a < 1 ∨ (1 ≤ a ∧ a < (m.funcs.length : Int)) ∨ (1 ≤ a ∧ (m.funcs.length : Int) ≤ a) := by omega
  rcases has with h0 | ⟨h0, h1⟩ | ⟨h0, h1⟩
  · have d0 := alloc_cell c0
    clear hr ha
    have hd0 : decide (0 < a) = false := by simp; omega
    rcases hbs with hb | ⟨hb, hb'⟩ | hb
    · have hb0 : decide (0 ≤ b) = false := by simp; omega
      have hres : rightB m f ⟨38, a, b⟩ = false := by simp [rightB, CodeR.within, fewB] <;> omega
      rw [hres]
      go_enter Tryd.func81, Tryd.ntmps81
      go_wp2
      go_quiet (fail)
      go_wp2
      go_ret
      exact ⟨by first | rfl | simp [hres] | (simp; omega), by first | exact below_alloc (Below.refl _ _) _ (Nat.le_refl _) | exact below_drewN (below_alloc (Below.refl _ _) _ (Nat.le_refl _)) _⟩
    · have hb0 : decide (0 ≤ b) = true := by simp; omega
      have hb1 : decide (b ≤ 50) = true := by simp; omega
      have hres : rightB m f ⟨38, a, b⟩ = false := by simp [rightB, CodeR.within, fewB] <;> omega
      rw [hres]
      go_enter Tryd.func81, Tryd.ntmps81
      go_wp2
      go_quiet (fail)
      go_wp2
      go_ret
      exact ⟨by first | rfl | simp [hres] | (simp; omega), by first | exact below_alloc (Below.refl _ _) _ (Nat.le_refl _) | exact below_drewN (below_alloc (Below.refl _ _) _ (Nat.le_refl _)) _⟩
    · have hb0 : decide (0 ≤ b) = true := by simp; omega
      have hb1 : decide (b ≤ 50) = false := by simp; omega
      have hres : rightB m f ⟨38, a, b⟩ = false := by simp [rightB, CodeR.within, fewB] <;> omega
      rw [hres]
      go_enter Tryd.func81, Tryd.ntmps81
      go_wp2
      go_quiet (fail)
      go_wp2
      go_ret
      exact ⟨by first | rfl | simp [hres] | (simp; omega), by first | exact below_alloc (Below.refl _ _) _ (Nat.le_refl _) | exact below_drewN (below_alloc (Below.refl _ _) _ (Nat.le_refl _)) _⟩
  · obtain ⟨x, hx⟩ := get_of_lt (l := m.funcs) (k := a) (by omega) h1
    obtain rfl := ha (by omega)
    have hc := hr a.toNat x.vals (by rw [List.getElem?_map, hx]; rfl) 1 _ rfl
    have d0 := alloc_cell c0
    have d1 := alloc_cell hc
    have h00 : 0 ≤ a := by omega
    have h1n : a < (n : Int) := by omega
    clear hr ha
    have hd0 : decide (0 < a) = true := by simp; omega
    have hd1 : decide (a < (m.funcs.length : Int)) = true := by simp; omega
    rcases hbs with hb | ⟨hb, hb'⟩ | hb
    · have hb0 : decide (0 ≤ b) = false := by simp; omega
      have hres : rightB m f ⟨38, a, b⟩ = false := by simp [rightB, CodeR.within, fewB, Im.paramsAt, hx] <;> omega
      rw [hres]
      go_enter Tryd.func81, Tryd.ntmps81
      go_wp2
      go_quiet (fail)
      go_wp2
      go_ret
      exact ⟨by first | rfl | simp [hres] | (simp; omega), by first | exact below_alloc (Below.refl _ _) _ (Nat.le_refl _) | exact below_drewN (below_alloc (Below.refl _ _) _ (Nat.le_refl _)) _⟩
    · have hb0 : decide (0 ≤ b) = true := by simp; omega
      have hb1 : decide (b ≤ 50) = true := by simp; omega
      have hres : rightB m f ⟨38, a, b⟩ = (x.params == b) := by simp [rightB, CodeR.within, fewB, Im.paramsAt, hx]; rw [Bool.eq_iff_iff]; simp; omega
      rw [hres]
      go_enter Tryd.func81, Tryd.ntmps81
      go_wp2
      go_quiet (fail)
      go_wp2
      go_ret
      exact ⟨by first | rfl | simp [hres] | (simp; omega), by first | exact below_alloc (Below.refl _ _) _ (Nat.le_refl _) | exact below_drewN (below_alloc (Below.refl _ _) _ (Nat.le_refl _)) _⟩
    · have hb0 : decide (0 ≤ b) = true := by simp; omega
      have hb1 : decide (b ≤ 50) = false := by simp; omega
      have hres : rightB m f ⟨38, a, b⟩ = false := by simp [rightB, CodeR.within, fewB, Im.paramsAt, hx] <;> omega
      rw [hres]
      go_enter Tryd.func81, Tryd.ntmps81
      go_wp2
      go_quiet (fail)
      go_wp2
      go_ret
      exact ⟨by first | rfl | simp [hres] | (simp; omega), by first | exact below_alloc (Below.refl _ _) _ (Nat.le_refl _) | exact below_drewN (below_alloc (Below.refl _ _) _ (Nat.le_refl _)) _⟩
  · have d0 := alloc_cell c0
    clear hr ha
    have hd0 : decide (0 < a) = true := by simp; omega
    have hd1 : decide (a < (m.funcs.length : Int)) = false := by simp; omega
    rcases hbs with hb | ⟨hb, hb'⟩ | hb
    · have hb0 : decide (0 ≤ b) = false := by simp; omega
      have hres : rightB m f ⟨38, a, b⟩ = false := by simp [rightB, CodeR.within, fewB] <;> omega
      rw [hres]
      go_enter Tryd.func81, Tryd.ntmps81
      go_wp2
      go_quiet (fail)
      go_wp2
      go_ret
      exact ⟨by first | rfl | simp [hres] | (simp; omega), by first | exact below_alloc (Below.refl _ _) _ (Nat.le_refl _) | exact below_drewN (below_alloc (Below.refl _ _) _ (Nat.le_refl _)) _⟩
    · have hb0 : decide (0 ≤ b) = true := by simp; omega
      have hb1 : decide (b ≤ 50) = true := by simp; omega
      have hres : rightB m f ⟨38, a, b⟩ = false := by simp [rightB, CodeR.within, fewB] <;> omega
      rw [hres]
      go_enter Tryd.func81, Tryd.ntmps81
      go_wp2
      go_quiet (fail)
      go_wp2
      go_ret
      exact ⟨by first | rfl | simp [hres] | (simp; omega), by first | exact below_alloc (Below.refl _ _) _ (Nat.le_refl _) | exact below_drewN (below_alloc (Below.refl _ _) _ (Nat.le_refl _)) _⟩
    · have hb0 : decide (0 ≤ b) = true := by simp; omega
      have hb1 : decide (b ≤ 50) = false := by simp; omega
      have hres : rightB m f ⟨38, a, b⟩ = false := by simp [rightB, CodeR.within, fewB] <;> omega
      rw [hres]
      go_enter Tryd.func81, Tryd.ntmps81
      go_wp2
      go_quiet (fail)
      go_wp2
      go_ret
      exact ⟨by first | rfl | simp [hres] | (simp; omega), by first | exact below_alloc (Below.refl _ _) _ (Nat.le_refl _) | exact below_drewN (below_alloc (Below.refl _ _) _ (Nat.le_refl _)) _⟩

set_option maxRecDepth 100000 in
set_option maxHeartbeats 4000000 in
theorem right_39 (mb mo fb fo : Nat) (m : Im) (f : Fc) (a b : Int) (w : World) (hm : Row w mb mo m.vals) (hi : ImIn w m) (_hf : Row w fb fo f.vals) (_hfi : FcIn w f) :
    Calls Tryd.prog 81 #[.pointer (some ⟨mb, mo, none⟩), .pointer (some ⟨fb, fo, none⟩), .agg #[.int .i64 39, .int .i64 a, .int .i64 b]] w fun e w' => e = .returned (.bool (rightB m f ⟨39, a, b⟩)) ∧ Below w.heap.size w w' := by
  have c0 := (im_cells hm).1
  have hl := hi.funcs.len
  rw [List.length_map] at hl
  unfold Sl.val at c0
  have d0 := alloc_cell c0
  clear hm hi _hf _hfi
  have hbs : b < 0 ∨ (0 ≤ b ∧ b ≤ 50) ∨ 50 < b := by omega
  have has : a < 1 ∨ (1 ≤ a ∧ a < (m.funcs.length : Int)) ∨ (1 ≤ a ∧ (m.funcs.length : Int) ≤ a) := by omega
  rcases has with h0 | ⟨h0, h1⟩ | ⟨h0, h1⟩
  · have hd0 : decide (0 < a) = false := by simp; omega
    rcases hbs with hb | ⟨hb, hb'⟩ | hb
    · have hb0 : decide (0 ≤ b) = false := by simp; omega
      have hres : rightB m f ⟨39, a, b⟩ = false := by simp [rightB, CodeR.within, fewB] <;> omega
      rw [hres]
      go_enter Tryd.func81, Tryd.ntmps81
      go_wp2
      go_quiet (fail)
      go_wp2
      go_ret
      exact ⟨by first | rfl | simp [hres] | (simp; omega), by first | exact below_alloc (Below.refl _ _) _ (Nat.le_refl _) | exact below_drewN (below_alloc (Below.refl _ _) _ (Nat.le_refl _)) _⟩
    · have hb0 : decide (0 ≤ b) = true := by simp; omega
      have hb1 : decide (b ≤ 50) = true := by simp; omega
      have hres : rightB m f ⟨39, a, b⟩ = false := by simp [rightB, CodeR.within, fewB] <;> omega
      rw [hres]
      go_enter Tryd.func81, Tryd.ntmps81
      go_wp2
      go_quiet (fail)
      go_wp2
      go_ret
      exact ⟨by first | rfl | simp [hres] | (simp; omega), by first | exact below_alloc (Below.refl _ _) _ (Nat.le_refl _) | exact below_drewN (below_alloc (Below.refl _ _) _ (Nat.le_refl _)) _⟩
    · have hb0 : decide (0 ≤ b) = true := by simp; omega
      have hb1 : decide (b ≤ 50) = false := by simp; omega
      have hres : rightB m f ⟨39, a, b⟩ = false := by simp [rightB, CodeR.within, fewB] <;> omega
      rw [hres]
      go_enter Tryd.func81, Tryd.ntmps81
      go_wp2
      go_quiet (fail)
      go_wp2
      go_ret
      exact ⟨by first | rfl | simp [hres] | (simp; omega), by first | exact below_alloc (Below.refl _ _) _ (Nat.le_refl _) | exact below_drewN (below_alloc (Below.refl _ _) _ (Nat.le_refl _)) _⟩
  · have hd0 : decide (0 < a) = true := by simp; omega
    have hd1 : decide (a < (m.funcs.length : Int)) = true := by simp; omega
    rcases hbs with hb | ⟨hb, hb'⟩ | hb
    · have hb0 : decide (0 ≤ b) = false := by simp; omega
      have hres : rightB m f ⟨39, a, b⟩ = false := by simp [rightB, CodeR.within, fewB] <;> omega
      rw [hres]
      go_enter Tryd.func81, Tryd.ntmps81
      go_wp2
      go_quiet (fail)
      go_wp2
      go_ret
      exact ⟨by first | rfl | simp [hres] | (simp; omega), by first | exact below_alloc (Below.refl _ _) _ (Nat.le_refl _) | exact below_drewN (below_alloc (Below.refl _ _) _ (Nat.le_refl _)) _⟩
    · have hb0 : decide (0 ≤ b) = true := by simp; omega
      have hb1 : decide (b ≤ 50) = true := by simp; omega
      have hres : rightB m f ⟨39, a, b⟩ = true := by simp [rightB, CodeR.within, fewB] <;> omega
      rw [hres]
      go_enter Tryd.func81, Tryd.ntmps81
      go_wp2
      go_quiet (fail)
      go_wp2
      go_ret
      exact ⟨by first | rfl | simp [hres] | (simp; omega), by first | exact below_alloc (Below.refl _ _) _ (Nat.le_refl _) | exact below_drewN (below_alloc (Below.refl _ _) _ (Nat.le_refl _)) _⟩
    · have hb0 : decide (0 ≤ b) = true := by simp; omega
      have hb1 : decide (b ≤ 50) = false := by simp; omega
      have hres : rightB m f ⟨39, a, b⟩ = false := by simp [rightB, CodeR.within, fewB] <;> omega
      rw [hres]
      go_enter Tryd.func81, Tryd.ntmps81
      go_wp2
      go_quiet (fail)
      go_wp2
      go_ret
      exact ⟨by first | rfl | simp [hres] | (simp; omega), by first | exact below_alloc (Below.refl _ _) _ (Nat.le_refl _) | exact below_drewN (below_alloc (Below.refl _ _) _ (Nat.le_refl _)) _⟩
  · have hd0 : decide (0 < a) = true := by simp; omega
    have hd1 : decide (a < (m.funcs.length : Int)) = false := by simp; omega
    rcases hbs with hb | ⟨hb, hb'⟩ | hb
    · have hb0 : decide (0 ≤ b) = false := by simp; omega
      have hres : rightB m f ⟨39, a, b⟩ = false := by simp [rightB, CodeR.within, fewB] <;> omega
      rw [hres]
      go_enter Tryd.func81, Tryd.ntmps81
      go_wp2
      go_quiet (fail)
      go_wp2
      go_ret
      exact ⟨by first | rfl | simp [hres] | (simp; omega), by first | exact below_alloc (Below.refl _ _) _ (Nat.le_refl _) | exact below_drewN (below_alloc (Below.refl _ _) _ (Nat.le_refl _)) _⟩
    · have hb0 : decide (0 ≤ b) = true := by simp; omega
      have hb1 : decide (b ≤ 50) = true := by simp; omega
      have hres : rightB m f ⟨39, a, b⟩ = false := by simp [rightB, CodeR.within, fewB] <;> omega
      rw [hres]
      go_enter Tryd.func81, Tryd.ntmps81
      go_wp2
      go_quiet (fail)
      go_wp2
      go_ret
      exact ⟨by first | rfl | simp [hres] | (simp; omega), by first | exact below_alloc (Below.refl _ _) _ (Nat.le_refl _) | exact below_drewN (below_alloc (Below.refl _ _) _ (Nat.le_refl _)) _⟩
    · have hb0 : decide (0 ≤ b) = true := by simp; omega
      have hb1 : decide (b ≤ 50) = false := by simp; omega
      have hres : rightB m f ⟨39, a, b⟩ = false := by simp [rightB, CodeR.within, fewB] <;> omega
      rw [hres]
      go_enter Tryd.func81, Tryd.ntmps81
      go_wp2
      go_quiet (fail)
      go_wp2
      go_ret
      exact ⟨by first | rfl | simp [hres] | (simp; omega), by first | exact below_alloc (Below.refl _ _) _ (Nat.le_refl _) | exact below_drewN (below_alloc (Below.refl _ _) _ (Nat.le_refl _)) _⟩

set_option maxRecDepth 100000 in
set_option maxHeartbeats 4000000 in
theorem right_40 (mb mo fb fo : Nat) (m : Im) (f : Fc) (a b : Int) (w : World) (_hm : Row w mb mo m.vals) (_hi : ImIn w m) (_hf : Row w fb fo f.vals) (_hfi : FcIn w f) :
    Calls Tryd.prog 81 #[.pointer (some ⟨mb, mo, none⟩), .pointer (some ⟨fb, fo, none⟩), .agg #[.int .i64 40, .int .i64 a, .int .i64 b]] w fun e w' => e = .returned (.bool (rightB m f ⟨40, a, b⟩)) ∧ Below w.heap.size w w' := by
  clear _hm _hi _hf _hfi
  have hbs : b < 0 ∨ (0 ≤ b ∧ b ≤ 50) ∨ 50 < b := by omega
  rcases hbs with hb | ⟨hb, hb'⟩ | hb
  · have hb0 : decide (0 ≤ b) = false := by simp; omega
    have hres : rightB m f ⟨40, a, b⟩ = true := by simp [rightB, CodeR.within] <;> omega
    rw [hres]
    go_enter Tryd.func81, Tryd.ntmps81
    go_wp2
    go_ret
    exact ⟨by first | rfl | simp [hres] | (simp; omega), by first | exact below_alloc (Below.refl _ _) _ (Nat.le_refl _) | exact below_drewN (below_alloc (Below.refl _ _) _ (Nat.le_refl _)) _⟩
  · have hb0 : decide (0 ≤ b) = true := by simp; omega
    have hb1 : decide (b ≤ 50) = true := by simp; omega
    have hres : rightB m f ⟨40, a, b⟩ = true := by simp [rightB, CodeR.within] <;> omega
    rw [hres]
    go_enter Tryd.func81, Tryd.ntmps81
    go_wp2
    go_ret
    exact ⟨by first | rfl | simp [hres] | (simp; omega), by first | exact below_alloc (Below.refl _ _) _ (Nat.le_refl _) | exact below_drewN (below_alloc (Below.refl _ _) _ (Nat.le_refl _)) _⟩
  · have hb0 : decide (0 ≤ b) = true := by simp; omega
    have hb1 : decide (b ≤ 50) = false := by simp; omega
    have hres : rightB m f ⟨40, a, b⟩ = true := by simp [rightB, CodeR.within] <;> omega
    rw [hres]
    go_enter Tryd.func81, Tryd.ntmps81
    go_wp2
    go_ret
    exact ⟨by first | rfl | simp [hres] | (simp; omega), by first | exact below_alloc (Below.refl _ _) _ (Nat.le_refl _) | exact below_drewN (below_alloc (Below.refl _ _) _ (Nat.le_refl _)) _⟩

set_option maxRecDepth 100000 in
set_option maxHeartbeats 4000000 in
theorem right_41 (mb mo fb fo : Nat) (m : Im) (f : Fc) (a b : Int) (w : World) (_hm : Row w mb mo m.vals) (_hi : ImIn w m) (_hf : Row w fb fo f.vals) (_hfi : FcIn w f) :
    Calls Tryd.prog 81 #[.pointer (some ⟨mb, mo, none⟩), .pointer (some ⟨fb, fo, none⟩), .agg #[.int .i64 41, .int .i64 a, .int .i64 b]] w fun e w' => e = .returned (.bool (rightB m f ⟨41, a, b⟩)) ∧ Below w.heap.size w w' := by
  clear _hm _hi _hf _hfi
  have hbs : b < 0 ∨ (0 ≤ b ∧ b ≤ 50) ∨ 50 < b := by omega
  rcases hbs with hb | ⟨hb, hb'⟩ | hb
  · have hb0 : decide (0 ≤ b) = false := by simp; omega
    have hres : rightB m f ⟨41, a, b⟩ = true := by simp [rightB, CodeR.within] <;> omega
    rw [hres]
    go_enter Tryd.func81, Tryd.ntmps81
    go_wp2
    go_ret
    exact ⟨by first | rfl | simp [hres] | (simp; omega), by first | exact below_alloc (Below.refl _ _) _ (Nat.le_refl _) | exact below_drewN (below_alloc (Below.refl _ _) _ (Nat.le_refl _)) _⟩
  · have hb0 : decide (0 ≤ b) = true := by simp; omega
    have hb1 : decide (b ≤ 50) = true := by simp; omega
    have hres : rightB m f ⟨41, a, b⟩ = true := by simp [rightB, CodeR.within] <;> omega
    rw [hres]
    go_enter Tryd.func81, Tryd.ntmps81
    go_wp2
    go_ret
    exact ⟨by first | rfl | simp [hres] | (simp; omega), by first | exact below_alloc (Below.refl _ _) _ (Nat.le_refl _) | exact below_drewN (below_alloc (Below.refl _ _) _ (Nat.le_refl _)) _⟩
  · have hb0 : decide (0 ≤ b) = true := by simp; omega
    have hb1 : decide (b ≤ 50) = false := by simp; omega
    have hres : rightB m f ⟨41, a, b⟩ = true := by simp [rightB, CodeR.within] <;> omega
    rw [hres]
    go_enter Tryd.func81, Tryd.ntmps81
    go_wp2
    go_ret
    exact ⟨by first | rfl | simp [hres] | (simp; omega), by first | exact below_alloc (Below.refl _ _) _ (Nat.le_refl _) | exact below_drewN (below_alloc (Below.refl _ _) _ (Nat.le_refl _)) _⟩

set_option maxRecDepth 100000 in
set_option maxHeartbeats 4000000 in
theorem right_42 (mb mo fb fo : Nat) (m : Im) (f : Fc) (a b : Int) (w : World) (_hm : Row w mb mo m.vals) (_hi : ImIn w m) (_hf : Row w fb fo f.vals) (_hfi : FcIn w f) :
    Calls Tryd.prog 81 #[.pointer (some ⟨mb, mo, none⟩), .pointer (some ⟨fb, fo, none⟩), .agg #[.int .i64 42, .int .i64 a, .int .i64 b]] w fun e w' => e = .returned (.bool (rightB m f ⟨42, a, b⟩)) ∧ Below w.heap.size w w' := by
  clear _hm _hi _hf _hfi
  have hbs : b < 0 ∨ (0 ≤ b ∧ b ≤ 50) ∨ 50 < b := by omega
  rcases hbs with hb | ⟨hb, hb'⟩ | hb
  · have hb0 : decide (0 ≤ b) = false := by simp; omega
    have hres : rightB m f ⟨42, a, b⟩ = true := by simp [rightB, CodeR.within] <;> omega
    rw [hres]
    go_enter Tryd.func81, Tryd.ntmps81
    go_wp2
    go_ret
    exact ⟨by first | rfl | simp [hres] | (simp; omega), by first | exact below_alloc (Below.refl _ _) _ (Nat.le_refl _) | exact below_drewN (below_alloc (Below.refl _ _) _ (Nat.le_refl _)) _⟩
  · have hb0 : decide (0 ≤ b) = true := by simp; omega
    have hb1 : decide (b ≤ 50) = true := by simp; omega
    have hres : rightB m f ⟨42, a, b⟩ = true := by simp [rightB, CodeR.within] <;> omega
    rw [hres]
    go_enter Tryd.func81, Tryd.ntmps81
    go_wp2
    go_ret
    exact ⟨by first | rfl | simp [hres] | (simp; omega), by first | exact below_alloc (Below.refl _ _) _ (Nat.le_refl _) | exact below_drewN (below_alloc (Below.refl _ _) _ (Nat.le_refl _)) _⟩
  · have hb0 : decide (0 ≤ b) = true := by simp; omega
    have hb1 : decide (b ≤ 50) = false := by simp; omega
    have hres : rightB m f ⟨42, a, b⟩ = true := by simp [rightB, CodeR.within] <;> omega
    rw [hres]
    go_enter Tryd.func81, Tryd.ntmps81
    go_wp2
    go_ret
    exact ⟨by first | rfl | simp [hres] | (simp; omega), by first | exact below_alloc (Below.refl _ _) _ (Nat.le_refl _) | exact below_drewN (below_alloc (Below.refl _ _) _ (Nat.le_refl _)) _⟩

set_option maxRecDepth 100000 in
set_option maxHeartbeats 4000000 in
theorem right_43 (mb mo fb fo : Nat) (m : Im) (f : Fc) (a b : Int) (w : World) (_hm : Row w mb mo m.vals) (_hi : ImIn w m) (_hf : Row w fb fo f.vals) (_hfi : FcIn w f) :
    Calls Tryd.prog 81 #[.pointer (some ⟨mb, mo, none⟩), .pointer (some ⟨fb, fo, none⟩), .agg #[.int .i64 43, .int .i64 a, .int .i64 b]] w fun e w' => e = .returned (.bool (rightB m f ⟨43, a, b⟩)) ∧ Below w.heap.size w w' := by
  clear _hm _hi _hf _hfi
  have hbs : b < 0 ∨ (0 ≤ b ∧ b ≤ 50) ∨ 50 < b := by omega
  rcases hbs with hb | ⟨hb, hb'⟩ | hb
  · have hb0 : decide (0 ≤ b) = false := by simp; omega
    have hres : rightB m f ⟨43, a, b⟩ = true := by simp [rightB, CodeR.within] <;> omega
    rw [hres]
    go_enter Tryd.func81, Tryd.ntmps81
    go_wp2
    go_ret
    exact ⟨by first | rfl | simp [hres] | (simp; omega), by first | exact below_alloc (Below.refl _ _) _ (Nat.le_refl _) | exact below_drewN (below_alloc (Below.refl _ _) _ (Nat.le_refl _)) _⟩
  · have hb0 : decide (0 ≤ b) = true := by simp; omega
    have hb1 : decide (b ≤ 50) = true := by simp; omega
    have hres : rightB m f ⟨43, a, b⟩ = true := by simp [rightB, CodeR.within] <;> omega
    rw [hres]
    go_enter Tryd.func81, Tryd.ntmps81
    go_wp2
    go_ret
    exact ⟨by first | rfl | simp [hres] | (simp; omega), by first | exact below_alloc (Below.refl _ _) _ (Nat.le_refl _) | exact below_drewN (below_alloc (Below.refl _ _) _ (Nat.le_refl _)) _⟩
  · have hb0 : decide (0 ≤ b) = true := by simp; omega
    have hb1 : decide (b ≤ 50) = false := by simp; omega
    have hres : rightB m f ⟨43, a, b⟩ = true := by simp [rightB, CodeR.within] <;> omega
    rw [hres]
    go_enter Tryd.func81, Tryd.ntmps81
    go_wp2
    go_ret
    exact ⟨by first | rfl | simp [hres] | (simp; omega), by first | exact below_alloc (Below.refl _ _) _ (Nat.le_refl _) | exact below_drewN (below_alloc (Below.refl _ _) _ (Nat.le_refl _)) _⟩

set_option maxRecDepth 100000 in
set_option maxHeartbeats 4000000 in
theorem right_44 (mb mo fb fo : Nat) (m : Im) (f : Fc) (a b : Int) (w : World) (_hm : Row w mb mo m.vals) (_hi : ImIn w m) (_hf : Row w fb fo f.vals) (_hfi : FcIn w f) :
    Calls Tryd.prog 81 #[.pointer (some ⟨mb, mo, none⟩), .pointer (some ⟨fb, fo, none⟩), .agg #[.int .i64 44, .int .i64 a, .int .i64 b]] w fun e w' => e = .returned (.bool (rightB m f ⟨44, a, b⟩)) ∧ Below w.heap.size w w' := by
  clear _hm _hi _hf _hfi
  have hbs : b < 0 ∨ (0 ≤ b ∧ b ≤ 50) ∨ 50 < b := by omega
  rcases hbs with hb | ⟨hb, hb'⟩ | hb
  · have hb0 : decide (0 ≤ b) = false := by simp; omega
    have hres : rightB m f ⟨44, a, b⟩ = true := by simp [rightB, CodeR.within] <;> omega
    rw [hres]
    go_enter Tryd.func81, Tryd.ntmps81
    go_wp2
    go_ret
    exact ⟨by first | rfl | simp [hres] | (simp; omega), by first | exact below_alloc (Below.refl _ _) _ (Nat.le_refl _) | exact below_drewN (below_alloc (Below.refl _ _) _ (Nat.le_refl _)) _⟩
  · have hb0 : decide (0 ≤ b) = true := by simp; omega
    have hb1 : decide (b ≤ 50) = true := by simp; omega
    have hres : rightB m f ⟨44, a, b⟩ = true := by simp [rightB, CodeR.within] <;> omega
    rw [hres]
    go_enter Tryd.func81, Tryd.ntmps81
    go_wp2
    go_ret
    exact ⟨by first | rfl | simp [hres] | (simp; omega), by first | exact below_alloc (Below.refl _ _) _ (Nat.le_refl _) | exact below_drewN (below_alloc (Below.refl _ _) _ (Nat.le_refl _)) _⟩
  · have hb0 : decide (0 ≤ b) = true := by simp; omega
    have hb1 : decide (b ≤ 50) = false := by simp; omega
    have hres : rightB m f ⟨44, a, b⟩ = true := by simp [rightB, CodeR.within] <;> omega
    rw [hres]
    go_enter Tryd.func81, Tryd.ntmps81
    go_wp2
    go_ret
    exact ⟨by first | rfl | simp [hres] | (simp; omega), by first | exact below_alloc (Below.refl _ _) _ (Nat.le_refl _) | exact below_drewN (below_alloc (Below.refl _ _) _ (Nat.le_refl _)) _⟩

set_option maxRecDepth 100000 in
set_option maxHeartbeats 4000000 in
theorem right_45 (mb mo fb fo : Nat) (m : Im) (f : Fc) (a b : Int) (w : World) (_hm : Row w mb mo m.vals) (_hi : ImIn w m) (_hf : Row w fb fo f.vals) (_hfi : FcIn w f) :
    Calls Tryd.prog 81 #[.pointer (some ⟨mb, mo, none⟩), .pointer (some ⟨fb, fo, none⟩), .agg #[.int .i64 45, .int .i64 a, .int .i64 b]] w fun e w' => e = .returned (.bool (rightB m f ⟨45, a, b⟩)) ∧ Below w.heap.size w w' := by
  clear _hm _hi _hf _hfi
  have hbs : b < 0 ∨ (0 ≤ b ∧ b ≤ 50) ∨ 50 < b := by omega
  rcases hbs with hb | ⟨hb, hb'⟩ | hb
  · have hb0 : decide (0 ≤ b) = false := by simp; omega
    have hres : rightB m f ⟨45, a, b⟩ = true := by simp [rightB, CodeR.within] <;> omega
    rw [hres]
    go_enter Tryd.func81, Tryd.ntmps81
    go_wp2
    go_ret
    exact ⟨by first | rfl | simp [hres] | (simp; omega), by first | exact below_alloc (Below.refl _ _) _ (Nat.le_refl _) | exact below_drewN (below_alloc (Below.refl _ _) _ (Nat.le_refl _)) _⟩
  · have hb0 : decide (0 ≤ b) = true := by simp; omega
    have hb1 : decide (b ≤ 50) = true := by simp; omega
    have hres : rightB m f ⟨45, a, b⟩ = true := by simp [rightB, CodeR.within] <;> omega
    rw [hres]
    go_enter Tryd.func81, Tryd.ntmps81
    go_wp2
    go_ret
    exact ⟨by first | rfl | simp [hres] | (simp; omega), by first | exact below_alloc (Below.refl _ _) _ (Nat.le_refl _) | exact below_drewN (below_alloc (Below.refl _ _) _ (Nat.le_refl _)) _⟩
  · have hb0 : decide (0 ≤ b) = true := by simp; omega
    have hb1 : decide (b ≤ 50) = false := by simp; omega
    have hres : rightB m f ⟨45, a, b⟩ = true := by simp [rightB, CodeR.within] <;> omega
    rw [hres]
    go_enter Tryd.func81, Tryd.ntmps81
    go_wp2
    go_ret
    exact ⟨by first | rfl | simp [hres] | (simp; omega), by first | exact below_alloc (Below.refl _ _) _ (Nat.le_refl _) | exact below_drewN (below_alloc (Below.refl _ _) _ (Nat.le_refl _)) _⟩

end Go.Proofs.YthbkklnahhdgcaaDoor.CodeC4
