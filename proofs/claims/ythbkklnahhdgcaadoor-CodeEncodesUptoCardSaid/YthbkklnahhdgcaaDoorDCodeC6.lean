/-
  The contract of package code's right: is what an instruction names there? (an operation each)
-/
import Derived.Test.YthbkklnahhdgcaaDoorDMC
namespace Go.Proofs.YthbkklnahhdgcaaDoor.CodeC6
open Go Go.Proofs Go.RowKit Lib CodeR CodeA CodeB

set_option maxRecDepth 100000 in
set_option maxHeartbeats 4000000 in
theorem right_0 (mb mo fb fo : Nat) (m : Im) (f : Fc) (op : Int) (a b : Int) (w : World) (_hm : Row w mb mo m.vals) (_hi : ImIn w m) (_hf : Row w fb fo f.vals) (_hfi : FcIn w f) (hop : op < 1) :
    Calls Tryd.prog 81 #[.pointer (some ⟨mb, mo, none⟩), .pointer (some ⟨fb, fo, none⟩), .agg #[.int .i64 op, .int .i64 a, .int .i64 b]] w fun e w' => e = .returned (.bool (rightB m f ⟨op, a, b⟩)) ∧ Below w.heap.size w w' := by
  clear _hm _hi _hf _hfi
  have hbs : b < 0 ∨ (0 ≤ b ∧ b ≤ 50) ∨ 50 < b := by omega
  have k2 : (op == 2) = false := by simp; omega
  have k6 : (op == 6) = false := by simp; omega
  have k7 : (op == 7) = false := by simp; omega
  have k8 : (op == 8) = false := by simp; omega
  have k9 : (op == 9) = false := by simp; omega
  have k10 : (op == 10) = false := by simp; omega
  have k11 : (op == 11) = false := by simp; omega
  have k12 : (op == 12) = false := by simp; omega
  have k13 : (op == 13) = false := by simp; omega
  have k15 : (op == 15) = false := by simp; omega
  have k16 : (op == 16) = false := by simp; omega
  have k17 : (op == 17) = false := by simp; omega
  have k18 : (op == 18) = false := by simp; omega
  have k29 : (op == 29) = false := by simp; omega
  have k32 : (op == 32) = false := by simp; omega
  have k33 : (op == 33) = false := by simp; omega
  have k34 : (op == 34) = false := by simp; omega
  have k35 : (op == 35) = false := by simp; omega
  have k36 : (op == 36) = false := by simp; omega
  have k37 : (op == 37) = false := by simp; omega
  have k38 : (op == 38) = false := by simp; omega
  have k39 : (op == 39) = false := by simp; omega
  have hd0 : decide (1 ≤ op) = false := by simp; omega
  have hres : rightB m f ⟨op, a, b⟩ = false := by
    unfold rightB
    simp only
    repeat' split
    all_goals first | omega | (simp [CodeR.within]; omega)
  rw [hres]
  clear hres
  rcases hbs with hb | ⟨hb, hb'⟩ | hb
  · have hb0 : decide (0 ≤ b) = false := by simp; omega
    go_enter Tryd.func81, Tryd.ntmps81
    go_wp2
    go_ret
    exact ⟨by first | rfl | (simp; omega), by first | exact below_alloc (Below.refl _ _) _ (Nat.le_refl _) | exact below_drewN (below_alloc (Below.refl _ _) _ (Nat.le_refl _)) _⟩
  · have hb0 : decide (0 ≤ b) = true := by simp; omega
    have hb1 : decide (b ≤ 50) = true := by simp; omega
    go_enter Tryd.func81, Tryd.ntmps81
    go_wp2
    go_ret
    exact ⟨by first | rfl | (simp; omega), by first | exact below_alloc (Below.refl _ _) _ (Nat.le_refl _) | exact below_drewN (below_alloc (Below.refl _ _) _ (Nat.le_refl _)) _⟩
  · have hb0 : decide (0 ≤ b) = true := by simp; omega
    have hb1 : decide (b ≤ 50) = false := by simp; omega
    go_enter Tryd.func81, Tryd.ntmps81
    go_wp2
    go_ret
    exact ⟨by first | rfl | (simp; omega), by first | exact below_alloc (Below.refl _ _) _ (Nat.le_refl _) | exact below_drewN (below_alloc (Below.refl _ _) _ (Nat.le_refl _)) _⟩

set_option maxRecDepth 100000 in
set_option maxHeartbeats 4000000 in
theorem right_46 (mb mo fb fo : Nat) (m : Im) (f : Fc) (op : Int) (a b : Int) (w : World) (_hm : Row w mb mo m.vals) (_hi : ImIn w m) (_hf : Row w fb fo f.vals) (_hfi : FcIn w f) (hop : 45 < op) :
    Calls Tryd.prog 81 #[.pointer (some ⟨mb, mo, none⟩), .pointer (some ⟨fb, fo, none⟩), .agg #[.int .i64 op, .int .i64 a, .int .i64 b]] w fun e w' => e = .returned (.bool (rightB m f ⟨op, a, b⟩)) ∧ Below w.heap.size w w' := by
  clear _hm _hi _hf _hfi
  have hbs : b < 0 ∨ (0 ≤ b ∧ b ≤ 50) ∨ 50 < b := by omega
  have k2 : (op == 2) = false := by simp; omega
  have k6 : (op == 6) = false := by simp; omega
  have k7 : (op == 7) = false := by simp; omega
  have k8 : (op == 8) = false := by simp; omega
  have k9 : (op == 9) = false := by simp; omega
  have k10 : (op == 10) = false := by simp; omega
  have k11 : (op == 11) = false := by simp; omega
  have k12 : (op == 12) = false := by simp; omega
  have k13 : (op == 13) = false := by simp; omega
  have k15 : (op == 15) = false := by simp; omega
  have k16 : (op == 16) = false := by simp; omega
  have k17 : (op == 17) = false := by simp; omega
  have k18 : (op == 18) = false := by simp; omega
  have k29 : (op == 29) = false := by simp; omega
  have k32 : (op == 32) = false := by simp; omega
  have k33 : (op == 33) = false := by simp; omega
  have k34 : (op == 34) = false := by simp; omega
  have k35 : (op == 35) = false := by simp; omega
  have k36 : (op == 36) = false := by simp; omega
  have k37 : (op == 37) = false := by simp; omega
  have k38 : (op == 38) = false := by simp; omega
  have k39 : (op == 39) = false := by simp; omega
  have hd0 : decide (1 ≤ op) = true := by simp; omega
  have hd1 : decide (op < 46) = false := by simp; omega
  have hres : rightB m f ⟨op, a, b⟩ = false := by
    unfold rightB
    simp only
    repeat' split
    all_goals first | omega | (simp [CodeR.within]; omega)
  rw [hres]
  clear hres
  rcases hbs with hb | ⟨hb, hb'⟩ | hb
  · have hb0 : decide (0 ≤ b) = false := by simp; omega
    go_enter Tryd.func81, Tryd.ntmps81
    go_wp2
    go_ret
    exact ⟨by first | rfl | (simp; omega), by first | exact below_alloc (Below.refl _ _) _ (Nat.le_refl _) | exact below_drewN (below_alloc (Below.refl _ _) _ (Nat.le_refl _)) _⟩
  · have hb0 : decide (0 ≤ b) = true := by simp; omega
    have hb1 : decide (b ≤ 50) = true := by simp; omega
    go_enter Tryd.func81, Tryd.ntmps81
    go_wp2
    go_ret
    exact ⟨by first | rfl | (simp; omega), by first | exact below_alloc (Below.refl _ _) _ (Nat.le_refl _) | exact below_drewN (below_alloc (Below.refl _ _) _ (Nat.le_refl _)) _⟩
  · have hb0 : decide (0 ≤ b) = true := by simp; omega
    have hb1 : decide (b ≤ 50) = false := by simp; omega
    go_enter Tryd.func81, Tryd.ntmps81
    go_wp2
    go_ret
    exact ⟨by first | rfl | (simp; omega), by first | exact below_alloc (Below.refl _ _) _ (Nat.le_refl _) | exact below_drewN (below_alloc (Below.refl _ _) _ (Nat.le_refl _)) _⟩

end Go.Proofs.YthbkklnahhdgcaaDoor.CodeC6
