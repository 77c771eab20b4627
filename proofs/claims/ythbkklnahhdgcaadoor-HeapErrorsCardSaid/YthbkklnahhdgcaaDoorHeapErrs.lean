/-
  The walk of rewindlaw.HeapErrors: for every a and i it answers true, and nothing that was there has turned.
-/
import Derived.Test.YthbkklnahhdgcaaDoorHeapB
import Derived.Test.YthbkklnahhdgcaaDoorHeapD
import Derived.Test.YthbkklnahhdgcaaDoorHeapG
import Derived.Test.YthbkklnahhdgcaaDoorHeapH
import Derived.Test.YthbkklnahhdgcaaDoorErrC
import Derived.Lib.Hide
namespace Go.Proofs.YthbkklnahhdgcaaDoor.HeapErrs
open Go Go.RowKit Go.Proofs.YthbkklnahhdgcaaDoor.Lib Go.Proofs.YthbkklnahhdgcaaDoor.HeapR Go.Proofs.YthbkklnahhdgcaaDoor.HeapB Go.Proofs.YthbkklnahhdgcaaDoor.HeapC Go.Proofs.YthbkklnahhdgcaaDoor.HeapD Go.Proofs.YthbkklnahhdgcaaDoor.HeapG Go.Proofs.YthbkklnahhdgcaaDoor.HeapH Go.Proofs.YthbkklnahhdgcaaDoor.ErrC

def H0 : HS := fresh 10 10
def H1 : HS := H0.alloc 2 7 2
def H2 : HS := H1.setN (0 + 1 + 0 : Int).toNat 4 0 ⟨#[]⟩

theorem h0_none (a : Int) : H0.head a = none := by
  unfold HS.head HS.raw
  by_cases h0 : a < 0
  · simp [h0]
  by_cases h1 : a < (H0.room : Int)
  · have : ¬ a < (H0.top : Int) := by simp only [H0, fresh]; omega
    simp [h0, h1, this]
  · simp [h0, H0, fresh]
theorem h1_head : H1.head 0 = some ⟨2, 7, 1, 2, 0, 0, ⟨#[]⟩, 0⟩ := by rfl
theorem h1_raw : H1.raw (0 + 1 + 0) = some HCell.zero := by rfl
theorem h2_head : H2.head 0 = some ⟨2, 7, 1, 2, 0, 0, ⟨#[]⟩, 0⟩ := by rfl
theorem h2_raw : H2.raw (0 + 1 + 1) = some HCell.zero := by rfl
theorem h2_neg : H2.head (-1) = none := by rfl

theorem eqv : ∀ w : World, (binOp .eql 28 (.agg #[.int .i64 0, .int .i64 0, .string ⟨#[]⟩]) (.agg #[.int .i64 0, .int .i64 0, .string ⟨#[]⟩])).run Tryd.prog w = .ok (.bool true) w := fun w => by kernel_rfl

set_option maxRecDepth 100000 in
set_option maxHeartbeats 4000000 in
theorem law (a i : Int) (w : World) (ha : a ≤ 9223372036854775807) (hg : EtIs w) :
    Calls Tryd.prog 3 #[.int .i64 a, .int .i64 i] w fun e w' => e = .returned (.bool true) ∧ Below w.heap.size w w' := by
  have hl : 1 < w.heap.size := World.block_lt_of_cell? w _ hg
  go_enter Tryd.func3, Tryd.ntmps3
  go_wp2_with fail
  refine (new_ok 10 10 _ (by omega) (by omega) (by omega) (by omega)).mono ?_
  rintro e w1 ⟨rfl, hr, hb1⟩
  have hr1 : HR w1 (w.heap.size + 2) w.heap.size (w.heap.size + 1) (.slice none 0 0) (.slice none 0 0) w.heap.size H0 := hr
  clear hr
  go_wp2_with fail
  refine (get_missing hr1 a i ha (h0_none a)).mono ?_
  rintro e w2 ⟨rfl, hb2⟩
  go_wp2_with fail
  have hr2 := (hr1.below hb2).below ((Below.refl _ w2).alloc (Nat.le_refl _) (.cells #[.int .i64 0, .int .i64 0, .string ByteArray.empty] 28))
  refine (set_missing hr2 a i ha 0 0 ⟨#[]⟩ (h0_none a)).mono ?_
  rintro e w3 ⟨rfl, hb3⟩
  have hr3 := hr2.below hb3
  have hB3 : Below w.heap.size w w3 := (hb1.trans (hb2.mono hb1.size)).trans (((Below.refl w2.heap.size w2).alloc (Nat.le_refl _) _).trans (hb3.mono (by simp)) |>.mono (Nat.le_trans hb1.size hb2.size))
  clear hr1 hr2 hb1 hb2 hb3
  go_wp2_with fail
  have c4 : Calls Tryd.prog 13 #[.pointer (some ⟨w.heap.size + 2, 0, none⟩), .int .i64 2, .int .i64 7, .int .i64 2] w3 fun e w' => e = .returned (.tuple #[.int .i64 0, .nilIface]) ∧ HR w' (w.heap.size + 2) w.heap.size (w.heap.size + 1) (.slice none 0 0) (.slice none 0 0) w.heap.size H1 ∧ Turned (fun k => k = w.heap.size + 2 ∨ k = w.heap.size ∨ k = w.heap.size + 1) w3 w' :=
    alloc_id hr3 2 7 2 (by omega) (by omega) (by omega) (by show 0 + 1 + 2 ≤ 10; omega) (by omega) (by show ((0 : Nat) : Int) < _; omega)
  refine c4.mono ?_
  rintro e w4 ⟨rfl, hr4, ht4⟩
  have hB4 : Below w.heap.size w w4 := hB3.trans (ht4.below hB3.size (by rintro k (rfl | rfl | rfl) <;> omega))
  clear c4 ht4 hr3 hB3
  go_wp2_with fail
  have c5 : Calls Tryd.prog 12 #[.pointer (some ⟨w.heap.size + 2, 0, none⟩), .int .i64 0, .int .i64 0, .agg #[.int .i64 4, .int .i64 0, .string ⟨#[]⟩]] w4 fun e w' => e = .returned .nilIface ∧ HR w' (w.heap.size + 2) w.heap.size (w.heap.size + 1) (.slice none 0 0) (.slice none 0 0) w.heap.size H2 ∧ Turned (fun k => k = w.heap.size) w4 w' :=
    set_nur_ref hr4 0 0 (by omega) (by show (0 : Int) < ((10 : Nat) : Int); omega) (by omega) 0 ⟨#[]⟩ _ _ h1_head (by omega) (by show (0 : Int) < 2; omega) h1_raw (by show (0 + 1 + 0 : Int) < ((10 : Nat) : Int); omega) _ (by omega) h1_head
  refine c5.mono ?_
  rintro e w5 ⟨rfl, hr5, ht5⟩
  have hB5 : Below w.heap.size w w5 := hB4.trans (ht5.below hB4.size (by rintro k rfl; omega))
  clear c5 ht5 hr4 hB4
  go_wp2_with fail
  refine (set_dangling hr5 0 1 (by omega) (by omega) (-1) ⟨#[]⟩ _ _ h2_head (by omega) (by show (1 : Int) < 2; omega) h2_raw (by omega) h2_neg).mono ?_
  rintro e w6 ⟨rfl, hb6⟩
  have hr6 := hr5.below hb6
  have hB6 : Below w.heap.size w w6 := hB5.trans (hb6.mono hB5.size)
  clear hr5 hb6 hB5
  go_wp2_with fail
  have c7 : Calls Tryd.prog 11 #[.pointer (some ⟨w.heap.size + 2, 0, none⟩), .int .i64 0, .int .i64 1] w6 fun e w' => e = .returned (.tuple #[.agg #[.int .i64 0, .int .i64 0, .string ⟨#[]⟩], .nilIface]) ∧ Below w6.heap.size w6 w' :=
    get_ok hr6 0 1 (by omega) (by omega) _ _ h2_head (by omega) (by show (1 : Int) < 2; omega) h2_raw
  refine c7.mono ?_
  rintro e w7 ⟨rfl, hb7⟩
  have hr7 := hr6.below hb7
  have hB7 : Below w.heap.size w w7 := hB6.trans (hb7.mono hB6.size)
  clear c7 hr6 hb7 hB6
  have bare7 : ∀ W, EtIs W → Calls Tryd.prog 14 #[.iface 35 (.int .i64 7), .int .i64 7] W fun e w' => e = .returned (.bool true) ∧ Below W.heap.size W w' := fun W hW => bare_errno 7 7 W hW
  have HE := Lib.hid bare7
  have Heq := Lib.hid eqv
  clear bare7
  go_wp2_with fail
  have hr8 := hr7.below ((Below.refl _ w7).alloc (Nat.le_refl _) (.cells #[.int .i64 0, .int .i64 0, .string ⟨#[]⟩] 28))
  have hB8 := hB7.trans (((Below.refl _ w7).alloc (Nat.le_refl _) (.cells #[.int .i64 0, .int .i64 0, .string ⟨#[]⟩] 28)).mono hB7.size)
  have k0 : (w7.alloc (.cells #[.int .i64 0, .int .i64 0, .string ⟨#[]⟩] 28)).cell? ⟨w7.heap.size, 0, none⟩ = some (.int .i64 0) := by simp
  have k1 : (w7.alloc (.cells #[.int .i64 0, .int .i64 0, .string ⟨#[]⟩] 28)).cell? ⟨w7.heap.size, 1, none⟩ = some (.int .i64 0) := by simp
  have k2 : (w7.alloc (.cells #[.int .i64 0, .int .i64 0, .string ⟨#[]⟩] 28)).cell? ⟨w7.heap.size, 2, none⟩ = some (.string ⟨#[]⟩) := by simp
  have hz8 : w7.heap.size < (w7.alloc (.cells #[.int .i64 0, .int .i64 0, .string ⟨#[]⟩] 28)).heap.size := by simp
  generalize w7.alloc (.cells #[.int .i64 0, .int .i64 0, .string ⟨#[]⟩] 28) = w8 at *
  clear hr7 hB7
  refine (HE.out _ (hg.below hB8 hl)).mono ?_
  rintro e w9 ⟨rfl, hb9⟩
  have hr9 := hr8.below hb9
  have hB9 : Below w.heap.size w w9 := hB8.trans (hb9.mono hB8.size)
  have k0 : w9.cell? ⟨w7.heap.size, 0, none⟩ = some (.int .i64 0) := by rw [hb9.cell (p := ⟨w7.heap.size, 0, none⟩) hz8]; exact k0
  have k1 : w9.cell? ⟨w7.heap.size, 1, none⟩ = some (.int .i64 0) := by rw [hb9.cell (p := ⟨w7.heap.size, 1, none⟩) hz8]; exact k1
  have k2 : w9.cell? ⟨w7.heap.size, 2, none⟩ = some (.string ⟨#[]⟩) := by rw [hb9.cell (p := ⟨w7.heap.size, 2, none⟩) hz8]; exact k2
  have hz9 : w7.heap.size < w9.heap.size := Nat.lt_of_lt_of_le hz8 hb9.size
  clear hr8 hB8 hb9 hz8
  go_wp2_with fail
  refine (HE.out _ (hg.below hB9 hl)).mono ?_
  rintro e w10 ⟨rfl, hb10⟩
  have hr10 := hr9.below hb10
  have hB10 : Below w.heap.size w w10 := hB9.trans (hb10.mono hB9.size)
  have k0 : w10.cell? ⟨w7.heap.size, 0, none⟩ = some (.int .i64 0) := by rw [hb10.cell (p := ⟨w7.heap.size, 0, none⟩) hz9]; exact k0
  have k1 : w10.cell? ⟨w7.heap.size, 1, none⟩ = some (.int .i64 0) := by rw [hb10.cell (p := ⟨w7.heap.size, 1, none⟩) hz9]; exact k1
  have k2 : w10.cell? ⟨w7.heap.size, 2, none⟩ = some (.string ⟨#[]⟩) := by rw [hb10.cell (p := ⟨w7.heap.size, 2, none⟩) hz9]; exact k2
  have hz10 : w7.heap.size < w10.heap.size := Nat.lt_of_lt_of_le hz9 hb10.size
  clear hr9 hB9 hb10 hz9
  go_wp2_with fail
  refine (HE.out _ (hg.below hB10 hl)).mono ?_
  rintro e w11 ⟨rfl, hb11⟩
  have hr11 := hr10.below hb11
  have hB11 : Below w.heap.size w w11 := hB10.trans (hb11.mono hB10.size)
  have k0 : w11.cell? ⟨w7.heap.size, 0, none⟩ = some (.int .i64 0) := by rw [hb11.cell (p := ⟨w7.heap.size, 0, none⟩) hz10]; exact k0
  have k1 : w11.cell? ⟨w7.heap.size, 1, none⟩ = some (.int .i64 0) := by rw [hb11.cell (p := ⟨w7.heap.size, 1, none⟩) hz10]; exact k1
  have k2 : w11.cell? ⟨w7.heap.size, 2, none⟩ = some (.string ⟨#[]⟩) := by rw [hb11.cell (p := ⟨w7.heap.size, 2, none⟩) hz10]; exact k2
  clear hr10 hB10 hb11 hz10
  have he := Heq.out
  go_wp2_with fail
  refine (Kind_yes hr11 0 (by omega) _ h2_head).mono ?_
  rintro e w12 ⟨rfl, hb12⟩
  have hr12 := hr11.below hb12
  have hB12 : Below w.heap.size w w12 := hB11.trans (hb12.mono hB11.size)
  clear hr11 hB11 hb12
  go_wp2_with fail
  refine (Tag_yes hr12 0 (by omega) _ h2_head).mono ?_
  rintro e w13 ⟨rfl, hb13⟩
  have hr13 := hr12.below hb13
  have hB13 : Below w.heap.size w w13 := hB12.trans (hb13.mono hB12.size)
  clear hr12 hB12 hb13
  go_wp2_with fail
  refine (Id_yes hr13 0 (by omega) _ h2_head).mono ?_
  rintro e w14 ⟨rfl, hb14⟩
  have hB14 : Below w.heap.size w w14 := hB13.trans (hb14.mono hB13.size)
  clear hr13 hB13 hb14
  go_wp2_with fail
  go_ret
  exact ⟨rfl, hB14⟩
end Go.Proofs.YthbkklnahhdgcaaDoor.HeapErrs
