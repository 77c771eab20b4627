/-
  The contract of package code's right, at whatever instruction.
-/
import Derived.Test.YthbkklnahhdgcaaDoorDCodeC1
import Derived.Test.YthbkklnahhdgcaaDoorDCodeC2
import Derived.Test.YthbkklnahhdgcaaDoorDCodeC3
import Derived.Test.YthbkklnahhdgcaaDoorDCodeC4
import Derived.Test.YthbkklnahhdgcaaDoorDCodeC5
import Derived.Test.YthbkklnahhdgcaaDoorDCodeC6
namespace Go.Proofs.YthbkklnahhdgcaaDoor.CodeT
open Go Go.Proofs Go.RowKit Lib CodeR CodeA CodeB

theorem right_any (mb mo fb fo : Nat) (m : Im) (f : Fc) (x : I3) (w : World) (hm : Row w mb mo m.vals) (hi : ImIn w m) (hf : Row w fb fo f.vals) (hfi : FcIn w f) (hbx : -9223372036854775808 ≤ x.b ∧ x.b ≤ 9223372036854775807) :
    Calls Tryd.prog 81 #[.pointer (some ⟨mb, mo, none⟩), .pointer (some ⟨fb, fo, none⟩), .agg #[.int .i64 x.op, .int .i64 x.a, .int .i64 x.b]] w fun e w' => e = .returned (.bool (rightB m f x)) ∧ Below w.heap.size w w' := by
  obtain ⟨op, a, b⟩ := x
  simp only at hbx ⊢
  have hcase : op < 1 ∨ 45 < op ∨ op = 1 ∨ op = 2 ∨ op = 3 ∨ op = 4 ∨ op = 5 ∨ op = 6 ∨ op = 7 ∨ op = 8 ∨ op = 9 ∨ op = 10 ∨ op = 11 ∨ op = 12 ∨ op = 13 ∨ op = 14 ∨ op = 15 ∨ op = 16 ∨ op = 17 ∨ op = 18 ∨ op = 19 ∨ op = 20 ∨ op = 21 ∨ op = 22 ∨ op = 23 ∨ op = 24 ∨ op = 25 ∨ op = 26 ∨ op = 27 ∨ op = 28 ∨ op = 29 ∨ op = 30 ∨ op = 31 ∨ op = 32 ∨ op = 33 ∨ op = 34 ∨ op = 35 ∨ op = 36 ∨ op = 37 ∨ op = 38 ∨ op = 39 ∨ op = 40 ∨ op = 41 ∨ op = 42 ∨ op = 43 ∨ op = 44 ∨ op = 45 := by omega
  rcases hcase with h | h | rfl | rfl | rfl | rfl | rfl | rfl | rfl | rfl | rfl | rfl | rfl | rfl | rfl | rfl | rfl | rfl | rfl | rfl | rfl | rfl | rfl | rfl | rfl | rfl | rfl | rfl | rfl | rfl | rfl | rfl | rfl | rfl | rfl | rfl | rfl | rfl | rfl | rfl | rfl | rfl | rfl | rfl | rfl | rfl | rfl
  · exact CodeC6.right_0 mb mo fb fo m f op a b w hm hi hf hfi h
  · exact CodeC6.right_46 mb mo fb fo m f op a b w hm hi hf hfi h
  · exact CodeC1.right_1 mb mo fb fo m f a b w hm hi hf hfi
  · exact CodeC1.right_2 mb mo fb fo m f a b w hm hi hf hfi
  · exact CodeC1.right_3 mb mo fb fo m f a b w hm hi hf hfi
  · exact CodeC1.right_4 mb mo fb fo m f a b w hm hi hf hfi
  · exact CodeC1.right_5 mb mo fb fo m f a b w hm hi hf hfi
  · exact CodeC1.right_6 mb mo fb fo m f a b w hm hi hf hfi
  · exact CodeC1.right_7 mb mo fb fo m f a b w hm hi hf hfi
  · exact CodeC1.right_8 mb mo fb fo m f a b w hm hi hf hfi
  · exact CodeC1.right_9 mb mo fb fo m f a b w hm hi hf hfi
  · exact CodeC1.right_10 mb mo fb fo m f a b w hm hi hf hfi
  · exact CodeC2.right_11 mb mo fb fo m f a b w hm hi hf hfi
  · exact CodeC2.right_12 mb mo fb fo m f a b w hm hi hf hfi
  · exact CodeC2.right_13 mb mo fb fo m f a b w hm hi hf hfi
  · exact CodeC2.right_14 mb mo fb fo m f a b w hm hi hf hfi
  · exact CodeC2.right_15 mb mo fb fo m f a b w hm hi hf hfi
  · exact CodeC2.right_16 mb mo fb fo m f a b w hm hi hf hfi
  · exact CodeC2.right_17 mb mo fb fo m f a b w hm hi hf hfi
  · exact CodeC2.right_18 mb mo fb fo m f a b w hm hi hf hfi
  · exact CodeC2.right_19 mb mo fb fo m f a b w hm hi hf hfi
  · exact CodeC2.right_20 mb mo fb fo m f a b w hm hi hf hfi
  · exact CodeC2.right_21 mb mo fb fo m f a b w hm hi hf hfi
  · exact CodeC2.right_22 mb mo fb fo m f a b w hm hi hf hfi
  · exact CodeC2.right_23 mb mo fb fo m f a b w hm hi hf hfi
  · exact CodeC2.right_24 mb mo fb fo m f a b w hm hi hf hfi
  · exact CodeC3.right_25 mb mo fb fo m f a b w hm hi hf hfi
  · exact CodeC3.right_26 mb mo fb fo m f a b w hm hi hf hfi
  · exact CodeC3.right_27 mb mo fb fo m f a b w hm hi hf hfi
  · exact CodeC3.right_28 mb mo fb fo m f a b w hm hi hf hfi
  · exact CodeC3.right_29 mb mo fb fo m f a b w hm hi hf hfi
  · exact CodeC3.right_30 mb mo fb fo m f a b w hm hi hf hfi
  · exact CodeC3.right_31 mb mo fb fo m f a b w hm hi hf hfi
  · exact CodeC3.right_32 mb mo fb fo m f a b w hm hi hf hfi
  · exact CodeC3.right_33 mb mo fb fo m f a b w hm hi hf hfi
  · exact CodeC3.right_34 mb mo fb fo m f a b w hm hi hf hfi
  · exact CodeC5.right_35 mb mo fb fo m f a b w hm hi hf hfi hbx
  · exact CodeC3.right_36 mb mo fb fo m f a b w hm hi hf hfi
  · exact CodeC3.right_37 mb mo fb fo m f a b w hm hi hf hfi
  · exact CodeC4.right_38 mb mo fb fo m f a b w hm hi hf hfi
  · exact CodeC4.right_39 mb mo fb fo m f a b w hm hi hf hfi
  · exact CodeC4.right_40 mb mo fb fo m f a b w hm hi hf hfi
  · exact CodeC4.right_41 mb mo fb fo m f a b w hm hi hf hfi
  · exact CodeC4.right_42 mb mo fb fo m f a b w hm hi hf hfi
  · exact CodeC4.right_43 mb mo fb fo m f a b w hm hi hf hfi
  · exact CodeC4.right_44 mb mo fb fo m f a b w hm hi hf hfi
  · exact CodeC4.right_45 mb mo fb fo m f a b w hm hi hf hfi
end Go.Proofs.YthbkklnahhdgcaaDoor.CodeT
