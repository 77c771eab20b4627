/-
  The contract of the document's effect, at whatever instruction.
-/
import Derived.Test.YthbkklnahhdgcaaDoorDCodeE1
import Derived.Test.YthbkklnahhdgcaaDoorDCodeE2
import Derived.Test.YthbkklnahhdgcaaDoorDCodeE3
import Derived.Test.YthbkklnahhdgcaaDoorDCodeE4
namespace Go.Proofs.YthbkklnahhdgcaaDoor.CodeE
open Go Go.Proofs Go.RowKit Lib CodeR CodeA CodeB CodeEa

theorem eff_any (mb mo : Nat) (m : Im) (f : Fc) (x : I3) (w : World) (hm : Row w mb mo m.vals) (hi : ImIn w m) (hn : f.codeS.n = f.code.length) (hl1 : f.code.length ≤ 5000) (hs0 : 0 ≤ f.slots) (hs1 : f.slots ≤ 200) (hbx : -9223372036854775808 ≤ x.b ∧ x.b ≤ 9223372036854775807) :
    Calls Tryd.prog 86 #[.pointer (some ⟨mb, mo, none⟩), .agg #[.string f.name, .int .i64 f.params, .int .i64 f.slots, .slice f.codeS.oa f.codeS.n f.codeS.c, .slice f.hsS.oa f.hsS.n f.hsS.c, .slice f.varsS.oa f.varsS.n f.varsS.c], .agg #[.int .i64 x.op, .int .i64 x.a, .int .i64 x.b]] w fun e w' => EffR m f x e ∧ Below w.heap.size w w' := by
  obtain ⟨op, a, b⟩ := x
  simp only at hbx ⊢
  have hcase : op < 1 ∨ 45 < op ∨ op = 1 ∨ op = 2 ∨ op = 3 ∨ op = 4 ∨ op = 5 ∨ op = 6 ∨ op = 7 ∨ op = 8 ∨ op = 9 ∨ op = 10 ∨ op = 11 ∨ op = 12 ∨ op = 13 ∨ op = 14 ∨ op = 15 ∨ op = 16 ∨ op = 17 ∨ op = 18 ∨ op = 19 ∨ op = 20 ∨ op = 21 ∨ op = 22 ∨ op = 23 ∨ op = 24 ∨ op = 25 ∨ op = 26 ∨ op = 27 ∨ op = 28 ∨ op = 29 ∨ op = 30 ∨ op = 31 ∨ op = 32 ∨ op = 33 ∨ op = 34 ∨ op = 35 ∨ op = 36 ∨ op = 37 ∨ op = 38 ∨ op = 39 ∨ op = 40 ∨ op = 41 ∨ op = 42 ∨ op = 43 ∨ op = 44 ∨ op = 45 := by omega
  rcases hcase with h | h | rfl | rfl | rfl | rfl | rfl | rfl | rfl | rfl | rfl | rfl | rfl | rfl | rfl | rfl | rfl | rfl | rfl | rfl | rfl | rfl | rfl | rfl | rfl | rfl | rfl | rfl | rfl | rfl | rfl | rfl | rfl | rfl | rfl | rfl | rfl | rfl | rfl | rfl | rfl | rfl | rfl | rfl | rfl | rfl | rfl
  · exact CodeE3.eff_0 mb mo m f op a b w hm hi hn hl1 hs0 hs1 h
  · exact CodeE3.eff_46 mb mo m f op a b w hm hi hn hl1 hs0 hs1 h
  · exact CodeE1.eff_1 mb mo m f a b w hm hi hn hl1 hs0 hs1
  · exact CodeE1.eff_2 mb mo m f a b w hm hi hn hl1 hs0 hs1
  · exact CodeE1.eff_3 mb mo m f a b w hm hi hn hl1 hs0 hs1
  · exact CodeE1.eff_4 mb mo m f a b w hm hi hn hl1 hs0 hs1
  · exact CodeE1.eff_5 mb mo m f a b w hm hi hn hl1 hs0 hs1
  · exact CodeE1.eff_6 mb mo m f a b w hm hi hn hl1 hs0 hs1
  · exact CodeE1.eff_7 mb mo m f a b w hm hi hn hl1 hs0 hs1
  · exact CodeE1.eff_8 mb mo m f a b w hm hi hn hl1 hs0 hs1
  · exact CodeE1.eff_9 mb mo m f a b w hm hi hn hl1 hs0 hs1
  · exact CodeE1.eff_10 mb mo m f a b w hm hi hn hl1 hs0 hs1
  · exact CodeE1.eff_11 mb mo m f a b w hm hi hn hl1 hs0 hs1
  · exact CodeE1.eff_12 mb mo m f a b w hm hi hn hl1 hs0 hs1
  · exact CodeE1.eff_13 mb mo m f a b w hm hi hn hl1 hs0 hs1
  · exact CodeE1.eff_14 mb mo m f a b w hm hi hn hl1 hs0 hs1
  · exact CodeE1.eff_15 mb mo m f a b w hm hi hn hl1 hs0 hs1
  · exact CodeE1.eff_16 mb mo m f a b w hm hi hn hl1 hs0 hs1
  · exact CodeE1.eff_17 mb mo m f a b w hm hi hn hl1 hs0 hs1
  · exact CodeE1.eff_18 mb mo m f a b w hm hi hn hl1 hs0 hs1
  · exact CodeE2.eff_19 mb mo m f a b w hm hi hn hl1 hs0 hs1
  · exact CodeE2.eff_20 mb mo m f a b w hm hi hn hl1 hs0 hs1
  · exact CodeE2.eff_21 mb mo m f a b w hm hi hn hl1 hs0 hs1
  · exact CodeE2.eff_22 mb mo m f a b w hm hi hn hl1 hs0 hs1
  · exact CodeE2.eff_23 mb mo m f a b w hm hi hn hl1 hs0 hs1
  · exact CodeE2.eff_24 mb mo m f a b w hm hi hn hl1 hs0 hs1
  · exact CodeE2.eff_25 mb mo m f a b w hm hi hn hl1 hs0 hs1
  · exact CodeE2.eff_26 mb mo m f a b w hm hi hn hl1 hs0 hs1
  · exact CodeE2.eff_27 mb mo m f a b w hm hi hn hl1 hs0 hs1
  · exact CodeE2.eff_28 mb mo m f a b w hm hi hn hl1 hs0 hs1
  · exact CodeE2.eff_29 mb mo m f a b w hm hi hn hl1 hs0 hs1
  · exact CodeE2.eff_30 mb mo m f a b w hm hi hn hl1 hs0 hs1
  · exact CodeE2.eff_31 mb mo m f a b w hm hi hn hl1 hs0 hs1
  · exact CodeE2.eff_32 mb mo m f a b w hm hi hn hl1 hs0 hs1
  · exact CodeE2.eff_33 mb mo m f a b w hm hi hn hl1 hs0 hs1
  · exact CodeE3.eff_34 mb mo m f a b w hm hi hn hl1 hs0 hs1
  · exact CodeE3.eff_35 mb mo m f a b w hm hi hn hl1 hs0 hs1 hbx
  · exact CodeE2.eff_36 mb mo m f a b w hm hi hn hl1 hs0 hs1
  · exact CodeE2.eff_37 mb mo m f a b w hm hi hn hl1 hs0 hs1
  · exact CodeE4.eff_38 mb mo m f a b w hm hi hn hl1 hs0 hs1
  · exact CodeE3.eff_39 mb mo m f a b w hm hi hn hl1 hs0 hs1
  · exact CodeE2.eff_40 mb mo m f a b w hm hi hn hl1 hs0 hs1
  · exact CodeE2.eff_41 mb mo m f a b w hm hi hn hl1 hs0 hs1
  · exact CodeE2.eff_42 mb mo m f a b w hm hi hn hl1 hs0 hs1
  · exact CodeE2.eff_43 mb mo m f a b w hm hi hn hl1 hs0 hs1
  · exact CodeE2.eff_44 mb mo m f a b w hm hi hn hl1 hs0 hs1
  · exact CodeE2.eff_45 mb mo m f a b w hm hi hn hl1 hs0 hs1
end Go.Proofs.YthbkklnahhdgcaaDoor.CodeE
