/-
  From a row's condition on errors.errorType to the variable's cell.
-/
import Derived.Test.YthbkklnahhdgcaaDoorRows
import Derived.Test.YthbkklnahhdgcaaDoorDMB
import Derived.LaidLaws
import Derived.LaidHandle
namespace Go.Proofs.YthbkklnahhdgcaaDoor.LaidEt
open Go Go.RowKit Go.WideShapes Go.ChangeShapes

theorem et : Tryd.prog.globalNamed "errors.errorType" = some 1 := by kernel_rfl
theorem rt : (Tryd.prog.cutTypes.find? (·.1 == "internal/reflectlite.rtype")).map (·.2) = some 256 := by kernel_rfl
theorem size : Tryd.prog.types.size = 336 := by kernel_rfl
theorem oneRow : ((List.range 336).filter fun t => Tryd.prog.rowNamed t [101, 114, 114, 111, 114]) = [24] := by kernel_rfl

/-- What the handle's condition gives a walk. -/
theorem handle {l : List (String × DataW Unit)} {W : World} (h : handlesMet Tryd.prog l W) (hm0 : ("errors.errorType", Rows.laid_errors_errorType) ∈ l) : ErrC.EtIs W := by
  obtain ⟨name, u, ty, e1, e2, e3, e4, e5⟩ := h _ hm0
  have en : name = [101, 114, 114, 111, 114] := (Option.some.inj e1).symm
  subst en
  obtain rfl := Option.some.inj (rt.symm.trans e2)
  have hm : ty ∈ (List.range 336).filter fun t => Tryd.prog.rowNamed t [101, 114, 114, 111, 114] := List.mem_filter.2 ⟨List.mem_range.2 (by rw [← size]; exact e3), e4⟩
  rw [oneRow] at hm
  obtain rfl := List.mem_singleton.1 hm
  have hh : typeHandle Tryd.prog 24 = .pointer (some ⟨5, 24, none⟩) := by kernel_rfl
  rw [hh] at e5
  have := World.var?_cell et e5 0
  unfold ErrC.EtIs
  simpa using this
end Go.Proofs.YthbkklnahhdgcaaDoor.LaidEt
