/-
  An error's value (nothing, an Errno, an At), and what the laws' at says of it.
-/
import Derived.Test.YthbkklnahhdgcaaDoorErrC
namespace Go.Proofs.YthbkklnahhdgcaaDoor.ErrD
open Go Go.Proofs Go.RowKit Lib ErrC

/-- An error's value: nothing, an Errno, or an At of an Errno at a place. -/
def ErrIs (w : World) (v : Value) (e p : Int) : Prop :=
  (e = 0 ∧ p = -1 ∧ v = .nilIface) ∨ (e ≠ 0 ∧ p = -1 ∧ v = .iface 35 (.int .i64 e)) ∨ ∃ b, v = .iface 117 (.pointer (some ⟨b, 0, none⟩)) ∧ w.heap[b]? = some (.cells #[.int .i64 e, .int .i64 p] 118 (0, 0)) ∧ e ≠ 0

theorem ErrIs.below {w w' : World} {v : Value} {e p : Int} {B : Nat} (h : ErrIs w v e p) (hb : Below B w w') (hB : w.heap.size ≤ B) : ErrIs w' v e p := by
  rcases h with h | h | ⟨b, h1, h2, h3⟩
  · exact Or.inl h
  · exact Or.inr (Or.inl h)
  · refine Or.inr (Or.inr ⟨b, h1, ?_, h3⟩)
    rw [hb.block b (Nat.lt_of_lt_of_le (Array.getElem?_eq_some_iff.mp h2).1 hB)]
    exact h2

theorem at_is {w : World} {v : Value} {e p : Int} (h : ErrIs w v e p) (hg : EtIs w) :
    Calls Tryd.prog 19 #[v, .agg #[.int .i64 e, .int .i64 p]] w fun r w' => r = .returned (.bool true) ∧ Below w.heap.size w w' := by
  rcases h with ⟨rfl, rfl, rfl⟩ | ⟨_, rfl, rfl⟩ | ⟨b, rfl, hb, _⟩
  · refine (at_nil 0 (-1) w).mono ?_
    rintro r w' ⟨rfl, h⟩
    exact ⟨rfl, h⟩
  · refine (at_errno e e (-1) w hg).mono ?_
    rintro r w' ⟨rfl, h⟩
    exact ⟨by simp, h⟩
  · refine (at_at e p b 0 e p w (Lib.cell_of_block hb (by simp)) (Lib.cell_of_block hb (by simp)) hg).mono ?_
    rintro r w' ⟨rfl, h⟩
    exact ⟨by simp, h⟩
end Go.Proofs.YthbkklnahhdgcaaDoor.ErrD
