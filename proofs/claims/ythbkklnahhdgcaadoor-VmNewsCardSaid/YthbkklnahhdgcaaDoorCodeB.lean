/-
  Contracts of package code's text, right.
-/
import Derived.Test.YthbkklnahhdgcaaDoorCodeA
namespace Go.Proofs.YthbkklnahhdgcaaDoor.CodeB
open Go Go.Proofs Go.RowKit Lib CodeR CodeA

/-- An image's three cells. -/
theorem im_cells {w : World} {mb mo : Nat} {m : Im} (h : Row w mb mo m.vals) :
    w.cell? ⟨mb, mo, none⟩ = some m.funcsS.val ∧ w.cell? ⟨mb, mo + 1, none⟩ = some m.constsS.val ∧ w.cell? ⟨mb, mo + 2, none⟩ = some m.classesS.val :=
  ⟨h 0 _ rfl, h 1 _ rfl, h 2 _ rfl⟩
theorem alloc_cell {w : World} {b o : Nat} {v : Value} (h : w.cell? ⟨b, o, none⟩ = some v) (ob : Obj) : (w.alloc ob).cell? ⟨b, o, none⟩ = some v :=
  ((below_alloc (Below.refl w.heap.size w) ob (Nat.le_refl _)).cell (World.block_lt_of_cell? w _ h)).trans h
theorem wrap64_id {n : Int} (h0 : -9223372036854775808 ≤ n) (h1 : n ≤ 9223372036854775807) : IntKind.i64.wrap n = n := by
  unfold IntKind.wrap; simp [IntKind.bits, IntKind.signed]; omega
theorem get_of_lt {α : Type} {l : List α} {k : Int} (h0 : 0 ≤ k) (h1 : k < l.length) : ∃ x, l[k.toNat]? = some x := ⟨l[k.toNat]'(by omega), List.getElem?_eq_getElem (by omega)⟩

set_option maxHeartbeats 1000000 in
theorem text_any (mb mo : Nat) (m : Im) (k : Int) (w : World) (hm : Row w mb mo m.vals) (hi : ImIn w m) :
    Calls Tryd.prog 100 #[.pointer (some ⟨mb, mo, none⟩), .int .i64 k] w fun e w' => e = .returned (.bool (m.textB k)) ∧ w' = w := by
  obtain ⟨_, c1, _⟩ := im_cells hm
  have hl := hi.consts.len
  have hs := hi.consts.small
  have ha := hi.consts.addr
  have hr := hi.consts.row
  clear hm hi
  rw [List.length_map] at hl
  unfold Sl.val at c1
  generalize hS : m.constsS = S at *
  obtain ⟨oa, n, c, b, o⟩ := S
  simp only at hl hs ha hr c1
  by_cases h0 : 0 ≤ k
  · by_cases h1 : k < (n : Int)
    · obtain ⟨x, hx⟩ := get_of_lt (l := m.consts) h0 (by omega)
      obtain rfl := ha (by omega)
      have hrow := hr k.toNat x.vals (by rw [List.getElem?_map, hx]; rfl)
      have hc := hrow 0 _ rfl
      simp only [Nat.add_zero] at hc
      have ht : m.textB k = x.text := by
        simp only [Im.textB, CodeR.within, hx]
        rw [decide_eq_true h0, decide_eq_true (by omega)]
        rfl
      rw [ht]
      clear ht hr hrow
      go_enter Tryd.func100, Tryd.ntmps100
      go_wp2
      go_ret
      exact ⟨rfl, rfl⟩
    · have ht : m.textB k = false := by
        simp only [Im.textB, CodeR.within]
        rw [decide_eq_false (p := k ≤ _) (by omega)]
        simp
      rw [ht]
      clear ht hr
      go_enter Tryd.func100, Tryd.ntmps100
      go_wp2
      go_ret
      exact ⟨rfl, rfl⟩
  · have ht : m.textB k = false := by
      simp only [Im.textB, CodeR.within]
      rw [decide_eq_false (p := 0 ≤ k) (by omega)]
      rfl
    rw [ht]
    clear ht hr
    go_enter Tryd.func100, Tryd.ntmps100
    go_wp2
    go_ret
    exact ⟨rfl, rfl⟩
end Go.Proofs.YthbkklnahhdgcaaDoor.CodeB
