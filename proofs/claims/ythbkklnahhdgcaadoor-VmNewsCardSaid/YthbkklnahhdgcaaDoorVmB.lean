/-
  The contract of package vm's New, at an image, a configuration and inputs: what error, and that there is a machine if there is none.
-/
import Derived.Test.YthbkklnahhdgcaaDoorVmA
import Derived.Test.YthbkklnahhdgcaaDoorErrD
import Derived.Test.YthbkklnahhdgcaaDoorHeapB
import Derived.Deep.RegionHeld3
namespace Go.Proofs.YthbkklnahhdgcaaDoor.VmB
open Go Go.Proofs Go.RowKit Lib CodeR CodeA CodeB CodeP CodeQ CodeH CodeL VmA ErrC ErrD HeapB

/-- What New asks of the room, Collect, and how many inputs there are. -/
def roomB (n o : Int) : Bool := decide (n < 1) || (decide (65536 < n) || (decide (o < 1) || decide (1048576 < o)))
def badB (n o : Int) (l li : List Int) : Bool := roomB n o || (decide (100 < (li.length : Int)) || l.any colB)

theorem infoVal : (Tryd.prog.info? 28).map (fun i => (i.zero, i.size, i.bytes)) = some (some (.agg #[.int .i64 0, .int .i64 0, .string ByteArray.empty]), 3, 32) := by kernel_rfl

set_option maxHeartbeats 4000000 in
set_option maxRecDepth 100000 in
theorem New_any (mb mo : Nat) (m : Im) (n o : Int) (S Si : Sl) (l li : List Int) (w : World) (hm : Row w mb mo m.vals) (hi : ImIn w m)
    (hS : SlIn w S 1 (l.map fun n => [.int .i64 n])) (hSi : SlIn w Si 1 (li.map fun n => [.int .i64 n])) (hll : l.length ≤ 1000) (hli : li.length ≤ 1000)
    (hC : ∀ w' : World, Below w.heap.size w w' → Calls Tryd.prog 20 #[.pointer (some ⟨mb, mo, none⟩)] w' fun r w'' => ∃ e p v, r = .returned v ∧ ErrIs w'' v e p ∧ ImVerdict m e p ∧ Below w'.heap.size w' w'')
    (hsl : ∀ p, ImVerdict m 0 p → ∃ f, m.funcs[0]? = some f ∧ 0 ≤ f.slots ∧ f.slots ≤ 200) :
    Calls Tryd.prog 23 #[.pointer (some ⟨mb, mo, none⟩), .agg #[.int .i64 n, .int .i64 o, .slice S.oa l.length S.c], .slice Si.oa li.length Si.c] w
      fun r w' => ∃ e0 p0 e p v pp, r = .returned (.tuple #[.pointer pp, v]) ∧ ImVerdict m e0 p0 ∧ ErrIs w' v e p ∧ (e0 ≠ 0 → e = e0 ∧ p = p0) ∧ (e0 = 0 → badB n o l li = true → e = 2 ∧ p = -1) ∧ (e0 = 0 → badB n o l li = false → e = 0 ∧ p = -1) ∧ pp.isSome = decide (e = 0) ∧ Below w.heap.size w w' := by
  have hB0 : Below w.heap.size w (w.alloc (.cells #[.int .i64 n, .int .i64 o, .slice S.oa l.length S.c] 58)) := (Below.refl _ _).alloc (Nat.le_refl _) _
  have hC0 := hC _ hB0
  have hbk : (w.alloc (.cells #[.int .i64 n, .int .i64 o, .slice S.oa l.length S.c] 58)).heap[w.heap.size]? = some (.cells #[.int .i64 n, .int .i64 o, .slice S.oa l.length S.c] 58 (0, 0)) := heap_alloc_new w _
  have hm0 := hm.below hB0 (Nat.le_refl _)
  have hi0 := hi.below hB0 (Nat.le_refl _)
  have hS0 := hS.below hB0 (Nat.le_refl _)
  have hSi0 := hSi.below hB0 (Nat.le_refl _)
  have hsz0 : w.heap.size + 1 = (w.alloc (.cells #[.int .i64 n, .int .i64 o, .slice S.oa l.length S.c] 58)).heap.size := by simp
  clear hS
  go_enter Tryd.func23, Tryd.ntmps23
  go_wp2_with fail
  generalize w.alloc (.cells #[.int .i64 n, .int .i64 o, .slice S.oa l.length S.c] 58) = w0 at *
  refine hC0.mono ?_
  rintro r w1 ⟨e0, p0, v0, rfl, he0, hv0, hb1⟩
  have hB1 := hB0.trans (hb1.mono (by omega))
  have hm1 := hm0.below hb1 (Nat.le_refl _)
  have hi1 := hi0.below hb1 (Nat.le_refl _)
  have hS1 := hS0.below hb1 (Nat.le_refl _)
  have hSi1 := hSi0.below hb1 (Nat.le_refl _)
  have hbk1 := (hb1.block w.heap.size (by omega)).trans hbk
  have hsz1 : w.heap.size + 1 ≤ w1.heap.size := by have := hb1.size; omega
  clear hC hC0 hm0 hi0 hS0 hSi0 hbk hsz0 hb1
  rcases he0 with ⟨rfl, rfl, rfl⟩ | ⟨hne, rfl, rfl⟩ | ⟨b, rfl, hb, hne⟩
  · obtain ⟨f0, hf0, hs0, hs1⟩ := hsl _ hv0
    clear hsl
    have c0 : w1.cell? ⟨w.heap.size, 0, none⟩ = some (.int .i64 n) := cell_of_block hbk1 rfl
    have c1 : w1.cell? ⟨w.heap.size, 1, none⟩ = some (.int .i64 o) := cell_of_block hbk1 rfl
    have c2 : w1.cell? ⟨w.heap.size, 2, none⟩ = some (.slice S.oa l.length S.c) := cell_of_block hbk1 rfl
    cases hr : roomB n o
    · have hr' : 1 ≤ n ∧ n ≤ 65536 ∧ 1 ≤ o ∧ o ≤ 1048576 := by
        simp only [roomB, Bool.or_eq_false_iff, decide_eq_false_iff_not] at hr
        omega
      obtain ⟨n', rfl⟩ : ∃ k : Nat, n = (k : Int) := ⟨n.toNat, by omega⟩
      obtain ⟨o', rfl⟩ : ∃ k : Nat, o = (k : Int) := ⟨o.toNat, by omega⟩
      go_wp2_with fail
      refine (new_ok n' o' w1 (by omega) (by omega) (by omega) (by omega)).mono ?_
      rintro r w2 ⟨rfl, hHR, hb2⟩
      have hB2 := hB1.trans (hb2.mono (by omega))
      have hm2 := hm1.below hb2 (Nat.le_refl _)
      have hi2 := hi1.below hb2 (Nat.le_refl _)
      have hS2 := hS1.below hb2 (Nat.le_refl _)
      have hSi2 := hSi1.below hb2 (Nat.le_refl _)
      have hbk2 := (hb2.block w.heap.size (by omega)).trans hbk1
      have hsz2 : w.heap.size + 1 ≤ w2.heap.size := by have := hb2.size; omega
      generalize w1.heap.size + 2 = hp at *
      clear hm1 hi1 hS1 hSi1 hbk1 hb2 c0 c1 c2 hHR
      have c0 : w2.cell? ⟨w.heap.size, 0, none⟩ = some (.int .i64 (n' : Int)) := cell_of_block hbk2 rfl
      have c1 : w2.cell? ⟨w.heap.size, 1, none⟩ = some (.int .i64 (o' : Int)) := cell_of_block hbk2 rfl
      have c2 : w2.cell? ⟨w.heap.size, 2, none⟩ = some (.slice S.oa l.length S.c) := cell_of_block hbk2 rfl
      have hT := colContains_any S l w2 hS2
      by_cases q1 : 100 < (li.length : Int)
      · have z1 : decide (100 < (li.length : Int)) = true := by simpa using q1
        go_wp2_with (go_at_call 38; refine hT.mono ?_; rintro e w' ⟨rfl, hw⟩; rw [hw]; clear hw)
        go_ret2
        refine ⟨0, -1, 2, -1, _, none, rfl, hv0, Or.inr (Or.inl ⟨by decide, rfl, rfl⟩), fun h => absurd rfl h, fun _ _ => ⟨rfl, rfl⟩, fun _ h => ?_, rfl, hB2⟩
        rw [badB, z1] at h
        simp at h
      have z1 : decide (100 < (li.length : Int)) = false := by simpa using q1
      cases q2 : l.any colB
      · rw [q2] at hT
        go_wp2_with fail
        refine hT.mono ?_
        rintro r w' ⟨rfl, hw⟩
        rw [hw]
        clear hw hT w'
        go_wp2_with fail
        refine (clone_any S l w2 hS2 (by omega)).mono ?_
        rintro r w3 ⟨oa1, cp1, rfl, hown1, hb3⟩
        have hB3 := hB2.trans (hb3.mono (by omega))
        have hbk3 := (hb3.block w.heap.size (by omega)).trans hbk2
        have hsz3 : w2.heap.size ≤ w3.heap.size := hb3.size
        have hm3 := hm2.below hb3 (Nat.le_refl _)
        have hi3 := hi2.below hb3 (Nat.le_refl _)
        have hSi3 := hSi2.below hb3 (Nat.le_refl _)
        have hfz : w3.frozen? ⟨w.heap.size, 2, none⟩ = false := by simp [World.frozen?, hbk3]
        have d2 : w3.cell? ⟨w.heap.size, 2, none⟩ = some (.slice S.oa l.length S.c) := cell_of_block hbk3 rfl
        clear c0 c1 c2 hbk2 hm2 hi2 hSi2 hS2
        have hbk4 : (w3.setCell ⟨w.heap.size, 2, none⟩ (.slice oa1 l.length cp1)).heap[w.heap.size]? = some (.cells #[.int .i64 (n' : Int), .int .i64 (o' : Int), .slice oa1 l.length cp1] 58 (0, 0)) := img_set hbk3
        have hB4 : Below w.heap.size w (w3.setCell ⟨w.heap.size, 2, none⟩ (.slice oa1 l.length cp1)) := hB3.setCell (Nat.le_refl _) _
        have e0 : (w3.setCell ⟨w.heap.size, 2, none⟩ (.slice oa1 l.length cp1)).cell? ⟨w.heap.size, 0, none⟩ = some (.int .i64 (n' : Int)) := cell_of_block hbk4 rfl
        have e1 : (w3.setCell ⟨w.heap.size, 2, none⟩ (.slice oa1 l.length cp1)).cell? ⟨w.heap.size, 1, none⟩ = some (.int .i64 (o' : Int)) := cell_of_block hbk4 rfl
        have e2 : (w3.setCell ⟨w.heap.size, 2, none⟩ (.slice oa1 l.length cp1)).cell? ⟨w.heap.size, 2, none⟩ = some (.slice oa1 l.length cp1) := cell_of_block hbk4 rfl
        go_wp2_with fail
        have hbm5 := heap_alloc_new (w3.setCell ⟨w.heap.size, 2, none⟩ (.slice oa1 l.length cp1)) (.cells #[.pointer (some ⟨mb, mo, none⟩), .pointer (some ⟨hp, 0, none⟩), .slice none 0 0, .slice none 0 0, .int .i64 0, .int .i64 0, .bool false, .int .i64 (n' : Int), .int .i64 (o' : Int), .slice oa1 l.length cp1, .bool false] 147 (0, 0))
        have hB5 := hB4.alloc (by simp; omega) (.cells #[.pointer (some ⟨mb, mo, none⟩), .pointer (some ⟨hp, 0, none⟩), .slice none 0 0, .slice none 0 0, .int .i64 0, .int .i64 0, .bool false, .int .i64 (n' : Int), .int .i64 (o' : Int), .slice oa1 l.length cp1, .bool false] 147 (0, 0))
        have hsz5 : ((w3.setCell ⟨w.heap.size, 2, none⟩ (.slice oa1 l.length cp1)).alloc (.cells #[.pointer (some ⟨mb, mo, none⟩), .pointer (some ⟨hp, 0, none⟩), .slice none 0 0, .slice none 0 0, .int .i64 0, .int .i64 0, .bool false, .int .i64 (n' : Int), .int .i64 (o' : Int), .slice oa1 l.length cp1, .bool false] 147 (0, 0))).heap.size = w3.heap.size + 1 := by simp
        have hh4 : (w3.setCell ⟨w.heap.size, 2, none⟩ (.slice oa1 l.length cp1)).heap.size = w3.heap.size := by simp
        rw [hh4] at hbm5
        have hm5 := hm.below hB5 (Nat.le_refl _)
        have hi5 := hi.below hB5 (Nat.le_refl _)
        have hSi5 := hSi.below hB5 (Nat.le_refl _)
        clear e0 e1 e2 hbk4 hbk3 hfz d2 hB4 hh4
        generalize (w3.setCell ⟨w.heap.size, 2, none⟩ (.slice oa1 l.length cp1)).alloc (.cells #[.pointer (some ⟨mb, mo, none⟩), .pointer (some ⟨hp, 0, none⟩), .slice none 0 0, .slice none 0 0, .int .i64 0, .int .i64 0, .bool false, .int .i64 (n' : Int), .int .i64 (o' : Int), .slice oa1 l.length cp1, .bool false] 147 (0, 0)) = w5 at *
        generalize hM : w3.heap.size = M at *
        refine (clone_any Si li w5 hSi5 (by omega)).mono ?_
        rintro r w6 ⟨oa2, cp2, rfl, hown2, hb6⟩
        have hB6 := hB5.trans (hb6.mono (by omega))
        have hbm6 := (hb6.block M (by omega)).trans hbm5
        have hm6 := hm5.below hb6 (Nat.le_refl _)
        have hi6 := hi5.below hb6 (Nat.le_refl _)
        have hfz : w6.frozen? ⟨M, 3, none⟩ = false := by simp [World.frozen?, hbm6]
        have d3 : w6.cell? ⟨M, 3, none⟩ = some (.slice none 0 0) := cell_of_block hbm6 rfl
        have hbm7 : (w6.setCell ⟨M, 3, none⟩ (.slice oa2 li.length cp2)).heap[M]? = some (.cells #[.pointer (some ⟨mb, mo, none⟩), .pointer (some ⟨hp, 0, none⟩), .slice none 0 0, .slice oa2 li.length cp2, .int .i64 0, .int .i64 0, .bool false, .int .i64 (n' : Int), .int .i64 (o' : Int), .slice oa1 l.length cp1, .bool false] 147 (0, 0)) := img_set hbm6
        have hB7 : Below w.heap.size w (w6.setCell ⟨M, 3, none⟩ (.slice oa2 li.length cp2)) := hB6.setCell (by show w.heap.size ≤ M; omega) _
        have hm7 := hm.below hB7 (Nat.le_refl _)
        have hi7 := hi.below hB7 (Nat.le_refl _)
        have l0 := hi7.funcs.len
        have a0 := hi7.funcs.addr
        rw [List.length_map] at l0
        rw [l0] at a0
        have hn0 : 0 < m.funcs.length := (List.getElem?_eq_some_iff.mp hf0).1
        have g0 : decide ((0 : Int) < (m.funcs.length : Int)) = true := by simp; omega
        have g0' : (m.funcs.length : Int) ≠ 0 := by omega
        have c0 := (im_cells hm7).1
        unfold Sl.val at c0
        rw [a0 hn0, l0] at c0
        have hrow := hi7.funcs.row 0 f0.vals (by rw [List.getElem?_map, hf0]; rfl)
        rw [Nat.zero_mul, Nat.add_zero] at hrow
        have cs := hrow 2 _ rfl
        obtain ⟨iV, hiV, hzV0, hzV1, hzV2⟩ := info_parts infoVal
        obtain ⟨k, hk⟩ : ∃ k : Nat, f0.slots = (k : Int) := ⟨f0.slots.toNat, by omega⟩
        rw [hk] at cs hs1
        have hmk : ∀ u : World, (Instr.makeSlice 77 (.int .i64 (k : Int)) (.int .i64 (k : Int))).run Tryd.prog u =
            .ok (.slice (some ⟨u.heap.size, 0, none⟩) k k) (u.alloc (.cells (madeCells (Value.agg #[.int .i64 0, .int .i64 0, .string ByteArray.empty]).cells (k * 3)) 28)) := fun u => by
          have h := run_make (P := Tryd.prog) u 77 28 iV _ Tryd.underlying77 hiV hzV0 .i64 .i64 (k : Int) (k : Int) (by omega) (Int.le_refl _) (by rw [hzV2]; omega) (by omega)
          rw [Int.toNat_natCast, hzV1] at h
          exact h
        generalize madeCells (Value.agg #[.int .i64 0, .int .i64 0, .string ByteArray.empty]).cells (k * 3) = MC at *
        generalize m.funcsS.b = fb at *
        generalize m.funcsS.o = fo at *
        have hM7 : M < (w6.setCell ⟨M, 3, none⟩ (.slice oa2 li.length cp2)).heap.size := lt_of_block hbm7
        have hbm8 : ∀ ob1 ob2, (((w6.setCell ⟨M, 3, none⟩ (.slice oa2 li.length cp2)).alloc ob1).alloc ob2).heap[M]? = some (.cells #[.pointer (some ⟨mb, mo, none⟩), .pointer (some ⟨hp, 0, none⟩), .slice none 0 0, .slice oa2 li.length cp2, .int .i64 0, .int .i64 0, .bool false, .int .i64 (n' : Int), .int .i64 (o' : Int), .slice oa1 l.length cp1, .bool false] 147 (0, 0)) := fun ob1 ob2 => by
          have hb1 : Below (M + 1) (w6.setCell ⟨M, 3, none⟩ (.slice oa2 li.length cp2)) ((w6.setCell ⟨M, 3, none⟩ (.slice oa2 li.length cp2)).alloc ob1) := (Below.refl _ _).alloc hM7 ob1
          have hb2 := hb1.alloc (Nat.le_trans hM7 hb1.size) ob2
          exact (hb2.block M (Nat.lt_succ_self M)).trans hbm7
        have hd8 : ∀ ob1 ob2, (((w6.setCell ⟨M, 3, none⟩ (.slice oa2 li.length cp2)).alloc ob1).alloc ob2).cell? ⟨M, 2, none⟩ = some (.slice none 0 0) := fun ob1 ob2 => cell_of_block (hbm8 ob1 ob2) rfl
        have hf8 : ∀ ob1 ob2, (((w6.setCell ⟨M, 3, none⟩ (.slice oa2 li.length cp2)).alloc ob1).alloc ob2).frozen? ⟨M, 2, none⟩ = false := fun ob1 ob2 => by simp only [World.frozen?, hbm8 ob1 ob2]; rfl
        have hB8 : ∀ ob1 ob2 v, Below w.heap.size w ((((w6.setCell ⟨M, 3, none⟩ (.slice oa2 li.length cp2)).alloc ob1).alloc ob2).setCell ⟨M, 2, none⟩ v) := fun ob1 ob2 v => ((hB7.alloc (by have := hB7.size; exact this) ob1).alloc (by have := (hB7.alloc (by have := hB7.size; exact this) ob1).size; exact this) ob2).setCell (by show w.heap.size ≤ M; omega) v
        clear hbm8
        go_wp2
        go_ret2
        refine ⟨0, -1, 0, -1, _, _, rfl, hv0, Or.inl ⟨rfl, rfl, rfl⟩, fun h => absurd rfl h, fun _ h => ?_, fun _ _ => ⟨rfl, rfl⟩, rfl, hB8 _ _ _⟩
        exfalso
        rw [badB, hr, z1, q2] at h
        cases h
      · rw [q2] at hT
        go_wp2_with (go_at_call 38; refine hT.mono ?_; rintro e w' ⟨rfl, hw⟩; rw [hw]; clear hw)
        go_ret2
        refine ⟨0, -1, 2, -1, _, none, rfl, hv0, Or.inr (Or.inl ⟨by decide, rfl, rfl⟩), fun h => absurd rfl h, fun _ _ => ⟨rfl, rfl⟩, fun _ h => ?_, rfl, hB2⟩
        rw [badB, q2] at h
        simp at h
    · go_wp2_with fail
      refine (new_bad n o w1 ?_).mono ?_
      · simp only [roomB, Bool.or_eq_true, decide_eq_true_eq] at hr; omega
      rintro r w2 ⟨rfl, rfl⟩
      go_wp2
      go_ret2
      refine ⟨0, -1, 2, -1, _, none, rfl, hv0, Or.inr (Or.inl ⟨by decide, rfl, rfl⟩), fun h => absurd rfl h, fun _ _ => ⟨rfl, rfl⟩, fun _ h => ?_, rfl, hB1⟩
      rw [badB, hr] at h
      cases h
  · go_wp2
    go_ret2
    exact ⟨e0, -1, e0, -1, _, none, rfl, hv0, Or.inr (Or.inl ⟨hne, rfl, rfl⟩), fun _ => ⟨rfl, rfl⟩, fun h => absurd h hne, fun h => absurd h hne, by simp [hne], hB1⟩
  · go_wp2
    go_ret2
    exact ⟨e0, p0, e0, p0, _, none, rfl, hv0, Or.inr (Or.inr ⟨b, rfl, hb, hne⟩), fun _ => ⟨rfl, rfl⟩, fun h => absurd h hne, fun h => absurd h hne, by simp [hne], hB1⟩
end Go.Proofs.YthbkklnahhdgcaaDoor.VmB
