/-
  The contract of slices.Repeat at one number: a new slice of that number, so many times.
-/
import Derived.Test.YthbkklnahhdgcaaDoorDMC
import Derived.Test.YthbkklnahhdgcaaDoorDMA
import Derived.Laws.CopyOwn
import Derived.Laws.MakeOwn
import Derived.LoopTactic
import Derived.Deep.RegionLaw
namespace Go.Proofs.YthbkklnahhdgcaaDoor.CodeU
open Go Go.Proofs Go.RowKit Lib CodeR CodeA CodeB CodeP CodeD

theorem mul_one (n : Nat) (hn : n ≤ 5000) (u : World) : Calls Tryd.prog 101 #[.int .u64 1, .int .u64 (n : Int)] u fun e w' => e = .returned (.tuple #[.int .u64 0, .int .u64 (n : Int)]) ∧ w' = u := by
  have h := Tryd.bits_Mul 1 n (by decide) (by omega) u
  rw [Nat.one_mul, Nat.div_eq_of_lt (by omega), Nat.mod_eq_of_lt (by omega)] at h
  exact h
theorem mem_rep {x v : Value} {n : Nat} (hx : x.oneCell' = true) (h : v ∈ List.replicate n x) : v.oneCell' = true := by
  rw [(List.mem_replicate.mp h).2]; exact hx
theorem made_ints (n : Nat) : madeCells (Value.int .i64 0).cells (n * 1) = (List.replicate n (Value.int .i64 0)).toArray := by
  apply Array.ext
  · rw [size_madeCells]; simp
  · intro i h1 h2
    simp only [madeCells, Value.cells, Array.getElem_map, Array.getElem_range]
    simp [Nat.mod_one]
/-- So many x, the rest 0. -/
def part (n k : Nat) (x : Int) : List Value := List.replicate k (.int .i64 x) ++ List.replicate (n - k) (.int .i64 0)
theorem part_len {n k : Nat} {x : Int} (h : k ≤ n) : (part n k x).length = n := by simp [part]; omega
theorem part_splice {n k c : Nat} {x : Int} (_h : k + c ≤ n) : splice (part n k x) k (List.replicate c (.int .i64 x)) = part n (k + c) x := by
  unfold splice part
  rw [List.take_append_of_le_length (by simp), List.take_of_length_le (by simp), List.length_replicate, List.drop_append, List.drop_of_length_le (by simp), List.nil_append, List.drop_replicate, ← List.append_assoc, List.replicate_append_replicate]
  congr 2
  simp
  omega
theorem part_zero (n : Nat) (x : Int) : part n 0 x = List.replicate n (.int .i64 0) := by simp [part]
theorem part_full (n : Nat) (x : Int) : part n n x = List.replicate n (.int .i64 x) := by simp [part]

set_option maxRecDepth 100000 in
set_option maxHeartbeats 1000000 in
theorem repeat_any (w : World) (a : Nat) (x : Int) (n : Nat) (h1 : 1 ≤ n) (h2 : n ≤ 5000) (ha : w.cell? ⟨a, 0, none⟩ = some (.int .i64 x)) :
    Calls Tryd.prog 82 #[.slice (some ⟨a, 0, none⟩) 1 1, .int .i64 (n : Int)] w fun r w' => r = .returned (.slice (some ⟨w.heap.size, 0, none⟩) n n) ∧ w'.heap[w.heap.size]? = some (.cells (List.replicate n (.int .i64 x)).toArray 3 (0, 0)) ∧ Below w.heap.size w w' := by
  obtain ⟨i0, hi, hz0, hz1, hz2⟩ := info_parts infoInt
  have hsz : (Tryd.prog.info? 3).map (·.size) = some 1 := by rw [hi]; simp [hz1]
  have hmk : ∀ u : World, (Instr.makeSlice 52 (.int .i64 (n : Int)) (.int .i64 (n : Int))).run Tryd.prog u =
      .ok (.slice (some ⟨u.heap.size, 0, none⟩) n n) (u.alloc (.cells (part n 0 x).toArray 3)) := fun u => by
    have h := run_make (P := Tryd.prog) u 52 3 i0 _ Tryd.underlying52 hi hz0 .i64 .i64 (n : Int) (n : Int) (by omega) (Int.le_refl _) (by rw [hz2]; omega) (by omega)
    rw [Int.toNat_natCast, hz1] at h
    rw [h, part_zero, made_ints]
  have hmul := mul_one n h2
  have hn0 : decide ((n : Int) < 0) = false := by simp
  have hn1 : decide (9223372036854775807 < (n : Int)) = false := by simp; omega
  have ha1 : ∀ ob, (w.alloc ob).cell? ⟨a, 0, none⟩ = some (.int .i64 x) := alloc_cell ha
  have hlt := World.block_lt_of_cell? w _ ha
  go_enter Tryd.func82, Tryd.ntmps82
  go_wp2_with (first | (with_reducible refine wpList_copy_splice (o := ⟨some 33, _, _, _, _, _⟩) rfl (.tmp 31) (.tmp 32) 52 52 rfl 3 Tryd.underlying52 hsz (some ⟨w.heap.size, 0, none⟩) (some ⟨a, 0, none⟩) n n 1 1 rfl rfl w.heap.size 0 (part n 0 x) 3 (heap_alloc_new w _) [.int .i64 x] ?c1 ?c2 ?c3 ?c4 w.heap.size w ?c5 (Nat.le_refl _) ?_) | (go_at_call 101; refine (hmul _).mono ?_; rintro e w1 ⟨rfl, hw1⟩; rw [hw1]; clear hw1 w1))
  case c1 => show 1 = Nat.min 1 n; exact (Nat.min_eq_left h1).symm
  case c2 =>
    intro j v hj
    match j, hj with
    | 0, hj => simp at hj; subst hj; exact ha
  case c3 => rw [part_len (by omega)]; simp; omega
  case c4 => intro v hv; simp at hv; subst hv; rfl
  case c5 => exact below_alloc (Below.refl _ _) _ (Nat.le_refl _)
  intro w1 hg1 hb1
  have hg1' : w1.heap[w.heap.size]? = some (.cells (part n 1 x).toArray 3 (0, 0)) := by
    have := part_splice (n := n) (k := 0) (c := 1) (x := x) (by omega)
    rw [← this]; exact hg1
  clear hg1 hmk ha1
  go_wp2
  go_loopw [8] (fun v wr => ∃ k : Nat, 1 ≤ k ∧ k ≤ n ∧ v = .int .i64 (k : Int) ∧ wr.heap[w.heap.size]? = some (.cells (part n k x).toArray 3 (0, 0)) ∧ Below w.heap.size w wr) (fun v _ => n - (intOf v).toNat)
  case atStart => exact ⟨1, Nat.le_refl _, h1, rfl, hg1', hb1⟩
  case round =>
    obtain ⟨k, hk1, hk2, rfl, hg, hb⟩ := hrel
    by_cases hkn : k < n
    · have hkd : decide ((k : Int) < (n : Int)) = true := by simp; omega
      have i1 : (0 : Int) ≤ (k : Int) := by omega
      have i2 : (k : Int) ≤ (n : Int) := by omega
      have i3 : (k : Int) < (n : Int) := by omega
      have hmin : ((min k (n - k) : Nat) : Int) ≤ (n : Int) := by omega
      have hc1 : (List.replicate (min k (n - k)) (Value.int .i64 x)).length = Nat.min k (n - k) := by simp
      have hc2 : ∀ j v, (List.replicate (min k (n - k)) (Value.int .i64 x))[j]? = some v → wr.drew.cell? ((⟨w.heap.size, 0, none⟩ : Addr).add j) = some v := by
        intro j v hj
        rw [List.getElem?_replicate] at hj
        split at hj
        · cases hj
          have hj' : j < k := by omega
          have : (wr.drew.cell? ⟨w.heap.size, 0 + j, none⟩) = some (.int .i64 x) := by
            rw [Nat.zero_add]
            refine cell_of_block (w := wr.drew) (c := (part n k x).toArray) (t := 3) (f := (0, 0)) hg ?_
            simp [part, List.getElem?_append_left, hj']
          by_cases hj0 : j = 0
          · subst hj0; exact this
          · simpa [Addr.add, hj0] using this
        · cases hj
      have hc3 : k + (List.replicate (min k (n - k)) (Value.int .i64 x)).length ≤ (part n k x).length := by rw [part_len hk2]; simp; omega
      have hc4 : ∀ v ∈ List.replicate (min k (n - k)) (Value.int .i64 x), v.oneCell' = true := fun v hv => mem_rep rfl hv
      have hnk : ¬ n = k := by omega
      have hbd : Below w.heap.size w wr.drew := ⟨hb.os, hb.tape, hb.output, hb.size, hb.block⟩
      have hgd : wr.drew.heap[w.heap.size]? = some (.cells (part n k x).toArray 3 (0, 0)) := hg
      have hrun := run_copy_row (P := Tryd.prog) wr.drew 52 52 3 3 w.heap.size k (n - k) (n - k) ⟨w.heap.size, 0, none⟩ k n (part n k x).toArray 3 (List.replicate (min k (n - k)) (.int .i64 x)) Tryd.underlying52 hsz hgd hc1 hc2 (by simpa using hc3) hc4
      have hrow := setRow_heap wr.drew w.heap.size _ ((part n k x).toArray.toList.take k ++ List.replicate (min k (n - k)) (Value.int .i64 x) ++ (part n k x).toArray.toList.drop (k + (List.replicate (min k (n - k)) (Value.int .i64 x)).length)).toArray 3 (0, 0) hgd
      have hbel := below_setRow hbd (Nat.le_refl _) ((part n k x).toArray.toList.take k ++ List.replicate (min k (n - k)) (Value.int .i64 x) ++ (part n k x).toArray.toList.drop (k + (List.replicate (min k (n - k)) (Value.int .i64 x)).length)).toArray
      generalize wr.drew.setRow w.heap.size _ = w4 at hrun hrow hbel
      have hsp := part_splice (n := n) (k := k) (c := min k (n - k)) (x := x) (by omega)
      unfold splice at hsp
      rw [List.append_assoc, List.toList_toArray, hsp] at hrow
      rw [List.length_replicate] at hrun
      unfold goInt at hrun
      clear hc1 hc2 hc3 hc4 hsp hmin
      go_wp2
      go_region
      go_wp2
      go_roundw
      case rel => exact ⟨k + min k (n - k), by omega, by omega, by simp, hrow, hbel⟩
      case measure => simp [intOf]; omega
    · obtain rfl : k = n := by omega
      have hkd : decide ((k : Int) < (k : Int)) = false := by simp
      go_wp2
      go_ret
      rw [part_full] at hg
      exact ⟨rfl, hg, hb⟩
end Go.Proofs.YthbkklnahhdgcaaDoor.CodeU
