/-
  What check's last loop asks: the last of todo, taken; what is right of an instruction.
-/
import Derived.Test.YthbkklnahhdgcaaDoorCodeXa
namespace Go.Proofs.YthbkklnahhdgcaaDoor.CodeXb
open Go Go.Proofs Go.RowKit Lib CodeR CodeA CodeB CodeP CodeD CodeT CodeU CodeV CodeW CodeXa

theorem own_slice {w : World} {base : Nat} {e : TypeId} {size : Nat} {v : Value} {n : Nat} {xs : List Value} (h : w.ownsRow base e size v n xs) : ∃ oa cap, v = .slice oa n cap := by
  obtain ⟨_, h2⟩ := h
  rcases h2 with ⟨rfl, rfl⟩ | ⟨g, cap, _, rfl, _⟩
  · exact ⟨none, 0, rfl⟩
  · exact ⟨some ⟨g, 0, none⟩, cap, rfl⟩

/-- A row of one-cell elements, its last one, and without it. -/
theorem own_last {w : World} {base : Nat} {e : TypeId} {v : Value} {xs : List Value} {x : Value} (h : w.ownsRow base e 1 v (xs ++ [x]).length (xs ++ [x])) :
    ∃ g cap, v = .slice (some ⟨g, 0, none⟩) (xs.length + 1) cap ∧ base ≤ g ∧ xs.length + 1 ≤ cap ∧ w.cell? ⟨g, xs.length, none⟩ = some x ∧ w.ownsRow base e 1 (.slice (some ⟨g, 0, none⟩) xs.length cap) xs.length xs := by
  obtain ⟨h1, h2⟩ := h
  rcases h2 with ⟨_, h2⟩ | ⟨g, cap, cur, rfl, h3, h4, h5, h6, h7, h8⟩
  · simp at h2
  · rw [List.length_append, List.length_singleton] at h5 h8
    rw [Nat.mul_one] at h7 h8
    refine ⟨g, cap, by simp, h3, h5, ?_, by simp, Or.inr ⟨g, cap, cur, rfl, h3, h4, by omega, h6, by omega, ?_⟩⟩
    · refine Lib.cell_of_block (w := w) (c := cur) (t := e) (f := (0, 0)) h4 ?_
      have : (cur.toList.take (xs.length + 1))[xs.length]? = some x := by rw [h8]; simp
      rw [List.getElem?_take_of_lt (by omega)] at this
      simpa using this
    · rw [Nat.mul_one]
      have : (cur.toList.take (xs.length + 1)).take xs.length = xs := by rw [h8]; simp
      rw [List.take_take] at this
      rwa [Nat.min_eq_left (by omega)] at this

theorem CI.last {w wz : World} {X ex dx tx da base fb fo : Nat} {deep : List Int} {t : List Nat} {p : Nat} {e : Int} {v : Value} (h : CI w wz X ex dx tx da base fb fo deep (t ++ [p]) e v) :
    ∃ g cap, v = .slice (some ⟨g, 0, none⟩) (t.length + 1) cap ∧ t.length + 1 ≤ cap ∧ wz.cell? ⟨g, t.length, none⟩ = some (.int .i64 (p : Int)) ∧
      CI w (wz.setCell ⟨tx, 0, none⟩ (.slice (some ⟨g, 0, none⟩) t.length cap)) X ex dx tx da base fb fo deep t e (.slice (some ⟨g, 0, none⟩) t.length cap) := by
  obtain ⟨S, hb, hs⟩ := h
  have ho := S.own
  rw [List.map_append, List.length_append] at ho
  have ho' : wz.ownsRow base 3 1 v ((t.map fun (i : Nat) => Value.int .i64 (i : Int)) ++ [Value.int .i64 (p : Int)]).length ((t.map fun (i : Nat) => Value.int .i64 (i : Int)) ++ [Value.int .i64 (p : Int)]) := by
    simpa using ho
  obtain ⟨g, cap, hv, hg, hc, hcell, hown⟩ := own_last ho'
  rw [List.length_map] at hv hc hcell hown
  have hk : ∀ k, k ≠ tx → (wz.setCell ⟨tx, 0, none⟩ (.slice (some ⟨g, 0, none⟩) t.length cap)).heap[k]? = wz.heap[k]? := fun k hk => block_setCell_ne hk
  have hlow := S.low
  have hhi := S.high
  refine ⟨g, cap, hv, hc, hcell, ⟨?_, ?_, by simpa [World.setCell] using hs⟩⟩
  · exact { fbox := (hk _ S.ft).trans S.fbox, ebox := (hk _ S.et).trans S.ebox, dbox := (hk _ S.dt).trans S.dbox, darr := (hk _ S.at').trans S.darr, tbox := one_setCell S.tbox, own := own_keep hown (fun k h => hk k (by cases h; simp only; omega)), low := S.low, high := S.high, fe := S.fe, fd := S.fd, ft := S.ft, ed := S.ed, et := S.et, edx := S.edx, dd := S.dd, dt := S.dt, at' := S.at' }
  · exact hb.trans ⟨rfl, rfl, rfl, by simp [World.setCell], fun k hkX => hk k (by omega)⟩

/-- What is right of an instruction, in numbers. -/
theorem right_nums {m : Im} {f : Fc} {x : I3} (h : rightB m f x = true) :
    (1 ≤ x.op ∧ x.op ≤ 45) ∧ (x.op = 34 ∨ x.op = 37 → 0 ≤ x.b ∧ x.b ≤ 50) ∧ (x.op = 35 → 0 ≤ x.b) ∧ (x.op = 15 ∨ x.op = 16 ∨ x.op = 17 ∨ x.op = 18 → 0 ≤ x.a ∧ x.a < f.code.length) ∧ (x.op = 29 → 0 ≤ x.a ∧ x.a ≤ 50) ∧ (x.op = 36 ∨ x.op = 38 ∨ x.op = 39 → 0 ≤ x.b ∧ x.b ≤ 50) := by
  unfold rightB at h
  by_cases h1 : x.op = 2
  · omega
  rw [if_neg h1] at h
  by_cases h2 : x.op = 6 ∨ x.op = 7 ∨ x.op = 8 ∨ x.op = 9 ∨ x.op = 10
  · omega
  rw [if_neg h2] at h
  by_cases h3 : x.op = 11 ∨ x.op = 12 ∨ x.op = 13 ∨ x.op = 29
  · rw [if_pos h3] at h
    simp [CodeR.within] at h
    omega
  rw [if_neg h3] at h
  by_cases h4 : x.op = 15 ∨ x.op = 16 ∨ x.op = 17 ∨ x.op = 18
  · rw [if_pos h4] at h
    simp [CodeR.within] at h
    omega
  rw [if_neg h4] at h
  by_cases h5 : x.op = 32 ∨ x.op = 33
  · omega
  rw [if_neg h5] at h
  by_cases h6 : x.op = 34
  · rw [if_pos h6] at h
    simp [CodeR.within, fewB] at h
    omega
  rw [if_neg h6] at h
  by_cases h7 : x.op = 35
  · rw [if_pos h7] at h
    simp at h
    omega
  rw [if_neg h7] at h
  by_cases h8 : x.op = 36
  · rw [if_pos h8] at h
    simp [CodeR.within, fewB] at h
    omega
  rw [if_neg h8] at h
  by_cases h9 : x.op = 37
  · rw [if_pos h9] at h
    simp [CodeR.within, fewB] at h
    omega
  rw [if_neg h9] at h
  by_cases h10 : x.op = 38
  · rw [if_pos h10] at h
    simp [CodeR.within, fewB] at h
    omega
  rw [if_neg h10] at h
  by_cases h11 : x.op = 39
  · rw [if_pos h11] at h
    simp [CodeR.within, fewB] at h
    omega
  rw [if_neg h11] at h
  simp [CodeR.within] at h
  omega
theorem take_nums {m : Im} {f : Fc} {x : I3} (h : rightB m f x = true) : 0 ≤ takeI x ∧ takeI x ≤ 70 ∧ 0 ≤ leaveI x ∧ leaveI x ≤ 1 := by
  obtain ⟨h1, h2, h3, h4, h5, h6⟩ := right_nums h
  refine ⟨?_, ?_, leave_pos x, by unfold leaveI; split <;> decide⟩
  all_goals
    unfold takeI
    split
    · decide
    split
    · decide
    split
    · decide
    split
    · omega
    split
    · rename_i h7
      have := Int.tmod_nonneg 64 (h3 h7)
      have := Int.tmod_lt_of_pos x.b (show (0 : Int) < 64 by decide)
      omega
    split
    · omega
    split
    · omega
    · decide
theorem step_done {f : Fc} {k : Nat} {deep deep' : List Int} {todo' : List Nat} {p : Nat} {n : Int} {x : I3} {e' : Int} (hl : lab deep p = some n) (hx : f.code[p]? = some x) (ht : takeI x ≤ n) (hP : PS f (fun i => i = p) deep' todo' e')
    (hper : ∀ i k, lab deep i = some k → lab deep' i = some k) (hfol : e' = 0 → ∀ y ∈ follows p n x, lab deep' y.1.toNat = some y.2) (hSt : St f k deep 0) : PS f (fun _ => False) deep' todo' e' ∧ St f k deep' e' :=
  ⟨hP.pay (fun _ => hper _ _ hl) hx ht hfol, hSt.keep (fun _ => rfl) hper⟩
/-- The box of the instruction stays. -/
theorem keep_box {w w' : World} {ex da tx : Nat} {v : Value} {b o : Nat} {u : Value} (h : Turned (Ws ex da tx v) w w') (hb : ¬ Ws ex da tx v b) (hc : w.cell? ⟨b, o, none⟩ = some u) : w'.cell? ⟨b, o, none⟩ = some u :=
  (h.cell (p := ⟨b, o, none⟩) (World.block_lt_of_cell? w _ hc) hb).trans hc
end Go.Proofs.YthbkklnahhdgcaaDoor.CodeXb
