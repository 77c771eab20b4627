/-
  The contract of package code's check, at a function that is too much.
-/
import Derived.Test.YthbkklnahhdgcaaDoorDCodeT
import Derived.Test.YthbkklnahhdgcaaDoorDMA
import Derived.Test.YthbkklnahhdgcaaDoorDCodeU
namespace Go.Proofs.YthbkklnahhdgcaaDoor.CodeW
open Go Go.Proofs Go.RowKit Lib CodeR CodeA CodeB CodeP

theorem lim_cases (f : Fc) : (limB f = true ∧ 1 ≤ f.code.length ∧ f.code.length ≤ 5000 ∧ 0 ≤ f.params ∧ f.params ≤ 8 ∧ f.params ≤ f.slots ∧ f.slots ≤ 200) ∨ (limB f = false ∧ ((f.code.length : Int) < 1 ∨ 5000 < (f.code.length : Int) ∨ f.params < 0 ∨ 8 < f.params ∨ f.slots < f.params ∨ 200 < f.slots)) := by
  unfold limB CodeR.within
  by_cases h : 1 ≤ (f.code.length : Int) ∧ (f.code.length : Int) ≤ 5000 ∧ 0 ≤ f.params ∧ f.params ≤ 8 ∧ f.params ≤ f.slots ∧ f.slots ≤ 200
  · left
    refine ⟨?_, by omega, by omega, by omega, by omega, by omega, by omega⟩
    simp; omega
  · right
    refine ⟨?_, by omega⟩
    rw [Bool.eq_false_iff]
    intro hc
    apply h
    simp at hc
    omega

set_option maxRecDepth 100000 in
set_option maxHeartbeats 4000000 in
theorem check_lim (mb mo fb fo : Nat) (_m : Im) (f : Fc) (w : World) (hf : Row w fb fo f.vals) (hfi : FcIn w f) (hl : limB f = false) :
    Calls Tryd.prog 41 #[.pointer (some ⟨mb, mo, none⟩), .pointer (some ⟨fb, fo, none⟩)] w fun r w' => r = .returned (.int .i64 4) ∧ Below w.heap.size w w' := by
  have hf1 : w.cell? ⟨fb, fo + 1, none⟩ = some (.int .i64 f.params) := hf 1 _ rfl
  have hf2 : w.cell? ⟨fb, fo + 2, none⟩ = some (.int .i64 f.slots) := hf 2 _ rfl
  have hf3 : w.cell? ⟨fb, fo + 3, none⟩ = some f.codeS.val := hf 3 _ rfl
  have hn := hfi.code.len
  rw [List.length_map] at hn
  unfold Sl.val at hf3
  have d1 := alloc_cell hf1
  have d2 := alloc_cell hf2
  have d3 := alloc_cell hf3
  rcases lim_cases f with h | ⟨_, h⟩
  · rw [hl] at h; cases h.1
  clear hf hfi hl

  by_cases c1 : (f.code.length : Int) < 1
  · have k0 : decide ((f.code.length : Int) < 1) = true := by simpa using c1
    clear h
    go_enter Tryd.func41, Tryd.ntmps41
    go_wp2
    go_quiet (fail)
    go_wp2
    go_ret
    exact ⟨rfl, below_drewN (below_alloc (Below.refl _ _) _ (Nat.le_refl _)) _⟩
  have k0 : decide ((f.code.length : Int) < 1) = false := by simpa using c1
  by_cases c2 : 5000 < (f.code.length : Int)
  · have k1 : decide (5000 < (f.code.length : Int)) = true := by simpa using c2
    clear h
    go_enter Tryd.func41, Tryd.ntmps41
    go_wp2
    go_quiet (fail)
    go_wp2
    go_ret
    exact ⟨rfl, below_drewN (below_alloc (Below.refl _ _) _ (Nat.le_refl _)) _⟩
  have k1 : decide (5000 < (f.code.length : Int)) = false := by simpa using c2
  by_cases c3 : f.params < 0
  · have k2 : decide (f.params < 0) = true := by simpa using c3
    clear h
    go_enter Tryd.func41, Tryd.ntmps41
    go_wp2
    go_quiet (fail)
    go_wp2
    go_ret
    exact ⟨rfl, below_drewN (below_alloc (Below.refl _ _) _ (Nat.le_refl _)) _⟩
  have k2 : decide (f.params < 0) = false := by simpa using c3
  by_cases c4 : 8 < f.params
  · have k3 : decide (8 < f.params) = true := by simpa using c4
    clear h
    go_enter Tryd.func41, Tryd.ntmps41
    go_wp2
    go_quiet (fail)
    go_wp2
    go_ret
    exact ⟨rfl, below_drewN (below_alloc (Below.refl _ _) _ (Nat.le_refl _)) _⟩
  have k3 : decide (8 < f.params) = false := by simpa using c4
  by_cases c5 : f.slots < f.params
  · have k4 : decide (f.slots < f.params) = true := by simpa using c5
    clear h
    go_enter Tryd.func41, Tryd.ntmps41
    go_wp2
    go_quiet (fail)
    go_wp2
    go_ret
    exact ⟨rfl, below_drewN (below_alloc (Below.refl _ _) _ (Nat.le_refl _)) _⟩
  have k4 : decide (f.slots < f.params) = false := by simpa using c5
  · have c6 : 200 < f.slots := by omega
    have k5 : decide (200 < f.slots) = true := by simpa using c6
    clear h
    go_enter Tryd.func41, Tryd.ntmps41
    go_wp2
    go_quiet (fail)
    go_wp2
    go_ret
    exact ⟨rfl, below_drewN (below_alloc (Below.refl _ _) _ (Nat.le_refl _)) _⟩

end Go.Proofs.YthbkklnahhdgcaaDoor.CodeW

/-
  What check's loops keep, as one word; come, met there.
-/
namespace Go.Proofs.YthbkklnahhdgcaaDoor.CodeXa
open Go Go.Proofs Go.RowKit Lib CodeR CodeA CodeB CodeP CodeD CodeU CodeV CodeW

/-- Numbers that a machine's int holds. -/
def bOk (f : Fc) : Prop := ∀ x ∈ f.code, -9223372036854775808 ≤ x.b ∧ x.b ≤ 9223372036854775807

theorem right_verdict {m : Im} {f : Fc} {k : Nat} {x : I3} (hl : limB f = true) (hx : f.code[k]? = some x) (hr : rightB m f x = false) : Verdict m f 2 := by
  have hall : f.code.all (rightB m f) = false := by
    rw [Bool.eq_false_iff]
    intro h
    rw [List.all_eq_true] at h
    rw [h x (List.mem_of_getElem? hx)] at hr
    cases hr
  exact { lim := fun h => by (rw [hl] at h; cases h), right := fun _ _ => rfl, hand := fun _ _ _ => rfl, fit := fun _ h => by rw [hall] at h; cases h }
theorem hand_verdict {m : Im} {f : Fc} {k : Nat} {x : H3} (hl : limB f = true) (_hr : f.code.all (rightB m f) = true) (hx : f.hs[k]? = some x) (hb : handB f x = false) : Verdict m f 2 := by
  have hall : (f.hs.all (handB f) && f.vars.all (varB f)) = false := by
    rw [Bool.and_eq_false_iff]
    left
    rw [Bool.eq_false_iff]
    intro h
    rw [List.all_eq_true] at h
    rw [h x (List.mem_of_getElem? hx)] at hb
    cases hb
  exact { lim := fun h => by (rw [hl] at h; cases h), right := fun _ _ => rfl, hand := fun _ _ _ => rfl, fit := fun _ _ h => by rw [hall] at h; cases h }
theorem var_verdict {m : Im} {f : Fc} {k : Nat} {x : Vr} (hl : limB f = true) (_hr : f.code.all (rightB m f) = true) (hx : f.vars[k]? = some x) (hb : varB f x = false) : Verdict m f 2 := by
  have hall : (f.hs.all (handB f) && f.vars.all (varB f)) = false := by
    rw [Bool.and_eq_false_iff]
    right
    rw [Bool.eq_false_iff]
    intro h
    rw [List.all_eq_true] at h
    rw [h x (List.mem_of_getElem? hx)] at hb
    cases hb
  exact { lim := fun h => by (rw [hl] at h; cases h), right := fun _ _ => rfl, hand := fun _ _ _ => rfl, fit := fun _ _ h => by rw [hall] at h; cases h }
theorem end_verdict {m : Im} {f : Fc} {e : Int} (hl : limB f = true) (hr : f.code.all (rightB m f) = true) (hh : f.hs.all (handB f) = true) (hv : f.vars.all (varB f) = true) (he : (e = 0 ∧ ∃ d, Fits f d) ∨ (e = 3 ∧ ∀ d, ¬ Fits f d)) : Verdict m f e :=
  { lim := fun h => by (rw [hl] at h; cases h), right := fun _ h => by (rw [hr] at h; cases h), hand := fun _ _ h => by (rw [hh, hv] at h; cases h), fit := fun _ _ _ => he }

/-- What check's loops keep. -/
structure CI (w wz : World) (X ex dx tx da base fb fo : Nat) (deep : List Int) (todo : List Nat) (e : Int) (v : Value) : Prop where
  cs : CS wz X X ex dx tx da base (.pointer (some ⟨fb, fo, none⟩)) deep todo e v
  bel : Below X w wz
  big : base ≤ wz.heap.size

theorem CI.keep {w wz w' : World} {X ex dx tx da base fb fo : Nat} {deep : List Int} {todo : List Nat} {e : Int} {v : Value} (h : CI w wz X ex dx tx da base fb fo deep todo e v) (hb : Below wz.heap.size wz w') : CI w w' X ex dx tx da base fb fo deep todo e v :=
  ⟨h.cs.below hb, h.bel.trans (hb.mono (by have := h.cs.size; omega)), Nat.le_trans h.big hb.size⟩

theorem come_c {w wz : World} {X ex dx tx da base fb fo : Nat} {f : Fc} {pend : Nat → Prop} {deep : List Int} {todo : List Nat} {e : Int} {v : Value} (p : Nat) (n : Int)
    (h : CI w wz X ex dx tx da base fb fo deep todo e v) (hX : w.heap.size = X) (hf : Row w fb fo f.vals) (hfi : FcIn w f) (l2 : f.code.length ≤ 5000) (hp : PS f pend deep todo e) :
    Calls Tryd.prog 83 #[.int .i64 (p : Int), .int .i64 n, .pointer (some ⟨X, 0, none⟩), .pointer (some ⟨ex, 0, none⟩), .pointer (some ⟨dx, 0, none⟩), .pointer (some ⟨tx, 0, none⟩)] wz
      fun r w' => r = .returned (.tuple #[]) ∧ ∃ v', CI w w' X ex dx tx da base fb fo (comeD deep e p n).1 (nextT deep todo p n) (comeD deep e p n).2 v' ∧ Turned (Ws ex da tx v) wz w' := by
  have hl := hp.inv.len
  have hr := hp.room
  refine (come_any wz X X ex dx tx da base fb fo f deep todo e v p n h.cs (hf.below h.bel (Nat.le_of_eq hX)) (hfi.below h.bel (Nat.le_of_eq hX)) hl (by omega) (by omega) h.big).mono ?_
  rintro r w' ⟨rfl, v', h1, h2⟩
  refine ⟨rfl, v', ⟨h1, ?_, Nat.le_trans h.big h2.size⟩, h2⟩
  exact h.bel.trans (h.cs.under h2)

theorem below3 {B : Nat} {a w2 : World} (h : Below B a w2) (hB : B ≤ w2.heap.size) (o1 o2 o3 : Obj) : Below B a (((w2.alloc o1).alloc o2).alloc o3) := by
  refine (h.trans (below_alloc (below_alloc (below_alloc (Below.refl _ _) o1 hB) o2 ?_) o3 ?_))
  · exact hB
  · exact hB
/-- The boxes as check makes them. -/
theorem CS_start {w2 : World} {X da n : Nat} {F : Value} (hX : w2.heap[X]? = some (.cells #[F] 116 (0, 0))) (hda : w2.heap[da]? = some (.cells (List.replicate n (Value.int .i64 (-1))).toArray 3 (0, 0))) (hXd : X < da) :
    CS (((w2.alloc (.cells #[.slice (some ⟨da, 0, none⟩) n n] 52)).alloc (.cells #[.slice none 0 0] 52)).alloc (.cells #[.int .i64 0] 35)) X X (w2.heap.size + 1 + 1) w2.heap.size (w2.heap.size + 1) da (w2.heap.size + 3) F (List.replicate n (-1)) [] 0 (.slice none 0 0) := by
  have h1 := lt_of_block hX
  have h2 := lt_of_block hda
  have old : ∀ k, k < w2.heap.size → (((w2.alloc (.cells #[.slice (some ⟨da, 0, none⟩) n n] 52)).alloc (.cells #[.slice none 0 0] 52)).alloc (.cells #[.int .i64 0] 35)).heap[k]? = w2.heap[k]? := by
    intro k hk
    rw [Below.heap_alloc _ _ _ (by simp; omega), Below.heap_alloc _ _ _ (by simp; omega), Below.heap_alloc _ _ _ hk]
  refine { fbox := (old _ h1).trans hX, ebox := ?_, dbox := ?_, darr := ?_, tbox := ?_, own := World.ownsRow_nil _ _ _ _, low := by omega, high := by omega, fe := by omega, fd := by omega, ft := by omega, ed := by omega, et := by omega, edx := by omega, dd := by omega, dt := by omega, at' := by omega }
  · have := heap_alloc_new ((w2.alloc (.cells #[.slice (some ⟨da, 0, none⟩) n n] 52)).alloc (.cells #[.slice none 0 0] 52)) (.cells #[.int .i64 0] 35)
    simpa using this
  · rw [Below.heap_alloc _ _ _ (by simp; omega), Below.heap_alloc _ _ _ (by simp)]
    simpa using heap_alloc_new w2 (.cells #[.slice (some ⟨da, 0, none⟩) n n] 52)
  · rw [List.map_replicate]
    exact (old _ h2).trans hda
  · rw [Below.heap_alloc _ _ _ (by simp)]
    simpa using heap_alloc_new (w2.alloc (.cells #[.slice (some ⟨da, 0, none⟩) n n] 52)) (.cells #[.slice none 0 0] 52)
end Go.Proofs.YthbkklnahhdgcaaDoor.CodeXa

/-
  What check's last loop asks: the last of todo, taken; what is right of an instruction.
-/
namespace Go.Proofs.YthbkklnahhdgcaaDoor.CodeXb
open Go Go.Proofs Go.RowKit Lib CodeR CodeA CodeB CodeP CodeD CodeT CodeU CodeV CodeW CodeXa

theorem own_slice {w : World} {base : Nat} {e : TypeId} {size : Nat} {v : Value} {n : Nat} {xs : List Value} (h : w.ownsRow base e size v n xs) : ∃ oa cap, v = .slice oa n cap := by
  obtain ⟨_, h2⟩ := h
  rcases h2 with ⟨rfl, rfl⟩ | ⟨g, cap, _, rfl, _⟩
  · exact ⟨none, 0, rfl⟩
  · exact ⟨some ⟨g, 0, none⟩, cap, rfl⟩

/-- A row of one-cell elements, its last one, and without it. -/
theorem own_last {w : World} {base : Nat} {e : TypeId} {v : Value} {xs : List Value} {x : Value} (h : w.ownsRow base e 1 v (xs ++ [x]).length (xs ++ [x])) :
    ∃ g cap, v = .slice (some ⟨g, 0, none⟩) (xs.length + 1) cap ∧ base ≤ g ∧ xs.length + 1 ≤ cap ∧ w.cell? ⟨g, xs.length, none⟩ = some x ∧ w.ownsRow base e 1 (.slice (some ⟨g, 0, none⟩) xs.length cap) xs.length xs := by
  obtain ⟨h1, h2⟩ := h
  rcases h2 with ⟨_, h2⟩ | ⟨g, cap, cur, rfl, h3, h4, h5, h6, h7, h8⟩
  · simp at h2
  · rw [List.length_append, List.length_singleton] at h5 h8
    rw [Nat.mul_one] at h7 h8
    refine ⟨g, cap, by simp, h3, h5, ?_, by simp, Or.inr ⟨g, cap, cur, rfl, h3, h4, by omega, h6, by omega, ?_⟩⟩
    · refine Lib.cell_of_block (w := w) (c := cur) (t := e) (f := (0, 0)) h4 ?_
      have : (cur.toList.take (xs.length + 1))[xs.length]? = some x := by rw [h8]; simp
      rw [List.getElem?_take_of_lt (by omega)] at this
      simpa using this
    · rw [Nat.mul_one]
      have : (cur.toList.take (xs.length + 1)).take xs.length = xs := by rw [h8]; simp
      rw [List.take_take] at this
      rwa [Nat.min_eq_left (by omega)] at this

theorem CI.last {w wz : World} {X ex dx tx da base fb fo : Nat} {deep : List Int} {t : List Nat} {p : Nat} {e : Int} {v : Value} (h : CI w wz X ex dx tx da base fb fo deep (t ++ [p]) e v) :
    ∃ g cap, v = .slice (some ⟨g, 0, none⟩) (t.length + 1) cap ∧ t.length + 1 ≤ cap ∧ wz.cell? ⟨g, t.length, none⟩ = some (.int .i64 (p : Int)) ∧
      CI w (wz.setCell ⟨tx, 0, none⟩ (.slice (some ⟨g, 0, none⟩) t.length cap)) X ex dx tx da base fb fo deep t e (.slice (some ⟨g, 0, none⟩) t.length cap) := by
  obtain ⟨S, hb, hs⟩ := h
  have ho := S.own
  rw [List.map_append, List.length_append] at ho
  have ho' : wz.ownsRow base 3 1 v ((t.map fun (i : Nat) => Value.int .i64 (i : Int)) ++ [Value.int .i64 (p : Int)]).length ((t.map fun (i : Nat) => Value.int .i64 (i : Int)) ++ [Value.int .i64 (p : Int)]) := by
    simpa using ho
  obtain ⟨g, cap, hv, hg, hc, hcell, hown⟩ := own_last ho'
  rw [List.length_map] at hv hc hcell hown
  have hk : ∀ k, k ≠ tx → (wz.setCell ⟨tx, 0, none⟩ (.slice (some ⟨g, 0, none⟩) t.length cap)).heap[k]? = wz.heap[k]? := fun k hk => block_setCell_ne hk
  have hlow := S.low
  have hhi := S.high
  refine ⟨g, cap, hv, hc, hcell, ⟨?_, ?_, by simpa [World.setCell] using hs⟩⟩
  · exact { fbox := (hk _ S.ft).trans S.fbox, ebox := (hk _ S.et).trans S.ebox, dbox := (hk _ S.dt).trans S.dbox, darr := (hk _ S.at').trans S.darr, tbox := one_setCell S.tbox, own := own_keep hown (fun k h => hk k (by cases h; simp only; omega)), low := S.low, high := S.high, fe := S.fe, fd := S.fd, ft := S.ft, ed := S.ed, et := S.et, edx := S.edx, dd := S.dd, dt := S.dt, at' := S.at' }
  · exact hb.trans ⟨rfl, rfl, rfl, by simp [World.setCell], fun k hkX => hk k (by omega)⟩

/-- What is right of an instruction, in numbers. -/
theorem right_nums {m : Im} {f : Fc} {x : I3} (h : rightB m f x = true) :
    (1 ≤ x.op ∧ x.op ≤ 45) ∧ (x.op = 34 ∨ x.op = 37 → 0 ≤ x.b ∧ x.b ≤ 50) ∧ (x.op = 35 → 0 ≤ x.b) ∧ (x.op = 15 ∨ x.op = 16 ∨ x.op = 17 ∨ x.op = 18 → 0 ≤ x.a ∧ x.a < f.code.length) ∧ (x.op = 29 → 0 ≤ x.a ∧ x.a ≤ 50) ∧ (x.op = 36 ∨ x.op = 38 ∨ x.op = 39 → 0 ≤ x.b ∧ x.b ≤ 50) := by
  unfold rightB at h
  by_cases h1 : x.op = 2
  · omega
  rw [if_neg h1] at h
  by_cases h2 : x.op = 6 ∨ x.op = 7 ∨ x.op = 8 ∨ x.op = 9 ∨ x.op = 10
  · omega
  rw [if_neg h2] at h
  by_cases h3 : x.op = 11 ∨ x.op = 12 ∨ x.op = 13 ∨ x.op = 29
  · rw [if_pos h3] at h
    simp [CodeR.within] at h
    omega
  rw [if_neg h3] at h
  by_cases h4 : x.op = 15 ∨ x.op = 16 ∨ x.op = 17 ∨ x.op = 18
  · rw [if_pos h4] at h
    simp [CodeR.within] at h
    omega
  rw [if_neg h4] at h
  by_cases h5 : x.op = 32 ∨ x.op = 33
  · omega
  rw [if_neg h5] at h
  by_cases h6 : x.op = 34
  · rw [if_pos h6] at h
    simp [CodeR.within, fewB] at h
    omega
  rw [if_neg h6] at h
  by_cases h7 : x.op = 35
  · rw [if_pos h7] at h
    simp at h
    omega
  rw [if_neg h7] at h
  by_cases h8 : x.op = 36
  · rw [if_pos h8] at h
    simp [CodeR.within, fewB] at h
    omega
  rw [if_neg h8] at h
  by_cases h9 : x.op = 37
  · rw [if_pos h9] at h
    simp [CodeR.within, fewB] at h
    omega
  rw [if_neg h9] at h
  by_cases h10 : x.op = 38
  · rw [if_pos h10] at h
    simp [CodeR.within, fewB] at h
    omega
  rw [if_neg h10] at h
  by_cases h11 : x.op = 39
  · rw [if_pos h11] at h
    simp [CodeR.within, fewB] at h
    omega
  rw [if_neg h11] at h
  simp [CodeR.within] at h
  omega
theorem take_nums {m : Im} {f : Fc} {x : I3} (h : rightB m f x = true) : 0 ≤ takeI x ∧ takeI x ≤ 70 ∧ 0 ≤ leaveI x ∧ leaveI x ≤ 1 := by
  obtain ⟨h1, h2, h3, h4, h5, h6⟩ := right_nums h
  refine ⟨?_, ?_, leave_pos x, by unfold leaveI; split <;> decide⟩
  all_goals
    unfold takeI
    split
    · decide
    split
    · decide
    split
    · decide
    split
    · omega
    split
    · rename_i h7
      have := Int.tmod_nonneg 64 (h3 h7)
      have := Int.tmod_lt_of_pos x.b (show (0 : Int) < 64 by decide)
      omega
    split
    · omega
    split
    · omega
    · decide
theorem step_done {f : Fc} {k : Nat} {deep deep' : List Int} {todo' : List Nat} {p : Nat} {n : Int} {x : I3} {e' : Int} (hl : lab deep p = some n) (hx : f.code[p]? = some x) (ht : takeI x ≤ n) (hP : PS f (fun i => i = p) deep' todo' e')
    (hper : ∀ i k, lab deep i = some k → lab deep' i = some k) (hfol : e' = 0 → ∀ y ∈ follows p n x, lab deep' y.1.toNat = some y.2) (hSt : St f k deep 0) : PS f (fun _ => False) deep' todo' e' ∧ St f k deep' e' :=
  ⟨hP.pay (fun _ => hper _ _ hl) hx ht hfol, hSt.keep (fun _ => rfl) hper⟩
/-- The box of the instruction stays. -/
theorem keep_box {w w' : World} {ex da tx : Nat} {v : Value} {b o : Nat} {u : Value} (h : Turned (Ws ex da tx v) w w') (hb : ¬ Ws ex da tx v b) (hc : w.cell? ⟨b, o, none⟩ = some u) : w'.cell? ⟨b, o, none⟩ = some u :=
  (h.cell (p := ⟨b, o, none⟩) (World.block_lt_of_cell? w _ hc) hb).trans hc
end Go.Proofs.YthbkklnahhdgcaaDoor.CodeXb
