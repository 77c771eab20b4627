/-
  The contract of the document's effect (an operation each): is what an instruction names there, what it takes, leaves, where it goes.
-/
import Derived.Test.YthbkklnahhdgcaaDoorDMC
namespace Go.Proofs.YthbkklnahhdgcaaDoor.CodeE4
open Go Go.Proofs Go.RowKit Lib CodeR CodeA CodeB CodeEa

set_option maxRecDepth 100000 in
set_option maxHeartbeats 4000000 in
theorem eff_38 (mb mo : Nat) (m : Im) (f : Fc) (a b : Int) (w : World) (hm : Row w mb mo m.vals) (hi : ImIn w m) (hn : f.codeS.n = f.code.length) (hl1 : f.code.length ≤ 5000) (hs0 : 0 ≤ f.slots) (hs1 : f.slots ≤ 200) :
    Calls Tryd.prog 86 #[.pointer (some ⟨mb, mo, none⟩), .agg #[.string f.name, .int .i64 f.params, .int .i64 f.slots, .slice f.codeS.oa f.codeS.n f.codeS.c, .slice f.hsS.oa f.hsS.n f.hsS.c, .slice f.varsS.oa f.varsS.n f.varsS.c], .agg #[.int .i64 38, .int .i64 a, .int .i64 b]] w fun e w' => EffR m f ⟨38, a, b⟩ e ∧ Below w.heap.size w w' := by
  have c0 := (im_cells hm).1
  have c1 := (im_cells hm).2.1
  have c2 := (im_cells hm).2.2
  have l0 := hi.funcs.len
  have l1 := hi.consts.len
  have l2 := hi.classes.len
  have s0 := hi.funcs.small
  have s1 := hi.consts.small
  have s2 := hi.classes.small
  rw [List.length_map] at l0 l1 l2
  unfold Sl.val at c0 c1 c2
  rw [l0] at c0 s0
  rw [l1] at c1 s1
  rw [l2] at c2 s2
  have d1 := alloc3_cell c1
  have d2 := alloc3_cell c2
  have bel : ∀ o1 o2 o3, Below w.heap.size w (((w.alloc o1).alloc o2).alloc o3) := below_alloc3 (Below.refl _ _) (Nat.le_refl _)
  have ha := hi.funcs.addr
  have hr := hi.funcs.row
  rw [l0] at ha
  clear hm hi
  generalize hS : m.funcsS = S at *
  obtain ⟨oa, n, c, sb, so⟩ := S
  simp only at c0 ha hr
  cases hin : CodeR.within a 1 ((m.funcs.length : Int) - 1)
  · have d0 := alloc3_cell c0
    have hres : rightB m f ⟨38, a, b⟩ = false := by simp [rightB, hin]
    unfold EffR
    rw [hres]
    clear hr ha
    have hwi : ∀ u, Calls Tryd.prog 42 #[.int .i64 a, .int .i64 1, .int .i64 ((m.funcs.length : Int) - 1)] u fun e w' => e = .returned (.bool false) ∧ w' = u := by
      intro u
      have h := within_any a 1 ((m.funcs.length : Int) - 1) u
      rw [hin] at h
      exact h
    go_enter Tryd.func86, Tryd.ntmps86
    go_wp2_with (go_at_call 42; refine (within_any _ _ _ _).mono ?_; rintro e w1 ⟨rfl, hw1⟩; rw [hw1]; clear hw1 w1)
    go_quiet ((go_at_call 42; exact Calls.quiet_of_same (hwi _)))
    go_wp2_with (go_at_call 42; refine (within_any _ _ _ _).mono ?_; rintro e w1 ⟨rfl, hw1⟩; rw [hw1]; clear hw1 w1)
    go_quiet (fail)
    go_wp2
    (try simp only [Exit.inBlock, Exit.then])
    refine bodyPost_ret (results_tmp6 rfl _ _ _) rfl ?_
    exact ⟨⟨_, _, _, _, _, rfl, fun h => by cases h⟩, by first | exact bel _ _ _ | exact below_drewN (bel _ _ _) _ | exact below_drewN (below_drewN (bel _ _ _) _) _⟩
  · have h0 : 1 ≤ a ∧ a < (m.funcs.length : Int) := by simp [CodeR.within] at hin; omega
    obtain ⟨h0, h1⟩ := h0
    obtain ⟨x, hx⟩ := get_of_lt (l := m.funcs) (k := a) (by omega) h1
    obtain rfl := ha (by omega)
    have hc := hr a.toNat x.vals (by rw [List.getElem?_map, hx]; rfl) 1 _ rfl
    have d0 := alloc3_cell c0
    have dc := alloc3_cell hc
    have h00 : 0 ≤ a := by omega
    have hmin : min a ((m.funcs.length : Int) - 1) = a := by omega
    have hmax : max 0 a = a := by omega
    clear hr ha
    have hwi : ∀ u, Calls Tryd.prog 42 #[.int .i64 a, .int .i64 1, .int .i64 ((m.funcs.length : Int) - 1)] u fun e w' => e = .returned (.bool true) ∧ w' = u := by
      intro u
      have h := within_any a 1 ((m.funcs.length : Int) - 1) u
      rw [hin] at h
      exact h
    cases hb : CodeR.within b 0 50
    · have hres : rightB m f ⟨38, a, b⟩ = false := by simp [rightB, fewB, hin, hb]
      unfold EffR
      rw [hres]
      go_enter Tryd.func86, Tryd.ntmps86
      go_wp2_with (go_at_call 42; refine (within_any _ _ _ _).mono ?_; rintro e w1 ⟨rfl, hw1⟩; rw [hw1]; clear hw1 w1)
      go_quiet ((go_at_call 42; exact Calls.quiet_of_same (hwi _)))
      go_wp2_with (go_at_call 42; refine (within_any _ _ _ _).mono ?_; rintro e w1 ⟨rfl, hw1⟩; rw [hw1]; clear hw1 w1)
      go_quiet (fail)
      go_wp2
      (try simp only [Exit.inBlock, Exit.then])
      refine bodyPost_ret (results_tmp6 rfl _ _ _) rfl ?_
      exact ⟨⟨_, _, _, _, _, rfl, fun h => by cases h⟩, by first | exact bel _ _ _ | exact below_drewN (bel _ _ _) _ | exact below_drewN (below_drewN (bel _ _ _) _) _⟩
    · have hres : rightB m f ⟨38, a, b⟩ = (x.params == b) := by
        simp [rightB, fewB, hin, hb, Im.paramsAt, hx]
        rw [Bool.eq_iff_iff]
        simp
      unfold EffR
      rw [hres]
      go_enter Tryd.func86, Tryd.ntmps86
      go_wp2_with (go_at_call 42; refine (within_any _ _ _ _).mono ?_; rintro e w1 ⟨rfl, hw1⟩; rw [hw1]; clear hw1 w1)
      go_quiet ((go_at_call 42; exact Calls.quiet_of_same (hwi _)))
      go_wp2_with (go_at_call 42; refine (within_any _ _ _ _).mono ?_; rintro e w1 ⟨rfl, hw1⟩; rw [hw1]; clear hw1 w1)
      go_quiet (fail)
      go_wp2
      (try simp only [Exit.inBlock, Exit.then])
      refine bodyPost_ret (results_tmp6 rfl _ _ _) rfl ?_
      exact ⟨⟨_, _, _, _, _, rfl, fun _ => by simp [takeI, leaveI, toI, thereI, goI, endsB]⟩, by first | exact bel _ _ _ | exact below_drewN (bel _ _ _) _ | exact below_drewN (below_drewN (bel _ _ _) _) _⟩

end Go.Proofs.YthbkklnahhdgcaaDoor.CodeE4
