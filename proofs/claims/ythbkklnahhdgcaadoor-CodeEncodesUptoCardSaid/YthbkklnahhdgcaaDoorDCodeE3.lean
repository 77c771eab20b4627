/-
  The contract of the document's effect (an operation each): is what an instruction names there, what it takes, leaves, where it goes.
-/
import Derived.Test.YthbkklnahhdgcaaDoorDMC
namespace Go.Proofs.YthbkklnahhdgcaaDoor.CodeE3
open Go Go.Proofs Go.RowKit Lib CodeR CodeA CodeB CodeEa

set_option maxRecDepth 100000 in
set_option maxHeartbeats 4000000 in
theorem eff_0 (mb mo : Nat) (m : Im) (f : Fc) (op : Int) (a b : Int) (w : World) (hm : Row w mb mo m.vals) (hi : ImIn w m) (hn : f.codeS.n = f.code.length) (hl1 : f.code.length ≤ 5000) (hs0 : 0 ≤ f.slots) (hs1 : f.slots ≤ 200) (hop : op < 1) :
    Calls Tryd.prog 86 #[.pointer (some ⟨mb, mo, none⟩), .agg #[.string f.name, .int .i64 f.params, .int .i64 f.slots, .slice f.codeS.oa f.codeS.n f.codeS.c, .slice f.hsS.oa f.hsS.n f.hsS.c, .slice f.varsS.oa f.varsS.n f.varsS.c], .agg #[.int .i64 op, .int .i64 a, .int .i64 b]] w fun e w' => EffR m f ⟨op, a, b⟩ e ∧ Below w.heap.size w w' := by
  have c0 := (im_cells hm).1
  have c1 := (im_cells hm).2.1
  have c2 := (im_cells hm).2.2
  have l0 := hi.funcs.len
  have l1 := hi.consts.len
  have l2 := hi.classes.len
  have s0 := hi.funcs.small
  have s1 := hi.consts.small
  have s2 := hi.classes.small
  rw [List.length_map] at l0 l1 l2
  unfold Sl.val at c0 c1 c2
  rw [l0] at c0 s0
  rw [l1] at c1 s1
  rw [l2] at c2 s2
  have d0 := alloc3_cell c0
  have d1 := alloc3_cell c1
  have d2 := alloc3_cell c2
  have bel : ∀ o1 o2 o3, Below w.heap.size w (((w.alloc o1).alloc o2).alloc o3) := below_alloc3 (Below.refl _ _) (Nat.le_refl _)
  clear hm hi
  have k1 : (op == 1) = false := by simp; omega
  have k2 : (op == 2) = false := by simp; omega
  have k3 : (op == 3) = false := by simp; omega
  have k4 : (op == 4) = false := by simp; omega
  have k5 : (op == 5) = false := by simp; omega
  have k6 : (op == 6) = false := by simp; omega
  have k7 : (op == 7) = false := by simp; omega
  have k8 : (op == 8) = false := by simp; omega
  have k9 : (op == 9) = false := by simp; omega
  have k10 : (op == 10) = false := by simp; omega
  have k11 : (op == 11) = false := by simp; omega
  have k12 : (op == 12) = false := by simp; omega
  have k13 : (op == 13) = false := by simp; omega
  have k14 : (op == 14) = false := by simp; omega
  have k15 : (op == 15) = false := by simp; omega
  have k16 : (op == 16) = false := by simp; omega
  have k17 : (op == 17) = false := by simp; omega
  have k18 : (op == 18) = false := by simp; omega
  have k19 : (op == 19) = false := by simp; omega
  have k20 : (op == 20) = false := by simp; omega
  have k21 : (op == 21) = false := by simp; omega
  have k22 : (op == 22) = false := by simp; omega
  have k23 : (op == 23) = false := by simp; omega
  have k24 : (op == 24) = false := by simp; omega
  have k25 : (op == 25) = false := by simp; omega
  have k26 : (op == 26) = false := by simp; omega
  have k27 : (op == 27) = false := by simp; omega
  have k28 : (op == 28) = false := by simp; omega
  have k29 : (op == 29) = false := by simp; omega
  have k30 : (op == 30) = false := by simp; omega
  have k31 : (op == 31) = false := by simp; omega
  have k32 : (op == 32) = false := by simp; omega
  have k33 : (op == 33) = false := by simp; omega
  have k34 : (op == 34) = false := by simp; omega
  have k35 : (op == 35) = false := by simp; omega
  have k36 : (op == 36) = false := by simp; omega
  have k37 : (op == 37) = false := by simp; omega
  have k38 : (op == 38) = false := by simp; omega
  have k39 : (op == 39) = false := by simp; omega
  have k40 : (op == 40) = false := by simp; omega
  have k41 : (op == 41) = false := by simp; omega
  have k42 : (op == 42) = false := by simp; omega
  have k43 : (op == 43) = false := by simp; omega
  have k44 : (op == 44) = false := by simp; omega
  have k45 : (op == 45) = false := by simp; omega
  have hres : rightB m f ⟨op, a, b⟩ = false := by
    unfold rightB
    simp only
    repeat' split
    all_goals first | omega | (simp [CodeR.within]; omega)
  unfold EffR
  rw [hres]
  clear hres
  go_enter Tryd.func86, Tryd.ntmps86
  go_wp2_with (go_at_call 42; refine (within_any _ _ _ _).mono ?_; rintro e w1 ⟨rfl, hw1⟩; rw [hw1]; clear hw1 w1)
  go_quiet ((go_at_call 42; exact Calls.quiet_of_same (within_any _ _ _ _)))
  go_wp2_with (go_at_call 42; refine (within_any _ _ _ _).mono ?_; rintro e w1 ⟨rfl, hw1⟩; rw [hw1]; clear hw1 w1)
  (try simp only [Exit.inBlock, Exit.then])
  refine bodyPost_ret (results_tmp6 rfl _ _ _) rfl ?_
  exact ⟨⟨_, _, _, _, _, rfl, fun h => by cases h⟩, by first | exact bel _ _ _ | exact below_drewN (bel _ _ _) _ | exact below_drewN (below_drewN (bel _ _ _) _) _⟩

set_option maxRecDepth 100000 in
set_option maxHeartbeats 4000000 in
theorem eff_34 (mb mo : Nat) (m : Im) (f : Fc) (a b : Int) (w : World) (hm : Row w mb mo m.vals) (hi : ImIn w m) (hn : f.codeS.n = f.code.length) (hl1 : f.code.length ≤ 5000) (hs0 : 0 ≤ f.slots) (hs1 : f.slots ≤ 200) :
    Calls Tryd.prog 86 #[.pointer (some ⟨mb, mo, none⟩), .agg #[.string f.name, .int .i64 f.params, .int .i64 f.slots, .slice f.codeS.oa f.codeS.n f.codeS.c, .slice f.hsS.oa f.hsS.n f.hsS.c, .slice f.varsS.oa f.varsS.n f.varsS.c], .agg #[.int .i64 34, .int .i64 a, .int .i64 b]] w fun e w' => EffR m f ⟨34, a, b⟩ e ∧ Below w.heap.size w w' := by
  have c0 := (im_cells hm).1
  have c1 := (im_cells hm).2.1
  have c2 := (im_cells hm).2.2
  have l0 := hi.funcs.len
  have l1 := hi.consts.len
  have l2 := hi.classes.len
  have s0 := hi.funcs.small
  have s1 := hi.consts.small
  have s2 := hi.classes.small
  rw [List.length_map] at l0 l1 l2
  unfold Sl.val at c0 c1 c2
  rw [l0] at c0 s0
  rw [l1] at c1 s1
  rw [l2] at c2 s2
  have d0 := alloc3_cell c0
  have d1 := alloc3_cell c1
  have d2 := alloc3_cell c2
  have bel : ∀ o1 o2 o3, Below w.heap.size w (((w.alloc o1).alloc o2).alloc o3) := below_alloc3 (Below.refl _ _) (Nat.le_refl _)
  have hT : ∀ o1 o2 o3 n, Calls Tryd.prog 102 #[.int .i64 a, .pointer (some ⟨w.heap.size, 0, none⟩)] ((((w.alloc (.cells #[.pointer (some ⟨mb, mo, none⟩)] o1)).alloc o2).alloc o3).drewN n) fun e w' => e = .returned (.bool (m.textB a)) ∧ w' = (((w.alloc (.cells #[.pointer (some ⟨mb, mo, none⟩)] o1)).alloc o2).alloc o3).drewN n := by
    intro o1 o2 o3 n
    refine rtext_any mb mo w.heap.size m a _ (hm.below (below_drewN (bel _ _ _) n) (Nat.le_refl _)) (hi.below (below_drewN (bel _ _ _) n) (Nat.le_refl _)) ?_
    exact alloc_cell (alloc_cell (cell_of_one (heap_alloc_new w _)) o2) o3
  clear hm hi
  cases ht : m.textB a
  · rw [ht] at hT
    by_cases hb : 0 ≤ b ∧ b ≤ 50
    · obtain ⟨hb0, hb1⟩ := hb
      have hw : CodeR.within b 0 50 = true := by simp [CodeR.within]; omega
      have hres : rightB m f ⟨34, a, b⟩ = false := by simp [rightB, CodeR.within, fewB, ht] <;> omega
      unfold EffR
      rw [hres]
      go_enter Tryd.func86, Tryd.ntmps86
      go_wp2_with (go_at_call 42; refine (within_any _ _ _ _).mono ?_; rintro e w1 ⟨rfl, hw1⟩; rw [hw1]; clear hw1 w1)
      go_quiet ((go_at_call 42; exact Calls.quiet_of_same (within_any _ _ _ _)))
      go_wp2_with (go_at_call 42; refine (within_any _ _ _ _).mono ?_; rintro e w1 ⟨rfl, hw1⟩; rw [hw1]; clear hw1 w1)
      go_quiet ((go_at_call 102; refine (hT _ _ _ _).mono ?_; rintro e w1 ⟨rfl, hw1⟩; first | exact ⟨rfl, _, hw1⟩ | exact ⟨rfl, _, hw1.trans World.drewN_drewN.symm⟩))
      go_wp2
      (try simp only [Exit.inBlock, Exit.then])
      refine bodyPost_ret (results_tmp6 rfl _ _ _) rfl ?_
      exact ⟨⟨_, _, _, _, _, rfl, fun h => by cases h⟩, by first | exact bel _ _ _ | exact below_drewN (bel _ _ _) _ | exact below_drewN (below_drewN (bel _ _ _) _) _⟩
    · have hw : CodeR.within b 0 50 = false := by unfold CodeR.within; rw [Bool.and_eq_false_iff, decide_eq_false_iff_not, decide_eq_false_iff_not]; omega
      have hres : rightB m f ⟨34, a, b⟩ = false := by simp [rightB, fewB, ht, hw]
      unfold EffR
      rw [hres]
      go_enter Tryd.func86, Tryd.ntmps86
      go_wp2_with (go_at_call 42; refine (within_any _ _ _ _).mono ?_; rintro e w1 ⟨rfl, hw1⟩; rw [hw1]; clear hw1 w1)
      go_quiet ((go_at_call 42; exact Calls.quiet_of_same (within_any _ _ _ _)))
      go_wp2_with (go_at_call 42; refine (within_any _ _ _ _).mono ?_; rintro e w1 ⟨rfl, hw1⟩; rw [hw1]; clear hw1 w1)
      go_quiet ((go_at_call 102; refine (hT _ _ _ _).mono ?_; rintro e w1 ⟨rfl, hw1⟩; first | exact ⟨rfl, _, hw1⟩ | exact ⟨rfl, _, hw1.trans World.drewN_drewN.symm⟩))
      go_wp2
      (try simp only [Exit.inBlock, Exit.then])
      refine bodyPost_ret (results_tmp6 rfl _ _ _) rfl ?_
      exact ⟨⟨_, _, _, _, _, rfl, fun h => by cases h⟩, by first | exact bel _ _ _ | exact below_drewN (bel _ _ _) _ | exact below_drewN (below_drewN (bel _ _ _) _) _⟩
  · rw [ht] at hT
    by_cases hb : 0 ≤ b ∧ b ≤ 50
    · obtain ⟨hb0, hb1⟩ := hb
      have hw : CodeR.within b 0 50 = true := by simp [CodeR.within]; omega
      have hres : rightB m f ⟨34, a, b⟩ = true := by simp [rightB, CodeR.within, fewB, ht] <;> omega
      unfold EffR
      rw [hres]
      go_enter Tryd.func86, Tryd.ntmps86
      go_wp2_with (go_at_call 42; refine (within_any _ _ _ _).mono ?_; rintro e w1 ⟨rfl, hw1⟩; rw [hw1]; clear hw1 w1)
      go_quiet ((go_at_call 42; exact Calls.quiet_of_same (within_any _ _ _ _)))
      go_wp2_with (go_at_call 42; refine (within_any _ _ _ _).mono ?_; rintro e w1 ⟨rfl, hw1⟩; rw [hw1]; clear hw1 w1)
      go_quiet ((go_at_call 102; refine (hT _ _ _ _).mono ?_; rintro e w1 ⟨rfl, hw1⟩; first | exact ⟨rfl, _, hw1⟩ | exact ⟨rfl, _, hw1.trans World.drewN_drewN.symm⟩))
      go_wp2
      (try simp only [Exit.inBlock, Exit.then])
      refine bodyPost_ret (results_tmp6 rfl _ _ _) rfl ?_
      exact ⟨⟨_, _, _, _, _, rfl, fun _ => by simp [takeI, leaveI, toI, thereI, goI, endsB]⟩, by first | exact bel _ _ _ | exact below_drewN (bel _ _ _) _ | exact below_drewN (below_drewN (bel _ _ _) _) _⟩
    · have hw : CodeR.within b 0 50 = false := by unfold CodeR.within; rw [Bool.and_eq_false_iff, decide_eq_false_iff_not, decide_eq_false_iff_not]; omega
      have hres : rightB m f ⟨34, a, b⟩ = false := by simp [rightB, fewB, ht, hw]
      unfold EffR
      rw [hres]
      go_enter Tryd.func86, Tryd.ntmps86
      go_wp2_with (go_at_call 42; refine (within_any _ _ _ _).mono ?_; rintro e w1 ⟨rfl, hw1⟩; rw [hw1]; clear hw1 w1)
      go_quiet ((go_at_call 42; exact Calls.quiet_of_same (within_any _ _ _ _)))
      go_wp2_with (go_at_call 42; refine (within_any _ _ _ _).mono ?_; rintro e w1 ⟨rfl, hw1⟩; rw [hw1]; clear hw1 w1)
      go_quiet ((go_at_call 102; refine (hT _ _ _ _).mono ?_; rintro e w1 ⟨rfl, hw1⟩; first | exact ⟨rfl, _, hw1⟩ | exact ⟨rfl, _, hw1.trans World.drewN_drewN.symm⟩))
      go_wp2
      (try simp only [Exit.inBlock, Exit.then])
      refine bodyPost_ret (results_tmp6 rfl _ _ _) rfl ?_
      exact ⟨⟨_, _, _, _, _, rfl, fun h => by cases h⟩, by first | exact bel _ _ _ | exact below_drewN (bel _ _ _) _ | exact below_drewN (below_drewN (bel _ _ _) _) _⟩

set_option maxRecDepth 100000 in
set_option maxHeartbeats 4000000 in
theorem eff_35 (mb mo : Nat) (m : Im) (f : Fc) (a b : Int) (w : World) (hm : Row w mb mo m.vals) (hi : ImIn w m) (hn : f.codeS.n = f.code.length) (hl1 : f.code.length ≤ 5000) (hs0 : 0 ≤ f.slots) (hs1 : f.slots ≤ 200) (hbx : -9223372036854775808 ≤ b ∧ b ≤ 9223372036854775807) :
    Calls Tryd.prog 86 #[.pointer (some ⟨mb, mo, none⟩), .agg #[.string f.name, .int .i64 f.params, .int .i64 f.slots, .slice f.codeS.oa f.codeS.n f.codeS.c, .slice f.hsS.oa f.hsS.n f.hsS.c, .slice f.varsS.oa f.varsS.n f.varsS.c], .agg #[.int .i64 35, .int .i64 a, .int .i64 b]] w fun e w' => EffR m f ⟨35, a, b⟩ e ∧ Below w.heap.size w w' := by
  have c0 := (im_cells hm).1
  have c1 := (im_cells hm).2.1
  have c2 := (im_cells hm).2.2
  have l0 := hi.funcs.len
  have l1 := hi.consts.len
  have l2 := hi.classes.len
  have s0 := hi.funcs.small
  have s1 := hi.consts.small
  have s2 := hi.classes.small
  rw [List.length_map] at l0 l1 l2
  unfold Sl.val at c0 c1 c2
  rw [l0] at c0 s0
  rw [l1] at c1 s1
  rw [l2] at c2 s2
  have d0 := alloc3_cell c0
  have d1 := alloc3_cell c1
  have d2 := alloc3_cell c2
  have bel : ∀ o1 o2 o3, Below w.heap.size w (((w.alloc o1).alloc o2).alloc o3) := below_alloc3 (Below.refl _ _) (Nat.le_refl _)
  have hT : ∀ o1 o2 o3 n, Calls Tryd.prog 102 #[.int .i64 a, .pointer (some ⟨w.heap.size, 0, none⟩)] ((((w.alloc (.cells #[.pointer (some ⟨mb, mo, none⟩)] o1)).alloc o2).alloc o3).drewN n) fun e w' => e = .returned (.bool (m.textB a)) ∧ w' = (((w.alloc (.cells #[.pointer (some ⟨mb, mo, none⟩)] o1)).alloc o2).alloc o3).drewN n := by
    intro o1 o2 o3 n
    refine rtext_any mb mo w.heap.size m a _ (hm.below (below_drewN (bel _ _ _) n) (Nat.le_refl _)) (hi.below (below_drewN (bel _ _ _) n) (Nat.le_refl _)) ?_
    exact alloc_cell (alloc_cell (cell_of_one (heap_alloc_new w _)) o2) o3
  clear hm hi
  have hr1 : -64 < b.tmod 64 ∧ b.tmod 64 < 64 := ⟨by have := Int.lt_tmod_of_pos b (show (0 : Int) < 64 by decide); omega, Int.tmod_lt_of_pos _ (by decide)⟩
  cases ht : m.textB a
  · rw [ht] at hT
    have hres : rightB m f ⟨35, a, b⟩ = false := by simp [rightB, ht]
    unfold EffR
    rw [hres]
    by_cases hb : 0 ≤ b
    · go_enter Tryd.func86, Tryd.ntmps86
      go_wp2_with (go_at_call 42; refine (within_any _ _ _ _).mono ?_; rintro e w1 ⟨rfl, hw1⟩; rw [hw1]; clear hw1 w1)
      go_quiet ((go_at_call 42; exact Calls.quiet_of_same (within_any _ _ _ _)))
      go_wp2_with (go_at_call 42; refine (within_any _ _ _ _).mono ?_; rintro e w1 ⟨rfl, hw1⟩; rw [hw1]; clear hw1 w1)
      go_quiet ((go_at_call 102; refine (hT _ _ _ _).mono ?_; rintro e w1 ⟨rfl, hw1⟩; first | exact ⟨rfl, _, hw1⟩ | exact ⟨rfl, _, hw1.trans World.drewN_drewN.symm⟩))
      go_wp2
      (try simp only [Exit.inBlock, Exit.then])
      refine bodyPost_ret (results_tmp6 rfl _ _ _) rfl ?_
      exact ⟨⟨_, _, _, _, _, rfl, fun h => by cases h⟩, by first | exact bel _ _ _ | exact below_drewN (bel _ _ _) _ | exact below_drewN (below_drewN (bel _ _ _) _) _⟩
    · go_enter Tryd.func86, Tryd.ntmps86
      go_wp2_with (go_at_call 42; refine (within_any _ _ _ _).mono ?_; rintro e w1 ⟨rfl, hw1⟩; rw [hw1]; clear hw1 w1)
      go_quiet ((go_at_call 42; exact Calls.quiet_of_same (within_any _ _ _ _)))
      go_wp2_with (go_at_call 42; refine (within_any _ _ _ _).mono ?_; rintro e w1 ⟨rfl, hw1⟩; rw [hw1]; clear hw1 w1)
      go_quiet ((go_at_call 102; refine (hT _ _ _ _).mono ?_; rintro e w1 ⟨rfl, hw1⟩; first | exact ⟨rfl, _, hw1⟩ | exact ⟨rfl, _, hw1.trans World.drewN_drewN.symm⟩))
      go_wp2
      (try simp only [Exit.inBlock, Exit.then])
      refine bodyPost_ret (results_tmp6 rfl _ _ _) rfl ?_
      exact ⟨⟨_, _, _, _, _, rfl, fun h => by cases h⟩, by first | exact bel _ _ _ | exact below_drewN (bel _ _ _) _ | exact below_drewN (below_drewN (bel _ _ _) _) _⟩
  · rw [ht] at hT
    by_cases hb : 0 ≤ b
    · have hb0 : decide (0 ≤ b) = true := by simpa using hb
      have ht1 : b.tdiv 64 = b / 64 := Int.tdiv_eq_ediv_of_nonneg hb
      have ht2 : b.tmod 64 = b % 64 := Int.tmod_eq_emod_of_nonneg hb
      by_cases hb2 : b / 64 < (m.classes.length : Int)
      · have hd2 : decide (b / 64 < (m.classes.length : Int)) = true := by simpa using hb2
        have hres : rightB m f ⟨35, a, b⟩ = decide (b % 64 ≤ 50) := by simp [rightB, ht, hb, ht1, ht2, hb2]
        unfold EffR
        rw [hres]
        clear hr1
        go_enter Tryd.func86, Tryd.ntmps86
        go_wp2_with (go_at_call 42; refine (within_any _ _ _ _).mono ?_; rintro e w1 ⟨rfl, hw1⟩; rw [hw1]; clear hw1 w1)
        go_quiet ((go_at_call 42; exact Calls.quiet_of_same (within_any _ _ _ _)))
        go_wp2_with (go_at_call 42; refine (within_any _ _ _ _).mono ?_; rintro e w1 ⟨rfl, hw1⟩; rw [hw1]; clear hw1 w1)
        go_quiet ((go_at_call 102; refine (hT _ _ _ _).mono ?_; rintro e w1 ⟨rfl, hw1⟩; first | exact ⟨rfl, _, hw1⟩ | exact ⟨rfl, _, hw1.trans World.drewN_drewN.symm⟩))
        go_wp2
        (try simp only [Exit.inBlock, Exit.then])
        refine bodyPost_ret (results_tmp6 rfl _ _ _) rfl ?_
        exact ⟨⟨_, _, _, _, _, rfl, fun _ => by simp [takeI, leaveI, toI, thereI, goI, endsB, ht2]⟩, by first | exact bel _ _ _ | exact below_drewN (bel _ _ _) _ | exact below_drewN (below_drewN (bel _ _ _) _) _⟩

      · have hd2 : decide (b / 64 < (m.classes.length : Int)) = false := by simpa using hb2
        have hres : rightB m f ⟨35, a, b⟩ = false := by simp [rightB, ht, hb, ht1, hb2]
        unfold EffR
        rw [hres]
        clear hr1
        go_enter Tryd.func86, Tryd.ntmps86
        go_wp2_with (go_at_call 42; refine (within_any _ _ _ _).mono ?_; rintro e w1 ⟨rfl, hw1⟩; rw [hw1]; clear hw1 w1)
        go_quiet ((go_at_call 42; exact Calls.quiet_of_same (within_any _ _ _ _)))
        go_wp2_with (go_at_call 42; refine (within_any _ _ _ _).mono ?_; rintro e w1 ⟨rfl, hw1⟩; rw [hw1]; clear hw1 w1)
        go_quiet ((go_at_call 102; refine (hT _ _ _ _).mono ?_; rintro e w1 ⟨rfl, hw1⟩; first | exact ⟨rfl, _, hw1⟩ | exact ⟨rfl, _, hw1.trans World.drewN_drewN.symm⟩))
        go_wp2
        (try simp only [Exit.inBlock, Exit.then])
        refine bodyPost_ret (results_tmp6 rfl _ _ _) rfl ?_
        exact ⟨⟨_, _, _, _, _, rfl, fun h => by cases h⟩, by first | exact bel _ _ _ | exact below_drewN (bel _ _ _) _ | exact below_drewN (below_drewN (bel _ _ _) _) _⟩

    · have hb0 : decide (0 ≤ b) = false := by simpa using hb
      have hres : rightB m f ⟨35, a, b⟩ = false := by simp [rightB, ht, hb]
      unfold EffR
      rw [hres]
      go_enter Tryd.func86, Tryd.ntmps86
      go_wp2_with (go_at_call 42; refine (within_any _ _ _ _).mono ?_; rintro e w1 ⟨rfl, hw1⟩; rw [hw1]; clear hw1 w1)
      go_quiet ((go_at_call 42; exact Calls.quiet_of_same (within_any _ _ _ _)))
      go_wp2_with (go_at_call 42; refine (within_any _ _ _ _).mono ?_; rintro e w1 ⟨rfl, hw1⟩; rw [hw1]; clear hw1 w1)
      go_quiet ((go_at_call 102; refine (hT _ _ _ _).mono ?_; rintro e w1 ⟨rfl, hw1⟩; first | exact ⟨rfl, _, hw1⟩ | exact ⟨rfl, _, hw1.trans World.drewN_drewN.symm⟩))
      go_wp2
      (try simp only [Exit.inBlock, Exit.then])
      refine bodyPost_ret (results_tmp6 rfl _ _ _) rfl ?_
      exact ⟨⟨_, _, _, _, _, rfl, fun h => by cases h⟩, by first | exact bel _ _ _ | exact below_drewN (bel _ _ _) _ | exact below_drewN (below_drewN (bel _ _ _) _) _⟩

set_option maxRecDepth 100000 in
set_option maxHeartbeats 4000000 in
theorem eff_39 (mb mo : Nat) (m : Im) (f : Fc) (a b : Int) (w : World) (hm : Row w mb mo m.vals) (hi : ImIn w m) (hn : f.codeS.n = f.code.length) (hl1 : f.code.length ≤ 5000) (hs0 : 0 ≤ f.slots) (hs1 : f.slots ≤ 200) :
    Calls Tryd.prog 86 #[.pointer (some ⟨mb, mo, none⟩), .agg #[.string f.name, .int .i64 f.params, .int .i64 f.slots, .slice f.codeS.oa f.codeS.n f.codeS.c, .slice f.hsS.oa f.hsS.n f.hsS.c, .slice f.varsS.oa f.varsS.n f.varsS.c], .agg #[.int .i64 39, .int .i64 a, .int .i64 b]] w fun e w' => EffR m f ⟨39, a, b⟩ e ∧ Below w.heap.size w w' := by
  have c0 := (im_cells hm).1
  have c1 := (im_cells hm).2.1
  have c2 := (im_cells hm).2.2
  have l0 := hi.funcs.len
  have l1 := hi.consts.len
  have l2 := hi.classes.len
  have s0 := hi.funcs.small
  have s1 := hi.consts.small
  have s2 := hi.classes.small
  rw [List.length_map] at l0 l1 l2
  unfold Sl.val at c0 c1 c2
  rw [l0] at c0 s0
  rw [l1] at c1 s1
  rw [l2] at c2 s2
  have d0 := alloc3_cell c0
  have d1 := alloc3_cell c1
  have d2 := alloc3_cell c2
  have bel : ∀ o1 o2 o3, Below w.heap.size w (((w.alloc o1).alloc o2).alloc o3) := below_alloc3 (Below.refl _ _) (Nat.le_refl _)
  clear hm hi
  cases hin : CodeR.within a 1 ((m.funcs.length : Int) - 1)
  · have hres : rightB m f ⟨39, a, b⟩ = false := by simp [rightB, hin]
    unfold EffR
    rw [hres]
    have hwi : ∀ u, Calls Tryd.prog 42 #[.int .i64 a, .int .i64 1, .int .i64 ((m.funcs.length : Int) - 1)] u fun e w' => e = .returned (.bool false) ∧ w' = u := by
      intro u
      have h := within_any a 1 ((m.funcs.length : Int) - 1) u
      rw [hin] at h
      exact h
    go_enter Tryd.func86, Tryd.ntmps86
    go_wp2_with (go_at_call 42; refine (within_any _ _ _ _).mono ?_; rintro e w1 ⟨rfl, hw1⟩; rw [hw1]; clear hw1 w1)
    go_quiet ((go_at_call 42; exact Calls.quiet_of_same (hwi _)))
    go_wp2_with (go_at_call 42; refine (within_any _ _ _ _).mono ?_; rintro e w1 ⟨rfl, hw1⟩; rw [hw1]; clear hw1 w1)
    go_quiet (fail)
    go_wp2
    (try simp only [Exit.inBlock, Exit.then])
    refine bodyPost_ret (results_tmp6 rfl _ _ _) rfl ?_
    exact ⟨⟨_, _, _, _, _, rfl, fun h => by cases h⟩, by first | exact bel _ _ _ | exact below_drewN (bel _ _ _) _ | exact below_drewN (below_drewN (bel _ _ _) _) _⟩
  · have hres : rightB m f ⟨39, a, b⟩ = CodeR.within b 0 50 := by simp [rightB, fewB, hin]
    unfold EffR
    rw [hres]
    have hwi : ∀ u, Calls Tryd.prog 42 #[.int .i64 a, .int .i64 1, .int .i64 ((m.funcs.length : Int) - 1)] u fun e w' => e = .returned (.bool true) ∧ w' = u := by
      intro u
      have h := within_any a 1 ((m.funcs.length : Int) - 1) u
      rw [hin] at h
      exact h
    go_enter Tryd.func86, Tryd.ntmps86
    go_wp2_with (go_at_call 42; refine (within_any _ _ _ _).mono ?_; rintro e w1 ⟨rfl, hw1⟩; rw [hw1]; clear hw1 w1)
    go_quiet ((go_at_call 42; exact Calls.quiet_of_same (hwi _)))
    go_wp2_with (go_at_call 42; refine (within_any _ _ _ _).mono ?_; rintro e w1 ⟨rfl, hw1⟩; rw [hw1]; clear hw1 w1)
    go_quiet (fail)
    go_wp2
    (try simp only [Exit.inBlock, Exit.then])
    refine bodyPost_ret (results_tmp6 rfl _ _ _) rfl ?_
    exact ⟨⟨_, _, _, _, _, rfl, fun _ => by simp [takeI, leaveI, toI, thereI, goI, endsB]⟩, by first | exact bel _ _ _ | exact below_drewN (bel _ _ _) _ | exact below_drewN (below_drewN (bel _ _ _) _) _⟩

set_option maxRecDepth 100000 in
set_option maxHeartbeats 4000000 in
theorem eff_46 (mb mo : Nat) (m : Im) (f : Fc) (op : Int) (a b : Int) (w : World) (hm : Row w mb mo m.vals) (hi : ImIn w m) (hn : f.codeS.n = f.code.length) (hl1 : f.code.length ≤ 5000) (hs0 : 0 ≤ f.slots) (hs1 : f.slots ≤ 200) (hop : 45 < op) :
    Calls Tryd.prog 86 #[.pointer (some ⟨mb, mo, none⟩), .agg #[.string f.name, .int .i64 f.params, .int .i64 f.slots, .slice f.codeS.oa f.codeS.n f.codeS.c, .slice f.hsS.oa f.hsS.n f.hsS.c, .slice f.varsS.oa f.varsS.n f.varsS.c], .agg #[.int .i64 op, .int .i64 a, .int .i64 b]] w fun e w' => EffR m f ⟨op, a, b⟩ e ∧ Below w.heap.size w w' := by
  have c0 := (im_cells hm).1
  have c1 := (im_cells hm).2.1
  have c2 := (im_cells hm).2.2
  have l0 := hi.funcs.len
  have l1 := hi.consts.len
  have l2 := hi.classes.len
  have s0 := hi.funcs.small
  have s1 := hi.consts.small
  have s2 := hi.classes.small
  rw [List.length_map] at l0 l1 l2
  unfold Sl.val at c0 c1 c2
  rw [l0] at c0 s0
  rw [l1] at c1 s1
  rw [l2] at c2 s2
  have d0 := alloc3_cell c0
  have d1 := alloc3_cell c1
  have d2 := alloc3_cell c2
  have bel : ∀ o1 o2 o3, Below w.heap.size w (((w.alloc o1).alloc o2).alloc o3) := below_alloc3 (Below.refl _ _) (Nat.le_refl _)
  clear hm hi
  have k1 : (op == 1) = false := by simp; omega
  have k2 : (op == 2) = false := by simp; omega
  have k3 : (op == 3) = false := by simp; omega
  have k4 : (op == 4) = false := by simp; omega
  have k5 : (op == 5) = false := by simp; omega
  have k6 : (op == 6) = false := by simp; omega
  have k7 : (op == 7) = false := by simp; omega
  have k8 : (op == 8) = false := by simp; omega
  have k9 : (op == 9) = false := by simp; omega
  have k10 : (op == 10) = false := by simp; omega
  have k11 : (op == 11) = false := by simp; omega
  have k12 : (op == 12) = false := by simp; omega
  have k13 : (op == 13) = false := by simp; omega
  have k14 : (op == 14) = false := by simp; omega
  have k15 : (op == 15) = false := by simp; omega
  have k16 : (op == 16) = false := by simp; omega
  have k17 : (op == 17) = false := by simp; omega
  have k18 : (op == 18) = false := by simp; omega
  have k19 : (op == 19) = false := by simp; omega
  have k20 : (op == 20) = false := by simp; omega
  have k21 : (op == 21) = false := by simp; omega
  have k22 : (op == 22) = false := by simp; omega
  have k23 : (op == 23) = false := by simp; omega
  have k24 : (op == 24) = false := by simp; omega
  have k25 : (op == 25) = false := by simp; omega
  have k26 : (op == 26) = false := by simp; omega
  have k27 : (op == 27) = false := by simp; omega
  have k28 : (op == 28) = false := by simp; omega
  have k29 : (op == 29) = false := by simp; omega
  have k30 : (op == 30) = false := by simp; omega
  have k31 : (op == 31) = false := by simp; omega
  have k32 : (op == 32) = false := by simp; omega
  have k33 : (op == 33) = false := by simp; omega
  have k34 : (op == 34) = false := by simp; omega
  have k35 : (op == 35) = false := by simp; omega
  have k36 : (op == 36) = false := by simp; omega
  have k37 : (op == 37) = false := by simp; omega
  have k38 : (op == 38) = false := by simp; omega
  have k39 : (op == 39) = false := by simp; omega
  have k40 : (op == 40) = false := by simp; omega
  have k41 : (op == 41) = false := by simp; omega
  have k42 : (op == 42) = false := by simp; omega
  have k43 : (op == 43) = false := by simp; omega
  have k44 : (op == 44) = false := by simp; omega
  have k45 : (op == 45) = false := by simp; omega
  have hres : rightB m f ⟨op, a, b⟩ = false := by
    unfold rightB
    simp only
    repeat' split
    all_goals first | omega | (simp [CodeR.within]; omega)
  unfold EffR
  rw [hres]
  clear hres
  go_enter Tryd.func86, Tryd.ntmps86
  go_wp2_with (go_at_call 42; refine (within_any _ _ _ _).mono ?_; rintro e w1 ⟨rfl, hw1⟩; rw [hw1]; clear hw1 w1)
  go_quiet ((go_at_call 42; exact Calls.quiet_of_same (within_any _ _ _ _)))
  go_wp2_with (go_at_call 42; refine (within_any _ _ _ _).mono ?_; rintro e w1 ⟨rfl, hw1⟩; rw [hw1]; clear hw1 w1)
  (try simp only [Exit.inBlock, Exit.then])
  refine bodyPost_ret (results_tmp6 rfl _ _ _) rfl ?_
  exact ⟨⟨_, _, _, _, _, rfl, fun h => by cases h⟩, by first | exact bel _ _ _ | exact below_drewN (bel _ _ _) _ | exact below_drewN (below_drewN (bel _ _ _) _) _⟩

end Go.Proofs.YthbkklnahhdgcaaDoor.CodeE3
