/-
  The contract of the document's effect (an operation each): is what an instruction names there, what it takes, leaves, where it goes.
-/
import Derived.Test.YthbkklnahhdgcaaDoorDMC
namespace Go.Proofs.YthbkklnahhdgcaaDoor.CodeE1
open Go Go.Proofs Go.RowKit Lib CodeR CodeA CodeB CodeEa

set_option maxRecDepth 100000 in
set_option maxHeartbeats 4000000 in
theorem eff_1 (mb mo : Nat) (m : Im) (f : Fc) (a b : Int) (w : World) (hm : Row w mb mo m.vals) (hi : ImIn w m) (hn : f.codeS.n = f.code.length) (hl1 : f.code.length ≤ 5000) (hs0 : 0 ≤ f.slots) (hs1 : f.slots ≤ 200) :
    Calls Tryd.prog 86 #[.pointer (some ⟨mb, mo, none⟩), .agg #[.string f.name, .int .i64 f.params, .int .i64 f.slots, .slice f.codeS.oa f.codeS.n f.codeS.c, .slice f.hsS.oa f.hsS.n f.hsS.c, .slice f.varsS.oa f.varsS.n f.varsS.c], .agg #[.int .i64 1, .int .i64 a, .int .i64 b]] w fun e w' => EffR m f ⟨1, a, b⟩ e ∧ Below w.heap.size w w' := by
  have c0 := (im_cells hm).1
  have c1 := (im_cells hm).2.1
  have c2 := (im_cells hm).2.2
  have l0 := hi.funcs.len
  have l1 := hi.consts.len
  have l2 := hi.classes.len
  have s0 := hi.funcs.small
  have s1 := hi.consts.small
  have s2 := hi.classes.small
  rw [List.length_map] at l0 l1 l2
  unfold Sl.val at c0 c1 c2
  rw [l0] at c0 s0
  rw [l1] at c1 s1
  rw [l2] at c2 s2
  have d0 := alloc3_cell c0
  have d1 := alloc3_cell c1
  have d2 := alloc3_cell c2
  have bel : ∀ o1 o2 o3, Below w.heap.size w (((w.alloc o1).alloc o2).alloc o3) := below_alloc3 (Below.refl _ _) (Nat.le_refl _)
  clear hm hi
  have hres : rightB m f ⟨1, a, b⟩ = true := by simp [rightB, CodeR.within] <;> omega
  unfold EffR
  rw [hres]
  go_enter Tryd.func86, Tryd.ntmps86
  go_wp2_with (go_at_call 42; refine (within_any _ _ _ _).mono ?_; rintro e w1 ⟨rfl, hw1⟩; rw [hw1]; clear hw1 w1)
  go_quiet ((go_at_call 42; exact Calls.quiet_of_same (within_any _ _ _ _)))
  go_wp2_with (go_at_call 42; refine (within_any _ _ _ _).mono ?_; rintro e w1 ⟨rfl, hw1⟩; rw [hw1]; clear hw1 w1)
  (try simp only [Exit.inBlock, Exit.then])
  refine bodyPost_ret (results_tmp6 rfl _ _ _) rfl ?_
  exact ⟨⟨_, _, _, _, _, rfl, fun _ => by simp [takeI, leaveI, toI, thereI, goI, endsB]⟩, by first | exact bel _ _ _ | exact below_drewN (bel _ _ _) _ | exact below_drewN (below_drewN (bel _ _ _) _) _⟩

set_option maxRecDepth 100000 in
set_option maxHeartbeats 4000000 in
theorem eff_2 (mb mo : Nat) (m : Im) (f : Fc) (a b : Int) (w : World) (hm : Row w mb mo m.vals) (hi : ImIn w m) (hn : f.codeS.n = f.code.length) (hl1 : f.code.length ≤ 5000) (hs0 : 0 ≤ f.slots) (hs1 : f.slots ≤ 200) :
    Calls Tryd.prog 86 #[.pointer (some ⟨mb, mo, none⟩), .agg #[.string f.name, .int .i64 f.params, .int .i64 f.slots, .slice f.codeS.oa f.codeS.n f.codeS.c, .slice f.hsS.oa f.hsS.n f.hsS.c, .slice f.varsS.oa f.varsS.n f.varsS.c], .agg #[.int .i64 2, .int .i64 a, .int .i64 b]] w fun e w' => EffR m f ⟨2, a, b⟩ e ∧ Below w.heap.size w w' := by
  have c0 := (im_cells hm).1
  have c1 := (im_cells hm).2.1
  have c2 := (im_cells hm).2.2
  have l0 := hi.funcs.len
  have l1 := hi.consts.len
  have l2 := hi.classes.len
  have s0 := hi.funcs.small
  have s1 := hi.consts.small
  have s2 := hi.classes.small
  rw [List.length_map] at l0 l1 l2
  unfold Sl.val at c0 c1 c2
  rw [l0] at c0 s0
  rw [l1] at c1 s1
  rw [l2] at c2 s2
  have d0 := alloc3_cell c0
  have d1 := alloc3_cell c1
  have d2 := alloc3_cell c2
  have bel : ∀ o1 o2 o3, Below w.heap.size w (((w.alloc o1).alloc o2).alloc o3) := below_alloc3 (Below.refl _ _) (Nat.le_refl _)
  clear hm hi
  have hres : rightB m f ⟨2, a, b⟩ = CodeR.within a 0 ((m.consts.length : Int) - 1) := by unfold rightB; simp
  unfold EffR
  rw [hres]
  go_enter Tryd.func86, Tryd.ntmps86
  go_wp2_with (go_at_call 42; refine (within_any _ _ _ _).mono ?_; rintro e w1 ⟨rfl, hw1⟩; rw [hw1]; clear hw1 w1)
  go_quiet ((go_at_call 42; exact Calls.quiet_of_same (within_any _ _ _ _)))
  go_wp2_with (go_at_call 42; refine (within_any _ _ _ _).mono ?_; rintro e w1 ⟨rfl, hw1⟩; rw [hw1]; clear hw1 w1)
  go_quiet ((go_at_call 42; refine (within_any _ _ _ _).mono ?_; rintro e w1 ⟨rfl, hw1⟩; first | exact ⟨rfl, _, hw1⟩ | exact ⟨rfl, _, hw1.trans World.drewN_drewN.symm⟩))
  go_wp2
  (try simp only [Exit.inBlock, Exit.then])
  refine bodyPost_ret (results_tmp6 rfl _ _ _) rfl ?_
  exact ⟨⟨_, _, _, _, _, rfl, fun _ => by simp [takeI, leaveI, toI, thereI, goI, endsB]⟩, by first | exact bel _ _ _ | exact below_drewN (bel _ _ _) _ | exact below_drewN (below_drewN (bel _ _ _) _) _⟩

set_option maxRecDepth 100000 in
set_option maxHeartbeats 4000000 in
theorem eff_3 (mb mo : Nat) (m : Im) (f : Fc) (a b : Int) (w : World) (hm : Row w mb mo m.vals) (hi : ImIn w m) (hn : f.codeS.n = f.code.length) (hl1 : f.code.length ≤ 5000) (hs0 : 0 ≤ f.slots) (hs1 : f.slots ≤ 200) :
    Calls Tryd.prog 86 #[.pointer (some ⟨mb, mo, none⟩), .agg #[.string f.name, .int .i64 f.params, .int .i64 f.slots, .slice f.codeS.oa f.codeS.n f.codeS.c, .slice f.hsS.oa f.hsS.n f.hsS.c, .slice f.varsS.oa f.varsS.n f.varsS.c], .agg #[.int .i64 3, .int .i64 a, .int .i64 b]] w fun e w' => EffR m f ⟨3, a, b⟩ e ∧ Below w.heap.size w w' := by
  have c0 := (im_cells hm).1
  have c1 := (im_cells hm).2.1
  have c2 := (im_cells hm).2.2
  have l0 := hi.funcs.len
  have l1 := hi.consts.len
  have l2 := hi.classes.len
  have s0 := hi.funcs.small
  have s1 := hi.consts.small
  have s2 := hi.classes.small
  rw [List.length_map] at l0 l1 l2
  unfold Sl.val at c0 c1 c2
  rw [l0] at c0 s0
  rw [l1] at c1 s1
  rw [l2] at c2 s2
  have d0 := alloc3_cell c0
  have d1 := alloc3_cell c1
  have d2 := alloc3_cell c2
  have bel : ∀ o1 o2 o3, Below w.heap.size w (((w.alloc o1).alloc o2).alloc o3) := below_alloc3 (Below.refl _ _) (Nat.le_refl _)
  clear hm hi
  have hres : rightB m f ⟨3, a, b⟩ = true := by simp [rightB, CodeR.within] <;> omega
  unfold EffR
  rw [hres]
  go_enter Tryd.func86, Tryd.ntmps86
  go_wp2_with (go_at_call 42; refine (within_any _ _ _ _).mono ?_; rintro e w1 ⟨rfl, hw1⟩; rw [hw1]; clear hw1 w1)
  go_quiet ((go_at_call 42; exact Calls.quiet_of_same (within_any _ _ _ _)))
  go_wp2_with (go_at_call 42; refine (within_any _ _ _ _).mono ?_; rintro e w1 ⟨rfl, hw1⟩; rw [hw1]; clear hw1 w1)
  (try simp only [Exit.inBlock, Exit.then])
  refine bodyPost_ret (results_tmp6 rfl _ _ _) rfl ?_
  exact ⟨⟨_, _, _, _, _, rfl, fun _ => by simp [takeI, leaveI, toI, thereI, goI, endsB]⟩, by first | exact bel _ _ _ | exact below_drewN (bel _ _ _) _ | exact below_drewN (below_drewN (bel _ _ _) _) _⟩

set_option maxRecDepth 100000 in
set_option maxHeartbeats 4000000 in
theorem eff_4 (mb mo : Nat) (m : Im) (f : Fc) (a b : Int) (w : World) (hm : Row w mb mo m.vals) (hi : ImIn w m) (hn : f.codeS.n = f.code.length) (hl1 : f.code.length ≤ 5000) (hs0 : 0 ≤ f.slots) (hs1 : f.slots ≤ 200) :
    Calls Tryd.prog 86 #[.pointer (some ⟨mb, mo, none⟩), .agg #[.string f.name, .int .i64 f.params, .int .i64 f.slots, .slice f.codeS.oa f.codeS.n f.codeS.c, .slice f.hsS.oa f.hsS.n f.hsS.c, .slice f.varsS.oa f.varsS.n f.varsS.c], .agg #[.int .i64 4, .int .i64 a, .int .i64 b]] w fun e w' => EffR m f ⟨4, a, b⟩ e ∧ Below w.heap.size w w' := by
  have c0 := (im_cells hm).1
  have c1 := (im_cells hm).2.1
  have c2 := (im_cells hm).2.2
  have l0 := hi.funcs.len
  have l1 := hi.consts.len
  have l2 := hi.classes.len
  have s0 := hi.funcs.small
  have s1 := hi.consts.small
  have s2 := hi.classes.small
  rw [List.length_map] at l0 l1 l2
  unfold Sl.val at c0 c1 c2
  rw [l0] at c0 s0
  rw [l1] at c1 s1
  rw [l2] at c2 s2
  have d0 := alloc3_cell c0
  have d1 := alloc3_cell c1
  have d2 := alloc3_cell c2
  have bel : ∀ o1 o2 o3, Below w.heap.size w (((w.alloc o1).alloc o2).alloc o3) := below_alloc3 (Below.refl _ _) (Nat.le_refl _)
  clear hm hi
  have hres : rightB m f ⟨4, a, b⟩ = true := by simp [rightB, CodeR.within] <;> omega
  unfold EffR
  rw [hres]
  go_enter Tryd.func86, Tryd.ntmps86
  go_wp2_with (go_at_call 42; refine (within_any _ _ _ _).mono ?_; rintro e w1 ⟨rfl, hw1⟩; rw [hw1]; clear hw1 w1)
  go_quiet ((go_at_call 42; exact Calls.quiet_of_same (within_any _ _ _ _)))
  go_wp2_with (go_at_call 42; refine (within_any _ _ _ _).mono ?_; rintro e w1 ⟨rfl, hw1⟩; rw [hw1]; clear hw1 w1)
  (try simp only [Exit.inBlock, Exit.then])
  refine bodyPost_ret (results_tmp6 rfl _ _ _) rfl ?_
  exact ⟨⟨_, _, _, _, _, rfl, fun _ => by simp [takeI, leaveI, toI, thereI, goI, endsB]⟩, by first | exact bel _ _ _ | exact below_drewN (bel _ _ _) _ | exact below_drewN (below_drewN (bel _ _ _) _) _⟩

set_option maxRecDepth 100000 in
set_option maxHeartbeats 4000000 in
theorem eff_5 (mb mo : Nat) (m : Im) (f : Fc) (a b : Int) (w : World) (hm : Row w mb mo m.vals) (hi : ImIn w m) (hn : f.codeS.n = f.code.length) (hl1 : f.code.length ≤ 5000) (hs0 : 0 ≤ f.slots) (hs1 : f.slots ≤ 200) :
    Calls Tryd.prog 86 #[.pointer (some ⟨mb, mo, none⟩), .agg #[.string f.name, .int .i64 f.params, .int .i64 f.slots, .slice f.codeS.oa f.codeS.n f.codeS.c, .slice f.hsS.oa f.hsS.n f.hsS.c, .slice f.varsS.oa f.varsS.n f.varsS.c], .agg #[.int .i64 5, .int .i64 a, .int .i64 b]] w fun e w' => EffR m f ⟨5, a, b⟩ e ∧ Below w.heap.size w w' := by
  have c0 := (im_cells hm).1
  have c1 := (im_cells hm).2.1
  have c2 := (im_cells hm).2.2
  have l0 := hi.funcs.len
  have l1 := hi.consts.len
  have l2 := hi.classes.len
  have s0 := hi.funcs.small
  have s1 := hi.consts.small
  have s2 := hi.classes.small
  rw [List.length_map] at l0 l1 l2
  unfold Sl.val at c0 c1 c2
  rw [l0] at c0 s0
  rw [l1] at c1 s1
  rw [l2] at c2 s2
  have d0 := alloc3_cell c0
  have d1 := alloc3_cell c1
  have d2 := alloc3_cell c2
  have bel : ∀ o1 o2 o3, Below w.heap.size w (((w.alloc o1).alloc o2).alloc o3) := below_alloc3 (Below.refl _ _) (Nat.le_refl _)
  clear hm hi
  have hres : rightB m f ⟨5, a, b⟩ = true := by simp [rightB, CodeR.within] <;> omega
  unfold EffR
  rw [hres]
  go_enter Tryd.func86, Tryd.ntmps86
  go_wp2_with (go_at_call 42; refine (within_any _ _ _ _).mono ?_; rintro e w1 ⟨rfl, hw1⟩; rw [hw1]; clear hw1 w1)
  go_quiet ((go_at_call 42; exact Calls.quiet_of_same (within_any _ _ _ _)))
  go_wp2_with (go_at_call 42; refine (within_any _ _ _ _).mono ?_; rintro e w1 ⟨rfl, hw1⟩; rw [hw1]; clear hw1 w1)
  (try simp only [Exit.inBlock, Exit.then])
  refine bodyPost_ret (results_tmp6 rfl _ _ _) rfl ?_
  exact ⟨⟨_, _, _, _, _, rfl, fun _ => by simp [takeI, leaveI, toI, thereI, goI, endsB]⟩, by first | exact bel _ _ _ | exact below_drewN (bel _ _ _) _ | exact below_drewN (below_drewN (bel _ _ _) _) _⟩

set_option maxRecDepth 100000 in
set_option maxHeartbeats 4000000 in
theorem eff_6 (mb mo : Nat) (m : Im) (f : Fc) (a b : Int) (w : World) (hm : Row w mb mo m.vals) (hi : ImIn w m) (hn : f.codeS.n = f.code.length) (hl1 : f.code.length ≤ 5000) (hs0 : 0 ≤ f.slots) (hs1 : f.slots ≤ 200) :
    Calls Tryd.prog 86 #[.pointer (some ⟨mb, mo, none⟩), .agg #[.string f.name, .int .i64 f.params, .int .i64 f.slots, .slice f.codeS.oa f.codeS.n f.codeS.c, .slice f.hsS.oa f.hsS.n f.hsS.c, .slice f.varsS.oa f.varsS.n f.varsS.c], .agg #[.int .i64 6, .int .i64 a, .int .i64 b]] w fun e w' => EffR m f ⟨6, a, b⟩ e ∧ Below w.heap.size w w' := by
  have c0 := (im_cells hm).1
  have c1 := (im_cells hm).2.1
  have c2 := (im_cells hm).2.2
  have l0 := hi.funcs.len
  have l1 := hi.consts.len
  have l2 := hi.classes.len
  have s0 := hi.funcs.small
  have s1 := hi.consts.small
  have s2 := hi.classes.small
  rw [List.length_map] at l0 l1 l2
  unfold Sl.val at c0 c1 c2
  rw [l0] at c0 s0
  rw [l1] at c1 s1
  rw [l2] at c2 s2
  have d0 := alloc3_cell c0
  have d1 := alloc3_cell c1
  have d2 := alloc3_cell c2
  have bel : ∀ o1 o2 o3, Below w.heap.size w (((w.alloc o1).alloc o2).alloc o3) := below_alloc3 (Below.refl _ _) (Nat.le_refl _)
  clear hm hi
  have hres : rightB m f ⟨6, a, b⟩ = CodeR.within a 0 (f.slots - 1) := by unfold rightB; simp
  unfold EffR
  rw [hres]
  go_enter Tryd.func86, Tryd.ntmps86
  go_wp2_with (go_at_call 42; refine (within_any _ _ _ _).mono ?_; rintro e w1 ⟨rfl, hw1⟩; rw [hw1]; clear hw1 w1)
  go_quiet ((go_at_call 42; exact Calls.quiet_of_same (within_any _ _ _ _)))
  go_wp2_with (go_at_call 42; refine (within_any _ _ _ _).mono ?_; rintro e w1 ⟨rfl, hw1⟩; rw [hw1]; clear hw1 w1)
  (try simp only [Exit.inBlock, Exit.then])
  refine bodyPost_ret (results_tmp6 rfl _ _ _) rfl ?_
  exact ⟨⟨_, _, _, _, _, rfl, fun _ => by simp [takeI, leaveI, toI, thereI, goI, endsB]⟩, by first | exact bel _ _ _ | exact below_drewN (bel _ _ _) _ | exact below_drewN (below_drewN (bel _ _ _) _) _⟩

set_option maxRecDepth 100000 in
set_option maxHeartbeats 4000000 in
theorem eff_7 (mb mo : Nat) (m : Im) (f : Fc) (a b : Int) (w : World) (hm : Row w mb mo m.vals) (hi : ImIn w m) (hn : f.codeS.n = f.code.length) (hl1 : f.code.length ≤ 5000) (hs0 : 0 ≤ f.slots) (hs1 : f.slots ≤ 200) :
    Calls Tryd.prog 86 #[.pointer (some ⟨mb, mo, none⟩), .agg #[.string f.name, .int .i64 f.params, .int .i64 f.slots, .slice f.codeS.oa f.codeS.n f.codeS.c, .slice f.hsS.oa f.hsS.n f.hsS.c, .slice f.varsS.oa f.varsS.n f.varsS.c], .agg #[.int .i64 7, .int .i64 a, .int .i64 b]] w fun e w' => EffR m f ⟨7, a, b⟩ e ∧ Below w.heap.size w w' := by
  have c0 := (im_cells hm).1
  have c1 := (im_cells hm).2.1
  have c2 := (im_cells hm).2.2
  have l0 := hi.funcs.len
  have l1 := hi.consts.len
  have l2 := hi.classes.len
  have s0 := hi.funcs.small
  have s1 := hi.consts.small
  have s2 := hi.classes.small
  rw [List.length_map] at l0 l1 l2
  unfold Sl.val at c0 c1 c2
  rw [l0] at c0 s0
  rw [l1] at c1 s1
  rw [l2] at c2 s2
  have d0 := alloc3_cell c0
  have d1 := alloc3_cell c1
  have d2 := alloc3_cell c2
  have bel : ∀ o1 o2 o3, Below w.heap.size w (((w.alloc o1).alloc o2).alloc o3) := below_alloc3 (Below.refl _ _) (Nat.le_refl _)
  clear hm hi
  have hres : rightB m f ⟨7, a, b⟩ = CodeR.within a 0 (f.slots - 1) := by unfold rightB; simp
  unfold EffR
  rw [hres]
  go_enter Tryd.func86, Tryd.ntmps86
  go_wp2_with (go_at_call 42; refine (within_any _ _ _ _).mono ?_; rintro e w1 ⟨rfl, hw1⟩; rw [hw1]; clear hw1 w1)
  go_quiet ((go_at_call 42; exact Calls.quiet_of_same (within_any _ _ _ _)))
  go_wp2_with (go_at_call 42; refine (within_any _ _ _ _).mono ?_; rintro e w1 ⟨rfl, hw1⟩; rw [hw1]; clear hw1 w1)
  (try simp only [Exit.inBlock, Exit.then])
  refine bodyPost_ret (results_tmp6 rfl _ _ _) rfl ?_
  exact ⟨⟨_, _, _, _, _, rfl, fun _ => by simp [takeI, leaveI, toI, thereI, goI, endsB]⟩, by first | exact bel _ _ _ | exact below_drewN (bel _ _ _) _ | exact below_drewN (below_drewN (bel _ _ _) _) _⟩

set_option maxRecDepth 100000 in
set_option maxHeartbeats 4000000 in
theorem eff_8 (mb mo : Nat) (m : Im) (f : Fc) (a b : Int) (w : World) (hm : Row w mb mo m.vals) (hi : ImIn w m) (hn : f.codeS.n = f.code.length) (hl1 : f.code.length ≤ 5000) (hs0 : 0 ≤ f.slots) (hs1 : f.slots ≤ 200) :
    Calls Tryd.prog 86 #[.pointer (some ⟨mb, mo, none⟩), .agg #[.string f.name, .int .i64 f.params, .int .i64 f.slots, .slice f.codeS.oa f.codeS.n f.codeS.c, .slice f.hsS.oa f.hsS.n f.hsS.c, .slice f.varsS.oa f.varsS.n f.varsS.c], .agg #[.int .i64 8, .int .i64 a, .int .i64 b]] w fun e w' => EffR m f ⟨8, a, b⟩ e ∧ Below w.heap.size w w' := by
  have c0 := (im_cells hm).1
  have c1 := (im_cells hm).2.1
  have c2 := (im_cells hm).2.2
  have l0 := hi.funcs.len
  have l1 := hi.consts.len
  have l2 := hi.classes.len
  have s0 := hi.funcs.small
  have s1 := hi.consts.small
  have s2 := hi.classes.small
  rw [List.length_map] at l0 l1 l2
  unfold Sl.val at c0 c1 c2
  rw [l0] at c0 s0
  rw [l1] at c1 s1
  rw [l2] at c2 s2
  have d0 := alloc3_cell c0
  have d1 := alloc3_cell c1
  have d2 := alloc3_cell c2
  have bel : ∀ o1 o2 o3, Below w.heap.size w (((w.alloc o1).alloc o2).alloc o3) := below_alloc3 (Below.refl _ _) (Nat.le_refl _)
  clear hm hi
  have hres : rightB m f ⟨8, a, b⟩ = CodeR.within a 0 (f.slots - 1) := by unfold rightB; simp
  unfold EffR
  rw [hres]
  go_enter Tryd.func86, Tryd.ntmps86
  go_wp2_with (go_at_call 42; refine (within_any _ _ _ _).mono ?_; rintro e w1 ⟨rfl, hw1⟩; rw [hw1]; clear hw1 w1)
  go_quiet ((go_at_call 42; exact Calls.quiet_of_same (within_any _ _ _ _)))
  go_wp2_with (go_at_call 42; refine (within_any _ _ _ _).mono ?_; rintro e w1 ⟨rfl, hw1⟩; rw [hw1]; clear hw1 w1)
  (try simp only [Exit.inBlock, Exit.then])
  refine bodyPost_ret (results_tmp6 rfl _ _ _) rfl ?_
  exact ⟨⟨_, _, _, _, _, rfl, fun _ => by simp [takeI, leaveI, toI, thereI, goI, endsB]⟩, by first | exact bel _ _ _ | exact below_drewN (bel _ _ _) _ | exact below_drewN (below_drewN (bel _ _ _) _) _⟩

set_option maxRecDepth 100000 in
set_option maxHeartbeats 4000000 in
theorem eff_9 (mb mo : Nat) (m : Im) (f : Fc) (a b : Int) (w : World) (hm : Row w mb mo m.vals) (hi : ImIn w m) (hn : f.codeS.n = f.code.length) (hl1 : f.code.length ≤ 5000) (hs0 : 0 ≤ f.slots) (hs1 : f.slots ≤ 200) :
    Calls Tryd.prog 86 #[.pointer (some ⟨mb, mo, none⟩), .agg #[.string f.name, .int .i64 f.params, .int .i64 f.slots, .slice f.codeS.oa f.codeS.n f.codeS.c, .slice f.hsS.oa f.hsS.n f.hsS.c, .slice f.varsS.oa f.varsS.n f.varsS.c], .agg #[.int .i64 9, .int .i64 a, .int .i64 b]] w fun e w' => EffR m f ⟨9, a, b⟩ e ∧ Below w.heap.size w w' := by
  have c0 := (im_cells hm).1
  have c1 := (im_cells hm).2.1
  have c2 := (im_cells hm).2.2
  have l0 := hi.funcs.len
  have l1 := hi.consts.len
  have l2 := hi.classes.len
  have s0 := hi.funcs.small
  have s1 := hi.consts.small
  have s2 := hi.classes.small
  rw [List.length_map] at l0 l1 l2
  unfold Sl.val at c0 c1 c2
  rw [l0] at c0 s0
  rw [l1] at c1 s1
  rw [l2] at c2 s2
  have d0 := alloc3_cell c0
  have d1 := alloc3_cell c1
  have d2 := alloc3_cell c2
  have bel : ∀ o1 o2 o3, Below w.heap.size w (((w.alloc o1).alloc o2).alloc o3) := below_alloc3 (Below.refl _ _) (Nat.le_refl _)
  clear hm hi
  have hres : rightB m f ⟨9, a, b⟩ = CodeR.within a 0 (f.slots - 1) := by unfold rightB; simp
  unfold EffR
  rw [hres]
  go_enter Tryd.func86, Tryd.ntmps86
  go_wp2_with (go_at_call 42; refine (within_any _ _ _ _).mono ?_; rintro e w1 ⟨rfl, hw1⟩; rw [hw1]; clear hw1 w1)
  go_quiet ((go_at_call 42; exact Calls.quiet_of_same (within_any _ _ _ _)))
  go_wp2_with (go_at_call 42; refine (within_any _ _ _ _).mono ?_; rintro e w1 ⟨rfl, hw1⟩; rw [hw1]; clear hw1 w1)
  (try simp only [Exit.inBlock, Exit.then])
  refine bodyPost_ret (results_tmp6 rfl _ _ _) rfl ?_
  exact ⟨⟨_, _, _, _, _, rfl, fun _ => by simp [takeI, leaveI, toI, thereI, goI, endsB]⟩, by first | exact bel _ _ _ | exact below_drewN (bel _ _ _) _ | exact below_drewN (below_drewN (bel _ _ _) _) _⟩

set_option maxRecDepth 100000 in
set_option maxHeartbeats 4000000 in
theorem eff_10 (mb mo : Nat) (m : Im) (f : Fc) (a b : Int) (w : World) (hm : Row w mb mo m.vals) (hi : ImIn w m) (hn : f.codeS.n = f.code.length) (hl1 : f.code.length ≤ 5000) (hs0 : 0 ≤ f.slots) (hs1 : f.slots ≤ 200) :
    Calls Tryd.prog 86 #[.pointer (some ⟨mb, mo, none⟩), .agg #[.string f.name, .int .i64 f.params, .int .i64 f.slots, .slice f.codeS.oa f.codeS.n f.codeS.c, .slice f.hsS.oa f.hsS.n f.hsS.c, .slice f.varsS.oa f.varsS.n f.varsS.c], .agg #[.int .i64 10, .int .i64 a, .int .i64 b]] w fun e w' => EffR m f ⟨10, a, b⟩ e ∧ Below w.heap.size w w' := by
  have c0 := (im_cells hm).1
  have c1 := (im_cells hm).2.1
  have c2 := (im_cells hm).2.2
  have l0 := hi.funcs.len
  have l1 := hi.consts.len
  have l2 := hi.classes.len
  have s0 := hi.funcs.small
  have s1 := hi.consts.small
  have s2 := hi.classes.small
  rw [List.length_map] at l0 l1 l2
  unfold Sl.val at c0 c1 c2
  rw [l0] at c0 s0
  rw [l1] at c1 s1
  rw [l2] at c2 s2
  have d0 := alloc3_cell c0
  have d1 := alloc3_cell c1
  have d2 := alloc3_cell c2
  have bel : ∀ o1 o2 o3, Below w.heap.size w (((w.alloc o1).alloc o2).alloc o3) := below_alloc3 (Below.refl _ _) (Nat.le_refl _)
  clear hm hi
  have hres : rightB m f ⟨10, a, b⟩ = CodeR.within a 0 (f.slots - 1) := by unfold rightB; simp
  unfold EffR
  rw [hres]
  go_enter Tryd.func86, Tryd.ntmps86
  go_wp2_with (go_at_call 42; refine (within_any _ _ _ _).mono ?_; rintro e w1 ⟨rfl, hw1⟩; rw [hw1]; clear hw1 w1)
  go_quiet ((go_at_call 42; exact Calls.quiet_of_same (within_any _ _ _ _)))
  go_wp2_with (go_at_call 42; refine (within_any _ _ _ _).mono ?_; rintro e w1 ⟨rfl, hw1⟩; rw [hw1]; clear hw1 w1)
  (try simp only [Exit.inBlock, Exit.then])
  refine bodyPost_ret (results_tmp6 rfl _ _ _) rfl ?_
  exact ⟨⟨_, _, _, _, _, rfl, fun _ => by simp [takeI, leaveI, toI, thereI, goI, endsB]⟩, by first | exact bel _ _ _ | exact below_drewN (bel _ _ _) _ | exact below_drewN (below_drewN (bel _ _ _) _) _⟩

set_option maxRecDepth 100000 in
set_option maxHeartbeats 4000000 in
theorem eff_11 (mb mo : Nat) (m : Im) (f : Fc) (a b : Int) (w : World) (hm : Row w mb mo m.vals) (hi : ImIn w m) (hn : f.codeS.n = f.code.length) (hl1 : f.code.length ≤ 5000) (hs0 : 0 ≤ f.slots) (hs1 : f.slots ≤ 200) :
    Calls Tryd.prog 86 #[.pointer (some ⟨mb, mo, none⟩), .agg #[.string f.name, .int .i64 f.params, .int .i64 f.slots, .slice f.codeS.oa f.codeS.n f.codeS.c, .slice f.hsS.oa f.hsS.n f.hsS.c, .slice f.varsS.oa f.varsS.n f.varsS.c], .agg #[.int .i64 11, .int .i64 a, .int .i64 b]] w fun e w' => EffR m f ⟨11, a, b⟩ e ∧ Below w.heap.size w w' := by
  have c0 := (im_cells hm).1
  have c1 := (im_cells hm).2.1
  have c2 := (im_cells hm).2.2
  have l0 := hi.funcs.len
  have l1 := hi.consts.len
  have l2 := hi.classes.len
  have s0 := hi.funcs.small
  have s1 := hi.consts.small
  have s2 := hi.classes.small
  rw [List.length_map] at l0 l1 l2
  unfold Sl.val at c0 c1 c2
  rw [l0] at c0 s0
  rw [l1] at c1 s1
  rw [l2] at c2 s2
  have d0 := alloc3_cell c0
  have d1 := alloc3_cell c1
  have d2 := alloc3_cell c2
  have bel : ∀ o1 o2 o3, Below w.heap.size w (((w.alloc o1).alloc o2).alloc o3) := below_alloc3 (Below.refl _ _) (Nat.le_refl _)
  clear hm hi
  have hres : rightB m f ⟨11, a, b⟩ = CodeR.within a 0 50 := by unfold rightB; simp
  unfold EffR
  rw [hres]
  go_enter Tryd.func86, Tryd.ntmps86
  go_wp2_with (go_at_call 42; refine (within_any _ _ _ _).mono ?_; rintro e w1 ⟨rfl, hw1⟩; rw [hw1]; clear hw1 w1)
  go_quiet ((go_at_call 42; exact Calls.quiet_of_same (within_any _ _ _ _)))
  go_wp2_with (go_at_call 42; refine (within_any _ _ _ _).mono ?_; rintro e w1 ⟨rfl, hw1⟩; rw [hw1]; clear hw1 w1)
  (try simp only [Exit.inBlock, Exit.then])
  refine bodyPost_ret (results_tmp6 rfl _ _ _) rfl ?_
  exact ⟨⟨_, _, _, _, _, rfl, fun _ => by simp [takeI, leaveI, toI, thereI, goI, endsB]⟩, by first | exact bel _ _ _ | exact below_drewN (bel _ _ _) _ | exact below_drewN (below_drewN (bel _ _ _) _) _⟩

set_option maxRecDepth 100000 in
set_option maxHeartbeats 4000000 in
theorem eff_12 (mb mo : Nat) (m : Im) (f : Fc) (a b : Int) (w : World) (hm : Row w mb mo m.vals) (hi : ImIn w m) (hn : f.codeS.n = f.code.length) (hl1 : f.code.length ≤ 5000) (hs0 : 0 ≤ f.slots) (hs1 : f.slots ≤ 200) :
    Calls Tryd.prog 86 #[.pointer (some ⟨mb, mo, none⟩), .agg #[.string f.name, .int .i64 f.params, .int .i64 f.slots, .slice f.codeS.oa f.codeS.n f.codeS.c, .slice f.hsS.oa f.hsS.n f.hsS.c, .slice f.varsS.oa f.varsS.n f.varsS.c], .agg #[.int .i64 12, .int .i64 a, .int .i64 b]] w fun e w' => EffR m f ⟨12, a, b⟩ e ∧ Below w.heap.size w w' := by
  have c0 := (im_cells hm).1
  have c1 := (im_cells hm).2.1
  have c2 := (im_cells hm).2.2
  have l0 := hi.funcs.len
  have l1 := hi.consts.len
  have l2 := hi.classes.len
  have s0 := hi.funcs.small
  have s1 := hi.consts.small
  have s2 := hi.classes.small
  rw [List.length_map] at l0 l1 l2
  unfold Sl.val at c0 c1 c2
  rw [l0] at c0 s0
  rw [l1] at c1 s1
  rw [l2] at c2 s2
  have d0 := alloc3_cell c0
  have d1 := alloc3_cell c1
  have d2 := alloc3_cell c2
  have bel : ∀ o1 o2 o3, Below w.heap.size w (((w.alloc o1).alloc o2).alloc o3) := below_alloc3 (Below.refl _ _) (Nat.le_refl _)
  clear hm hi
  have hres : rightB m f ⟨12, a, b⟩ = CodeR.within a 0 50 := by unfold rightB; simp
  unfold EffR
  rw [hres]
  go_enter Tryd.func86, Tryd.ntmps86
  go_wp2_with (go_at_call 42; refine (within_any _ _ _ _).mono ?_; rintro e w1 ⟨rfl, hw1⟩; rw [hw1]; clear hw1 w1)
  go_quiet ((go_at_call 42; exact Calls.quiet_of_same (within_any _ _ _ _)))
  go_wp2_with (go_at_call 42; refine (within_any _ _ _ _).mono ?_; rintro e w1 ⟨rfl, hw1⟩; rw [hw1]; clear hw1 w1)
  (try simp only [Exit.inBlock, Exit.then])
  refine bodyPost_ret (results_tmp6 rfl _ _ _) rfl ?_
  exact ⟨⟨_, _, _, _, _, rfl, fun _ => by simp [takeI, leaveI, toI, thereI, goI, endsB]⟩, by first | exact bel _ _ _ | exact below_drewN (bel _ _ _) _ | exact below_drewN (below_drewN (bel _ _ _) _) _⟩

set_option maxRecDepth 100000 in
set_option maxHeartbeats 4000000 in
theorem eff_13 (mb mo : Nat) (m : Im) (f : Fc) (a b : Int) (w : World) (hm : Row w mb mo m.vals) (hi : ImIn w m) (hn : f.codeS.n = f.code.length) (hl1 : f.code.length ≤ 5000) (hs0 : 0 ≤ f.slots) (hs1 : f.slots ≤ 200) :
    Calls Tryd.prog 86 #[.pointer (some ⟨mb, mo, none⟩), .agg #[.string f.name, .int .i64 f.params, .int .i64 f.slots, .slice f.codeS.oa f.codeS.n f.codeS.c, .slice f.hsS.oa f.hsS.n f.hsS.c, .slice f.varsS.oa f.varsS.n f.varsS.c], .agg #[.int .i64 13, .int .i64 a, .int .i64 b]] w fun e w' => EffR m f ⟨13, a, b⟩ e ∧ Below w.heap.size w w' := by
  have c0 := (im_cells hm).1
  have c1 := (im_cells hm).2.1
  have c2 := (im_cells hm).2.2
  have l0 := hi.funcs.len
  have l1 := hi.consts.len
  have l2 := hi.classes.len
  have s0 := hi.funcs.small
  have s1 := hi.consts.small
  have s2 := hi.classes.small
  rw [List.length_map] at l0 l1 l2
  unfold Sl.val at c0 c1 c2
  rw [l0] at c0 s0
  rw [l1] at c1 s1
  rw [l2] at c2 s2
  have d0 := alloc3_cell c0
  have d1 := alloc3_cell c1
  have d2 := alloc3_cell c2
  have bel : ∀ o1 o2 o3, Below w.heap.size w (((w.alloc o1).alloc o2).alloc o3) := below_alloc3 (Below.refl _ _) (Nat.le_refl _)
  clear hm hi
  have hres : rightB m f ⟨13, a, b⟩ = CodeR.within a 0 50 := by unfold rightB; simp
  unfold EffR
  rw [hres]
  go_enter Tryd.func86, Tryd.ntmps86
  go_wp2_with (go_at_call 42; refine (within_any _ _ _ _).mono ?_; rintro e w1 ⟨rfl, hw1⟩; rw [hw1]; clear hw1 w1)
  go_quiet ((go_at_call 42; exact Calls.quiet_of_same (within_any _ _ _ _)))
  go_wp2_with (go_at_call 42; refine (within_any _ _ _ _).mono ?_; rintro e w1 ⟨rfl, hw1⟩; rw [hw1]; clear hw1 w1)
  (try simp only [Exit.inBlock, Exit.then])
  refine bodyPost_ret (results_tmp6 rfl _ _ _) rfl ?_
  exact ⟨⟨_, _, _, _, _, rfl, fun _ => by simp [takeI, leaveI, toI, thereI, goI, endsB]⟩, by first | exact bel _ _ _ | exact below_drewN (bel _ _ _) _ | exact below_drewN (below_drewN (bel _ _ _) _) _⟩

set_option maxRecDepth 100000 in
set_option maxHeartbeats 4000000 in
theorem eff_14 (mb mo : Nat) (m : Im) (f : Fc) (a b : Int) (w : World) (hm : Row w mb mo m.vals) (hi : ImIn w m) (hn : f.codeS.n = f.code.length) (hl1 : f.code.length ≤ 5000) (hs0 : 0 ≤ f.slots) (hs1 : f.slots ≤ 200) :
    Calls Tryd.prog 86 #[.pointer (some ⟨mb, mo, none⟩), .agg #[.string f.name, .int .i64 f.params, .int .i64 f.slots, .slice f.codeS.oa f.codeS.n f.codeS.c, .slice f.hsS.oa f.hsS.n f.hsS.c, .slice f.varsS.oa f.varsS.n f.varsS.c], .agg #[.int .i64 14, .int .i64 a, .int .i64 b]] w fun e w' => EffR m f ⟨14, a, b⟩ e ∧ Below w.heap.size w w' := by
  have c0 := (im_cells hm).1
  have c1 := (im_cells hm).2.1
  have c2 := (im_cells hm).2.2
  have l0 := hi.funcs.len
  have l1 := hi.consts.len
  have l2 := hi.classes.len
  have s0 := hi.funcs.small
  have s1 := hi.consts.small
  have s2 := hi.classes.small
  rw [List.length_map] at l0 l1 l2
  unfold Sl.val at c0 c1 c2
  rw [l0] at c0 s0
  rw [l1] at c1 s1
  rw [l2] at c2 s2
  have d0 := alloc3_cell c0
  have d1 := alloc3_cell c1
  have d2 := alloc3_cell c2
  have bel : ∀ o1 o2 o3, Below w.heap.size w (((w.alloc o1).alloc o2).alloc o3) := below_alloc3 (Below.refl _ _) (Nat.le_refl _)
  clear hm hi
  have hres : rightB m f ⟨14, a, b⟩ = true := by simp [rightB, CodeR.within] <;> omega
  unfold EffR
  rw [hres]
  go_enter Tryd.func86, Tryd.ntmps86
  go_wp2_with (go_at_call 42; refine (within_any _ _ _ _).mono ?_; rintro e w1 ⟨rfl, hw1⟩; rw [hw1]; clear hw1 w1)
  go_quiet ((go_at_call 42; exact Calls.quiet_of_same (within_any _ _ _ _)))
  go_wp2_with (go_at_call 42; refine (within_any _ _ _ _).mono ?_; rintro e w1 ⟨rfl, hw1⟩; rw [hw1]; clear hw1 w1)
  (try simp only [Exit.inBlock, Exit.then])
  refine bodyPost_ret (results_tmp6 rfl _ _ _) rfl ?_
  exact ⟨⟨_, _, _, _, _, rfl, fun _ => by simp [takeI, leaveI, toI, thereI, goI, endsB]⟩, by first | exact bel _ _ _ | exact below_drewN (bel _ _ _) _ | exact below_drewN (below_drewN (bel _ _ _) _) _⟩

set_option maxRecDepth 100000 in
set_option maxHeartbeats 4000000 in
theorem eff_15 (mb mo : Nat) (m : Im) (f : Fc) (a b : Int) (w : World) (hm : Row w mb mo m.vals) (hi : ImIn w m) (hn : f.codeS.n = f.code.length) (hl1 : f.code.length ≤ 5000) (hs0 : 0 ≤ f.slots) (hs1 : f.slots ≤ 200) :
    Calls Tryd.prog 86 #[.pointer (some ⟨mb, mo, none⟩), .agg #[.string f.name, .int .i64 f.params, .int .i64 f.slots, .slice f.codeS.oa f.codeS.n f.codeS.c, .slice f.hsS.oa f.hsS.n f.hsS.c, .slice f.varsS.oa f.varsS.n f.varsS.c], .agg #[.int .i64 15, .int .i64 a, .int .i64 b]] w fun e w' => EffR m f ⟨15, a, b⟩ e ∧ Below w.heap.size w w' := by
  have c0 := (im_cells hm).1
  have c1 := (im_cells hm).2.1
  have c2 := (im_cells hm).2.2
  have l0 := hi.funcs.len
  have l1 := hi.consts.len
  have l2 := hi.classes.len
  have s0 := hi.funcs.small
  have s1 := hi.consts.small
  have s2 := hi.classes.small
  rw [List.length_map] at l0 l1 l2
  unfold Sl.val at c0 c1 c2
  rw [l0] at c0 s0
  rw [l1] at c1 s1
  rw [l2] at c2 s2
  have d0 := alloc3_cell c0
  have d1 := alloc3_cell c1
  have d2 := alloc3_cell c2
  have bel : ∀ o1 o2 o3, Below w.heap.size w (((w.alloc o1).alloc o2).alloc o3) := below_alloc3 (Below.refl _ _) (Nat.le_refl _)
  clear hm hi
  have hres : rightB m f ⟨15, a, b⟩ = CodeR.within a 0 ((f.code.length : Int) - 1) := by unfold rightB; simp
  unfold EffR
  rw [hres]
  go_enter Tryd.func86, Tryd.ntmps86
  go_wp2_with (go_at_call 42; refine (within_any _ _ _ _).mono ?_; rintro e w1 ⟨rfl, hw1⟩; rw [hw1]; clear hw1 w1)
  go_quiet ((go_at_call 42; exact Calls.quiet_of_same (within_any _ _ _ _)))
  go_wp2_with (go_at_call 42; refine (within_any _ _ _ _).mono ?_; rintro e w1 ⟨rfl, hw1⟩; rw [hw1]; clear hw1 w1)
  go_quiet (fail)
  go_wp2
  (try simp only [Exit.inBlock, Exit.then])
  refine bodyPost_ret (results_tmp6 rfl _ _ _) rfl ?_
  exact ⟨⟨_, _, _, _, _, rfl, fun _ => by simp [takeI, leaveI, toI, thereI, goI, endsB]⟩, by first | exact bel _ _ _ | exact below_drewN (bel _ _ _) _ | exact below_drewN (below_drewN (bel _ _ _) _) _⟩

set_option maxRecDepth 100000 in
set_option maxHeartbeats 4000000 in
theorem eff_16 (mb mo : Nat) (m : Im) (f : Fc) (a b : Int) (w : World) (hm : Row w mb mo m.vals) (hi : ImIn w m) (hn : f.codeS.n = f.code.length) (hl1 : f.code.length ≤ 5000) (hs0 : 0 ≤ f.slots) (hs1 : f.slots ≤ 200) :
    Calls Tryd.prog 86 #[.pointer (some ⟨mb, mo, none⟩), .agg #[.string f.name, .int .i64 f.params, .int .i64 f.slots, .slice f.codeS.oa f.codeS.n f.codeS.c, .slice f.hsS.oa f.hsS.n f.hsS.c, .slice f.varsS.oa f.varsS.n f.varsS.c], .agg #[.int .i64 16, .int .i64 a, .int .i64 b]] w fun e w' => EffR m f ⟨16, a, b⟩ e ∧ Below w.heap.size w w' := by
  have c0 := (im_cells hm).1
  have c1 := (im_cells hm).2.1
  have c2 := (im_cells hm).2.2
  have l0 := hi.funcs.len
  have l1 := hi.consts.len
  have l2 := hi.classes.len
  have s0 := hi.funcs.small
  have s1 := hi.consts.small
  have s2 := hi.classes.small
  rw [List.length_map] at l0 l1 l2
  unfold Sl.val at c0 c1 c2
  rw [l0] at c0 s0
  rw [l1] at c1 s1
  rw [l2] at c2 s2
  have d0 := alloc3_cell c0
  have d1 := alloc3_cell c1
  have d2 := alloc3_cell c2
  have bel : ∀ o1 o2 o3, Below w.heap.size w (((w.alloc o1).alloc o2).alloc o3) := below_alloc3 (Below.refl _ _) (Nat.le_refl _)
  clear hm hi
  have hres : rightB m f ⟨16, a, b⟩ = CodeR.within a 0 ((f.code.length : Int) - 1) := by unfold rightB; simp
  unfold EffR
  rw [hres]
  go_enter Tryd.func86, Tryd.ntmps86
  go_wp2_with (go_at_call 42; refine (within_any _ _ _ _).mono ?_; rintro e w1 ⟨rfl, hw1⟩; rw [hw1]; clear hw1 w1)
  go_quiet ((go_at_call 42; exact Calls.quiet_of_same (within_any _ _ _ _)))
  go_wp2_with (go_at_call 42; refine (within_any _ _ _ _).mono ?_; rintro e w1 ⟨rfl, hw1⟩; rw [hw1]; clear hw1 w1)
  go_quiet (fail)
  go_wp2
  (try simp only [Exit.inBlock, Exit.then])
  refine bodyPost_ret (results_tmp6 rfl _ _ _) rfl ?_
  exact ⟨⟨_, _, _, _, _, rfl, fun _ => by simp [takeI, leaveI, toI, thereI, goI, endsB]⟩, by first | exact bel _ _ _ | exact below_drewN (bel _ _ _) _ | exact below_drewN (below_drewN (bel _ _ _) _) _⟩

set_option maxRecDepth 100000 in
set_option maxHeartbeats 4000000 in
theorem eff_17 (mb mo : Nat) (m : Im) (f : Fc) (a b : Int) (w : World) (hm : Row w mb mo m.vals) (hi : ImIn w m) (hn : f.codeS.n = f.code.length) (hl1 : f.code.length ≤ 5000) (hs0 : 0 ≤ f.slots) (hs1 : f.slots ≤ 200) :
    Calls Tryd.prog 86 #[.pointer (some ⟨mb, mo, none⟩), .agg #[.string f.name, .int .i64 f.params, .int .i64 f.slots, .slice f.codeS.oa f.codeS.n f.codeS.c, .slice f.hsS.oa f.hsS.n f.hsS.c, .slice f.varsS.oa f.varsS.n f.varsS.c], .agg #[.int .i64 17, .int .i64 a, .int .i64 b]] w fun e w' => EffR m f ⟨17, a, b⟩ e ∧ Below w.heap.size w w' := by
  have c0 := (im_cells hm).1
  have c1 := (im_cells hm).2.1
  have c2 := (im_cells hm).2.2
  have l0 := hi.funcs.len
  have l1 := hi.consts.len
  have l2 := hi.classes.len
  have s0 := hi.funcs.small
  have s1 := hi.consts.small
  have s2 := hi.classes.small
  rw [List.length_map] at l0 l1 l2
  unfold Sl.val at c0 c1 c2
  rw [l0] at c0 s0
  rw [l1] at c1 s1
  rw [l2] at c2 s2
  have d0 := alloc3_cell c0
  have d1 := alloc3_cell c1
  have d2 := alloc3_cell c2
  have bel : ∀ o1 o2 o3, Below w.heap.size w (((w.alloc o1).alloc o2).alloc o3) := below_alloc3 (Below.refl _ _) (Nat.le_refl _)
  clear hm hi
  have hres : rightB m f ⟨17, a, b⟩ = CodeR.within a 0 ((f.code.length : Int) - 1) := by unfold rightB; simp
  unfold EffR
  rw [hres]
  go_enter Tryd.func86, Tryd.ntmps86
  go_wp2_with (go_at_call 42; refine (within_any _ _ _ _).mono ?_; rintro e w1 ⟨rfl, hw1⟩; rw [hw1]; clear hw1 w1)
  go_quiet ((go_at_call 42; exact Calls.quiet_of_same (within_any _ _ _ _)))
  go_wp2_with (go_at_call 42; refine (within_any _ _ _ _).mono ?_; rintro e w1 ⟨rfl, hw1⟩; rw [hw1]; clear hw1 w1)
  go_quiet (fail)
  go_wp2
  (try simp only [Exit.inBlock, Exit.then])
  refine bodyPost_ret (results_tmp6 rfl _ _ _) rfl ?_
  exact ⟨⟨_, _, _, _, _, rfl, fun _ => by simp [takeI, leaveI, toI, thereI, goI, endsB]⟩, by first | exact bel _ _ _ | exact below_drewN (bel _ _ _) _ | exact below_drewN (below_drewN (bel _ _ _) _) _⟩

set_option maxRecDepth 100000 in
set_option maxHeartbeats 4000000 in
theorem eff_18 (mb mo : Nat) (m : Im) (f : Fc) (a b : Int) (w : World) (hm : Row w mb mo m.vals) (hi : ImIn w m) (hn : f.codeS.n = f.code.length) (hl1 : f.code.length ≤ 5000) (hs0 : 0 ≤ f.slots) (hs1 : f.slots ≤ 200) :
    Calls Tryd.prog 86 #[.pointer (some ⟨mb, mo, none⟩), .agg #[.string f.name, .int .i64 f.params, .int .i64 f.slots, .slice f.codeS.oa f.codeS.n f.codeS.c, .slice f.hsS.oa f.hsS.n f.hsS.c, .slice f.varsS.oa f.varsS.n f.varsS.c], .agg #[.int .i64 18, .int .i64 a, .int .i64 b]] w fun e w' => EffR m f ⟨18, a, b⟩ e ∧ Below w.heap.size w w' := by
  have c0 := (im_cells hm).1
  have c1 := (im_cells hm).2.1
  have c2 := (im_cells hm).2.2
  have l0 := hi.funcs.len
  have l1 := hi.consts.len
  have l2 := hi.classes.len
  have s0 := hi.funcs.small
  have s1 := hi.consts.small
  have s2 := hi.classes.small
  rw [List.length_map] at l0 l1 l2
  unfold Sl.val at c0 c1 c2
  rw [l0] at c0 s0
  rw [l1] at c1 s1
  rw [l2] at c2 s2
  have d0 := alloc3_cell c0
  have d1 := alloc3_cell c1
  have d2 := alloc3_cell c2
  have bel : ∀ o1 o2 o3, Below w.heap.size w (((w.alloc o1).alloc o2).alloc o3) := below_alloc3 (Below.refl _ _) (Nat.le_refl _)
  clear hm hi
  have hres : rightB m f ⟨18, a, b⟩ = CodeR.within a 0 ((f.code.length : Int) - 1) := by unfold rightB; simp
  unfold EffR
  rw [hres]
  go_enter Tryd.func86, Tryd.ntmps86
  go_wp2_with (go_at_call 42; refine (within_any _ _ _ _).mono ?_; rintro e w1 ⟨rfl, hw1⟩; rw [hw1]; clear hw1 w1)
  go_quiet ((go_at_call 42; exact Calls.quiet_of_same (within_any _ _ _ _)))
  go_wp2_with (go_at_call 42; refine (within_any _ _ _ _).mono ?_; rintro e w1 ⟨rfl, hw1⟩; rw [hw1]; clear hw1 w1)
  go_quiet (fail)
  go_wp2
  (try simp only [Exit.inBlock, Exit.then])
  refine bodyPost_ret (results_tmp6 rfl _ _ _) rfl ?_
  exact ⟨⟨_, _, _, _, _, rfl, fun _ => by simp [takeI, leaveI, toI, thereI, goI, endsB]⟩, by first | exact bel _ _ _ | exact below_drewN (bel _ _ _) _ | exact below_drewN (below_drewN (bel _ _ _) _) _⟩

end Go.Proofs.YthbkklnahhdgcaaDoor.CodeE1
