/-
  The contract of the document's effect (an operation each): is what an instruction names there, what it takes, leaves, where it goes.
-/
import Derived.Test.YthbkklnahhdgcaaDoorDMC
namespace Go.Proofs.YthbkklnahhdgcaaDoor.CodeE2
open Go Go.Proofs Go.RowKit Lib CodeR CodeA CodeB CodeEa

set_option maxRecDepth 100000 in
set_option maxHeartbeats 4000000 in
theorem eff_19 (mb mo : Nat) (m : Im) (f : Fc) (a b : Int) (w : World) (hm : Row w mb mo m.vals) (hi : ImIn w m) (hn : f.codeS.n = f.code.length) (hl1 : f.code.length ≤ 5000) (hs0 : 0 ≤ f.slots) (hs1 : f.slots ≤ 200) :
    Calls Tryd.prog 86 #[.pointer (some ⟨mb, mo, none⟩), .agg #[.string f.name, .int .i64 f.params, .int .i64 f.slots, .slice f.codeS.oa f.codeS.n f.codeS.c, .slice f.hsS.oa f.hsS.n f.hsS.c, .slice f.varsS.oa f.varsS.n f.varsS.c], .agg #[.int .i64 19, .int .i64 a, .int .i64 b]] w fun e w' => EffR m f ⟨19, a, b⟩ e ∧ Below w.heap.size w w' := by
  have c0 := (im_cells hm).1
  have c1 := (im_cells hm).2.1
  have c2 := (im_cells hm).2.2
  have l0 := hi.funcs.len
  have l1 := hi.consts.len
  have l2 := hi.classes.len
  have s0 := hi.funcs.small
  have s1 := hi.consts.small
  have s2 := hi.classes.small
  rw [List.length_map] at l0 l1 l2
  unfold Sl.val at c0 c1 c2
  rw [l0] at c0 s0
  rw [l1] at c1 s1
  rw [l2] at c2 s2
  have d0 := alloc3_cell c0
  have d1 := alloc3_cell c1
  have d2 := alloc3_cell c2
  have bel : ∀ o1 o2 o3, Below w.heap.size w (((w.alloc o1).alloc o2).alloc o3) := below_alloc3 (Below.refl _ _) (Nat.le_refl _)
  clear hm hi
  have hres : rightB m f ⟨19, a, b⟩ = true := by simp [rightB, CodeR.within] <;> omega
  unfold EffR
  rw [hres]
  go_enter Tryd.func86, Tryd.ntmps86
  go_wp2_with (go_at_call 42; refine (within_any _ _ _ _).mono ?_; rintro e w1 ⟨rfl, hw1⟩; rw [hw1]; clear hw1 w1)
  go_quiet ((go_at_call 42; exact Calls.quiet_of_same (within_any _ _ _ _)))
  go_wp2_with (go_at_call 42; refine (within_any _ _ _ _).mono ?_; rintro e w1 ⟨rfl, hw1⟩; rw [hw1]; clear hw1 w1)
  (try simp only [Exit.inBlock, Exit.then])
  refine bodyPost_ret (results_tmp6 rfl _ _ _) rfl ?_
  exact ⟨⟨_, _, _, _, _, rfl, fun _ => by simp [takeI, leaveI, toI, thereI, goI, endsB]⟩, by first | exact bel _ _ _ | exact below_drewN (bel _ _ _) _ | exact below_drewN (below_drewN (bel _ _ _) _) _⟩

set_option maxRecDepth 100000 in
set_option maxHeartbeats 4000000 in
theorem eff_20 (mb mo : Nat) (m : Im) (f : Fc) (a b : Int) (w : World) (hm : Row w mb mo m.vals) (hi : ImIn w m) (hn : f.codeS.n = f.code.length) (hl1 : f.code.length ≤ 5000) (hs0 : 0 ≤ f.slots) (hs1 : f.slots ≤ 200) :
    Calls Tryd.prog 86 #[.pointer (some ⟨mb, mo, none⟩), .agg #[.string f.name, .int .i64 f.params, .int .i64 f.slots, .slice f.codeS.oa f.codeS.n f.codeS.c, .slice f.hsS.oa f.hsS.n f.hsS.c, .slice f.varsS.oa f.varsS.n f.varsS.c], .agg #[.int .i64 20, .int .i64 a, .int .i64 b]] w fun e w' => EffR m f ⟨20, a, b⟩ e ∧ Below w.heap.size w w' := by
  have c0 := (im_cells hm).1
  have c1 := (im_cells hm).2.1
  have c2 := (im_cells hm).2.2
  have l0 := hi.funcs.len
  have l1 := hi.consts.len
  have l2 := hi.classes.len
  have s0 := hi.funcs.small
  have s1 := hi.consts.small
  have s2 := hi.classes.small
  rw [List.length_map] at l0 l1 l2
  unfold Sl.val at c0 c1 c2
  rw [l0] at c0 s0
  rw [l1] at c1 s1
  rw [l2] at c2 s2
  have d0 := alloc3_cell c0
  have d1 := alloc3_cell c1
  have d2 := alloc3_cell c2
  have bel : ∀ o1 o2 o3, Below w.heap.size w (((w.alloc o1).alloc o2).alloc o3) := below_alloc3 (Below.refl _ _) (Nat.le_refl _)
  clear hm hi
  have hres : rightB m f ⟨20, a, b⟩ = true := by simp [rightB, CodeR.within] <;> omega
  unfold EffR
  rw [hres]
  go_enter Tryd.func86, Tryd.ntmps86
  go_wp2_with (go_at_call 42; refine (within_any _ _ _ _).mono ?_; rintro e w1 ⟨rfl, hw1⟩; rw [hw1]; clear hw1 w1)
  go_quiet ((go_at_call 42; exact Calls.quiet_of_same (within_any _ _ _ _)))
  go_wp2_with (go_at_call 42; refine (within_any _ _ _ _).mono ?_; rintro e w1 ⟨rfl, hw1⟩; rw [hw1]; clear hw1 w1)
  (try simp only [Exit.inBlock, Exit.then])
  refine bodyPost_ret (results_tmp6 rfl _ _ _) rfl ?_
  exact ⟨⟨_, _, _, _, _, rfl, fun _ => by simp [takeI, leaveI, toI, thereI, goI, endsB]⟩, by first | exact bel _ _ _ | exact below_drewN (bel _ _ _) _ | exact below_drewN (below_drewN (bel _ _ _) _) _⟩

set_option maxRecDepth 100000 in
set_option maxHeartbeats 4000000 in
theorem eff_21 (mb mo : Nat) (m : Im) (f : Fc) (a b : Int) (w : World) (hm : Row w mb mo m.vals) (hi : ImIn w m) (hn : f.codeS.n = f.code.length) (hl1 : f.code.length ≤ 5000) (hs0 : 0 ≤ f.slots) (hs1 : f.slots ≤ 200) :
    Calls Tryd.prog 86 #[.pointer (some ⟨mb, mo, none⟩), .agg #[.string f.name, .int .i64 f.params, .int .i64 f.slots, .slice f.codeS.oa f.codeS.n f.codeS.c, .slice f.hsS.oa f.hsS.n f.hsS.c, .slice f.varsS.oa f.varsS.n f.varsS.c], .agg #[.int .i64 21, .int .i64 a, .int .i64 b]] w fun e w' => EffR m f ⟨21, a, b⟩ e ∧ Below w.heap.size w w' := by
  have c0 := (im_cells hm).1
  have c1 := (im_cells hm).2.1
  have c2 := (im_cells hm).2.2
  have l0 := hi.funcs.len
  have l1 := hi.consts.len
  have l2 := hi.classes.len
  have s0 := hi.funcs.small
  have s1 := hi.consts.small
  have s2 := hi.classes.small
  rw [List.length_map] at l0 l1 l2
  unfold Sl.val at c0 c1 c2
  rw [l0] at c0 s0
  rw [l1] at c1 s1
  rw [l2] at c2 s2
  have d0 := alloc3_cell c0
  have d1 := alloc3_cell c1
  have d2 := alloc3_cell c2
  have bel : ∀ o1 o2 o3, Below w.heap.size w (((w.alloc o1).alloc o2).alloc o3) := below_alloc3 (Below.refl _ _) (Nat.le_refl _)
  clear hm hi
  have hres : rightB m f ⟨21, a, b⟩ = true := by simp [rightB, CodeR.within] <;> omega
  unfold EffR
  rw [hres]
  go_enter Tryd.func86, Tryd.ntmps86
  go_wp2_with (go_at_call 42; refine (within_any _ _ _ _).mono ?_; rintro e w1 ⟨rfl, hw1⟩; rw [hw1]; clear hw1 w1)
  go_quiet ((go_at_call 42; exact Calls.quiet_of_same (within_any _ _ _ _)))
  go_wp2_with (go_at_call 42; refine (within_any _ _ _ _).mono ?_; rintro e w1 ⟨rfl, hw1⟩; rw [hw1]; clear hw1 w1)
  (try simp only [Exit.inBlock, Exit.then])
  refine bodyPost_ret (results_tmp6 rfl _ _ _) rfl ?_
  exact ⟨⟨_, _, _, _, _, rfl, fun _ => by simp [takeI, leaveI, toI, thereI, goI, endsB]⟩, by first | exact bel _ _ _ | exact below_drewN (bel _ _ _) _ | exact below_drewN (below_drewN (bel _ _ _) _) _⟩

set_option maxRecDepth 100000 in
set_option maxHeartbeats 4000000 in
theorem eff_22 (mb mo : Nat) (m : Im) (f : Fc) (a b : Int) (w : World) (hm : Row w mb mo m.vals) (hi : ImIn w m) (hn : f.codeS.n = f.code.length) (hl1 : f.code.length ≤ 5000) (hs0 : 0 ≤ f.slots) (hs1 : f.slots ≤ 200) :
    Calls Tryd.prog 86 #[.pointer (some ⟨mb, mo, none⟩), .agg #[.string f.name, .int .i64 f.params, .int .i64 f.slots, .slice f.codeS.oa f.codeS.n f.codeS.c, .slice f.hsS.oa f.hsS.n f.hsS.c, .slice f.varsS.oa f.varsS.n f.varsS.c], .agg #[.int .i64 22, .int .i64 a, .int .i64 b]] w fun e w' => EffR m f ⟨22, a, b⟩ e ∧ Below w.heap.size w w' := by
  have c0 := (im_cells hm).1
  have c1 := (im_cells hm).2.1
  have c2 := (im_cells hm).2.2
  have l0 := hi.funcs.len
  have l1 := hi.consts.len
  have l2 := hi.classes.len
  have s0 := hi.funcs.small
  have s1 := hi.consts.small
  have s2 := hi.classes.small
  rw [List.length_map] at l0 l1 l2
  unfold Sl.val at c0 c1 c2
  rw [l0] at c0 s0
  rw [l1] at c1 s1
  rw [l2] at c2 s2
  have d0 := alloc3_cell c0
  have d1 := alloc3_cell c1
  have d2 := alloc3_cell c2
  have bel : ∀ o1 o2 o3, Below w.heap.size w (((w.alloc o1).alloc o2).alloc o3) := below_alloc3 (Below.refl _ _) (Nat.le_refl _)
  clear hm hi
  have hres : rightB m f ⟨22, a, b⟩ = true := by simp [rightB, CodeR.within] <;> omega
  unfold EffR
  rw [hres]
  go_enter Tryd.func86, Tryd.ntmps86
  go_wp2_with (go_at_call 42; refine (within_any _ _ _ _).mono ?_; rintro e w1 ⟨rfl, hw1⟩; rw [hw1]; clear hw1 w1)
  go_quiet ((go_at_call 42; exact Calls.quiet_of_same (within_any _ _ _ _)))
  go_wp2_with (go_at_call 42; refine (within_any _ _ _ _).mono ?_; rintro e w1 ⟨rfl, hw1⟩; rw [hw1]; clear hw1 w1)
  (try simp only [Exit.inBlock, Exit.then])
  refine bodyPost_ret (results_tmp6 rfl _ _ _) rfl ?_
  exact ⟨⟨_, _, _, _, _, rfl, fun _ => by simp [takeI, leaveI, toI, thereI, goI, endsB]⟩, by first | exact bel _ _ _ | exact below_drewN (bel _ _ _) _ | exact below_drewN (below_drewN (bel _ _ _) _) _⟩

set_option maxRecDepth 100000 in
set_option maxHeartbeats 4000000 in
theorem eff_23 (mb mo : Nat) (m : Im) (f : Fc) (a b : Int) (w : World) (hm : Row w mb mo m.vals) (hi : ImIn w m) (hn : f.codeS.n = f.code.length) (hl1 : f.code.length ≤ 5000) (hs0 : 0 ≤ f.slots) (hs1 : f.slots ≤ 200) :
    Calls Tryd.prog 86 #[.pointer (some ⟨mb, mo, none⟩), .agg #[.string f.name, .int .i64 f.params, .int .i64 f.slots, .slice f.codeS.oa f.codeS.n f.codeS.c, .slice f.hsS.oa f.hsS.n f.hsS.c, .slice f.varsS.oa f.varsS.n f.varsS.c], .agg #[.int .i64 23, .int .i64 a, .int .i64 b]] w fun e w' => EffR m f ⟨23, a, b⟩ e ∧ Below w.heap.size w w' := by
  have c0 := (im_cells hm).1
  have c1 := (im_cells hm).2.1
  have c2 := (im_cells hm).2.2
  have l0 := hi.funcs.len
  have l1 := hi.consts.len
  have l2 := hi.classes.len
  have s0 := hi.funcs.small
  have s1 := hi.consts.small
  have s2 := hi.classes.small
  rw [List.length_map] at l0 l1 l2
  unfold Sl.val at c0 c1 c2
  rw [l0] at c0 s0
  rw [l1] at c1 s1
  rw [l2] at c2 s2
  have d0 := alloc3_cell c0
  have d1 := alloc3_cell c1
  have d2 := alloc3_cell c2
  have bel : ∀ o1 o2 o3, Below w.heap.size w (((w.alloc o1).alloc o2).alloc o3) := below_alloc3 (Below.refl _ _) (Nat.le_refl _)
  clear hm hi
  have hres : rightB m f ⟨23, a, b⟩ = true := by simp [rightB, CodeR.within] <;> omega
  unfold EffR
  rw [hres]
  go_enter Tryd.func86, Tryd.ntmps86
  go_wp2_with (go_at_call 42; refine (within_any _ _ _ _).mono ?_; rintro e w1 ⟨rfl, hw1⟩; rw [hw1]; clear hw1 w1)
  go_quiet ((go_at_call 42; exact Calls.quiet_of_same (within_any _ _ _ _)))
  go_wp2_with (go_at_call 42; refine (within_any _ _ _ _).mono ?_; rintro e w1 ⟨rfl, hw1⟩; rw [hw1]; clear hw1 w1)
  (try simp only [Exit.inBlock, Exit.then])
  refine bodyPost_ret (results_tmp6 rfl _ _ _) rfl ?_
  exact ⟨⟨_, _, _, _, _, rfl, fun _ => by simp [takeI, leaveI, toI, thereI, goI, endsB]⟩, by first | exact bel _ _ _ | exact below_drewN (bel _ _ _) _ | exact below_drewN (below_drewN (bel _ _ _) _) _⟩

set_option maxRecDepth 100000 in
set_option maxHeartbeats 4000000 in
theorem eff_24 (mb mo : Nat) (m : Im) (f : Fc) (a b : Int) (w : World) (hm : Row w mb mo m.vals) (hi : ImIn w m) (hn : f.codeS.n = f.code.length) (hl1 : f.code.length ≤ 5000) (hs0 : 0 ≤ f.slots) (hs1 : f.slots ≤ 200) :
    Calls Tryd.prog 86 #[.pointer (some ⟨mb, mo, none⟩), .agg #[.string f.name, .int .i64 f.params, .int .i64 f.slots, .slice f.codeS.oa f.codeS.n f.codeS.c, .slice f.hsS.oa f.hsS.n f.hsS.c, .slice f.varsS.oa f.varsS.n f.varsS.c], .agg #[.int .i64 24, .int .i64 a, .int .i64 b]] w fun e w' => EffR m f ⟨24, a, b⟩ e ∧ Below w.heap.size w w' := by
  have c0 := (im_cells hm).1
  have c1 := (im_cells hm).2.1
  have c2 := (im_cells hm).2.2
  have l0 := hi.funcs.len
  have l1 := hi.consts.len
  have l2 := hi.classes.len
  have s0 := hi.funcs.small
  have s1 := hi.consts.small
  have s2 := hi.classes.small
  rw [List.length_map] at l0 l1 l2
  unfold Sl.val at c0 c1 c2
  rw [l0] at c0 s0
  rw [l1] at c1 s1
  rw [l2] at c2 s2
  have d0 := alloc3_cell c0
  have d1 := alloc3_cell c1
  have d2 := alloc3_cell c2
  have bel : ∀ o1 o2 o3, Below w.heap.size w (((w.alloc o1).alloc o2).alloc o3) := below_alloc3 (Below.refl _ _) (Nat.le_refl _)
  clear hm hi
  have hres : rightB m f ⟨24, a, b⟩ = true := by simp [rightB, CodeR.within] <;> omega
  unfold EffR
  rw [hres]
  go_enter Tryd.func86, Tryd.ntmps86
  go_wp2_with (go_at_call 42; refine (within_any _ _ _ _).mono ?_; rintro e w1 ⟨rfl, hw1⟩; rw [hw1]; clear hw1 w1)
  go_quiet ((go_at_call 42; exact Calls.quiet_of_same (within_any _ _ _ _)))
  go_wp2_with (go_at_call 42; refine (within_any _ _ _ _).mono ?_; rintro e w1 ⟨rfl, hw1⟩; rw [hw1]; clear hw1 w1)
  (try simp only [Exit.inBlock, Exit.then])
  refine bodyPost_ret (results_tmp6 rfl _ _ _) rfl ?_
  exact ⟨⟨_, _, _, _, _, rfl, fun _ => by simp [takeI, leaveI, toI, thereI, goI, endsB]⟩, by first | exact bel _ _ _ | exact below_drewN (bel _ _ _) _ | exact below_drewN (below_drewN (bel _ _ _) _) _⟩

set_option maxRecDepth 100000 in
set_option maxHeartbeats 4000000 in
theorem eff_25 (mb mo : Nat) (m : Im) (f : Fc) (a b : Int) (w : World) (hm : Row w mb mo m.vals) (hi : ImIn w m) (hn : f.codeS.n = f.code.length) (hl1 : f.code.length ≤ 5000) (hs0 : 0 ≤ f.slots) (hs1 : f.slots ≤ 200) :
    Calls Tryd.prog 86 #[.pointer (some ⟨mb, mo, none⟩), .agg #[.string f.name, .int .i64 f.params, .int .i64 f.slots, .slice f.codeS.oa f.codeS.n f.codeS.c, .slice f.hsS.oa f.hsS.n f.hsS.c, .slice f.varsS.oa f.varsS.n f.varsS.c], .agg #[.int .i64 25, .int .i64 a, .int .i64 b]] w fun e w' => EffR m f ⟨25, a, b⟩ e ∧ Below w.heap.size w w' := by
  have c0 := (im_cells hm).1
  have c1 := (im_cells hm).2.1
  have c2 := (im_cells hm).2.2
  have l0 := hi.funcs.len
  have l1 := hi.consts.len
  have l2 := hi.classes.len
  have s0 := hi.funcs.small
  have s1 := hi.consts.small
  have s2 := hi.classes.small
  rw [List.length_map] at l0 l1 l2
  unfold Sl.val at c0 c1 c2
  rw [l0] at c0 s0
  rw [l1] at c1 s1
  rw [l2] at c2 s2
  have d0 := alloc3_cell c0
  have d1 := alloc3_cell c1
  have d2 := alloc3_cell c2
  have bel : ∀ o1 o2 o3, Below w.heap.size w (((w.alloc o1).alloc o2).alloc o3) := below_alloc3 (Below.refl _ _) (Nat.le_refl _)
  clear hm hi
  have hres : rightB m f ⟨25, a, b⟩ = true := by simp [rightB, CodeR.within] <;> omega
  unfold EffR
  rw [hres]
  go_enter Tryd.func86, Tryd.ntmps86
  go_wp2_with (go_at_call 42; refine (within_any _ _ _ _).mono ?_; rintro e w1 ⟨rfl, hw1⟩; rw [hw1]; clear hw1 w1)
  go_quiet ((go_at_call 42; exact Calls.quiet_of_same (within_any _ _ _ _)))
  go_wp2_with (go_at_call 42; refine (within_any _ _ _ _).mono ?_; rintro e w1 ⟨rfl, hw1⟩; rw [hw1]; clear hw1 w1)
  (try simp only [Exit.inBlock, Exit.then])
  refine bodyPost_ret (results_tmp6 rfl _ _ _) rfl ?_
  exact ⟨⟨_, _, _, _, _, rfl, fun _ => by simp [takeI, leaveI, toI, thereI, goI, endsB]⟩, by first | exact bel _ _ _ | exact below_drewN (bel _ _ _) _ | exact below_drewN (below_drewN (bel _ _ _) _) _⟩

set_option maxRecDepth 100000 in
set_option maxHeartbeats 4000000 in
theorem eff_26 (mb mo : Nat) (m : Im) (f : Fc) (a b : Int) (w : World) (hm : Row w mb mo m.vals) (hi : ImIn w m) (hn : f.codeS.n = f.code.length) (hl1 : f.code.length ≤ 5000) (hs0 : 0 ≤ f.slots) (hs1 : f.slots ≤ 200) :
    Calls Tryd.prog 86 #[.pointer (some ⟨mb, mo, none⟩), .agg #[.string f.name, .int .i64 f.params, .int .i64 f.slots, .slice f.codeS.oa f.codeS.n f.codeS.c, .slice f.hsS.oa f.hsS.n f.hsS.c, .slice f.varsS.oa f.varsS.n f.varsS.c], .agg #[.int .i64 26, .int .i64 a, .int .i64 b]] w fun e w' => EffR m f ⟨26, a, b⟩ e ∧ Below w.heap.size w w' := by
  have c0 := (im_cells hm).1
  have c1 := (im_cells hm).2.1
  have c2 := (im_cells hm).2.2
  have l0 := hi.funcs.len
  have l1 := hi.consts.len
  have l2 := hi.classes.len
  have s0 := hi.funcs.small
  have s1 := hi.consts.small
  have s2 := hi.classes.small
  rw [List.length_map] at l0 l1 l2
  unfold Sl.val at c0 c1 c2
  rw [l0] at c0 s0
  rw [l1] at c1 s1
  rw [l2] at c2 s2
  have d0 := alloc3_cell c0
  have d1 := alloc3_cell c1
  have d2 := alloc3_cell c2
  have bel : ∀ o1 o2 o3, Below w.heap.size w (((w.alloc o1).alloc o2).alloc o3) := below_alloc3 (Below.refl _ _) (Nat.le_refl _)
  clear hm hi
  have hres : rightB m f ⟨26, a, b⟩ = true := by simp [rightB, CodeR.within] <;> omega
  unfold EffR
  rw [hres]
  go_enter Tryd.func86, Tryd.ntmps86
  go_wp2_with (go_at_call 42; refine (within_any _ _ _ _).mono ?_; rintro e w1 ⟨rfl, hw1⟩; rw [hw1]; clear hw1 w1)
  go_quiet ((go_at_call 42; exact Calls.quiet_of_same (within_any _ _ _ _)))
  go_wp2_with (go_at_call 42; refine (within_any _ _ _ _).mono ?_; rintro e w1 ⟨rfl, hw1⟩; rw [hw1]; clear hw1 w1)
  (try simp only [Exit.inBlock, Exit.then])
  refine bodyPost_ret (results_tmp6 rfl _ _ _) rfl ?_
  exact ⟨⟨_, _, _, _, _, rfl, fun _ => by simp [takeI, leaveI, toI, thereI, goI, endsB]⟩, by first | exact bel _ _ _ | exact below_drewN (bel _ _ _) _ | exact below_drewN (below_drewN (bel _ _ _) _) _⟩

set_option maxRecDepth 100000 in
set_option maxHeartbeats 4000000 in
theorem eff_27 (mb mo : Nat) (m : Im) (f : Fc) (a b : Int) (w : World) (hm : Row w mb mo m.vals) (hi : ImIn w m) (hn : f.codeS.n = f.code.length) (hl1 : f.code.length ≤ 5000) (hs0 : 0 ≤ f.slots) (hs1 : f.slots ≤ 200) :
    Calls Tryd.prog 86 #[.pointer (some ⟨mb, mo, none⟩), .agg #[.string f.name, .int .i64 f.params, .int .i64 f.slots, .slice f.codeS.oa f.codeS.n f.codeS.c, .slice f.hsS.oa f.hsS.n f.hsS.c, .slice f.varsS.oa f.varsS.n f.varsS.c], .agg #[.int .i64 27, .int .i64 a, .int .i64 b]] w fun e w' => EffR m f ⟨27, a, b⟩ e ∧ Below w.heap.size w w' := by
  have c0 := (im_cells hm).1
  have c1 := (im_cells hm).2.1
  have c2 := (im_cells hm).2.2
  have l0 := hi.funcs.len
  have l1 := hi.consts.len
  have l2 := hi.classes.len
  have s0 := hi.funcs.small
  have s1 := hi.consts.small
  have s2 := hi.classes.small
  rw [List.length_map] at l0 l1 l2
  unfold Sl.val at c0 c1 c2
  rw [l0] at c0 s0
  rw [l1] at c1 s1
  rw [l2] at c2 s2
  have d0 := alloc3_cell c0
  have d1 := alloc3_cell c1
  have d2 := alloc3_cell c2
  have bel : ∀ o1 o2 o3, Below w.heap.size w (((w.alloc o1).alloc o2).alloc o3) := below_alloc3 (Below.refl _ _) (Nat.le_refl _)
  clear hm hi
  have hres : rightB m f ⟨27, a, b⟩ = true := by simp [rightB, CodeR.within] <;> omega
  unfold EffR
  rw [hres]
  go_enter Tryd.func86, Tryd.ntmps86
  go_wp2_with (go_at_call 42; refine (within_any _ _ _ _).mono ?_; rintro e w1 ⟨rfl, hw1⟩; rw [hw1]; clear hw1 w1)
  go_quiet ((go_at_call 42; exact Calls.quiet_of_same (within_any _ _ _ _)))
  go_wp2_with (go_at_call 42; refine (within_any _ _ _ _).mono ?_; rintro e w1 ⟨rfl, hw1⟩; rw [hw1]; clear hw1 w1)
  (try simp only [Exit.inBlock, Exit.then])
  refine bodyPost_ret (results_tmp6 rfl _ _ _) rfl ?_
  exact ⟨⟨_, _, _, _, _, rfl, fun _ => by simp [takeI, leaveI, toI, thereI, goI, endsB]⟩, by first | exact bel _ _ _ | exact below_drewN (bel _ _ _) _ | exact below_drewN (below_drewN (bel _ _ _) _) _⟩

set_option maxRecDepth 100000 in
set_option maxHeartbeats 4000000 in
theorem eff_28 (mb mo : Nat) (m : Im) (f : Fc) (a b : Int) (w : World) (hm : Row w mb mo m.vals) (hi : ImIn w m) (hn : f.codeS.n = f.code.length) (hl1 : f.code.length ≤ 5000) (hs0 : 0 ≤ f.slots) (hs1 : f.slots ≤ 200) :
    Calls Tryd.prog 86 #[.pointer (some ⟨mb, mo, none⟩), .agg #[.string f.name, .int .i64 f.params, .int .i64 f.slots, .slice f.codeS.oa f.codeS.n f.codeS.c, .slice f.hsS.oa f.hsS.n f.hsS.c, .slice f.varsS.oa f.varsS.n f.varsS.c], .agg #[.int .i64 28, .int .i64 a, .int .i64 b]] w fun e w' => EffR m f ⟨28, a, b⟩ e ∧ Below w.heap.size w w' := by
  have c0 := (im_cells hm).1
  have c1 := (im_cells hm).2.1
  have c2 := (im_cells hm).2.2
  have l0 := hi.funcs.len
  have l1 := hi.consts.len
  have l2 := hi.classes.len
  have s0 := hi.funcs.small
  have s1 := hi.consts.small
  have s2 := hi.classes.small
  rw [List.length_map] at l0 l1 l2
  unfold Sl.val at c0 c1 c2
  rw [l0] at c0 s0
  rw [l1] at c1 s1
  rw [l2] at c2 s2
  have d0 := alloc3_cell c0
  have d1 := alloc3_cell c1
  have d2 := alloc3_cell c2
  have bel : ∀ o1 o2 o3, Below w.heap.size w (((w.alloc o1).alloc o2).alloc o3) := below_alloc3 (Below.refl _ _) (Nat.le_refl _)
  clear hm hi
  have hres : rightB m f ⟨28, a, b⟩ = true := by simp [rightB, CodeR.within] <;> omega
  unfold EffR
  rw [hres]
  go_enter Tryd.func86, Tryd.ntmps86
  go_wp2_with (go_at_call 42; refine (within_any _ _ _ _).mono ?_; rintro e w1 ⟨rfl, hw1⟩; rw [hw1]; clear hw1 w1)
  go_quiet ((go_at_call 42; exact Calls.quiet_of_same (within_any _ _ _ _)))
  go_wp2_with (go_at_call 42; refine (within_any _ _ _ _).mono ?_; rintro e w1 ⟨rfl, hw1⟩; rw [hw1]; clear hw1 w1)
  (try simp only [Exit.inBlock, Exit.then])
  refine bodyPost_ret (results_tmp6 rfl _ _ _) rfl ?_
  exact ⟨⟨_, _, _, _, _, rfl, fun _ => by simp [takeI, leaveI, toI, thereI, goI, endsB]⟩, by first | exact bel _ _ _ | exact below_drewN (bel _ _ _) _ | exact below_drewN (below_drewN (bel _ _ _) _) _⟩

set_option maxRecDepth 100000 in
set_option maxHeartbeats 4000000 in
theorem eff_29 (mb mo : Nat) (m : Im) (f : Fc) (a b : Int) (w : World) (hm : Row w mb mo m.vals) (hi : ImIn w m) (hn : f.codeS.n = f.code.length) (hl1 : f.code.length ≤ 5000) (hs0 : 0 ≤ f.slots) (hs1 : f.slots ≤ 200) :
    Calls Tryd.prog 86 #[.pointer (some ⟨mb, mo, none⟩), .agg #[.string f.name, .int .i64 f.params, .int .i64 f.slots, .slice f.codeS.oa f.codeS.n f.codeS.c, .slice f.hsS.oa f.hsS.n f.hsS.c, .slice f.varsS.oa f.varsS.n f.varsS.c], .agg #[.int .i64 29, .int .i64 a, .int .i64 b]] w fun e w' => EffR m f ⟨29, a, b⟩ e ∧ Below w.heap.size w w' := by
  have c0 := (im_cells hm).1
  have c1 := (im_cells hm).2.1
  have c2 := (im_cells hm).2.2
  have l0 := hi.funcs.len
  have l1 := hi.consts.len
  have l2 := hi.classes.len
  have s0 := hi.funcs.small
  have s1 := hi.consts.small
  have s2 := hi.classes.small
  rw [List.length_map] at l0 l1 l2
  unfold Sl.val at c0 c1 c2
  rw [l0] at c0 s0
  rw [l1] at c1 s1
  rw [l2] at c2 s2
  have d0 := alloc3_cell c0
  have d1 := alloc3_cell c1
  have d2 := alloc3_cell c2
  have bel : ∀ o1 o2 o3, Below w.heap.size w (((w.alloc o1).alloc o2).alloc o3) := below_alloc3 (Below.refl _ _) (Nat.le_refl _)
  clear hm hi
  have hres : rightB m f ⟨29, a, b⟩ = CodeR.within a 0 50 := by unfold rightB; simp
  unfold EffR
  rw [hres]
  go_enter Tryd.func86, Tryd.ntmps86
  go_wp2_with (go_at_call 42; refine (within_any _ _ _ _).mono ?_; rintro e w1 ⟨rfl, hw1⟩; rw [hw1]; clear hw1 w1)
  go_quiet ((go_at_call 42; exact Calls.quiet_of_same (within_any _ _ _ _)))
  go_wp2_with (go_at_call 42; refine (within_any _ _ _ _).mono ?_; rintro e w1 ⟨rfl, hw1⟩; rw [hw1]; clear hw1 w1)
  go_quiet ((go_at_call 42; refine (within_any _ _ _ _).mono ?_; rintro e w1 ⟨rfl, hw1⟩; first | exact ⟨rfl, _, hw1⟩ | exact ⟨rfl, _, hw1.trans World.drewN_drewN.symm⟩))
  go_wp2
  (try simp only [Exit.inBlock, Exit.then])
  refine bodyPost_ret (results_tmp6 rfl _ _ _) rfl ?_
  exact ⟨⟨_, _, _, _, _, rfl, fun _ => by simp [takeI, leaveI, toI, thereI, goI, endsB]⟩, by first | exact bel _ _ _ | exact below_drewN (bel _ _ _) _ | exact below_drewN (below_drewN (bel _ _ _) _) _⟩

set_option maxRecDepth 100000 in
set_option maxHeartbeats 4000000 in
theorem eff_30 (mb mo : Nat) (m : Im) (f : Fc) (a b : Int) (w : World) (hm : Row w mb mo m.vals) (hi : ImIn w m) (hn : f.codeS.n = f.code.length) (hl1 : f.code.length ≤ 5000) (hs0 : 0 ≤ f.slots) (hs1 : f.slots ≤ 200) :
    Calls Tryd.prog 86 #[.pointer (some ⟨mb, mo, none⟩), .agg #[.string f.name, .int .i64 f.params, .int .i64 f.slots, .slice f.codeS.oa f.codeS.n f.codeS.c, .slice f.hsS.oa f.hsS.n f.hsS.c, .slice f.varsS.oa f.varsS.n f.varsS.c], .agg #[.int .i64 30, .int .i64 a, .int .i64 b]] w fun e w' => EffR m f ⟨30, a, b⟩ e ∧ Below w.heap.size w w' := by
  have c0 := (im_cells hm).1
  have c1 := (im_cells hm).2.1
  have c2 := (im_cells hm).2.2
  have l0 := hi.funcs.len
  have l1 := hi.consts.len
  have l2 := hi.classes.len
  have s0 := hi.funcs.small
  have s1 := hi.consts.small
  have s2 := hi.classes.small
  rw [List.length_map] at l0 l1 l2
  unfold Sl.val at c0 c1 c2
  rw [l0] at c0 s0
  rw [l1] at c1 s1
  rw [l2] at c2 s2
  have d0 := alloc3_cell c0
  have d1 := alloc3_cell c1
  have d2 := alloc3_cell c2
  have bel : ∀ o1 o2 o3, Below w.heap.size w (((w.alloc o1).alloc o2).alloc o3) := below_alloc3 (Below.refl _ _) (Nat.le_refl _)
  clear hm hi
  have hres : rightB m f ⟨30, a, b⟩ = true := by simp [rightB, CodeR.within] <;> omega
  unfold EffR
  rw [hres]
  go_enter Tryd.func86, Tryd.ntmps86
  go_wp2_with (go_at_call 42; refine (within_any _ _ _ _).mono ?_; rintro e w1 ⟨rfl, hw1⟩; rw [hw1]; clear hw1 w1)
  go_quiet ((go_at_call 42; exact Calls.quiet_of_same (within_any _ _ _ _)))
  go_wp2_with (go_at_call 42; refine (within_any _ _ _ _).mono ?_; rintro e w1 ⟨rfl, hw1⟩; rw [hw1]; clear hw1 w1)
  (try simp only [Exit.inBlock, Exit.then])
  refine bodyPost_ret (results_tmp6 rfl _ _ _) rfl ?_
  exact ⟨⟨_, _, _, _, _, rfl, fun _ => by simp [takeI, leaveI, toI, thereI, goI, endsB]⟩, by first | exact bel _ _ _ | exact below_drewN (bel _ _ _) _ | exact below_drewN (below_drewN (bel _ _ _) _) _⟩

set_option maxRecDepth 100000 in
set_option maxHeartbeats 4000000 in
theorem eff_31 (mb mo : Nat) (m : Im) (f : Fc) (a b : Int) (w : World) (hm : Row w mb mo m.vals) (hi : ImIn w m) (hn : f.codeS.n = f.code.length) (hl1 : f.code.length ≤ 5000) (hs0 : 0 ≤ f.slots) (hs1 : f.slots ≤ 200) :
    Calls Tryd.prog 86 #[.pointer (some ⟨mb, mo, none⟩), .agg #[.string f.name, .int .i64 f.params, .int .i64 f.slots, .slice f.codeS.oa f.codeS.n f.codeS.c, .slice f.hsS.oa f.hsS.n f.hsS.c, .slice f.varsS.oa f.varsS.n f.varsS.c], .agg #[.int .i64 31, .int .i64 a, .int .i64 b]] w fun e w' => EffR m f ⟨31, a, b⟩ e ∧ Below w.heap.size w w' := by
  have c0 := (im_cells hm).1
  have c1 := (im_cells hm).2.1
  have c2 := (im_cells hm).2.2
  have l0 := hi.funcs.len
  have l1 := hi.consts.len
  have l2 := hi.classes.len
  have s0 := hi.funcs.small
  have s1 := hi.consts.small
  have s2 := hi.classes.small
  rw [List.length_map] at l0 l1 l2
  unfold Sl.val at c0 c1 c2
  rw [l0] at c0 s0
  rw [l1] at c1 s1
  rw [l2] at c2 s2
  have d0 := alloc3_cell c0
  have d1 := alloc3_cell c1
  have d2 := alloc3_cell c2
  have bel : ∀ o1 o2 o3, Below w.heap.size w (((w.alloc o1).alloc o2).alloc o3) := below_alloc3 (Below.refl _ _) (Nat.le_refl _)
  clear hm hi
  have hres : rightB m f ⟨31, a, b⟩ = true := by simp [rightB, CodeR.within] <;> omega
  unfold EffR
  rw [hres]
  go_enter Tryd.func86, Tryd.ntmps86
  go_wp2_with (go_at_call 42; refine (within_any _ _ _ _).mono ?_; rintro e w1 ⟨rfl, hw1⟩; rw [hw1]; clear hw1 w1)
  go_quiet ((go_at_call 42; exact Calls.quiet_of_same (within_any _ _ _ _)))
  go_wp2_with (go_at_call 42; refine (within_any _ _ _ _).mono ?_; rintro e w1 ⟨rfl, hw1⟩; rw [hw1]; clear hw1 w1)
  (try simp only [Exit.inBlock, Exit.then])
  refine bodyPost_ret (results_tmp6 rfl _ _ _) rfl ?_
  exact ⟨⟨_, _, _, _, _, rfl, fun _ => by simp [takeI, leaveI, toI, thereI, goI, endsB]⟩, by first | exact bel _ _ _ | exact below_drewN (bel _ _ _) _ | exact below_drewN (below_drewN (bel _ _ _) _) _⟩

set_option maxRecDepth 100000 in
set_option maxHeartbeats 4000000 in
theorem eff_32 (mb mo : Nat) (m : Im) (f : Fc) (a b : Int) (w : World) (hm : Row w mb mo m.vals) (hi : ImIn w m) (hn : f.codeS.n = f.code.length) (hl1 : f.code.length ≤ 5000) (hs0 : 0 ≤ f.slots) (hs1 : f.slots ≤ 200) :
    Calls Tryd.prog 86 #[.pointer (some ⟨mb, mo, none⟩), .agg #[.string f.name, .int .i64 f.params, .int .i64 f.slots, .slice f.codeS.oa f.codeS.n f.codeS.c, .slice f.hsS.oa f.hsS.n f.hsS.c, .slice f.varsS.oa f.varsS.n f.varsS.c], .agg #[.int .i64 32, .int .i64 a, .int .i64 b]] w fun e w' => EffR m f ⟨32, a, b⟩ e ∧ Below w.heap.size w w' := by
  have c0 := (im_cells hm).1
  have c1 := (im_cells hm).2.1
  have c2 := (im_cells hm).2.2
  have l0 := hi.funcs.len
  have l1 := hi.consts.len
  have l2 := hi.classes.len
  have s0 := hi.funcs.small
  have s1 := hi.consts.small
  have s2 := hi.classes.small
  rw [List.length_map] at l0 l1 l2
  unfold Sl.val at c0 c1 c2
  rw [l0] at c0 s0
  rw [l1] at c1 s1
  rw [l2] at c2 s2
  have d0 := alloc3_cell c0
  have d1 := alloc3_cell c1
  have d2 := alloc3_cell c2
  have bel : ∀ o1 o2 o3, Below w.heap.size w (((w.alloc o1).alloc o2).alloc o3) := below_alloc3 (Below.refl _ _) (Nat.le_refl _)
  have hT : ∀ o1 o2 o3 n, Calls Tryd.prog 102 #[.int .i64 a, .pointer (some ⟨w.heap.size, 0, none⟩)] ((((w.alloc (.cells #[.pointer (some ⟨mb, mo, none⟩)] o1)).alloc o2).alloc o3).drewN n) fun e w' => e = .returned (.bool (m.textB a)) ∧ w' = (((w.alloc (.cells #[.pointer (some ⟨mb, mo, none⟩)] o1)).alloc o2).alloc o3).drewN n := by
    intro o1 o2 o3 n
    refine rtext_any mb mo w.heap.size m a _ (hm.below (below_drewN (bel _ _ _) n) (Nat.le_refl _)) (hi.below (below_drewN (bel _ _ _) n) (Nat.le_refl _)) ?_
    exact alloc_cell (alloc_cell (cell_of_one (heap_alloc_new w _)) o2) o3
  clear hm hi
  have hres : rightB m f ⟨32, a, b⟩ = m.textB a := by unfold rightB; simp
  unfold EffR
  rw [hres]
  go_enter Tryd.func86, Tryd.ntmps86
  go_wp2_with (go_at_call 42; refine (within_any _ _ _ _).mono ?_; rintro e w1 ⟨rfl, hw1⟩; rw [hw1]; clear hw1 w1)
  go_quiet ((go_at_call 42; exact Calls.quiet_of_same (within_any _ _ _ _)))
  go_wp2_with (first | (go_at_call 42; refine (within_any _ _ _ _).mono ?_; rintro e w1 ⟨rfl, hw1⟩; rw [hw1]; clear hw1 w1) | (go_at_call 102; refine (hT _ _ _ _).mono ?_; rintro e w1 ⟨rfl, hw1⟩; rw [hw1]; clear hw1 w1))
  (try simp only [Exit.inBlock, Exit.then])
  refine bodyPost_ret (results_tmp6 rfl _ _ _) rfl ?_
  exact ⟨⟨_, _, _, _, _, rfl, fun _ => by simp [takeI, leaveI, toI, thereI, goI, endsB]⟩, by first | exact bel _ _ _ | exact below_drewN (bel _ _ _) _ | exact below_drewN (below_drewN (bel _ _ _) _) _⟩

set_option maxRecDepth 100000 in
set_option maxHeartbeats 4000000 in
theorem eff_33 (mb mo : Nat) (m : Im) (f : Fc) (a b : Int) (w : World) (hm : Row w mb mo m.vals) (hi : ImIn w m) (hn : f.codeS.n = f.code.length) (hl1 : f.code.length ≤ 5000) (hs0 : 0 ≤ f.slots) (hs1 : f.slots ≤ 200) :
    Calls Tryd.prog 86 #[.pointer (some ⟨mb, mo, none⟩), .agg #[.string f.name, .int .i64 f.params, .int .i64 f.slots, .slice f.codeS.oa f.codeS.n f.codeS.c, .slice f.hsS.oa f.hsS.n f.hsS.c, .slice f.varsS.oa f.varsS.n f.varsS.c], .agg #[.int .i64 33, .int .i64 a, .int .i64 b]] w fun e w' => EffR m f ⟨33, a, b⟩ e ∧ Below w.heap.size w w' := by
  have c0 := (im_cells hm).1
  have c1 := (im_cells hm).2.1
  have c2 := (im_cells hm).2.2
  have l0 := hi.funcs.len
  have l1 := hi.consts.len
  have l2 := hi.classes.len
  have s0 := hi.funcs.small
  have s1 := hi.consts.small
  have s2 := hi.classes.small
  rw [List.length_map] at l0 l1 l2
  unfold Sl.val at c0 c1 c2
  rw [l0] at c0 s0
  rw [l1] at c1 s1
  rw [l2] at c2 s2
  have d0 := alloc3_cell c0
  have d1 := alloc3_cell c1
  have d2 := alloc3_cell c2
  have bel : ∀ o1 o2 o3, Below w.heap.size w (((w.alloc o1).alloc o2).alloc o3) := below_alloc3 (Below.refl _ _) (Nat.le_refl _)
  have hT : ∀ o1 o2 o3 n, Calls Tryd.prog 102 #[.int .i64 a, .pointer (some ⟨w.heap.size, 0, none⟩)] ((((w.alloc (.cells #[.pointer (some ⟨mb, mo, none⟩)] o1)).alloc o2).alloc o3).drewN n) fun e w' => e = .returned (.bool (m.textB a)) ∧ w' = (((w.alloc (.cells #[.pointer (some ⟨mb, mo, none⟩)] o1)).alloc o2).alloc o3).drewN n := by
    intro o1 o2 o3 n
    refine rtext_any mb mo w.heap.size m a _ (hm.below (below_drewN (bel _ _ _) n) (Nat.le_refl _)) (hi.below (below_drewN (bel _ _ _) n) (Nat.le_refl _)) ?_
    exact alloc_cell (alloc_cell (cell_of_one (heap_alloc_new w _)) o2) o3
  clear hm hi
  have hres : rightB m f ⟨33, a, b⟩ = m.textB a := by unfold rightB; simp
  unfold EffR
  rw [hres]
  go_enter Tryd.func86, Tryd.ntmps86
  go_wp2_with (go_at_call 42; refine (within_any _ _ _ _).mono ?_; rintro e w1 ⟨rfl, hw1⟩; rw [hw1]; clear hw1 w1)
  go_quiet ((go_at_call 42; exact Calls.quiet_of_same (within_any _ _ _ _)))
  go_wp2_with (first | (go_at_call 42; refine (within_any _ _ _ _).mono ?_; rintro e w1 ⟨rfl, hw1⟩; rw [hw1]; clear hw1 w1) | (go_at_call 102; refine (hT _ _ _ _).mono ?_; rintro e w1 ⟨rfl, hw1⟩; rw [hw1]; clear hw1 w1))
  (try simp only [Exit.inBlock, Exit.then])
  refine bodyPost_ret (results_tmp6 rfl _ _ _) rfl ?_
  exact ⟨⟨_, _, _, _, _, rfl, fun _ => by simp [takeI, leaveI, toI, thereI, goI, endsB]⟩, by first | exact bel _ _ _ | exact below_drewN (bel _ _ _) _ | exact below_drewN (below_drewN (bel _ _ _) _) _⟩

set_option maxRecDepth 100000 in
set_option maxHeartbeats 4000000 in
theorem eff_36 (mb mo : Nat) (m : Im) (f : Fc) (a b : Int) (w : World) (hm : Row w mb mo m.vals) (hi : ImIn w m) (hn : f.codeS.n = f.code.length) (hl1 : f.code.length ≤ 5000) (hs0 : 0 ≤ f.slots) (hs1 : f.slots ≤ 200) :
    Calls Tryd.prog 86 #[.pointer (some ⟨mb, mo, none⟩), .agg #[.string f.name, .int .i64 f.params, .int .i64 f.slots, .slice f.codeS.oa f.codeS.n f.codeS.c, .slice f.hsS.oa f.hsS.n f.hsS.c, .slice f.varsS.oa f.varsS.n f.varsS.c], .agg #[.int .i64 36, .int .i64 a, .int .i64 b]] w fun e w' => EffR m f ⟨36, a, b⟩ e ∧ Below w.heap.size w w' := by
  have c0 := (im_cells hm).1
  have c1 := (im_cells hm).2.1
  have c2 := (im_cells hm).2.2
  have l0 := hi.funcs.len
  have l1 := hi.consts.len
  have l2 := hi.classes.len
  have s0 := hi.funcs.small
  have s1 := hi.consts.small
  have s2 := hi.classes.small
  rw [List.length_map] at l0 l1 l2
  unfold Sl.val at c0 c1 c2
  rw [l0] at c0 s0
  rw [l1] at c1 s1
  rw [l2] at c2 s2
  have d0 := alloc3_cell c0
  have d1 := alloc3_cell c1
  have d2 := alloc3_cell c2
  have bel : ∀ o1 o2 o3, Below w.heap.size w (((w.alloc o1).alloc o2).alloc o3) := below_alloc3 (Below.refl _ _) (Nat.le_refl _)
  clear hm hi
  cases hin : CodeR.within a 0 ((m.classes.length : Int) - 1)
  · have hres : rightB m f ⟨36, a, b⟩ = false := by simp [rightB, hin]
    unfold EffR
    rw [hres]
    have hwi : ∀ u, Calls Tryd.prog 42 #[.int .i64 a, .int .i64 0, .int .i64 ((m.classes.length : Int) - 1)] u fun e w' => e = .returned (.bool false) ∧ w' = u := by
      intro u
      have h := within_any a 0 ((m.classes.length : Int) - 1) u
      rw [hin] at h
      exact h
    go_enter Tryd.func86, Tryd.ntmps86
    go_wp2_with (go_at_call 42; refine (within_any _ _ _ _).mono ?_; rintro e w1 ⟨rfl, hw1⟩; rw [hw1]; clear hw1 w1)
    go_quiet ((go_at_call 42; exact Calls.quiet_of_same (within_any _ _ _ _)))
    go_wp2_with (go_at_call 42; refine (within_any _ _ _ _).mono ?_; rintro e w1 ⟨rfl, hw1⟩; rw [hw1]; clear hw1 w1)
    go_quiet ((go_at_call 42; refine (hwi _).mono ?_; rintro e w1 ⟨rfl, hw1⟩; first | exact ⟨rfl, _, hw1⟩ | exact ⟨rfl, _, hw1.trans World.drewN_drewN.symm⟩))
    go_wp2
    (try simp only [Exit.inBlock, Exit.then])
    refine bodyPost_ret (results_tmp6 rfl _ _ _) rfl ?_
    exact ⟨⟨_, _, _, _, _, rfl, fun h => by cases h⟩, by first | exact bel _ _ _ | exact below_drewN (bel _ _ _) _ | exact below_drewN (below_drewN (bel _ _ _) _) _⟩
  · have hres : rightB m f ⟨36, a, b⟩ = CodeR.within b 0 50 := by simp [rightB, fewB, hin]
    unfold EffR
    rw [hres]
    have hwi : ∀ u, Calls Tryd.prog 42 #[.int .i64 a, .int .i64 0, .int .i64 ((m.classes.length : Int) - 1)] u fun e w' => e = .returned (.bool true) ∧ w' = u := by
      intro u
      have h := within_any a 0 ((m.classes.length : Int) - 1) u
      rw [hin] at h
      exact h
    go_enter Tryd.func86, Tryd.ntmps86
    go_wp2_with (go_at_call 42; refine (within_any _ _ _ _).mono ?_; rintro e w1 ⟨rfl, hw1⟩; rw [hw1]; clear hw1 w1)
    go_quiet ((go_at_call 42; exact Calls.quiet_of_same (within_any _ _ _ _)))
    go_wp2_with (go_at_call 42; refine (within_any _ _ _ _).mono ?_; rintro e w1 ⟨rfl, hw1⟩; rw [hw1]; clear hw1 w1)
    go_quiet ((go_at_call 42; refine (hwi _).mono ?_; rintro e w1 ⟨rfl, hw1⟩; first | exact ⟨rfl, _, hw1⟩ | exact ⟨rfl, _, hw1.trans World.drewN_drewN.symm⟩))
    go_wp2
    (try simp only [Exit.inBlock, Exit.then])
    refine bodyPost_ret (results_tmp6 rfl _ _ _) rfl ?_
    exact ⟨⟨_, _, _, _, _, rfl, fun _ => by simp [takeI, leaveI, toI, thereI, goI, endsB]⟩, by first | exact bel _ _ _ | exact below_drewN (bel _ _ _) _ | exact below_drewN (below_drewN (bel _ _ _) _) _⟩

set_option maxRecDepth 100000 in
set_option maxHeartbeats 4000000 in
theorem eff_37 (mb mo : Nat) (m : Im) (f : Fc) (a b : Int) (w : World) (hm : Row w mb mo m.vals) (hi : ImIn w m) (hn : f.codeS.n = f.code.length) (hl1 : f.code.length ≤ 5000) (hs0 : 0 ≤ f.slots) (hs1 : f.slots ≤ 200) :
    Calls Tryd.prog 86 #[.pointer (some ⟨mb, mo, none⟩), .agg #[.string f.name, .int .i64 f.params, .int .i64 f.slots, .slice f.codeS.oa f.codeS.n f.codeS.c, .slice f.hsS.oa f.hsS.n f.hsS.c, .slice f.varsS.oa f.varsS.n f.varsS.c], .agg #[.int .i64 37, .int .i64 a, .int .i64 b]] w fun e w' => EffR m f ⟨37, a, b⟩ e ∧ Below w.heap.size w w' := by
  have c0 := (im_cells hm).1
  have c1 := (im_cells hm).2.1
  have c2 := (im_cells hm).2.2
  have l0 := hi.funcs.len
  have l1 := hi.consts.len
  have l2 := hi.classes.len
  have s0 := hi.funcs.small
  have s1 := hi.consts.small
  have s2 := hi.classes.small
  rw [List.length_map] at l0 l1 l2
  unfold Sl.val at c0 c1 c2
  rw [l0] at c0 s0
  rw [l1] at c1 s1
  rw [l2] at c2 s2
  have d0 := alloc3_cell c0
  have d1 := alloc3_cell c1
  have d2 := alloc3_cell c2
  have bel : ∀ o1 o2 o3, Below w.heap.size w (((w.alloc o1).alloc o2).alloc o3) := below_alloc3 (Below.refl _ _) (Nat.le_refl _)
  clear hm hi
  by_cases hb : 0 ≤ b ∧ b ≤ 50
  · obtain ⟨hb0, hb1⟩ := hb
    have hw : CodeR.within b 0 50 = true := by simp [CodeR.within]; omega
    have hres : rightB m f ⟨37, a, b⟩ = CodeR.within b 0 50 := by simp [rightB, fewB]
    unfold EffR
    rw [hres]
    clear hw
    go_enter Tryd.func86, Tryd.ntmps86
    go_wp2_with (go_at_call 42; refine (within_any _ _ _ _).mono ?_; rintro e w1 ⟨rfl, hw1⟩; rw [hw1]; clear hw1 w1)
    go_quiet ((go_at_call 42; exact Calls.quiet_of_same (within_any _ _ _ _)))
    go_wp2_with (go_at_call 42; refine (within_any _ _ _ _).mono ?_; rintro e w1 ⟨rfl, hw1⟩; rw [hw1]; clear hw1 w1)
    go_quiet (fail)
    go_wp2
    (try simp only [Exit.inBlock, Exit.then])
    refine bodyPost_ret (results_tmp6 rfl _ _ _) rfl ?_
    exact ⟨⟨_, _, _, _, _, rfl, fun _ => by simp [takeI, leaveI, toI, thereI, goI, endsB]⟩, by first | exact bel _ _ _ | exact below_drewN (bel _ _ _) _ | exact below_drewN (below_drewN (bel _ _ _) _) _⟩
  · have hw : CodeR.within b 0 50 = false := by unfold CodeR.within; rw [Bool.and_eq_false_iff, decide_eq_false_iff_not, decide_eq_false_iff_not]; omega
    have hres : rightB m f ⟨37, a, b⟩ = false := by simp [rightB, fewB, hw]
    unfold EffR
    rw [hres]
    go_enter Tryd.func86, Tryd.ntmps86
    go_wp2_with (go_at_call 42; refine (within_any _ _ _ _).mono ?_; rintro e w1 ⟨rfl, hw1⟩; rw [hw1]; clear hw1 w1)
    go_quiet ((go_at_call 42; exact Calls.quiet_of_same (within_any _ _ _ _)))
    go_wp2_with (go_at_call 42; refine (within_any _ _ _ _).mono ?_; rintro e w1 ⟨rfl, hw1⟩; rw [hw1]; clear hw1 w1)
    go_quiet (fail)
    go_wp2
    (try simp only [Exit.inBlock, Exit.then])
    refine bodyPost_ret (results_tmp6 rfl _ _ _) rfl ?_
    exact ⟨⟨_, _, _, _, _, rfl, fun h => by cases h⟩, by first | exact bel _ _ _ | exact below_drewN (bel _ _ _) _ | exact below_drewN (below_drewN (bel _ _ _) _) _⟩

set_option maxRecDepth 100000 in
set_option maxHeartbeats 4000000 in
theorem eff_40 (mb mo : Nat) (m : Im) (f : Fc) (a b : Int) (w : World) (hm : Row w mb mo m.vals) (hi : ImIn w m) (hn : f.codeS.n = f.code.length) (hl1 : f.code.length ≤ 5000) (hs0 : 0 ≤ f.slots) (hs1 : f.slots ≤ 200) :
    Calls Tryd.prog 86 #[.pointer (some ⟨mb, mo, none⟩), .agg #[.string f.name, .int .i64 f.params, .int .i64 f.slots, .slice f.codeS.oa f.codeS.n f.codeS.c, .slice f.hsS.oa f.hsS.n f.hsS.c, .slice f.varsS.oa f.varsS.n f.varsS.c], .agg #[.int .i64 40, .int .i64 a, .int .i64 b]] w fun e w' => EffR m f ⟨40, a, b⟩ e ∧ Below w.heap.size w w' := by
  have c0 := (im_cells hm).1
  have c1 := (im_cells hm).2.1
  have c2 := (im_cells hm).2.2
  have l0 := hi.funcs.len
  have l1 := hi.consts.len
  have l2 := hi.classes.len
  have s0 := hi.funcs.small
  have s1 := hi.consts.small
  have s2 := hi.classes.small
  rw [List.length_map] at l0 l1 l2
  unfold Sl.val at c0 c1 c2
  rw [l0] at c0 s0
  rw [l1] at c1 s1
  rw [l2] at c2 s2
  have d0 := alloc3_cell c0
  have d1 := alloc3_cell c1
  have d2 := alloc3_cell c2
  have bel : ∀ o1 o2 o3, Below w.heap.size w (((w.alloc o1).alloc o2).alloc o3) := below_alloc3 (Below.refl _ _) (Nat.le_refl _)
  clear hm hi
  have hres : rightB m f ⟨40, a, b⟩ = true := by simp [rightB, CodeR.within] <;> omega
  unfold EffR
  rw [hres]
  go_enter Tryd.func86, Tryd.ntmps86
  go_wp2_with (go_at_call 42; refine (within_any _ _ _ _).mono ?_; rintro e w1 ⟨rfl, hw1⟩; rw [hw1]; clear hw1 w1)
  go_quiet ((go_at_call 42; exact Calls.quiet_of_same (within_any _ _ _ _)))
  go_wp2_with (go_at_call 42; refine (within_any _ _ _ _).mono ?_; rintro e w1 ⟨rfl, hw1⟩; rw [hw1]; clear hw1 w1)
  (try simp only [Exit.inBlock, Exit.then])
  refine bodyPost_ret (results_tmp6 rfl _ _ _) rfl ?_
  exact ⟨⟨_, _, _, _, _, rfl, fun _ => by simp [takeI, leaveI, toI, thereI, goI, endsB]⟩, by first | exact bel _ _ _ | exact below_drewN (bel _ _ _) _ | exact below_drewN (below_drewN (bel _ _ _) _) _⟩

set_option maxRecDepth 100000 in
set_option maxHeartbeats 4000000 in
theorem eff_41 (mb mo : Nat) (m : Im) (f : Fc) (a b : Int) (w : World) (hm : Row w mb mo m.vals) (hi : ImIn w m) (hn : f.codeS.n = f.code.length) (hl1 : f.code.length ≤ 5000) (hs0 : 0 ≤ f.slots) (hs1 : f.slots ≤ 200) :
    Calls Tryd.prog 86 #[.pointer (some ⟨mb, mo, none⟩), .agg #[.string f.name, .int .i64 f.params, .int .i64 f.slots, .slice f.codeS.oa f.codeS.n f.codeS.c, .slice f.hsS.oa f.hsS.n f.hsS.c, .slice f.varsS.oa f.varsS.n f.varsS.c], .agg #[.int .i64 41, .int .i64 a, .int .i64 b]] w fun e w' => EffR m f ⟨41, a, b⟩ e ∧ Below w.heap.size w w' := by
  have c0 := (im_cells hm).1
  have c1 := (im_cells hm).2.1
  have c2 := (im_cells hm).2.2
  have l0 := hi.funcs.len
  have l1 := hi.consts.len
  have l2 := hi.classes.len
  have s0 := hi.funcs.small
  have s1 := hi.consts.small
  have s2 := hi.classes.small
  rw [List.length_map] at l0 l1 l2
  unfold Sl.val at c0 c1 c2
  rw [l0] at c0 s0
  rw [l1] at c1 s1
  rw [l2] at c2 s2
  have d0 := alloc3_cell c0
  have d1 := alloc3_cell c1
  have d2 := alloc3_cell c2
  have bel : ∀ o1 o2 o3, Below w.heap.size w (((w.alloc o1).alloc o2).alloc o3) := below_alloc3 (Below.refl _ _) (Nat.le_refl _)
  clear hm hi
  have hres : rightB m f ⟨41, a, b⟩ = true := by simp [rightB, CodeR.within] <;> omega
  unfold EffR
  rw [hres]
  go_enter Tryd.func86, Tryd.ntmps86
  go_wp2_with (go_at_call 42; refine (within_any _ _ _ _).mono ?_; rintro e w1 ⟨rfl, hw1⟩; rw [hw1]; clear hw1 w1)
  go_quiet ((go_at_call 42; exact Calls.quiet_of_same (within_any _ _ _ _)))
  go_wp2_with (go_at_call 42; refine (within_any _ _ _ _).mono ?_; rintro e w1 ⟨rfl, hw1⟩; rw [hw1]; clear hw1 w1)
  (try simp only [Exit.inBlock, Exit.then])
  refine bodyPost_ret (results_tmp6 rfl _ _ _) rfl ?_
  exact ⟨⟨_, _, _, _, _, rfl, fun _ => by simp [takeI, leaveI, toI, thereI, goI, endsB]⟩, by first | exact bel _ _ _ | exact below_drewN (bel _ _ _) _ | exact below_drewN (below_drewN (bel _ _ _) _) _⟩

set_option maxRecDepth 100000 in
set_option maxHeartbeats 4000000 in
theorem eff_42 (mb mo : Nat) (m : Im) (f : Fc) (a b : Int) (w : World) (hm : Row w mb mo m.vals) (hi : ImIn w m) (hn : f.codeS.n = f.code.length) (hl1 : f.code.length ≤ 5000) (hs0 : 0 ≤ f.slots) (hs1 : f.slots ≤ 200) :
    Calls Tryd.prog 86 #[.pointer (some ⟨mb, mo, none⟩), .agg #[.string f.name, .int .i64 f.params, .int .i64 f.slots, .slice f.codeS.oa f.codeS.n f.codeS.c, .slice f.hsS.oa f.hsS.n f.hsS.c, .slice f.varsS.oa f.varsS.n f.varsS.c], .agg #[.int .i64 42, .int .i64 a, .int .i64 b]] w fun e w' => EffR m f ⟨42, a, b⟩ e ∧ Below w.heap.size w w' := by
  have c0 := (im_cells hm).1
  have c1 := (im_cells hm).2.1
  have c2 := (im_cells hm).2.2
  have l0 := hi.funcs.len
  have l1 := hi.consts.len
  have l2 := hi.classes.len
  have s0 := hi.funcs.small
  have s1 := hi.consts.small
  have s2 := hi.classes.small
  rw [List.length_map] at l0 l1 l2
  unfold Sl.val at c0 c1 c2
  rw [l0] at c0 s0
  rw [l1] at c1 s1
  rw [l2] at c2 s2
  have d0 := alloc3_cell c0
  have d1 := alloc3_cell c1
  have d2 := alloc3_cell c2
  have bel : ∀ o1 o2 o3, Below w.heap.size w (((w.alloc o1).alloc o2).alloc o3) := below_alloc3 (Below.refl _ _) (Nat.le_refl _)
  clear hm hi
  have hres : rightB m f ⟨42, a, b⟩ = true := by simp [rightB, CodeR.within] <;> omega
  unfold EffR
  rw [hres]
  go_enter Tryd.func86, Tryd.ntmps86
  go_wp2_with (go_at_call 42; refine (within_any _ _ _ _).mono ?_; rintro e w1 ⟨rfl, hw1⟩; rw [hw1]; clear hw1 w1)
  go_quiet ((go_at_call 42; exact Calls.quiet_of_same (within_any _ _ _ _)))
  go_wp2_with (go_at_call 42; refine (within_any _ _ _ _).mono ?_; rintro e w1 ⟨rfl, hw1⟩; rw [hw1]; clear hw1 w1)
  (try simp only [Exit.inBlock, Exit.then])
  refine bodyPost_ret (results_tmp6 rfl _ _ _) rfl ?_
  exact ⟨⟨_, _, _, _, _, rfl, fun _ => by simp [takeI, leaveI, toI, thereI, goI, endsB]⟩, by first | exact bel _ _ _ | exact below_drewN (bel _ _ _) _ | exact below_drewN (below_drewN (bel _ _ _) _) _⟩

set_option maxRecDepth 100000 in
set_option maxHeartbeats 4000000 in
theorem eff_43 (mb mo : Nat) (m : Im) (f : Fc) (a b : Int) (w : World) (hm : Row w mb mo m.vals) (hi : ImIn w m) (hn : f.codeS.n = f.code.length) (hl1 : f.code.length ≤ 5000) (hs0 : 0 ≤ f.slots) (hs1 : f.slots ≤ 200) :
    Calls Tryd.prog 86 #[.pointer (some ⟨mb, mo, none⟩), .agg #[.string f.name, .int .i64 f.params, .int .i64 f.slots, .slice f.codeS.oa f.codeS.n f.codeS.c, .slice f.hsS.oa f.hsS.n f.hsS.c, .slice f.varsS.oa f.varsS.n f.varsS.c], .agg #[.int .i64 43, .int .i64 a, .int .i64 b]] w fun e w' => EffR m f ⟨43, a, b⟩ e ∧ Below w.heap.size w w' := by
  have c0 := (im_cells hm).1
  have c1 := (im_cells hm).2.1
  have c2 := (im_cells hm).2.2
  have l0 := hi.funcs.len
  have l1 := hi.consts.len
  have l2 := hi.classes.len
  have s0 := hi.funcs.small
  have s1 := hi.consts.small
  have s2 := hi.classes.small
  rw [List.length_map] at l0 l1 l2
  unfold Sl.val at c0 c1 c2
  rw [l0] at c0 s0
  rw [l1] at c1 s1
  rw [l2] at c2 s2
  have d0 := alloc3_cell c0
  have d1 := alloc3_cell c1
  have d2 := alloc3_cell c2
  have bel : ∀ o1 o2 o3, Below w.heap.size w (((w.alloc o1).alloc o2).alloc o3) := below_alloc3 (Below.refl _ _) (Nat.le_refl _)
  clear hm hi
  have hres : rightB m f ⟨43, a, b⟩ = true := by simp [rightB, CodeR.within] <;> omega
  unfold EffR
  rw [hres]
  go_enter Tryd.func86, Tryd.ntmps86
  go_wp2_with (go_at_call 42; refine (within_any _ _ _ _).mono ?_; rintro e w1 ⟨rfl, hw1⟩; rw [hw1]; clear hw1 w1)
  go_quiet ((go_at_call 42; exact Calls.quiet_of_same (within_any _ _ _ _)))
  go_wp2_with (go_at_call 42; refine (within_any _ _ _ _).mono ?_; rintro e w1 ⟨rfl, hw1⟩; rw [hw1]; clear hw1 w1)
  (try simp only [Exit.inBlock, Exit.then])
  refine bodyPost_ret (results_tmp6 rfl _ _ _) rfl ?_
  exact ⟨⟨_, _, _, _, _, rfl, fun _ => by simp [takeI, leaveI, toI, thereI, goI, endsB]⟩, by first | exact bel _ _ _ | exact below_drewN (bel _ _ _) _ | exact below_drewN (below_drewN (bel _ _ _) _) _⟩

set_option maxRecDepth 100000 in
set_option maxHeartbeats 4000000 in
theorem eff_44 (mb mo : Nat) (m : Im) (f : Fc) (a b : Int) (w : World) (hm : Row w mb mo m.vals) (hi : ImIn w m) (hn : f.codeS.n = f.code.length) (hl1 : f.code.length ≤ 5000) (hs0 : 0 ≤ f.slots) (hs1 : f.slots ≤ 200) :
    Calls Tryd.prog 86 #[.pointer (some ⟨mb, mo, none⟩), .agg #[.string f.name, .int .i64 f.params, .int .i64 f.slots, .slice f.codeS.oa f.codeS.n f.codeS.c, .slice f.hsS.oa f.hsS.n f.hsS.c, .slice f.varsS.oa f.varsS.n f.varsS.c], .agg #[.int .i64 44, .int .i64 a, .int .i64 b]] w fun e w' => EffR m f ⟨44, a, b⟩ e ∧ Below w.heap.size w w' := by
  have c0 := (im_cells hm).1
  have c1 := (im_cells hm).2.1
  have c2 := (im_cells hm).2.2
  have l0 := hi.funcs.len
  have l1 := hi.consts.len
  have l2 := hi.classes.len
  have s0 := hi.funcs.small
  have s1 := hi.consts.small
  have s2 := hi.classes.small
  rw [List.length_map] at l0 l1 l2
  unfold Sl.val at c0 c1 c2
  rw [l0] at c0 s0
  rw [l1] at c1 s1
  rw [l2] at c2 s2
  have d0 := alloc3_cell c0
  have d1 := alloc3_cell c1
  have d2 := alloc3_cell c2
  have bel : ∀ o1 o2 o3, Below w.heap.size w (((w.alloc o1).alloc o2).alloc o3) := below_alloc3 (Below.refl _ _) (Nat.le_refl _)
  clear hm hi
  have hres : rightB m f ⟨44, a, b⟩ = true := by simp [rightB, CodeR.within] <;> omega
  unfold EffR
  rw [hres]
  go_enter Tryd.func86, Tryd.ntmps86
  go_wp2_with (go_at_call 42; refine (within_any _ _ _ _).mono ?_; rintro e w1 ⟨rfl, hw1⟩; rw [hw1]; clear hw1 w1)
  go_quiet ((go_at_call 42; exact Calls.quiet_of_same (within_any _ _ _ _)))
  go_wp2_with (go_at_call 42; refine (within_any _ _ _ _).mono ?_; rintro e w1 ⟨rfl, hw1⟩; rw [hw1]; clear hw1 w1)
  (try simp only [Exit.inBlock, Exit.then])
  refine bodyPost_ret (results_tmp6 rfl _ _ _) rfl ?_
  exact ⟨⟨_, _, _, _, _, rfl, fun _ => by simp [takeI, leaveI, toI, thereI, goI, endsB]⟩, by first | exact bel _ _ _ | exact below_drewN (bel _ _ _) _ | exact below_drewN (below_drewN (bel _ _ _) _) _⟩

set_option maxRecDepth 100000 in
set_option maxHeartbeats 4000000 in
theorem eff_45 (mb mo : Nat) (m : Im) (f : Fc) (a b : Int) (w : World) (hm : Row w mb mo m.vals) (hi : ImIn w m) (hn : f.codeS.n = f.code.length) (hl1 : f.code.length ≤ 5000) (hs0 : 0 ≤ f.slots) (hs1 : f.slots ≤ 200) :
    Calls Tryd.prog 86 #[.pointer (some ⟨mb, mo, none⟩), .agg #[.string f.name, .int .i64 f.params, .int .i64 f.slots, .slice f.codeS.oa f.codeS.n f.codeS.c, .slice f.hsS.oa f.hsS.n f.hsS.c, .slice f.varsS.oa f.varsS.n f.varsS.c], .agg #[.int .i64 45, .int .i64 a, .int .i64 b]] w fun e w' => EffR m f ⟨45, a, b⟩ e ∧ Below w.heap.size w w' := by
  have c0 := (im_cells hm).1
  have c1 := (im_cells hm).2.1
  have c2 := (im_cells hm).2.2
  have l0 := hi.funcs.len
  have l1 := hi.consts.len
  have l2 := hi.classes.len
  have s0 := hi.funcs.small
  have s1 := hi.consts.small
  have s2 := hi.classes.small
  rw [List.length_map] at l0 l1 l2
  unfold Sl.val at c0 c1 c2
  rw [l0] at c0 s0
  rw [l1] at c1 s1
  rw [l2] at c2 s2
  have d0 := alloc3_cell c0
  have d1 := alloc3_cell c1
  have d2 := alloc3_cell c2
  have bel : ∀ o1 o2 o3, Below w.heap.size w (((w.alloc o1).alloc o2).alloc o3) := below_alloc3 (Below.refl _ _) (Nat.le_refl _)
  clear hm hi
  have hres : rightB m f ⟨45, a, b⟩ = true := by simp [rightB, CodeR.within] <;> omega
  unfold EffR
  rw [hres]
  go_enter Tryd.func86, Tryd.ntmps86
  go_wp2_with (go_at_call 42; refine (within_any _ _ _ _).mono ?_; rintro e w1 ⟨rfl, hw1⟩; rw [hw1]; clear hw1 w1)
  go_quiet ((go_at_call 42; exact Calls.quiet_of_same (within_any _ _ _ _)))
  go_wp2_with (go_at_call 42; refine (within_any _ _ _ _).mono ?_; rintro e w1 ⟨rfl, hw1⟩; rw [hw1]; clear hw1 w1)
  (try simp only [Exit.inBlock, Exit.then])
  refine bodyPost_ret (results_tmp6 rfl _ _ _) rfl ?_
  exact ⟨⟨_, _, _, _, _, rfl, fun _ => by simp [takeI, leaveI, toI, thereI, goI, endsB]⟩, by first | exact bel _ _ _ | exact below_drewN (bel _ _ _) _ | exact below_drewN (below_drewN (bel _ _ _) _) _⟩

end Go.Proofs.YthbkklnahhdgcaaDoor.CodeE2
