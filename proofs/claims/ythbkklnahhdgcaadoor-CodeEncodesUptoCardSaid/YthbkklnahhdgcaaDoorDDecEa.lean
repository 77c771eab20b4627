/-
  Closures of package code's Decode: an instruction, a handler, a variable.
-/
import Derived.Test.YthbkklnahhdgcaaDoorDME
import Derived.Test.YthbkklnahhdgcaaDoorDMA
namespace Go.Proofs.YthbkklnahhdgcaaDoor.DecEa
open Go Go.Proofs Go.RowKit Lib CodeR CodeA CodeB CodeD CodeS CodeL EncA EncB DecA DecB DecC DecD

theorem res_i3 {w : World} {tmps : Array Value} {b : Nat} {v0 : Int} {v1 : Int} {v2 : Int} (ht : tmps.getD 1 undef = .pointer (some ⟨b, 0, none⟩)) (hb : w.heap[b]? = some (.cells #[.int .i64 v0, .int .i64 v1, .int .i64 v2] 134 (0, 0))) : (results Tryd.f62 tmps).run Tryd.prog w = .ok (.agg #[.int .i64 v0, .int .i64 v1, .int .i64 v2]) w := by
  have ht' : tmps[1]?.getD undef = .pointer (some ⟨b, 0, none⟩) := by simpa using ht
  have h0 := cell_of_block (i := 0) hb rfl
  have h1 := cell_of_block (i := 1) hb rfl
  have h2 := cell_of_block (i := 2) hb rfl
  simp [results, ht', h0, h1, h2, go_sem]
set_option maxRecDepth 100000 in
set_option maxHeartbeats 4000000 in
theorem i3_any (cb : Nat) (oa : Option Addr) (c vb B : Nat) (L : List UInt8) (p : Nat) (bad : Bool) (w : World) (h : DS cb oa c vb B L w p bad) :
    Calls Tryd.prog 62 #[.pointer (some ⟨vb, 0, none⟩)] w fun e w' => e = .returned (.agg #[.int .i64 (i3P L p bad).1.op, .int .i64 (i3P L p bad).1.a, .int .i64 (i3P L p bad).1.b]) ∧ DS cb oa c vb B L w' (i3P L p bad).2.1 (i3P L p bad).2.2 ∧ Tc cb w w' := by
  have hR := heap_alloc_new w (.cells #[.int .i64 0, .int .i64 0, .int .i64 0] 134)
  have hD0 := h.keep (below_alloc (Below.refl _ w) (.cells #[.int .i64 0, .int .i64 0, .int .i64 0] 134) h.size)
  have hT0 : Tc cb w (w.alloc (.cells #[.int .i64 0, .int .i64 0, .int .i64 0] 134)) := (Turned.refl _ w).alloc _
  have hRB : B ≤ w.heap.size := h.size
  have hRc : w.heap.size ≠ cb := by have := h.lowc; omega
  go_enter Tryd.func62, Tryd.ntmps62
  go_wp2_with fail
  generalize w.alloc (.cells #[.int .i64 0, .int .i64 0, .int .i64 0] 134) = w0 at *
  obtain ⟨R, hRR⟩ : ∃ R, w.heap.size = R := ⟨_, rfl⟩
  rw [hRR] at hR hRB hRc ⊢
  replace hD0 := hD0.drew
  replace hT0 := hT0.drew
  have hRd : w0.drew.heap[R]? = some (.cells #[.int .i64 0, .int .i64 0, .int .i64 0] 134 (0, 0)) := hR
  have kv : w0.cell? ⟨vb, 0, none⟩ = some (.pointer (some ⟨cb, 0, none⟩)) := cell_of_block (i := 0) hD0.var rfl
  refine RegU.begin (S := fun wz => wz.cell? ⟨vb, 0, none⟩ = some (.pointer (some ⟨cb, 0, none⟩))) (N := [0, 1, 2, 3, 4]) (by kernel_rfl) ?_ (fun hHeld => ?_)
  · (try dsimp only); go_keep
  refine RegU.take [1, 3, 5, 6, 7] (i := 0) (v := ?_) rfl (by kernel_rfl) (by kernel_rfl) (by kernel_rfl) (by kernel_rfl) (by kernel_rfl) (fun _ _ _ h => h) (Or.inl ⟨by rfl, ?_⟩) (by assumption) ?_
  rotate_left
  · intro w hSw; (try dsimp only at hSw); go_simp; first | done | with_reducible rfl
  try simp only [Act.put, List.setIfInBounds_toArray, List.set_cons_zero, List.set_cons_succ]
  refine RegU.take [3, 5, 6, 7] (i := 2) (v := ?_) rfl (by kernel_rfl) (by kernel_rfl) (by kernel_rfl) (by kernel_rfl) (by kernel_rfl) (fun _ _ _ h => h) (Or.inl ⟨by rfl, ?_⟩) (by assumption) ?_
  rotate_left
  · intro w hSw; (try dsimp only at hSw); go_simp; first | done | with_reducible rfl
  try simp only [Act.put, List.setIfInBounds_toArray, List.set_cons_zero, List.set_cons_succ]
  refine RegU.take [5, 6, 7] (i := 4) (v := ?_) rfl (by kernel_rfl) (by kernel_rfl) (by kernel_rfl) (by kernel_rfl) (by kernel_rfl) (fun _ _ _ h => h) (Or.inl ⟨by rfl, ?_⟩) (by assumption) ?_
  rotate_left
  · intro w hSw; (try dsimp only at hSw); go_simp; first | done | with_reducible rfl
  try simp only [Act.put, List.setIfInBounds_toArray, List.set_cons_zero, List.set_cons_succ]
  refine RegU.one (i := 1) (by kernel_rfl) rfl (fun K hK => ?_)
  go_simp
  refine (num_any cb oa c vb B L (p) bad _ hD0).mono ?_
  rintro e w1 ⟨rfl, hD1, hT1⟩
  refine hK.out _ _ (cell_of_block (i := 0) hD1.var rfl) (fun hHeld => ?_)
  clear hK K
  try simp only [Act.put, List.setIfInBounds_toArray, List.set_cons_zero, List.set_cons_succ]
  refine RegU.one (i := 3) (by kernel_rfl) rfl (fun K hK => ?_)
  go_simp
  refine (num_any cb oa c vb B L (numE L (p)) (bad || numF L (p)) _ hD1).mono ?_
  rintro e w2 ⟨rfl, hD2, hT2⟩
  replace hT2 := hT1.trans hT2
  refine hK.out _ _ (cell_of_block (i := 0) hD2.var rfl) (fun hHeld => ?_)
  clear hK K
  try simp only [Act.put, List.setIfInBounds_toArray, List.set_cons_zero, List.set_cons_succ]
  refine RegU.rest [5, 6, 7] [_, _, _] (by kernel_rfl) rfl ?_
  go_wp2_with fail
  refine (num_any cb oa c vb B L (numE L (numE L (p))) ((bad || numF L (p)) || numF L (numE L (p))) _ hD2).mono ?_
  rintro e w3 ⟨rfl, hD3, hT3⟩
  replace hT3 := hT2.trans hT3
  have hRn : w3.heap[R]? = some (.cells #[.int .i64 0, .int .i64 0, .int .i64 0] 134 (0, 0)) := (hT3.block R (lt_of_block hRd) hRc).trans hRd
  have c0 : w3.cell? ⟨R, 0, none⟩ = some (.int .i64 0) := cell_of_block (i := 0) hRn rfl
  have f0 : w3.frozen? ⟨R, 0, none⟩ = false := frozen_of_block (i := 0) hRn
  have c1 : w3.cell? ⟨R, 1, none⟩ = some (.int .i64 0) := cell_of_block (i := 1) hRn rfl
  have f1 : w3.frozen? ⟨R, 1, none⟩ = false := frozen_of_block (i := 1) hRn
  have c2 : w3.cell? ⟨R, 2, none⟩ = some (.int .i64 0) := cell_of_block (i := 2) hRn rfl
  have f2 : w3.frozen? ⟨R, 2, none⟩ = false := frozen_of_block (i := 2) hRn
  clear hR hRd
  go_wp2
  have hfin := (img_set (i := 2) (v := .int .i64 (numV L (numE L (numE L (p))))) (img_set (i := 1) (v := .int .i64 (numV L (numE L (p)))) (img_set (i := 0) (v := .int .i64 (numV L (p))) hRn)))
  have hT := hT0.trans hT3
  refine bodyPost_ret (res_i3 rfl hfin) rfl ⟨rfl, ?_, ?_⟩
  · exact hD3.keep ((((Below.refl _ w3).setCell (p := ⟨R, 0, none⟩) hRB _).setCell (p := ⟨R, 1, none⟩) hRB _).setCell (p := ⟨R, 2, none⟩) hRB _)
  · exact (((hT.setCell (p := ⟨R, 0, none⟩) (Or.inr (Nat.le_of_eq hRR)) _).setCell (p := ⟨R, 1, none⟩) (Or.inr (Nat.le_of_eq hRR)) _).setCell (p := ⟨R, 2, none⟩) (Or.inr (Nat.le_of_eq hRR)) _)
theorem res_h3 {w : World} {tmps : Array Value} {b : Nat} {v0 : Int} {v1 : Int} {v2 : Int} (ht : tmps.getD 1 undef = .pointer (some ⟨b, 0, none⟩)) (hb : w.heap[b]? = some (.cells #[.int .i64 v0, .int .i64 v1, .int .i64 v2] 137 (0, 0))) : (results Tryd.f64 tmps).run Tryd.prog w = .ok (.agg #[.int .i64 v0, .int .i64 v1, .int .i64 v2]) w := by
  have ht' : tmps[1]?.getD undef = .pointer (some ⟨b, 0, none⟩) := by simpa using ht
  have h0 := cell_of_block (i := 0) hb rfl
  have h1 := cell_of_block (i := 1) hb rfl
  have h2 := cell_of_block (i := 2) hb rfl
  simp [results, ht', h0, h1, h2, go_sem]
set_option maxRecDepth 100000 in
set_option maxHeartbeats 4000000 in
theorem h3_any (cb : Nat) (oa : Option Addr) (c vb B : Nat) (L : List UInt8) (p : Nat) (bad : Bool) (w : World) (h : DS cb oa c vb B L w p bad) :
    Calls Tryd.prog 64 #[.pointer (some ⟨vb, 0, none⟩)] w fun e w' => e = .returned (.agg #[.int .i64 (h3P L p bad).1.f, .int .i64 (h3P L p bad).1.t, .int .i64 (h3P L p bad).1.g]) ∧ DS cb oa c vb B L w' (h3P L p bad).2.1 (h3P L p bad).2.2 ∧ Tc cb w w' := by
  have hR := heap_alloc_new w (.cells #[.int .i64 0, .int .i64 0, .int .i64 0] 137)
  have hD0 := h.keep (below_alloc (Below.refl _ w) (.cells #[.int .i64 0, .int .i64 0, .int .i64 0] 137) h.size)
  have hT0 : Tc cb w (w.alloc (.cells #[.int .i64 0, .int .i64 0, .int .i64 0] 137)) := (Turned.refl _ w).alloc _
  have hRB : B ≤ w.heap.size := h.size
  have hRc : w.heap.size ≠ cb := by have := h.lowc; omega
  go_enter Tryd.func64, Tryd.ntmps64
  go_wp2_with fail
  generalize w.alloc (.cells #[.int .i64 0, .int .i64 0, .int .i64 0] 137) = w0 at *
  obtain ⟨R, hRR⟩ : ∃ R, w.heap.size = R := ⟨_, rfl⟩
  rw [hRR] at hR hRB hRc ⊢
  replace hD0 := hD0.drew
  replace hT0 := hT0.drew
  have hRd : w0.drew.heap[R]? = some (.cells #[.int .i64 0, .int .i64 0, .int .i64 0] 137 (0, 0)) := hR
  have kv : w0.cell? ⟨vb, 0, none⟩ = some (.pointer (some ⟨cb, 0, none⟩)) := cell_of_block (i := 0) hD0.var rfl
  refine RegU.begin (S := fun wz => wz.cell? ⟨vb, 0, none⟩ = some (.pointer (some ⟨cb, 0, none⟩))) (N := [0, 1, 2, 3, 4]) (by kernel_rfl) ?_ (fun hHeld => ?_)
  · (try dsimp only); go_keep
  refine RegU.take [1, 3, 5, 6, 7] (i := 0) (v := ?_) rfl (by kernel_rfl) (by kernel_rfl) (by kernel_rfl) (by kernel_rfl) (by kernel_rfl) (fun _ _ _ h => h) (Or.inl ⟨by rfl, ?_⟩) (by assumption) ?_
  rotate_left
  · intro w hSw; (try dsimp only at hSw); go_simp; first | done | with_reducible rfl
  try simp only [Act.put, List.setIfInBounds_toArray, List.set_cons_zero, List.set_cons_succ]
  refine RegU.take [3, 5, 6, 7] (i := 2) (v := ?_) rfl (by kernel_rfl) (by kernel_rfl) (by kernel_rfl) (by kernel_rfl) (by kernel_rfl) (fun _ _ _ h => h) (Or.inl ⟨by rfl, ?_⟩) (by assumption) ?_
  rotate_left
  · intro w hSw; (try dsimp only at hSw); go_simp; first | done | with_reducible rfl
  try simp only [Act.put, List.setIfInBounds_toArray, List.set_cons_zero, List.set_cons_succ]
  refine RegU.take [5, 6, 7] (i := 4) (v := ?_) rfl (by kernel_rfl) (by kernel_rfl) (by kernel_rfl) (by kernel_rfl) (by kernel_rfl) (fun _ _ _ h => h) (Or.inl ⟨by rfl, ?_⟩) (by assumption) ?_
  rotate_left
  · intro w hSw; (try dsimp only at hSw); go_simp; first | done | with_reducible rfl
  try simp only [Act.put, List.setIfInBounds_toArray, List.set_cons_zero, List.set_cons_succ]
  refine RegU.one (i := 1) (by kernel_rfl) rfl (fun K hK => ?_)
  go_simp
  refine (num_any cb oa c vb B L (p) bad _ hD0).mono ?_
  rintro e w1 ⟨rfl, hD1, hT1⟩
  refine hK.out _ _ (cell_of_block (i := 0) hD1.var rfl) (fun hHeld => ?_)
  clear hK K
  try simp only [Act.put, List.setIfInBounds_toArray, List.set_cons_zero, List.set_cons_succ]
  refine RegU.one (i := 3) (by kernel_rfl) rfl (fun K hK => ?_)
  go_simp
  refine (num_any cb oa c vb B L (numE L (p)) (bad || numF L (p)) _ hD1).mono ?_
  rintro e w2 ⟨rfl, hD2, hT2⟩
  replace hT2 := hT1.trans hT2
  refine hK.out _ _ (cell_of_block (i := 0) hD2.var rfl) (fun hHeld => ?_)
  clear hK K
  try simp only [Act.put, List.setIfInBounds_toArray, List.set_cons_zero, List.set_cons_succ]
  refine RegU.rest [5, 6, 7] [_, _, _] (by kernel_rfl) rfl ?_
  go_wp2_with fail
  refine (num_any cb oa c vb B L (numE L (numE L (p))) ((bad || numF L (p)) || numF L (numE L (p))) _ hD2).mono ?_
  rintro e w3 ⟨rfl, hD3, hT3⟩
  replace hT3 := hT2.trans hT3
  have hRn : w3.heap[R]? = some (.cells #[.int .i64 0, .int .i64 0, .int .i64 0] 137 (0, 0)) := (hT3.block R (lt_of_block hRd) hRc).trans hRd
  have c0 : w3.cell? ⟨R, 0, none⟩ = some (.int .i64 0) := cell_of_block (i := 0) hRn rfl
  have f0 : w3.frozen? ⟨R, 0, none⟩ = false := frozen_of_block (i := 0) hRn
  have c1 : w3.cell? ⟨R, 1, none⟩ = some (.int .i64 0) := cell_of_block (i := 1) hRn rfl
  have f1 : w3.frozen? ⟨R, 1, none⟩ = false := frozen_of_block (i := 1) hRn
  have c2 : w3.cell? ⟨R, 2, none⟩ = some (.int .i64 0) := cell_of_block (i := 2) hRn rfl
  have f2 : w3.frozen? ⟨R, 2, none⟩ = false := frozen_of_block (i := 2) hRn
  clear hR hRd
  go_wp2
  have hfin := (img_set (i := 2) (v := .int .i64 (numV L (numE L (numE L (p))))) (img_set (i := 1) (v := .int .i64 (numV L (numE L (p)))) (img_set (i := 0) (v := .int .i64 (numV L (p))) hRn)))
  have hT := hT0.trans hT3
  refine bodyPost_ret (res_h3 rfl hfin) rfl ⟨rfl, ?_, ?_⟩
  · exact hD3.keep ((((Below.refl _ w3).setCell (p := ⟨R, 0, none⟩) hRB _).setCell (p := ⟨R, 1, none⟩) hRB _).setCell (p := ⟨R, 2, none⟩) hRB _)
  · exact (((hT.setCell (p := ⟨R, 0, none⟩) (Or.inr (Nat.le_of_eq hRR)) _).setCell (p := ⟨R, 1, none⟩) (Or.inr (Nat.le_of_eq hRR)) _).setCell (p := ⟨R, 2, none⟩) (Or.inr (Nat.le_of_eq hRR)) _)
theorem res_vr {w : World} {tmps : Array Value} {b : Nat} {v0 : ByteArray} {v1 : Int} {v2 : Int} {v3 : Int} {v4 : Bool} (ht : tmps.getD 1 undef = .pointer (some ⟨b, 0, none⟩)) (hb : w.heap[b]? = some (.cells #[.string v0, .int .i64 v1, .int .i64 v2, .int .i64 v3, .bool v4] 140 (0, 0))) : (results Tryd.f66 tmps).run Tryd.prog w = .ok (.agg #[.string v0, .int .i64 v1, .int .i64 v2, .int .i64 v3, .bool v4]) w := by
  have ht' : tmps[1]?.getD undef = .pointer (some ⟨b, 0, none⟩) := by simpa using ht
  have h0 := cell_of_block (i := 0) hb rfl
  have h1 := cell_of_block (i := 1) hb rfl
  have h2 := cell_of_block (i := 2) hb rfl
  have h3 := cell_of_block (i := 3) hb rfl
  have h4 := cell_of_block (i := 4) hb rfl
  simp [results, ht', h0, h1, h2, h3, h4, go_sem]
set_option maxRecDepth 100000 in
set_option maxHeartbeats 4000000 in
theorem vr_any (cb : Nat) (oa : Option Addr) (c vb B : Nat) (L : List UInt8) (p : Nat) (bad : Bool) (w : World) (h : DS cb oa c vb B L w p bad) :
    Calls Tryd.prog 66 #[.pointer (some ⟨vb, 0, none⟩)] w fun e w' => e = .returned (.agg #[.string (vrP L p bad).1.name, .int .i64 (vrP L p bad).1.slot, .int .i64 (vrP L p bad).1.f, .int .i64 (vrP L p bad).1.t, .bool (vrP L p bad).1.boxed]) ∧ DS cb oa c vb B L w' (vrP L p bad).2.1 (vrP L p bad).2.2 ∧ Tc cb w w' := by
  have hR := heap_alloc_new w (.cells #[.string ⟨#[]⟩, .int .i64 0, .int .i64 0, .int .i64 0, .bool false] 140)
  have hD0 := h.keep (below_alloc (Below.refl _ w) (.cells #[.string ⟨#[]⟩, .int .i64 0, .int .i64 0, .int .i64 0, .bool false] 140) h.size)
  have hT0 : Tc cb w (w.alloc (.cells #[.string ⟨#[]⟩, .int .i64 0, .int .i64 0, .int .i64 0, .bool false] 140)) := (Turned.refl _ w).alloc _
  have hRB : B ≤ w.heap.size := h.size
  have hRc : w.heap.size ≠ cb := by have := h.lowc; omega
  go_enter Tryd.func66, Tryd.ntmps66
  go_wp2_with fail
  generalize w.alloc (.cells #[.string ⟨#[]⟩, .int .i64 0, .int .i64 0, .int .i64 0, .bool false] 140) = w0 at *
  obtain ⟨R, hRR⟩ : ∃ R, w.heap.size = R := ⟨_, rfl⟩
  rw [hRR] at hR hRB hRc ⊢
  replace hD0 := hD0.drew
  replace hT0 := hT0.drew
  have hRd : w0.drew.heap[R]? = some (.cells #[.string ⟨#[]⟩, .int .i64 0, .int .i64 0, .int .i64 0, .bool false] 140 (0, 0)) := hR
  have kv : w0.cell? ⟨vb, 0, none⟩ = some (.pointer (some ⟨cb, 0, none⟩)) := cell_of_block (i := 0) hD0.var rfl
  refine RegU.begin (S := fun wz => wz.cell? ⟨vb, 0, none⟩ = some (.pointer (some ⟨cb, 0, none⟩))) (N := [0, 1, 2, 3, 4, 5, 6, 7, 8]) (by kernel_rfl) ?_ (fun hHeld => ?_)
  · (try dsimp only); go_keep
  refine RegU.take [1, 3, 5, 7, 9, 10, 11, 12] (i := 0) (v := ?_) rfl (by kernel_rfl) (by kernel_rfl) (by kernel_rfl) (by kernel_rfl) (by kernel_rfl) (fun _ _ _ h => h) (Or.inl ⟨by rfl, ?_⟩) (by assumption) ?_
  rotate_left
  · intro w hSw; (try dsimp only at hSw); go_simp; first | done | with_reducible rfl
  try simp only [Act.put, List.setIfInBounds_toArray, List.set_cons_zero, List.set_cons_succ]
  refine RegU.take [3, 5, 7, 9, 10, 11, 12] (i := 2) (v := ?_) rfl (by kernel_rfl) (by kernel_rfl) (by kernel_rfl) (by kernel_rfl) (by kernel_rfl) (fun _ _ _ h => h) (Or.inl ⟨by rfl, ?_⟩) (by assumption) ?_
  rotate_left
  · intro w hSw; (try dsimp only at hSw); go_simp; first | done | with_reducible rfl
  try simp only [Act.put, List.setIfInBounds_toArray, List.set_cons_zero, List.set_cons_succ]
  refine RegU.take [5, 7, 9, 10, 11, 12] (i := 4) (v := ?_) rfl (by kernel_rfl) (by kernel_rfl) (by kernel_rfl) (by kernel_rfl) (by kernel_rfl) (fun _ _ _ h => h) (Or.inl ⟨by rfl, ?_⟩) (by assumption) ?_
  rotate_left
  · intro w hSw; (try dsimp only at hSw); go_simp; first | done | with_reducible rfl
  try simp only [Act.put, List.setIfInBounds_toArray, List.set_cons_zero, List.set_cons_succ]
  refine RegU.take [7, 9, 10, 11, 12] (i := 6) (v := ?_) rfl (by kernel_rfl) (by kernel_rfl) (by kernel_rfl) (by kernel_rfl) (by kernel_rfl) (fun _ _ _ h => h) (Or.inl ⟨by rfl, ?_⟩) (by assumption) ?_
  rotate_left
  · intro w hSw; (try dsimp only at hSw); go_simp; first | done | with_reducible rfl
  try simp only [Act.put, List.setIfInBounds_toArray, List.set_cons_zero, List.set_cons_succ]
  refine RegU.take [9, 10, 11, 12] (i := 8) (v := ?_) rfl (by kernel_rfl) (by kernel_rfl) (by kernel_rfl) (by kernel_rfl) (by kernel_rfl) (fun _ _ _ h => h) (Or.inl ⟨by rfl, ?_⟩) (by assumption) ?_
  rotate_left
  · intro w hSw; (try dsimp only at hSw); go_simp; first | done | with_reducible rfl
  try simp only [Act.put, List.setIfInBounds_toArray, List.set_cons_zero, List.set_cons_succ]
  refine RegU.one (i := 1) (by kernel_rfl) rfl (fun K hK => ?_)
  go_simp
  refine (text_any cb oa c vb B L (p) bad _ hD0).mono ?_
  rintro e w1 ⟨rfl, hD1, hT1⟩
  refine hK.out _ _ (cell_of_block (i := 0) hD1.var rfl) (fun hHeld => ?_)
  clear hK K
  try simp only [Act.put, List.setIfInBounds_toArray, List.set_cons_zero, List.set_cons_succ]
  refine RegU.one (i := 3) (by kernel_rfl) rfl (fun K hK => ?_)
  go_simp
  refine (num_any cb oa c vb B L (txtE L (p)) (bad || manyF L (p)) _ hD1).mono ?_
  rintro e w2 ⟨rfl, hD2, hT2⟩
  replace hT2 := hT1.trans hT2
  refine hK.out _ _ (cell_of_block (i := 0) hD2.var rfl) (fun hHeld => ?_)
  clear hK K
  try simp only [Act.put, List.setIfInBounds_toArray, List.set_cons_zero, List.set_cons_succ]
  refine RegU.one (i := 5) (by kernel_rfl) rfl (fun K hK => ?_)
  go_simp
  refine (num_any cb oa c vb B L (numE L (txtE L (p))) ((bad || manyF L (p)) || numF L (txtE L (p))) _ hD2).mono ?_
  rintro e w3 ⟨rfl, hD3, hT3⟩
  replace hT3 := hT2.trans hT3
  refine hK.out _ _ (cell_of_block (i := 0) hD3.var rfl) (fun hHeld => ?_)
  clear hK K
  try simp only [Act.put, List.setIfInBounds_toArray, List.set_cons_zero, List.set_cons_succ]
  refine RegU.one (i := 7) (by kernel_rfl) rfl (fun K hK => ?_)
  go_simp
  refine (num_any cb oa c vb B L (numE L (numE L (txtE L (p)))) (((bad || manyF L (p)) || numF L (txtE L (p))) || numF L (numE L (txtE L (p)))) _ hD3).mono ?_
  rintro e w4 ⟨rfl, hD4, hT4⟩
  replace hT4 := hT3.trans hT4
  refine hK.out _ _ (cell_of_block (i := 0) hD4.var rfl) (fun hHeld => ?_)
  clear hK K
  try simp only [Act.put, List.setIfInBounds_toArray, List.set_cons_zero, List.set_cons_succ]
  refine RegU.rest [9, 10, 11, 12] [_, _, _, _] (by kernel_rfl) rfl ?_
  go_wp2_with fail
  refine (num_any cb oa c vb B L (numE L (numE L (numE L (txtE L (p))))) ((((bad || manyF L (p)) || numF L (txtE L (p))) || numF L (numE L (txtE L (p)))) || numF L (numE L (numE L (txtE L (p))))) _ hD4).mono ?_
  rintro e w5 ⟨rfl, hD5, hT5⟩
  replace hT5 := hT4.trans hT5
  have hRn : w5.heap[R]? = some (.cells #[.string ⟨#[]⟩, .int .i64 0, .int .i64 0, .int .i64 0, .bool false] 140 (0, 0)) := (hT5.block R (lt_of_block hRd) hRc).trans hRd
  have c0 : w5.cell? ⟨R, 0, none⟩ = some (.string ⟨#[]⟩) := cell_of_block (i := 0) hRn rfl
  have f0 : w5.frozen? ⟨R, 0, none⟩ = false := frozen_of_block (i := 0) hRn
  have c1 : w5.cell? ⟨R, 1, none⟩ = some (.int .i64 0) := cell_of_block (i := 1) hRn rfl
  have f1 : w5.frozen? ⟨R, 1, none⟩ = false := frozen_of_block (i := 1) hRn
  have c2 : w5.cell? ⟨R, 2, none⟩ = some (.int .i64 0) := cell_of_block (i := 2) hRn rfl
  have f2 : w5.frozen? ⟨R, 2, none⟩ = false := frozen_of_block (i := 2) hRn
  have c3 : w5.cell? ⟨R, 3, none⟩ = some (.int .i64 0) := cell_of_block (i := 3) hRn rfl
  have f3 : w5.frozen? ⟨R, 3, none⟩ = false := frozen_of_block (i := 3) hRn
  have c4 : w5.cell? ⟨R, 4, none⟩ = some (.bool false) := cell_of_block (i := 4) hRn rfl
  have f4 : w5.frozen? ⟨R, 4, none⟩ = false := frozen_of_block (i := 4) hRn
  clear hR hRd
  go_wp2
  have hfin := (img_set (i := 4) (v := .bool (decide (numV L (numE L (numE L (numE L (txtE L (p))))) = 1))) (img_set (i := 3) (v := .int .i64 (numV L (numE L (numE L (txtE L (p)))))) (img_set (i := 2) (v := .int .i64 (numV L (numE L (txtE L (p))))) (img_set (i := 1) (v := .int .i64 (numV L (txtE L (p)))) (img_set (i := 0) (v := .string (txtV L (p))) hRn)))))
  have hT := hT0.trans hT5
  refine bodyPost_ret (res_vr rfl hfin) rfl ⟨rfl, ?_, ?_⟩
  · exact hD5.keep ((((((Below.refl _ w5).setCell (p := ⟨R, 0, none⟩) hRB _).setCell (p := ⟨R, 1, none⟩) hRB _).setCell (p := ⟨R, 2, none⟩) hRB _).setCell (p := ⟨R, 3, none⟩) hRB _).setCell (p := ⟨R, 4, none⟩) hRB _)
  · exact (((((hT.setCell (p := ⟨R, 0, none⟩) (Or.inr (Nat.le_of_eq hRR)) _).setCell (p := ⟨R, 1, none⟩) (Or.inr (Nat.le_of_eq hRR)) _).setCell (p := ⟨R, 2, none⟩) (Or.inr (Nat.le_of_eq hRR)) _).setCell (p := ⟨R, 3, none⟩) (Or.inr (Nat.le_of_eq hRR)) _).setCell (p := ⟨R, 4, none⟩) (Or.inr (Nat.le_of_eq hRR)) _)
end Go.Proofs.YthbkklnahhdgcaaDoor.DecEa
