/-
  The closure of package code's Decode that reads a constant.
-/
import Derived.Test.YthbkklnahhdgcaaDoorDME
namespace Go.Proofs.YthbkklnahhdgcaaDoor.DecEb
open Go Go.Proofs Go.RowKit Lib CodeR CodeA CodeB CodeD CodeS CodeL EncA EncB DecA DecB DecC DecD

theorem res_cn {w : World} {tmps : Array Value} {b : Nat} {v0 : Bool} {v1 : ByteArray} {v2 : Int} (ht : tmps.getD 1 undef = .pointer (some ⟨b, 0, none⟩)) (hb : w.heap[b]? = some (.cells #[.bool v0, .string v1, .int .i64 v2] 68 (0, 0))) : (results Tryd.f52 tmps).run Tryd.prog w = .ok (.agg #[.bool v0, .string v1, .int .i64 v2]) w := by
  have ht' : tmps[1]?.getD undef = .pointer (some ⟨b, 0, none⟩) := by simpa using ht
  have h0 := cell_of_block (i := 0) hb rfl
  have h1 := cell_of_block (i := 1) hb rfl
  have h2 := cell_of_block (i := 2) hb rfl
  simp [results, ht', h0, h1, h2, go_sem]
theorem cn0 {L : List UInt8} {p : Nat} {b : Bool} (h : numV L p = 0) : cnP L p b = (⟨false, ByteArray.empty, numV L (numE L p)⟩, numE L (numE L p), (b || numF L p) || numF L (numE L p)) := by
  simp [cnP, bnd, nP, h, ret]
theorem cn1 {L : List UInt8} {p : Nat} {b : Bool} (h : numV L p = 1) : cnP L p b = (⟨true, txtV L (numE L p), 0⟩, txtE L (numE L p), (b || numF L p) || manyF L (numE L p)) := by
  simp [cnP, bnd, nP, tP, h, ret]
theorem cn2 {L : List UInt8} {p : Nat} {b : Bool} (h0 : ¬ numV L p = 0) (h1 : ¬ numV L p = 1) : cnP L p b = (⟨false, ByteArray.empty, 0⟩, numE L p, true) := by
  simp [cnP, bnd, nP, h0, h1]

set_option maxRecDepth 100000 in
set_option maxHeartbeats 4000000 in
theorem cn_any (cb : Nat) (oa : Option Addr) (c vb B : Nat) (L : List UInt8) (p : Nat) (bad : Bool) (w : World) (h : DS cb oa c vb B L w p bad) :
    Calls Tryd.prog 52 #[.pointer (some ⟨vb, 0, none⟩)] w fun e w' => e = .returned (.agg #[.bool (cnP L p bad).1.text, .string (cnP L p bad).1.s, .int .i64 (cnP L p bad).1.n]) ∧ DS cb oa c vb B L w' (cnP L p bad).2.1 (cnP L p bad).2.2 ∧ Tc cb w w' := by
  by_cases h0 : numV L p = 0
  · have hd0 : (numV L p == 0) = true := by simpa using h0
    rw [cn0 h0]
    have hR := heap_alloc_new w (.cells #[.bool false, .string ⟨#[]⟩, .int .i64 0] 68)
    have hD0 := h.keep (below_alloc (Below.refl _ w) (.cells #[.bool false, .string ⟨#[]⟩, .int .i64 0] 68) h.size)
    have hT0 : Tc cb w (w.alloc (.cells #[.bool false, .string ⟨#[]⟩, .int .i64 0] 68)) := (Turned.refl _ w).alloc _
    have hRB : B ≤ w.heap.size := h.size
    have hRc : w.heap.size ≠ cb := by have := h.lowc; omega
    go_enter Tryd.func52, Tryd.ntmps52
    have kv := cell_of_block (i := 0) (v := .pointer (some ⟨cb, 0, none⟩)) hD0.var rfl
    go_wp2_with fail
    generalize w.alloc (.cells #[.bool false, .string ⟨#[]⟩, .int .i64 0] 68) = w0 at *
    obtain ⟨R, hRR⟩ : ∃ R, w.heap.size = R := ⟨_, rfl⟩
    rw [hRR] at hR hRB hRc ⊢
    refine (num_any cb oa c vb B L p bad _ hD0).mono ?_
    rintro e w1 ⟨rfl, hD1, hT1⟩
    replace hR := (hT1.block R (lt_of_block hR) hRc).trans hR
    replace hT1 := hT0.trans hT1
    have kv1 := cell_of_block (i := 0) (v := .pointer (some ⟨cb, 0, none⟩)) hD1.var rfl
    clear kv hD0 hT0
    go_wp2_with fail
    refine (num_any cb oa c vb B L _ _ _ hD1).mono ?_
    rintro e w2 ⟨rfl, hD2, hT2⟩
    have hRn := (hT2.block R (lt_of_block hR) hRc).trans hR
    replace hT2 := hT1.trans hT2
    have c0 : w2.cell? ⟨R, 0, none⟩ = some (.bool false) := cell_of_block (i := 0) hRn rfl
    have f0 : w2.frozen? ⟨R, 0, none⟩ = false := frozen_of_block (i := 0) hRn
    have c1 : w2.cell? ⟨R, 1, none⟩ = some (.string ⟨#[]⟩) := cell_of_block (i := 1) hRn rfl
    have f1 : w2.frozen? ⟨R, 1, none⟩ = false := frozen_of_block (i := 1) hRn
    have c2 : w2.cell? ⟨R, 2, none⟩ = some (.int .i64 0) := cell_of_block (i := 2) hRn rfl
    have f2 : w2.frozen? ⟨R, 2, none⟩ = false := frozen_of_block (i := 2) hRn
    clear hR
    go_wp2
    have hfin := img_set (i := 2) (v := .int .i64 (numV L (numE L p))) (img_set (i := 1) (v := .string ⟨#[]⟩) (img_set (i := 0) (v := .bool false) hRn))
    refine bodyPost_ret (res_cn rfl hfin) rfl ⟨rfl, ?_, ?_⟩
    · exact hD2.keep (((Below.refl _ w2).setCell (p := ⟨R, 0, none⟩) hRB _).setCell (p := ⟨R, 1, none⟩) hRB _ |>.setCell (p := ⟨R, 2, none⟩) hRB _)
    · exact ((hT2.setCell (p := ⟨R, 0, none⟩) (Or.inr (Nat.le_of_eq hRR)) _).setCell (p := ⟨R, 1, none⟩) (Or.inr (Nat.le_of_eq hRR)) _).setCell (p := ⟨R, 2, none⟩) (Or.inr (Nat.le_of_eq hRR)) _
  · have hd0 : (numV L p == 0) = false := by simpa using h0
    by_cases h1 : numV L p = 1
    · have hd1 : (numV L p == 1) = true := by simpa using h1
      rw [cn1 h1]
      clear h1 h0
      have hR := heap_alloc_new w (.cells #[.bool false, .string ⟨#[]⟩, .int .i64 0] 68)
      have hD0 := h.keep (below_alloc (Below.refl _ w) (.cells #[.bool false, .string ⟨#[]⟩, .int .i64 0] 68) h.size)
      have hT0 : Tc cb w (w.alloc (.cells #[.bool false, .string ⟨#[]⟩, .int .i64 0] 68)) := (Turned.refl _ w).alloc _
      have hRB : B ≤ w.heap.size := h.size
      have hRc : w.heap.size ≠ cb := by have := h.lowc; omega
      go_enter Tryd.func52, Tryd.ntmps52
      have kv := cell_of_block (i := 0) (v := .pointer (some ⟨cb, 0, none⟩)) hD0.var rfl
      go_wp2_with fail
      generalize w.alloc (.cells #[.bool false, .string ⟨#[]⟩, .int .i64 0] 68) = w0 at *
      obtain ⟨R, hRR⟩ : ∃ R, w.heap.size = R := ⟨_, rfl⟩
      rw [hRR] at hR hRB hRc ⊢
      refine (num_any cb oa c vb B L p bad _ hD0).mono ?_
      rintro e w1 ⟨rfl, hD1, hT1⟩
      replace hR := (hT1.block R (lt_of_block hR) hRc).trans hR
      replace hT1 := hT0.trans hT1
      have kv1 := cell_of_block (i := 0) (v := .pointer (some ⟨cb, 0, none⟩)) hD1.var rfl
      clear kv hD0 hT0
      go_wp2_with fail
      refine (text_any cb oa c vb B L _ _ _ hD1).mono ?_
      rintro e w2 ⟨rfl, hD2, hT2⟩
      have hRn := (hT2.block R (lt_of_block hR) hRc).trans hR
      replace hT2 := hT1.trans hT2
      have c0 : w2.cell? ⟨R, 0, none⟩ = some (.bool false) := cell_of_block (i := 0) hRn rfl
      have f0 : w2.frozen? ⟨R, 0, none⟩ = false := frozen_of_block (i := 0) hRn
      have c1 : w2.cell? ⟨R, 1, none⟩ = some (.string ⟨#[]⟩) := cell_of_block (i := 1) hRn rfl
      have f1 : w2.frozen? ⟨R, 1, none⟩ = false := frozen_of_block (i := 1) hRn
      have c2 : w2.cell? ⟨R, 2, none⟩ = some (.int .i64 0) := cell_of_block (i := 2) hRn rfl
      have f2 : w2.frozen? ⟨R, 2, none⟩ = false := frozen_of_block (i := 2) hRn
      clear hR
      go_wp2
      have hfin := img_set (i := 2) (v := .int .i64 0) (img_set (i := 1) (v := .string (txtV L (numE L p))) (img_set (i := 0) (v := .bool true) hRn))
      refine bodyPost_ret (res_cn rfl hfin) rfl ⟨rfl, ?_, ?_⟩
      · exact hD2.keep (((Below.refl _ w2).setCell (p := ⟨R, 0, none⟩) hRB _).setCell (p := ⟨R, 1, none⟩) hRB _ |>.setCell (p := ⟨R, 2, none⟩) hRB _)
      · exact ((hT2.setCell (p := ⟨R, 0, none⟩) (Or.inr (Nat.le_of_eq hRR)) _).setCell (p := ⟨R, 1, none⟩) (Or.inr (Nat.le_of_eq hRR)) _).setCell (p := ⟨R, 2, none⟩) (Or.inr (Nat.le_of_eq hRR)) _
    · have hd1 : (numV L p == 1) = false := by simpa using h1
      rw [cn2 h0 h1]
      clear h1 h0
      have hR := heap_alloc_new w (.cells #[.bool false, .string ⟨#[]⟩, .int .i64 0] 68)
      have hD0 := h.keep (below_alloc (Below.refl _ w) (.cells #[.bool false, .string ⟨#[]⟩, .int .i64 0] 68) h.size)
      have hT0 : Tc cb w (w.alloc (.cells #[.bool false, .string ⟨#[]⟩, .int .i64 0] 68)) := (Turned.refl _ w).alloc _
      have hRB : B ≤ w.heap.size := h.size
      have hRc : w.heap.size ≠ cb := by have := h.lowc; omega
      go_enter Tryd.func52, Tryd.ntmps52
      have kv := cell_of_block (i := 0) (v := .pointer (some ⟨cb, 0, none⟩)) hD0.var rfl
      go_wp2_with fail
      generalize w.alloc (.cells #[.bool false, .string ⟨#[]⟩, .int .i64 0] 68) = w0 at *
      obtain ⟨R, hRR⟩ : ∃ R, w.heap.size = R := ⟨_, rfl⟩
      rw [hRR] at hR hRB hRc ⊢
      refine (num_any cb oa c vb B L p bad _ hD0).mono ?_
      rintro e w1 ⟨rfl, hD1, hT1⟩
      replace hR := (hT1.block R (lt_of_block hR) hRc).trans hR
      replace hT1 := hT0.trans hT1
      have kv1 := cell_of_block (i := 0) (v := .pointer (some ⟨cb, 0, none⟩)) hD1.var rfl
      clear kv hD0 hT0
      have k2 : w1.cell? ⟨cb, 2, none⟩ = some (.bool (bad || numF L p)) := cell_of_block hD1.blk rfl
      have g2 : w1.frozen? ⟨cb, 2, none⟩ = false := frozen_of_block hD1.blk
      have hD2 := hD1.fail
      have hT2 := hT1.setCell (p := ⟨cb, 2, none⟩) (Or.inl rfl) (.bool true)
      have hRn : (w1.setCell ⟨cb, 2, none⟩ (.bool true)).heap[R]? = _ := (blk_ne (p := ⟨cb, 2, none⟩) hRc).trans hR
      have hcR : cb ≠ R := Ne.symm hRc
      have c0 : w1.cell? ⟨R, 0, none⟩ = some (.bool false) := cell_of_block (i := 0) hR rfl
      have f0 : w1.frozen? ⟨R, 0, none⟩ = false := frozen_of_block (i := 0) hR
      have c1 : w1.cell? ⟨R, 1, none⟩ = some (.string ⟨#[]⟩) := cell_of_block (i := 1) hR rfl
      have f1 : w1.frozen? ⟨R, 1, none⟩ = false := frozen_of_block (i := 1) hR
      have c2 : w1.cell? ⟨R, 2, none⟩ = some (.int .i64 0) := cell_of_block (i := 2) hR rfl
      have f2 : w1.frozen? ⟨R, 2, none⟩ = false := frozen_of_block (i := 2) hR
      clear hR
      go_wp2
      generalize w1.setCell ⟨cb, 2, none⟩ (.bool true) = w2 at *
      have hfin := img_set (i := 2) (v := .int .i64 0) (img_set (i := 1) (v := .string ⟨#[]⟩) (img_set (i := 0) (v := .bool false) hRn))
      refine bodyPost_ret (res_cn rfl hfin) rfl ⟨rfl, ?_, ?_⟩
      · exact hD2.keep (((Below.refl _ w2).setCell (p := ⟨R, 0, none⟩) hRB _).setCell (p := ⟨R, 1, none⟩) hRB _ |>.setCell (p := ⟨R, 2, none⟩) hRB _)
      · exact ((hT2.setCell (p := ⟨R, 0, none⟩) (Or.inr (Nat.le_of_eq hRR)) _).setCell (p := ⟨R, 1, none⟩) (Or.inr (Nat.le_of_eq hRR)) _).setCell (p := ⟨R, 2, none⟩) (Or.inr (Nat.le_of_eq hRR)) _
end Go.Proofs.YthbkklnahhdgcaaDoor.DecEb
