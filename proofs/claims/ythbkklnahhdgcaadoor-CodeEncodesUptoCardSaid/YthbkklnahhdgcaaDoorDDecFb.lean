/-
  The closure of package code's Decode that reads a class.
-/
import Derived.Test.YthbkklnahhdgcaaDoorDDecFa
import Derived.Test.YthbkklnahhdgcaaDoorDMD
namespace Go.Proofs.YthbkklnahhdgcaaDoor.DecFb
open Go Go.Proofs Go.RowKit Lib CodeR CodeA CodeB CodeD CodeS CodeL EncA EncB DecA DecB DecC DecD DecEa DecFa

theorem res_cl {w : World} {tmps : Array Value} {b : Nat} {v0 : ByteArray} {v1 : Int} {o3 o4 o5 : Option Addr} {n3 n4 n5 k3 k4 k5 : Nat} (ht : tmps.getD 1 undef = .pointer (some ⟨b, 0, none⟩)) (hb : w.heap[b]? = some (.cells #[.string v0, .int .i64 v1, .slice o3 n3 k3, .slice o4 n4 k4, .slice o5 n5 k5] 63 (0, 0))) : (results Tryd.f56 tmps).run Tryd.prog w = .ok (.agg #[.string v0, .int .i64 v1, .slice o3 n3 k3, .slice o4 n4 k4, .slice o5 n5 k5]) w := by
  have ht' : tmps[1]?.getD undef = .pointer (some ⟨b, 0, none⟩) := by simpa using ht
  have h0 := cell_of_block (i := 0) hb rfl
  have h1 := cell_of_block (i := 1) hb rfl
  have h2 := cell_of_block (i := 2) hb rfl
  have h3 := cell_of_block (i := 3) hb rfl
  have h4 := cell_of_block (i := 4) hb rfl
  simp [results, ht', h0, h1, h2, h3, h4, go_sem]
theorem grown_below {B : Nat} {w w6 : World} {o : Obj} {row : Option Nat} (hgrow : (w.alloc o).grownBy w6 row) (hB : B ≤ w.heap.size) (hr : ∀ g, row = some g → B ≤ g) : Below B w w6 :=
  ⟨hgrow.os, hgrow.tape, hgrow.output, by have := hgrow.size; simp at this; omega, fun t ht => (hgrow.block t (by simp; omega) (fun h => by have := hr t h.symm; omega)).trans (Below.heap_alloc w o t (by omega))⟩
theorem rep_next {L : List UInt8} {n q : Nat} : rep (nmP L) (n + 1) q false = ((txtV L q, numV L (txtE L q)) :: (rep (nmP L) n (numE L (txtE L q)) ((false || manyF L q) || numF L (txtE L q))).1, (rep (nmP L) n (numE L (txtE L q)) ((false || manyF L q) || numF L (txtE L q))).2) := rfl

set_option maxRecDepth 100000 in
set_option maxHeartbeats 1600000 in
theorem cl_any (cb : Nat) (oa : Option Addr) (c vb B : Nat) (L : List UInt8) (p : Nat) (bad : Bool) (w : World) (h : DS cb oa c vb B L w p bad) :
    Calls Tryd.prog 56 #[.pointer (some ⟨vb, 0, none⟩)] w fun e w' => ∃ x : Cl, e = .returned (.agg #[.string x.name, .int .i64 x.above, .slice x.fieldsS.oa x.fieldsS.n x.fieldsS.c, .slice x.namesS.oa x.namesS.n x.namesS.c, .slice x.methodsS.oa x.methodsS.n x.methodsS.c]) ∧ ClSame (clP L p bad).1 x ∧ OwnCl w' x ∧ DS cb oa c vb B L w' (clP L p bad).2.1 (clP L p bad).2.2 ∧ Tc cb w w' := by
  have hR := heap_alloc_new w (.cells #[.string ⟨#[]⟩, .int .i64 0, .slice none 0 0, .slice none 0 0, .slice none 0 0] 63)
  have hD0 := h.keep (below_alloc (Below.refl _ w) (.cells #[.string ⟨#[]⟩, .int .i64 0, .slice none 0 0, .slice none 0 0, .slice none 0 0] 63) h.size)
  have hT0 : Tc cb w (w.alloc (.cells #[.string ⟨#[]⟩, .int .i64 0, .slice none 0 0, .slice none 0 0, .slice none 0 0] 63)) := (Turned.refl _ w).alloc _
  have hRB : B ≤ w.heap.size := h.size
  have hRc : w.heap.size ≠ cb := by have := h.lowc; omega
  have hRs : w.heap.size < (w.alloc (.cells #[.string ⟨#[]⟩, .int .i64 0, .slice none 0 0, .slice none 0 0, .slice none 0 0] 63)).heap.size := by simp
  have hlen := h.len
  obtain ⟨iS, hiS, hzS0, hzS1, hzS2⟩ := info_parts infoSt
  obtain ⟨iI, hiI, hzI0, hzI1, hzI2⟩ := info_parts infoIn
  go_enter Tryd.func56, Tryd.ntmps56
  go_wp2_with fail
  generalize w.alloc (.cells #[.string ⟨#[]⟩, .int .i64 0, .slice none 0 0, .slice none 0 0, .slice none 0 0] 63) = w0 at *
  obtain ⟨R, hRR⟩ : ∃ R, w.heap.size = R := ⟨_, rfl⟩
  rw [hRR] at hR hRB hRc hRs ⊢
  replace hD0 := hD0.drew
  replace hT0 := hT0.drew
  have hRd : w0.drew.heap[R]? = some (.cells #[.string ⟨#[]⟩, .int .i64 0, .slice none 0 0, .slice none 0 0, .slice none 0 0] 63 (0, 0)) := hR
  have kv : w0.cell? ⟨vb, 0, none⟩ = some (.pointer (some ⟨cb, 0, none⟩)) := cell_of_block (i := 0) hD0.var rfl
  go_upto_region 1 with fail
  go_cut [2] (fun s2 wx => ∃ X, s2 = .pointer (some ⟨X, 0, none⟩) ∧ B ≤ X ∧ X ≠ cb ∧ X ≠ R ∧ w.heap.size ≤ X ∧ wx.heap[X]? = some (.cells #[.string (txtV L (p)), .int .i64 (numV L (txtE L (p))), .slice none 0 0, .slice none 0 0, .slice none 0 0] 63 (0, 0)) ∧ wx.heap[R]? = some (.cells #[.string ⟨#[]⟩, .int .i64 0, .slice none 0 0, .slice none 0 0, .slice none 0 0] 63 (0, 0)) ∧ DS cb oa c vb B L wx (numE L (txtE L (p))) ((bad || manyF L (p)) || numF L (txtE L (p))) ∧ Tc cb w wx)
  case first =>
    refine RegU.begin (S := fun wz => wz.cell? ⟨vb, 0, none⟩ = some (.pointer (some ⟨cb, 0, none⟩))) (N := [0, 1, 2, 5]) (by kernel_rfl) ?_ (fun hHeld => ?_)
    · (try dsimp only); go_keep
    generalize w0.drew = wd at *
    refine RegU.take [1, 3, 4, 6] (i := 0) (v := ?_) rfl (by kernel_rfl) (by kernel_rfl) (by kernel_rfl) (by kernel_rfl) (by kernel_rfl) (fun _ _ _ h => h) (Or.inl ⟨by rfl, ?_⟩) (by assumption) ?_
    rotate_left
    · intro w hSw; (try dsimp only at hSw); go_simp; first | done | with_reducible rfl
    try simp only [Act.put, List.setIfInBounds_toArray, List.set_cons_zero, List.set_cons_succ]
    refine RegU.take [3, 4, 6] (i := 2) (v := ?_) rfl (by kernel_rfl) (by kernel_rfl) (by kernel_rfl) (by kernel_rfl) (by kernel_rfl) (fun _ _ _ h => h) (Or.inl ⟨by rfl, ?_⟩) (by assumption) ?_
    rotate_left
    · intro w hSw; (try dsimp only at hSw); go_simp; first | done | with_reducible rfl
    try simp only [Act.put, List.setIfInBounds_toArray, List.set_cons_zero, List.set_cons_succ]
    refine RegU.two (i := 1) (j := 5) (by kernel_rfl) rfl rfl (fun K hK => ?_) (fun K hK => ?_)
    · go_simp
      refine (text_any cb oa c vb B L (p) bad _ hD0).mono ?_
      rintro e w1 ⟨rfl, hD_w1, hT_w1⟩
      have hR_w1 : w1.heap[R]? = _ := (hT_w1.block R (lt_of_block hRd) hRc).trans hRd
      replace hT_w1 := hT0.trans hT_w1
      refine hK.out _ _ (cell_of_block (i := 0) hD_w1.var rfl) (fun hHeld => ?_)
      clear hK K
      try simp only [Act.put, List.setIfInBounds_toArray, List.set_cons_zero, List.set_cons_succ]
      refine RegU.two (i := 3) (j := 5) (by kernel_rfl) rfl rfl (fun K hK => ?_) (fun K hK => ?_)
      · go_simp
        refine (num_any cb oa c vb B L (txtE L (p)) (bad || manyF L (p)) _ hD_w1).mono ?_
        rintro e w2 ⟨rfl, hD_w2, hT_w2⟩
        have hR_w2 : w2.heap[R]? = _ := (hT_w2.block R (lt_of_block hR_w1) hRc).trans hR_w1
        replace hT_w2 := hT_w1.trans hT_w2
        refine hK.out _ _ (cell_of_block (i := 0) hD_w2.var rfl) (fun hHeld => ?_)
        clear hK K
        try simp only [Act.put, List.setIfInBounds_toArray, List.set_cons_zero, List.set_cons_succ]
        refine RegU.take [6] (i := 4) (v := ?_) rfl (by kernel_rfl) (by kernel_rfl) (by kernel_rfl) (by kernel_rfl) (by kernel_rfl) (fun _ _ _ h => h) (Or.inl ⟨by rfl, ?_⟩) (by assumption) ?_
        rotate_left
        · intro w hSw; (try dsimp only at hSw); go_simp; first | done | with_reducible rfl
        try simp only [Act.put, List.setIfInBounds_toArray, List.set_cons_zero, List.set_cons_succ]
        refine RegU.one (i := 5) (by kernel_rfl) rfl (fun K hK => ?_)
        go_simp
        have eB : B ≤ w2.heap.size := hD_w2.size
        have ec : w2.heap.size ≠ cb := by have := hD_w2.lowc; omega
        have eR : w2.heap.size ≠ R := by have := lt_of_block hR_w2; omega
        have ew : w.heap.size ≤ w2.heap.size := hT_w2.size
        have hX_w3 := heap_alloc_new w2 (.cells #[.string ⟨#[]⟩, .int .i64 0, .slice none 0 0, .slice none 0 0, .slice none 0 0] 63)
        have hD_w3 := hD_w2.keep (below_alloc (Below.refl _ w2) (.cells #[.string ⟨#[]⟩, .int .i64 0, .slice none 0 0, .slice none 0 0, .slice none 0 0] 63) eB)
        have hT_w3 := hT_w2.alloc (.cells #[.string ⟨#[]⟩, .int .i64 0, .slice none 0 0, .slice none 0 0, .slice none 0 0] 63)
        have hR_w3 : (w2.alloc (.cells #[.string ⟨#[]⟩, .int .i64 0, .slice none 0 0, .slice none 0 0, .slice none 0 0] 63)).heap[R]? = _ := (Below.heap_alloc w2 _ R (lt_of_block hR_w2)).trans hR_w2
        refine hK.out _ _ (cell_of_block (i := 0) hD_w3.var rfl) (fun hHeld => ?_)
        clear hK K
        try simp only [Act.put, List.setIfInBounds_toArray, List.set_cons_zero, List.set_cons_succ]
        generalize w2.alloc (.cells #[.string ⟨#[]⟩, .int .i64 0, .slice none 0 0, .slice none 0 0, .slice none 0 0] 63) = w3 at *
        generalize w2.heap.size = X at *
        refine RegU.rest [6] [_] (by kernel_rfl) rfl ?_
        have c0 : w3.cell? ⟨X, 0, none⟩ = some (.string ⟨#[]⟩) := cell_of_block (i := 0) hX_w3 rfl
        have f0 : w3.frozen? ⟨X, 0, none⟩ = false := frozen_of_block (i := 0) hX_w3
        have c1 : w3.cell? ⟨X, 1, none⟩ = some (.int .i64 0) := cell_of_block (i := 1) hX_w3 rfl
        have f1 : w3.frozen? ⟨X, 1, none⟩ = false := frozen_of_block (i := 1) hX_w3
        have c2 : w3.cell? ⟨X, 2, none⟩ = some (.slice none 0 0) := cell_of_block (i := 2) hX_w3 rfl
        have f2 : w3.frozen? ⟨X, 2, none⟩ = false := frozen_of_block (i := 2) hX_w3
        have c3 : w3.cell? ⟨X, 3, none⟩ = some (.slice none 0 0) := cell_of_block (i := 3) hX_w3 rfl
        have f3 : w3.frozen? ⟨X, 3, none⟩ = false := frozen_of_block (i := 3) hX_w3
        have c4 : w3.cell? ⟨X, 4, none⟩ = some (.slice none 0 0) := cell_of_block (i := 4) hX_w3 rfl
        have f4 : w3.frozen? ⟨X, 4, none⟩ = false := frozen_of_block (i := 4) hX_w3
        go_wp2
        go_meet
        case rel => exact ⟨X, rfl, eB, ec, eR, ew, (img_set (i := 4) (v := .slice none 0 0) (img_set (i := 3) (v := .slice none 0 0) (img_set (i := 2) (v := .slice none 0 0) (img_set (i := 1) (v := .int .i64 (numV L (txtE L (p)))) (img_set (i := 0) (v := .string (txtV L (p))) hX_w3))))), ((blk_ne (p := ⟨X, 4, none⟩) (v := .slice none 0 0) (Ne.symm eR)).trans ((blk_ne (p := ⟨X, 3, none⟩) (v := .slice none 0 0) (Ne.symm eR)).trans ((blk_ne (p := ⟨X, 2, none⟩) (v := .slice none 0 0) (Ne.symm eR)).trans ((blk_ne (p := ⟨X, 1, none⟩) (v := .int .i64 (numV L (txtE L (p)))) (Ne.symm eR)).trans ((blk_ne (p := ⟨X, 0, none⟩) (v := .string (txtV L (p))) (Ne.symm eR)).trans hR_w3))))), hD_w3.keep ((((((Below.refl _ w3).setCell (p := ⟨X, 0, none⟩) eB (.string (txtV L (p)))).setCell (p := ⟨X, 1, none⟩) eB (.int .i64 (numV L (txtE L (p))))).setCell (p := ⟨X, 2, none⟩) eB (.slice none 0 0)).setCell (p := ⟨X, 3, none⟩) eB (.slice none 0 0)).setCell (p := ⟨X, 4, none⟩) eB (.slice none 0 0)), (((((hT_w3.setCell (p := ⟨X, 0, none⟩) (Or.inr ew) (.string (txtV L (p)))).setCell (p := ⟨X, 1, none⟩) (Or.inr ew) (.int .i64 (numV L (txtE L (p))))).setCell (p := ⟨X, 2, none⟩) (Or.inr ew) (.slice none 0 0)).setCell (p := ⟨X, 3, none⟩) (Or.inr ew) (.slice none 0 0)).setCell (p := ⟨X, 4, none⟩) (Or.inr ew) (.slice none 0 0))⟩
      · go_simp
        have eB : B ≤ w1.heap.size := hD_w1.size
        have ec : w1.heap.size ≠ cb := by have := hD_w1.lowc; omega
        have eR : w1.heap.size ≠ R := by have := lt_of_block hR_w1; omega
        have ew : w.heap.size ≤ w1.heap.size := hT_w1.size
        have hX_w2 := heap_alloc_new w1 (.cells #[.string ⟨#[]⟩, .int .i64 0, .slice none 0 0, .slice none 0 0, .slice none 0 0] 63)
        have hD_w2 := hD_w1.keep (below_alloc (Below.refl _ w1) (.cells #[.string ⟨#[]⟩, .int .i64 0, .slice none 0 0, .slice none 0 0, .slice none 0 0] 63) eB)
        have hT_w2 := hT_w1.alloc (.cells #[.string ⟨#[]⟩, .int .i64 0, .slice none 0 0, .slice none 0 0, .slice none 0 0] 63)
        have hR_w2 : (w1.alloc (.cells #[.string ⟨#[]⟩, .int .i64 0, .slice none 0 0, .slice none 0 0, .slice none 0 0] 63)).heap[R]? = _ := (Below.heap_alloc w1 _ R (lt_of_block hR_w1)).trans hR_w1
        refine hK.out _ _ (cell_of_block (i := 0) hD_w2.var rfl) (fun hHeld => ?_)
        clear hK K
        try simp only [Act.put, List.setIfInBounds_toArray, List.set_cons_zero, List.set_cons_succ]
        generalize w1.alloc (.cells #[.string ⟨#[]⟩, .int .i64 0, .slice none 0 0, .slice none 0 0, .slice none 0 0] 63) = w2 at *
        generalize w1.heap.size = X at *
        refine RegU.rest [3, 4, 6] [_, _, _] (by kernel_rfl) rfl ?_
        go_wp2_with fail
        refine (num_any cb oa c vb B L (txtE L (p)) (bad || manyF L (p)) _ hD_w2).mono ?_
        rintro e w3 ⟨rfl, hD_w3, hT_w3⟩
        have hR_w3 : w3.heap[R]? = _ := (hT_w3.block R (lt_of_block hR_w2) hRc).trans hR_w2
        have hX_w3 : w3.heap[X]? = _ := (hT_w3.block X (lt_of_block hX_w2) ec).trans hX_w2
        replace hT_w3 := hT_w2.trans hT_w3
        have c0 : w3.cell? ⟨X, 0, none⟩ = some (.string ⟨#[]⟩) := cell_of_block (i := 0) hX_w3 rfl
        have f0 : w3.frozen? ⟨X, 0, none⟩ = false := frozen_of_block (i := 0) hX_w3
        have c1 : w3.cell? ⟨X, 1, none⟩ = some (.int .i64 0) := cell_of_block (i := 1) hX_w3 rfl
        have f1 : w3.frozen? ⟨X, 1, none⟩ = false := frozen_of_block (i := 1) hX_w3
        have c2 : w3.cell? ⟨X, 2, none⟩ = some (.slice none 0 0) := cell_of_block (i := 2) hX_w3 rfl
        have f2 : w3.frozen? ⟨X, 2, none⟩ = false := frozen_of_block (i := 2) hX_w3
        have c3 : w3.cell? ⟨X, 3, none⟩ = some (.slice none 0 0) := cell_of_block (i := 3) hX_w3 rfl
        have f3 : w3.frozen? ⟨X, 3, none⟩ = false := frozen_of_block (i := 3) hX_w3
        have c4 : w3.cell? ⟨X, 4, none⟩ = some (.slice none 0 0) := cell_of_block (i := 4) hX_w3 rfl
        have f4 : w3.frozen? ⟨X, 4, none⟩ = false := frozen_of_block (i := 4) hX_w3
        go_wp2
        go_meet
        case rel => exact ⟨X, rfl, eB, ec, eR, ew, (img_set (i := 4) (v := .slice none 0 0) (img_set (i := 3) (v := .slice none 0 0) (img_set (i := 2) (v := .slice none 0 0) (img_set (i := 1) (v := .int .i64 (numV L (txtE L (p)))) (img_set (i := 0) (v := .string (txtV L (p))) hX_w3))))), ((blk_ne (p := ⟨X, 4, none⟩) (v := .slice none 0 0) (Ne.symm eR)).trans ((blk_ne (p := ⟨X, 3, none⟩) (v := .slice none 0 0) (Ne.symm eR)).trans ((blk_ne (p := ⟨X, 2, none⟩) (v := .slice none 0 0) (Ne.symm eR)).trans ((blk_ne (p := ⟨X, 1, none⟩) (v := .int .i64 (numV L (txtE L (p)))) (Ne.symm eR)).trans ((blk_ne (p := ⟨X, 0, none⟩) (v := .string (txtV L (p))) (Ne.symm eR)).trans hR_w3))))), hD_w3.keep ((((((Below.refl _ w3).setCell (p := ⟨X, 0, none⟩) eB (.string (txtV L (p)))).setCell (p := ⟨X, 1, none⟩) eB (.int .i64 (numV L (txtE L (p))))).setCell (p := ⟨X, 2, none⟩) eB (.slice none 0 0)).setCell (p := ⟨X, 3, none⟩) eB (.slice none 0 0)).setCell (p := ⟨X, 4, none⟩) eB (.slice none 0 0)), (((((hT_w3.setCell (p := ⟨X, 0, none⟩) (Or.inr ew) (.string (txtV L (p)))).setCell (p := ⟨X, 1, none⟩) (Or.inr ew) (.int .i64 (numV L (txtE L (p))))).setCell (p := ⟨X, 2, none⟩) (Or.inr ew) (.slice none 0 0)).setCell (p := ⟨X, 3, none⟩) (Or.inr ew) (.slice none 0 0)).setCell (p := ⟨X, 4, none⟩) (Or.inr ew) (.slice none 0 0))⟩
    · go_simp
      have eB : B ≤ wd.heap.size := hD0.size
      have ec : wd.heap.size ≠ cb := by have := hD0.lowc; omega
      have eR : wd.heap.size ≠ R := by have := lt_of_block hRd; omega
      have ew : w.heap.size ≤ wd.heap.size := hT0.size
      have hX_w1 := heap_alloc_new wd (.cells #[.string ⟨#[]⟩, .int .i64 0, .slice none 0 0, .slice none 0 0, .slice none 0 0] 63)
      have hD_w1 := hD0.keep (below_alloc (Below.refl _ wd) (.cells #[.string ⟨#[]⟩, .int .i64 0, .slice none 0 0, .slice none 0 0, .slice none 0 0] 63) eB)
      have hT_w1 := hT0.alloc (.cells #[.string ⟨#[]⟩, .int .i64 0, .slice none 0 0, .slice none 0 0, .slice none 0 0] 63)
      have hR_w1 : (wd.alloc (.cells #[.string ⟨#[]⟩, .int .i64 0, .slice none 0 0, .slice none 0 0, .slice none 0 0] 63)).heap[R]? = _ := (Below.heap_alloc wd _ R (lt_of_block hRd)).trans hRd
      refine hK.out _ _ (cell_of_block (i := 0) hD_w1.var rfl) (fun hHeld => ?_)
      clear hK K
      try simp only [Act.put, List.setIfInBounds_toArray, List.set_cons_zero, List.set_cons_succ]
      generalize wd.alloc (.cells #[.string ⟨#[]⟩, .int .i64 0, .slice none 0 0, .slice none 0 0, .slice none 0 0] 63) = w1 at *
      generalize wd.heap.size = X at *
      refine RegU.one (i := 1) (by kernel_rfl) rfl (fun K hK => ?_)
      go_simp
      refine (text_any cb oa c vb B L (p) bad _ hD_w1).mono ?_
      rintro e w2 ⟨rfl, hD_w2, hT_w2⟩
      have hR_w2 : w2.heap[R]? = _ := (hT_w2.block R (lt_of_block hR_w1) hRc).trans hR_w1
      have hX_w2 : w2.heap[X]? = _ := (hT_w2.block X (lt_of_block hX_w1) ec).trans hX_w1
      replace hT_w2 := hT_w1.trans hT_w2
      refine hK.out _ _ (cell_of_block (i := 0) hD_w2.var rfl) (fun hHeld => ?_)
      clear hK K
      try simp only [Act.put, List.setIfInBounds_toArray, List.set_cons_zero, List.set_cons_succ]
      refine RegU.rest [3, 4, 6] [_, _, _] (by kernel_rfl) rfl ?_
      go_wp2_with fail
      refine (num_any cb oa c vb B L (txtE L (p)) (bad || manyF L (p)) _ hD_w2).mono ?_
      rintro e w3 ⟨rfl, hD_w3, hT_w3⟩
      have hR_w3 : w3.heap[R]? = _ := (hT_w3.block R (lt_of_block hR_w2) hRc).trans hR_w2
      have hX_w3 : w3.heap[X]? = _ := (hT_w3.block X (lt_of_block hX_w2) ec).trans hX_w2
      replace hT_w3 := hT_w2.trans hT_w3
      have c0 : w3.cell? ⟨X, 0, none⟩ = some (.string ⟨#[]⟩) := cell_of_block (i := 0) hX_w3 rfl
      have f0 : w3.frozen? ⟨X, 0, none⟩ = false := frozen_of_block (i := 0) hX_w3
      have c1 : w3.cell? ⟨X, 1, none⟩ = some (.int .i64 0) := cell_of_block (i := 1) hX_w3 rfl
      have f1 : w3.frozen? ⟨X, 1, none⟩ = false := frozen_of_block (i := 1) hX_w3
      have c2 : w3.cell? ⟨X, 2, none⟩ = some (.slice none 0 0) := cell_of_block (i := 2) hX_w3 rfl
      have f2 : w3.frozen? ⟨X, 2, none⟩ = false := frozen_of_block (i := 2) hX_w3
      have c3 : w3.cell? ⟨X, 3, none⟩ = some (.slice none 0 0) := cell_of_block (i := 3) hX_w3 rfl
      have f3 : w3.frozen? ⟨X, 3, none⟩ = false := frozen_of_block (i := 3) hX_w3
      have c4 : w3.cell? ⟨X, 4, none⟩ = some (.slice none 0 0) := cell_of_block (i := 4) hX_w3 rfl
      have f4 : w3.frozen? ⟨X, 4, none⟩ = false := frozen_of_block (i := 4) hX_w3
      go_wp2
      go_meet
      case rel => exact ⟨X, rfl, eB, ec, eR, ew, (img_set (i := 4) (v := .slice none 0 0) (img_set (i := 3) (v := .slice none 0 0) (img_set (i := 2) (v := .slice none 0 0) (img_set (i := 1) (v := .int .i64 (numV L (txtE L (p)))) (img_set (i := 0) (v := .string (txtV L (p))) hX_w3))))), ((blk_ne (p := ⟨X, 4, none⟩) (v := .slice none 0 0) (Ne.symm eR)).trans ((blk_ne (p := ⟨X, 3, none⟩) (v := .slice none 0 0) (Ne.symm eR)).trans ((blk_ne (p := ⟨X, 2, none⟩) (v := .slice none 0 0) (Ne.symm eR)).trans ((blk_ne (p := ⟨X, 1, none⟩) (v := .int .i64 (numV L (txtE L (p)))) (Ne.symm eR)).trans ((blk_ne (p := ⟨X, 0, none⟩) (v := .string (txtV L (p))) (Ne.symm eR)).trans hR_w3))))), hD_w3.keep ((((((Below.refl _ w3).setCell (p := ⟨X, 0, none⟩) eB (.string (txtV L (p)))).setCell (p := ⟨X, 1, none⟩) eB (.int .i64 (numV L (txtE L (p))))).setCell (p := ⟨X, 2, none⟩) eB (.slice none 0 0)).setCell (p := ⟨X, 3, none⟩) eB (.slice none 0 0)).setCell (p := ⟨X, 4, none⟩) eB (.slice none 0 0)), (((((hT_w3.setCell (p := ⟨X, 0, none⟩) (Or.inr ew) (.string (txtV L (p)))).setCell (p := ⟨X, 1, none⟩) (Or.inr ew) (.int .i64 (numV L (txtE L (p))))).setCell (p := ⟨X, 2, none⟩) (Or.inr ew) (.slice none 0 0)).setCell (p := ⟨X, 3, none⟩) (Or.inr ew) (.slice none 0 0)).setCell (p := ⟨X, 4, none⟩) (Or.inr ew) (.slice none 0 0))⟩
  case rest =>
    obtain ⟨X, rfl, hXB, hXc, hXR, hXw, hX4, hR4, hD4, hT4⟩ := hcut
    have kv4 := cell_of_block (i := 0) (v := .pointer (some ⟨cb, 0, none⟩)) hD4.var rfl
    clear hR hRd kv hD0 hT0
    go_wp2_with fail
    refine (DecLSt.list_any cb oa c vb B L (tP L) (fun p bad w h => text_any cb oa c vb B L p bad w h) (numE L (txtE L (p))) ((bad || manyF L (p)) || numF L (txtE L (p))) _ hD4).mono ?_
    rintro e w5 ⟨v2, rfl, hO2, hD5, hT5⟩
    have hX5 := (hT5.block X (lt_of_block hX4) hXc).trans hX4
    have hR5 := (hT5.block R (lt_of_block hR4) hRc).trans hR4
    replace hT5 := hT4.trans hT5
    clear hX4 hR4 hD4 hT4 kv4
    have hX9 := lt_of_block hX5
    obtain ⟨o2, n2, k2, rfl⟩ := own_sl hO2 (by intro r hr; obtain ⟨y, _, rfl⟩ := List.mem_map.mp hr; rfl)
    have hb2 : ∀ g, (Value.slice o2 n2 k2).ownBlock = some g → g < w5.heap.size := fun g hg => (own_base hO2 hg).2
    have hO2 := hO2.low
    have c2 : w5.cell? ⟨X, 2, none⟩ = some (.slice none 0 0) := cell_of_block (i := 2) hX5 rfl
    have f2 : w5.frozen? ⟨X, 2, none⟩ = false := frozen_of_block (i := 2) hX5
    have hD6 := hD5.keep ((Below.refl _ w5).setCell (p := ⟨X, 2, none⟩) hXB (.slice o2 n2 k2))
    have hT6 := hT5.setCell (p := ⟨X, 2, none⟩) (Or.inr hXw) (.slice o2 n2 k2)
    have hX6 := img_set (i := 2) (v := (.slice o2 n2 k2)) hX5
    have hR6 := (blk_ne (p := ⟨X, 2, none⟩) (v := (.slice o2 n2 k2)) (Ne.symm hXR)).trans hR5
    have hO6 : OR (w5.setCell ⟨X, 2, none⟩ (.slice o2 n2 k2)) 0 9 1 (.slice o2 n2 k2) _ := hO2.keep (fun g hg => block_setCell_ne (by rintro rfl; obtain ⟨cur, hc⟩ := own_block hO2 hg; rw [hX5] at hc; cases hc))
    have hs6 : (w5.setCell ⟨X, 2, none⟩ (.slice o2 n2 k2)).heap.size = w5.heap.size := by simp
    have kv5 : w5.cell? ⟨vb, 0, none⟩ = some (.pointer (some ⟨cb, 0, none⟩)) := cell_of_block (i := 0) hD5.var rfl
    go_wp2_with fail
    refine (many_any cb oa c vb B L _ _ _ hD6).mono ?_
    rintro e w7 ⟨rfl, hD7, hT7⟩
    have hX7 := (hT7.block X (lt_of_block hX6) hXc).trans hX6
    have hR7 := (hT7.block R (lt_of_block hR6) hRc).trans hR6
    have hO7 : OR w7 0 9 1 (.slice o2 n2 k2) _ := own_stay (Stay.of_tc hD6 hT7) (by decide) hO6
    have hs7 := hT7.size
    rw [hs6] at hs7
    replace hT7 := hT6.trans hT7
    obtain ⟨BN, hBN⟩ : ∃ BN, w7.heap.size = BN := ⟨_, rfl⟩
    replace hb2 : ∀ g, (Value.slice o2 n2 k2).ownBlock = some g → g < BN := fun g hg => by have := hb2 g hg; omega
    have hXN : X < BN := by have := lt_of_block hX7; omega
    have hRN : R < BN := by have := lt_of_block hR7; omega
    have hBBN : B ≤ BN := by have := hD7.size; omega
    have hmm := many_len L _ hD6.le
    clear hX5 hR5 hD5 hT5 hX6 hR6 hD6 hT6 hO6 hO2 hs6 c2 f2 kv5
    have hcl : clP L p bad = (⟨txtV L p, numV L (txtE L p), (lst L (tP L) (numE L (txtE L p)) ((bad || manyF L p) || numF L (txtE L p))).1, (lst L (nmP L) (lst L (tP L) (numE L (txtE L p)) ((bad || manyF L p) || numF L (txtE L p))).2.1 (lst L (tP L) (numE L (txtE L p)) ((bad || manyF L p) || numF L (txtE L p))).2.2).1.map (·.1), (lst L (nmP L) (lst L (tP L) (numE L (txtE L p)) ((bad || manyF L p) || numF L (txtE L p))).2.1 (lst L (tP L) (numE L (txtE L p)) ((bad || manyF L p) || numF L (txtE L p))).2.2).1.map (·.2), noSl, noSl, noSl⟩, (lst L (nmP L) (lst L (tP L) (numE L (txtE L p)) ((bad || manyF L p) || numF L (txtE L p))).2.1 (lst L (tP L) (numE L (txtE L p)) ((bad || manyF L p) || numF L (txtE L p))).2.2).2) := rfl
    generalize lst L (tP L) (numE L (txtE L p)) ((bad || manyF L p) || numF L (txtE L p)) = F at *
    have hw7 : w.heap.size ≤ BN := by omega
    go_wp2_with fail
    go_loopw [3] (fun s3 wr => ∃ (n : Nat) (vN vM : Value) (ns : List (ByteArray × Int)) (q : Nat) (bd : Bool), s3 = .int .i64 (n : Int) ∧ ns.length + n ≤ 100000 ∧ OR wr 0 9 1 (.slice o2 n2 k2) (F.1.map fun s => [.string s]) ∧ OR wr BN 9 1 vN (ns.map fun x => [.string x.1]) ∧ OR wr BN 3 1 vM (ns.map fun x => [.int .i64 x.2]) ∧ wr.heap[X]? = some (.cells #[.string (txtV L p), .int .i64 (numV L (txtE L p)), (.slice o2 n2 k2), vN, vM] 63 (0, 0)) ∧ wr.heap[R]? = some (.cells #[.string ⟨#[]⟩, .int .i64 0, .slice none 0 0, .slice none 0 0, .slice none 0 0] 63 (0, 0)) ∧ DS cb oa c vb B L wr q bd ∧ Tc cb w wr ∧ BN ≤ wr.heap.size ∧ Aside (rep (nmP L) (manyV L F.2.1) (numE L F.2.1) (F.2.2 || manyF L F.2.1) = (ns ++ (rep (nmP L) n q bd).1, (rep (nmP L) n q bd).2))) (fun s3 _ => (intOf s3).toNat)
    case atStart => exact ⟨manyV L F.2.1, _, _, [], numE L F.2.1, F.2.2 || manyF L F.2.1, rfl, by simp; omega, hO7, OR.nil _ _ _ _, OR.nil _ _ _ _, hX7, hR7, hD7, hT7, by omega, rfl⟩
    case round =>
      obtain ⟨n, vN, vM, ns, q, bd, rfl, hn, hO2, hON, hOM, hXr, hRr, hD, hT, hBr, hA⟩ := hrel
      have kv : wr.cell? ⟨vb, 0, none⟩ = some (.pointer (some ⟨cb, 0, none⟩)) := cell_of_block (i := 0) hD.var rfl
      have kb2 : wr.cell? ⟨cb, 2, none⟩ = some (.bool bd) := cell_of_block hD.blk rfl
      obtain ⟨oN, nN, kN, rfl⟩ := own_sl hON (by intro r hr; obtain ⟨y, _, rfl⟩ := List.mem_map.mp hr; rfl)
      obtain ⟨oM, nM, kM, rfl⟩ := own_sl hOM (by intro r hr; obtain ⟨y, _, rfl⟩ := List.mem_map.mp hr; rfl)
      have x0 : wr.cell? ⟨X, 0, none⟩ = some (.string (txtV L p)) := cell_of_block (i := 0) hXr rfl
      have x1 : wr.cell? ⟨X, 1, none⟩ = some (.int .i64 (numV L (txtE L p))) := cell_of_block (i := 1) hXr rfl
      have x2 : wr.cell? ⟨X, 2, none⟩ = some ((.slice o2 n2 k2)) := cell_of_block (i := 2) hXr rfl
      have x3 : wr.cell? ⟨X, 3, none⟩ = some ((.slice oN nN kN)) := cell_of_block (i := 3) hXr rfl
      have x4 : wr.cell? ⟨X, 4, none⟩ = some ((.slice oM nM kM)) := cell_of_block (i := 4) hXr rfl
      have hdone : ∀ bq, (bq = true ∨ n = 0) → bd = bq → lst L (nmP L) F.2.1 F.2.2 = (ns, q, bd) := by
        intro bq hq hb
        subst hb
        unfold lst
        rw [hA.out]
        rcases hq with rfl | rfl
        · rw [rep_bad]; simp
        · rw [rep_zero]; simp
      cases n with
      | zero =>
        have hfa := hdone bd (Or.inr rfl) rfl
        have r0 : wr.cell? ⟨R, 0, none⟩ = some (.string ⟨#[]⟩) := cell_of_block (i := 0) hRr rfl
        have g0 : wr.frozen? ⟨R, 0, none⟩ = false := frozen_of_block (i := 0) hRr
        have r1 : wr.cell? ⟨R, 1, none⟩ = some (.int .i64 0) := cell_of_block (i := 1) hRr rfl
        have g1 : wr.frozen? ⟨R, 1, none⟩ = false := frozen_of_block (i := 1) hRr
        have r2 : wr.cell? ⟨R, 2, none⟩ = some (.slice none 0 0) := cell_of_block (i := 2) hRr rfl
        have g2 : wr.frozen? ⟨R, 2, none⟩ = false := frozen_of_block (i := 2) hRr
        have r3 : wr.cell? ⟨R, 3, none⟩ = some (.slice none 0 0) := cell_of_block (i := 3) hRr rfl
        have g3 : wr.frozen? ⟨R, 3, none⟩ = false := frozen_of_block (i := 3) hRr
        have r4 : wr.cell? ⟨R, 4, none⟩ = some (.slice none 0 0) := cell_of_block (i := 4) hRr rfl
        have g4 : wr.frozen? ⟨R, 4, none⟩ = false := frozen_of_block (i := 4) hRr
        have hXR2 := Ne.symm hXR
        go_wp2
        obtain ⟨hW2, hm2, hs2⟩ := own_val hO2 (by intro r hr; obtain ⟨y, _, rfl⟩ := List.mem_map.mp hr; rfl)
        obtain ⟨hW3, hm3, hs3⟩ := own_val hON (by intro r hr; obtain ⟨y, _, rfl⟩ := List.mem_map.mp hr; rfl)
        obtain ⟨hW4, hm4, hs4⟩ := own_val hOM (by intro r hr; obtain ⟨y, _, rfl⟩ := List.mem_map.mp hr; rfl)
        have hfin := (img_set (i := 4) (v := (.slice oM nM kM)) (img_set (i := 3) (v := (.slice oN nN kN)) (img_set (i := 2) (v := (.slice o2 n2 k2)) (img_set (i := 1) (v := .int .i64 (numV L (txtE L p))) (img_set (i := 0) (v := .string (txtV L p)) hRr)))))
        have hst := (Stay.setCell (i := 4) (v := (.slice oM nM kM)) (Stay.setCell (i := 3) (v := (.slice oN nN kN)) (Stay.setCell (i := 2) (v := (.slice o2 n2 k2)) (Stay.setCell (i := 1) (v := .int .i64 (numV L (txtE L p))) (Stay.setCell (i := 0) (v := .string (txtV L p)) (Stay.refl wr) hRr (by decide)) (img_set (i := 0) (v := .string (txtV L p)) hRr) (by decide)) (img_set (i := 1) (v := .int .i64 (numV L (txtE L p))) (img_set (i := 0) (v := .string (txtV L p)) hRr)) (by decide)) (img_set (i := 2) (v := (.slice o2 n2 k2)) (img_set (i := 1) (v := .int .i64 (numV L (txtE L p))) (img_set (i := 0) (v := .string (txtV L p)) hRr))) (by decide)) (img_set (i := 3) (v := (.slice oN nN kN)) (img_set (i := 2) (v := (.slice o2 n2 k2)) (img_set (i := 1) (v := .int .i64 (numV L (txtE L p))) (img_set (i := 0) (v := .string (txtV L p)) hRr)))) (by decide))
        have hDf := hD.keep ((((((Below.refl _ wr).setCell (p := ⟨R, 0, none⟩) hRB (.string (txtV L p))).setCell (p := ⟨R, 1, none⟩) hRB (.int .i64 (numV L (txtE L p)))).setCell (p := ⟨R, 2, none⟩) hRB ((.slice o2 n2 k2))).setCell (p := ⟨R, 3, none⟩) hRB ((.slice oN nN kN))).setCell (p := ⟨R, 4, none⟩) hRB ((.slice oM nM kM)))
        have hTf := (((((hT.setCell (p := ⟨R, 0, none⟩) (Or.inr (Nat.le_of_eq hRR)) (.string (txtV L p))).setCell (p := ⟨R, 1, none⟩) (Or.inr (Nat.le_of_eq hRR)) (.int .i64 (numV L (txtE L p)))).setCell (p := ⟨R, 2, none⟩) (Or.inr (Nat.le_of_eq hRR)) ((.slice o2 n2 k2))).setCell (p := ⟨R, 3, none⟩) (Or.inr (Nat.le_of_eq hRR)) ((.slice oN nN kN))).setCell (p := ⟨R, 4, none⟩) (Or.inr (Nat.le_of_eq hRR)) ((.slice oM nM kM)))
        refine bodyPost_ret (res_cl rfl hfin) rfl ⟨⟨txtV L p, numV L (txtE L p), F.1, ns.map (·.1), ns.map (·.2), mkSl (.slice o2 n2 k2), mkSl (.slice oN nN kN), mkSl (.slice oM nM kM)⟩, by rw [← hs2, ← hs3, ← hs4], ?_, ?_, ?_, ?_⟩
        · first | exact ⟨rfl, rfl, rfl, rfl, rfl⟩ | (rw [hcl, hfa]; exact ⟨rfl, rfl, rfl, rfl, rfl⟩)
        · exact OwnCl.stay ⟨hW2, by rw [List.map_map]; exact hW3, by rw [List.map_map]; exact hW4, hm2, hm3, hm4⟩ hst
        · first | exact hDf | (rw [hcl, hfa]; exact hDf)
        · exact hTf
      | succ n =>
        have hdn : decide ((0 : Int) < ((n + 1 : Nat) : Int)) = true := by simp
        cases bd with
        | true =>
          have hfa := hdone true (Or.inl rfl) rfl
          have r0 : wr.cell? ⟨R, 0, none⟩ = some (.string ⟨#[]⟩) := cell_of_block (i := 0) hRr rfl
          have g0 : wr.frozen? ⟨R, 0, none⟩ = false := frozen_of_block (i := 0) hRr
          have r1 : wr.cell? ⟨R, 1, none⟩ = some (.int .i64 0) := cell_of_block (i := 1) hRr rfl
          have g1 : wr.frozen? ⟨R, 1, none⟩ = false := frozen_of_block (i := 1) hRr
          have r2 : wr.cell? ⟨R, 2, none⟩ = some (.slice none 0 0) := cell_of_block (i := 2) hRr rfl
          have g2 : wr.frozen? ⟨R, 2, none⟩ = false := frozen_of_block (i := 2) hRr
          have r3 : wr.cell? ⟨R, 3, none⟩ = some (.slice none 0 0) := cell_of_block (i := 3) hRr rfl
          have g3 : wr.frozen? ⟨R, 3, none⟩ = false := frozen_of_block (i := 3) hRr
          have r4 : wr.cell? ⟨R, 4, none⟩ = some (.slice none 0 0) := cell_of_block (i := 4) hRr rfl
          have g4 : wr.frozen? ⟨R, 4, none⟩ = false := frozen_of_block (i := 4) hRr
          have hXR2 := Ne.symm hXR
          go_wp2
          obtain ⟨hW2, hm2, hs2⟩ := own_val hO2 (by intro r hr; obtain ⟨y, _, rfl⟩ := List.mem_map.mp hr; rfl)
          obtain ⟨hW3, hm3, hs3⟩ := own_val hON (by intro r hr; obtain ⟨y, _, rfl⟩ := List.mem_map.mp hr; rfl)
          obtain ⟨hW4, hm4, hs4⟩ := own_val hOM (by intro r hr; obtain ⟨y, _, rfl⟩ := List.mem_map.mp hr; rfl)
          have hfin := (img_set (i := 4) (v := (.slice oM nM kM)) (img_set (i := 3) (v := (.slice oN nN kN)) (img_set (i := 2) (v := (.slice o2 n2 k2)) (img_set (i := 1) (v := .int .i64 (numV L (txtE L p))) (img_set (i := 0) (v := .string (txtV L p)) hRr)))))
          have hst := (Stay.setCell (i := 4) (v := (.slice oM nM kM)) (Stay.setCell (i := 3) (v := (.slice oN nN kN)) (Stay.setCell (i := 2) (v := (.slice o2 n2 k2)) (Stay.setCell (i := 1) (v := .int .i64 (numV L (txtE L p))) (Stay.setCell (i := 0) (v := .string (txtV L p)) (Stay.refl wr) hRr (by decide)) (img_set (i := 0) (v := .string (txtV L p)) hRr) (by decide)) (img_set (i := 1) (v := .int .i64 (numV L (txtE L p))) (img_set (i := 0) (v := .string (txtV L p)) hRr)) (by decide)) (img_set (i := 2) (v := (.slice o2 n2 k2)) (img_set (i := 1) (v := .int .i64 (numV L (txtE L p))) (img_set (i := 0) (v := .string (txtV L p)) hRr))) (by decide)) (img_set (i := 3) (v := (.slice oN nN kN)) (img_set (i := 2) (v := (.slice o2 n2 k2)) (img_set (i := 1) (v := .int .i64 (numV L (txtE L p))) (img_set (i := 0) (v := .string (txtV L p)) hRr)))) (by decide))
          have hDf := hD.keep ((((((Below.refl _ wr).setCell (p := ⟨R, 0, none⟩) hRB (.string (txtV L p))).setCell (p := ⟨R, 1, none⟩) hRB (.int .i64 (numV L (txtE L p)))).setCell (p := ⟨R, 2, none⟩) hRB ((.slice o2 n2 k2))).setCell (p := ⟨R, 3, none⟩) hRB ((.slice oN nN kN))).setCell (p := ⟨R, 4, none⟩) hRB ((.slice oM nM kM)))
          have hTf := (((((hT.setCell (p := ⟨R, 0, none⟩) (Or.inr (Nat.le_of_eq hRR)) (.string (txtV L p))).setCell (p := ⟨R, 1, none⟩) (Or.inr (Nat.le_of_eq hRR)) (.int .i64 (numV L (txtE L p)))).setCell (p := ⟨R, 2, none⟩) (Or.inr (Nat.le_of_eq hRR)) ((.slice o2 n2 k2))).setCell (p := ⟨R, 3, none⟩) (Or.inr (Nat.le_of_eq hRR)) ((.slice oN nN kN))).setCell (p := ⟨R, 4, none⟩) (Or.inr (Nat.le_of_eq hRR)) ((.slice oM nM kM)))
          refine bodyPost_ret (res_cl rfl hfin) rfl ⟨⟨txtV L p, numV L (txtE L p), F.1, ns.map (·.1), ns.map (·.2), mkSl (.slice o2 n2 k2), mkSl (.slice oN nN kN), mkSl (.slice oM nM kM)⟩, by rw [← hs2, ← hs3, ← hs4], ?_, ?_, ?_, ?_⟩
          · first | exact ⟨rfl, rfl, rfl, rfl, rfl⟩ | (rw [hcl, hfa]; exact ⟨rfl, rfl, rfl, rfl, rfl⟩)
          · exact OwnCl.stay ⟨hW2, by rw [List.map_map]; exact hW3, by rw [List.map_map]; exact hW4, hm2, hm3, hm4⟩ hst
          · first | exact hDf | (rw [hcl, hfa]; exact hDf)
          · exact hTf
        | false =>
          go_wp2
          have hDq3 := hD.drew
          have hXv3 : some X ≠ (Value.slice oN nN kN).ownBlock := fun h => by have := (own_base hON h.symm).1; omega
          have hVv3 : some vb ≠ (Value.slice oN nN kN).ownBlock := fun h => by have := (own_base hON h.symm).1; have := hD.lowv; omega
          have rr3 : wr.ownsRow BN 9 1 (.slice oN nN kN) ns.length (ns.map fun x => [Value.string x.1]).flatten := by have h := hON; unfold OR at h; rw [List.length_map] at h; exact h
          have hml3 : ns.length + 1 ≤ maxLen := by unfold maxLen; omega
          refine RegT.begin (S := fun wz => wz.cell? ⟨X, 3, none⟩ = some (.slice oN nN kN) ∧ wz.cell? ⟨vb, 0, none⟩ = some (.pointer (some ⟨cb, 0, none⟩))) (L := 7) (by kernel_rfl) ?_ (fun hHeld => ?_)
          · (try dsimp only); go_keep
          refine RegT.take (i := 0) (v := ?_) rfl (by kernel_rfl) (by kernel_rfl) (by kernel_rfl) (by kernel_rfl) (fun _ _ _ h => h) (Or.inl ⟨by rfl, ?_⟩) (by assumption) ?_
          rotate_left
          · intro w hSw; (try dsimp only at hSw); go_simp; first | done | with_reducible rfl
          try simp only [Act.put, List.setIfInBounds_toArray, List.set_cons_zero, List.set_cons_succ]
          refine RegT.take (i := 1) (v := ?_) rfl (by kernel_rfl) (by kernel_rfl) (by kernel_rfl) (by kernel_rfl) (fun _ _ _ h => h) (Or.inl ⟨by rfl, ?_⟩) (by assumption) ?_
          rotate_left
          · intro w hSw; (try dsimp only at hSw); go_simp; first | done | with_reducible rfl
          try simp only [Act.put, List.setIfInBounds_toArray, List.set_cons_zero, List.set_cons_succ]
          refine RegT.take (i := 2) (v := ?_) rfl (by kernel_rfl) (by kernel_rfl) (by kernel_rfl) (by kernel_rfl) (fun _ _ _ h => h) (Or.inl ⟨by rfl, ?_⟩) (by assumption) ?_
          rotate_left
          · intro w hSw; (try dsimp only at hSw); go_simp; first | done | with_reducible rfl
          try simp only [Act.put, List.setIfInBounds_toArray, List.set_cons_zero, List.set_cons_succ]
          refine RegT.one (i := 3) (by kernel_rfl) rfl (fun K hK => ?_)
          go_simp
          refine (text_any cb oa c vb B L q false _ hDq3).mono ?_
          rintro e wa ⟨rfl, hDwa, hTwa⟩
          have hXwa : wa.heap[X]? = _ := (hTwa.block X (lt_of_block hXr) hXc).trans hXr
          have hRwa : wa.heap[R]? = _ := (hTwa.block R (lt_of_block hRr) hRc).trans hRr
          have ywa : wa.cell? ⟨X, 3, none⟩ = some (.slice oN nN kN) := cell_of_block (i := 3) hXwa rfl
          have yfwa : wa.frozen? ⟨X, 3, none⟩ = false := frozen_of_block (i := 3) hXwa
          have yvwa : wa.cell? ⟨vb, 0, none⟩ = some (.pointer (some ⟨cb, 0, none⟩)) := cell_of_block (i := 0) hDwa.var rfl
          have hStwa : Stay wr.drew wa := Stay.of_tc hDq3 hTwa
          have rq3 := own_stay (rows := ns.map fun x => [Value.string x.1]) hStwa (by decide) (OR.keep hON (fun g hg => rfl))
          have rs3 : wa.ownsRow BN 9 1 (.slice oN nN kN) ns.length (ns.map fun x => [Value.string x.1]).flatten := by have h := rq3; unfold OR at h; rw [List.length_map] at h; exact h
          have hszwa : BN ≤ wa.heap.size := by have := hTwa.size; have h2 : wr.drew.heap.size = wr.heap.size := rfl; omega
          refine hK.out _ _ ⟨ywa, yvwa⟩ (fun hHeld => ?_)
          clear hK K
          try simp only [Act.put, List.setIfInBounds_toArray, List.set_cons_zero, List.set_cons_succ]
          refine RegT.one (i := 4) (by kernel_rfl) rfl (fun K hK => ?_)
          go_simp
          refine hK.out _ _ ⟨alloc_cell ywa _, alloc_cell yvwa _⟩ (fun hHeld => ?_)
          clear hK K
          try simp only [Act.put, List.setIfInBounds_toArray, List.set_cons_zero, List.set_cons_succ]
          refine RegT.one (i := 5) (by kernel_rfl) rfl (fun K hK => ?_)
          refine step_append_lies _ (by rfl) _ _ _ (by rfl) BN 9 iS _ 1 16 Tryd.underlying61 hiS hzS0 hzS1 hzS2 rfl (by decide) (.slice oN nN kN) ns.length (ns.map fun x => [Value.string x.1]).flatten (by rfl) (rs3.alloc _) ⟨wa.heap.size, 0, none⟩ 1 1 [.string (txtV L q)] (by rfl) (by rfl) (World.news_of_block (cs := #[.string (txtV L q)]) (t := 9) (fr := (0, 0)) (heap_alloc_new wa _)) (by simp [Value.oneCell']) (by decide) hml3 (by omega) (by simp; omega) (wa.heap.size + 1) (by simp) ?_
          intro gg3 cap3 wb hown3 hgrow3 hat3 hlt3
          have hXwb : wb.heap[X]? = _ := (hgrow3.block X (by have := lt_of_block hXwa; simp; omega) hXv3).trans ((Below.heap_alloc wa _ X (lt_of_block hXwa)).trans hXwa)
          have hRwb : wb.heap[R]? = _ := (hgrow3.block R (by have := lt_of_block hRwa; simp; omega) (fun h => by have := (own_base hON h.symm).1; omega)).trans ((Below.heap_alloc wa _ R (lt_of_block hRwa)).trans hRwa)
          have hBwb : Below BN wa wb := grown_below hgrow3 hszwa (fun g hg => (own_base hON hg).1)
          have hDwb := hDwa.keep (hBwb.mono hBBN)
          have zwb : wb.cell? ⟨X, 3, none⟩ = some (.slice oN nN kN) := cell_of_block (i := 3) hXwb rfl
          have zfwb : wb.frozen? ⟨X, 3, none⟩ = false := frozen_of_block (i := 3) hXwb
          have zvwb : wb.cell? ⟨vb, 0, none⟩ = some (.pointer (some ⟨cb, 0, none⟩)) := cell_of_block (i := 0) hDwb.var rfl
          refine hK.out _ _ ⟨zwb, zvwb⟩ (fun hHeld => ?_)
          clear hK K
          try simp only [Act.put, List.setIfInBounds_toArray, List.set_cons_zero, List.set_cons_succ]
          refine RegT.one (i := 6) (by kernel_rfl) rfl (fun K hK => ?_)
          go_simp
          refine hK.out _ _ (by assumption) (fun hHeld => ?_)
          clear hK K
          try simp only [Act.put, List.setIfInBounds_toArray, List.set_cons_zero, List.set_cons_succ]
          refine RegT.last (by kernel_rfl) rfl (by kernel_rfl) (fun K hK => ?_)
          go_simp
          refine hK.out _ _ ?_
          clear hK K
          try simp only [Act.put, List.setIfInBounds_toArray, List.set_cons_zero, List.set_cons_succ]
          have hXwc := img_set (i := 3) (v := (.slice (some ⟨gg3, 0, none⟩) (ns.length + 1) cap3)) hXwb
          have hRwc := (blk_ne (p := ⟨X, 3, none⟩) (v := (.slice (some ⟨gg3, 0, none⟩) (ns.length + 1) cap3)) (Ne.symm hXR)).trans hRwb
          have hDwc := hDwb.keep ((Below.refl _ wb).setCell (p := ⟨X, 3, none⟩) hXB (.slice (some ⟨gg3, 0, none⟩) (ns.length + 1) cap3))
          have hTwc : Tc cb w _ := (((hT.drew.trans hTwa).alloc _).grown hgrow3 (fun g hg => Or.inr (by have := (own_base hON hg).1; omega))).setCell (p := ⟨X, 3, none⟩) (Or.inr hXw) (.slice (some ⟨gg3, 0, none⟩) (ns.length + 1) cap3)
          have hOwc := OR_step (X := X) (i := 3) (u := (.slice (some ⟨gg3, 0, none⟩) (ns.length + 1) cap3)) (rows := ns.map fun x => [Value.string x.1]) (r := [.string (txtV L q)]) hown3 (by rw [List.length_map]) hXN
          have hO2a := OR.keep (own_stay hStwa (by decide) (OR.keep hO2 (fun g hg => rfl))) (fun g hg => (blk_ne (p := ⟨X, 3, none⟩) (v := (.slice (some ⟨gg3, 0, none⟩) (ns.length + 1) cap3)) (fun h => by obtain ⟨cur, hc⟩ := own_block hO2 hg; have h2 : g = X := h; rw [h2, hXr] at hc; cases hc)).trans (hBwb.block g (hb2 g hg)))
          have hOMa := OR.keep (own_stay hStwa (by decide) (OR.keep hOM (fun g hg => rfl))) (fun g hg => (blk_ne (p := ⟨X, 3, none⟩) (v := (.slice (some ⟨gg3, 0, none⟩) (ns.length + 1) cap3)) (fun h => by have h1 := (own_base hOM hg).1; have h2 : g = X := h; omega)).trans ((hgrow3.block g (by have h1 := (own_base (own_stay hStwa (by decide) (OR.keep hOM (fun g hg => rfl))) hg).2; simp; omega) (fun h => own_apart hOM hON (by decide) hg h.symm)).trans (Below.heap_alloc wa _ g (own_base (own_stay hStwa (by decide) (OR.keep hOM (fun g hg => rfl))) hg).2)))
          have hswc : BN ≤ (wb.setCell ⟨X, 3, none⟩ (.slice (some ⟨gg3, 0, none⟩) (ns.length + 1) cap3)).heap.size := by have := hBwb.size; simp; omega
          generalize wb.setCell ⟨X, 3, none⟩ (.slice (some ⟨gg3, 0, none⟩) (ns.length + 1) cap3) = wc at *
          have x4c : wc.cell? ⟨X, 4, none⟩ = some (.slice oM nM kM) := cell_of_block (i := 4) hXwc rfl
          have kvc : wc.cell? ⟨vb, 0, none⟩ = some (.pointer (some ⟨cb, 0, none⟩)) := cell_of_block (i := 0) hDwc.var rfl
          go_wp2
          have hDq4 := hDwc.drew
          have hXv4 : some X ≠ (Value.slice oM nM kM).ownBlock := fun h => by have := (own_base hOMa h.symm).1; omega
          have hVv4 : some vb ≠ (Value.slice oM nM kM).ownBlock := fun h => by have := (own_base hOMa h.symm).1; have := hDwc.lowv; omega
          have rr4 : wc.ownsRow BN 3 1 (.slice oM nM kM) ns.length (ns.map fun x => [Value.int .i64 x.2]).flatten := by have h := hOMa; unfold OR at h; rw [List.length_map] at h; exact h
          have hml4 : ns.length + 1 ≤ maxLen := by unfold maxLen; omega
          refine RegT.begin (S := fun wz => wz.cell? ⟨X, 4, none⟩ = some (.slice oM nM kM) ∧ wz.cell? ⟨vb, 0, none⟩ = some (.pointer (some ⟨cb, 0, none⟩))) (L := 7) (by kernel_rfl) ?_ (fun hHeld => ?_)
          · (try dsimp only); go_keep
          refine RegT.take (i := 0) (v := ?_) rfl (by kernel_rfl) (by kernel_rfl) (by kernel_rfl) (by kernel_rfl) (fun _ _ _ h => h) (Or.inl ⟨by rfl, ?_⟩) (by assumption) ?_
          rotate_left
          · intro w hSw; (try dsimp only at hSw); go_simp; first | done | with_reducible rfl
          try simp only [Act.put, List.setIfInBounds_toArray, List.set_cons_zero, List.set_cons_succ]
          refine RegT.take (i := 1) (v := ?_) rfl (by kernel_rfl) (by kernel_rfl) (by kernel_rfl) (by kernel_rfl) (fun _ _ _ h => h) (Or.inl ⟨by rfl, ?_⟩) (by assumption) ?_
          rotate_left
          · intro w hSw; (try dsimp only at hSw); go_simp; first | done | with_reducible rfl
          try simp only [Act.put, List.setIfInBounds_toArray, List.set_cons_zero, List.set_cons_succ]
          refine RegT.take (i := 2) (v := ?_) rfl (by kernel_rfl) (by kernel_rfl) (by kernel_rfl) (by kernel_rfl) (fun _ _ _ h => h) (Or.inl ⟨by rfl, ?_⟩) (by assumption) ?_
          rotate_left
          · intro w hSw; (try dsimp only at hSw); go_simp; first | done | with_reducible rfl
          try simp only [Act.put, List.setIfInBounds_toArray, List.set_cons_zero, List.set_cons_succ]
          refine RegT.one (i := 3) (by kernel_rfl) rfl (fun K hK => ?_)
          go_simp
          refine (num_any cb oa c vb B L (txtE L q) (false || manyF L q) _ hDq4).mono ?_
          rintro e wd ⟨rfl, hDwd, hTwd⟩
          have hXwd : wd.heap[X]? = _ := (hTwd.block X (lt_of_block hXwc) hXc).trans hXwc
          have hRwd : wd.heap[R]? = _ := (hTwd.block R (lt_of_block hRwc) hRc).trans hRwc
          have ywd : wd.cell? ⟨X, 4, none⟩ = some (.slice oM nM kM) := cell_of_block (i := 4) hXwd rfl
          have yfwd : wd.frozen? ⟨X, 4, none⟩ = false := frozen_of_block (i := 4) hXwd
          have yvwd : wd.cell? ⟨vb, 0, none⟩ = some (.pointer (some ⟨cb, 0, none⟩)) := cell_of_block (i := 0) hDwd.var rfl
          have hStwd : Stay wc.drew wd := Stay.of_tc hDq4 hTwd
          have rq4 := own_stay (rows := ns.map fun x => [Value.int .i64 x.2]) hStwd (by decide) (OR.keep hOMa (fun g hg => rfl))
          have rs4 : wd.ownsRow BN 3 1 (.slice oM nM kM) ns.length (ns.map fun x => [Value.int .i64 x.2]).flatten := by have h := rq4; unfold OR at h; rw [List.length_map] at h; exact h
          have hszwd : BN ≤ wd.heap.size := by have := hTwd.size; have h2 : wc.drew.heap.size = wc.heap.size := rfl; omega
          refine hK.out _ _ ⟨ywd, yvwd⟩ (fun hHeld => ?_)
          clear hK K
          try simp only [Act.put, List.setIfInBounds_toArray, List.set_cons_zero, List.set_cons_succ]
          refine RegT.one (i := 4) (by kernel_rfl) rfl (fun K hK => ?_)
          go_simp
          refine hK.out _ _ ⟨alloc_cell ywd _, alloc_cell yvwd _⟩ (fun hHeld => ?_)
          clear hK K
          try simp only [Act.put, List.setIfInBounds_toArray, List.set_cons_zero, List.set_cons_succ]
          refine RegT.one (i := 5) (by kernel_rfl) rfl (fun K hK => ?_)
          refine step_append_lies _ (by rfl) _ _ _ (by rfl) BN 3 iI _ 1 8 Tryd.underlying52 hiI hzI0 hzI1 hzI2 rfl (by decide) (.slice oM nM kM) ns.length (ns.map fun x => [Value.int .i64 x.2]).flatten (by rfl) (rs4.alloc _) ⟨wd.heap.size, 0, none⟩ 1 1 [.int .i64 (numV L (txtE L q))] (by rfl) (by rfl) (World.news_of_block (cs := #[.int .i64 (numV L (txtE L q))]) (t := 3) (fr := (0, 0)) (heap_alloc_new wd _)) (by simp [Value.oneCell']) (by decide) hml4 (by omega) (by simp; omega) (wd.heap.size + 1) (by simp) ?_
          intro gg4 cap4 we hown4 hgrow4 hat4 hlt4
          have hXwe : we.heap[X]? = _ := (hgrow4.block X (by have := lt_of_block hXwd; simp; omega) hXv4).trans ((Below.heap_alloc wd _ X (lt_of_block hXwd)).trans hXwd)
          have hRwe : we.heap[R]? = _ := (hgrow4.block R (by have := lt_of_block hRwd; simp; omega) (fun h => by have := (own_base hOMa h.symm).1; omega)).trans ((Below.heap_alloc wd _ R (lt_of_block hRwd)).trans hRwd)
          have hBwe : Below BN wd we := grown_below hgrow4 hszwd (fun g hg => (own_base hOMa hg).1)
          have hDwe := hDwd.keep (hBwe.mono hBBN)
          have zwe : we.cell? ⟨X, 4, none⟩ = some (.slice oM nM kM) := cell_of_block (i := 4) hXwe rfl
          have zfwe : we.frozen? ⟨X, 4, none⟩ = false := frozen_of_block (i := 4) hXwe
          have zvwe : we.cell? ⟨vb, 0, none⟩ = some (.pointer (some ⟨cb, 0, none⟩)) := cell_of_block (i := 0) hDwe.var rfl
          refine hK.out _ _ ⟨zwe, zvwe⟩ (fun hHeld => ?_)
          clear hK K
          try simp only [Act.put, List.setIfInBounds_toArray, List.set_cons_zero, List.set_cons_succ]
          refine RegT.one (i := 6) (by kernel_rfl) rfl (fun K hK => ?_)
          go_simp
          refine hK.out _ _ (by assumption) (fun hHeld => ?_)
          clear hK K
          try simp only [Act.put, List.setIfInBounds_toArray, List.set_cons_zero, List.set_cons_succ]
          refine RegT.last (by kernel_rfl) rfl (by kernel_rfl) (fun K hK => ?_)
          go_simp
          refine hK.out _ _ ?_
          clear hK K
          try simp only [Act.put, List.setIfInBounds_toArray, List.set_cons_zero, List.set_cons_succ]
          have hXwf := img_set (i := 4) (v := (.slice (some ⟨gg4, 0, none⟩) (ns.length + 1) cap4)) hXwe
          have hRwf := (blk_ne (p := ⟨X, 4, none⟩) (v := (.slice (some ⟨gg4, 0, none⟩) (ns.length + 1) cap4)) (Ne.symm hXR)).trans hRwe
          have hDwf := hDwe.keep ((Below.refl _ we).setCell (p := ⟨X, 4, none⟩) hXB (.slice (some ⟨gg4, 0, none⟩) (ns.length + 1) cap4))
          have hTwf : Tc cb w _ := (((hTwc.drew.trans hTwd).alloc _).grown hgrow4 (fun g hg => Or.inr (by have := (own_base hOMa hg).1; omega))).setCell (p := ⟨X, 4, none⟩) (Or.inr hXw) (.slice (some ⟨gg4, 0, none⟩) (ns.length + 1) cap4)
          have hOwf := OR_step (X := X) (i := 4) (u := (.slice (some ⟨gg4, 0, none⟩) (ns.length + 1) cap4)) (rows := ns.map fun x => [Value.int .i64 x.2]) (r := [.int .i64 (numV L (txtE L q))]) hown4 (by rw [List.length_map]) hXN
          have hO2b := OR.keep (own_stay hStwd (by decide) (OR.keep hO2a (fun g hg => rfl))) (fun g hg => (blk_ne (p := ⟨X, 4, none⟩) (v := (.slice (some ⟨gg4, 0, none⟩) (ns.length + 1) cap4)) (fun h => by obtain ⟨cur, hc⟩ := own_block hO2a hg; have h2 : g = X := h; rw [h2, hXwc] at hc; cases hc)).trans (hBwe.block g (hb2 g hg)))
          have hONb := OR.keep (own_stay hStwd (by decide) (OR.keep hOwc (fun g hg => rfl))) (fun g hg => (blk_ne (p := ⟨X, 4, none⟩) (v := (.slice (some ⟨gg4, 0, none⟩) (ns.length + 1) cap4)) (fun h => by have h1 := (own_base hOwc hg).1; have h2 : g = X := h; omega)).trans ((hgrow4.block g (by have h1 := (own_base (own_stay hStwd (by decide) (OR.keep hOwc (fun g hg => rfl))) hg).2; simp; omega) (fun h => own_apart hOwc hOMa (by decide) hg h.symm)).trans (Below.heap_alloc wd _ g (own_base (own_stay hStwd (by decide) (OR.keep hOwc (fun g hg => rfl))) hg).2)))
          have hswf : BN ≤ (we.setCell ⟨X, 4, none⟩ (.slice (some ⟨gg4, 0, none⟩) (ns.length + 1) cap4)).heap.size := by have := hBwe.size; simp; omega
          generalize we.setCell ⟨X, 4, none⟩ (.slice (some ⟨gg4, 0, none⟩) (ns.length + 1) cap4) = wf at *
          go_wp2
          go_roundw
          case rel =>
            refine ⟨n, _, _, ns ++ [(txtV L q, numV L (txtE L q))], numE L (txtE L q), ((false || manyF L q) || numF L (txtE L q)), rfl, by simp; omega, hO2b, by rw [List.map_append]; exact hONb, by rw [List.map_append]; exact hOwf, hXwf, hRwf, hDwf, hTwf, hswf, by show _ = _; rw [hA.out, rep_next]; simp⟩
          case measure => simp [intOf]
end Go.Proofs.YthbkklnahhdgcaaDoor.DecFb
