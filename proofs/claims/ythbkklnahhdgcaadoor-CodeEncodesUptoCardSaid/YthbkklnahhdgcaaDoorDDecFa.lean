/-
  The closure of package code's Decode that reads a function.
-/
import Derived.Test.YthbkklnahhdgcaaDoorDDecEa
import Derived.Test.YthbkklnahhdgcaaDoorDMD
import Derived.Deep.DeepCutAuto
namespace Go.Proofs.YthbkklnahhdgcaaDoor.DecFa
open Go Go.Proofs Go.RowKit Lib CodeR CodeA CodeB CodeD CodeS CodeL EncA EncB DecA DecB DecC DecD DecEa

theorem Stay.setCell {w w' : World} (h : Stay w w') {X i : Nat} {v : Value} {cur : Array Value} {E : TypeId} {f : Nat × Nat} (hX : w'.heap[X]? = some (.cells cur E f)) (hE : E ≠ 134 ∧ E ≠ 137 ∧ E ≠ 140 ∧ E ≠ 9 ∧ E ≠ 3) : Stay w (w'.setCell ⟨X, i, none⟩ v) := by
  intro g cur' E' hE' hg
  have h1 := h g cur' E' hE' hg
  refine Eq.trans (block_setCell_ne ?_) h1
  rintro rfl
  rw [hX, hg] at h1
  cases h1
  rcases hE' with h | h | h | h | h
  · exact hE.1 h
  · exact hE.2.1 h
  · exact hE.2.2.1 h
  · exact hE.2.2.2.1 h
  · exact hE.2.2.2.2 h
theorem own_val {w : World} {base E sz : Nat} {v : Value} {rows : List (List Value)} (h : OR w base E sz v rows) (hr : ∀ r ∈ rows, r.length = sz) : OR w 0 E sz (mkSl v).val rows ∧ mkSl (mkSl v).val = mkSl v ∧ v = .slice (mkSl v).oa (mkSl v).n (mkSl v).c := by
  have h1 := (h.mkIn hr).1
  refine ⟨by rw [h1]; exact h.low, by rw [h1], h1.symm⟩
theorem own_sl {w : World} {base E sz : Nat} {v : Value} {rows : List (List Value)} (h : OR w base E sz v rows) (hr : ∀ r ∈ rows, r.length = sz) : ∃ o n c, v = .slice o n c := ⟨_, _, _, (h.mkIn hr).1.symm⟩
theorem fcP_eq (L : List UInt8) (p : Nat) (bad : Bool) : fcP L p bad = (⟨txtV L p, numV L (txtE L p), numV L (numE L (txtE L p)), (lst L (i3P L) (numE L (numE L (txtE L p))) (((bad || manyF L p) || numF L (txtE L p)) || numF L (numE L (txtE L p)))).1, (lst L (h3P L) (lst L (i3P L) (numE L (numE L (txtE L p))) (((bad || manyF L p) || numF L (txtE L p)) || numF L (numE L (txtE L p)))).2.1 (lst L (i3P L) (numE L (numE L (txtE L p))) (((bad || manyF L p) || numF L (txtE L p)) || numF L (numE L (txtE L p)))).2.2).1, (lst L (vrP L) (lst L (h3P L) (lst L (i3P L) (numE L (numE L (txtE L p))) (((bad || manyF L p) || numF L (txtE L p)) || numF L (numE L (txtE L p)))).2.1 (lst L (i3P L) (numE L (numE L (txtE L p))) (((bad || manyF L p) || numF L (txtE L p)) || numF L (numE L (txtE L p)))).2.2).2.1 (lst L (h3P L) (lst L (i3P L) (numE L (numE L (txtE L p))) (((bad || manyF L p) || numF L (txtE L p)) || numF L (numE L (txtE L p)))).2.1 (lst L (i3P L) (numE L (numE L (txtE L p))) (((bad || manyF L p) || numF L (txtE L p)) || numF L (numE L (txtE L p)))).2.2).2.2).1, noSl, noSl, noSl⟩, (lst L (vrP L) (lst L (h3P L) (lst L (i3P L) (numE L (numE L (txtE L p))) (((bad || manyF L p) || numF L (txtE L p)) || numF L (numE L (txtE L p)))).2.1 (lst L (i3P L) (numE L (numE L (txtE L p))) (((bad || manyF L p) || numF L (txtE L p)) || numF L (numE L (txtE L p)))).2.2).2.1 (lst L (h3P L) (lst L (i3P L) (numE L (numE L (txtE L p))) (((bad || manyF L p) || numF L (txtE L p)) || numF L (numE L (txtE L p)))).2.1 (lst L (i3P L) (numE L (numE L (txtE L p))) (((bad || manyF L p) || numF L (txtE L p)) || numF L (numE L (txtE L p)))).2.2).2.2).2) := by
  simp only [fcP, bnd, nP, tP, ret]
theorem res_fc {w : World} {tmps : Array Value} {b : Nat} {v0 : ByteArray} {v1 v2 : Int} {o3 o4 o5 : Option Addr} {n3 n4 n5 k3 k4 k5 : Nat} (ht : tmps.getD 1 undef = .pointer (some ⟨b, 0, none⟩)) (hb : w.heap[b]? = some (.cells #[.string v0, .int .i64 v1, .int .i64 v2, .slice o3 n3 k3, .slice o4 n4 k4, .slice o5 n5 k5] 112 (0, 0))) : (results Tryd.f60 tmps).run Tryd.prog w = .ok (.agg #[.string v0, .int .i64 v1, .int .i64 v2, .slice o3 n3 k3, .slice o4 n4 k4, .slice o5 n5 k5]) w := by
  have ht' : tmps[1]?.getD undef = .pointer (some ⟨b, 0, none⟩) := by simpa using ht
  have h0 := cell_of_block (i := 0) hb rfl
  have h1 := cell_of_block (i := 1) hb rfl
  have h2 := cell_of_block (i := 2) hb rfl
  have h3 := cell_of_block (i := 3) hb rfl
  have h4 := cell_of_block (i := 4) hb rfl
  have h5 := cell_of_block (i := 5) hb rfl
  simp [results, ht', h0, h1, h2, h3, h4, h5, go_sem]

set_option maxRecDepth 100000 in
set_option maxHeartbeats 1600000 in
theorem fc_any (cb : Nat) (oa : Option Addr) (c vb B : Nat) (L : List UInt8) (p : Nat) (bad : Bool) (w : World) (h : DS cb oa c vb B L w p bad) :
    Calls Tryd.prog 60 #[.pointer (some ⟨vb, 0, none⟩)] w fun e w' => ∃ x : Fc, e = .returned (.agg #[.string x.name, .int .i64 x.params, .int .i64 x.slots, .slice x.codeS.oa x.codeS.n x.codeS.c, .slice x.hsS.oa x.hsS.n x.hsS.c, .slice x.varsS.oa x.varsS.n x.varsS.c]) ∧ FcSame (fcP L p bad).1 x ∧ OwnFd w' x ∧ DS cb oa c vb B L w' (fcP L p bad).2.1 (fcP L p bad).2.2 ∧ Tc cb w w' := by
  rw [fcP_eq]
  have hR := heap_alloc_new w (.cells #[.string ⟨#[]⟩, .int .i64 0, .int .i64 0, .slice none 0 0, .slice none 0 0, .slice none 0 0] 112)
  have hD0 := h.keep (below_alloc (Below.refl _ w) (.cells #[.string ⟨#[]⟩, .int .i64 0, .int .i64 0, .slice none 0 0, .slice none 0 0, .slice none 0 0] 112) h.size)
  have hT0 : Tc cb w (w.alloc (.cells #[.string ⟨#[]⟩, .int .i64 0, .int .i64 0, .slice none 0 0, .slice none 0 0, .slice none 0 0] 112)) := (Turned.refl _ w).alloc _
  have hRB : B ≤ w.heap.size := h.size
  have hRc : w.heap.size ≠ cb := by have := h.lowc; omega
  have hRv : w.heap.size ≠ vb := by have := h.lowv; omega
  have hRs : w.heap.size < (w.alloc (.cells #[.string ⟨#[]⟩, .int .i64 0, .int .i64 0, .slice none 0 0, .slice none 0 0, .slice none 0 0] 112)).heap.size := by simp
  go_enter Tryd.func60, Tryd.ntmps60
  go_wp2_with fail
  generalize w.alloc (.cells #[.string ⟨#[]⟩, .int .i64 0, .int .i64 0, .slice none 0 0, .slice none 0 0, .slice none 0 0] 112) = w0 at *
  obtain ⟨R, hRR⟩ : ∃ R, w.heap.size = R := ⟨_, rfl⟩
  rw [hRR] at hR hRB hRc hRv hRs ⊢
  replace hD0 := hD0.drew
  replace hT0 := hT0.drew
  have hRd : w0.drew.heap[R]? = some (.cells #[.string ⟨#[]⟩, .int .i64 0, .int .i64 0, .slice none 0 0, .slice none 0 0, .slice none 0 0] 112 (0, 0)) := hR
  have kv : w0.cell? ⟨vb, 0, none⟩ = some (.pointer (some ⟨cb, 0, none⟩)) := cell_of_block (i := 0) hD0.var rfl
  go_upto_region 1 with fail
  go_cut [2] (fun s2 wx => ∃ X, s2 = .pointer (some ⟨X, 0, none⟩) ∧ B ≤ X ∧ X ≠ cb ∧ X ≠ R ∧ w.heap.size ≤ X ∧ wx.heap[X]? = some (.cells #[.string (txtV L (p)), .int .i64 (numV L (txtE L (p))), .int .i64 (numV L (numE L (txtE L (p)))), .slice none 0 0, .slice none 0 0, .slice none 0 0] 112 (0, 0)) ∧ wx.heap[R]? = some (.cells #[.string ⟨#[]⟩, .int .i64 0, .int .i64 0, .slice none 0 0, .slice none 0 0, .slice none 0 0] 112 (0, 0)) ∧ DS cb oa c vb B L wx (numE L (numE L (txtE L (p)))) (((bad || manyF L (p)) || numF L (txtE L (p))) || numF L (numE L (txtE L (p)))) ∧ Tc cb w wx)
  case first =>
    refine RegU.begin (S := fun wz => wz.cell? ⟨vb, 0, none⟩ = some (.pointer (some ⟨cb, 0, none⟩))) (N := [0, 1, 2, 3, 4, 7]) (by kernel_rfl) ?_ (fun hHeld => ?_)
    · (try dsimp only); go_keep
    generalize w0.drew = wd at *
    refine RegU.take [1, 3, 5, 6, 8] (i := 0) (v := ?_) rfl (by kernel_rfl) (by kernel_rfl) (by kernel_rfl) (by kernel_rfl) (by kernel_rfl) (fun _ _ _ h => h) (Or.inl ⟨by rfl, ?_⟩) (by assumption) ?_
    rotate_left
    · intro w hSw; (try dsimp only at hSw); go_simp; first | done | with_reducible rfl
    try simp only [Act.put, List.setIfInBounds_toArray, List.set_cons_zero, List.set_cons_succ]
    refine RegU.take [3, 5, 6, 8] (i := 2) (v := ?_) rfl (by kernel_rfl) (by kernel_rfl) (by kernel_rfl) (by kernel_rfl) (by kernel_rfl) (fun _ _ _ h => h) (Or.inl ⟨by rfl, ?_⟩) (by assumption) ?_
    rotate_left
    · intro w hSw; (try dsimp only at hSw); go_simp; first | done | with_reducible rfl
    try simp only [Act.put, List.setIfInBounds_toArray, List.set_cons_zero, List.set_cons_succ]
    refine RegU.take [5, 6, 8] (i := 4) (v := ?_) rfl (by kernel_rfl) (by kernel_rfl) (by kernel_rfl) (by kernel_rfl) (by kernel_rfl) (fun _ _ _ h => h) (Or.inl ⟨by rfl, ?_⟩) (by assumption) ?_
    rotate_left
    · intro w hSw; (try dsimp only at hSw); go_simp; first | done | with_reducible rfl
    try simp only [Act.put, List.setIfInBounds_toArray, List.set_cons_zero, List.set_cons_succ]
    refine RegU.two (i := 1) (j := 7) (by kernel_rfl) rfl rfl (fun K hK => ?_) (fun K hK => ?_)
    · go_simp
      refine (text_any cb oa c vb B L (p) bad _ hD0).mono ?_
      rintro e w1 ⟨rfl, hD_w1, hT_w1⟩
      have hR_w1 : w1.heap[R]? = _ := (hT_w1.block R (lt_of_block hRd) hRc).trans hRd
      replace hT_w1 := hT0.trans hT_w1
      refine hK.out _ _ (cell_of_block (i := 0) hD_w1.var rfl) (fun hHeld => ?_)
      clear hK K
      try simp only [Act.put, List.setIfInBounds_toArray, List.set_cons_zero, List.set_cons_succ]
      refine RegU.two (i := 3) (j := 7) (by kernel_rfl) rfl rfl (fun K hK => ?_) (fun K hK => ?_)
      · go_simp
        refine (num_any cb oa c vb B L (txtE L (p)) (bad || manyF L (p)) _ hD_w1).mono ?_
        rintro e w2 ⟨rfl, hD_w2, hT_w2⟩
        have hR_w2 : w2.heap[R]? = _ := (hT_w2.block R (lt_of_block hR_w1) hRc).trans hR_w1
        replace hT_w2 := hT_w1.trans hT_w2
        refine hK.out _ _ (cell_of_block (i := 0) hD_w2.var rfl) (fun hHeld => ?_)
        clear hK K
        try simp only [Act.put, List.setIfInBounds_toArray, List.set_cons_zero, List.set_cons_succ]
        refine RegU.two (i := 5) (j := 7) (by kernel_rfl) rfl rfl (fun K hK => ?_) (fun K hK => ?_)
        · go_simp
          refine (num_any cb oa c vb B L (numE L (txtE L (p))) ((bad || manyF L (p)) || numF L (txtE L (p))) _ hD_w2).mono ?_
          rintro e w3 ⟨rfl, hD_w3, hT_w3⟩
          have hR_w3 : w3.heap[R]? = _ := (hT_w3.block R (lt_of_block hR_w2) hRc).trans hR_w2
          replace hT_w3 := hT_w2.trans hT_w3
          refine hK.out _ _ (cell_of_block (i := 0) hD_w3.var rfl) (fun hHeld => ?_)
          clear hK K
          try simp only [Act.put, List.setIfInBounds_toArray, List.set_cons_zero, List.set_cons_succ]
          refine RegU.take [8] (i := 6) (v := ?_) rfl (by kernel_rfl) (by kernel_rfl) (by kernel_rfl) (by kernel_rfl) (by kernel_rfl) (fun _ _ _ h => h) (Or.inl ⟨by rfl, ?_⟩) (by assumption) ?_
          rotate_left
          · intro w hSw; (try dsimp only at hSw); go_simp; first | done | with_reducible rfl
          try simp only [Act.put, List.setIfInBounds_toArray, List.set_cons_zero, List.set_cons_succ]
          refine RegU.one (i := 7) (by kernel_rfl) rfl (fun K hK => ?_)
          go_simp
          have eB : B ≤ w3.heap.size := hD_w3.size
          have ec : w3.heap.size ≠ cb := by have := hD_w3.lowc; omega
          have eR : w3.heap.size ≠ R := by have := lt_of_block hR_w3; omega
          have ew : w.heap.size ≤ w3.heap.size := hT_w3.size
          have hX_w4 := heap_alloc_new w3 (.cells #[.string ⟨#[]⟩, .int .i64 0, .int .i64 0, .slice none 0 0, .slice none 0 0, .slice none 0 0] 112)
          have hD_w4 := hD_w3.keep (below_alloc (Below.refl _ w3) (.cells #[.string ⟨#[]⟩, .int .i64 0, .int .i64 0, .slice none 0 0, .slice none 0 0, .slice none 0 0] 112) eB)
          have hT_w4 := hT_w3.alloc (.cells #[.string ⟨#[]⟩, .int .i64 0, .int .i64 0, .slice none 0 0, .slice none 0 0, .slice none 0 0] 112)
          have hR_w4 : (w3.alloc (.cells #[.string ⟨#[]⟩, .int .i64 0, .int .i64 0, .slice none 0 0, .slice none 0 0, .slice none 0 0] 112)).heap[R]? = _ := (Below.heap_alloc w3 _ R (lt_of_block hR_w3)).trans hR_w3
          refine hK.out _ _ (cell_of_block (i := 0) hD_w4.var rfl) (fun hHeld => ?_)
          clear hK K
          try simp only [Act.put, List.setIfInBounds_toArray, List.set_cons_zero, List.set_cons_succ]
          generalize w3.alloc (.cells #[.string ⟨#[]⟩, .int .i64 0, .int .i64 0, .slice none 0 0, .slice none 0 0, .slice none 0 0] 112) = w4 at *
          generalize w3.heap.size = X at *
          refine RegU.rest [8] [_] (by kernel_rfl) rfl ?_
          have c0 : w4.cell? ⟨X, 0, none⟩ = some (.string ⟨#[]⟩) := cell_of_block (i := 0) hX_w4 rfl
          have f0 : w4.frozen? ⟨X, 0, none⟩ = false := frozen_of_block (i := 0) hX_w4
          have c1 : w4.cell? ⟨X, 1, none⟩ = some (.int .i64 0) := cell_of_block (i := 1) hX_w4 rfl
          have f1 : w4.frozen? ⟨X, 1, none⟩ = false := frozen_of_block (i := 1) hX_w4
          have c2 : w4.cell? ⟨X, 2, none⟩ = some (.int .i64 0) := cell_of_block (i := 2) hX_w4 rfl
          have f2 : w4.frozen? ⟨X, 2, none⟩ = false := frozen_of_block (i := 2) hX_w4
          have c3 : w4.cell? ⟨X, 3, none⟩ = some (.slice none 0 0) := cell_of_block (i := 3) hX_w4 rfl
          have f3 : w4.frozen? ⟨X, 3, none⟩ = false := frozen_of_block (i := 3) hX_w4
          have c4 : w4.cell? ⟨X, 4, none⟩ = some (.slice none 0 0) := cell_of_block (i := 4) hX_w4 rfl
          have f4 : w4.frozen? ⟨X, 4, none⟩ = false := frozen_of_block (i := 4) hX_w4
          have c5 : w4.cell? ⟨X, 5, none⟩ = some (.slice none 0 0) := cell_of_block (i := 5) hX_w4 rfl
          have f5 : w4.frozen? ⟨X, 5, none⟩ = false := frozen_of_block (i := 5) hX_w4
          go_wp2
          go_meet
          case rel => exact ⟨X, rfl, eB, ec, eR, ew, (img_set (i := 5) (v := .slice none 0 0) (img_set (i := 4) (v := .slice none 0 0) (img_set (i := 3) (v := .slice none 0 0) (img_set (i := 2) (v := .int .i64 (numV L (numE L (txtE L (p))))) (img_set (i := 1) (v := .int .i64 (numV L (txtE L (p)))) (img_set (i := 0) (v := .string (txtV L (p))) hX_w4)))))), ((blk_ne (p := ⟨X, 5, none⟩) (v := .slice none 0 0) (Ne.symm eR)).trans ((blk_ne (p := ⟨X, 4, none⟩) (v := .slice none 0 0) (Ne.symm eR)).trans ((blk_ne (p := ⟨X, 3, none⟩) (v := .slice none 0 0) (Ne.symm eR)).trans ((blk_ne (p := ⟨X, 2, none⟩) (v := .int .i64 (numV L (numE L (txtE L (p))))) (Ne.symm eR)).trans ((blk_ne (p := ⟨X, 1, none⟩) (v := .int .i64 (numV L (txtE L (p)))) (Ne.symm eR)).trans ((blk_ne (p := ⟨X, 0, none⟩) (v := .string (txtV L (p))) (Ne.symm eR)).trans hR_w4)))))), hD_w4.keep (((((((Below.refl _ w4).setCell (p := ⟨X, 0, none⟩) eB (.string (txtV L (p)))).setCell (p := ⟨X, 1, none⟩) eB (.int .i64 (numV L (txtE L (p))))).setCell (p := ⟨X, 2, none⟩) eB (.int .i64 (numV L (numE L (txtE L (p)))))).setCell (p := ⟨X, 3, none⟩) eB (.slice none 0 0)).setCell (p := ⟨X, 4, none⟩) eB (.slice none 0 0)).setCell (p := ⟨X, 5, none⟩) eB (.slice none 0 0)), ((((((hT_w4.setCell (p := ⟨X, 0, none⟩) (Or.inr ew) (.string (txtV L (p)))).setCell (p := ⟨X, 1, none⟩) (Or.inr ew) (.int .i64 (numV L (txtE L (p))))).setCell (p := ⟨X, 2, none⟩) (Or.inr ew) (.int .i64 (numV L (numE L (txtE L (p)))))).setCell (p := ⟨X, 3, none⟩) (Or.inr ew) (.slice none 0 0)).setCell (p := ⟨X, 4, none⟩) (Or.inr ew) (.slice none 0 0)).setCell (p := ⟨X, 5, none⟩) (Or.inr ew) (.slice none 0 0))⟩
        · go_simp
          have eB : B ≤ w2.heap.size := hD_w2.size
          have ec : w2.heap.size ≠ cb := by have := hD_w2.lowc; omega
          have eR : w2.heap.size ≠ R := by have := lt_of_block hR_w2; omega
          have ew : w.heap.size ≤ w2.heap.size := hT_w2.size
          have hX_w3 := heap_alloc_new w2 (.cells #[.string ⟨#[]⟩, .int .i64 0, .int .i64 0, .slice none 0 0, .slice none 0 0, .slice none 0 0] 112)
          have hD_w3 := hD_w2.keep (below_alloc (Below.refl _ w2) (.cells #[.string ⟨#[]⟩, .int .i64 0, .int .i64 0, .slice none 0 0, .slice none 0 0, .slice none 0 0] 112) eB)
          have hT_w3 := hT_w2.alloc (.cells #[.string ⟨#[]⟩, .int .i64 0, .int .i64 0, .slice none 0 0, .slice none 0 0, .slice none 0 0] 112)
          have hR_w3 : (w2.alloc (.cells #[.string ⟨#[]⟩, .int .i64 0, .int .i64 0, .slice none 0 0, .slice none 0 0, .slice none 0 0] 112)).heap[R]? = _ := (Below.heap_alloc w2 _ R (lt_of_block hR_w2)).trans hR_w2
          refine hK.out _ _ (cell_of_block (i := 0) hD_w3.var rfl) (fun hHeld => ?_)
          clear hK K
          try simp only [Act.put, List.setIfInBounds_toArray, List.set_cons_zero, List.set_cons_succ]
          generalize w2.alloc (.cells #[.string ⟨#[]⟩, .int .i64 0, .int .i64 0, .slice none 0 0, .slice none 0 0, .slice none 0 0] 112) = w3 at *
          generalize w2.heap.size = X at *
          refine RegU.rest [5, 6, 8] [_, _, _] (by kernel_rfl) rfl ?_
          go_wp2_with fail
          refine (num_any cb oa c vb B L (numE L (txtE L (p))) ((bad || manyF L (p)) || numF L (txtE L (p))) _ hD_w3).mono ?_
          rintro e w4 ⟨rfl, hD_w4, hT_w4⟩
          have hR_w4 : w4.heap[R]? = _ := (hT_w4.block R (lt_of_block hR_w3) hRc).trans hR_w3
          have hX_w4 : w4.heap[X]? = _ := (hT_w4.block X (lt_of_block hX_w3) ec).trans hX_w3
          replace hT_w4 := hT_w3.trans hT_w4
          have c0 : w4.cell? ⟨X, 0, none⟩ = some (.string ⟨#[]⟩) := cell_of_block (i := 0) hX_w4 rfl
          have f0 : w4.frozen? ⟨X, 0, none⟩ = false := frozen_of_block (i := 0) hX_w4
          have c1 : w4.cell? ⟨X, 1, none⟩ = some (.int .i64 0) := cell_of_block (i := 1) hX_w4 rfl
          have f1 : w4.frozen? ⟨X, 1, none⟩ = false := frozen_of_block (i := 1) hX_w4
          have c2 : w4.cell? ⟨X, 2, none⟩ = some (.int .i64 0) := cell_of_block (i := 2) hX_w4 rfl
          have f2 : w4.frozen? ⟨X, 2, none⟩ = false := frozen_of_block (i := 2) hX_w4
          have c3 : w4.cell? ⟨X, 3, none⟩ = some (.slice none 0 0) := cell_of_block (i := 3) hX_w4 rfl
          have f3 : w4.frozen? ⟨X, 3, none⟩ = false := frozen_of_block (i := 3) hX_w4
          have c4 : w4.cell? ⟨X, 4, none⟩ = some (.slice none 0 0) := cell_of_block (i := 4) hX_w4 rfl
          have f4 : w4.frozen? ⟨X, 4, none⟩ = false := frozen_of_block (i := 4) hX_w4
          have c5 : w4.cell? ⟨X, 5, none⟩ = some (.slice none 0 0) := cell_of_block (i := 5) hX_w4 rfl
          have f5 : w4.frozen? ⟨X, 5, none⟩ = false := frozen_of_block (i := 5) hX_w4
          go_wp2
          go_meet
          case rel => exact ⟨X, rfl, eB, ec, eR, ew, (img_set (i := 5) (v := .slice none 0 0) (img_set (i := 4) (v := .slice none 0 0) (img_set (i := 3) (v := .slice none 0 0) (img_set (i := 2) (v := .int .i64 (numV L (numE L (txtE L (p))))) (img_set (i := 1) (v := .int .i64 (numV L (txtE L (p)))) (img_set (i := 0) (v := .string (txtV L (p))) hX_w4)))))), ((blk_ne (p := ⟨X, 5, none⟩) (v := .slice none 0 0) (Ne.symm eR)).trans ((blk_ne (p := ⟨X, 4, none⟩) (v := .slice none 0 0) (Ne.symm eR)).trans ((blk_ne (p := ⟨X, 3, none⟩) (v := .slice none 0 0) (Ne.symm eR)).trans ((blk_ne (p := ⟨X, 2, none⟩) (v := .int .i64 (numV L (numE L (txtE L (p))))) (Ne.symm eR)).trans ((blk_ne (p := ⟨X, 1, none⟩) (v := .int .i64 (numV L (txtE L (p)))) (Ne.symm eR)).trans ((blk_ne (p := ⟨X, 0, none⟩) (v := .string (txtV L (p))) (Ne.symm eR)).trans hR_w4)))))), hD_w4.keep (((((((Below.refl _ w4).setCell (p := ⟨X, 0, none⟩) eB (.string (txtV L (p)))).setCell (p := ⟨X, 1, none⟩) eB (.int .i64 (numV L (txtE L (p))))).setCell (p := ⟨X, 2, none⟩) eB (.int .i64 (numV L (numE L (txtE L (p)))))).setCell (p := ⟨X, 3, none⟩) eB (.slice none 0 0)).setCell (p := ⟨X, 4, none⟩) eB (.slice none 0 0)).setCell (p := ⟨X, 5, none⟩) eB (.slice none 0 0)), ((((((hT_w4.setCell (p := ⟨X, 0, none⟩) (Or.inr ew) (.string (txtV L (p)))).setCell (p := ⟨X, 1, none⟩) (Or.inr ew) (.int .i64 (numV L (txtE L (p))))).setCell (p := ⟨X, 2, none⟩) (Or.inr ew) (.int .i64 (numV L (numE L (txtE L (p)))))).setCell (p := ⟨X, 3, none⟩) (Or.inr ew) (.slice none 0 0)).setCell (p := ⟨X, 4, none⟩) (Or.inr ew) (.slice none 0 0)).setCell (p := ⟨X, 5, none⟩) (Or.inr ew) (.slice none 0 0))⟩
      · go_simp
        have eB : B ≤ w1.heap.size := hD_w1.size
        have ec : w1.heap.size ≠ cb := by have := hD_w1.lowc; omega
        have eR : w1.heap.size ≠ R := by have := lt_of_block hR_w1; omega
        have ew : w.heap.size ≤ w1.heap.size := hT_w1.size
        have hX_w2 := heap_alloc_new w1 (.cells #[.string ⟨#[]⟩, .int .i64 0, .int .i64 0, .slice none 0 0, .slice none 0 0, .slice none 0 0] 112)
        have hD_w2 := hD_w1.keep (below_alloc (Below.refl _ w1) (.cells #[.string ⟨#[]⟩, .int .i64 0, .int .i64 0, .slice none 0 0, .slice none 0 0, .slice none 0 0] 112) eB)
        have hT_w2 := hT_w1.alloc (.cells #[.string ⟨#[]⟩, .int .i64 0, .int .i64 0, .slice none 0 0, .slice none 0 0, .slice none 0 0] 112)
        have hR_w2 : (w1.alloc (.cells #[.string ⟨#[]⟩, .int .i64 0, .int .i64 0, .slice none 0 0, .slice none 0 0, .slice none 0 0] 112)).heap[R]? = _ := (Below.heap_alloc w1 _ R (lt_of_block hR_w1)).trans hR_w1
        refine hK.out _ _ (cell_of_block (i := 0) hD_w2.var rfl) (fun hHeld => ?_)
        clear hK K
        try simp only [Act.put, List.setIfInBounds_toArray, List.set_cons_zero, List.set_cons_succ]
        generalize w1.alloc (.cells #[.string ⟨#[]⟩, .int .i64 0, .int .i64 0, .slice none 0 0, .slice none 0 0, .slice none 0 0] 112) = w2 at *
        generalize w1.heap.size = X at *
        refine RegU.one (i := 3) (by kernel_rfl) rfl (fun K hK => ?_)
        go_simp
        refine (num_any cb oa c vb B L (txtE L (p)) (bad || manyF L (p)) _ hD_w2).mono ?_
        rintro e w3 ⟨rfl, hD_w3, hT_w3⟩
        have hR_w3 : w3.heap[R]? = _ := (hT_w3.block R (lt_of_block hR_w2) hRc).trans hR_w2
        have hX_w3 : w3.heap[X]? = _ := (hT_w3.block X (lt_of_block hX_w2) ec).trans hX_w2
        replace hT_w3 := hT_w2.trans hT_w3
        refine hK.out _ _ (cell_of_block (i := 0) hD_w3.var rfl) (fun hHeld => ?_)
        clear hK K
        try simp only [Act.put, List.setIfInBounds_toArray, List.set_cons_zero, List.set_cons_succ]
        refine RegU.rest [5, 6, 8] [_, _, _] (by kernel_rfl) rfl ?_
        go_wp2_with fail
        refine (num_any cb oa c vb B L (numE L (txtE L (p))) ((bad || manyF L (p)) || numF L (txtE L (p))) _ hD_w3).mono ?_
        rintro e w4 ⟨rfl, hD_w4, hT_w4⟩
        have hR_w4 : w4.heap[R]? = _ := (hT_w4.block R (lt_of_block hR_w3) hRc).trans hR_w3
        have hX_w4 : w4.heap[X]? = _ := (hT_w4.block X (lt_of_block hX_w3) ec).trans hX_w3
        replace hT_w4 := hT_w3.trans hT_w4
        have c0 : w4.cell? ⟨X, 0, none⟩ = some (.string ⟨#[]⟩) := cell_of_block (i := 0) hX_w4 rfl
        have f0 : w4.frozen? ⟨X, 0, none⟩ = false := frozen_of_block (i := 0) hX_w4
        have c1 : w4.cell? ⟨X, 1, none⟩ = some (.int .i64 0) := cell_of_block (i := 1) hX_w4 rfl
        have f1 : w4.frozen? ⟨X, 1, none⟩ = false := frozen_of_block (i := 1) hX_w4
        have c2 : w4.cell? ⟨X, 2, none⟩ = some (.int .i64 0) := cell_of_block (i := 2) hX_w4 rfl
        have f2 : w4.frozen? ⟨X, 2, none⟩ = false := frozen_of_block (i := 2) hX_w4
        have c3 : w4.cell? ⟨X, 3, none⟩ = some (.slice none 0 0) := cell_of_block (i := 3) hX_w4 rfl
        have f3 : w4.frozen? ⟨X, 3, none⟩ = false := frozen_of_block (i := 3) hX_w4
        have c4 : w4.cell? ⟨X, 4, none⟩ = some (.slice none 0 0) := cell_of_block (i := 4) hX_w4 rfl
        have f4 : w4.frozen? ⟨X, 4, none⟩ = false := frozen_of_block (i := 4) hX_w4
        have c5 : w4.cell? ⟨X, 5, none⟩ = some (.slice none 0 0) := cell_of_block (i := 5) hX_w4 rfl
        have f5 : w4.frozen? ⟨X, 5, none⟩ = false := frozen_of_block (i := 5) hX_w4
        go_wp2
        go_meet
        case rel => exact ⟨X, rfl, eB, ec, eR, ew, (img_set (i := 5) (v := .slice none 0 0) (img_set (i := 4) (v := .slice none 0 0) (img_set (i := 3) (v := .slice none 0 0) (img_set (i := 2) (v := .int .i64 (numV L (numE L (txtE L (p))))) (img_set (i := 1) (v := .int .i64 (numV L (txtE L (p)))) (img_set (i := 0) (v := .string (txtV L (p))) hX_w4)))))), ((blk_ne (p := ⟨X, 5, none⟩) (v := .slice none 0 0) (Ne.symm eR)).trans ((blk_ne (p := ⟨X, 4, none⟩) (v := .slice none 0 0) (Ne.symm eR)).trans ((blk_ne (p := ⟨X, 3, none⟩) (v := .slice none 0 0) (Ne.symm eR)).trans ((blk_ne (p := ⟨X, 2, none⟩) (v := .int .i64 (numV L (numE L (txtE L (p))))) (Ne.symm eR)).trans ((blk_ne (p := ⟨X, 1, none⟩) (v := .int .i64 (numV L (txtE L (p)))) (Ne.symm eR)).trans ((blk_ne (p := ⟨X, 0, none⟩) (v := .string (txtV L (p))) (Ne.symm eR)).trans hR_w4)))))), hD_w4.keep (((((((Below.refl _ w4).setCell (p := ⟨X, 0, none⟩) eB (.string (txtV L (p)))).setCell (p := ⟨X, 1, none⟩) eB (.int .i64 (numV L (txtE L (p))))).setCell (p := ⟨X, 2, none⟩) eB (.int .i64 (numV L (numE L (txtE L (p)))))).setCell (p := ⟨X, 3, none⟩) eB (.slice none 0 0)).setCell (p := ⟨X, 4, none⟩) eB (.slice none 0 0)).setCell (p := ⟨X, 5, none⟩) eB (.slice none 0 0)), ((((((hT_w4.setCell (p := ⟨X, 0, none⟩) (Or.inr ew) (.string (txtV L (p)))).setCell (p := ⟨X, 1, none⟩) (Or.inr ew) (.int .i64 (numV L (txtE L (p))))).setCell (p := ⟨X, 2, none⟩) (Or.inr ew) (.int .i64 (numV L (numE L (txtE L (p)))))).setCell (p := ⟨X, 3, none⟩) (Or.inr ew) (.slice none 0 0)).setCell (p := ⟨X, 4, none⟩) (Or.inr ew) (.slice none 0 0)).setCell (p := ⟨X, 5, none⟩) (Or.inr ew) (.slice none 0 0))⟩
    · go_simp
      have eB : B ≤ wd.heap.size := hD0.size
      have ec : wd.heap.size ≠ cb := by have := hD0.lowc; omega
      have eR : wd.heap.size ≠ R := by have := lt_of_block hRd; omega
      have ew : w.heap.size ≤ wd.heap.size := hT0.size
      have hX_w1 := heap_alloc_new wd (.cells #[.string ⟨#[]⟩, .int .i64 0, .int .i64 0, .slice none 0 0, .slice none 0 0, .slice none 0 0] 112)
      have hD_w1 := hD0.keep (below_alloc (Below.refl _ wd) (.cells #[.string ⟨#[]⟩, .int .i64 0, .int .i64 0, .slice none 0 0, .slice none 0 0, .slice none 0 0] 112) eB)
      have hT_w1 := hT0.alloc (.cells #[.string ⟨#[]⟩, .int .i64 0, .int .i64 0, .slice none 0 0, .slice none 0 0, .slice none 0 0] 112)
      have hR_w1 : (wd.alloc (.cells #[.string ⟨#[]⟩, .int .i64 0, .int .i64 0, .slice none 0 0, .slice none 0 0, .slice none 0 0] 112)).heap[R]? = _ := (Below.heap_alloc wd _ R (lt_of_block hRd)).trans hRd
      refine hK.out _ _ (cell_of_block (i := 0) hD_w1.var rfl) (fun hHeld => ?_)
      clear hK K
      try simp only [Act.put, List.setIfInBounds_toArray, List.set_cons_zero, List.set_cons_succ]
      generalize wd.alloc (.cells #[.string ⟨#[]⟩, .int .i64 0, .int .i64 0, .slice none 0 0, .slice none 0 0, .slice none 0 0] 112) = w1 at *
      generalize wd.heap.size = X at *
      refine RegU.one (i := 1) (by kernel_rfl) rfl (fun K hK => ?_)
      go_simp
      refine (text_any cb oa c vb B L (p) bad _ hD_w1).mono ?_
      rintro e w2 ⟨rfl, hD_w2, hT_w2⟩
      have hR_w2 : w2.heap[R]? = _ := (hT_w2.block R (lt_of_block hR_w1) hRc).trans hR_w1
      have hX_w2 : w2.heap[X]? = _ := (hT_w2.block X (lt_of_block hX_w1) ec).trans hX_w1
      replace hT_w2 := hT_w1.trans hT_w2
      refine hK.out _ _ (cell_of_block (i := 0) hD_w2.var rfl) (fun hHeld => ?_)
      clear hK K
      try simp only [Act.put, List.setIfInBounds_toArray, List.set_cons_zero, List.set_cons_succ]
      refine RegU.one (i := 3) (by kernel_rfl) rfl (fun K hK => ?_)
      go_simp
      refine (num_any cb oa c vb B L (txtE L (p)) (bad || manyF L (p)) _ hD_w2).mono ?_
      rintro e w3 ⟨rfl, hD_w3, hT_w3⟩
      have hR_w3 : w3.heap[R]? = _ := (hT_w3.block R (lt_of_block hR_w2) hRc).trans hR_w2
      have hX_w3 : w3.heap[X]? = _ := (hT_w3.block X (lt_of_block hX_w2) ec).trans hX_w2
      replace hT_w3 := hT_w2.trans hT_w3
      refine hK.out _ _ (cell_of_block (i := 0) hD_w3.var rfl) (fun hHeld => ?_)
      clear hK K
      try simp only [Act.put, List.setIfInBounds_toArray, List.set_cons_zero, List.set_cons_succ]
      refine RegU.rest [5, 6, 8] [_, _, _] (by kernel_rfl) rfl ?_
      go_wp2_with fail
      refine (num_any cb oa c vb B L (numE L (txtE L (p))) ((bad || manyF L (p)) || numF L (txtE L (p))) _ hD_w3).mono ?_
      rintro e w4 ⟨rfl, hD_w4, hT_w4⟩
      have hR_w4 : w4.heap[R]? = _ := (hT_w4.block R (lt_of_block hR_w3) hRc).trans hR_w3
      have hX_w4 : w4.heap[X]? = _ := (hT_w4.block X (lt_of_block hX_w3) ec).trans hX_w3
      replace hT_w4 := hT_w3.trans hT_w4
      have c0 : w4.cell? ⟨X, 0, none⟩ = some (.string ⟨#[]⟩) := cell_of_block (i := 0) hX_w4 rfl
      have f0 : w4.frozen? ⟨X, 0, none⟩ = false := frozen_of_block (i := 0) hX_w4
      have c1 : w4.cell? ⟨X, 1, none⟩ = some (.int .i64 0) := cell_of_block (i := 1) hX_w4 rfl
      have f1 : w4.frozen? ⟨X, 1, none⟩ = false := frozen_of_block (i := 1) hX_w4
      have c2 : w4.cell? ⟨X, 2, none⟩ = some (.int .i64 0) := cell_of_block (i := 2) hX_w4 rfl
      have f2 : w4.frozen? ⟨X, 2, none⟩ = false := frozen_of_block (i := 2) hX_w4
      have c3 : w4.cell? ⟨X, 3, none⟩ = some (.slice none 0 0) := cell_of_block (i := 3) hX_w4 rfl
      have f3 : w4.frozen? ⟨X, 3, none⟩ = false := frozen_of_block (i := 3) hX_w4
      have c4 : w4.cell? ⟨X, 4, none⟩ = some (.slice none 0 0) := cell_of_block (i := 4) hX_w4 rfl
      have f4 : w4.frozen? ⟨X, 4, none⟩ = false := frozen_of_block (i := 4) hX_w4
      have c5 : w4.cell? ⟨X, 5, none⟩ = some (.slice none 0 0) := cell_of_block (i := 5) hX_w4 rfl
      have f5 : w4.frozen? ⟨X, 5, none⟩ = false := frozen_of_block (i := 5) hX_w4
      go_wp2
      go_meet
      case rel => exact ⟨X, rfl, eB, ec, eR, ew, (img_set (i := 5) (v := .slice none 0 0) (img_set (i := 4) (v := .slice none 0 0) (img_set (i := 3) (v := .slice none 0 0) (img_set (i := 2) (v := .int .i64 (numV L (numE L (txtE L (p))))) (img_set (i := 1) (v := .int .i64 (numV L (txtE L (p)))) (img_set (i := 0) (v := .string (txtV L (p))) hX_w4)))))), ((blk_ne (p := ⟨X, 5, none⟩) (v := .slice none 0 0) (Ne.symm eR)).trans ((blk_ne (p := ⟨X, 4, none⟩) (v := .slice none 0 0) (Ne.symm eR)).trans ((blk_ne (p := ⟨X, 3, none⟩) (v := .slice none 0 0) (Ne.symm eR)).trans ((blk_ne (p := ⟨X, 2, none⟩) (v := .int .i64 (numV L (numE L (txtE L (p))))) (Ne.symm eR)).trans ((blk_ne (p := ⟨X, 1, none⟩) (v := .int .i64 (numV L (txtE L (p)))) (Ne.symm eR)).trans ((blk_ne (p := ⟨X, 0, none⟩) (v := .string (txtV L (p))) (Ne.symm eR)).trans hR_w4)))))), hD_w4.keep (((((((Below.refl _ w4).setCell (p := ⟨X, 0, none⟩) eB (.string (txtV L (p)))).setCell (p := ⟨X, 1, none⟩) eB (.int .i64 (numV L (txtE L (p))))).setCell (p := ⟨X, 2, none⟩) eB (.int .i64 (numV L (numE L (txtE L (p)))))).setCell (p := ⟨X, 3, none⟩) eB (.slice none 0 0)).setCell (p := ⟨X, 4, none⟩) eB (.slice none 0 0)).setCell (p := ⟨X, 5, none⟩) eB (.slice none 0 0)), ((((((hT_w4.setCell (p := ⟨X, 0, none⟩) (Or.inr ew) (.string (txtV L (p)))).setCell (p := ⟨X, 1, none⟩) (Or.inr ew) (.int .i64 (numV L (txtE L (p))))).setCell (p := ⟨X, 2, none⟩) (Or.inr ew) (.int .i64 (numV L (numE L (txtE L (p)))))).setCell (p := ⟨X, 3, none⟩) (Or.inr ew) (.slice none 0 0)).setCell (p := ⟨X, 4, none⟩) (Or.inr ew) (.slice none 0 0)).setCell (p := ⟨X, 5, none⟩) (Or.inr ew) (.slice none 0 0))⟩
  case rest =>
    obtain ⟨X, rfl, hXB, hXc, hXR, hXw, hX4, hR4, hD4, hT4⟩ := hcut
    have kv4 := cell_of_block (i := 0) (v := .pointer (some ⟨cb, 0, none⟩)) hD4.var rfl
    clear hR hRd kv hD0 hT0
    go_wp2_with fail
    refine (DecLI3.list_any cb oa c vb B L (i3P L) (fun p bad w h => i3_any cb oa c vb B L p bad w h) (numE L (numE L (txtE L (p)))) (((bad || manyF L (p)) || numF L (txtE L (p))) || numF L (numE L (txtE L (p)))) _ hD4).mono ?_
    rintro e w5 ⟨v3, rfl, hO3, hD5, hT5⟩
    have hX5 := (hT5.block X (lt_of_block hX4) hXc).trans hX4
    have hR5 := (hT5.block R (lt_of_block hR4) hRc).trans hR4
    replace hT5 := hT4.trans hT5
    clear hX4 hR4 hD4 hT4 kv4
    obtain ⟨o3, n3, k3, rfl⟩ := own_sl hO3 (by intro r hr; obtain ⟨y, _, rfl⟩ := List.mem_map.mp hr; rfl)
    have c3 : w5.cell? ⟨X, 3, none⟩ = some (.slice none 0 0) := cell_of_block (i := 3) hX5 rfl
    have f3 : w5.frozen? ⟨X, 3, none⟩ = false := frozen_of_block (i := 3) hX5
    have hDs5 := hD5.keep ((Below.refl _ w5).setCell (p := ⟨X, 3, none⟩) hXB (.slice o3 n3 k3))
    have hTs5 := hT5.setCell (p := ⟨X, 3, none⟩) (Or.inr hXw) (.slice o3 n3 k3)
    have hXs5 := img_set (i := 3) (v := (.slice o3 n3 k3)) hX5
    have hRs5 := (blk_ne (p := ⟨X, 3, none⟩) (v := (.slice o3 n3 k3)) (Ne.symm hXR)).trans hR5
    have hS5 := Stay.setCell (i := 3) (v := (.slice o3 n3 k3)) (Stay.refl w5) hX5 (by decide)
    have kv5 : w5.cell? ⟨vb, 0, none⟩ = some (.pointer (some ⟨cb, 0, none⟩)) := cell_of_block (i := 0) hD5.var rfl
    go_wp2_with fail
    refine (DecLH3.list_any cb oa c vb B L (h3P L) (fun p bad w h => h3_any cb oa c vb B L p bad w h) _ _ _ hDs5).mono ?_
    rintro e w6 ⟨v4, rfl, hO4, hD6, hT6⟩
    have hX6 := (hT6.block X (lt_of_block hXs5) hXc).trans hXs5
    have hR6 := (hT6.block R (lt_of_block hRs5) hRc).trans hRs5
    replace hS5 := hS5.trans (Stay.of_tc hDs5 hT6)
    replace hT6 := hTs5.trans hT6
    clear hX5 hR5 hXs5 hRs5 hD5 hDs5 hT5 hTs5 c3 f3 kv5
    obtain ⟨o4, n4, k4, rfl⟩ := own_sl hO4 (by intro r hr; obtain ⟨y, _, rfl⟩ := List.mem_map.mp hr; rfl)
    have c4 : w6.cell? ⟨X, 4, none⟩ = some (.slice none 0 0) := cell_of_block (i := 4) hX6 rfl
    have f4 : w6.frozen? ⟨X, 4, none⟩ = false := frozen_of_block (i := 4) hX6
    have hDs6 := hD6.keep ((Below.refl _ w6).setCell (p := ⟨X, 4, none⟩) hXB (.slice o4 n4 k4))
    have hTs6 := hT6.setCell (p := ⟨X, 4, none⟩) (Or.inr hXw) (.slice o4 n4 k4)
    have hXs6 := img_set (i := 4) (v := (.slice o4 n4 k4)) hX6
    have hRs6 := (blk_ne (p := ⟨X, 4, none⟩) (v := (.slice o4 n4 k4)) (Ne.symm hXR)).trans hR6
    have hS6 := Stay.setCell (i := 4) (v := (.slice o4 n4 k4)) (Stay.refl w6) hX6 (by decide)
    have kv6 : w6.cell? ⟨vb, 0, none⟩ = some (.pointer (some ⟨cb, 0, none⟩)) := cell_of_block (i := 0) hD6.var rfl
    go_wp2_with fail
    refine (DecLVr.list_any cb oa c vb B L (vrP L) (fun p bad w h => vr_any cb oa c vb B L p bad w h) _ _ _ hDs6).mono ?_
    rintro e w7 ⟨v5, rfl, hO5, hD7, hT7⟩
    have hX7 := (hT7.block X (lt_of_block hXs6) hXc).trans hXs6
    have hR7 := (hT7.block R (lt_of_block hRs6) hRc).trans hRs6
    replace hS6 := hS6.trans (Stay.of_tc hDs6 hT7)
    replace hT7 := hTs6.trans hT7
    clear hX6 hR6 hXs6 hRs6 hD6 hDs6 hT6 hTs6 c4 f4 kv6
    obtain ⟨o5, n5, k5, rfl⟩ := own_sl hO5 (by intro r hr; obtain ⟨y, _, rfl⟩ := List.mem_map.mp hr; rfl)
    have c5 : w7.cell? ⟨X, 5, none⟩ = some (.slice none 0 0) := cell_of_block (i := 5) hX7 rfl
    have f5 : w7.frozen? ⟨X, 5, none⟩ = false := frozen_of_block (i := 5) hX7
    have hDs7 := hD7.keep ((Below.refl _ w7).setCell (p := ⟨X, 5, none⟩) hXB (.slice o5 n5 k5))
    have hTs7 := hT7.setCell (p := ⟨X, 5, none⟩) (Or.inr hXw) (.slice o5 n5 k5)
    have hXs7 := img_set (i := 5) (v := (.slice o5 n5 k5)) hX7
    have hRs7 := (blk_ne (p := ⟨X, 5, none⟩) (v := (.slice o5 n5 k5)) (Ne.symm hXR)).trans hR7
    have hS7 := Stay.setCell (i := 5) (v := (.slice o5 n5 k5)) (Stay.refl w7) hX7 (by decide)
    have r0 : w7.cell? ⟨R, 0, none⟩ = some (.string ⟨#[]⟩) := cell_of_block (i := 0) hR7 rfl
    have g0 : w7.frozen? ⟨R, 0, none⟩ = false := frozen_of_block (i := 0) hR7
    have r1 : w7.cell? ⟨R, 1, none⟩ = some (.int .i64 0) := cell_of_block (i := 1) hR7 rfl
    have g1 : w7.frozen? ⟨R, 1, none⟩ = false := frozen_of_block (i := 1) hR7
    have r2 : w7.cell? ⟨R, 2, none⟩ = some (.int .i64 0) := cell_of_block (i := 2) hR7 rfl
    have g2 : w7.frozen? ⟨R, 2, none⟩ = false := frozen_of_block (i := 2) hR7
    have r3 : w7.cell? ⟨R, 3, none⟩ = some (.slice none 0 0) := cell_of_block (i := 3) hR7 rfl
    have g3 : w7.frozen? ⟨R, 3, none⟩ = false := frozen_of_block (i := 3) hR7
    have r4 : w7.cell? ⟨R, 4, none⟩ = some (.slice none 0 0) := cell_of_block (i := 4) hR7 rfl
    have g4 : w7.frozen? ⟨R, 4, none⟩ = false := frozen_of_block (i := 4) hR7
    have r5 : w7.cell? ⟨R, 5, none⟩ = some (.slice none 0 0) := cell_of_block (i := 5) hR7 rfl
    have g5 : w7.frozen? ⟨R, 5, none⟩ = false := frozen_of_block (i := 5) hR7
    have x0 : w7.cell? ⟨X, 0, none⟩ = some (.string (txtV L (p))) := cell_of_block (i := 0) hX7 rfl
    have x1 : w7.cell? ⟨X, 1, none⟩ = some (.int .i64 (numV L (txtE L (p)))) := cell_of_block (i := 1) hX7 rfl
    have x2 : w7.cell? ⟨X, 2, none⟩ = some (.int .i64 (numV L (numE L (txtE L (p))))) := cell_of_block (i := 2) hX7 rfl
    have x3 : w7.cell? ⟨X, 3, none⟩ = some ((.slice o3 n3 k3)) := cell_of_block (i := 3) hX7 rfl
    have x4 : w7.cell? ⟨X, 4, none⟩ = some ((.slice o4 n4 k4)) := cell_of_block (i := 4) hX7 rfl
    have hXR2 := Ne.symm hXR
    go_wp2
    obtain ⟨hW3, hm3, hs3⟩ := own_val hO3 (by intro r hr; obtain ⟨y, _, rfl⟩ := List.mem_map.mp hr; rfl)
    obtain ⟨hW4, hm4, hs4⟩ := own_val hO4 (by intro r hr; obtain ⟨y, _, rfl⟩ := List.mem_map.mp hr; rfl)
    obtain ⟨hW5, hm5, hs5⟩ := own_val hO5 (by intro r hr; obtain ⟨y, _, rfl⟩ := List.mem_map.mp hr; rfl)
    have hfin := (img_set (i := 5) (v := (.slice o5 n5 k5)) (img_set (i := 4) (v := (.slice o4 n4 k4)) (img_set (i := 3) (v := (.slice o3 n3 k3)) (img_set (i := 2) (v := .int .i64 (numV L (numE L (txtE L (p))))) (img_set (i := 1) (v := .int .i64 (numV L (txtE L (p)))) (img_set (i := 0) (v := .string (txtV L (p))) hRs7))))))
    have hst := (Stay.setCell (i := 5) (v := (.slice o5 n5 k5)) (Stay.setCell (i := 4) (v := (.slice o4 n4 k4)) (Stay.setCell (i := 3) (v := (.slice o3 n3 k3)) (Stay.setCell (i := 2) (v := .int .i64 (numV L (numE L (txtE L (p))))) (Stay.setCell (i := 1) (v := .int .i64 (numV L (txtE L (p)))) (Stay.setCell (i := 0) (v := .string (txtV L (p))) hS7 hRs7 (by decide)) (img_set (i := 0) (v := .string (txtV L (p))) hRs7) (by decide)) (img_set (i := 1) (v := .int .i64 (numV L (txtE L (p)))) (img_set (i := 0) (v := .string (txtV L (p))) hRs7)) (by decide)) (img_set (i := 2) (v := .int .i64 (numV L (numE L (txtE L (p))))) (img_set (i := 1) (v := .int .i64 (numV L (txtE L (p)))) (img_set (i := 0) (v := .string (txtV L (p))) hRs7))) (by decide)) (img_set (i := 3) (v := (.slice o3 n3 k3)) (img_set (i := 2) (v := .int .i64 (numV L (numE L (txtE L (p))))) (img_set (i := 1) (v := .int .i64 (numV L (txtE L (p)))) (img_set (i := 0) (v := .string (txtV L (p))) hRs7)))) (by decide)) (img_set (i := 4) (v := (.slice o4 n4 k4)) (img_set (i := 3) (v := (.slice o3 n3 k3)) (img_set (i := 2) (v := .int .i64 (numV L (numE L (txtE L (p))))) (img_set (i := 1) (v := .int .i64 (numV L (txtE L (p)))) (img_set (i := 0) (v := .string (txtV L (p))) hRs7))))) (by decide))
    have hDf := hDs7.keep (((((((Below.refl _ (w7.setCell ⟨X, 5, none⟩ (.slice o5 n5 k5))).setCell (p := ⟨R, 0, none⟩) hRB (.string (txtV L (p)))).setCell (p := ⟨R, 1, none⟩) hRB (.int .i64 (numV L (txtE L (p))))).setCell (p := ⟨R, 2, none⟩) hRB (.int .i64 (numV L (numE L (txtE L (p)))))).setCell (p := ⟨R, 3, none⟩) hRB ((.slice o3 n3 k3))).setCell (p := ⟨R, 4, none⟩) hRB ((.slice o4 n4 k4))).setCell (p := ⟨R, 5, none⟩) hRB ((.slice o5 n5 k5)))
    have hTf := ((((((hTs7.setCell (p := ⟨R, 0, none⟩) (Or.inr (Nat.le_of_eq hRR)) (.string (txtV L (p)))).setCell (p := ⟨R, 1, none⟩) (Or.inr (Nat.le_of_eq hRR)) (.int .i64 (numV L (txtE L (p))))).setCell (p := ⟨R, 2, none⟩) (Or.inr (Nat.le_of_eq hRR)) (.int .i64 (numV L (numE L (txtE L (p)))))).setCell (p := ⟨R, 3, none⟩) (Or.inr (Nat.le_of_eq hRR)) ((.slice o3 n3 k3))).setCell (p := ⟨R, 4, none⟩) (Or.inr (Nat.le_of_eq hRR)) ((.slice o4 n4 k4))).setCell (p := ⟨R, 5, none⟩) (Or.inr (Nat.le_of_eq hRR)) ((.slice o5 n5 k5)))
    refine bodyPost_ret (res_fc rfl hfin) rfl ?_
    refine ⟨⟨txtV L p, numV L (txtE L p), numV L (numE L (txtE L p)), (lst L (i3P L) (numE L (numE L (txtE L p))) (((bad || manyF L p) || numF L (txtE L p)) || numF L (numE L (txtE L p)))).1, (lst L (h3P L) (lst L (i3P L) (numE L (numE L (txtE L p))) (((bad || manyF L p) || numF L (txtE L p)) || numF L (numE L (txtE L p)))).2.1 (lst L (i3P L) (numE L (numE L (txtE L p))) (((bad || manyF L p) || numF L (txtE L p)) || numF L (numE L (txtE L p)))).2.2).1, (lst L (vrP L) (lst L (h3P L) (lst L (i3P L) (numE L (numE L (txtE L p))) (((bad || manyF L p) || numF L (txtE L p)) || numF L (numE L (txtE L p)))).2.1 (lst L (i3P L) (numE L (numE L (txtE L p))) (((bad || manyF L p) || numF L (txtE L p)) || numF L (numE L (txtE L p)))).2.2).2.1 (lst L (h3P L) (lst L (i3P L) (numE L (numE L (txtE L p))) (((bad || manyF L p) || numF L (txtE L p)) || numF L (numE L (txtE L p)))).2.1 (lst L (i3P L) (numE L (numE L (txtE L p))) (((bad || manyF L p) || numF L (txtE L p)) || numF L (numE L (txtE L p)))).2.2).2.2).1, mkSl (.slice o3 n3 k3), mkSl (.slice o4 n4 k4), mkSl (.slice o5 n5 k5)⟩, by rw [← hs3, ← hs4, ← hs5], ⟨rfl, rfl, rfl, rfl, rfl, rfl⟩, ?_, hDf, hTf⟩
    exact ⟨own_stay (hS5.trans (hS6.trans hst)) (by decide) hW3, own_stay (hS6.trans hst) (by decide) hW4, own_stay hst (by decide) hW5, hm3, hm4, hm5⟩
end Go.Proofs.YthbkklnahhdgcaaDoor.DecFa
