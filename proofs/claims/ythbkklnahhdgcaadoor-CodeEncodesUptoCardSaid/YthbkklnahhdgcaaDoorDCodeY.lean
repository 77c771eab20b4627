/-
  The walk of rewindlaw.CodeChecks: at every image that lies in memory it answers true, and nothing that was there has turned.
-/
import Derived.Test.YthbkklnahhdgcaaDoorDCodeM
import Derived.Test.YthbkklnahhdgcaaDoorDCodeJ
import Derived.Test.YthbkklnahhdgcaaDoorDCodeO
namespace Go.Proofs.YthbkklnahhdgcaaDoor.CodeY
open Go Go.Proofs Go.RowKit Lib CodeR CodeA CodeB CodeP CodeQ CodeD CodeS CodeH CodeK CodeL CodeM CodeI CodeJ CodeO ErrC ErrD

theorem bOk_of {m : Im} (h : ImOk m) : ∀ f ∈ m.funcs, CodeXa.bOk f := fun f hf x hx => ((h.fn f hf).code x hx).2.2
theorem bOk_same {m k : Im} (h : ImSame m k) (ho : ImOk m) : ∀ f ∈ k.funcs, CodeXa.bOk f := by
  intro f hf
  obtain ⟨i, hi⟩ := List.mem_iff_getElem?.mp hf
  obtain ⟨g, hg, hs⟩ := h.symm.funcs.get hi
  intro x hx
  rw [hs.code] at hx
  exact bOk_of ho g (List.mem_of_getElem? hg) x hx

theorem im_box (w : World) (m : Im) : Row (w.alloc (.cells #[m.funcsS.val, m.constsS.val, m.classesS.val] 42)) w.heap.size 0 m.vals := by
  intro k v hv
  match k, hv with
  | 0, hv => simp only [Im.vals, List.getElem?_cons_zero, Option.some.injEq] at hv; subst hv; simp
  | 1, hv => simp only [Im.vals, List.getElem?_cons_zero, List.getElem?_cons_succ, Option.some.injEq] at hv; subst hv; simp
  | 2, hv => simp only [Im.vals, List.getElem?_cons_zero, List.getElem?_cons_succ, Option.some.injEq] at hv; subst hv; simp

set_option maxRecDepth 100000 in
set_option maxHeartbeats 4000000 in
theorem law (m : Im) (w : World) (hi : ImIn w m) (hok : ImOk m) (hg : EtIs w) (hf0 : w.cell? ⟨0, 0, none⟩ = some (.int .i64 0)) (hf1 : w.cell? ⟨0, 1, none⟩ = some (.int .i64 (-1))) :
    Calls Tryd.prog 4 #[.agg #[.slice m.funcsS.oa m.funcsS.n m.funcsS.c, .slice m.constsS.oa m.constsS.n m.constsS.c, .slice m.classesS.oa m.classesS.n m.classesS.c]] w fun r w' => r = .returned (.bool true) ∧ Below w.heap.size w w' := by
  have hl : 1 < w.heap.size := World.block_lt_of_cell? w _ hg
  have hl0 : 0 < w.heap.size := World.block_lt_of_cell? w _ hf0
  have hbx := im_box w m
  unfold Sl.val at hbx
  have hB0 : Below w.heap.size w (w.alloc (.cells #[.slice m.funcsS.oa m.funcsS.n m.funcsS.c, .slice m.constsS.oa m.constsS.n m.constsS.c, .slice m.classesS.oa m.classesS.n m.classesS.c] 42)) := (Below.refl _ _).alloc (Nat.le_refl _) _
  have hsz : (w.alloc (.cells #[.slice m.funcsS.oa m.funcsS.n m.funcsS.c, .slice m.constsS.oa m.constsS.n m.constsS.c, .slice m.classesS.oa m.classesS.n m.classesS.c] 42)).heap.size = w.heap.size + 1 := by simp
  have hi0 := hi.below hB0 (Nat.le_refl _)
  have cfew := few_any m (w.alloc (.cells #[.slice m.funcsS.oa m.funcsS.n m.funcsS.c, .slice m.constsS.oa m.constsS.n m.constsS.c, .slice m.classesS.oa m.classesS.n m.classesS.c] 42)) hi0 (fun f hf => (hok.fn f hf).lens) (fun c hc => (hok.cl c hc).lens)
  go_enter Tryd.func4, Tryd.ntmps4
  go_wp2_with fail
  generalize w.alloc (.cells #[.slice m.funcsS.oa m.funcsS.n m.funcsS.c, .slice m.constsS.oa m.constsS.n m.constsS.c, .slice m.classesS.oa m.classesS.n m.classesS.c] 42) = w0 at *
  refine cfew.mono ?_
  rintro r w1 ⟨b, rfl, hfew, hb1⟩
  have hB1 := hB0.trans (hb1.mono (by omega))
  cases b
  · go_wp2_with fail
    go_ret
    exact ⟨rfl, hB1⟩
  have hF : FewIm m := hfew rfl
  clear hfew
  have hi1 := hi0.below hb1 (Nat.le_refl _)
  have hbx1 := hbx.below hb1 (Nat.le_refl _)
  clear hi0 hbx cfew hb1
  go_wp2_with fail
  refine (Check_any w.heap.size 0 m w1 hbx1 hi1 (bOk_of hok)).mono ?_
  rintro r w2 ⟨e, p, v, rfl, he2, hv, hb2⟩
  have hB2 := hB1.trans (hb2.mono hB1.size)
  have hi2 := hi1.below hb2 (Nat.le_refl _)
  have hbx2 := hbx1.below hb2 (Nat.le_refl _)
  clear hi1 hbx1 hb2
  go_wp2_with fail
  refine (image_any w.heap.size 0 m w2 hbx2 hi2 hF).mono ?_
  rintro r w3 ⟨b', m', rfl, hrow, hi3, hsame, hb3⟩
  have hB3 := hB2.trans (hb3.mono hB2.size)
  have he3 := ErrIs.below he2 hb3 (Nat.le_refl _)
  clear he2 hb3 hi2 hbx2
  go_wp2_with fail
  refine (ImageCheck_any b' 0 m' w3 hrow hi3 (bOk_same hsame hok) (by rw [hB3.cell (p := ⟨0, 0, none⟩) hl0]; exact hf0) (by rw [hB3.cell (p := ⟨0, 1, none⟩) hl0]; exact hf1)).mono ?_
  rintro r w4 ⟨e', p', rfl, hv', hb4⟩
  obtain ⟨rfl, rfl⟩ := (imVerdict_same hsame hv).unique hv'
  have hB4 := hB3.trans (hb4.mono hB3.size)
  have he4 := ErrIs.below he3 hb4 (Nat.le_refl _)
  clear he3 hb4 hi3 hrow
  go_wp2_with fail
  refine (at_is he4 (hg.below hB4 hl)).mono ?_
  rintro r w5 ⟨rfl, hb5⟩
  have hB5 := hB4.trans (hb5.mono hB4.size)
  clear he4 hb5
  go_wp2_with fail
  refine (Check_nil w5).mono ?_
  rintro r w6 ⟨rfl, hb6⟩
  have hB6 := hB5.trans (hb6.mono hB5.size)
  clear hb6
  go_wp2_with fail
  refine (bare_errno 7 7 w6 (hg.below hB6 hl)).mono ?_
  rintro r w7 ⟨rfl, hb7⟩
  have hB7 := hB6.trans (hb7.mono hB6.size)
  clear hb7
  go_wp2_with fail
  go_ret
  exact ⟨rfl, hB7⟩
end Go.Proofs.YthbkklnahhdgcaaDoor.CodeY
