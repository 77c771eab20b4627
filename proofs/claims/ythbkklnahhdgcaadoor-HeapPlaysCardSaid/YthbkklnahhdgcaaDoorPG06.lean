/-
  Package heap's Minor: the region that makes the collector, and the one that writes the heap anew, by themselves.
-/
import Derived.Test.YthbkklnahhdgcaaDoorPG02
import Derived.Test.YthbkklnahhdgcaaDoorPG00
import Derived.Carry
import Derived.BigRegion
import Derived.Maps.Own
import Derived.Test.YthbkklnahhdgcaaDoorPG05
import Derived.Deep.Cut
import Derived.StillTailTactics
set_option maxRecDepth 100000
set_option maxHeartbeats 4000000
namespace Go.Proofs.YthbkklnahhdgcaaDoor.ChP
open Go Go.Proofs Go.RowKit Go.Proofs.YthbkklnahhdgcaaDoor.Lib HeapR ChCa

theorem cell_set_out {w : World} {a : Addr} {k j : Nat} (h : a.block ≠ k) {u : Value} : (w.setCell ⟨k, j, none⟩ u).cell? a = w.cell? a := by
  rw [World.cell?_setCell_other]
  rintro rfl
  exact h rfl

theorem make_region {Q : Exit → Act → World → Prop} {u0 u1 u3 u4 u5 u6 u7 u8 u9 Ja Jb Jc Jd Je Jf Jg Jh Ji Jj Jk Jl Jm Jn Jo Jp Jq Jr Js Jt Ju Jv Jw Jx Jy Jz Qa Qb Qc Qd Qe Qf Qg Qh Qi Qj Qk Ql Qm Qn Qo Qp Qq Qr Qs Qt Qu Qv Qw Qx Qy Qz Xe Xg Xh Xi Xj Xk Xn Xo Xp Xq Xt Xu Xv Xx Xy Xz Yg Yh Yi Yj Yk Yl Ym Yn Yo Yp Yq Yr Ys Yt Yu Yv Yw Yx Yy Yz Ua Ub Uc Ud Ue Uf Ug Uh Ui Uj Uk Ul Um Un Uo Up Uq Ur Us Ut Uu Uv : Value} (hv hb S : Nat) (ov : Value) (w : World) (hS : w.heap.size = S)
    (hv0 : w.cell? ⟨hv, 0, none⟩ = some (.pointer (some ⟨hb, 0, none⟩))) (c1 : w.cell? ⟨hb, 1, none⟩ = some ov) (hov : ∃ o n c, ov = .slice o n c)
    (hp : ∀ (c : List PanicEntry) (a : Act) (d : Tmp) (v : Value) (w : World), Q (.panic c) (a.put (some d) v) w → Q (.panic c) a w)
    (hQ : ∀ (s30 s31 s32 s33 s34 s35 s36 s37 s38 : Value) (w' : World), w'.heap[S + 1]? = some (kblk hb ov (.func (Fn.func 108) #[] #[.pointer (some ⟨hv, 0, none⟩)]) (.map (some S))) → w'.ownsMap Tryd.prog 3 (plainElem Tryd.prog 3) S 0 (.map [] : DataW Unit) → Turned (fun _ => False) w w' → Q .normal ⟨#[u0,u1,(.pointer (some ⟨hv,0,none⟩)),u3,u4,u5,(.pointer (some ⟨S + 1,0,none⟩)),u7,u8,u9,Ja,Jb,Jc,Jd,Je,Jf,Jg,Jh,Ji,Jj,Jk,Jl,Jm,Jn,Jo,Jp,Jq,Jr,Js,Jt,s30,s31,s32,s33,s34,s35,s36,s37,s38,Qd,Qe,Qf,Qg,Qh,Qi,Qj,Qk,Ql,Qm,Qn,Qo,Qp,Qq,Qr,Qs,Qt,Qu,Qv,Qw,Qx,Qy,Qz,Xe,Xg,Xh,Xi,Xj,Xk,Xn,Xo,Xp,Xq,Xt,Xu,Xv,Xx,Xy,Xz,Yg,Yh,Yi,Yj,Yk,Yl,Ym,Yn,Yo,Yp,Yq,Yr,Ys,Yt,Yu,Yv,Yw,Yx,Yy,Yz,Ua,Ub,Uc,Ud,Ue,Uf,Ug,Uh,Ui,Uj,Uk,Ul,Um,Un,Uo,Up,Uq,Ur,Us,Ut,Uu,Uv], []⟩ w') :
    Code.wp Tryd.prog (Cut.piece Tryd.f93 (Cut.region 4)) Q ⟨#[u0,u1,(.pointer (some ⟨hv,0,none⟩)),u3,u4,u5,u6,u7,u8,u9,Ja,Jb,Jc,Jd,Je,Jf,Jg,Jh,Ji,Jj,Jk,Jl,Jm,Jn,Jo,Jp,Jq,Jr,Js,Jt,Ju,Jv,Jw,Jx,Jy,Jz,Qa,Qb,Qc,Qd,Qe,Qf,Qg,Qh,Qi,Qj,Qk,Ql,Qm,Qn,Qo,Qp,Qq,Qr,Qs,Qt,Qu,Qv,Qw,Qx,Qy,Qz,Xe,Xg,Xh,Xi,Xj,Xk,Xn,Xo,Xp,Xq,Xt,Xu,Xv,Xx,Xy,Xz,Yg,Yh,Yi,Yj,Yk,Yl,Ym,Yn,Yo,Yp,Yq,Yr,Ys,Yt,Yu,Yv,Yw,Yx,Yy,Yz,Ua,Ub,Uc,Ud,Ue,Uf,Ug,Uh,Ui,Uj,Uk,Ul,Um,Un,Uo,Up,Uq,Ur,Us,Ut,Uu,Uv], []⟩ w := by
  subst hS
  have hmm := @run_makeMap Tryd.prog
  obtain ⟨oo, nn, cc, rfl⟩ := hov
  conv => arg 2; whnf
  refine RegT.begin (S := fun wz => wz.cell? ⟨hv, 0, none⟩ = some (.pointer (some ⟨hb, 0, none⟩)) ∧ wz.cell? ⟨hb, 1, none⟩ = some (.slice oo nn cc)) (L := 9) (by kernel_rfl) ⟨hv0, c1⟩ (fun hHeld => ?_)
  refine RegT.take (i := 0) (v := ?_) rfl (by kernel_rfl) (by kernel_rfl) (by kernel_rfl) (by kernel_rfl) (fun c a w h => hp c a _ _ w h) (Or.inl ⟨by rfl, ?_⟩) (by assumption) ?_
  rotate_left
  · intro w hSw; (try dsimp only at hSw); go_simp; first | done | with_reducible rfl
  try simp only [Act.put, List.setIfInBounds_toArray, List.set_cons_zero, List.set_cons_succ]
  refine RegT.take (i := 1) (v := ?_) rfl (by kernel_rfl) (by kernel_rfl) (by kernel_rfl) (by kernel_rfl) (fun c a w h => hp c a _ _ w h) (Or.inl ⟨by rfl, ?_⟩) (by assumption) ?_
  rotate_left
  · intro w hSw; (try dsimp only at hSw); go_simp; first | done | with_reducible rfl
  try simp only [Act.put, List.setIfInBounds_toArray, List.set_cons_zero, List.set_cons_succ]
  refine RegT.take (i := 2) (v := ?_) rfl (by kernel_rfl) (by kernel_rfl) (by kernel_rfl) (by kernel_rfl) (fun c a w h => hp c a _ _ w h) (Or.inl ⟨by rfl, ?_⟩) (by assumption) ?_
  rotate_left
  · intro w hSw; (try dsimp only at hSw); go_simp; first | done | with_reducible rfl
  try simp only [Act.put, List.setIfInBounds_toArray, List.set_cons_zero, List.set_cons_succ]
  refine RegT.take (i := 3) (v := ?_) rfl (by kernel_rfl) (by kernel_rfl) (by kernel_rfl) (by kernel_rfl) (fun c a w h => hp c a _ _ w h) (Or.inl ⟨by rfl, ?_⟩) (by assumption) ?_
  rotate_left
  · intro w hSw; (try dsimp only at hSw); go_simp; first | done | with_reducible rfl
  try simp only [Act.put, List.setIfInBounds_toArray, List.set_cons_zero, List.set_cons_succ]
  refine RegT.take (i := 4) (v := ?_) rfl (by kernel_rfl) (by kernel_rfl) (by kernel_rfl) (by kernel_rfl) (fun c a w h => hp c a _ _ w h) (Or.inl ⟨by rfl, ?_⟩) (by assumption) ?_
  rotate_left
  · intro w hSw; (try dsimp only at hSw); go_simp; first | done | with_reducible rfl
  try simp only [Act.put, List.setIfInBounds_toArray, List.set_cons_zero, List.set_cons_succ]
  refine RegT.take (i := 5) (v := ?_) rfl (by kernel_rfl) (by kernel_rfl) (by kernel_rfl) (by kernel_rfl) (fun c a w h => hp c a _ _ w h) (Or.inl ⟨by rfl, ?_⟩) (by assumption) ?_
  rotate_left
  · intro w hSw; (try dsimp only at hSw); go_simp; first | done | with_reducible rfl
  try simp only [Act.put, List.setIfInBounds_toArray, List.set_cons_zero, List.set_cons_succ]
  refine RegT.one (i := 6) (by kernel_rfl) rfl (fun K hK => ?_)
  go_simp
  refine hK.out _ _ ⟨alloc_cell hHeld.1 _, alloc_cell hHeld.2 _⟩ (fun hHeld => ?_)
  clear hK K
  try simp only [Act.put, List.setIfInBounds_toArray, List.set_cons_zero, List.set_cons_succ]
  refine RegT.one (i := 7) (by kernel_rfl) rfl (fun K hK => ?_)
  go_simp
  refine hK.out _ _ (by assumption) (fun hHeld => ?_)
  clear hK K
  try simp only [Act.put, List.setIfInBounds_toArray, List.set_cons_zero, List.set_cons_succ]
  refine RegT.one (i := 8) (by kernel_rfl) rfl (fun K hK => ?_)
  go_simp
  refine hK.out _ _ ⟨alloc_cell hHeld.1 _, alloc_cell hHeld.2 _⟩ (fun hHeld => ?_)
  clear hK K
  try simp only [Act.put, List.setIfInBounds_toArray, List.set_cons_zero, List.set_cons_succ]
  refine RegT.last (by kernel_rfl) rfl (by kernel_rfl) (fun K hK => ?_)
  go_simp
  refine hK.out _ _ ?_
  clear hK K
  try simp only [Act.put, List.setIfInBounds_toArray, List.set_cons_zero, List.set_cons_succ]
  exact hQ _ _ _ _ _ _ _ _ _ _ (heap_alloc_at (by simp) _) ((World.ownsMap_made w.drew Tryd.prog 3 (plainElem Tryd.prog 3)).alloc _) (((Turned.refl _ w).drew.alloc _).alloc _)
theorem write_region {Q : Exit → Act → World → Prop} {u0 u1 u3 u4 u5 u7 u8 u9 Ja Jb Jc Jd Je Jf Jg Jh Ji Jj Jk Jl Jm Jn Jo Jp Jq Jr Js Jt Ju Jv Jw Jx Jy Jz Qa Qb Qc Qd Qe Qf Qg Qh Qi Qj Qk Ql Qm Qn Qo Qp Qq Qr Qs Qt Qu Qv Qw Qx Qy Qz Xe Xg Xh Xi Xj Xk Xn Xo Xp Xq Xt Xu Xv Xx Xy Xz Yg Yh Yi Yj Yk Yl Ym Yn Yo Yp Yq Yr Ys Yt Yu Yv Yw Yx Yy Yz Ua Ub Uc Ud Ue Uf Ug Uh Ui Uj Uk Ul Um Un Uo Up Uq Ur Us Ut Uu Uv : Value} (hv hb kb : Nat) (HB : Array Value) (tv fv mv : Value) (w : World)
    (hv0 : w.cell? ⟨hv, 0, none⟩ = some (.pointer (some ⟨hb, 0, none⟩))) (hB : w.heap[hb]? = some (.cells HB 98 (0, 0))) (hsz : HB.size = 10) (hk : w.heap[kb]? = some (kblk hb tv fv mv)) (htv : ∃ o n c, tv = .slice o n c) (d1 : hv ≠ hb) (d2 : kb ≠ hb)
    (hQ : ∀ (sBW sBX sBY sBZ sCa sCb sCc sCd sCe sCf sCg sCh sCi : Value) (w' : World), w'.heap[hb]? = some (.cells (((HB.setIfInBounds 1 tv).setIfInBounds 2 (.int .i64 0)).setIfInBounds 5 (.slice none 0 0)) 98 (0, 0)) → Turned (fun k => k = hb) w w' → Q .normal ⟨#[u0,u1,(.pointer (some ⟨hv,0,none⟩)),u3,u4,u5,(.pointer (some ⟨kb,0,none⟩)),u7,u8,u9,Ja,Jb,Jc,Jd,Je,Jf,Jg,Jh,Ji,Jj,Jk,Jl,Jm,Jn,Jo,Jp,Jq,Jr,Js,Jt,Ju,Jv,Jw,Jx,Jy,Jz,Qa,Qb,Qc,Qd,Qe,Qf,Qg,Qh,Qi,Qj,Qk,Ql,Qm,Qn,Qo,Qp,Qq,Qr,Qs,Qt,Qu,Qv,Qw,Qx,Qy,Qz,Xe,Xg,Xh,Xi,Xj,Xk,Xn,Xo,Xp,Xq,Xt,Xu,Xv,Xx,Xy,Xz,Yg,Yh,Yi,Yj,Yk,Yl,Ym,Yn,Yo,Yp,Yq,Yr,Ys,Yt,Yu,Yv,Yw,Yx,Yy,Yz,Ua,Ub,sBW,sBX,sBY,sBZ,sCa,sCb,sCc,sCd,sCe,sCf,sCg,sCh,sCi,Up,Uq,Ur,Us,Ut,Uu,Uv], []⟩ w') :
    Code.wp Tryd.prog (Cut.piece Tryd.f93 (Cut.region 22)) Q ⟨#[u0,u1,(.pointer (some ⟨hv,0,none⟩)),u3,u4,u5,(.pointer (some ⟨kb,0,none⟩)),u7,u8,u9,Ja,Jb,Jc,Jd,Je,Jf,Jg,Jh,Ji,Jj,Jk,Jl,Jm,Jn,Jo,Jp,Jq,Jr,Js,Jt,Ju,Jv,Jw,Jx,Jy,Jz,Qa,Qb,Qc,Qd,Qe,Qf,Qg,Qh,Qi,Qj,Qk,Ql,Qm,Qn,Qo,Qp,Qq,Qr,Qs,Qt,Qu,Qv,Qw,Qx,Qy,Qz,Xe,Xg,Xh,Xi,Xj,Xk,Xn,Xo,Xp,Xq,Xt,Xu,Xv,Xx,Xy,Xz,Yg,Yh,Yi,Yj,Yk,Yl,Ym,Yn,Yo,Yp,Yq,Yr,Ys,Yt,Yu,Yv,Yw,Yx,Yy,Yz,Ua,Ub,Uc,Ud,Ue,Uf,Ug,Uh,Ui,Uj,Uk,Ul,Um,Un,Uo,Up,Uq,Ur,Us,Ut,Uu,Uv], []⟩ w := by
  obtain ⟨oo, nn, cc, rfl⟩ := htv
  have k1 : w.cell? ⟨kb, 1, none⟩ = some (.slice oo nn cc) := cell_of_block hk rfl
  obtain ⟨v1, hv1⟩ : ∃ v, HB[1]? = some v := ⟨_, Array.getElem?_eq_getElem (by omega)⟩
  obtain ⟨v2, hv2⟩ : ∃ v, HB[2]? = some v := ⟨_, Array.getElem?_eq_getElem (by omega)⟩
  obtain ⟨v5, hv5⟩ : ∃ v, HB[5]? = some v := ⟨_, Array.getElem?_eq_getElem (by omega)⟩
  have c1 : w.cell? ⟨hb, 1, none⟩ = some v1 := cell_of_block hB hv1
  have c2 : w.cell? ⟨hb, 2, none⟩ = some v2 := cell_of_block hB hv2
  have c5 : w.cell? ⟨hb, 5, none⟩ = some v5 := cell_of_block hB hv5
  have f1 : w.frozen? ⟨hb, 1, none⟩ = false := frozen_of_block hB
  have f2 : w.frozen? ⟨hb, 2, none⟩ = false := frozen_of_block hB
  have f5 : w.frozen? ⟨hb, 5, none⟩ = false := frozen_of_block hB
  have hw1 := blk_set (i := 5) (blk_set (i := 2) (blk_set (i := 1) hB (.slice oo nn cc)) (.int .i64 0)) (.slice none 0 0)
  have hT : Turned (fun k => k = hb) w (((w.setCell ⟨hb, 1, none⟩ (.slice oo nn cc)).setCell ⟨hb, 2, none⟩ (.int .i64 0)).setCell ⟨hb, 5, none⟩ (.slice none 0 0)) := (((Turned.refl (fun k => k = hb) w).setCell (p := ⟨hb, 1, none⟩) (Or.inl rfl) _).setCell (p := ⟨hb, 2, none⟩) (Or.inl rfl) _).setCell (p := ⟨hb, 5, none⟩) (Or.inl rfl) _
  clear hv1 hv2 hv5 hB hk hsz
  conv => arg 2; whnf
  refine wp_region_noPanic ?_
  refine RegT.begin (S := fun wz => wz.cell? ⟨hv, 0, none⟩ = some (.pointer (some ⟨hb, 0, none⟩)) ∧ wz.cell? ⟨kb, 1, none⟩ = some (.slice oo nn cc)) (L := 15) (by kernel_rfl) ⟨hv0, k1⟩ (fun hHeld => ?_)
  refine RegT.take (i := 0) (v := ?_) rfl (by kernel_rfl) (by kernel_rfl) (by kernel_rfl) (by kernel_rfl) (fun _ _ _ h => h) (Or.inl ⟨by rfl, ?_⟩) (by assumption) ?_
  rotate_left
  · intro w hSw; (try dsimp only at hSw); go_simp; first | done | with_reducible rfl
  try simp only [Act.put, List.setIfInBounds_toArray, List.set_cons_zero, List.set_cons_succ]
  refine RegT.take (i := 1) (v := ?_) rfl (by kernel_rfl) (by kernel_rfl) (by kernel_rfl) (by kernel_rfl) (fun _ _ _ h => h) (Or.inl ⟨by rfl, ?_⟩) (by assumption) ?_
  rotate_left
  · intro w hSw; (try dsimp only at hSw); go_simp; first | done | with_reducible rfl
  try simp only [Act.put, List.setIfInBounds_toArray, List.set_cons_zero, List.set_cons_succ]
  refine RegT.take (i := 2) (v := ?_) rfl (by kernel_rfl) (by kernel_rfl) (by kernel_rfl) (by kernel_rfl) (fun _ _ _ h => h) (Or.inl ⟨by rfl, ?_⟩) (by assumption) ?_
  rotate_left
  · intro w hSw; (try dsimp only at hSw); go_simp; first | done | with_reducible rfl
  try simp only [Act.put, List.setIfInBounds_toArray, List.set_cons_zero, List.set_cons_succ]
  refine RegT.take (i := 3) (v := ?_) rfl (by kernel_rfl) (by kernel_rfl) (by kernel_rfl) (by kernel_rfl) (fun _ _ _ h => h) (Or.inl ⟨by rfl, ?_⟩) (by assumption) ?_
  rotate_left
  · intro w hSw; (try dsimp only at hSw); go_simp; first | done | with_reducible rfl
  try simp only [Act.put, List.setIfInBounds_toArray, List.set_cons_zero, List.set_cons_succ]
  refine RegT.take (i := 4) (v := ?_) rfl (by kernel_rfl) (by kernel_rfl) (by kernel_rfl) (by kernel_rfl) (fun _ _ _ h => h) (Or.inl ⟨by rfl, ?_⟩) (by assumption) ?_
  rotate_left
  · intro w hSw; (try dsimp only at hSw); go_simp; first | done | with_reducible rfl
  try simp only [Act.put, List.setIfInBounds_toArray, List.set_cons_zero, List.set_cons_succ]
  refine RegT.take (i := 5) (v := ?_) rfl (by kernel_rfl) (by kernel_rfl) (by kernel_rfl) (by kernel_rfl) (fun _ _ _ h => h) (Or.inl ⟨by rfl, ?_⟩) (by assumption) ?_
  rotate_left
  · intro w hSw; (try dsimp only at hSw); go_simp; first | done | with_reducible rfl
  try simp only [Act.put, List.setIfInBounds_toArray, List.set_cons_zero, List.set_cons_succ]
  refine RegT.take (i := 6) (v := ?_) rfl (by kernel_rfl) (by kernel_rfl) (by kernel_rfl) (by kernel_rfl) (fun _ _ _ h => h) (Or.inl ⟨by rfl, ?_⟩) (by assumption) ?_
  rotate_left
  · intro w hSw; (try dsimp only at hSw); go_simp; first | done | with_reducible rfl
  try simp only [Act.put, List.setIfInBounds_toArray, List.set_cons_zero, List.set_cons_succ]
  refine RegT.take (i := 7) (v := ?_) rfl (by kernel_rfl) (by kernel_rfl) (by kernel_rfl) (by kernel_rfl) (fun _ _ _ h => h) (Or.inl ⟨by rfl, ?_⟩) (by assumption) ?_
  rotate_left
  · intro w hSw; (try dsimp only at hSw); go_simp; first | done | with_reducible rfl
  try simp only [Act.put, List.setIfInBounds_toArray, List.set_cons_zero, List.set_cons_succ]
  refine RegT.take (i := 8) (v := ?_) rfl (by kernel_rfl) (by kernel_rfl) (by kernel_rfl) (by kernel_rfl) (fun _ _ _ h => h) (Or.inl ⟨by rfl, ?_⟩) (by assumption) ?_
  rotate_left
  · intro w hSw; (try dsimp only at hSw); go_simp; first | done | with_reducible rfl
  try simp only [Act.put, List.setIfInBounds_toArray, List.set_cons_zero, List.set_cons_succ]
  have n1 : (⟨hv, 0, none⟩ : Addr).block ≠ hb := d1
  have n2 : (⟨kb, 1, none⟩ : Addr).block ≠ hb := d2
  refine RegT.one (i := 9) (by kernel_rfl) rfl (fun K hK => ?_)
  go_simp
  refine hK.out _ _ ?_ (fun hHeld => ?_)
  · exact ⟨(cell_set_out n1).trans hHeld.1, (cell_set_out n2).trans hHeld.2⟩
  clear hK K
  try simp only [Act.put, List.setIfInBounds_toArray, List.set_cons_zero, List.set_cons_succ]
  refine RegT.one (i := 10) (by kernel_rfl) rfl (fun K hK => ?_)
  go_simp
  refine hK.out _ _ (by assumption) (fun hHeld => ?_)
  clear hK K
  try simp only [Act.put, List.setIfInBounds_toArray, List.set_cons_zero, List.set_cons_succ]
  refine RegT.one (i := 11) (by kernel_rfl) rfl (fun K hK => ?_)
  go_simp
  refine hK.out _ _ (by assumption) (fun hHeld => ?_)
  clear hK K
  try simp only [Act.put, List.setIfInBounds_toArray, List.set_cons_zero, List.set_cons_succ]
  refine RegT.one (i := 12) (by kernel_rfl) rfl (fun K hK => ?_)
  go_simp
  refine hK.out _ _ ?_ (fun hHeld => ?_)
  · exact ⟨(cell_set_out n1).trans hHeld.1, (cell_set_out n2).trans hHeld.2⟩
  clear hK K
  try simp only [Act.put, List.setIfInBounds_toArray, List.set_cons_zero, List.set_cons_succ]
  refine RegT.one (i := 13) (by kernel_rfl) rfl (fun K hK => ?_)
  go_simp
  refine hK.out _ _ (by assumption) (fun hHeld => ?_)
  clear hK K
  try simp only [Act.put, List.setIfInBounds_toArray, List.set_cons_zero, List.set_cons_succ]
  refine RegT.one (i := 14) (by kernel_rfl) rfl (fun K hK => ?_)
  go_simp
  refine hK.out _ _ (by assumption) (fun hHeld => ?_)
  clear hK K
  try simp only [Act.put, List.setIfInBounds_toArray, List.set_cons_zero, List.set_cons_succ]
  refine RegT.last (by kernel_rfl) rfl (by kernel_rfl) (fun K hK => ?_)
  go_simp
  refine hK.out _ _ ?_
  clear hK K
  try simp only [Act.put, List.setIfInBounds_toArray, List.set_cons_zero, List.set_cons_succ]
  exact hQ _ _ _ _ _ _ _ _ _ _ _ _ _ _ hw1 hT.drew
end Go.Proofs.YthbkklnahhdgcaaDoor.ChP

namespace Go.Proofs.YthbkklnahhdgcaaDoor.ChQ
open Go Go.Proofs Go.RowKit Go.Maps Go.Proofs.YthbkklnahhdgcaaDoor.Lib HeapR HeapA ChA ChB ChT ChCa ChCc ChCd ChD ChE ChF ChG ChH ChI ChJ ChK ChL ChM ChN ChO ChP

/-- Roots that lie outside of a heap. -/
structure RootsAt (w : World) (own : Nat → Prop) (v : Value) (rs : List (Nat × Nat)) (f : Nat × Nat → Vl) : Prop where
  cell : ∀ a ∈ rs, w.cell? ⟨a.1, a.2, none⟩ = some (.int .i64 (f a).k) ∧ w.cell? ⟨a.1, a.2 + 1, none⟩ = some (.int .i64 (f a).n) ∧ w.cell? ⟨a.1, a.2 + 2, none⟩ = some (.string (f a).s) ∧ w.frozen? ⟨a.1, a.2 + 1, none⟩ = false
  out : ∀ a ∈ rs, ¬ own a.1
  blk : ∀ a ∈ rs, ∃ c t, w.heap[a.1]? = some (.cells c t (0, 0))
  apart : RootsApart rs
  len : rs.length ≤ big
  list : ∃ (oa : Option Addr) (rb ro c : Nat), v = .slice oa rs.length c ∧ ∀ (i : Nat) (a : Nat × Nat), rs[i]? = some a → oa = some ⟨rb, ro, none⟩ ∧ w.cell? ⟨rb, ro + i, none⟩ = some (.pointer (some ⟨a.1, a.2, none⟩)) ∧ ¬ own rb ∧ (∀ b ∈ rs, b.1 ≠ rb)

theorem minor_full {w : World} {hb nb mb : Nat} {ov rv : Value} {B : Nat} {H : HS} {nu ol : List Ob} (h : HR w hb nb mb ov rv B H) (hi : HI H nu ol) (v : Value) (hf : H.most < total ol + total nu) :
    Calls Tryd.prog 93 #[.pointer (some ⟨hb, 0, none⟩), v] w fun e w' => e = .returned (.iface 35 (.int .i64 12)) ∧ Below w.heap.size w w' := by
  have hlt : w.heap.size ≠ hb := fun e => by have := h.lt (.inl rfl); omega
  have c1 := alloc_cell h.c1 (.cells #[.pointer (some ⟨hb, 0, none⟩)] 22 (0, 0))
  have c2 := alloc_cell h.c2 (.cells #[.pointer (some ⟨hb, 0, none⟩)] 22 (0, 0))
  have c4 := alloc_cell h.c4 (.cells #[.pointer (some ⟨hb, 0, none⟩)] 22 (0, 0))
  obtain ⟨oa, n, c, hov, hn⟩ := HeapC.old_slice h
  rw [hi.olen] at hn
  subst hn
  subst hov
  rw [hi.top] at c2
  have hb1 : total ol + total nu ≤ big := by
    have h1 := h.om
    have h2 := h.mm
    have h3 := h.rr
    have h4 := hi.fit
    rw [hi.olen] at h1
    unfold big
    omega
  have hs : wrap64 ((total ol : Int) + (total nu : Int)) = (total ol : Int) + (total nu : Int) := wrap_two _ _ hb1
  have hs' : IntKind.i64.wrap ((total ol : Int) + (total nu : Int)) = (total ol : Int) + (total nu : Int) := wrapk_two _ _ hb1
  have hd : decide ((H.most : Int) < (total ol : Int) + (total nu : Int)) = true := by
    simp only [decide_eq_true_eq]
    clear hs hs'
    omega
  clear h hi hf hb1
  go_enter Tryd.func93, Tryd.ntmps93
  go_wp2_with fail
  go_quiet (fail)
  go_wp2
  go_ret
  exact ⟨rfl, below_drewN ((Below.refl _ _).alloc (Nat.le_refl _) _) _⟩

end Go.Proofs.YthbkklnahhdgcaaDoor.ChQ

namespace Go.Proofs.YthbkklnahhdgcaaDoor.ChR
open Go Go.Proofs Go.RowKit Go.Maps Go.Proofs.YthbkklnahhdgcaaDoor.Lib HeapR HeapA ChA ChB ChT ChCa ChCc ChCd ChD ChE ChF ChG ChH ChI ChJ ChK ChL ChM ChN ChO ChP ChQ

theorem laid_cells {a : Nat} {l : List Ob} (h : Laid a l) {o : Ob} (ho : o ∈ l) {i : Nat} {c : HCell} (hc : (o.cells 0)[i]? = some c) : (flat l)[o.addr - a + i]? = some c := by
  induction l generalizing a with
  | nil => cases ho
  | cons x l ih =>
    obtain ⟨h1, h2⟩ := h
    have hi : i < o.len := by
      have := (List.getElem?_eq_some_iff.1 hc).1
      rwa [Ob.length_cells] at this
    show (x.cells 0 ++ flat l)[o.addr - a + i]? = some c
    rcases List.mem_cons.mp ho with rfl | ho
    · rw [h1, Nat.sub_self, Nat.zero_add, List.getElem?_append_left (by rw [Ob.length_cells]; exact hi)]
      exact hc
    · have h3 := laid_in h2 ho
      rw [List.getElem?_append_right (by rw [Ob.length_cells]; omega), Ob.length_cells, show o.addr - a + i - x.len = o.addr - (a + x.len) + i by omega]
      exact ih h2 ho

/-- Minor's collector. -/
def minPar (w : World) (hb nb mb : Nat) (ov rv : Value) (B : Nat) (H : HS) (nu : List Ob) (src : Nat → Prop) : Par :=
  { kb := w.heap.size + 2, hb := hb, hv := w.heap.size, wb := w.heap.size + 1, nb := nb, B := B, room := H.room, HB := hblock nb mb ov rv H, maj := false, O := nu, base := H.old, pl := fun a => (nb, a * 8), src := src, ro := rowDesc w }
theorem minPar_from (w : World) (hb nb mb : Nat) (ov rv : Value) (B : Nat) (H : HS) (nu : List Ob) (src : Nat → Prop) (n : Int) : (minPar w hb nb mb ov rv B H nu src).from_ n = decide (n < (H.room : Int)) := rfl
theorem minPar_z (w : World) (hb nb mb : Nat) (ov rv : Value) (B : Nat) (H : HS) (nu : List Ob) (src : Nat → Prop) : (minPar w hb nb mb ov rv B H nu src).z = H.room + H.old.length := rfl
variable {w : World} {hb nb mb : Nat} {ov rv : Value} {B : Nat} {H : HS} {nu ol : List Ob} {src : Nat → Prop}
theorem min_addr (hi : HI H nu ol) {o : Ob} (ho : o ∈ nu) : o.addr + o.len ≤ H.room := by
  have h1 := laid_in hi.na ho
  have h2 := hi.fit
  omega
theorem minPar_ok (h : HR w hb nb mb ov rv B H) (hi : HI H nu ol) (hn : H.next ≤ 4611686018427387904) : (minPar w hb nb mb ov rv B H nu src).OK := by
  have hl := fun {k : Nat} (hk : Owns hb nb mb ov rv k) => h.lt hk
  have hbl := hl (.inl rfl)
  have hnl := hl (.inr (.inl rfl))
  exact {
    h0 := ⟨_, rfl⟩
    h3 := rfl
    place := fun o ho => Or.inl ⟨min_addr hi ho, rfl⟩
    apart := fun x hx y hy => by
      rcases laid_two hi.na hx hy with h1 | h1 | h1
      · exact Or.inl (by rw [h1])
      · exact Or.inr (Or.inr (Or.inl (by show x.addr * 8 + x.len * 8 ≤ y.addr * 8; omega)))
      · exact Or.inr (Or.inr (Or.inr (by show y.addr * 8 + y.len * 8 ≤ x.addr * 8; omega)))
    sole := laid_apart hi.na
    nd := laid_nodup hi.na
    closed := fun o ho v hv hk hf => by
      obtain ⟨x, hx, e⟩ := hi.refs o (List.mem_append.mpr (Or.inl ho)) v hv hk
      rcases List.mem_append.mp hx with hx | hx
      · exact ⟨x, hx, e⟩
      · exfalso
        rw [minPar_from, e] at hf
        have h1 := laid_in hi.oa hx
        have h2 : (x.addr : Int) < (H.room : Int) := by simpa using hf
        omega
    size := by
      show H.room + H.old.length + total nu + 1 ≤ big
      have h1 := h.om
      have h2 := h.mm
      have h3 := h.rr
      have h4 := hi.fit
      unfold big
      omega
    addr := fun o ho => by
      have h1 := min_addr hi ho
      have h3 := h.rr
      unfold big
      omega
    ids := fun o ho => by
      have h1 := hi.ids o (List.mem_append.mpr (Or.inl ho))
      omega
    from_ := fun o ho => by
      rw [minPar_from]
      have h1 := min_addr hi ho
      have h2 := len_pos o
      simp only [decide_eq_true_eq]
      omega
    kh := by show w.heap.size + 2 ≠ hb; omega
    kv := by show w.heap.size + 2 ≠ w.heap.size; omega
    wk := by show w.heap.size + 1 ≠ w.heap.size + 2; omega
    pk := fun o _ => by
      show nb ≠ w.heap.size + 2 ∧ nb ≠ hb ∧ nb ≠ w.heap.size ∧ nb ≠ w.heap.size + 1
      have := h.hn
      omega
    wh := by show w.heap.size + 1 ≠ hb; omega
    wv := by show w.heap.size + 1 ≠ w.heap.size; omega
    nk := by show nb ≠ w.heap.size + 2; omega
    nh := by show nb ≠ hb; exact fun e => h.hn e.symm
    nv := by show nb ≠ w.heap.size; omega
    nw := by show nb ≠ w.heap.size + 1; omega }

theorem minPar_start (h : HR w hb nb mb ov rv B H) (hi : HI H nu ol) {w3 : World} (hk : w3.heap[w.heap.size + 2]? = some (kblk hb ov (.func (Fn.func 108) #[] #[.pointer (some ⟨w.heap.size, 0, none⟩)]) (.map (some (w.heap.size + 1)))))
    (hv : w3.cell? ⟨w.heap.size, 0, none⟩ = some (.pointer (some ⟨hb, 0, none⟩))) (hm : w3.ownsMap Tryd.prog 3 (plainElem Tryd.prog 3) (w.heap.size + 1) 0 (.map [] : DataW Unit)) (hT : Turned (fun _ => False) w w3) :
    CR (minPar w hb nb mb ov rv B H nu src) w3 ov [] (fun _ => false) := by
  have hl := fun {k : Nat} (hk : Owns hb nb mb ov rv k) => h.lt hk
  have h3 : HR w3 hb nb mb ov rv B H := h.turned hT (fun _ _ => id)
  have hbl := hl (.inl rfl)
  have hnl := hl (.inr (.inl rfl))
  have hov : ∀ k, ov.ownBlock = some k → k < w.heap.size := fun k hk => hl (.inr (.inr (.inr (.inl hk))))
  have hz := hT.size
  exact {
    kblk := hk
    hblk := h3.blk
    hvar := fun _ => hv
    row := by
      have e : tcells (minPar w hb nb mb ov rv B H nu src).from_ H.old [] (minPar w hb nb mb ov rv B H nu src).z (fun _ => false) = H.old := by
        refine List.ext_getElem? fun i => ?_
        rw [tcells_get]
        show ((H.old ++ [])[i]?).map _ = _
        rw [List.append_nil]
        cases H.old[i]? <;> simp
      show w3.ownsRow B 105 8 ov (H.old.length + total []) (hvals (tcells _ H.old [] _ _))
      rw [e]
      exact h3.old
    map := hm
    src := fun o ho => by
      refine ⟨hcells H.nur, h3.nur, fun i c hc j v hv' => ?_⟩
      rw [mark_out _ _ _ has_nil] at hc
      have h1 := laid_cells hi.na ho hc
      rw [← hi.nur, Nat.sub_zero] at h1
      have h2 : H.nur[o.addr + i]? = some c := by
        rw [List.getElem?_take] at h1
        split at h1
        · exact h1
        · cases h1
      have h4 := hcells_get H.nur (o.addr + i) j c h2 (vals_lt hv')
      show (hcells H.nur)[o.addr * 8 + i * 8 + j]? = some v
      rw [show o.addr * 8 + i * 8 + j = (o.addr + i) * 8 + j by omega, h4]
      exact hv'
    led := fun i c hp => by cases hp
    lt := fun i hp => by cases hp
    inO := fun o ho => by cases ho
    nd := List.nodup_nil
    come := fun o ho => by cases ho
    nurs := ⟨H.nur, h.len, h3.nur⟩
    low := by
      show B ≤ w3.heap.size
      have := h.ge (.inl rfl)
      omega
    hvl := World.block_lt_of_cell? w3 _ hv
    tk := fun e => by have h1 : w.heap.size + 2 < w.heap.size := hov _ e; omega
    th := h.oh
    tw := fun e => by have h1 : w.heap.size + 1 < w.heap.size := hov _ e; omega
    ts := fun o _ => h.on
    tn := h.on
    tvv := fun e => by have h1 : w.heap.size < w.heap.size := hov _ e; omega }

/-- What the roots, and the old cells that are remembered, lead to. -/
def minSrc (H : HS) (rs : List (Nat × Nat)) (f : Nat × Nat → Vl) (a : Nat) : Prop := (∃ r ∈ rs, (f r).k = 4 ∧ (f r).n = (a : Int)) ∨ ∃ (j : Nat) (c : HCell), ((H.room + j : Nat) : Int) ∈ H.rem ∧ H.old[j]? = some c ∧ c.vk = 4 ∧ c.vn = (a : Int)

theorem min_own {k : Nat} (hl : k < w.heap.size) (ho : ¬ Owns hb nb mb ov rv k) : ¬ Own (minPar w hb nb mb ov rv B H nu src) ov k := by
  intro h'
  rcases h' with h' | h' | h' | h' | h' | h' | ⟨o, _, h'⟩
  · have h2 : k = w.heap.size + 2 := h'
    omega
  · exact ho (.inl h')
  · have h2 : k = w.heap.size := h'
    omega
  · have h2 : k = w.heap.size + 1 := h'
    omega
  · exact ho (.inr (.inr (.inr (.inl h'))))
  · exact ho (.inr (.inl h'))
  · exact ho (.inr (.inl h'.symm))

theorem min_half {v : Value} {rs : List (Nat × Nat)} {f : Nat × Nat → Vl} (hr : RootsAt w (Owns hb nb mb ov rv) v rs f) {w3 : World} (hT : Turned (fun _ => False) w w3)
    (hC : CR (minPar w hb nb mb ov rv B H nu src) w3 ov [] (fun _ => false)) : Half (minPar w hb nb mb ov rv B H nu src) ov w3 [] (fun _ => false) rs f 0 w3 ov [] := by
  refine ⟨Nat.zero_le _, hC, ⟨fun a ha => ?_, fun a ha => min_own (World.block_lt_of_cell? w _ (hr.cell a ha).1) (hr.out a ha), fun a ha => by
    obtain ⟨c, t, e⟩ := hr.blk a ha
    exact ⟨c, t, (hT.block a.1 (lt_of_block e) id).trans e⟩, fun a ha c t e => by
    obtain ⟨c', t', e'⟩ := hr.blk a ha
    exact ⟨_, rowDesc_of ((hT.block a.1 (lt_of_block e') id).symm.trans e), rfl, fun _ _ => rfl⟩⟩, fun a ha => (by rw [List.take_zero] at ha; cases ha), GrewR.refl _ _ _ _⟩
  rw [List.take_zero, if_neg List.not_mem_nil]
  obtain ⟨q0, q1, q2, q3⟩ := hr.cell a ha
  have hb := hT.block a.1 (World.block_lt_of_cell? w _ q0) id
  exact ⟨(World.cell?_of_block (a := ⟨a.1, a.2, none⟩) hb).trans q0, (World.cell?_of_block (a := ⟨a.1, a.2 + 1, none⟩) hb).trans q1, (World.cell?_of_block (a := ⟨a.1, a.2 + 2, none⟩) hb).trans q2, (World.frozen?_of_block (a := ⟨a.1, a.2 + 1, none⟩) hb).trans q3⟩

theorem min_leads (hi : HI H nu ol) {n : Int} (hf : (minPar w hb nb mb ov rv B H nu src).from_ n = true) (hx : ∃ x ∈ nu ++ ol, n = (x.addr : Int)) : ∃ x ∈ nu, n = (x.addr : Int) := by
  obtain ⟨x, hx, e⟩ := hx
  rcases List.mem_append.mp hx with hx | hx
  · exact ⟨x, hx, e⟩
  · exfalso
    rw [minPar_from, e] at hf
    have h1 := laid_in hi.oa hx
    have h2 : (x.addr : Int) < (H.room : Int) := by simpa using hf
    omega
/-- A cell of the old part that is a Ref leads to an object. -/
theorem old_ref (hi : HI H nu ol) {j : Nat} {c : HCell} (hj : H.old[j]? = some c) (hk : c.vk = 4) : ∃ x ∈ nu ++ ol, c.vn = (x.addr : Int) := by
  rw [hi.old] at hj
  obtain ⟨o, ho, hc⟩ := List.mem_flatMap.mp (List.mem_of_getElem? hj)
  rcases List.mem_cons.mp (show c ∈ o.head 0 :: o.fs.map Vl.cell from hc) with rfl | hc
  · exact absurd hk (show ¬ (0 : Int) = 4 by decide)
  · obtain ⟨v, hv, rfl⟩ := List.mem_map.mp hc
    exact hi.refs o (List.mem_append.mpr (Or.inr ho)) v hv hk
theorem min_rem (hi : HI H nu ol) {rs : List (Nat × Nat)} {f : Nat × Nat → Vl} {r : Int} (hr : r ∈ H.rem) : ∃ (j : Nat) (x : HCell), r = ((H.room + j : Nat) : Int) ∧ H.old[j]? = some x ∧ (x.vk = 4 → (minPar w hb nb mb ov rv B H nu (minSrc H rs f)).from_ x.vn = true → ∃ o, Leads (minPar w hb nb mb ov rv B H nu (minSrc H rs f)) o ∧ x.vn = (o.addr : Int)) := by
  obtain ⟨j, e, hj⟩ := hi.rem1 r hr
  refine ⟨j, H.old[j], e, List.getElem?_eq_getElem hj, fun h1 h2 => ?_⟩
  obtain ⟨y, hy, e2⟩ := min_leads hi h2 (old_ref hi (List.getElem?_eq_getElem hj) h1)
  exact ⟨y, Leads.src hy (Or.inr ⟨j, _, by rw [← e]; exact hr, List.getElem?_eq_getElem hj, h1, e2⟩), e2⟩
theorem min_root (hi : HI H nu ol) {rs : List (Nat × Nat)} {f : Nat × Nat → Vl} (hroot : ∀ a ∈ rs, (f a).k = 4 → ∃ x ∈ nu ++ ol, (f a).n = (x.addr : Int)) : ∀ a ∈ rs, (f a).k = 4 → (minPar w hb nb mb ov rv B H nu (minSrc H rs f)).from_ (f a).n = true → ∃ o, Leads (minPar w hb nb mb ov rv B H nu (minSrc H rs f)) o ∧ (f a).n = (o.addr : Int) := by
  intro a ha h1 h2
  obtain ⟨y, hy, e⟩ := min_leads hi h2 (hroot a ha h1)
  exact ⟨y, Leads.src hy (Or.inl ⟨a, ha, h1, e⟩), e⟩
end Go.Proofs.YthbkklnahhdgcaaDoor.ChR

namespace Go.Proofs.YthbkklnahhdgcaaDoor.ChS
open Go Go.Proofs Go.RowKit Go.Maps Go.Proofs.YthbkklnahhdgcaaDoor.Lib HeapR HeapA ChA ChB ChT ChCa ChCc ChCd ChD ChE ChF ChG ChH ChI ChJ ChK ChL ChM ChN ChO ChP ChQ ChR

theorem lt_max2 {a b : Nat} (h : a ≤ big) (h' : b ≤ big) : a + b < maxLen := by
  unfold big at h h'
  unfold maxLen
  omega
/-- What the memory holds behind Minor. -/
def MinorRaw (w : World) (hb nb mb : Nat) (ov rv : Value) (B : Nat) (H : HS) (nu : List Ob) (rs : List (Nat × Nat)) (f : Nat × Nat → Vl) (g : Int → Option Int) (w' : World) : Prop :=
  ∃ (p : Par) (tv : Value) (K : List Ob) (P : Nat → Bool) (wS : World) (n : Nat) (D : DataW Unit), p = minPar w hb nb mb ov rv B H nu (minSrc H rs f) ∧ CR p wS tv K P ∧ Done p P K (H.old.length + total K) ∧ (∀ j, j < H.old.length → (P j = true ↔ ((H.room + j : Nat) : Int) ∈ H.rem)) ∧
    (∀ a ∈ rs, (f a).k = 4 → p.from_ (f a).n = true → has K (f a).n.toNat) ∧ Roots p wS tv rs (fun a => fixV p K (f a)) ∧ Turned (fun k => k = nb ∨ ov.ownBlock = some k ∨ ∃ a ∈ rs, a.1 = k) w wS ∧ (∀ k, tv.ownBlock = some k → ov.ownBlock = some k ∨ w.heap.size ≤ k) ∧
    Turned (fun k => k = mb ∨ k = hb) wS w' ∧ w'.heap[hb]? = some (.cells ((((hblock nb mb ov rv H).setIfInBounds 1 tv).setIfInBounds 2 (.int .i64 0)).setIfInBounds 5 (.slice none 0 0) |>.setIfInBounds 8 (.int .i64 ((H.minors : Int) + 1))) 98 (0, 0)) ∧
    w'.ownsMap Tryd.prog 3 (plainElem Tryd.prog 3) mb n D ∧ Reads D (fun id => (idAt p.z K 0 id).or (Above H.room (g id)))

theorem minor_raw {w : World} {hb nb mb : Nat} {ov rv : Value} {B : Nat} {H : HS} {nu ol : List Ob} (h : HR w hb nb mb ov rv B H) (hi : HI H nu ol) {v : Value} {rs : List (Nat × Nat)} {f : Nat × Nat → Vl} (hr : RootsAt w (Owns hb nb mb ov rv) v rs f) (hroot : ∀ a ∈ rs, (f a).k = 4 → ∃ x ∈ nu ++ ol, (f a).n = (x.addr : Int))
    (hf : total ol + total nu ≤ H.most) (hnx : H.next ≤ big) (hrl : H.rem.length ≤ big) (hmi : H.minors < big) {g : Int → Option Int} (hg : Reads H.wh g) :
    Calls Tryd.prog 93 #[.pointer (some ⟨hb, 0, none⟩), v] w fun e w' => e = .returned .nilIface ∧ MinorRaw w hb nb mb ov rv B H nu rs f g w' := by
  have hbl := h.lt (.inl rfl)
  have c1 := alloc_cell h.c1 (.cells #[.pointer (some ⟨hb, 0, none⟩)] 22 (0, 0))
  have c2 := alloc_cell h.c2 (.cells #[.pointer (some ⟨hb, 0, none⟩)] 22 (0, 0))
  have c4 := alloc_cell h.c4 (.cells #[.pointer (some ⟨hb, 0, none⟩)] 22 (0, 0))
  have hvb : (w.alloc (.cells #[.pointer (some ⟨hb, 0, none⟩)] 22 (0, 0))).cell? ⟨w.heap.size, 0, none⟩ = some (.pointer (some ⟨hb, 0, none⟩)) := cell_of_block (heap_alloc_last w _) rfl
  obtain ⟨oa, rb, ro, c, rfl, hre⟩ := hr.list
  obtain ⟨oo, n, cc, hov, hn⟩ := HeapC.old_slice h
  rw [hi.olen] at hn
  subst hn
  rw [hov] at c1
  rw [hi.top] at c2
  have hb1 : total ol + total nu ≤ big := by
    have h1 := h.om
    have h2 := h.mm
    have h3 := h.rr
    have h4 := hi.fit
    rw [hi.olen] at h1
    unfold big
    omega
  have hs : wrap64 ((total ol : Int) + (total nu : Int)) = (total ol : Int) + (total nu : Int) := wrap_two _ _ hb1
  have hs' : IntKind.i64.wrap ((total ol : Int) + (total nu : Int)) = (total ol : Int) + (total nu : Int) := wrapk_two _ _ hb1
  have hd : decide ((H.most : Int) < (total ol : Int) + (total nu : Int)) = false := by
    simp only [decide_eq_false_iff_not]
    clear hs hs'
    omega
  go_enter Tryd.func93, Tryd.ntmps93
  go_wp2_with fail
  go_quiet (fail)
  clear hs hs' hd c2 c4
  go_upto_region 4 with fail
  refine make_region w.heap.size hb (w.heap.size + 1) (.slice oo (total ol) cc) _ ?_ (by exact hvb) (by exact c1) ⟨_, _, _, rfl⟩ ?_ ?_
  · simp
  · exact fun c a d v w h => h
  intro s30 s31 s32 s33 s34 s35 s36 s37 s38 w3 hk3 hm3 hT3
  have hTw : Turned (fun _ => False) w w3 := (((Turned.refl _ w).alloc _).drewN _).trans hT3
  have hv3 : w3.cell? ⟨w.heap.size, 0, none⟩ = some (.pointer (some ⟨hb, 0, none⟩)) := (World.cell?_of_block (a := ⟨w.heap.size, 0, none⟩) (hT3.block w.heap.size (by simp) id)).trans hvb
  rw [← hov] at hk3
  have hp := minPar_ok (src := minSrc H rs f) h hi (by have := big_lt; omega)
  have hC := minPar_start (src := minSrc H rs f) h hi hk3 hv3 hm3 hTw
  have hH := min_half hr hTw hC
  have hroots := min_root (w := w) (hb := hb) (nb := nb) (mb := mb) (ov := ov) (rv := rv) (B := B) hi hroot
  have hrems : ∀ r ∈ H.rem, _ := fun r hr => min_rem (w := w) (hb := hb) (nb := nb) (mb := mb) (ov := ov) (rv := rv) (B := B) (rs := rs) (f := f) hi hr
  have h3 : HR w3 hb nb mb ov rv B H := h.turned hTw (fun _ _ => id)
  have hre3 : ∀ (i : Nat) (a : Nat × Nat), rs[i]? = some a → oa = some ⟨rb, ro, none⟩ ∧ w3.cell? ⟨rb, ro + i, none⟩ = some (.pointer (some ⟨a.1, a.2, none⟩)) ∧ ¬ Tset (minPar w hb nb mb ov rv B H nu (minSrc H rs f)) ov rb ∧ (∀ b ∈ rs, b.1 ≠ rb) := fun i a ha => by
    obtain ⟨q1, q2, q3, q4⟩ := hre i a ha
    have hl := World.block_lt_of_cell? w _ q2
    exact ⟨q1, (World.cell?_of_block (a := ⟨rb, ro + i, none⟩) (hTw.block rb hl id)).trans q2, fun h' => min_own hl q3 (tset_own h'), q4⟩
  clear hT3 hm3 hk3 c1 hvb hC hv3
  have E2 : (minPar w hb nb mb ov rv B H nu (minSrc H rs f)).hv = w.heap.size := rfl
  have E1 : (minPar w hb nb mb ov rv B H nu (minSrc H rs f)).kb = w.heap.size + 1 + 1 := rfl
  have X := Lib.hid hov
  have HREL := Lib.hid hre
  have HREM := Lib.hid hrems
  have HROOT := Lib.hid hroot
  have HRE3 := Lib.hid hre3
  have HROOTS := Lib.hid hroots
  clear hov hre hrems hroot hre3 hroots
  rw [← E1, ← E2]
  clear E1 E2
  obtain ⟨p, hpp⟩ : ∃ p, p = minPar w hb nb mb ov rv B H nu (minSrc H rs f) := ⟨_, rfl⟩
  rw [← hpp] at hp hH HREM HRE3 HROOTS ⊢
  have HP := Lib.hid hpp
  clear hpp
  go_wp2
  refine roots_loop hp _ _ _ _ _ _ _ _ _ _ _ _ _ _ _ _ _ _ _ _ _ _ _ _ _ _ _ _ _ _ _ _ _ _ _ _ _ _ _ _ _ _ _ _ _ _ _ _ _ _ _ _ _ _ _ _ _ _ _ _ _ _ _ _ _ _ _ _ _ _ _ _ _ _ _ _ _ _ _ _ _ _ _ _ _ _ _ _ _ _ _ _ _ _ _ _ _ _ _ _ _ _ _ _ _ _ _ _ _ _ _ _ _ _ _ _ oa rb ro c ov w3 [] (fun _ => false) rs f (by rw [HP.out]; rfl) hH hr.apart hr.len HRE3.out HROOTS.out ?_
  intro s8 s42 s43 s44 s45 s46 s47 s48 w4 hR4
  obtain ⟨tv4, K4, hH4⟩ := hR4
  have hC4 := hH4.cr
  rw [List.nil_append] at hC4
  have e3 : p.hb = hb := by rw [HP.out]; rfl
  have e4 : p.base = H.old := by rw [HP.out]; rfl
  have e5 : p.room = H.room := by rw [HP.out]; rfl
  have e6 : p.maj = false := by rw [HP.out]; rfl
  have eHB : p.HB = hblock nb mb ov rv H := by rw [HP.out]; rfl
  have hrvb : ∀ k, rv.ownBlock = some k → ¬ Tset p ov k ∧ (∀ b ∈ rs, b.1 ≠ k) ∧ k < w.heap.size := fun k hk => by
    have hkl := h.lt (k := k) (.inr (.inr (.inr (.inr hk))))
    refine ⟨fun h' => ?_, fun b hb e => hr.out b hb (.inr (.inr (.inr (.inr (e ▸ hk))))), hkl⟩
    rw [HP.out] at h'
    rcases h' with h' | h' | h' | ⟨o, _, h'⟩
    · have h2 : k = w.heap.size + 2 := h'
      omega
    · have h2 : k = w.heap.size + 1 := h'
      omega
    · rcases h.ro with h2 | h2
      · rw [h'] at h2
        cases h2
      · exact h2 (h'.trans hk.symm)
    · exact h.rn (hk.trans (congrArg some h'.symm))
  have hvar4 := hC4.hvar e6
  obtain ⟨orr, crr, hrv⟩ := own_slice h.rem
  have c54 : w4.cell? ⟨p.hb, 5, none⟩ = some (.slice orr H.rem.length crr) := by
    refine cell_of_block hC4.hblk ?_
    rw [eHB, ← hrv]
    rfl
  have hre4 : ∀ (i : Nat) (r : Int), H.rem[i]? = some r → orr = some ⟨rv.ownBlock.getD 0, 0, none⟩ ∧ w4.cell? ⟨rv.ownBlock.getD 0, i, none⟩ = some (.int .i64 r) ∧ ¬ Tset p tv4 (rv.ownBlock.getD 0) := fun i r hir => by
    have hil := (List.getElem?_eq_some_iff.1 hir).1
    obtain ⟨gr, cg, hgr⟩ := row_slice h.rem (by omega)
    rw [hgr] at hrv
    cases hrv
    have hob : rv.ownBlock = some gr := by rw [hgr]; rfl
    rw [hob]
    obtain ⟨q1, q2, q3⟩ := hrvb gr hob
    have hrow := h.rem
    rw [hgr] at hrow
    refine ⟨rfl, ?_, fun h' => ?_⟩
    · have h1 : w4.heap[gr]? = w.heap[gr]? := (hH4.grew.1.block gr (Nat.lt_of_lt_of_le q3 hTw.size) (fun h' => h'.elim q1 (fun ⟨b, hb, e⟩ => q2 b hb e))).trans (hTw.block gr q3 id)
      rw [show (some gr).getD 0 = gr from rfl, World.cell?_of_block (a := ⟨gr, i, none⟩) h1, hrow.cellAt i (by omega), List.getElem?_map, hir]
      rfl
    · rcases h' with h' | h' | h' | h'
      · exact q1 (.inl h')
      · exact q1 (.inr (.inl h'))
      · rcases hH4.grew.2 _ h' with h2 | h2
        · exact q1 (.inr (.inr (.inl h2)))
        · have := hTw.size
          have h3 : w3.heap.size ≤ gr := h2
          omega
      · exact q1 (.inr (.inr (.inr h')))
  have HRE4 := Lib.hid hre4
  have HRV := Lib.hid hrv
  have HE3 := Lib.hid e3
  have HE4 := Lib.hid e4
  have HE5 := Lib.hid e5
  have HE6 := Lib.hid e6
  have HEB := Lib.hid eHB
  have HRVB := Lib.hid hrvb
  clear hre4 hrv e3 e4 e5 e6 eHB hrvb
  go_wp2
  refine rem_loop hp _ _ _ _ _ _ _ _ _ _ _ _ _ _ _ _ _ _ _ _ _ _ _ _ _ _ _ _ _ _ _ _ _ _ _ _ _ _ _ _ _ _ _ _ _ _ _ _ _ _ _ _ _ _ _ _ _ _ _ _ _ _ _ _ _ _ _ _ _ _ _ _ _ _ _ _ _ _ _ _ _ _ _ _ _ _ _ _ _ _ _ _ _ _ _ _ _ _ _ _ _ _ _ _ _ _ _ _ _ _ _ _ _ _ _ orr (rv.ownBlock.getD 0) crr tv4 w4 K4 (fun _ => false) H.rem HE6.out hC4 hrl HRE4.out (fun r hr => by rw [HE5.out, HE4.out]; exact HREM.out r hr) ?_
  intro s10 s55 s56 s57 s58 s59 s60 s61 s62 s63 s64 s65 s66 w5 hR5
  obtain ⟨_, tv5, K5, P5, hC5, hP5, hG5⟩ := hR5
  rw [List.take_length] at hP5
  have hF5 : ∀ j, p.base.length ≤ j → P5 j = false := fun j hj => by
    cases hb : P5 j with
    | false => rfl
    | true =>
      exfalso
      rcases (hP5 j).1 hb with h1 | h1
      · cases h1
      · rw [HE5.out] at h1
        rw [HE4.out] at hj
        obtain ⟨j', e, hj'⟩ := hi.rem1 _ h1
        omega
  have hscan := scan_any hp hC5 hF5
  have ebl : p.base.length = total ol := by rw [HE4.out, hi.olen]
  rw [ebl] at hscan
  have EBL := Lib.hid ebl
  clear ebl hF5 hvar4 c54
  go_wp2_with fail
  refine hscan.mono ?_
  rintro e w6 ⟨rfl, tv6, K6, P6, hC6, hD6, hB6, hG6⟩
  clear hscan
  -- all that the collector did
  have hG46 := hG5.trans hG6
  have hTS : Turned (fun k => k = nb ∨ ov.ownBlock = some k ∨ ∃ a ∈ rs, a.1 = k) w w6 := by
    have h1 := hH4.grew.trans (GrewR.of _ hG46)
    have hz := hTw.size
    refine ⟨h1.1.os.trans hTw.os, h1.1.tape.trans hTw.tape, h1.1.output.trans hTw.output, Nat.le_trans hz h1.1.size, fun k hk hs => (h1.1.block k (by omega) (fun h' => ?_)).trans (hTw.block k hk id)⟩
    rw [HP.out] at h'
    rcases h' with (h' | h' | h' | ⟨o, _, h'⟩) | h'
    · have h2 : k = w.heap.size + 2 := h'
      omega
    · have h2 : k = w.heap.size + 1 := h'
      omega
    · exact hs (Or.inr (Or.inl h'))
    · exact hs (Or.inl h'.symm)
    · exact hs (Or.inr (Or.inr h'))
  have hown6 : ∀ k, tv6.ownBlock = some k → ov.ownBlock = some k ∨ w.heap.size ≤ k := fun k hk => by
    have hz := hTw.size
    have h1 := hH4.grew.trans (GrewR.of _ hG46)
    exact (h1.2 k hk).imp id (fun h' => by have h2 : w3.heap.size ≤ k := h'; omega)
  have hRo6 : Roots p w6 tv6 rs (fun a => fixV p ((K4 ++ K5) ++ K6) (f a)) := by
    have hRo4 : Roots p w4 tv4 rs (fun a => fixV p K4 (f a)) := hH4.roots.congr (fun a ha => by
      rw [List.take_length, if_pos ha, List.nil_append])
    refine ⟨fun a ha => ?_, fun a ha h' => ?_, fun a ha => ?_, fun a ha c t e => hRo4.kept a ha c t ((hG46.1.block a.1 (World.block_lt_of_cell? w4 _ (hRo4.cell a ha).1) (fun h' => hRo4.out a ha (tset_own h'))).symm.trans e)⟩
    · have hb6 := hG46.1.block a.1 (World.block_lt_of_cell? w4 _ (hRo4.cell a ha).1) (fun h' => hRo4.out a ha (tset_own h'))
      have hfx : fixV p ((K4 ++ K5) ++ K6) (f a) = fixV p K4 (f a) := by
        rw [List.append_assoc]
        refine fixV_grow (fun g1 g2 => ?_)
        have := hH4.has_ a (by rw [List.take_length]; exact ha) g1 g2
        rwa [List.nil_append] at this
      rw [hfx]
      obtain ⟨q0, q1, q2, q3⟩ := hRo4.cell a ha
      exact ⟨(World.cell?_of_block (a := ⟨a.1, a.2, none⟩) hb6).trans q0, (World.cell?_of_block (a := ⟨a.1, a.2 + 1, none⟩) hb6).trans q1, (World.cell?_of_block (a := ⟨a.1, a.2 + 2, none⟩) hb6).trans q2, (World.frozen?_of_block (a := ⟨a.1, a.2 + 1, none⟩) hb6).trans q3⟩
    · have hnb := hRo4.out a ha
      have hal := World.block_lt_of_cell? w4 _ (hRo4.cell a ha).1
      rcases h' with h' | h' | h' | h' | h' | h' | h'
      · exact hnb (.inl h')
      · exact hnb (.inr (.inl h'))
      · exact hnb (.inr (.inr (.inl h')))
      · exact hnb (.inr (.inr (.inr (.inl h'))))
      · rcases hG46.2 _ h' with h2 | h2
        · exact hnb (.inr (.inr (.inr (.inr (.inl h2)))))
        · exact absurd hal (Nat.not_lt.mpr h2)
      · exact hnb (.inr (.inr (.inr (.inr (.inr (.inl h'))))))
      · exact hnb (.inr (.inr (.inr (.inr (.inr (.inr h'))))))
    · obtain ⟨c', t', e⟩ := hRo4.blk a ha
      exact ⟨c', t', (hG46.1.block a.1 (lt_of_block e) (fun h' => hRo4.out a ha (tset_own h'))).trans e⟩
  have hhas6 : ∀ a ∈ rs, (f a).k = 4 → p.from_ (f a).n = true → has ((K4 ++ K5) ++ K6) (f a).n.toNat := fun a ha g1 g2 => by
    have := hH4.has_ a (by rw [List.take_length]; exact ha) g1 g2
    rw [List.nil_append] at this
    rw [List.append_assoc]
    exact has_append.mpr (Or.inl this)
  have hPB : ∀ j, j < H.old.length → (P6 j = true ↔ ((H.room + j : Nat) : Int) ∈ H.rem) := fun j hj => by
    rw [hB6 j (by rw [HE4.out]; exact hj), hP5 j, HE5.out]
    exact ⟨fun h' => h'.elim (fun h' => by cases h') id, Or.inr⟩
  generalize (K4 ++ K5) ++ K6 = K at *
  have hmb6 : w6.ownsMap Tryd.prog 3 (plainElem Tryd.prog 3) mb H.next H.wh := HeapF.ownsMap_same h.map (hTS.block mb h.map.lt (fun h' => by
    rcases h' with h' | h' | ⟨a, ha, h'⟩
    · exact h.nm h'.symm
    · exact h.om' h'
    · exact hr.out a ha (.inr (.inr (.inl h')))))
  have hvar6 := hC6.hvar HE6.out
  have c66 : w6.cell? ⟨p.hb, 6, none⟩ = some (.map (some mb)) := by
    refine cell_of_block hC6.hblk ?_
    rw [HEB.out]
    rfl
  have c36 : w6.cell? ⟨p.hb, 3, none⟩ = some (.int .i64 (H.room : Int)) := by
    refine cell_of_block hC6.hblk ?_
    rw [HEB.out]
    rfl
  have A1 := Lib.hid hP5
  have A2 := Lib.hid hPB
  have A3 := Lib.hid hhas6
  have A4 := Lib.hid hown6
  have A5 := Lib.hid hB6
  have HD6 := Lib.hid hD6
  clear hP5 hPB hhas6 hown6 hB6 hD6
  have A6 := Lib.hid hr
  go_wp2_with (at_range; refine wpList_range_own _ rfl _ 96 rfl 3 3 (int_keyed Tryd.underlying3) Tryd.underlying96 _ mb H.next H.wh rfl hmb6 ?_; intro w7 hrg7 hg7 hs7)
  have hmbl := h.map.lt
  have hhbl : p.hb < w6.heap.size := lt_of_block hC6.hblk
  have hhvl : p.hv < w6.heap.size := hC6.hvl
  have ehv : p.hv = w.heap.size := by rw [HP.out]; rfl
  have d1 : p.hv ≠ mb := by omega
  have d2 : p.hv ≠ w6.heap.size := by omega
  have d3 : p.hb ≠ mb := by rw [HE3.out]; exact h.hm
  have d4 : p.hb ≠ w6.heap.size := by omega
  have hv7 : w7.cell? ⟨p.hv, 0, none⟩ = some (.pointer (some ⟨p.hb, 0, none⟩)) := (World.cell?_of_block (a := ⟨p.hv, 0, none⟩) (hg7.block p.hv hhvl (by simp))).trans hvar6
  have c37 : w7.cell? ⟨p.hb, 3, none⟩ = some (.int .i64 (H.room : Int)) := (World.cell?_of_block (a := ⟨p.hb, 3, none⟩) (hg7.block p.hb hhbl (by simp))).trans c36
  have c67 : w7.cell? ⟨p.hb, 6, none⟩ = some (.map (some mb)) := (World.cell?_of_block (a := ⟨p.hb, 6, none⟩) (hg7.block p.hb hhbl (by simp))).trans c66
  have hnl7 : ∀ id, Maps.has H.wh (.int .i64 id) = false → g id = Above (H.room : Int) (g id) := fun id hl => by
    rw [hg.has_ id] at hl
    cases hgi : g id with
    | none => rfl
    | some c =>
      rw [hgi] at hl
      cases hl
  have h07 : RelD mb w6.heap.size H.next (H.room : Int) g w7 0 w7 := ⟨H.wh, _, _, g, hrg7, hg, fun _ _ => rfl, hnl7, Turned.refl _ _⟩
  clear hnl7
  clear hrg7 hmb6 hvar6 c36 c66
  refine del_loop mb w6.heap.size H.next p.hv p.hb (H.room : Int) g w7 h07 hv7 c37 c67 d1 d2 d3 d4 ?_
  intro s11 s12 s75 s76 s77 s78 s79 s80 s81 s82 s83 s84 s85 s86 s87 s88 s89 s90 w8 hD8
  obtain ⟨D8, hm8, hR8, hT8⟩ := hD8
  have hT68 : Turned (fun k => k = mb) w6 w8 := by
    have h1 := ((Turned.refl (fun k => k = mb ∨ k = w6.heap.size) w6).grown hg7 (fun k hk => by cases hk)).trans hT8
    exact ⟨h1.os, h1.tape, h1.output, h1.size, fun k hk hs => h1.block k hk (fun h' => h'.elim hs (fun h' => by omega))⟩
  have ewb : p.wb = w.heap.size + 1 := by rw [HP.out]; rfl
  have ekb : p.kb = w.heap.size + 2 := by rw [HP.out]; rfl
  have hwl := hC6.map.lt
  have hkl := lt_of_block hC6.kblk
  have n1 : p.wb ≠ mb := by omega
  have n2 : p.kb ≠ mb := by omega
  have hwb8 := HeapF.ownsMap_same hC6.map (hT68.block p.wb hwl n1)
  have hkb8 : w8.heap[p.kb]? = some (kblk p.hb tv6 p.fn (.map (some p.wb))) := (hT68.block p.kb hkl n2).trans hC6.kblk
  have hbb8 : w8.heap[p.hb]? = some (.cells p.HB 98 (0, 0)) := (hT68.block p.hb hhbl d3).trans hC6.hblk
  have hv8 : w8.cell? ⟨p.hv, 0, none⟩ = some (.pointer (some ⟨p.hb, 0, none⟩)) := by
    rw [World.cell?_of_block (a := ⟨p.hv, 0, none⟩) (hT8.block p.hv (by have := hg7.size; omega) (fun h' => h'.elim d1 d2))]
    exact hv7
  have c68 : w8.cell? ⟨p.hb, 6, none⟩ = some (.map (some mb)) := cell_of_block hbb8 (by rw [HEB.out]; rfl)
  have k38 : w8.cell? ⟨p.kb, 3, none⟩ = some (.map (some p.wb)) := cell_of_block hkb8 rfl
  have hRw := (reads_where p.z K (.map []) (fun _ => none) 0 reads_empty).congr (g' := fun id => idAt p.z K 0 id) (fun id => by cases idAt p.z K 0 id <;> rfl)
  have hszw : H.next + Maps.size (whereOf p.z K (.map []) 0) < maxLen := by
    have h1 := hwb8.size_le
    have h2 := length_le_total K
    have h4 := fits hC6
    have h5 := hp.size
    exact lt_max2 hnx (by omega)
  have hcopy := copy_any mb p.wb H.next K.length (fun id => Above (H.room : Int) (g id)) (fun id => idAt p.z K 0 id) D8 _ w8.drew hm8 hwb8 hR8 hRw (fun e => n1 e.symm) hszw
  have hmb8 := hm8.lt
  clear hv7 c37 c67 h07 hg7 hs7 hm8 hR8 hRw hszw hwb8 hT8 ehv ewb ekb
  go_wp2_with fail
  go_still_tail 8, (by kernel_rfl)
  repeat still_step
  try refine wpStill_nil ?_
  change wpList _ _ _ _ _ w8.drew
  have hvb9 : p.hv ≠ p.hb := by
    rw [HE3.out]
    intro e
    have e2 : p.hv = w.heap.size := by rw [HP.out]; rfl
    omega
  have hkb9 : p.kb ≠ p.hb := hp.kh
  have hkl8 := lt_of_block hkb8
  have hhl8 := lt_of_block hbb8
  have hvl8 := World.block_lt_of_cell? w8 _ hv8
  go_wp2_with fail
  refine hcopy.mono ?_
  rintro e w9 ⟨rfl, D9, hm9, hR9, hT9⟩
  clear hcopy
  have hv9 : w9.cell? ⟨p.hv, 0, none⟩ = some (.pointer (some ⟨p.hb, 0, none⟩)) := (World.cell?_of_block (a := ⟨p.hv, 0, none⟩) (hT9.block p.hv hvl8 d1)).trans hv8
  have hk9 : w9.heap[p.kb]? = some (kblk p.hb tv6 p.fn (.map (some p.wb))) := (hT9.block p.kb hkl8 n2).trans hkb8
  have hb9 : w9.heap[p.hb]? = some (.cells p.HB 98 (0, 0)) := (hT9.block p.hb hhl8 d3).trans hbb8
  have hTv := own_slice hC6.row
  clear hkb8 hbb8 hv8 c68 k38
  go_wp2_with fail
  refine write_region p.hv p.hb p.kb p.HB tv6 p.fn (.map (some p.wb)) w9 hv9 hb9 (by rw [HEB.out]; rfl) hk9 ⟨hTv.choose, _, hTv.choose_spec.choose, hTv.choose_spec.choose_spec⟩ hvb9 hkb9 ?_
  intro sBW sBX sBY sBZ sCa sCb sCc sCd sCe sCf sCg sCh sCi w10 hb10 hT10
  have hv10 : w10.cell? ⟨p.hv, 0, none⟩ = some (.pointer (some ⟨p.hb, 0, none⟩)) := (World.cell?_of_block (a := ⟨p.hv, 0, none⟩) (hT10.block p.hv (World.block_lt_of_cell? w9 _ hv9) hvb9)).trans hv9
  have c810 : w10.cell? ⟨p.hb, 8, none⟩ = some (.int .i64 (H.minors : Int)) := cell_of_block hb10 (by rw [HEB.out]; rfl)
  have f810 : w10.frozen? ⟨p.hb, 8, none⟩ = false := frozen_of_block hb10
  have hms : wrap64 ((H.minors : Int) + 1) = (H.minors : Int) + 1 := wrap_two H.minors 1 hmi
  have hms' : IntKind.i64.wrap ((H.minors : Int) + 1) = (H.minors : Int) + 1 := wrapk_two H.minors 1 hmi
  have hb11 := blk_set (i := 8) hb10 (.int .i64 ((H.minors : Int) + 1))
  have hm10 := HeapF.ownsMap_same hm9 (hT10.block mb hm9.lt (fun e => d3 e.symm))
  have hm11 := HeapF.ownsMap_same hm10 (w' := w10.setCell ⟨p.hb, 8, none⟩ (.int .i64 ((H.minors : Int) + 1))) (blk_ne (fun e => d3 e.symm))
  have hTf : Turned (fun k => k = mb ∨ k = hb) w6 (w10.setCell ⟨p.hb, 8, none⟩ (.int .i64 ((H.minors : Int) + 1))) := by
    have h1 : Turned (fun k => k = mb ∨ k = hb) w6 w8 := hT68.mono fun _ h => Or.inl h
    have h2 : Turned (fun k => k = mb ∨ k = hb) w8 w9 := ((Turned.refl _ w8).drew).trans (hT9.mono fun _ h => Or.inl h)
    have h4 : Turned (fun k => k = mb ∨ k = hb) w9 w10 := hT10.mono fun k hk => Or.inr (hk.trans HE3.out)
    exact (((h1.trans h2).trans h4)).setCell (Or.inl (Or.inr HE3.out)) _
  rw [HEB.out] at hb11
  rw [HE3.out] at hb11
  have H11 := Lib.hid hb11
  have Hm11 := Lib.hid hm11
  have HTf := Lib.hid hTf
  clear hb11 hm11 hTf hm10 hm9 hb10 hT10 hT9 hv9 hk9 hb9 hT68
  go_wp2
  go_ret
  refine ⟨rfl, p, tv6, K, P6, w6, _, D9, HP.out, hC6, ?_, A2.out, A3.out, hRo6, hTS, A4.out, HTf.out, ?_, Hm11.out, hR9⟩
  · rw [← HE4.out]
    exact HD6.out
  · rw [← HE3.out]
    rw [HE3.out]
    exact H11.out

end Go.Proofs.YthbkklnahhdgcaaDoor.ChS
