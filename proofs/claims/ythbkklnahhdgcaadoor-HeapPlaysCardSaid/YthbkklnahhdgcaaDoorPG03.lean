/-
  Package heap's collector: what move does behind its loop: the mark, and the identity's new place.
-/
import Derived.Test.YthbkklnahhdgcaaDoorPG02
import Derived.Maps.OwnOps
import Derived.StillTailTactics
import Derived.Test.YthbkklnahhdgcaaDoorPG00
import Derived.Test.YthbkklnahhdgcaaDoorPG01
import Derived.Deep.Cut
set_option maxRecDepth 100000
set_option maxHeartbeats 4000000
namespace Go.Proofs.YthbkklnahhdgcaaDoor.ChCc
open Go Go.Proofs Go.RowKit Go.Maps Lib HeapR HeapA HeapB HeapF ChA ChB ChCa

theorem lit_wf (n : Int) (h0 : 0 ≤ n) (h1 : n ≤ 4611686018427387904) : (Lit.int .i64 n).wf = true := by
  have e1 : IntKind.i64.min = -9223372036854775808 := by decide
  have e2 : IntKind.i64.max = 9223372036854775807 := by decide
  show (decide (IntKind.i64.min ≤ n) && decide (n ≤ IntKind.i64.max)) = true
  rw [e1, e2, decide_eq_true (by omega), decide_eq_true (by omega)]
  rfl
theorem big_lt : big < 4611686018427387904 := by unfold big; omega
theorem lt_max (m : Nat) (h : m < big) : m < maxLen := by
  unfold big at h
  unfold maxLen
  omega
/-- The map with an object's identity, if it has one. -/
def putId (id : Int) (at_ : Nat) (D : DataW Unit) : DataW Unit := if id = 0 then D else D.put (.int .i64 id) (.lit (.int .i64 (at_ : Int)))

theorem mark_zero {Q : Exit → Act → World → Prop} {u2 u3 u6 u7 u8 u9 Ja Jb Jc Jd Je Jf Jg Jh Ji Jj Jk Jl Jm Jn Jo Jp Jq Jr Js Jt Ju Jv Jw Jx Jy Jz Qa Qb Qc Qd Qe Qf Qg Qh Qi Qj Qk Ql Qm Qn Qo Qp Qq Qr Qs Qt Qu Qv Qw Qx Qy Qz Xe Xg Xh Xi Xj Xk Xn Xo Xp Xq Xt Xu Xv Xx Xy Xz Yg Yh Yi Yj Yk Yl Ym Yn Yo Yp Yq Yr Ys Yt Yu Yv Yw Yx Yy Yz Ua Ub Uc Ud Ue Uf Ug Uh Ui Uj Uk Ul Um Un : Value} (kb hb xb xo vb vo wb m : Nat) (at_ : Nat) (ai id : Int) (hai : ai = (at_ : Int)) (tv fv : Value) (X : Array Value) (D : DataW Unit) (w : World) (hid : id = 0) (hi0 : 0 ≤ id) (hi1 : id ≤ 4611686018427387904) (ha : at_ + 1 ≤ big)
    (hkb : w.heap[kb]? = some (kblk hb tv fv (.map (some wb)))) (hX : w.heap[xb]? = some (.cells X 105 (0, 0))) (x2 : X[xo + 2]? = some (.int .i64 id)) (x7 : ∃ v, X[xo + 7]? = some v)
    (hm : w.ownsMap Tryd.prog 3 (plainElem Tryd.prog 3) wb m D) (hml : m < big) (d1 : xb ≠ kb) (d2 : xb ≠ wb)
    (hQ : ∀ (s83 s84 s85 s86 s87 s88 s89 s90 s91 s92 s93 s94 s95 s96 s97 s98 s99 sBW sBX sBY sBZ : Value) (w' : World), w'.heap[xb]? = some (.cells (X.setIfInBounds (xo + 7) (.int .i64 ((at_ : Int) + 1))) 105 (0, 0)) → w'.ownsMap Tryd.prog 3 (plainElem Tryd.prog 3) wb (m + 1) (putId id at_ D) → Turned (fun k => k = xb ∨ k = wb) w w' → Q .normal ⟨#[(.pointer (some ⟨kb,0,none⟩)),(.pointer (some ⟨vb,vo,none⟩)),u2,u3,(.pointer (some ⟨xb,xo,none⟩)),(.int .i64 ai),u6,u7,u8,u9,Ja,Jb,Jc,Jd,Je,Jf,Jg,Jh,Ji,Jj,Jk,Jl,Jm,Jn,Jo,Jp,Jq,Jr,Js,Jt,Ju,Jv,Jw,Jx,Jy,Jz,Qa,Qb,Qc,Qd,Qe,Qf,Qg,Qh,Qi,Qj,Qk,Ql,Qm,Qn,Qo,Qp,Qq,Qr,Qs,Qt,Qu,Qv,Qw,Qx,Qy,Qz,Xe,Xg,Xh,Xi,Xj,Xk,Xn,Xo,Xp,Xq,Xt,Xu,Xv,Xx,Xy,Xz,Yg,Yh,Yi,Yj,Yk,s83,s84,s85,s86,s87,s88,s89,s90,s91,s92,s93,s94,s95,s96,s97,s98,s99,sBW,sBX,sBY,sBZ,Ug,Uh,Ui,Uj,Uk,Ul,Um,Un], []⟩ w') :
    Code.wp Tryd.prog (Cut.piece Tryd.f109 (Cut.tail 9)) Q ⟨#[(.pointer (some ⟨kb,0,none⟩)),(.pointer (some ⟨vb,vo,none⟩)),u2,u3,(.pointer (some ⟨xb,xo,none⟩)),(.int .i64 ai),u6,u7,u8,u9,Ja,Jb,Jc,Jd,Je,Jf,Jg,Jh,Ji,Jj,Jk,Jl,Jm,Jn,Jo,Jp,Jq,Jr,Js,Jt,Ju,Jv,Jw,Jx,Jy,Jz,Qa,Qb,Qc,Qd,Qe,Qf,Qg,Qh,Qi,Qj,Qk,Ql,Qm,Qn,Qo,Qp,Qq,Qr,Qs,Qt,Qu,Qv,Qw,Qx,Qy,Qz,Xe,Xg,Xh,Xi,Xj,Xk,Xn,Xo,Xp,Xq,Xt,Xu,Xv,Xx,Xy,Xz,Yg,Yh,Yi,Yj,Yk,Yl,Ym,Yn,Yo,Yp,Yq,Yr,Ys,Yt,Yu,Yv,Yw,Yx,Yy,Yz,Ua,Ub,Uc,Ud,Ue,Uf,Ug,Uh,Ui,Uj,Uk,Ul,Um,Un], []⟩ w := by
  subst hai
  have hsum : wrap64 ((at_ : Int) + 1) = (at_ : Int) + 1 := wrap_two at_ 1 ha
  have hsum' : IntKind.i64.wrap ((at_ : Int) + 1) = (at_ : Int) + 1 := wrapk_two at_ 1 ha
  have hat : (Lit.int .i64 (at_ : Int)).wf = true := lit_wf _ (by omega) (by have := big_lt; omega)
  have hidw : (Lit.int .i64 id).wf = true := lit_wf _ hi0 hi1
  have hmm : m < maxLen := lt_max m hml
  obtain ⟨v7, x7⟩ := x7
  have hX7 : w.cell? ⟨xb, xo + 7, none⟩ = some v7 := cell_of_block hX x7
  have hXf : w.frozen? ⟨xb, xo + 7, none⟩ = false := frozen_of_block hX
  have hX1 := blk_set (i := xo + 7) hX (.int .i64 ((at_ : Int) + 1))
  have hk1 : (w.setCell ⟨xb, xo + 7, none⟩ (.int .i64 ((at_ : Int) + 1))).heap[kb]? = some (kblk hb tv fv (.map (some wb))) := (blk_ne (Ne.symm d1)).trans hkb
  have hm1 := ownsMap_same hm (w' := w.setCell ⟨xb, xo + 7, none⟩ (.int .i64 ((at_ : Int) + 1))) (blk_ne (Ne.symm d2))
  have hT1 : Turned (fun k => k = xb ∨ k = wb) w (w.setCell ⟨xb, xo + 7, none⟩ (.int .i64 ((at_ : Int) + 1))) := (Turned.refl _ w).setCell (Or.inl (Or.inl rfl)) _
  have hX2 : (w.setCell ⟨xb, xo + 7, none⟩ (.int .i64 ((at_ : Int) + 1))).cell? ⟨xb, xo + 2, none⟩ = some (.int .i64 id) := cell_of_block hX1 (by rw [Array.getElem?_setIfInBounds_ne (by omega)]; exact x2)
  have k3 : (w.setCell ⟨xb, xo + 7, none⟩ (.int .i64 ((at_ : Int) + 1))).cell? ⟨kb, 3, none⟩ = some (.map (some wb)) := cell_of_block hk1 rfl
  clear hkb hX x7 hm hk1 x2
  have hidb : (id != 0) = false := by simpa using hid
  have hp : putId id at_ D = D := by unfold putId; rw [if_pos hid]
  clear hid
  conv => arg 2; whnf
  go_wp2
  exact hQ _ _ _ _ _ _ _ _ _ _ _ _ _ _ _ _ _ _ _ _ _ _ hX1 (by rw [hp]; exact hm1.mono (Nat.le_succ m)) hT1
theorem mark_some {Q : Exit → Act → World → Prop} {u2 u3 u6 u7 u8 u9 Ja Jb Jc Jd Je Jf Jg Jh Ji Jj Jk Jl Jm Jn Jo Jp Jq Jr Js Jt Ju Jv Jw Jx Jy Jz Qa Qb Qc Qd Qe Qf Qg Qh Qi Qj Qk Ql Qm Qn Qo Qp Qq Qr Qs Qt Qu Qv Qw Qx Qy Qz Xe Xg Xh Xi Xj Xk Xn Xo Xp Xq Xt Xu Xv Xx Xy Xz Yg Yh Yi Yj Yk Yl Ym Yn Yo Yp Yq Yr Ys Yt Yu Yv Yw Yx Yy Yz Ua Ub Uc Ud Ue Uf Ug Uh Ui Uj Uk Ul Um Un : Value} (kb hb xb xo vb vo wb m : Nat) (at_ : Nat) (ai id : Int) (hai : ai = (at_ : Int)) (tv fv : Value) (X : Array Value) (D : DataW Unit) (w : World) (hid : id ≠ 0) (hi0 : 0 ≤ id) (hi1 : id ≤ 4611686018427387904) (ha : at_ + 1 ≤ big)
    (hkb : w.heap[kb]? = some (kblk hb tv fv (.map (some wb)))) (hX : w.heap[xb]? = some (.cells X 105 (0, 0))) (x2 : X[xo + 2]? = some (.int .i64 id)) (x7 : ∃ v, X[xo + 7]? = some v)
    (hm : w.ownsMap Tryd.prog 3 (plainElem Tryd.prog 3) wb m D) (hml : m < big) (d1 : xb ≠ kb) (d2 : xb ≠ wb)
    (hQ : ∀ (s83 s84 s85 s86 s87 s88 s89 s90 s91 s92 s93 s94 s95 s96 s97 s98 s99 sBW sBX sBY sBZ : Value) (w' : World), w'.heap[xb]? = some (.cells (X.setIfInBounds (xo + 7) (.int .i64 ((at_ : Int) + 1))) 105 (0, 0)) → w'.ownsMap Tryd.prog 3 (plainElem Tryd.prog 3) wb (m + 1) (putId id at_ D) → Turned (fun k => k = xb ∨ k = wb) w w' → Q .normal ⟨#[(.pointer (some ⟨kb,0,none⟩)),(.pointer (some ⟨vb,vo,none⟩)),u2,u3,(.pointer (some ⟨xb,xo,none⟩)),(.int .i64 ai),u6,u7,u8,u9,Ja,Jb,Jc,Jd,Je,Jf,Jg,Jh,Ji,Jj,Jk,Jl,Jm,Jn,Jo,Jp,Jq,Jr,Js,Jt,Ju,Jv,Jw,Jx,Jy,Jz,Qa,Qb,Qc,Qd,Qe,Qf,Qg,Qh,Qi,Qj,Qk,Ql,Qm,Qn,Qo,Qp,Qq,Qr,Qs,Qt,Qu,Qv,Qw,Qx,Qy,Qz,Xe,Xg,Xh,Xi,Xj,Xk,Xn,Xo,Xp,Xq,Xt,Xu,Xv,Xx,Xy,Xz,Yg,Yh,Yi,Yj,Yk,s83,s84,s85,s86,s87,s88,s89,s90,s91,s92,s93,s94,s95,s96,s97,s98,s99,sBW,sBX,sBY,sBZ,Ug,Uh,Ui,Uj,Uk,Ul,Um,Un], []⟩ w') :
    Code.wp Tryd.prog (Cut.piece Tryd.f109 (Cut.tail 9)) Q ⟨#[(.pointer (some ⟨kb,0,none⟩)),(.pointer (some ⟨vb,vo,none⟩)),u2,u3,(.pointer (some ⟨xb,xo,none⟩)),(.int .i64 ai),u6,u7,u8,u9,Ja,Jb,Jc,Jd,Je,Jf,Jg,Jh,Ji,Jj,Jk,Jl,Jm,Jn,Jo,Jp,Jq,Jr,Js,Jt,Ju,Jv,Jw,Jx,Jy,Jz,Qa,Qb,Qc,Qd,Qe,Qf,Qg,Qh,Qi,Qj,Qk,Ql,Qm,Qn,Qo,Qp,Qq,Qr,Qs,Qt,Qu,Qv,Qw,Qx,Qy,Qz,Xe,Xg,Xh,Xi,Xj,Xk,Xn,Xo,Xp,Xq,Xt,Xu,Xv,Xx,Xy,Xz,Yg,Yh,Yi,Yj,Yk,Yl,Ym,Yn,Yo,Yp,Yq,Yr,Ys,Yt,Yu,Yv,Yw,Yx,Yy,Yz,Ua,Ub,Uc,Ud,Ue,Uf,Ug,Uh,Ui,Uj,Uk,Ul,Um,Un], []⟩ w := by
  subst hai
  have hsum : wrap64 ((at_ : Int) + 1) = (at_ : Int) + 1 := wrap_two at_ 1 ha
  have hsum' : IntKind.i64.wrap ((at_ : Int) + 1) = (at_ : Int) + 1 := wrapk_two at_ 1 ha
  have hat : (Lit.int .i64 (at_ : Int)).wf = true := lit_wf _ (by omega) (by have := big_lt; omega)
  have hidw : (Lit.int .i64 id).wf = true := lit_wf _ hi0 hi1
  have hmm : m < maxLen := lt_max m hml
  obtain ⟨v7, x7⟩ := x7
  have hX7 : w.cell? ⟨xb, xo + 7, none⟩ = some v7 := cell_of_block hX x7
  have hXf : w.frozen? ⟨xb, xo + 7, none⟩ = false := frozen_of_block hX
  have hX1 := blk_set (i := xo + 7) hX (.int .i64 ((at_ : Int) + 1))
  have hk1 : (w.setCell ⟨xb, xo + 7, none⟩ (.int .i64 ((at_ : Int) + 1))).heap[kb]? = some (kblk hb tv fv (.map (some wb))) := (blk_ne (Ne.symm d1)).trans hkb
  have hm1 := ownsMap_same hm (w' := w.setCell ⟨xb, xo + 7, none⟩ (.int .i64 ((at_ : Int) + 1))) (blk_ne (Ne.symm d2))
  have hT1 : Turned (fun k => k = xb ∨ k = wb) w (w.setCell ⟨xb, xo + 7, none⟩ (.int .i64 ((at_ : Int) + 1))) := (Turned.refl _ w).setCell (Or.inl (Or.inl rfl)) _
  have hX2 : (w.setCell ⟨xb, xo + 7, none⟩ (.int .i64 ((at_ : Int) + 1))).cell? ⟨xb, xo + 2, none⟩ = some (.int .i64 id) := cell_of_block hX1 (by rw [Array.getElem?_setIfInBounds_ne (by omega)]; exact x2)
  have k3 : (w.setCell ⟨xb, xo + 7, none⟩ (.int .i64 ((at_ : Int) + 1))).cell? ⟨kb, 3, none⟩ = some (.map (some wb)) := cell_of_block hk1 rfl
  clear hkb hX x7 hm hk1 x2
  have hidb : (id != 0) = true := by simpa using hid
  have hp : putId id at_ D = D.put (.int .i64 id) (.lit (.int .i64 (at_ : Int))) := by unfold putId; rw [if_neg hid]
  clear hid
  conv => arg 2; whnf
  go_wp2
  generalize hw1 : w.setCell ⟨xb, xo + 7, none⟩ (.int .i64 ((at_ : Int) + 1)) = w1 at *
  go_still_tail 10, (by kernel_rfl)
  refine wpList_mapUpdate_own _ rfl _ _ _ 96 rfl 3 3 (int_keyed Tryd.underlying3) Tryd.underlying96 _ wb m D rfl hm1 hmm _ _ (.int .i64 id) rfl rfl (keyOf_int_mk Tryd.underlying3 hidw) _ [] (plainElem_int Tryd.underlying3 hat) ?_
  intro w2 hm2 hg2
  have hX2' : w2.heap[xb]? = _ := (hg2.block xb (lt_of_block hX1) (fun h => d2 (Option.some.inj h))).trans hX1
  have hT2 : Turned (fun k => k = xb ∨ k = wb) w w2 := hT1.drew.grown hg2 (fun k hk => Or.inl (Or.inr (Option.some.inj hk).symm))
  go_wp2
  exact hQ _ _ _ _ _ _ _ _ _ _ _ _ _ _ _ _ _ _ _ _ _ _ hX2' (by rw [hp]; exact hm2) hT2
theorem mark_any {Q : Exit → Act → World → Prop} {u2 u3 u6 u7 u8 u9 Ja Jb Jc Jd Je Jf Jg Jh Ji Jj Jk Jl Jm Jn Jo Jp Jq Jr Js Jt Ju Jv Jw Jx Jy Jz Qa Qb Qc Qd Qe Qf Qg Qh Qi Qj Qk Ql Qm Qn Qo Qp Qq Qr Qs Qt Qu Qv Qw Qx Qy Qz Xe Xg Xh Xi Xj Xk Xn Xo Xp Xq Xt Xu Xv Xx Xy Xz Yg Yh Yi Yj Yk Yl Ym Yn Yo Yp Yq Yr Ys Yt Yu Yv Yw Yx Yy Yz Ua Ub Uc Ud Ue Uf Ug Uh Ui Uj Uk Ul Um Un : Value} (kb hb xb xo vb vo wb m : Nat) (at_ : Nat) (ai id : Int) (hai : ai = (at_ : Int)) (tv fv : Value) (X : Array Value) (D : DataW Unit) (w : World) (hi0 : 0 ≤ id) (hi1 : id ≤ 4611686018427387904) (ha : at_ + 1 ≤ big)
    (hkb : w.heap[kb]? = some (kblk hb tv fv (.map (some wb)))) (hX : w.heap[xb]? = some (.cells X 105 (0, 0))) (x2 : X[xo + 2]? = some (.int .i64 id)) (x7 : ∃ v, X[xo + 7]? = some v)
    (hm : w.ownsMap Tryd.prog 3 (plainElem Tryd.prog 3) wb m D) (hml : m < big) (d1 : xb ≠ kb) (d2 : xb ≠ wb)
    (hQ : ∀ (s83 s84 s85 s86 s87 s88 s89 s90 s91 s92 s93 s94 s95 s96 s97 s98 s99 sBW sBX sBY sBZ : Value) (w' : World), w'.heap[xb]? = some (.cells (X.setIfInBounds (xo + 7) (.int .i64 ((at_ : Int) + 1))) 105 (0, 0)) → w'.ownsMap Tryd.prog 3 (plainElem Tryd.prog 3) wb (m + 1) (putId id at_ D) → Turned (fun k => k = xb ∨ k = wb) w w' → Q .normal ⟨#[(.pointer (some ⟨kb,0,none⟩)),(.pointer (some ⟨vb,vo,none⟩)),u2,u3,(.pointer (some ⟨xb,xo,none⟩)),(.int .i64 ai),u6,u7,u8,u9,Ja,Jb,Jc,Jd,Je,Jf,Jg,Jh,Ji,Jj,Jk,Jl,Jm,Jn,Jo,Jp,Jq,Jr,Js,Jt,Ju,Jv,Jw,Jx,Jy,Jz,Qa,Qb,Qc,Qd,Qe,Qf,Qg,Qh,Qi,Qj,Qk,Ql,Qm,Qn,Qo,Qp,Qq,Qr,Qs,Qt,Qu,Qv,Qw,Qx,Qy,Qz,Xe,Xg,Xh,Xi,Xj,Xk,Xn,Xo,Xp,Xq,Xt,Xu,Xv,Xx,Xy,Xz,Yg,Yh,Yi,Yj,Yk,s83,s84,s85,s86,s87,s88,s89,s90,s91,s92,s93,s94,s95,s96,s97,s98,s99,sBW,sBX,sBY,sBZ,Ug,Uh,Ui,Uj,Uk,Ul,Um,Un], []⟩ w') :
    Code.wp Tryd.prog (Cut.piece Tryd.f109 (Cut.tail 9)) Q ⟨#[(.pointer (some ⟨kb,0,none⟩)),(.pointer (some ⟨vb,vo,none⟩)),u2,u3,(.pointer (some ⟨xb,xo,none⟩)),(.int .i64 ai),u6,u7,u8,u9,Ja,Jb,Jc,Jd,Je,Jf,Jg,Jh,Ji,Jj,Jk,Jl,Jm,Jn,Jo,Jp,Jq,Jr,Js,Jt,Ju,Jv,Jw,Jx,Jy,Jz,Qa,Qb,Qc,Qd,Qe,Qf,Qg,Qh,Qi,Qj,Qk,Ql,Qm,Qn,Qo,Qp,Qq,Qr,Qs,Qt,Qu,Qv,Qw,Qx,Qy,Qz,Xe,Xg,Xh,Xi,Xj,Xk,Xn,Xo,Xp,Xq,Xt,Xu,Xv,Xx,Xy,Xz,Yg,Yh,Yi,Yj,Yk,Yl,Ym,Yn,Yo,Yp,Yq,Yr,Ys,Yt,Yu,Yv,Yw,Yx,Yy,Yz,Ua,Ub,Uc,Ud,Ue,Uf,Ug,Uh,Ui,Uj,Uk,Ul,Um,Un], []⟩ w := by
  by_cases hid : id = 0
  · exact mark_zero kb hb xb xo vb vo wb m at_ ai id hai tv fv X D w hid hi0 hi1 ha hkb hX x2 x7 hm hml d1 d2 hQ
  · exact mark_some kb hb xb xo vb vo wb m at_ ai id hai tv fv X D w hid hi0 hi1 ha hkb hX x2 x7 hm hml d1 d2 hQ
end Go.Proofs.YthbkklnahhdgcaaDoor.ChCc

namespace Go.Proofs.YthbkklnahhdgcaaDoor.ChD
open Go Go.RowKit Go.Proofs.YthbkklnahhdgcaaDoor.Lib HeapR ChA ChT ChCa ChCc

/-- A block of cells: their type, and what is in them. -/
def rowDesc (w : World) (k : Nat) : Option (TypeId × Array Value) := match w.heap[k]? with
  | some (.cells c t _) => some (t, c)
  | _ => none
theorem rowDesc_of {w : World} {k : Nat} {c : Array Value} {t : TypeId} {fr : Nat × Nat} (h : w.heap[k]? = some (.cells c t fr)) : rowDesc w k = some (t, c) := by
  unfold rowDesc
  rw [h]
/-- What stays while a collector works. -/
structure Par where
  kb : Nat
  hb : Nat
  hv : Nat
  wb : Nat
  nb : Nat
  B : Nat
  room : Nat
  HB : Array Value
  maj : Bool
  O : List Ob
  base : List HCell
  pl : Nat → Nat × Nat
  src : Nat → Prop
  ro : Nat → Option (TypeId × Array Value)
/-- What is moved. -/
def Par.from_ (p : Par) (a : Int) : Bool := if p.maj then true else decide (a < (p.room : Int))
def Par.z (p : Par) : Nat := p.room + p.base.length
/-- The closure that tells it. -/
def Par.fn (p : Par) : Value := if p.maj then .func (Fn.func 114) #[] #[] else .func (Fn.func 108) #[] #[.pointer (some ⟨p.hv, 0, none⟩)]
/-- The mark of an object's head. -/
def Par.mark (p : Par) (L : List Ob) (o : Ob) [Decidable (has L o.addr)] : Int := if has L o.addr then ((fwd L p.z o.addr : Nat) : Int) + 1 else 0
instance (L : List Ob) (a : Nat) : Decidable (has L a) := decidable_of_iff (L.any (fun o => o.addr == a) = true) (by simp [has])
/-- The identities, and where they are. -/
def whereOf (z : Nat) : List Ob → DataW Unit → Nat → DataW Unit
  | [], D, _ => D
  | o :: l, D, n => whereOf z l (putId o.id (z + n) D) (n + o.len)
theorem whereOf_snoc (z : Nat) (l : List Ob) (o : Ob) (D : DataW Unit) (n : Nat) : whereOf z (l ++ [o]) D n = putId o.id (z + n + total l) (whereOf z l D n) := by
  induction l generalizing D n with
  | nil => simp [whereOf, total]
  | cons x l ih =>
    rw [List.cons_append, whereOf, ih, total_cons, whereOf]
    congr 1
    omega

/-- Where an object lies. -/
def Place (p : Par) (o : Ob) : Prop :=
  (o.addr + o.len ≤ p.room ∧ p.pl o.addr = (p.nb, o.addr * 8)) ∨ (p.maj = true ∧ p.room ≤ o.addr ∧ ∃ og n c, og ≠ p.nb ∧ p.HB[1]? = some (.slice (some ⟨og, 0, none⟩) n c) ∧ o.addr - p.room + o.len ≤ n ∧ p.pl o.addr = (og, (o.addr - p.room) * 8))
structure Par.OK (p : Par) : Prop where
  h0 : ∃ c, p.HB[0]? = some (.slice (some ⟨p.nb, 0, none⟩) p.room c)
  h3 : p.HB[3]? = some (.int .i64 p.room)
  place : ∀ o ∈ p.O, Place p o
  apart : ∀ x ∈ p.O, ∀ y ∈ p.O, x.addr = y.addr ∨ (p.pl x.addr).1 ≠ (p.pl y.addr).1 ∨ (p.pl x.addr).2 + x.len * 8 ≤ (p.pl y.addr).2 ∨ (p.pl y.addr).2 + y.len * 8 ≤ (p.pl x.addr).2
  sole : Apart p.O
  nd : p.O.Nodup
  closed : ∀ o ∈ p.O, ∀ v ∈ o.fs, v.k = 4 → p.from_ v.n = true → ∃ x ∈ p.O, v.n = (x.addr : Int)
  size : p.room + p.base.length + total p.O + 1 ≤ big
  addr : ∀ o ∈ p.O, o.addr + o.len ≤ big
  ids : ∀ o ∈ p.O, 0 ≤ o.id ∧ o.id ≤ 4611686018427387904
  from_ : ∀ o ∈ p.O, p.from_ (o.addr : Int) = true
  kh : p.kb ≠ p.hb
  kv : p.kb ≠ p.hv
  wk : p.wb ≠ p.kb
  pk : ∀ o ∈ p.O, (p.pl o.addr).1 ≠ p.kb ∧ (p.pl o.addr).1 ≠ p.hb ∧ (p.pl o.addr).1 ≠ p.hv ∧ (p.pl o.addr).1 ≠ p.wb
  wh : p.wb ≠ p.hb
  wv : p.wb ≠ p.hv
  nk : p.nb ≠ p.kb
  nh : p.nb ≠ p.hb
  nv : p.nb ≠ p.hv
  nw : p.nb ≠ p.wb

/-- What is led to. -/
inductive Leads (p : Par) : Ob → Prop
  | src {o : Ob} (ho : o ∈ p.O) (h : p.src o.addr) : Leads p o
  | step {x o : Ob} {v : Vl} (hx : Leads p x) (hv : v ∈ x.fs) (hk : v.k = 4) (hn : v.n = (o.addr : Int)) (ho : o ∈ p.O) : Leads p o
theorem Leads.mem {p : Par} {o : Ob} (h : Leads p o) : o ∈ p.O := by
  cases h with
  | src ho _ => exact ho
  | step _ _ _ _ ho => exact ho

/-- The collector at work: L are copied, of 'to' the cells in P fixed. -/
structure CR (p : Par) (w : World) (tv : Value) (L : List Ob) (P : Nat → Bool) : Prop where
  kblk : w.heap[p.kb]? = some (kblk p.hb tv p.fn (.map (some p.wb)))
  hblk : w.heap[p.hb]? = some (.cells p.HB 98 (0, 0))
  hvar : p.maj = false → w.cell? ⟨p.hv, 0, none⟩ = some (.pointer (some ⟨p.hb, 0, none⟩))
  row : w.ownsRow p.B 105 8 tv (p.base.length + total L) (hvals (tcells p.from_ p.base L p.z P))
  map : w.ownsMap Tryd.prog 3 (plainElem Tryd.prog 3) p.wb L.length (whereOf p.z L (.map []) 0)
  src : ∀ o ∈ p.O, ∃ X, w.heap[(p.pl o.addr).1]? = some (.cells X 105 (0, 0)) ∧ ∀ (i : Nat) (c : HCell), (o.cells (p.mark L o))[i]? = some c → ∀ (j : Nat) (v : Value), c.vals[j]? = some v → X[(p.pl o.addr).2 + i * 8 + j]? = some v
  led : Led p.from_ p.base L P
  lt : ∀ i, P i = true → i < p.base.length + total L
  inO : ∀ o ∈ L, o ∈ p.O
  nd : L.Nodup
  come : ∀ o ∈ L, Leads p o
  nurs : ∃ N : List HCell, p.room ≤ N.length ∧ w.heap[p.nb]? = some (.cells (hcells N) 105 (0, 0))
  low : p.B ≤ w.heap.size
  hvl : p.hv < w.heap.size
  tk : tv.ownBlock ≠ some p.kb
  th : tv.ownBlock ≠ some p.hb
  tw : tv.ownBlock ≠ some p.wb
  ts : ∀ o ∈ p.O, tv.ownBlock ≠ some (p.pl o.addr).1
  tn : tv.ownBlock ≠ some p.nb
  tvv : tv.ownBlock ≠ some p.hv
/-- The blocks that the collector turns or reads. -/
def Own (p : Par) (tv : Value) (k : Nat) : Prop := k = p.kb ∨ k = p.hb ∨ k = p.hv ∨ k = p.wb ∨ tv.ownBlock = some k ∨ k = p.nb ∨ ∃ o ∈ p.O, (p.pl o.addr).1 = k
theorem CR.same {p : Par} {w w' : World} {tv : Value} {L : List Ob} {P : Nat → Bool} (h : CR p w tv L P) (hs : ∀ k, Own p tv k → w'.heap[k]? = w.heap[k]?) (hz : w.heap.size ≤ w'.heap.size) : CR p w' tv L P :=
  { h with
    kblk := (hs _ (.inl rfl)).trans h.kblk
    hblk := (hs _ (.inr (.inl rfl))).trans h.hblk
    hvar := fun hm => (World.cell?_of_block (a := ⟨p.hv, 0, none⟩) (hs _ (.inr (.inr (.inl rfl))))).trans (h.hvar hm)
    row := ownsRow_same h.row fun k hk => hs k (.inr (.inr (.inr (.inr (.inl hk)))))
    map := by
      obtain ⟨es, clock, h1, r⟩ := h.map
      exact ⟨es, clock, (hs _ (.inr (.inr (.inr (.inl rfl))))).trans h1, r⟩
    src := fun o ho => by
      obtain ⟨X, h1, h2⟩ := h.src o ho
      exact ⟨X, (hs _ (.inr (.inr (.inr (.inr (.inr (.inr ⟨o, ho, rfl⟩))))))).trans h1, h2⟩
    nurs := by
      obtain ⟨N, h1, h2⟩ := h.nurs
      exact ⟨N, h1, (hs _ (.inr (.inr (.inr (.inr (.inr (.inl rfl))))))).trans h2⟩
    low := Nat.le_trans h.low hz
    hvl := Nat.lt_of_lt_of_le h.hvl hz }
theorem CR.drewN {p : Par} {w : World} {tv : Value} {L : List Ob} {P : Nat → Bool} (h : CR p w tv L P) (n : Nat) : CR p (w.drewN n) tv L P := h.same (fun _ _ => rfl) (Nat.le_refl _)
end Go.Proofs.YthbkklnahhdgcaaDoor.ChD

namespace Go.Proofs.YthbkklnahhdgcaaDoor.ChCd
open Go Go.Proofs Go.RowKit Go.Maps Lib HeapR HeapA HeapB HeapF ChA ChB ChCa ChCb ChCc

theorem wrap_back (a b : Nat) (h : a + b ≤ big) : wrap64 ((a : Int) + (b : Int) + 1 - 1) = (a : Int) + (b : Int) := by
  unfold big at h
  unfold wrap64
  omega

theorem move_new_minor (hv : Nat) (kb hb xb xo vb vo wb B m : Nat) (a : Nat) (room : Nat) (tv : Value) (n : Nat) (xs : List Value) (ob : Ob) (X : Array Value) (D : DataW Unit) (w : World)
    (hkb : w.heap[kb]? = some (kblk hb tv (.func (Fn.func 108) #[] #[.pointer (some ⟨hv, 0, none⟩)]) (.map (some wb))))
    (hv0 : w.cell? ⟨hv, 0, none⟩ = some (.pointer (some ⟨hb, 0, none⟩))) (har : (a : Int) < room) (h3 : w.cell? ⟨hb, 3, none⟩ = some (.int .i64 room))
    (v0 : w.cell? ⟨vb, vo, none⟩ = some (.int .i64 4)) (v1 : w.cell? ⟨vb, vo + 1, none⟩ = some (.int .i64 a)) (vf : w.frozen? ⟨vb, vo + 1, none⟩ = false)
    (hX : w.heap[xb]? = some (.cells X 105 (0, 0))) (hXc : ∀ (i : Nat) (c : HCell), (ob.cells 0)[i]? = some c → ∀ (j : Nat) (v : Value), c.vals[j]? = some v → X[xo + i * 8 + j]? = some v)
    (hat : ∀ (w1 : World), w1.heap[hb]? = w.heap[hb]? → ∀ i : Nat, i < ob.len → Calls Tryd.prog 36 #[.pointer (some ⟨hb, 0, none⟩), .int .i64 ((a : Int) + (i : Int))] w1 fun e w' => e = .returned (.pointer (some ⟨xb, xo + i * 8, none⟩)) ∧ ∃ k, w' = w1.drewN k)
    (hT : w.ownsRow B 105 8 tv n xs) (hB : B ≤ w.heap.size) (hm : w.ownsMap Tryd.prog 3 (plainElem Tryd.prog 3) wb m D) (hml : m < big)
    (hi0 : 0 ≤ ob.id) (hi1 : ob.id ≤ 4611686018427387904)
    (hTl : room + n + ob.len ≤ big) (hao : a + ob.len ≤ big)
    (t1 : tv.ownBlock ≠ some kb) (t2 : tv.ownBlock ≠ some hb) (t3 : tv.ownBlock ≠ some xb) (t4 : tv.ownBlock ≠ some vb) (t5 : tv.ownBlock ≠ some wb) (d1 : hb ≠ kb) (d2 : xb ≠ kb) (d3 : vb ≠ kb) (d4 : xb ≠ vb) (d5 : xb ≠ wb) (d6 : wb ≠ kb) (d7 : wb ≠ vb) :
    Calls Tryd.prog 109 #[.pointer (some ⟨kb, 0, none⟩), .pointer (some ⟨vb, vo, none⟩)] w fun e w' => e = .returned (.tuple #[]) ∧ ∃ (o : Option Addr) (c : Nat) (w9 : World), w' = w9.setCell ⟨vb, vo + 1, none⟩ (.int .i64 ((room + n : Nat) : Int)) ∧
      w9.heap[kb]? = some (kblk hb (.slice o (n + ob.len) c) (.func (Fn.func 108) #[] #[.pointer (some ⟨hv, 0, none⟩)]) (.map (some wb))) ∧ w9.ownsRow B 105 8 (.slice o (n + ob.len) c) (n + ob.len) (xs ++ hvals (ob.cells 0)) ∧ w9.heap[xb]? = some (.cells (X.setIfInBounds (xo + 7) (.int .i64 (((room + n : Nat) : Int) + 1))) 105 (0, 0)) ∧
      w9.ownsMap Tryd.prog 3 (plainElem Tryd.prog 3) wb (m + 1) (putId ob.id (room + n) D) ∧ Turned (fun k => k = kb ∨ k = xb ∨ k = wb ∨ tv.ownBlock = some k) w w9 ∧ ∀ k, (Value.slice o (n + ob.len) c).ownBlock = some k → tv.ownBlock = some k ∨ w.heap.size ≤ k := by
  have had : decide ((a : Int) < room) = true := by simpa using har
  have hc : ∀ w : World, w.cell? ⟨hv, 0, none⟩ = some (.pointer (some ⟨hb, 0, none⟩)) → w.cell? ⟨hb, 3, none⟩ = some (.int .i64 room) → Calls Tryd.prog 108 #[.int .i64 (a : Int), .pointer (some ⟨hv, 0, none⟩)] w fun e w' => e = .returned (.bool true) ∧ w' = w := fun w h1 h2 => by
    have h := from_minor hv hb a room w h1 h2
    rw [had] at h
    exact h
  have hkd : ((4 : Int) != 4) = false := by decide
  have k0 : w.cell? ⟨kb, 0, none⟩ = some (.pointer (some ⟨hb, 0, none⟩)) := cell_of_block hkb rfl
  have k2 : w.cell? ⟨kb, 2, none⟩ = some (.func (Fn.func 108) #[] #[.pointer (some ⟨hv, 0, none⟩)]) := cell_of_block hkb rfl
  go_enter Tryd.func109, Tryd.ntmps109
  go_wp2_with (go_quiet ((go_at_call 108; exact Calls.quiet_of_same (hc _ hv0 h3))))
  have hkb_ : (w.drewN nq).heap[kb]? = _ := hkb
  have hX_ : (w.drewN nq).heap[xb]? = _ := hX
  have v1_ : (w.drewN nq).cell? ⟨vb, vo + 1, none⟩ = _ := v1
  have vf_ : (w.drewN nq).frozen? ⟨vb, vo + 1, none⟩ = _ := vf
  have h3_ : (w.drewN nq).cell? ⟨hb, 3, none⟩ = _ := h3
  have hT_ : (w.drewN nq).ownsRow B 105 8 tv n xs := hT
  have hm_ : (w.drewN nq).ownsMap Tryd.prog 3 (plainElem Tryd.prog 3) wb m D := hm
  have hat_ : ∀ (w1 : World), w1.heap[hb]? = (w.drewN nq).heap[hb]? → ∀ i : Nat, i < ob.len → Calls Tryd.prog 36 #[.pointer (some ⟨hb, 0, none⟩), .int .i64 ((a : Int) + (i : Int))] w1 fun e w' => e = .returned (.pointer (some ⟨xb, xo + i * 8, none⟩)) ∧ ∃ k, w' = w1.drewN k := hat
  have hB_ : B ≤ (w.drewN nq).heap.size := hB
  have hTt : Turned (fun k => k = kb ∨ k = xb ∨ k = wb ∨ tv.ownBlock = some k) w (w.drewN nq) := (Turned.refl _ w).drewN nq
  clear hkb hX v1 vf h3 hT hat hB k0 k2 v0 hc hv0 hm
  generalize w.drewN nq = w1 at *
  obtain ⟨oT, cT, rfl⟩ := own_slice hT_
  have hpos : 0 < ob.len := by unfold Ob.len; omega
  have hat0 : ∀ (w2 : World), w2.heap[hb]? = w1.heap[hb]? → Calls Tryd.prog 36 #[.pointer (some ⟨hb, 0, none⟩), .int .i64 (a : Int)] w2 fun e w' => e = .returned (.pointer (some ⟨xb, xo, none⟩)) ∧ ∃ k, w' = w2.drewN k := fun w2 h => by
    have h2 := hat_ w2 h 0 hpos
    simpa using h2
  have k0 : w1.cell? ⟨kb, 0, none⟩ = some (.pointer (some ⟨hb, 0, none⟩)) := cell_of_block hkb_ rfl
  have k1 : w1.cell? ⟨kb, 1, none⟩ = some (.slice oT n cT) := cell_of_block hkb_ rfl
  have xh : ∀ j v, (ob.head 0).vals[j]? = some v → X[xo + j]? = some v := fun j v hv => by
    have h2 := hXc 0 (ob.head 0) rfl j v hv
    rw [Nat.zero_mul, Nat.add_zero] at h2
    exact h2
  have X2 := xh 2 _ rfl
  have X7 := xh 7 _ rfl
  have x7 : w1.cell? ⟨xb, xo + 7, none⟩ = some (.int .i64 0) := cell_of_block hX_ X7
  have x3 : w1.cell? ⟨xb, xo + 3, none⟩ = some (.int .i64 (ob.fs.length : Int)) := cell_of_block hX_ (xh 3 _ rfl)
  clear xh
  go_quiet ((go_at_call 36; exact Calls.quiet_of (hat0 _ rfl)))
  clear hat0
  go_wp2
  have hsum : IntKind.i64.wrap ((room : Int) + (n : Int)) = (room : Int) + (n : Int) := wrapk_two room n (by omega)
  have hs1 : wrap64 (1 + (ob.fs.length : Int)) = (ob.len : Int) := (wrap_two 1 ob.fs.length (by unfold Ob.len at hao; omega)).trans (by unfold Ob.len; simp)
  go_quiet (fail)
  clear hsum
  go_wp2
  rw [hs1]
  refine copy_loop kb hb xb xo vb vo B a n (.slice oT n cT) (.func (Fn.func 108) #[] #[.pointer (some ⟨hv, 0, none⟩)]) (.map (some wb)) X ob xs _ (by exact hkb_) (by exact v1_) (by exact hX_) hXc (by exact hat_) (by exact hT_) (by exact hB_) t1 t2 t3 t4 d1 d2 d3 (by exact World.block_lt_of_cell? _ _ h3_) (by omega) hao ?_ ?_
  · exact fun c a d v w h => h
  intro s6 s58 s59 s60 s61 s62 s63 s64 s65 s66 s67 s68 s69 s70 s71 s72 s73 s74 s75 s76 s77 s78 s79 s80 s81 s82 o c w5 hkb5 hrow5 hT5 hown5
  have hX5 : w5.heap[xb]? = some (.cells X 105 (0, 0)) := (hT5.block xb (lt_of_block hX_) (fun h => h.elim d2 t3)).trans hX_
  have hv5 := hT5.block vb (World.block_lt_of_cell? _ _ v1_) (fun h => h.elim d3 t4)
  have v15 : w5.cell? ⟨vb, vo + 1, none⟩ = some (.int .i64 a) := (World.cell?_of_block (a := ⟨vb, vo + 1, none⟩) hv5).trans v1_
  have vf5 : w5.frozen? ⟨vb, vo + 1, none⟩ = false := (World.frozen?_of_block (a := ⟨vb, vo + 1, none⟩) hv5).trans vf_
  have hxl := lt_of_block hX_
  have hwl := hm_.lt
  have hm5 := ownsMap_same hm_ (hT5.block wb hm_.lt (fun h => h.elim d6 t5))
  have hT5' : Turned (fun k => k = kb ∨ k = xb ∨ k = wb ∨ (Value.slice oT n cT).ownBlock = some k) w w5 := (hTt.drewN _).trans (hT5.mono (fun k h => h.elim Or.inl (fun h => Or.inr (Or.inr (Or.inr h)))))
  have hown5' : ∀ k, (Value.slice o (n + ob.len) c).ownBlock = some k → (Value.slice oT n cT).ownBlock = some k ∨ w.heap.size ≤ k := fun k hk => (hown5 k hk).imp id (fun h => Nat.le_trans hTt.size h)
  clear hT5 hkb_ hX_ v1_ vf_ h3_ hT_ hm_ hat_ hB_ hTt hXc x7 x3 k0 k1 hs1 hkd hv5
  simp only [Exit.inBlock, Exit.then, if_true]
  refine (‹∀ (a : Act) (w : World), Code.wp Tryd.prog (Code.seq (Code.region 9 _ _) _) _ a w → _›) _ _ ?_
  have hlo : 0 < ob.len := hpos
  refine mark_any kb hb xb xo vb vo wb m (room + n) _ ob.id ?_ (.slice o (n + ob.len) c) (.func (Fn.func 108) #[] #[.pointer (some ⟨hv, 0, none⟩)]) X D _ hi0 hi1 (by omega) hkb5 hX5 X2 ⟨_, X7⟩ hm5 hml d2 d5 ?_
  · simp
  intro t83 t84 t85 t86 t87 t88 t89 t90 t91 t92 t93 t94 t95 t96 t97 t98 t99 t100 t101 t102 t103 w6 hX6 hm6 hT6
  clear hm5 hX5
  have hkb6 := (hT6.block kb (lt_of_block hkb5) (fun h => h.elim (fun h => d2 h.symm) (fun h => d6 h.symm))).trans hkb5
  have hrow6 : w6.ownsRow B 105 8 (.slice o (n + ob.len) c) (n + ob.len) (xs ++ hvals (ob.cells 0)) := ownsRow_same hrow5 (fun k hk => hT6.block k (own_lt hrow5 hk).2 (fun h => (hown5 k hk).elim (fun e => h.elim (fun h => t3 (h ▸ e)) (fun h => t5 (h ▸ e))) (fun e => h.elim (fun h => absurd (show k < w1.heap.size from h ▸ hxl) (Nat.not_lt.mpr e)) (fun h => absurd (show k < w1.heap.size from h ▸ hwl) (Nat.not_lt.mpr e)))))
  have hT6' := hT5'.trans (hT6.mono (fun k h => h.elim (fun h => Or.inr (Or.inl h)) (fun h => Or.inr (Or.inr (Or.inl h)))))
  have xlt : xo + 7 < X.size := (Array.getElem?_eq_some_iff.1 X7).1
  have x76 : w6.cell? ⟨xb, xo + 7, none⟩ = some (.int .i64 ((room : Int) + (n : Int) + 1)) := cell_of_block hX6 (by rw [Array.getElem?_setIfInBounds_self_of_lt xlt]; simp)
  have hv6 := hT6.block vb (World.block_lt_of_cell? _ _ v15) (fun h => h.elim (fun h => d4 h.symm) (fun h => d7 h.symm))
  have v16 : w6.cell? ⟨vb, vo + 1, none⟩ = some (.int .i64 a) := (World.cell?_of_block (a := ⟨vb, vo + 1, none⟩) hv6).trans v15
  have vf6 : w6.frozen? ⟨vb, vo + 1, none⟩ = false := (World.frozen?_of_block (a := ⟨vb, vo + 1, none⟩) hv6).trans vf5
  have hsub : wrap64 ((room : Int) + (n : Int) + 1 - 1) = (room : Int) + (n : Int) := wrap_back room n (by omega)
  clear hT5' hT6 hrow5 v15 vf5 hkb5 X2 X7 xlt hv6
  simp only [Exit.then]
  go_wp2
  refine bodyPost_end (results_none Tryd.results109 _ _ _) rfl ?_
  refine ⟨rfl, o, c, w6, ?_, hkb6, hrow6, hX6, hm6, hT6', hown5'⟩
  simp [wrap_two room n (by omega)]

theorem move_new_major (kb hb xb xo vb vo wb B m : Nat) (a : Nat) (room : Nat) (tv : Value) (n : Nat) (xs : List Value) (ob : Ob) (X : Array Value) (D : DataW Unit) (w : World)
    (hkb : w.heap[kb]? = some (kblk hb tv (.func (Fn.func 114) #[] #[]) (.map (some wb)))) (h3 : w.cell? ⟨hb, 3, none⟩ = some (.int .i64 room))
    (v0 : w.cell? ⟨vb, vo, none⟩ = some (.int .i64 4)) (v1 : w.cell? ⟨vb, vo + 1, none⟩ = some (.int .i64 a)) (vf : w.frozen? ⟨vb, vo + 1, none⟩ = false)
    (hX : w.heap[xb]? = some (.cells X 105 (0, 0))) (hXc : ∀ (i : Nat) (c : HCell), (ob.cells 0)[i]? = some c → ∀ (j : Nat) (v : Value), c.vals[j]? = some v → X[xo + i * 8 + j]? = some v)
    (hat : ∀ (w1 : World), w1.heap[hb]? = w.heap[hb]? → ∀ i : Nat, i < ob.len → Calls Tryd.prog 36 #[.pointer (some ⟨hb, 0, none⟩), .int .i64 ((a : Int) + (i : Int))] w1 fun e w' => e = .returned (.pointer (some ⟨xb, xo + i * 8, none⟩)) ∧ ∃ k, w' = w1.drewN k)
    (hT : w.ownsRow B 105 8 tv n xs) (hB : B ≤ w.heap.size) (hm : w.ownsMap Tryd.prog 3 (plainElem Tryd.prog 3) wb m D) (hml : m < big)
    (hi0 : 0 ≤ ob.id) (hi1 : ob.id ≤ 4611686018427387904)
    (hTl : room + n + ob.len ≤ big) (hao : a + ob.len ≤ big)
    (t1 : tv.ownBlock ≠ some kb) (t2 : tv.ownBlock ≠ some hb) (t3 : tv.ownBlock ≠ some xb) (t4 : tv.ownBlock ≠ some vb) (t5 : tv.ownBlock ≠ some wb) (d1 : hb ≠ kb) (d2 : xb ≠ kb) (d3 : vb ≠ kb) (d4 : xb ≠ vb) (d5 : xb ≠ wb) (d6 : wb ≠ kb) (d7 : wb ≠ vb) :
    Calls Tryd.prog 109 #[.pointer (some ⟨kb, 0, none⟩), .pointer (some ⟨vb, vo, none⟩)] w fun e w' => e = .returned (.tuple #[]) ∧ ∃ (o : Option Addr) (c : Nat) (w9 : World), w' = w9.setCell ⟨vb, vo + 1, none⟩ (.int .i64 ((room + n : Nat) : Int)) ∧
      w9.heap[kb]? = some (kblk hb (.slice o (n + ob.len) c) (.func (Fn.func 114) #[] #[]) (.map (some wb))) ∧ w9.ownsRow B 105 8 (.slice o (n + ob.len) c) (n + ob.len) (xs ++ hvals (ob.cells 0)) ∧ w9.heap[xb]? = some (.cells (X.setIfInBounds (xo + 7) (.int .i64 (((room + n : Nat) : Int) + 1))) 105 (0, 0)) ∧
      w9.ownsMap Tryd.prog 3 (plainElem Tryd.prog 3) wb (m + 1) (putId ob.id (room + n) D) ∧ Turned (fun k => k = kb ∨ k = xb ∨ k = wb ∨ tv.ownBlock = some k) w w9 ∧ ∀ k, (Value.slice o (n + ob.len) c).ownBlock = some k → tv.ownBlock = some k ∨ w.heap.size ≤ k := by
  have hc : ∀ w : World, Calls Tryd.prog 114 #[.int .i64 (a : Int)] w fun e w' => e = .returned (.bool true) ∧ w' = w := fun w => from_major a w
  have hkd : ((4 : Int) != 4) = false := by decide
  have k0 : w.cell? ⟨kb, 0, none⟩ = some (.pointer (some ⟨hb, 0, none⟩)) := cell_of_block hkb rfl
  have k2 : w.cell? ⟨kb, 2, none⟩ = some (.func (Fn.func 114) #[] #[]) := cell_of_block hkb rfl
  go_enter Tryd.func109, Tryd.ntmps109
  go_wp2_with (go_quiet ((go_at_call 114; exact Calls.quiet_of_same (hc _))))
  have hkb_ : (w.drewN nq).heap[kb]? = _ := hkb
  have hX_ : (w.drewN nq).heap[xb]? = _ := hX
  have v1_ : (w.drewN nq).cell? ⟨vb, vo + 1, none⟩ = _ := v1
  have vf_ : (w.drewN nq).frozen? ⟨vb, vo + 1, none⟩ = _ := vf
  have h3_ : (w.drewN nq).cell? ⟨hb, 3, none⟩ = _ := h3
  have hT_ : (w.drewN nq).ownsRow B 105 8 tv n xs := hT
  have hm_ : (w.drewN nq).ownsMap Tryd.prog 3 (plainElem Tryd.prog 3) wb m D := hm
  have hat_ : ∀ (w1 : World), w1.heap[hb]? = (w.drewN nq).heap[hb]? → ∀ i : Nat, i < ob.len → Calls Tryd.prog 36 #[.pointer (some ⟨hb, 0, none⟩), .int .i64 ((a : Int) + (i : Int))] w1 fun e w' => e = .returned (.pointer (some ⟨xb, xo + i * 8, none⟩)) ∧ ∃ k, w' = w1.drewN k := hat
  have hB_ : B ≤ (w.drewN nq).heap.size := hB
  have hTt : Turned (fun k => k = kb ∨ k = xb ∨ k = wb ∨ tv.ownBlock = some k) w (w.drewN nq) := (Turned.refl _ w).drewN nq
  clear hkb hX v1 vf h3 hT hat hB k0 k2 v0 hc hm
  generalize w.drewN nq = w1 at *
  obtain ⟨oT, cT, rfl⟩ := own_slice hT_
  have hpos : 0 < ob.len := by unfold Ob.len; omega
  have hat0 : ∀ (w2 : World), w2.heap[hb]? = w1.heap[hb]? → Calls Tryd.prog 36 #[.pointer (some ⟨hb, 0, none⟩), .int .i64 (a : Int)] w2 fun e w' => e = .returned (.pointer (some ⟨xb, xo, none⟩)) ∧ ∃ k, w' = w2.drewN k := fun w2 h => by
    have h2 := hat_ w2 h 0 hpos
    simpa using h2
  have k0 : w1.cell? ⟨kb, 0, none⟩ = some (.pointer (some ⟨hb, 0, none⟩)) := cell_of_block hkb_ rfl
  have k1 : w1.cell? ⟨kb, 1, none⟩ = some (.slice oT n cT) := cell_of_block hkb_ rfl
  have xh : ∀ j v, (ob.head 0).vals[j]? = some v → X[xo + j]? = some v := fun j v hv => by
    have h2 := hXc 0 (ob.head 0) rfl j v hv
    rw [Nat.zero_mul, Nat.add_zero] at h2
    exact h2
  have X2 := xh 2 _ rfl
  have X7 := xh 7 _ rfl
  have x7 : w1.cell? ⟨xb, xo + 7, none⟩ = some (.int .i64 0) := cell_of_block hX_ X7
  have x3 : w1.cell? ⟨xb, xo + 3, none⟩ = some (.int .i64 (ob.fs.length : Int)) := cell_of_block hX_ (xh 3 _ rfl)
  clear xh
  go_quiet ((go_at_call 36; exact Calls.quiet_of (hat0 _ rfl)))
  clear hat0
  go_wp2
  have hsum : IntKind.i64.wrap ((room : Int) + (n : Int)) = (room : Int) + (n : Int) := wrapk_two room n (by omega)
  have hs1 : wrap64 (1 + (ob.fs.length : Int)) = (ob.len : Int) := (wrap_two 1 ob.fs.length (by unfold Ob.len at hao; omega)).trans (by unfold Ob.len; simp)
  go_quiet (fail)
  clear hsum
  go_wp2
  rw [hs1]
  refine copy_loop kb hb xb xo vb vo B a n (.slice oT n cT) (.func (Fn.func 114) #[] #[]) (.map (some wb)) X ob xs _ (by exact hkb_) (by exact v1_) (by exact hX_) hXc (by exact hat_) (by exact hT_) (by exact hB_) t1 t2 t3 t4 d1 d2 d3 (by exact World.block_lt_of_cell? _ _ h3_) (by omega) hao ?_ ?_
  · exact fun c a d v w h => h
  intro s6 s58 s59 s60 s61 s62 s63 s64 s65 s66 s67 s68 s69 s70 s71 s72 s73 s74 s75 s76 s77 s78 s79 s80 s81 s82 o c w5 hkb5 hrow5 hT5 hown5
  have hX5 : w5.heap[xb]? = some (.cells X 105 (0, 0)) := (hT5.block xb (lt_of_block hX_) (fun h => h.elim d2 t3)).trans hX_
  have hv5 := hT5.block vb (World.block_lt_of_cell? _ _ v1_) (fun h => h.elim d3 t4)
  have v15 : w5.cell? ⟨vb, vo + 1, none⟩ = some (.int .i64 a) := (World.cell?_of_block (a := ⟨vb, vo + 1, none⟩) hv5).trans v1_
  have vf5 : w5.frozen? ⟨vb, vo + 1, none⟩ = false := (World.frozen?_of_block (a := ⟨vb, vo + 1, none⟩) hv5).trans vf_
  have hxl := lt_of_block hX_
  have hwl := hm_.lt
  have hm5 := ownsMap_same hm_ (hT5.block wb hm_.lt (fun h => h.elim d6 t5))
  have hT5' : Turned (fun k => k = kb ∨ k = xb ∨ k = wb ∨ (Value.slice oT n cT).ownBlock = some k) w w5 := (hTt.drewN _).trans (hT5.mono (fun k h => h.elim Or.inl (fun h => Or.inr (Or.inr (Or.inr h)))))
  have hown5' : ∀ k, (Value.slice o (n + ob.len) c).ownBlock = some k → (Value.slice oT n cT).ownBlock = some k ∨ w.heap.size ≤ k := fun k hk => (hown5 k hk).imp id (fun h => Nat.le_trans hTt.size h)
  clear hT5 hkb_ hX_ v1_ vf_ h3_ hT_ hm_ hat_ hB_ hTt hXc x7 x3 k0 k1 hs1 hkd hv5
  simp only [Exit.inBlock, Exit.then, if_true]
  refine (‹∀ (a : Act) (w : World), Code.wp Tryd.prog (Code.seq (Code.region 9 _ _) _) _ a w → _›) _ _ ?_
  have hlo : 0 < ob.len := hpos
  refine mark_any kb hb xb xo vb vo wb m (room + n) _ ob.id ?_ (.slice o (n + ob.len) c) (.func (Fn.func 114) #[] #[]) X D _ hi0 hi1 (by omega) hkb5 hX5 X2 ⟨_, X7⟩ hm5 hml d2 d5 ?_
  · simp
  intro t83 t84 t85 t86 t87 t88 t89 t90 t91 t92 t93 t94 t95 t96 t97 t98 t99 t100 t101 t102 t103 w6 hX6 hm6 hT6
  clear hm5 hX5
  have hkb6 := (hT6.block kb (lt_of_block hkb5) (fun h => h.elim (fun h => d2 h.symm) (fun h => d6 h.symm))).trans hkb5
  have hrow6 : w6.ownsRow B 105 8 (.slice o (n + ob.len) c) (n + ob.len) (xs ++ hvals (ob.cells 0)) := ownsRow_same hrow5 (fun k hk => hT6.block k (own_lt hrow5 hk).2 (fun h => (hown5 k hk).elim (fun e => h.elim (fun h => t3 (h ▸ e)) (fun h => t5 (h ▸ e))) (fun e => h.elim (fun h => absurd (show k < w1.heap.size from h ▸ hxl) (Nat.not_lt.mpr e)) (fun h => absurd (show k < w1.heap.size from h ▸ hwl) (Nat.not_lt.mpr e)))))
  have hT6' := hT5'.trans (hT6.mono (fun k h => h.elim (fun h => Or.inr (Or.inl h)) (fun h => Or.inr (Or.inr (Or.inl h)))))
  have xlt : xo + 7 < X.size := (Array.getElem?_eq_some_iff.1 X7).1
  have x76 : w6.cell? ⟨xb, xo + 7, none⟩ = some (.int .i64 ((room : Int) + (n : Int) + 1)) := cell_of_block hX6 (by rw [Array.getElem?_setIfInBounds_self_of_lt xlt]; simp)
  have hv6 := hT6.block vb (World.block_lt_of_cell? _ _ v15) (fun h => h.elim (fun h => d4 h.symm) (fun h => d7 h.symm))
  have v16 : w6.cell? ⟨vb, vo + 1, none⟩ = some (.int .i64 a) := (World.cell?_of_block (a := ⟨vb, vo + 1, none⟩) hv6).trans v15
  have vf6 : w6.frozen? ⟨vb, vo + 1, none⟩ = false := (World.frozen?_of_block (a := ⟨vb, vo + 1, none⟩) hv6).trans vf5
  have hsub : wrap64 ((room : Int) + (n : Int) + 1 - 1) = (room : Int) + (n : Int) := wrap_back room n (by omega)
  clear hT5' hT6 hrow5 v15 vf5 hkb5 X2 X7 xlt hv6
  simp only [Exit.then]
  go_wp2
  refine bodyPost_end (results_none Tryd.results109 _ _ _) rfl ?_
  refine ⟨rfl, o, c, w6, ?_, hkb6, hrow6, hX6, hm6, hT6', hown5'⟩
  simp [wrap_two room n (by omega)]

end Go.Proofs.YthbkklnahhdgcaaDoor.ChCd

namespace Go.Proofs.YthbkklnahhdgcaaDoor.ChE
open Go Go.Proofs Go.RowKit Go.Proofs.YthbkklnahhdgcaaDoor.Lib HeapR HeapA ChA ChB ChT ChCa ChCc ChCd ChD

theorem hvals_set7 (l : List HCell) (i : Nat) (m : Int) (h : i < l.length) : (hvals l).set (i * 8 + 7) (.int .i64 m) = hvals (l.modify i fun d => { d with moved := m }) := by
  induction l generalizing i with
  | nil => simp at h
  | cons d l ih =>
    cases i with
    | zero => simp [hvals_cons, HCell.vals]
    | succ i =>
      have hi : i < l.length := by simpa using h
      rw [List.modify_succ_cons, hvals_cons, hvals_cons, List.set_append_right _ _ (by rw [length_vals]; omega), length_vals]
      have := ih i hi
      rw [← this]
      congr 2
      omega
theorem hcells_set7 (l : List HCell) (i : Nat) (m : Int) (h : i < l.length) : (hcells l).setIfInBounds (i * 8 + 7) (.int .i64 m) = hcells (l.modify i fun d => { d with moved := m }) := by
  simp only [hcells, List.setIfInBounds_toArray]
  rw [hvals_set7 l i m h]

theorem cells_zero (o : Ob) (m : Int) : (o.cells m)[0]? = some (o.head m) := rfl
theorem cells_pos (o : Ob) (m m' : Int) (i : Nat) (h : 0 < i) : (o.cells m)[i]? = (o.cells m')[i]? := by
  cases i with
  | zero => omega
  | succ i => rfl
theorem head_other (o : Ob) (m m' : Int) (j : Nat) (h : j ≠ 7) : (o.head m).vals[j]? = (o.head m').vals[j]? := by
  unfold HCell.vals Ob.head
  match j, h with
  | 0, _ | 1, _ | 2, _ | 3, _ | 4, _ | 5, _ | 6, _ => rfl
  | n + 8, _ => rfl
theorem vals_lt {c : HCell} {j : Nat} {v : Value} (h : c.vals[j]? = some v) : j < 8 := by
  have := (List.getElem?_eq_some_iff.1 h).1
  rwa [length_vals] at this

/-- at, at each cell of an object. -/
theorem at_place {p : Par} (hp : p.OK) {o : Ob} (ho : o ∈ p.O) (w1 : World) (hb : w1.heap[p.hb]? = some (.cells p.HB 98 (0, 0))) (i : Nat) (hi : i < o.len) :
    Calls Tryd.prog 36 #[.pointer (some ⟨p.hb, 0, none⟩), .int .i64 ((o.addr : Int) + (i : Int))] w1 fun e w' => e = .returned (.pointer (some ⟨(p.pl o.addr).1, (p.pl o.addr).2 + i * 8, none⟩)) ∧ ∃ k, w' = w1.drewN k := by
  obtain ⟨cp, hc0⟩ := hp.h0
  have c0 : w1.cell? ⟨p.hb, 0, none⟩ = some (.slice (some ⟨p.nb, 0, none⟩) p.room cp) := cell_of_block hb hc0
  have c3 : w1.cell? ⟨p.hb, 3, none⟩ = some (.int .i64 p.room) := cell_of_block hb hp.h3
  have hsz := hp.addr o ho
  have hbig := big_lt
  rcases hp.place o ho with ⟨h1, h2⟩ | ⟨_, h1, og, n, c, _, h2, h3, h4⟩
  · rw [h2]
    have h := at_lo p.hb (o.addr + i) p.nb p.room cp p.room w1 c0 c3 (by omega) (by omega)
    have e : ((o.addr + i : Nat) : Int) = (o.addr : Int) + (i : Int) := by omega
    rw [e] at h
    refine h.mono fun e w' ⟨a, b⟩ => ⟨?_, 0, b.symm⟩
    rw [a, show (o.addr + i) * 8 = o.addr * 8 + i * 8 by omega]
  · rw [h4]
    have c1 : w1.cell? ⟨p.hb, 1, none⟩ = some (.slice (some ⟨og, 0, none⟩) n c) := cell_of_block hb h2
    have h := at_hi p.hb og n c ((o.addr : Int) + (i : Int)) p.room w1 c1 c3 (by omega) (by omega) (by omega) (by omega)
    refine h.mono fun e w' ⟨a, b⟩ => ⟨?_, b⟩
    rw [a, show ((o.addr : Int) + (i : Int) - (p.room : Int)).toNat * 8 = (o.addr - p.room) * 8 + i * 8 by omega]

theorem mark_in (p : Par) (L : List Ob) (o : Ob) (h : has L o.addr) : p.mark L o = ((fwd L p.z o.addr : Nat) : Int) + 1 := by unfold Par.mark; rw [if_pos h]
theorem mark_out (p : Par) (L : List Ob) (o : Ob) (h : ¬ has L o.addr) : p.mark L o = 0 := by unfold Par.mark; rw [if_neg h]
theorem mark_snoc_other (p : Par) (L : List Ob) (o x : Ob) (h : x.addr ≠ o.addr) : p.mark (L ++ [o]) x = p.mark L x := by
  by_cases hx : has L x.addr
  · rw [mark_in _ _ _ hx, mark_in _ _ _ (has_append.mpr (Or.inl hx)), fwd_in hx]
  · rw [mark_out _ _ _ hx, mark_out]
    intro h'
    rcases has_append.mp h' with h' | h'
    · exact hx h'
    · rcases has_cons.mp h' with h' | h'
      · exact h h'.symm
      · exact has_nil h'
theorem mark_snoc (p : Par) (L : List Ob) (o : Ob) (h : ¬ has L o.addr) : p.mark (L ++ [o]) o = ((p.z + total L : Nat) : Int) + 1 := by
  rw [mark_in _ _ _ (has_append.mpr (Or.inr (has_cons.mpr (Or.inl rfl)))), fwd_new h]

/-- A list of objects that are apart has no more cells than all. -/
theorem total_le {O : List Ob} : ∀ {L : List Ob}, L.Nodup → (∀ o ∈ L, o ∈ O) → total L ≤ total O := by
  induction O with
  | nil =>
    intro L _ h
    cases L with
    | nil => exact Nat.le_refl _
    | cons o L => cases h o (List.mem_cons_self ..)
  | cons x O ih =>
    intro L hL h
    classical
    by_cases hx : x ∈ L
    · obtain ⟨a, b, rfl⟩ := List.append_of_mem hx
      rw [total_append, total_cons, total_cons]
      have hn := List.nodup_append.mp hL
      have hn2 := List.nodup_cons.mp hn.2.1
      have := ih (L := a ++ b) (List.nodup_append.mpr ⟨hn.1, hn2.2, fun y hy z hz => hn.2.2 y hy z (List.mem_cons_of_mem _ hz)⟩) (fun o ho => by
        rcases List.mem_append.mp ho with ho' | ho'
        · rcases List.mem_cons.mp (h o (List.mem_append.mpr (Or.inl ho'))) with e | e
          · subst e
            exact absurd rfl (hn.2.2 o ho' o (List.mem_cons_self ..))
          · exact e
        · rcases List.mem_cons.mp (h o (List.mem_append.mpr (Or.inr (List.mem_cons_of_mem _ ho')))) with e | e
          · subst e
            exact absurd ho' hn2.1
          · exact e)
      rw [total_append] at this
      omega
    · rw [total_cons]
      have := ih hL (fun o ho => by
        rcases List.mem_cons.mp (h o ho) with e | e
        · subst e
          exact absurd ho hx
        · exact e)
      omega
theorem length_le_total (L : List Ob) : L.length ≤ total L := by
  induction L with
  | nil => exact Nat.le_refl _
  | cons o L ih =>
    rw [total_cons, List.length_cons]
    unfold Ob.len
    omega
end Go.Proofs.YthbkklnahhdgcaaDoor.ChE

namespace Go.Proofs.YthbkklnahhdgcaaDoor.ChF
open Go Go.Proofs Go.RowKit Go.Proofs.YthbkklnahhdgcaaDoor.Lib HeapR HeapA ChA ChB ChT ChCa ChCc ChCd ChD ChE

/-- The sources behind a mark. -/
theorem src_step {p : Par} (hp : p.OK) {w w9 : World} {L : List Ob} {o : Ob} {X : Array Value} (ho : o ∈ p.O) (hn : ¬ has L o.addr)
    (hs : ∀ o ∈ p.O, ∃ X, w.heap[(p.pl o.addr).1]? = some (.cells X 105 (0, 0)) ∧ ∀ (i : Nat) (c : HCell), (o.cells (p.mark L o))[i]? = some c → ∀ (j : Nat) (v : Value), c.vals[j]? = some v → X[(p.pl o.addr).2 + i * 8 + j]? = some v)
    (hX : w.heap[(p.pl o.addr).1]? = some (.cells X 105 (0, 0)))
    (h9 : w9.heap[(p.pl o.addr).1]? = some (.cells (X.setIfInBounds ((p.pl o.addr).2 + 7) (.int .i64 (((p.z + total L : Nat) : Int) + 1))) 105 (0, 0)))
    (hk : ∀ x ∈ p.O, (p.pl x.addr).1 ≠ (p.pl o.addr).1 → w9.heap[(p.pl x.addr).1]? = w.heap[(p.pl x.addr).1]?) :
    ∀ x ∈ p.O, ∃ X, w9.heap[(p.pl x.addr).1]? = some (.cells X 105 (0, 0)) ∧ ∀ (i : Nat) (c : HCell), (x.cells (p.mark (L ++ [o]) x))[i]? = some c → ∀ (j : Nat) (v : Value), c.vals[j]? = some v → X[(p.pl x.addr).2 + i * 8 + j]? = some v := by
  intro x hx
  obtain ⟨Y, hY, hYc⟩ := hs x hx
  by_cases hb : (p.pl x.addr).1 = (p.pl o.addr).1
  · have hYX : Y = X := by
      rw [hb, hX] at hY
      cases hY
      rfl
    subst hYX
    refine ⟨_, by rw [hb]; exact h9, fun i c hc j v hv => ?_⟩
    have hj := vals_lt hv
    have hi : i < x.len := by
      have := (List.getElem?_eq_some_iff.1 hc).1
      rwa [Ob.length_cells] at this
    by_cases ha : x.addr = o.addr
    · obtain rfl := hp.sole x hx o ho ha
      rw [mark_snoc p L x hn] at hc
      rw [mark_out p L x hn] at hYc
      by_cases h7 : (p.pl x.addr).2 + 7 = (p.pl x.addr).2 + i * 8 + j
      · have hi0 : i = 0 := by omega
        have hj7 : j = 7 := by omega
        subst hi0
        subst hj7
        rw [cells_zero] at hc
        cases hc
        have h0 := hYc 0 (x.head 0) rfl 7 _ rfl
        rw [← h7, Array.getElem?_setIfInBounds_self_of_lt (by rw [Nat.zero_mul, Nat.add_zero] at h0; exact (Array.getElem?_eq_some_iff.1 h0).1)]
        exact hv
      · rw [Array.getElem?_setIfInBounds_ne h7]
        by_cases hi0 : i = 0
        · subst hi0
          rw [cells_zero] at hc
          cases hc
          refine hYc 0 (x.head 0) rfl j v ?_
          rw [← hv]
          exact head_other x _ _ j (by omega)
        · exact hYc i c ((cells_pos x _ _ i (by omega)).symm.trans hc) j v hv
    · rw [mark_snoc_other p L o x ha] at hc
      have hne : (p.pl o.addr).2 + 7 ≠ (p.pl x.addr).2 + i * 8 + j := by
        have hol : 0 < o.len := by unfold Ob.len; omega
        rcases hp.apart x hx o ho with h | h | h | h
        · exact absurd h ha
        · exact absurd hb h
        · omega
        · omega
      rw [Array.getElem?_setIfInBounds_ne hne]
      exact hYc i c hc j v hv
  · have ha : x.addr ≠ o.addr := fun h => hb (by rw [h])
    exact ⟨Y, (hk x hx hb).trans hY, fun i c hc => hYc i c (by rw [mark_snoc_other p L o x ha] at hc; exact hc)⟩

theorem nurs_step {p : Par} (hp : p.OK) {w w9 : World} {o : Ob} {X : Array Value} {m : Int} (ho : o ∈ p.O)
    (hs : ∃ N : List HCell, p.room ≤ N.length ∧ w.heap[p.nb]? = some (.cells (hcells N) 105 (0, 0)))
    (hX : w.heap[(p.pl o.addr).1]? = some (.cells X 105 (0, 0)))
    (h9 : w9.heap[(p.pl o.addr).1]? = some (.cells (X.setIfInBounds ((p.pl o.addr).2 + 7) (.int .i64 m)) 105 (0, 0)))
    (hk : p.nb ≠ (p.pl o.addr).1 → w9.heap[p.nb]? = w.heap[p.nb]?) : ∃ N : List HCell, p.room ≤ N.length ∧ w9.heap[p.nb]? = some (.cells (hcells N) 105 (0, 0)) := by
  obtain ⟨N, hN, hb⟩ := hs
  rcases hp.place o ho with ⟨h1, h2⟩ | ⟨_, h1, og, n, c, hne, h2, h3, h4⟩
  · rw [h2] at hX h9
    have e : X = hcells N := by
      rw [hb] at hX
      cases hX
      rfl
    subst e
    have hlt : o.addr < N.length := by
      have : 0 < o.len := by unfold Ob.len; omega
      omega
    refine ⟨N.modify o.addr fun d => { d with moved := m }, by rw [List.length_modify]; exact hN, ?_⟩
    rw [h9, hcells_set7 N o.addr m hlt]
  · rw [h4] at hk
    exact ⟨N, hN, (hk (fun h => hne h.symm)).trans hb⟩

/-- What move leaves. -/
def Moved (p : Par) (w : World) (tv : Value) (L : List Ob) (P : Nat → Bool) (vb vo : Nat) (k n : Int) (w' : World) : Prop :=
  ∃ (tv' : Value) (K : List Ob) (w9 : World), CR p w9 tv' (L ++ K) P ∧ (k = 4 → p.from_ n = true → has (L ++ K) n.toNat) ∧
    w' = (if k = 4 ∧ p.from_ n = true then w9.setCell ⟨vb, vo + 1, none⟩ (.int .i64 ((fwd (L ++ K) p.z n.toNat : Nat) : Int)) else w9) ∧
    Turned (fun j => j = p.kb ∨ j = p.wb ∨ tv.ownBlock = some j ∨ ∃ o ∈ p.O, (p.pl o.addr).1 = j) w w9 ∧ ∀ j, tv'.ownBlock = some j → tv.ownBlock = some j ∨ w.heap.size ≤ j

theorem fits {p : Par} {w : World} {tv : Value} {L : List Ob} {P : Nat → Bool} (h : CR p w tv L P) : total L ≤ total p.O := total_le h.nd h.inO

/-- One object more. -/
theorem moved_new {p : Par} (hp : p.OK) {w : World} {tv : Value} {L : List Ob} {P : Nat → Bool} (h : CR p w tv L P) {vb vo : Nat} {o : Ob} (hR : Leads p o) (hn : ¬ has L o.addr) {X : Array Value}
    (hX : w.heap[(p.pl o.addr).1]? = some (.cells X 105 (0, 0))) {w' : World} {oo : Option Addr} {c : Nat} {w9 : World}
    (e : w' = w9.setCell ⟨vb, vo + 1, none⟩ (.int .i64 ((p.room + (p.base.length + total L) : Nat) : Int)))
    (hkb : w9.heap[p.kb]? = some (kblk p.hb (.slice oo (p.base.length + total L + o.len) c) p.fn (.map (some p.wb)))) (hrow : w9.ownsRow p.B 105 8 (.slice oo (p.base.length + total L + o.len) c) (p.base.length + total L + o.len) (hvals (tcells p.from_ p.base L p.z P) ++ hvals (o.cells 0)))
    (h9 : w9.heap[(p.pl o.addr).1]? = some (.cells (X.setIfInBounds ((p.pl o.addr).2 + 7) (.int .i64 (((p.room + (p.base.length + total L) : Nat) : Int) + 1))) 105 (0, 0)))
    (hm : w9.ownsMap Tryd.prog 3 (plainElem Tryd.prog 3) p.wb (L.length + 1) (putId o.id (p.room + (p.base.length + total L)) (whereOf p.z L (.map []) 0)))
    (hT : Turned (fun k => k = p.kb ∨ k = (p.pl o.addr).1 ∨ k = p.wb ∨ tv.ownBlock = some k) w w9) (hown : ∀ k, (Value.slice oo (p.base.length + total L + o.len) c).ownBlock = some k → tv.ownBlock = some k ∨ w.heap.size ≤ k) :
    Moved p w tv L P vb vo 4 (o.addr : Int) w' := by
  have ho := hR.mem
  obtain ⟨q1, q2, q3, q4⟩ := hp.pk o ho
  have hz : p.room + (p.base.length + total L) = p.z + total L := by unfold Par.z; omega
  rw [hz] at e h9 hm
  have hf : fwd (L ++ [o]) p.z o.addr = p.z + total L := fwd_new hn
  have hlt : ∀ k, (Value.slice oo (p.base.length + total L + o.len) c).ownBlock = some k → ∀ j, tv.ownBlock ≠ some j → j < w.heap.size → j ≠ k := fun k hk j h1 h2 h3 => (hown k hk).elim (fun h => h1 (h3 ▸ h)) (fun h => by omega)
  have hkl := lt_of_block h.kblk
  have hbl := lt_of_block h.hblk
  have hwl := h.map.lt
  have hnl : p.nb < w.heap.size := by
    obtain ⟨N, _, h2⟩ := h.nurs
    exact lt_of_block h2
  have hgr := tcells_grow (z := p.z) (o := o) h.led h.lt
  refine ⟨_, [o], w9, ?_, fun _ _ => by rw [Int.toNat_natCast]; exact has_append.mpr (Or.inr (has_cons.mpr (Or.inl rfl))), ?_, ?_, hown⟩
  · exact {
      kblk := hkb
      hblk := (hT.block p.hb hbl (fun h' => by rcases h' with h' | h' | h' | h'; exact hp.kh h'.symm; exact q2 h'.symm; exact hp.wh h'.symm; exact h.th h')).trans h.hblk
      hvar := fun hmj => by
        have hv := h.hvar hmj
        have hvl : p.hv < w.heap.size := World.block_lt_of_cell? w _ hv
        refine (World.cell?_of_block (a := ⟨p.hv, 0, none⟩) (hT.block p.hv hvl (fun h' => ?_))).trans hv
        rcases h' with h' | h' | h' | h'
        · exact hp.kv h'.symm
        · exact q3 h'.symm
        · exact hp.wv h'.symm
        · exact h.tvv h'
      row := by
        rw [total_append, show total [o] = o.len by simp [total], hgr, hvals_append, ← Nat.add_assoc]
        exact hrow
      map := by
        rw [whereOf_snoc, List.length_append, List.length_singleton, Nat.add_zero]
        exact hm
      src := src_step hp ho hn h.src hX h9 (fun x hx hne => hT.block _ (by obtain ⟨Y, hY, _⟩ := h.src x hx; exact lt_of_block hY) (fun h' => by
        rcases h' with h' | h' | h' | h'
        · exact (hp.pk x hx).1 h'
        · exact hne h'
        · exact (hp.pk x hx).2.2.2 h'
        · exact h.ts x hx h'))
      led := led_grow h.led h.lt
      lt := fun i hi => by
        have := h.lt i hi
        rw [total_append]
        omega
      inO := fun x hx => by
        rcases List.mem_append.mp hx with hx | hx
        · exact h.inO x hx
        · have : x = o := by simpa using hx
          subst this
          exact ho
      nd := by
        rw [List.nodup_append]
        refine ⟨h.nd, by simp, fun a ha b hb' => ?_⟩
        have : b = o := by simpa using hb'
        subst this
        rintro rfl
        exact hn ⟨a, ha, rfl⟩
      come := fun x hx => by
        rcases List.mem_append.mp hx with hx | hx
        · exact h.come x hx
        · have : x = o := by simpa using hx
          subst this
          exact hR
      nurs := nurs_step hp ho h.nurs hX h9 (fun hne => hT.block p.nb hnl (fun h' => by
        rcases h' with h' | h' | h' | h'
        · exact hp.nk h'
        · exact hne h'
        · exact hp.nw h'
        · exact h.tn h'))
      low := Nat.le_trans h.low hT.size
      hvl := Nat.lt_of_lt_of_le h.hvl hT.size
      tk := fun h' => hlt _ h' _ h.tk hkl rfl
      th := fun h' => hlt _ h' _ h.th hbl rfl
      tw := fun h' => hlt _ h' _ h.tw hwl rfl
      ts := fun x hx h' => hlt _ h' _ (h.ts x hx) (by obtain ⟨Y, hY, _⟩ := h.src x hx; exact lt_of_block hY) rfl
      tn := fun h' => hlt _ h' _ h.tn hnl rfl
      tvv := fun h' => by
        rcases hown _ h' with h2 | h2
        · exact h.tvv h2
        · have := h.hvl
          omega }
  · rw [e, if_pos ⟨rfl, hp.from_ o ho⟩, Int.toNat_natCast, hf]
  · refine hT.mono fun k hk => ?_
    rcases hk with hk | hk | hk | hk
    · exact Or.inl hk
    · exact Or.inr (Or.inr (Or.inr ⟨o, ho, hk.symm⟩))
    · exact Or.inr (Or.inl hk)
    · exact Or.inr (Or.inr (Or.inl hk))
end Go.Proofs.YthbkklnahhdgcaaDoor.ChF
