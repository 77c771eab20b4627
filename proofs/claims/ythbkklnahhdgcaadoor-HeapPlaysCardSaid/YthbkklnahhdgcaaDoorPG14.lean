/-
  HeapPlays' makes where Alloc fails.
-/
import Derived.Test.YthbkklnahhdgcaaDoorPG00
import Derived.Test.YthbkklnahhdgcaaDoorPG13
import Derived.Test.YthbkklnahhdgcaaDoorPG04
import Derived.Test.YthbkklnahhdgcaaDoorPG02
set_option maxRecDepth 100000
set_option maxHeartbeats 4000000
namespace Go.Proofs.YthbkklnahhdgcaaDoor.PlM
open Go Go.Proofs Go.RowKit Go.Maps Go.Proofs.YthbkklnahhdgcaaDoor.Lib HeapR HeapB HeapC HeapD HeapG HeapH ErrC ChA ChT ChCa ChCc ChE ChH ChL ChN ChO ChZ PlC PlH PlS PlT PlZ PlU

variable {w : World} {O : Nat → Nat} {B : Nat} {V : Zv} {H : HS} {T : List Th} {Z : Zn}
/-- A step, as an argument. -/
def stepV (what a b c bits : Int) : Value := .agg #[.int .i64 what, .int .i64 a, .int .i64 b, .int .i64 c, .int .u64 bits]
def stepCells (what a b c bits : Int) : Obj := .cells #[.int .i64 what, .int .i64 a, .int .i64 b, .int .i64 c, .int .u64 bits] 84 (0, 0)

theorem makes_arg (h : ZR w O B V H T Z) (what a b c bits : Int) (hx : a < 1 ∨ 4 < a ∨ c < 0 ∨ 1000 < c) :
    Calls Tryd.prog 71 #[.pointer (some ⟨V.zb, 0, none⟩), stepV what a b c bits] w fun e w' => e = .returned (.bool true) ∧ Below w.heap.size w w' := by
  have z0 : w.cell? ⟨V.zb, 0, none⟩ = some (.pointer (some ⟨V.hb, 0, none⟩)) := h.cz rfl
  have hzl := h.zlt
  have hsz := h.etlt
  have het := h.et
  have q0 : (w.alloc (stepCells what a b c bits)).cell? ⟨V.zb, 0, none⟩ = some (.pointer (some ⟨V.hb, 0, none⟩)) := alloc_cell z0 _
  have hlast := heap_alloc_last w (stepCells what a b c bits)
  have q1 : (w.alloc (stepCells what a b c bits)).cell? ⟨w.heap.size, 1, none⟩ = some (.int .i64 a) := cell_of_block hlast rfl
  have q2 : (w.alloc (stepCells what a b c bits)).cell? ⟨w.heap.size, 2, none⟩ = some (.int .i64 b) := cell_of_block hlast rfl
  have q3 : (w.alloc (stepCells what a b c bits)).cell? ⟨w.heap.size, 3, none⟩ = some (.int .i64 c) := cell_of_block hlast rfl
  have het1 : EtIs (w.alloc (stepCells what a b c bits)) := EtIs.alloc het _
  have hb1 : Below w.heap.size w (w.alloc (stepCells what a b c bits)) := (Below.refl _ w).alloc (Nat.le_refl _) _
  unfold stepV
  unfold stepCells at q0 q1 q2 q3 het1 hb1
  clear h hlast z0
  go_enter Tryd.func71, Tryd.ntmps71
  go_wp2_with fail
  generalize w.alloc (.cells #[.int .i64 what, .int .i64 a, .int .i64 b, .int .i64 c, .int .u64 bits] 84 (0, 0)) = w1 at *
  refine RegU.begin (S := fun wz => wz.cell? ⟨V.zb, 0, none⟩ = some (.pointer (some ⟨V.hb, 0, none⟩)) ∧ wz.cell? ⟨w.heap.size, 1, none⟩ = some (.int .i64 a) ∧ wz.cell? ⟨w.heap.size, 2, none⟩ = some (.int .i64 b) ∧ wz.cell? ⟨w.heap.size, 3, none⟩ = some (.int .i64 c)) (N := [4, 5, 6, 7, 8, 9, 13, 14]) (by kernel_rfl) ?_ (fun hHeld => ?_)
  · (try dsimp only); first | assumption | go_keep
  refine RegU.tk [1, 2, 3, 10, 11, 12, 13, 14, 15] 0 ?_
  refine RegU.tk [2, 3, 10, 11, 12, 13, 14, 15] 1 ?_
  refine RegU.tk [3, 10, 11, 12, 13, 14, 15] 2 ?_
  refine RegU.tk [10, 11, 12, 13, 14, 15] 3 ?_
  refine RegU.tk [5, 10, 11, 12, 13, 14, 15] 4 ?_
  refine RegU.tk [10, 11, 12, 13, 14, 15] 5 ?_
  refine RegU.tk [7, 10, 11, 12, 13, 14, 15] 6 ?_
  refine RegU.tk [10, 11, 12, 13, 14, 15] 7 ?_
  refine RegU.tk [9, 10, 11, 12, 13, 14, 15] 8 ?_
  refine RegU.tk [10, 11, 12, 13, 14, 15] 9 ?_
  refine RegU.one (i := 10) (by kernel_rfl) rfl (fun K hK => ?_)
  go_simp
  refine (alloc_arg a b c _ hx).mono ?_
  rintro e w' ⟨rfl, rfl⟩
  refine hK.out _ _ ⟨q0, q1, q2, q3⟩ (fun hHeld => ?_)
  clear hK K
  try simp only [Act.put, List.setIfInBounds_toArray, List.set_cons_zero, List.set_cons_succ]
  refine RegU.tk [12, 13, 14, 15] 11 ?_
  refine RegU.tk [14, 15] 12 ?_
  refine RegU.tk [15] 13 ?_
  refine RegU.one (i := 14) (by kernel_rfl) rfl (fun K hK => ?_)
  go_simp
  refine hK.out _ _ (by assumption) (fun hHeld => ?_)
  clear hK K
  try simp only [Act.put, List.setIfInBounds_toArray, List.set_cons_zero, List.set_cons_succ]
  refine RegU.rest [15] [_] (by kernel_rfl) rfl ?_
  have r1 : w1.drew.cell? ⟨w.heap.size, 1, none⟩ = some (.int .i64 a) := q1
  have r3 : w1.drew.cell? ⟨w.heap.size, 3, none⟩ = some (.int .i64 c) := q3
  have het2 : EtIs w1.drew := het1
  have hb2 : Below w.heap.size w w1.drew := hb1.drew
  have hz2 := hb2.size
  clear q0 q1 q2 q3 het1 hb1 het hHeld
  generalize w1.drew = w2 at *
  have hbare := bare_errno 1 1 w2 het2
  rcases Int.lt_or_le a 1 with h1 | h1
  · have g1 : decide (a < 1) = true := by simpa using h1
    clear hx
    go_wp2_with fail
    refine hbare.mono ?_
    rintro e w3 ⟨rfl, hb3⟩
    have A1 := Lib.hid (hb2.trans (hb3.mono hz2))
    clear hbare hb3 r1 r3
    go_wp2
    go_ret
    exact ⟨rfl, A1.out⟩
  have g1 : decide (a < 1) = false := by simpa using h1
  rcases Int.lt_or_le 4 a with h2 | h2
  · have g2 : decide (4 < a) = true := by simpa using h2
    clear hx
    go_wp2_with fail
    refine hbare.mono ?_
    rintro e w3 ⟨rfl, hb3⟩
    have A1 := Lib.hid (hb2.trans (hb3.mono hz2))
    clear hbare hb3 r1 r3
    go_wp2
    go_ret
    exact ⟨rfl, A1.out⟩
  have g2 : decide (4 < a) = false := by simpa using h2
  rcases Int.lt_or_le c 0 with h3 | h3
  · have g3 : decide (c < 0) = true := by simpa using h3
    clear hx
    go_wp2_with fail
    refine hbare.mono ?_
    rintro e w3 ⟨rfl, hb3⟩
    have A1 := Lib.hid (hb2.trans (hb3.mono hz2))
    clear hbare hb3 r1 r3
    go_wp2
    go_ret
    exact ⟨rfl, A1.out⟩
  have g3 : decide (c < 0) = false := by simpa using h3
  have g4 : decide (1000 < c) = true := by
    simp only [decide_eq_true_eq]
    omega
  clear hx
  go_wp2_with fail
  refine hbare.mono ?_
  rintro e w3 ⟨rfl, hb3⟩
  have A1 := Lib.hid (hb2.trans (hb3.mono hz2))
  clear hbare hb3 r1 r3
  go_wp2
  go_ret
  exact ⟨rfl, A1.out⟩

theorem makes_full (h : ZR w O B V H T Z) (what a b bits : Int) (s : Nat) (h1 : 1 ≤ a) (h4 : a ≤ 4) (hs : s ≤ 1000) (ht : Z.top = (H.top : Int)) (hr : Z.room = (H.room : Int)) (hf : H.room < H.top + 1 + s) :
    Calls Tryd.prog 71 #[.pointer (some ⟨V.zb, 0, none⟩), stepV what a b (s : Int) bits] w fun e w' => e = .returned (.bool true) ∧ Below w.heap.size w w' := by
  have z0 : w.cell? ⟨V.zb, 0, none⟩ = some (.pointer (some ⟨V.hb, 0, none⟩)) := h.cz rfl
  have z7 : w.cell? ⟨V.zb, 7, none⟩ = some (.int .i64 (H.top : Int)) := by rw [← ht]; exact h.cz rfl
  have z6 : w.cell? ⟨V.zb, 6, none⟩ = some (.int .i64 (H.room : Int)) := by rw [← hr]; exact h.cz rfl
  have hzl := h.zlt
  have het := h.et
  have q0 : (w.alloc (stepCells what a b (s : Int) bits)).cell? ⟨V.zb, 0, none⟩ = some (.pointer (some ⟨V.hb, 0, none⟩)) := alloc_cell z0 _
  have q6 : (w.alloc (stepCells what a b (s : Int) bits)).cell? ⟨V.zb, 6, none⟩ = some (.int .i64 (H.room : Int)) := alloc_cell z6 _
  have q7 : (w.alloc (stepCells what a b (s : Int) bits)).cell? ⟨V.zb, 7, none⟩ = some (.int .i64 (H.top : Int)) := alloc_cell z7 _
  have hlast := heap_alloc_last w (stepCells what a b (s : Int) bits)
  have q1 : (w.alloc (stepCells what a b (s : Int) bits)).cell? ⟨w.heap.size, 1, none⟩ = some (.int .i64 a) := cell_of_block hlast rfl
  have q2 : (w.alloc (stepCells what a b (s : Int) bits)).cell? ⟨w.heap.size, 2, none⟩ = some (.int .i64 b) := cell_of_block hlast rfl
  have q3 : (w.alloc (stepCells what a b (s : Int) bits)).cell? ⟨w.heap.size, 3, none⟩ = some (.int .i64 (s : Int)) := cell_of_block hlast rfl
  have het1 : EtIs (w.alloc (stepCells what a b (s : Int) bits)) := EtIs.alloc het _
  have hb1 : Below w.heap.size w (w.alloc (stepCells what a b (s : Int) bits)) := (Below.refl _ w).alloc (Nat.le_refl _) _
  have hR1 := (h.below hb1).hr
  have hA := alloc_full (w := (w.alloc (stepCells what a b (s : Int) bits)).drew) (hR1.drewN 1) a b s h1 h4 hs hf
  have htr := hR1.tr
  have hrr := hR1.rr
  have g1 : decide (a < 1) = false := by simpa using h1
  have g2 : decide (4 < a) = false := by simpa using h4
  have g3 : decide ((s : Int) < 0) = false := by simp
  have g4 : decide (1000 < (s : Int)) = false := by simp; omega
  have g5 : decide ((H.room : Int) < (H.top : Int) + 1 + s) = true := by simp; omega
  have k1 : IntKind.i64.wrap ((H.top : Int) + 1) = (H.top : Int) + 1 := IntWalk.i64_in _ (by omega)
  have k2 : IntKind.i64.wrap ((H.top : Int) + 1 + (s : Int)) = (H.top : Int) + 1 + (s : Int) := IntWalk.i64_in _ (by omega)
  unfold stepV
  unfold stepCells at q0 q1 q2 q3 q6 q7 het1 hb1 hA
  clear h hlast z0 z6 z7 hR1 hf htr hrr
  go_enter Tryd.func71, Tryd.ntmps71
  go_wp2_with fail
  generalize w.alloc (.cells #[.int .i64 what, .int .i64 a, .int .i64 b, .int .i64 (s : Int), .int .u64 bits] 84 (0, 0)) = w1 at *
  refine RegU.begin (S := fun wz => wz.cell? ⟨V.zb, 0, none⟩ = some (.pointer (some ⟨V.hb, 0, none⟩)) ∧ wz.cell? ⟨w.heap.size, 1, none⟩ = some (.int .i64 a) ∧ wz.cell? ⟨w.heap.size, 2, none⟩ = some (.int .i64 b) ∧ wz.cell? ⟨w.heap.size, 3, none⟩ = some (.int .i64 (s : Int))) (N := [4, 5, 6, 7, 8, 9, 13, 14]) (by kernel_rfl) ?_ (fun hHeld => ?_)
  · (try dsimp only); first | assumption | go_keep
  refine RegU.tk [1, 2, 3, 10, 11, 12, 13, 14, 15] 0 ?_
  refine RegU.tk [2, 3, 10, 11, 12, 13, 14, 15] 1 ?_
  refine RegU.tk [3, 10, 11, 12, 13, 14, 15] 2 ?_
  refine RegU.tk [10, 11, 12, 13, 14, 15] 3 ?_
  refine RegU.tk [5, 10, 11, 12, 13, 14, 15] 4 ?_
  refine RegU.tk [10, 11, 12, 13, 14, 15] 5 ?_
  refine RegU.tk [7, 10, 11, 12, 13, 14, 15] 6 ?_
  refine RegU.tk [10, 11, 12, 13, 14, 15] 7 ?_
  refine RegU.tk [9, 10, 11, 12, 13, 14, 15] 8 ?_
  refine RegU.tk [10, 11, 12, 13, 14, 15] 9 ?_
  refine RegU.one (i := 10) (by kernel_rfl) rfl (fun K hK => ?_)
  go_simp
  refine hA.mono ?_
  rintro e w' ⟨rfl, n1, rfl⟩
  refine hK.out _ _ ⟨q0, q1, q2, q3⟩ (fun hHeld => ?_)
  clear hK K
  try simp only [Act.put, List.setIfInBounds_toArray, List.set_cons_zero, List.set_cons_succ]
  refine RegU.tk [12, 13, 14, 15] 11 ?_
  refine RegU.tk [14, 15] 12 ?_
  refine RegU.tk [15] 13 ?_
  refine RegU.one (i := 14) (by kernel_rfl) rfl (fun K hK => ?_)
  go_simp
  refine hK.out _ _ (by assumption) (fun hHeld => ?_)
  clear hK K
  try simp only [Act.put, List.setIfInBounds_toArray, List.set_cons_zero, List.set_cons_succ]
  refine RegU.rest [15] [_] (by kernel_rfl) rfl ?_
  have r1 : (w1.drewN (1 + n1)).cell? ⟨w.heap.size, 1, none⟩ = some (.int .i64 a) := q1
  have r3 : (w1.drewN (1 + n1)).cell? ⟨w.heap.size, 3, none⟩ = some (.int .i64 (s : Int)) := q3
  have r6 : (w1.drewN (1 + n1)).cell? ⟨V.zb, 6, none⟩ = some (.int .i64 (H.room : Int)) := q6
  have r7 : (w1.drewN (1 + n1)).cell? ⟨V.zb, 7, none⟩ = some (.int .i64 (H.top : Int)) := q7
  have het2 : EtIs (w1.drewN (1 + n1)) := het1
  have hb2 : Below w.heap.size w (w1.drewN (1 + n1)) := below_drewN hb1 _
  clear q0 q1 q2 q3 q6 q7 het1 hb1 het hHeld hA
  generalize w1.drewN (1 + n1) = w2 at *
  go_wp2_with fail
  go_quiet (fail)
  have het3 : EtIs (w2.drewN nq) := het2
  have hb3 : Below w.heap.size w (w2.drewN nq) := below_drewN hb2 _
  have hz3 := hb3.size
  have hbare := bare_errno 12 12 (w2.drewN nq) het3
  go_wp2_with fail
  refine hbare.mono ?_
  rintro e w3 ⟨rfl, hb4⟩
  have A1 := Lib.hid (hb3.trans (hb4.mono hz3))
  clear hbare hb4 r1 r3 r6 r7 hb3
  go_wp2
  go_ret
  exact ⟨rfl, A1.out⟩
end Go.Proofs.YthbkklnahhdgcaaDoor.PlM

namespace Go.Proofs.YthbkklnahhdgcaaDoor.PlN
open Go Go.Proofs Go.RowKit Go.Maps Go.Proofs.YthbkklnahhdgcaaDoor.Lib HeapR HeapB HeapC HeapD HeapG HeapH ErrC ChA ChT ChCa ChCc ChE ChH ChI ChL ChN ChO ChZ PlC PlH PlS PlT PlZ PlU PlM

/-- How many things ahead have an identity. -/
def cntId (T : List Th) (i : Nat) : Int := ((T.take i).countP fun t => decide (0 < t.id) : Nat)
theorem cntId_succ {T : List Th} {i : Nat} {t : Th} (h : T[i]? = some t) : cntId T (i + 1) = cntId T i + if 0 < t.id then 1 else 0 := by
  unfold cntId
  rw [List.take_add_one, h, List.countP_append]
  by_cases h0 : 0 < t.id
  · simp [h0]
  · simp [h0]
theorem cntId_le (T : List Th) (i : Nat) : 0 ≤ cntId T i ∧ cntId T i ≤ i := by
  unfold cntId
  have h1 := List.countP_le_length (p := fun t : Th => decide (0 < t.id)) (l := T.take i)
  have h2 := List.length_take_le i T
  omega
def tBlk (kind tag id : Int) (iv : Value) : Array Value := #[.int .i64 kind, .int .i64 tag, .int .i64 id, .bool false, iv]
def RelId (w0 : World) (tb : Nat) (kind tag : Int) (iv : Value) (T : List Th) (i : Nat) (wr : World) : Prop :=
  wr.heap[tb]? = some (.cells (tBlk kind tag (1 + cntId T i) iv) 186 (0, 0)) ∧ Turned (fun k => k = tb) w0 wr

def Inv_id_loop (w0 : World) (zb tb _g _c : Nat) (_oa : Option Addr) (kind tag : Int) (iv : Value) (T : List Th) (u1 u2 u3 u4 u5 u6 u9 Ja Jb Jc Jd Je Jf Jg Jh Ji Jj Jk Jl Jm Jn Jo Jp Jq Jr Js Jt Ju Jv Jw Jx Jy Jz Qa Qb Qc Qd Qe Qf Qg Qh Qi Qj Qk Ql Qm Qn Qo Qp Qq Qr Qs Qt Qu Qv Qw Qx Qy Qz Xe Xg Xh Xi Xj Xk Xn Xo Xp Xq Xt Xu Xv Xx Xy Xz Yg Yh Yi Yj Yk Yl Ym Yn Up Uq Ur Us Ut Uu Uv Uw Ux Uy Uz Wc Wd We Wf Wg Wh Wi Wj Wk Wl Wm Wn Wo Wp Wq Wt Wu Ww Wx Wy Wz Ka Kb Kc Kd Ke Kf Kg Kh Kj Kl Km Kn Ko Kp Kq Kr Kt : Value) (a : Act) (wr : World) : Prop :=
  ∃ (i : Nat) (s86 s87 s88 s89 s90 s91 s92 s93 s94 s95 s96 s97 s98 s99 sBW sBX sBY sBZ sCa sCb sCc sCd sCe sCf sCg sCh sCi : Value), i ≤ T.length ∧ (RelId w0 tb kind tag iv T i wr) ∧ a = ⟨#[(.pointer (some ⟨zb,0,none⟩)),u1,u2,u3,u4,u5,u6,(.pointer (some ⟨tb,0,none⟩)),(.int .i64 (i : Int)),u9,Ja,Jb,Jc,Jd,Je,Jf,Jg,Jh,Ji,Jj,Jk,Jl,Jm,Jn,Jo,Jp,Jq,Jr,Js,Jt,Ju,Jv,Jw,Jx,Jy,Jz,Qa,Qb,Qc,Qd,Qe,Qf,Qg,Qh,Qi,Qj,Qk,Ql,Qm,Qn,Qo,Qp,Qq,Qr,Qs,Qt,Qu,Qv,Qw,Qx,Qy,Qz,Xe,Xg,Xh,Xi,Xj,Xk,Xn,Xo,Xp,Xq,Xt,Xu,Xv,Xx,Xy,Xz,Yg,Yh,Yi,Yj,Yk,Yl,Ym,Yn,s86,s87,s88,s89,s90,s91,s92,s93,s94,s95,s96,s97,s98,s99,sBW,sBX,sBY,sBZ,sCa,sCb,sCc,sCd,sCe,sCf,sCg,sCh,sCi,Up,Uq,Ur,Us,Ut,Uu,Uv,Uw,Ux,Uy,Uz,Wc,Wd,We,Wf,Wg,Wh,Wi,Wj,Wk,Wl,Wm,Wn,Wo,Wp,Wq,Wt,Wu,Ww,Wx,Wy,Wz,Ka,Kb,Kc,Kd,Ke,Kf,Kg,Kh,Kj,Kl,Km,Kn,Ko,Kp,Kq,Kr,Kt], []⟩
def mu_id_loop (n : Nat) (a : Act) (_ : World) : Nat := n - (intOf (a.tmps.getD 8 undef)).toNat

theorem id_loop {Q : Exit → Act → World → Prop} {u1 u2 u3 u4 u5 u6 u9 Ja Jb Jc Jd Je Jf Jg Jh Ji Jj Jk Jl Jm Jn Jo Jp Jq Jr Js Jt Ju Jv Jw Jx Jy Jz Qa Qb Qc Qd Qe Qf Qg Qh Qi Qj Qk Ql Qm Qn Qo Qp Qq Qr Qs Qt Qu Qv Qw Qx Qy Qz Xe Xg Xh Xi Xj Xk Xn Xo Xp Xq Xt Xu Xv Xx Xy Xz Yg Yh Yi Yj Yk Yl Ym Yn Yo Yp Yq Yr Ys Yt Yu Yv Yw Yx Yy Yz Ua Ub Uc Ud Ue Uf Ug Uh Ui Uj Uk Ul Um Un Uo Up Uq Ur Us Ut Uu Uv Uw Ux Uy Uz Wc Wd We Wf Wg Wh Wi Wj Wk Wl Wm Wn Wo Wp Wq Wt Wu Ww Wx Wy Wz Ka Kb Kc Kd Ke Kf Kg Kh Kj Kl Km Kn Ko Kp Kq Kr Kt : Value} (w0 : World) (zb tb g c : Nat) (oa : Option Addr) (kind tag : Int) (iv : Value) (T : List Th) (w : World) (hl : T.length ≤ big) (hz1 : w0.cell? ⟨zb, 1, none⟩ = some (.slice oa T.length c)) (hzt : zb ≠ tb) (hgt : g ≠ tb) (hth : ∀ (i : Nat) (t : Th), T[i]? = some t → oa = some ⟨g, 0, none⟩ ∧ w0.cell? ⟨g, i, none⟩ = some (.pointer (some ⟨t.b, 0, none⟩)) ∧ w0.cell? ⟨t.b, 2, none⟩ = some (.int .i64 t.id) ∧ t.b ≠ tb)
    (h0 : RelId w0 tb kind tag iv T 0 w)
    (hQ : ∀ (s86 s87 s88 s89 s90 s91 s92 s93 s94 s95 s96 s97 s98 s99 sBW sBX sBY sBZ sCa sCb sCc sCd sCe sCf sCg sCh sCi : Value) (w' : World), (RelId w0 tb kind tag iv T T.length w') → Q (.exit 1) ⟨#[(.pointer (some ⟨zb,0,none⟩)),u1,u2,u3,u4,u5,u6,(.pointer (some ⟨tb,0,none⟩)),(.int .i64 (T.length : Int)),u9,Ja,Jb,Jc,Jd,Je,Jf,Jg,Jh,Ji,Jj,Jk,Jl,Jm,Jn,Jo,Jp,Jq,Jr,Js,Jt,Ju,Jv,Jw,Jx,Jy,Jz,Qa,Qb,Qc,Qd,Qe,Qf,Qg,Qh,Qi,Qj,Qk,Ql,Qm,Qn,Qo,Qp,Qq,Qr,Qs,Qt,Qu,Qv,Qw,Qx,Qy,Qz,Xe,Xg,Xh,Xi,Xj,Xk,Xn,Xo,Xp,Xq,Xt,Xu,Xv,Xx,Xy,Xz,Yg,Yh,Yi,Yj,Yk,Yl,Ym,Yn,s86,s87,s88,s89,s90,s91,s92,s93,s94,s95,s96,s97,s98,s99,sBW,sBX,sBY,sBZ,sCa,sCb,sCc,sCd,sCe,sCf,sCg,sCh,sCi,Up,Uq,Ur,Us,Ut,Uu,Uv,Uw,Ux,Uy,Uz,Wc,Wd,We,Wf,Wg,Wh,Wi,Wj,Wk,Wl,Wm,Wn,Wo,Wp,Wq,Wt,Wu,Ww,Wx,Wy,Wz,Ka,Kb,Kc,Kd,Ke,Kf,Kg,Kh,Kj,Kl,Km,Kn,Ko,Kp,Kq,Kr,Kt], []⟩ w') :
    Code.wp Tryd.prog (Cut.piece Tryd.f71 (Cut.loop 12)) Q ⟨#[(.pointer (some ⟨zb,0,none⟩)),u1,u2,u3,u4,u5,u6,(.pointer (some ⟨tb,0,none⟩)),(.int .i64 (0 : Int)),u9,Ja,Jb,Jc,Jd,Je,Jf,Jg,Jh,Ji,Jj,Jk,Jl,Jm,Jn,Jo,Jp,Jq,Jr,Js,Jt,Ju,Jv,Jw,Jx,Jy,Jz,Qa,Qb,Qc,Qd,Qe,Qf,Qg,Qh,Qi,Qj,Qk,Ql,Qm,Qn,Qo,Qp,Qq,Qr,Qs,Qt,Qu,Qv,Qw,Qx,Qy,Qz,Xe,Xg,Xh,Xi,Xj,Xk,Xn,Xo,Xp,Xq,Xt,Xu,Xv,Xx,Xy,Xz,Yg,Yh,Yi,Yj,Yk,Yl,Ym,Yn,Yo,Yp,Yq,Yr,Ys,Yt,Yu,Yv,Yw,Yx,Yy,Yz,Ua,Ub,Uc,Ud,Ue,Uf,Ug,Uh,Ui,Uj,Uk,Ul,Um,Un,Uo,Up,Uq,Ur,Us,Ut,Uu,Uv,Uw,Ux,Uy,Uz,Wc,Wd,We,Wf,Wg,Wh,Wi,Wj,Wk,Wl,Wm,Wn,Wo,Wp,Wq,Wt,Wu,Ww,Wx,Wy,Wz,Ka,Kb,Kc,Kd,Ke,Kf,Kg,Kh,Kj,Kl,Km,Kn,Ko,Kp,Kq,Kr,Kt], []⟩ w := by
  conv => arg 2; whnf
  refine wp_loop (Inv_id_loop w0 zb tb g c oa kind tag iv T u1 u2 u3 u4 u5 u6 u9 Ja Jb Jc Jd Je Jf Jg Jh Ji Jj Jk Jl Jm Jn Jo Jp Jq Jr Js Jt Ju Jv Jw Jx Jy Jz Qa Qb Qc Qd Qe Qf Qg Qh Qi Qj Qk Ql Qm Qn Qo Qp Qq Qr Qs Qt Qu Qv Qw Qx Qy Qz Xe Xg Xh Xi Xj Xk Xn Xo Xp Xq Xt Xu Xv Xx Xy Xz Yg Yh Yi Yj Yk Yl Ym Yn Up Uq Ur Us Ut Uu Uv Uw Ux Uy Uz Wc Wd We Wf Wg Wh Wi Wj Wk Wl Wm Wn Wo Wp Wq Wt Wu Ww Wx Wy Wz Ka Kb Kc Kd Ke Kf Kg Kh Kj Kl Km Kn Ko Kp Kq Kr Kt) (mu_id_loop (T.length)) ?_ (fun a' wr hI => ?_)
  · exact ⟨0, Yo, Yp, Yq, Yr, Ys, Yt, Yu, Yv, Yw, Yx, Yy, Yz, Ua, Ub, Uc, Ud, Ue, Uf, Ug, Uh, Ui, Uj, Uk, Ul, Um, Un, Uo, Nat.zero_le _, h0, rfl⟩
  obtain ⟨i, s86, s87, s88, s89, s90, s91, s92, s93, s94, s95, s96, s97, s98, s99, sBW, sBX, sBY, sBZ, sCa, sCb, sCc, sCd, sCe, sCf, sCg, sCh, sCi, hI⟩ := hI
  obtain ⟨hib, hR, rfl⟩ := hI
  clear h0
  obtain ⟨hblk, hT⟩ := hR
  have y1 : wr.cell? ⟨zb, 1, none⟩ = some (.slice oa T.length c) := (hT.cell (p := ⟨zb, 1, none⟩) (World.block_lt_of_cell? w0 _ hz1) hzt).trans hz1
  have x2 : wr.cell? ⟨tb, 2, none⟩ = some (.int .i64 (1 + cntId T i)) := cell_of_block hblk rfl
  have xf : wr.frozen? ⟨tb, 2, none⟩ = false := frozen_of_block hblk
  have hc := cntId_le T i
  have hbig := big_lt
  by_cases hil : i < T.length
  · obtain ⟨t, ht⟩ : ∃ t, T[i]? = some t := ⟨_, List.getElem?_eq_getElem hil⟩
    obtain ⟨hoa, e1, e2, e3⟩ := hth i t ht
    subst hoa
    have hil' : decide ((i : Int) < (T.length : Int)) = true := by simpa using hil
    have hil2 : (i : Int) < (T.length : Int) := by omega
    have hi0 : (0 : Int) ≤ (i : Int) := by omega
    have y2 : wr.cell? ⟨g, i, none⟩ = some (.pointer (some ⟨t.b, 0, none⟩)) := (hT.cell (p := ⟨g, i, none⟩) (World.block_lt_of_cell? w0 _ e1) hgt).trans e1
    have y3 : wr.cell? ⟨t.b, 2, none⟩ = some (.int .i64 t.id) := (hT.cell (p := ⟨t.b, 2, none⟩) (World.block_lt_of_cell? w0 _ e2) e3).trans e2
    have hs := cntId_succ ht
    have c3 : IntKind.i64.wrap ((i : Int) + 1) = (i : Int) + 1 := wrapk_two i 1 (by unfold big at hl ⊢; omega)
    have c6 : wrap64 ((i : Int) + 1) = (i : Int) + 1 := wrap_two i 1 (by unfold big at hl ⊢; omega)
    by_cases hp : 0 < t.id
    · have g1 : decide (0 < t.id) = true := by simpa using hp
      rw [if_pos hp] at hs
      have k1 : IntKind.i64.wrap (1 + cntId T i + 1) = 1 + cntId T i + 1 := IntWalk.i64_in _ (by omega)
      have A1 := Lib.hid (show RelId w0 tb kind tag iv T (i + 1) (wr.setCell ⟨tb, 2, none⟩ (.int .i64 (1 + cntId T i + 1))) from ⟨by
        rw [blk_set hblk _, hs, show 1 + (cntId T i + 1) = 1 + cntId T i + 1 by omega]
        rfl, hT.setCell (p := ⟨tb, 2, none⟩) (.inl rfl) _⟩)
      clear hblk hT hth hz1 hs hc e1 e2 hp
      go_wp2
      clear c3 c6
      refine ⟨⟨i + 1, _, _, _, _, _, _, _, _, _, _, _, _, _, _, _, _, _, _, _, _, _, _, _, _, _, _, _, by omega, A1.out, rfl⟩, ?_⟩
      simp [mu_id_loop, intOf]
      omega
    · have g1 : decide (0 < t.id) = false := by simpa using hp
      rw [if_neg hp, Int.add_zero] at hs
      have A1 := Lib.hid (show RelId w0 tb kind tag iv T (i + 1) wr from ⟨by rw [hs]; exact hblk, hT⟩)
      clear hblk hT hth hz1 hs hc e1 e2 hp
      go_wp2
      clear c3 c6
      refine ⟨⟨i + 1, _, _, _, _, _, _, _, _, _, _, _, _, _, _, _, _, _, _, _, _, _, _, _, _, _, _, _, by omega, A1.out, rfl⟩, ?_⟩
      simp [mu_id_loop, intOf]
      omega
  · have hie : i = T.length := by omega
    subst hie
    have hil' : decide ((T.length : Int) < (T.length : Int)) = false := by simp
    have A1 := Lib.hid (show RelId w0 tb kind tag iv T T.length wr from ⟨hblk, hT⟩)
    clear hblk hT hth hz1 hc x2 xf
    go_wp2
    exact A1.out

end Go.Proofs.YthbkklnahhdgcaaDoor.PlN
