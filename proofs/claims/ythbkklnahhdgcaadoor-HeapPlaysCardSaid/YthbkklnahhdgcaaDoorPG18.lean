/-
  HeapPlays' collects: its roots.
-/
import Derived.Test.YthbkklnahhdgcaaDoorPG17
set_option maxRecDepth 100000
set_option maxHeartbeats 4000000
namespace Go.Proofs.YthbkklnahhdgcaaDoor.PlEa
open Go Go.Proofs Go.RowKit Go.Maps Go.Proofs.YthbkklnahhdgcaaDoor.Lib HeapR HeapB HeapC HeapD HeapG HeapH ErrC ChA ChT ChCa ChCc ChE ChH ChI ChK ChL ChN ChO ChP ChR ChV ChW ChZ PlT PlZ PlU PlQ PlL PlLa PlLb PlLc PlLd PlE

def heldRow (N : Nat) (L : List Nat) : List Value := (List.range N).map fun (j : Nat) => .bool (decide ((j : Nat) ∈ L))
/-- The roots, their numbers, and which are held: L are these. -/
def RA (w0 : World) (gH gW : Nat) (T : List Th) (i : Nat) (v5 v6 : Value) (wr : World) : Prop :=
  ∃ (L : List Nat) (oA oB : Option Addr) (cA cB : Nat), (∀ j ∈ L, j < i ∧ ∃ t, T[j]? = some t ∧ t.known = true) ∧ L.Nodup ∧ L.length ≤ i ∧ v5 = .slice oA L.length cA ∧ v6 = .slice oB L.length cB ∧
    wr.ownsRow w0.heap.size 208 1 v5 L.length (L.map fun j => .pointer (some ⟨gW, j * 3, none⟩)) ∧ wr.ownsRow w0.heap.size 3 1 v6 L.length (L.map fun j : Nat => .int .i64 ((j : Int) + 1)) ∧
    (∀ k, v5.ownBlock = some k → v6.ownBlock ≠ some k) ∧ wr.heap[gH]? = some (.cells (heldRow T.length L).toArray 4 (0, 0)) ∧ Turned (fun k => k = gH) w0 wr
theorem held_at {N i : Nat} {L : List Nat} (h : i < N) : (heldRow N L).toArray[i]? = some (.bool (decide (i ∈ L))) := by
  unfold heldRow
  simp [h]
theorem held_set {N i : Nat} {L : List Nat} : (heldRow N L).toArray.setIfInBounds i (.bool true) = (heldRow N (L ++ [i])).toArray := by
  unfold heldRow
  rw [List.setIfInBounds_toArray]
  congr 1
  apply List.ext_getElem?
  intro j
  rw [List.getElem?_set]
  by_cases e : i = j
  · subst e
    by_cases h : i < N
    · simp [h]
    · simp [h]
  · rw [if_neg e]
    by_cases h : j < N
    · simp [h, Ne.symm e]
    · simp [h]
theorem turned_fresh {S R : Nat → Prop} {a b c : World} (h : Turned S a b) (k : Turned R b c) (hf : ∀ j, R j → a.heap.size ≤ j) : Turned S a c :=
  ⟨k.os.trans h.os, k.tape.trans h.tape, k.output.trans h.output, Nat.le_trans h.size k.size, fun j hj hs => (k.block j (Nat.lt_of_lt_of_le hj h.size) (fun r => absurd (hf j r) (Nat.not_le.mpr hj))).trans (h.block j hj hs)⟩
theorem ra_more {w0 wr w' : World} {gH gW : Nat} {T : List Th} {i : Nat} {L : List Nat} {oA oB : Option Addr} {cA cB gA kA gB kB : Nat} {t : Th} (ht : T[i]? = some t) (hkn : t.known = true) (hgl : gH < w0.heap.size)
    (hL : ∀ j ∈ L, j < i ∧ ∃ t, T[j]? = some t ∧ t.known = true) (hnd : L.Nodup) (hLl : L.length ≤ i)
    (hrA : wr.ownsRow w0.heap.size 208 1 (.slice oA L.length cA) L.length (L.map fun j => .pointer (some ⟨gW, j * 3, none⟩))) (hrB : wr.ownsRow w0.heap.size 3 1 (.slice oB L.length cB) L.length (L.map fun j : Nat => .int .i64 ((j : Int) + 1)))
    (hH : wr.heap[gH]? = some (.cells (heldRow T.length L).toArray 4 (0, 0))) (hT : Turned (fun k => k = gH) w0 wr)
    (hM : More wr w0.heap.size (.slice oA L.length cA) (.slice oB L.length cB) L.length ((L.map fun j => .pointer (some ⟨gW, j * 3, none⟩)) ++ [.pointer (some ⟨gW, i * 3, none⟩)]) ((L.map fun j : Nat => .int .i64 ((j : Int) + 1)) ++ [.int .i64 ((i : Int) + 1)]) gH i gA kA gB kB w') :
    RA w0 gH gW T (i + 1) (.slice (some ⟨gA, 0, none⟩) (L.length + 1) kA) (.slice (some ⟨gB, 0, none⟩) (L.length + 1) kB) w' := by
  obtain ⟨wk, hTk, rfl⟩ := hM.wk
  have hlA : ∀ k, (Value.slice oA L.length cA).ownBlock = some k → w0.heap.size ≤ k := fun k hk => (own_lt hrA hk).1
  have hlB : ∀ k, (Value.slice oB L.length cB).ownBlock = some k → w0.heap.size ≤ k := fun k hk => (own_lt hrB hk).1
  have el : (L ++ [i]).length = L.length + 1 := by simp
  have hgk : wk.heap[gH]? = wr.heap[gH]? := hTk.block gH (lt_of_block hH) (fun h => by
    rcases h with h | h
    · have := hlA gH h; omega
    · have := hlB gH h; omega)
  refine ⟨L ++ [i], some ⟨gA, 0, none⟩, some ⟨gB, 0, none⟩, kA, kB, fun j hj => ?_, ?_, by rw [el]; omega, by rw [el], by rw [el], ?_, ?_, ?_, ?_, ?_⟩
  · rcases List.mem_append.mp hj with hj | hj
    · exact ⟨Nat.lt_succ_of_lt (hL j hj).1, (hL j hj).2⟩
    · rw [List.mem_singleton.mp hj]
      exact ⟨Nat.lt_succ_self i, t, ht, hkn⟩
  · exact List.nodup_append.2 ⟨hnd, by simp, fun a ha b hb e => by
      rw [List.mem_singleton] at hb
      have := (hL a ha).1
      omega⟩
  · rw [List.map_append, el]
    exact hM.rowA
  · rw [List.map_append, el]
    exact hM.rowB
  · intro k hk e
    exact hM.ne ((Option.some.inj hk).trans (Option.some.inj e).symm)
  · rw [← held_set]
    exact blk_set (hgk.trans hH) _
  · exact (turned_fresh hT hTk (fun k hk => by
      rcases hk with h | h
      · exact hlA k h
      · exact hlB k h)).setCell (.inl rfl) _

def Inv_sel_loop (w0 : World) (zx _zb sx _gT _cT gW _cW _gK _cK gH cH : Nat) (_bits : Int) (T : List Th) (u0 u1 u4 u9 Ja Jb Jc Jd Je Jf Jg Jh Ji Jj Jk Jl Jm Jn Xj Xk Xn Xo Xp Xq Xt Xu Xv Xx Xy Xz Yg Yh Yi Yj Yk Yl Ym Yn Yo Yp Yq Yr Ys Yt Yu Yv Yw Yx Yy Yz Ua Ub Uc Ud Ue Uf Ug Uh Ui Uj Uk Ul Um Un Uo Up Uq Ur Us Ut Uu Uv Uw Ux Uy Uz Wc Wd We Wf Wg Wh Wi Wj Wk Wl Wm Wn Wo Wp Wq Wt Wu Ww Wx Wy Wz Ka Kb Kc Kd Ke Kf Kg Kh Kj Kl Km Kn Ko Kp Kq Kr Kt Ku Kv Kw Kx Ky Kz Rg Rh Ri Rj Rk Rl Rm Rp Rq Rt Ru Rx Ry Rz Gc Ge Gf Gg Gh Gi Gj Gm Gn Gp Gq Gt Gu Gv Gx Gy Gz Fe Ff Fg Fh Fi Fj Fk Fm Fo Fp Fq Fs Ft Fu Fv Fw Fx Fy Fz Ec Ee Ef Eg Eh Ei Ej Ek Em En Eo Ep Eu Ev Ex Ey Ez Da Db Dc Dd Dg Dh Di Dj Dk Dl Dm Dn Do Dp Dq Dt Du Dv Dw Dx Dy Dz Pa Pb Pc Pe Pf Pg Ph Pi Pj Pk Pm Pn Po Pq Ps Pt Pu Pv Pw Px Py Pz Na : Value) (a : Act) (wr : World) : Prop :=
  ∃ (i : Nat) (s5 s6 s24 s25 s26 s27 s28 s29 s30 s31 s32 s33 s34 s35 s36 s37 s38 s39 s40 s41 s42 s43 s44 s45 s46 s47 s48 s49 s50 s51 s52 s53 s54 s55 s56 s57 s58 s59 s60 s61 s62 s63 s64 s65 : Value), i ≤ T.length ∧ (RA w0 gH gW T i s5 s6 wr) ∧ a = ⟨#[u0,u1,(.pointer (some ⟨zx,0,none⟩)),(.pointer (some ⟨sx,0,none⟩)),u4,s5,s6,(.slice (some ⟨gH,0,none⟩) T.length cH),(.int .i64 (i : Int)),u9,Ja,Jb,Jc,Jd,Je,Jf,Jg,Jh,Ji,Jj,Jk,Jl,Jm,Jn,s24,s25,s26,s27,s28,s29,s30,s31,s32,s33,s34,s35,s36,s37,s38,s39,s40,s41,s42,s43,s44,s45,s46,s47,s48,s49,s50,s51,s52,s53,s54,s55,s56,s57,s58,s59,s60,s61,s62,s63,s64,s65,Xj,Xk,Xn,Xo,Xp,Xq,Xt,Xu,Xv,Xx,Xy,Xz,Yg,Yh,Yi,Yj,Yk,Yl,Ym,Yn,Yo,Yp,Yq,Yr,Ys,Yt,Yu,Yv,Yw,Yx,Yy,Yz,Ua,Ub,Uc,Ud,Ue,Uf,Ug,Uh,Ui,Uj,Uk,Ul,Um,Un,Uo,Up,Uq,Ur,Us,Ut,Uu,Uv,Uw,Ux,Uy,Uz,Wc,Wd,We,Wf,Wg,Wh,Wi,Wj,Wk,Wl,Wm,Wn,Wo,Wp,Wq,Wt,Wu,Ww,Wx,Wy,Wz,Ka,Kb,Kc,Kd,Ke,Kf,Kg,Kh,Kj,Kl,Km,Kn,Ko,Kp,Kq,Kr,Kt,Ku,Kv,Kw,Kx,Ky,Kz,Rg,Rh,Ri,Rj,Rk,Rl,Rm,Rp,Rq,Rt,Ru,Rx,Ry,Rz,Gc,Ge,Gf,Gg,Gh,Gi,Gj,Gm,Gn,Gp,Gq,Gt,Gu,Gv,Gx,Gy,Gz,Fe,Ff,Fg,Fh,Fi,Fj,Fk,Fm,Fo,Fp,Fq,Fs,Ft,Fu,Fv,Fw,Fx,Fy,Fz,Ec,Ee,Ef,Eg,Eh,Ei,Ej,Ek,Em,En,Eo,Ep,Eu,Ev,Ex,Ey,Ez,Da,Db,Dc,Dd,Dg,Dh,Di,Dj,Dk,Dl,Dm,Dn,Do,Dp,Dq,Dt,Du,Dv,Dw,Dx,Dy,Dz,Pa,Pb,Pc,Pe,Pf,Pg,Ph,Pi,Pj,Pk,Pm,Pn,Po,Pq,Ps,Pt,Pu,Pv,Pw,Px,Py,Pz,Na], []⟩
def mu_sel_loop (n : Nat) (a : Act) (_ : World) : Nat := n - (intOf (a.tmps.getD 8 undef)).toNat

theorem sel_loop {Q : Exit → Act → World → Prop} {u0 u1 u4 u5 u6 u9 Ja Jb Jc Jd Je Jf Jg Jh Ji Jj Jk Jl Jm Jn Jo Jp Jq Jr Js Jt Ju Jv Jw Jx Jy Jz Qa Qb Qc Qd Qe Qf Qg Qh Qi Qj Qk Ql Qm Qn Qo Qp Qq Qr Qs Qt Qu Qv Qw Qx Qy Qz Xe Xg Xh Xi Xj Xk Xn Xo Xp Xq Xt Xu Xv Xx Xy Xz Yg Yh Yi Yj Yk Yl Ym Yn Yo Yp Yq Yr Ys Yt Yu Yv Yw Yx Yy Yz Ua Ub Uc Ud Ue Uf Ug Uh Ui Uj Uk Ul Um Un Uo Up Uq Ur Us Ut Uu Uv Uw Ux Uy Uz Wc Wd We Wf Wg Wh Wi Wj Wk Wl Wm Wn Wo Wp Wq Wt Wu Ww Wx Wy Wz Ka Kb Kc Kd Ke Kf Kg Kh Kj Kl Km Kn Ko Kp Kq Kr Kt Ku Kv Kw Kx Ky Kz Rg Rh Ri Rj Rk Rl Rm Rp Rq Rt Ru Rx Ry Rz Gc Ge Gf Gg Gh Gi Gj Gm Gn Gp Gq Gt Gu Gv Gx Gy Gz Fe Ff Fg Fh Fi Fj Fk Fm Fo Fp Fq Fs Ft Fu Fv Fw Fx Fy Fz Ec Ee Ef Eg Eh Ei Ej Ek Em En Eo Ep Eu Ev Ex Ey Ez Da Db Dc Dd Dg Dh Di Dj Dk Dl Dm Dn Do Dp Dq Dt Du Dv Dw Dx Dy Dz Pa Pb Pc Pe Pf Pg Ph Pi Pj Pk Pm Pn Po Pq Ps Pt Pu Pv Pw Px Py Pz Na : Value} (w0 : World) (zx zb sx gT cT gW cW gK cK gH cH : Nat) (bits : Int) (T : List Th) (w : World) (oT oW oK : Option Addr) (ho : 0 < T.length → oT = some ⟨gT, 0, none⟩ ∧ oW = some ⟨gW, 0, none⟩ ∧ oK = some ⟨gK, 0, none⟩) (hTl : T.length ≤ 1000) (hx : w0.cell? ⟨zx, 0, none⟩ = some (.pointer (some ⟨zb, 0, none⟩))) (z1 : w0.cell? ⟨zb, 1, none⟩ = some (.slice oT T.length cT)) (z2 : w0.cell? ⟨zb, 2, none⟩ = some (.slice oW T.length cW)) (z4 : w0.cell? ⟨zb, 4, none⟩ = some (.slice oK T.length cK)) (s4 : w0.cell? ⟨sx, 4, none⟩ = some (.int .u64 bits))
    (hK : ∀ (i : Nat) (t : Th), T[i]? = some t → w0.cell? ⟨gK, i, none⟩ = some (.bool t.known)) (hgl : gH < w0.heap.size) (nx : zx ≠ gH) (nz : zb ≠ gH) (nsx : sx ≠ gH) (nk : gK ≠ gH)
    (h0 : RA w0 gH gW T 0 u5 u6 w)
    (hQ : ∀ (s5 s6 s24 s25 s26 s27 s28 s29 s30 s31 s32 s33 s34 s35 s36 s37 s38 s39 s40 s41 s42 s43 s44 s45 s46 s47 s48 s49 s50 s51 s52 s53 s54 s55 s56 s57 s58 s59 s60 s61 s62 s63 s64 s65 : Value) (w' : World), (RA w0 gH gW T T.length s5 s6 w') → Q (.exit 0) ⟨#[u0,u1,(.pointer (some ⟨zx,0,none⟩)),(.pointer (some ⟨sx,0,none⟩)),u4,s5,s6,(.slice (some ⟨gH,0,none⟩) T.length cH),(.int .i64 (T.length : Int)),u9,Ja,Jb,Jc,Jd,Je,Jf,Jg,Jh,Ji,Jj,Jk,Jl,Jm,Jn,s24,s25,s26,s27,s28,s29,s30,s31,s32,s33,s34,s35,s36,s37,s38,s39,s40,s41,s42,s43,s44,s45,s46,s47,s48,s49,s50,s51,s52,s53,s54,s55,s56,s57,s58,s59,s60,s61,s62,s63,s64,s65,Xj,Xk,Xn,Xo,Xp,Xq,Xt,Xu,Xv,Xx,Xy,Xz,Yg,Yh,Yi,Yj,Yk,Yl,Ym,Yn,Yo,Yp,Yq,Yr,Ys,Yt,Yu,Yv,Yw,Yx,Yy,Yz,Ua,Ub,Uc,Ud,Ue,Uf,Ug,Uh,Ui,Uj,Uk,Ul,Um,Un,Uo,Up,Uq,Ur,Us,Ut,Uu,Uv,Uw,Ux,Uy,Uz,Wc,Wd,We,Wf,Wg,Wh,Wi,Wj,Wk,Wl,Wm,Wn,Wo,Wp,Wq,Wt,Wu,Ww,Wx,Wy,Wz,Ka,Kb,Kc,Kd,Ke,Kf,Kg,Kh,Kj,Kl,Km,Kn,Ko,Kp,Kq,Kr,Kt,Ku,Kv,Kw,Kx,Ky,Kz,Rg,Rh,Ri,Rj,Rk,Rl,Rm,Rp,Rq,Rt,Ru,Rx,Ry,Rz,Gc,Ge,Gf,Gg,Gh,Gi,Gj,Gm,Gn,Gp,Gq,Gt,Gu,Gv,Gx,Gy,Gz,Fe,Ff,Fg,Fh,Fi,Fj,Fk,Fm,Fo,Fp,Fq,Fs,Ft,Fu,Fv,Fw,Fx,Fy,Fz,Ec,Ee,Ef,Eg,Eh,Ei,Ej,Ek,Em,En,Eo,Ep,Eu,Ev,Ex,Ey,Ez,Da,Db,Dc,Dd,Dg,Dh,Di,Dj,Dk,Dl,Dm,Dn,Do,Dp,Dq,Dt,Du,Dv,Dw,Dx,Dy,Dz,Pa,Pb,Pc,Pe,Pf,Pg,Ph,Pi,Pj,Pk,Pm,Pn,Po,Pq,Ps,Pt,Pu,Pv,Pw,Px,Py,Pz,Na], []⟩ w') :
    Code.wp Tryd.prog (Cut.piece Tryd.f73 (Cut.loop 5)) Q ⟨#[u0,u1,(.pointer (some ⟨zx,0,none⟩)),(.pointer (some ⟨sx,0,none⟩)),u4,u5,u6,(.slice (some ⟨gH,0,none⟩) T.length cH),(.int .i64 (0 : Int)),u9,Ja,Jb,Jc,Jd,Je,Jf,Jg,Jh,Ji,Jj,Jk,Jl,Jm,Jn,Jo,Jp,Jq,Jr,Js,Jt,Ju,Jv,Jw,Jx,Jy,Jz,Qa,Qb,Qc,Qd,Qe,Qf,Qg,Qh,Qi,Qj,Qk,Ql,Qm,Qn,Qo,Qp,Qq,Qr,Qs,Qt,Qu,Qv,Qw,Qx,Qy,Qz,Xe,Xg,Xh,Xi,Xj,Xk,Xn,Xo,Xp,Xq,Xt,Xu,Xv,Xx,Xy,Xz,Yg,Yh,Yi,Yj,Yk,Yl,Ym,Yn,Yo,Yp,Yq,Yr,Ys,Yt,Yu,Yv,Yw,Yx,Yy,Yz,Ua,Ub,Uc,Ud,Ue,Uf,Ug,Uh,Ui,Uj,Uk,Ul,Um,Un,Uo,Up,Uq,Ur,Us,Ut,Uu,Uv,Uw,Ux,Uy,Uz,Wc,Wd,We,Wf,Wg,Wh,Wi,Wj,Wk,Wl,Wm,Wn,Wo,Wp,Wq,Wt,Wu,Ww,Wx,Wy,Wz,Ka,Kb,Kc,Kd,Ke,Kf,Kg,Kh,Kj,Kl,Km,Kn,Ko,Kp,Kq,Kr,Kt,Ku,Kv,Kw,Kx,Ky,Kz,Rg,Rh,Ri,Rj,Rk,Rl,Rm,Rp,Rq,Rt,Ru,Rx,Ry,Rz,Gc,Ge,Gf,Gg,Gh,Gi,Gj,Gm,Gn,Gp,Gq,Gt,Gu,Gv,Gx,Gy,Gz,Fe,Ff,Fg,Fh,Fi,Fj,Fk,Fm,Fo,Fp,Fq,Fs,Ft,Fu,Fv,Fw,Fx,Fy,Fz,Ec,Ee,Ef,Eg,Eh,Ei,Ej,Ek,Em,En,Eo,Ep,Eu,Ev,Ex,Ey,Ez,Da,Db,Dc,Dd,Dg,Dh,Di,Dj,Dk,Dl,Dm,Dn,Do,Dp,Dq,Dt,Du,Dv,Dw,Dx,Dy,Dz,Pa,Pb,Pc,Pe,Pf,Pg,Ph,Pi,Pj,Pk,Pm,Pn,Po,Pq,Ps,Pt,Pu,Pv,Pw,Px,Py,Pz,Na], []⟩ w := by
  conv => arg 2; whnf
  refine wp_loop (Inv_sel_loop w0 zx zb sx gT cT gW cW gK cK gH cH bits T u0 u1 u4 u9 Ja Jb Jc Jd Je Jf Jg Jh Ji Jj Jk Jl Jm Jn Xj Xk Xn Xo Xp Xq Xt Xu Xv Xx Xy Xz Yg Yh Yi Yj Yk Yl Ym Yn Yo Yp Yq Yr Ys Yt Yu Yv Yw Yx Yy Yz Ua Ub Uc Ud Ue Uf Ug Uh Ui Uj Uk Ul Um Un Uo Up Uq Ur Us Ut Uu Uv Uw Ux Uy Uz Wc Wd We Wf Wg Wh Wi Wj Wk Wl Wm Wn Wo Wp Wq Wt Wu Ww Wx Wy Wz Ka Kb Kc Kd Ke Kf Kg Kh Kj Kl Km Kn Ko Kp Kq Kr Kt Ku Kv Kw Kx Ky Kz Rg Rh Ri Rj Rk Rl Rm Rp Rq Rt Ru Rx Ry Rz Gc Ge Gf Gg Gh Gi Gj Gm Gn Gp Gq Gt Gu Gv Gx Gy Gz Fe Ff Fg Fh Fi Fj Fk Fm Fo Fp Fq Fs Ft Fu Fv Fw Fx Fy Fz Ec Ee Ef Eg Eh Ei Ej Ek Em En Eo Ep Eu Ev Ex Ey Ez Da Db Dc Dd Dg Dh Di Dj Dk Dl Dm Dn Do Dp Dq Dt Du Dv Dw Dx Dy Dz Pa Pb Pc Pe Pf Pg Ph Pi Pj Pk Pm Pn Po Pq Ps Pt Pu Pv Pw Px Py Pz Na) (mu_sel_loop (T.length)) ?_ (fun a' wr hI => ?_)
  · exact ⟨0, u5, u6, Jo, Jp, Jq, Jr, Js, Jt, Ju, Jv, Jw, Jx, Jy, Jz, Qa, Qb, Qc, Qd, Qe, Qf, Qg, Qh, Qi, Qj, Qk, Ql, Qm, Qn, Qo, Qp, Qq, Qr, Qs, Qt, Qu, Qv, Qw, Qx, Qy, Qz, Xe, Xg, Xh, Xi, Nat.zero_le _, h0, rfl⟩
  obtain ⟨i, s5, s6, s24, s25, s26, s27, s28, s29, s30, s31, s32, s33, s34, s35, s36, s37, s38, s39, s40, s41, s42, s43, s44, s45, s46, s47, s48, s49, s50, s51, s52, s53, s54, s55, s56, s57, s58, s59, s60, s61, s62, s63, s64, s65, hI⟩ := hI
  obtain ⟨hib, hR, rfl⟩ := hI
  clear h0
  obtain ⟨L, oA, oB, cA, cB, hL, hnd, hLl, rfl, rfl, hrA, hrB, hAB, hH, hT⟩ := hR
  have x1 : wr.cell? ⟨zx, 0, none⟩ = some (.pointer (some ⟨zb, 0, none⟩)) := (hT.cell (p := ⟨zx, 0, none⟩) (World.block_lt_of_cell? w0 _ hx) nx).trans hx
  have y1 : wr.cell? ⟨zb, 1, none⟩ = some (.slice oT T.length cT) := (hT.cell (p := ⟨zb, 1, none⟩) (World.block_lt_of_cell? w0 _ z1) nz).trans z1
  have y2 : wr.cell? ⟨zb, 2, none⟩ = some (.slice oW T.length cW) := (hT.cell (p := ⟨zb, 2, none⟩) (World.block_lt_of_cell? w0 _ z2) nz).trans z2
  have y4 : wr.cell? ⟨zb, 4, none⟩ = some (.slice oK T.length cK) := (hT.cell (p := ⟨zb, 4, none⟩) (World.block_lt_of_cell? w0 _ z4) nz).trans z4
  have y5 : wr.cell? ⟨sx, 4, none⟩ = some (.int .u64 bits) := (hT.cell (p := ⟨sx, 4, none⟩) (World.block_lt_of_cell? w0 _ s4) nsx).trans s4
  by_cases hil : i < T.length
  · obtain ⟨rfl, rfl, rfl⟩ := ho (by omega)
    obtain ⟨t, ht⟩ : ∃ t, T[i]? = some t := ⟨_, List.getElem?_eq_getElem hil⟩
    have e1 := hK i t ht
    have yk : wr.cell? ⟨gK, i, none⟩ = some (.bool t.known) := (hT.cell (p := ⟨gK, i, none⟩) (World.block_lt_of_cell? w0 _ e1) nk).trans e1
    have g0 : decide ((i : Int) < (T.length : Int)) = true := by simpa using hil
    have j1 : (i : Int) < (T.length : Int) := by omega
    have j0 : (0 : Int) ≤ (i : Int) := by omega
    have c3 : IntKind.i64.wrap ((i : Int) + 1) = (i : Int) + 1 := IntWalk.i64_in _ (by omega)
    have c6 : wrap64 ((i : Int) + 1) = (i : Int) + 1 := wrap_two i 1 (by unfold big; omega)
    have hstay : RA w0 gH gW T (i + 1) (.slice oA L.length cA) (.slice oB L.length cB) wr := ⟨L, oA, oB, cA, cB, fun j hj => ⟨Nat.lt_succ_of_lt (hL j hj).1, (hL j hj).2⟩, hnd, Nat.le_succ_of_le hLl, rfl, rfl, hrA, hrB, hAB, hH, hT⟩
    have A1 := Lib.hid hstay
    have A2 := Lib.hid hrA
    have A3 := Lib.hid hrB
    have A4 := Lib.hid hAB
    have A5 := Lib.hid hH
    have A6 := Lib.hid hT
    have A7 := Lib.hid hL
    have A8 := Lib.hid hnd
    clear hstay hrA hrB hAB hH hT hL hnd hK z1 z2 z4 s4 e1 hx
    cases hkn : t.known with
    | false =>
      rw [hkn] at yk
      go_wp2
      clear c3 c6
      refine ⟨⟨i + 1, _, _, _, _, _, _, _, _, _, _, _, _, _, _, _, _, _, _, _, _, _, _, _, _, _, _, _, _, _, _, _, _, _, _, _, _, _, _, _, _, _, _, _, _, by omega, A1.out, rfl⟩, ?_⟩
      simp [mu_sel_loop, intOf]
      omega
    | true =>
      rw [hkn] at yk
      refine wp_seq_k (fun K1 hK1 => ?_)
      have E1 := Lib.hid hK1
      clear hK1
      go_wp2_with fail
      refine E1.out _ _ ?_
      clear E1 K1
      refine wp_seq_k (fun K3 hK3 => ?_)
      have E3 := Lib.hid hK3
      clear hK3
      refine wp_block ?_
      refine wp_seq_k (fun K4 hK4 => ?_)
      have E4 := Lib.hid hK4
      clear hK4
      go_wp2_with fail
      refine E4.out _ _ ?_
      clear E4 K4
      refine wp_cond_split rfl (fun _ => ?_) (fun _ => ?_)
      · have hHc := held_at (L := L) hil
        have nA : (Value.slice oA L.length cA).ownBlock ≠ some gH := fun e => by have := (own_lt A2.out e).1; omega
        have nB : (Value.slice oB L.length cB).ownBlock ≠ some gH := fun e => by have := (own_lt A3.out e).1; omega
        refine sel_app wr w0.heap.size zx zb sx gW cW gH cH i L.length T.length cA cB oA oB _ _ x1 y2 hil hTl A2.out A3.out _ (cell_of_block A5.out hHc) (frozen_of_block A5.out) nA nB A6.out.size A4.out (by unfold big; omega) ?_
        intro _ _ _ _ _ _ _ _ _ _ _ _ _ _ _ _ _ gA kA gB kB w' hM
        refine E3.out _ _ ?_
        have hfin : RA w0 gH gW T (i + 1) (.slice (some ⟨gA, 0, none⟩) (L.length + 1) kA) (.slice (some ⟨gB, 0, none⟩) (L.length + 1) kB) w' := ra_more ht hkn hgl A7.out A8.out hLl A2.out A3.out A5.out A6.out hM
        have B1 := Lib.hid hfin
        clear hfin hM
        go_wp2
        clear c3 c6
        refine ⟨⟨i + 1, _, _, _, _, _, _, _, _, _, _, _, _, _, _, _, _, _, _, _, _, _, _, _, _, _, _, _, _, _, _, _, _, _, _, _, _, _, _, _, _, _, _, _, _, by omega, B1.out, rfl⟩, ?_⟩
        simp [mu_sel_loop, intOf]
        omega
      · go_wp2_with fail
        refine E3.out _ _ ?_
        go_wp2
        clear c3 c6
        refine ⟨⟨i + 1, _, _, _, _, _, _, _, _, _, _, _, _, _, _, _, _, _, _, _, _, _, _, _, _, _, _, _, _, _, _, _, _, _, _, _, _, _, _, _, _, _, _, _, _, by omega, A1.out, rfl⟩, ?_⟩
        simp [mu_sel_loop, intOf]
        omega
  · have hie : i = T.length := by omega
    subst hie
    have g0 : decide ((T.length : Int) < (T.length : Int)) = false := by simp
    have A1 := Lib.hid (show RA w0 gH gW T T.length (.slice oA L.length cA) (.slice oB L.length cB) wr from ⟨L, oA, oB, cA, cB, hL, hnd, hLl, rfl, rfl, hrA, hrB, hAB, hH, hT⟩)
    clear hrA hrB hAB hH hT hL hnd hK z1 z2 z4 s4 hx
    go_wp2
    exact A1.out

end Go.Proofs.YthbkklnahhdgcaaDoor.PlEa

namespace Go.Proofs.YthbkklnahhdgcaaDoor.PlEb
open Go Go.Proofs Go.RowKit Go.Maps Go.Proofs.YthbkklnahhdgcaaDoor.Lib HeapR HeapB HeapC HeapD HeapG HeapH ErrC ChA ChT ChCa ChCc ChE ChH ChI ChK ChL ChN ChO ChP ChR ChV ChW ChZ PlT PlZ PlU PlQ PlL PlLa PlLb PlLc PlLd PlE PlEa

def numOf (L : List Nat) : List Value := L.map fun j : Nat => .int .i64 ((j : Int) + 1)
/-- Behind L's numbers those of what is there and old. -/
def RO (w1 : World) (B0 : Nat) (v60 : Value) (L : List Nat) (T : List Th) (i : Nat) (v6 : Value) (wr : World) : Prop :=
  ∃ (M : List Nat) (oB : Option Addr) (cB n : Nat), (∀ j, j ∈ M ↔ j < i ∧ ∃ t, T[j]? = some t ∧ t.here = true ∧ t.old = true) ∧ M.length ≤ i ∧ n = (L ++ M).length ∧ v6 = .slice oB n cB ∧
    wr.ownsRow B0 3 1 v6 n (numOf (L ++ M)) ∧ Turned (fun k => v60.ownBlock = some k) w1 wr ∧ (∀ k, v6.ownBlock = some k → v60.ownBlock = some k ∨ w1.heap.size ≤ k)
theorem ro_stay {w1 wr : World} {B0 : Nat} {v60 v6 : Value} {L : List Nat} {T : List Th} {i : Nat} {t : Th} (ht : T[i]? = some t) (hn : ¬ (t.here = true ∧ t.old = true)) (h : RO w1 B0 v60 L T i v6 wr) : RO w1 B0 v60 L T (i + 1) v6 wr := by
  obtain ⟨M, oB, cB, n, h1, h2, h3⟩ := h
  refine ⟨M, oB, cB, n, fun j => (h1 j).trans ⟨fun h => ⟨Nat.lt_succ_of_lt h.1, h.2⟩, fun h => ⟨?_, h.2⟩⟩, Nat.le_succ_of_le h2, h3⟩
  obtain ⟨hj, u, hu, e1, e2⟩ := h
  by_cases e : j = i
  · subst e
    rw [ht] at hu
    cases hu
    exact absurd ⟨e1, e2⟩ hn
  · omega
theorem mem_more {T : List Th} {M : List Nat} {i : Nat} {t : Th} (ht : T[i]? = some t) (h1 : t.here = true) (h2 : t.old = true) (h : ∀ j, j ∈ M ↔ j < i ∧ ∃ t, T[j]? = some t ∧ t.here = true ∧ t.old = true) : ∀ j, j ∈ M ++ [i] ↔ j < i + 1 ∧ ∃ t, T[j]? = some t ∧ t.here = true ∧ t.old = true := fun j => by
  rw [List.mem_append, List.mem_singleton, h j]
  constructor
  · rintro (h | rfl)
    · exact ⟨Nat.lt_succ_of_lt h.1, h.2⟩
    · exact ⟨Nat.lt_succ_self _, t, ht, h1, h2⟩
  · rintro ⟨h3, h4⟩
    by_cases e : j = i
    · exact .inr e
    · exact .inl ⟨by omega, h4⟩

def Inv_old_loop (w1 : World) (B0 zx _zb _gT _cT _gE _cE : Nat) (v60 : Value) (L : List Nat) (T : List Th) (u0 u1 u3 u4 u5 u7 u8 u9 Jb Jc Jd Je Jf Jg Jh Ji Jj Jk Jl Jm Jn Jo Jp Jq Jr Js Jt Ju Jv Jw Jx Jy Jz Qa Qb Qc Qd Qe Qf Qg Qh Qi Qj Qk Ql Qm Qn Qo Qp Qq Qr Qs Qt Qu Qv Qw Qx Qy Qz Xe Xg Xh Xi Xj Xk Xn Xo Uf Ug Uh Ui Uj Uk Ul Um Un Uo Up Uq Ur Us Ut Uu Uv Uw Ux Uy Uz Wc Wd We Wf Wg Wh Wi Wj Wk Wl Wm Wn Wo Wp Wq Wt Wu Ww Wx Wy Wz Ka Kb Kc Kd Ke Kf Kg Kh Kj Kl Km Kn Ko Kp Kq Kr Kt Ku Kv Kw Kx Ky Kz Rg Rh Ri Rj Rk Rl Rm Rp Rq Rt Ru Rx Ry Rz Gc Ge Gf Gg Gh Gi Gj Gm Gn Gp Gq Gt Gu Gv Gx Gy Gz Fe Ff Fg Fh Fi Fj Fk Fm Fo Fp Fq Fs Ft Fu Fv Fw Fx Fy Fz Ec Ee Ef Eg Eh Ei Ej Ek Em En Eo Ep Eu Ev Ex Ey Ez Da Db Dc Dd Dg Dh Di Dj Dk Dl Dm Dn Do Dp Dq Dt Du Dv Dw Dx Dy Dz Pa Pb Pc Pe Pf Pg Ph Pi Pj Pk Pm Pn Po Pq Ps Pt Pu Pv Pw Px Py Pz Na : Value) (a : Act) (wr : World) : Prop :=
  ∃ (i : Nat) (s6 s70 s71 s72 s73 s74 s75 s76 s77 s78 s79 s80 s81 s82 s83 s84 s85 s86 s87 s88 s89 s90 s91 s92 s93 s94 s95 s96 s97 s98 s99 sBW sBX sBY : Value), i ≤ T.length ∧ (RO w1 B0 v60 L T i s6 wr) ∧ a = ⟨#[u0,u1,(.pointer (some ⟨zx,0,none⟩)),u3,u4,u5,s6,u7,u8,u9,(.int .i64 (i : Int)),Jb,Jc,Jd,Je,Jf,Jg,Jh,Ji,Jj,Jk,Jl,Jm,Jn,Jo,Jp,Jq,Jr,Js,Jt,Ju,Jv,Jw,Jx,Jy,Jz,Qa,Qb,Qc,Qd,Qe,Qf,Qg,Qh,Qi,Qj,Qk,Ql,Qm,Qn,Qo,Qp,Qq,Qr,Qs,Qt,Qu,Qv,Qw,Qx,Qy,Qz,Xe,Xg,Xh,Xi,Xj,Xk,Xn,Xo,s70,s71,s72,s73,s74,s75,s76,s77,s78,s79,s80,s81,s82,s83,s84,s85,s86,s87,s88,s89,s90,s91,s92,s93,s94,s95,s96,s97,s98,s99,sBW,sBX,sBY,Uf,Ug,Uh,Ui,Uj,Uk,Ul,Um,Un,Uo,Up,Uq,Ur,Us,Ut,Uu,Uv,Uw,Ux,Uy,Uz,Wc,Wd,We,Wf,Wg,Wh,Wi,Wj,Wk,Wl,Wm,Wn,Wo,Wp,Wq,Wt,Wu,Ww,Wx,Wy,Wz,Ka,Kb,Kc,Kd,Ke,Kf,Kg,Kh,Kj,Kl,Km,Kn,Ko,Kp,Kq,Kr,Kt,Ku,Kv,Kw,Kx,Ky,Kz,Rg,Rh,Ri,Rj,Rk,Rl,Rm,Rp,Rq,Rt,Ru,Rx,Ry,Rz,Gc,Ge,Gf,Gg,Gh,Gi,Gj,Gm,Gn,Gp,Gq,Gt,Gu,Gv,Gx,Gy,Gz,Fe,Ff,Fg,Fh,Fi,Fj,Fk,Fm,Fo,Fp,Fq,Fs,Ft,Fu,Fv,Fw,Fx,Fy,Fz,Ec,Ee,Ef,Eg,Eh,Ei,Ej,Ek,Em,En,Eo,Ep,Eu,Ev,Ex,Ey,Ez,Da,Db,Dc,Dd,Dg,Dh,Di,Dj,Dk,Dl,Dm,Dn,Do,Dp,Dq,Dt,Du,Dv,Dw,Dx,Dy,Dz,Pa,Pb,Pc,Pe,Pf,Pg,Ph,Pi,Pj,Pk,Pm,Pn,Po,Pq,Ps,Pt,Pu,Pv,Pw,Px,Py,Pz,Na], []⟩
def mu_old_loop (n : Nat) (a : Act) (_ : World) : Nat := n - (intOf (a.tmps.getD 10 undef)).toNat

theorem old_loop {Q : Exit → Act → World → Prop} {u0 u1 u3 u4 u5 u6 u7 u8 u9 Jb Jc Jd Je Jf Jg Jh Ji Jj Jk Jl Jm Jn Jo Jp Jq Jr Js Jt Ju Jv Jw Jx Jy Jz Qa Qb Qc Qd Qe Qf Qg Qh Qi Qj Qk Ql Qm Qn Qo Qp Qq Qr Qs Qt Qu Qv Qw Qx Qy Qz Xe Xg Xh Xi Xj Xk Xn Xo Xp Xq Xt Xu Xv Xx Xy Xz Yg Yh Yi Yj Yk Yl Ym Yn Yo Yp Yq Yr Ys Yt Yu Yv Yw Yx Yy Yz Ua Ub Uc Ud Ue Uf Ug Uh Ui Uj Uk Ul Um Un Uo Up Uq Ur Us Ut Uu Uv Uw Ux Uy Uz Wc Wd We Wf Wg Wh Wi Wj Wk Wl Wm Wn Wo Wp Wq Wt Wu Ww Wx Wy Wz Ka Kb Kc Kd Ke Kf Kg Kh Kj Kl Km Kn Ko Kp Kq Kr Kt Ku Kv Kw Kx Ky Kz Rg Rh Ri Rj Rk Rl Rm Rp Rq Rt Ru Rx Ry Rz Gc Ge Gf Gg Gh Gi Gj Gm Gn Gp Gq Gt Gu Gv Gx Gy Gz Fe Ff Fg Fh Fi Fj Fk Fm Fo Fp Fq Fs Ft Fu Fv Fw Fx Fy Fz Ec Ee Ef Eg Eh Ei Ej Ek Em En Eo Ep Eu Ev Ex Ey Ez Da Db Dc Dd Dg Dh Di Dj Dk Dl Dm Dn Do Dp Dq Dt Du Dv Dw Dx Dy Dz Pa Pb Pc Pe Pf Pg Ph Pi Pj Pk Pm Pn Po Pq Ps Pt Pu Pv Pw Px Py Pz Na : Value} (w1 : World) (B0 zx zb gT cT gE cE : Nat) (v60 : Value) (L : List Nat) (T : List Th) (w : World) (oT oE : Option Addr) (hoo : 0 < T.length → oT = some ⟨gT, 0, none⟩ ∧ oE = some ⟨gE, 0, none⟩) (hTl : T.length ≤ 1000) (hLl : L.length ≤ 1000) (hx : w1.cell? ⟨zx, 0, none⟩ = some (.pointer (some ⟨zb, 0, none⟩))) (z1 : w1.cell? ⟨zb, 1, none⟩ = some (.slice oT T.length cT)) (z3 : w1.cell? ⟨zb, 3, none⟩ = some (.slice oE T.length cE))
    (hE : ∀ (i : Nat) (t : Th), T[i]? = some t → w1.cell? ⟨gT, i, none⟩ = some (.pointer (some ⟨t.b, 0, none⟩)) ∧ w1.cell? ⟨t.b, 3, none⟩ = some (.bool t.old) ∧ w1.cell? ⟨gE, i, none⟩ = some (.bool t.here) ∧ v60.ownBlock ≠ some t.b) (nx : v60.ownBlock ≠ some zx) (nz : v60.ownBlock ≠ some zb) (nT : v60.ownBlock ≠ some gT) (nE : v60.ownBlock ≠ some gE) (hBz : B0 ≤ w1.heap.size)
    (h0 : RO w1 B0 v60 L T 0 u6 w)
    (hQ : ∀ (s6 s70 s71 s72 s73 s74 s75 s76 s77 s78 s79 s80 s81 s82 s83 s84 s85 s86 s87 s88 s89 s90 s91 s92 s93 s94 s95 s96 s97 s98 s99 sBW sBX sBY : Value) (w' : World), (RO w1 B0 v60 L T T.length s6 w') → Q (.exit 2) ⟨#[u0,u1,(.pointer (some ⟨zx,0,none⟩)),u3,u4,u5,s6,u7,u8,u9,(.int .i64 (T.length : Int)),Jb,Jc,Jd,Je,Jf,Jg,Jh,Ji,Jj,Jk,Jl,Jm,Jn,Jo,Jp,Jq,Jr,Js,Jt,Ju,Jv,Jw,Jx,Jy,Jz,Qa,Qb,Qc,Qd,Qe,Qf,Qg,Qh,Qi,Qj,Qk,Ql,Qm,Qn,Qo,Qp,Qq,Qr,Qs,Qt,Qu,Qv,Qw,Qx,Qy,Qz,Xe,Xg,Xh,Xi,Xj,Xk,Xn,Xo,s70,s71,s72,s73,s74,s75,s76,s77,s78,s79,s80,s81,s82,s83,s84,s85,s86,s87,s88,s89,s90,s91,s92,s93,s94,s95,s96,s97,s98,s99,sBW,sBX,sBY,Uf,Ug,Uh,Ui,Uj,Uk,Ul,Um,Un,Uo,Up,Uq,Ur,Us,Ut,Uu,Uv,Uw,Ux,Uy,Uz,Wc,Wd,We,Wf,Wg,Wh,Wi,Wj,Wk,Wl,Wm,Wn,Wo,Wp,Wq,Wt,Wu,Ww,Wx,Wy,Wz,Ka,Kb,Kc,Kd,Ke,Kf,Kg,Kh,Kj,Kl,Km,Kn,Ko,Kp,Kq,Kr,Kt,Ku,Kv,Kw,Kx,Ky,Kz,Rg,Rh,Ri,Rj,Rk,Rl,Rm,Rp,Rq,Rt,Ru,Rx,Ry,Rz,Gc,Ge,Gf,Gg,Gh,Gi,Gj,Gm,Gn,Gp,Gq,Gt,Gu,Gv,Gx,Gy,Gz,Fe,Ff,Fg,Fh,Fi,Fj,Fk,Fm,Fo,Fp,Fq,Fs,Ft,Fu,Fv,Fw,Fx,Fy,Fz,Ec,Ee,Ef,Eg,Eh,Ei,Ej,Ek,Em,En,Eo,Ep,Eu,Ev,Ex,Ey,Ez,Da,Db,Dc,Dd,Dg,Dh,Di,Dj,Dk,Dl,Dm,Dn,Do,Dp,Dq,Dt,Du,Dv,Dw,Dx,Dy,Dz,Pa,Pb,Pc,Pe,Pf,Pg,Ph,Pi,Pj,Pk,Pm,Pn,Po,Pq,Ps,Pt,Pu,Pv,Pw,Px,Py,Pz,Na], []⟩ w') :
    Code.wp Tryd.prog (Cut.piece Tryd.f73 (Cut.loop 12)) Q ⟨#[u0,u1,(.pointer (some ⟨zx,0,none⟩)),u3,u4,u5,u6,u7,u8,u9,(.int .i64 (0 : Int)),Jb,Jc,Jd,Je,Jf,Jg,Jh,Ji,Jj,Jk,Jl,Jm,Jn,Jo,Jp,Jq,Jr,Js,Jt,Ju,Jv,Jw,Jx,Jy,Jz,Qa,Qb,Qc,Qd,Qe,Qf,Qg,Qh,Qi,Qj,Qk,Ql,Qm,Qn,Qo,Qp,Qq,Qr,Qs,Qt,Qu,Qv,Qw,Qx,Qy,Qz,Xe,Xg,Xh,Xi,Xj,Xk,Xn,Xo,Xp,Xq,Xt,Xu,Xv,Xx,Xy,Xz,Yg,Yh,Yi,Yj,Yk,Yl,Ym,Yn,Yo,Yp,Yq,Yr,Ys,Yt,Yu,Yv,Yw,Yx,Yy,Yz,Ua,Ub,Uc,Ud,Ue,Uf,Ug,Uh,Ui,Uj,Uk,Ul,Um,Un,Uo,Up,Uq,Ur,Us,Ut,Uu,Uv,Uw,Ux,Uy,Uz,Wc,Wd,We,Wf,Wg,Wh,Wi,Wj,Wk,Wl,Wm,Wn,Wo,Wp,Wq,Wt,Wu,Ww,Wx,Wy,Wz,Ka,Kb,Kc,Kd,Ke,Kf,Kg,Kh,Kj,Kl,Km,Kn,Ko,Kp,Kq,Kr,Kt,Ku,Kv,Kw,Kx,Ky,Kz,Rg,Rh,Ri,Rj,Rk,Rl,Rm,Rp,Rq,Rt,Ru,Rx,Ry,Rz,Gc,Ge,Gf,Gg,Gh,Gi,Gj,Gm,Gn,Gp,Gq,Gt,Gu,Gv,Gx,Gy,Gz,Fe,Ff,Fg,Fh,Fi,Fj,Fk,Fm,Fo,Fp,Fq,Fs,Ft,Fu,Fv,Fw,Fx,Fy,Fz,Ec,Ee,Ef,Eg,Eh,Ei,Ej,Ek,Em,En,Eo,Ep,Eu,Ev,Ex,Ey,Ez,Da,Db,Dc,Dd,Dg,Dh,Di,Dj,Dk,Dl,Dm,Dn,Do,Dp,Dq,Dt,Du,Dv,Dw,Dx,Dy,Dz,Pa,Pb,Pc,Pe,Pf,Pg,Ph,Pi,Pj,Pk,Pm,Pn,Po,Pq,Ps,Pt,Pu,Pv,Pw,Px,Py,Pz,Na], []⟩ w := by
  conv => arg 2; whnf
  refine wp_loop (Inv_old_loop w1 B0 zx zb gT cT gE cE v60 L T u0 u1 u3 u4 u5 u7 u8 u9 Jb Jc Jd Je Jf Jg Jh Ji Jj Jk Jl Jm Jn Jo Jp Jq Jr Js Jt Ju Jv Jw Jx Jy Jz Qa Qb Qc Qd Qe Qf Qg Qh Qi Qj Qk Ql Qm Qn Qo Qp Qq Qr Qs Qt Qu Qv Qw Qx Qy Qz Xe Xg Xh Xi Xj Xk Xn Xo Uf Ug Uh Ui Uj Uk Ul Um Un Uo Up Uq Ur Us Ut Uu Uv Uw Ux Uy Uz Wc Wd We Wf Wg Wh Wi Wj Wk Wl Wm Wn Wo Wp Wq Wt Wu Ww Wx Wy Wz Ka Kb Kc Kd Ke Kf Kg Kh Kj Kl Km Kn Ko Kp Kq Kr Kt Ku Kv Kw Kx Ky Kz Rg Rh Ri Rj Rk Rl Rm Rp Rq Rt Ru Rx Ry Rz Gc Ge Gf Gg Gh Gi Gj Gm Gn Gp Gq Gt Gu Gv Gx Gy Gz Fe Ff Fg Fh Fi Fj Fk Fm Fo Fp Fq Fs Ft Fu Fv Fw Fx Fy Fz Ec Ee Ef Eg Eh Ei Ej Ek Em En Eo Ep Eu Ev Ex Ey Ez Da Db Dc Dd Dg Dh Di Dj Dk Dl Dm Dn Do Dp Dq Dt Du Dv Dw Dx Dy Dz Pa Pb Pc Pe Pf Pg Ph Pi Pj Pk Pm Pn Po Pq Ps Pt Pu Pv Pw Px Py Pz Na) (mu_old_loop (T.length)) ?_ (fun a' wr hI => ?_)
  · exact ⟨0, u6, Xp, Xq, Xt, Xu, Xv, Xx, Xy, Xz, Yg, Yh, Yi, Yj, Yk, Yl, Ym, Yn, Yo, Yp, Yq, Yr, Ys, Yt, Yu, Yv, Yw, Yx, Yy, Yz, Ua, Ub, Uc, Ud, Ue, Nat.zero_le _, h0, rfl⟩
  obtain ⟨i, s6, s70, s71, s72, s73, s74, s75, s76, s77, s78, s79, s80, s81, s82, s83, s84, s85, s86, s87, s88, s89, s90, s91, s92, s93, s94, s95, s96, s97, s98, s99, sBW, sBX, sBY, hI⟩ := hI
  obtain ⟨hib, hR, rfl⟩ := hI
  clear h0
  have hR0 := Lib.hid hR
  obtain ⟨M, oB, cB, n, hM, hMl, hn, rfl, hrB, hT, hat⟩ := hR
  have hnl : n ≤ 2000 := by rw [hn, List.length_append]; omega
  have hn' := Lib.hid hn
  clear hn
  have x1 : wr.cell? ⟨zx, 0, none⟩ = some (.pointer (some ⟨zb, 0, none⟩)) := (hT.cell (p := ⟨zx, 0, none⟩) (World.block_lt_of_cell? w1 _ hx) nx).trans hx
  have y1 : wr.cell? ⟨zb, 1, none⟩ = some (.slice oT T.length cT) := (hT.cell (p := ⟨zb, 1, none⟩) (World.block_lt_of_cell? w1 _ z1) nz).trans z1
  have y3 : wr.cell? ⟨zb, 3, none⟩ = some (.slice oE T.length cE) := (hT.cell (p := ⟨zb, 3, none⟩) (World.block_lt_of_cell? w1 _ z3) nz).trans z3
  by_cases hil : i < T.length
  · obtain ⟨rfl, rfl⟩ := hoo (by omega)
    obtain ⟨t, ht⟩ : ∃ t, T[i]? = some t := ⟨_, List.getElem?_eq_getElem hil⟩
    obtain ⟨e1, e2, e3, e4⟩ := hE i t ht
    have t1 : wr.cell? ⟨gT, i, none⟩ = some (.pointer (some ⟨t.b, 0, none⟩)) := (hT.cell (p := ⟨gT, i, none⟩) (World.block_lt_of_cell? w1 _ e1) nT).trans e1
    have t2 : wr.cell? ⟨t.b, 3, none⟩ = some (.bool t.old) := (hT.cell (p := ⟨t.b, 3, none⟩) (World.block_lt_of_cell? w1 _ e2) e4).trans e2
    have t3 : wr.cell? ⟨gE, i, none⟩ = some (.bool t.here) := (hT.cell (p := ⟨gE, i, none⟩) (World.block_lt_of_cell? w1 _ e3) nE).trans e3
    have g0 : decide ((i : Int) < (T.length : Int)) = true := by simpa using hil
    have j1 : (i : Int) < (T.length : Int) := by omega
    have j0 : (0 : Int) ≤ (i : Int) := by omega
    have c3 : IntKind.i64.wrap ((i : Int) + 1) = (i : Int) + 1 := IntWalk.i64_in _ (by omega)
    have c6 : wrap64 ((i : Int) + 1) = (i : Int) + 1 := wrap_two i 1 (by unfold big; omega)
    have A1 := Lib.hid hM
    have A2 := Lib.hid hT
    have A3 := Lib.hid hat
    clear hM hT hat hE z1 z3 e1 e2 e3 e4 hx
    cases hh : t.here with
    | false =>
      rw [hh] at t3
      have B1 := Lib.hid (ro_stay ht (fun h => by rw [hh] at h; exact absurd h.1 (by decide)) hR0.out)
      clear hrB t1 t2
      go_wp2
      clear c3 c6
      refine ⟨⟨i + 1, _, _, _, _, _, _, _, _, _, _, _, _, _, _, _, _, _, _, _, _, _, _, _, _, _, _, _, _, _, _, _, _, _, _, by omega, B1.out, rfl⟩, ?_⟩
      simp [mu_old_loop, intOf]
      omega
    | true =>
      rw [hh] at t3
      cases ho : t.old with
      | false =>
        rw [ho] at t2
        have B1 := Lib.hid (ro_stay ht (fun h => by rw [ho] at h; exact absurd h.2 (by decide)) hR0.out)
        clear hrB
        go_wp2
        clear c3 c6
        refine ⟨⟨i + 1, _, _, _, _, _, _, _, _, _, _, _, _, _, _, _, _, _, _, _, _, _, _, _, _, _, _, _, _, _, _, _, _, _, _, by omega, B1.out, rfl⟩, ?_⟩
        simp [mu_old_loop, intOf]
        omega
      | true =>
        rw [ho] at t2
        obtain ⟨iB, hiB, hB0, hB1, hB2⟩ := info_parts (P := Tryd.prog) (e := 3) (by kernel_rfl : (Tryd.prog.info? 3).map (fun i => (i.zero, i.size, i.bytes)) = some (some (.int .i64 0), 1, 8))
        have mA : n + 1 ≤ maxLen := by unfold maxLen; omega
        have nA : (n + 1) * 8 ≤ 140737488355328 := by omega
        have hBl := Nat.le_trans hBz A2.out.size
        have hNB := heap_alloc_last wr (.cells #[.int .i64 ((i : Int) + 1)] 3 (0, 0))
        have hrB1 := hrB.alloc (.cells #[.int .i64 ((i : Int) + 1)] 3 (0, 0))
        have A4 := Lib.hid hNB
        have A5 := Lib.hid hR0
        clear hNB hR0
        go_wp2_with (at_builtin; go_loud (refine wpList_append_lies _ rfl _ _ 52 rfl B0 3 iB (.int .i64 0) 1 8 Tryd.underlying52 hiB hB0 hB1 hB2 rfl (by decide) (Value.slice oB n cB) n (numOf (L ++ M)) rfl hrB1 ⟨wr.heap.size, 0, none⟩ 1 1 [.int .i64 ((i : Int) + 1)] rfl rfl ?d1 ?d2 (by decide) mA nA ?d5 _ rfl ?grow2))
        case d2 => first | rfl | (intro u hu; simp only [List.mem_cons, List.not_mem_nil, or_false] at hu; subst hu; rfl)
        case d5 => first | omega | (simp; omega)
        case grow2 =>
          intro gB kB w4 hrn hg hat2 hlt
          have hsz := A2.out.size
          have hT4 := ((A2.out.alloc (.cells #[.int .i64 ((i : Int) + 1)] 3 (0, 0))).grown hg (fun k hk => A3.out k hk))
          have hfin : RO w1 B0 v60 L T (i + 1) (.slice (some ⟨gB, 0, none⟩) (n + 1) kB) w4 := by
            have el : n + 1 = (L ++ (M ++ [i])).length := by rw [hn'.out]; simp [Nat.add_assoc]
            have en : numOf (L ++ (M ++ [i])) = numOf (L ++ M) ++ [.int .i64 ((i : Int) + 1)] := by simp [numOf]
            refine ⟨M ++ [i], some ⟨gB, 0, none⟩, kB, n + 1, mem_more ht hh ho A1.out, by simp; omega, el, rfl, by rw [en]; exact hrn, hT4, fun k hk => ?_⟩
            have e : gB = k := Option.some.inj hk
            rcases hat2 with h | h
            · exact A3.out k (e ▸ h)
            · right
              have h3 : gB = wr.heap.size + 1 := by simpa using h
              omega
          have B1 := Lib.hid hfin
          clear hfin hrn hg hat2 hlt hT4 hrB hrB1 nA mA hiB hB0 hB1 hB2
          go_wp2
          clear c3 c6
          refine ⟨⟨i + 1, _, _, _, _, _, _, _, _, _, _, _, _, _, _, _, _, _, _, _, _, _, _, _, _, _, _, _, _, _, _, _, _, _, _, by omega, B1.out, rfl⟩, ?_⟩
          simp [mu_old_loop, intOf]
          omega
  · have hie : i = T.length := by omega
    subst hie
    have g0 : decide ((T.length : Int) < (T.length : Int)) = false := by simp
    clear hrB hT hE z1 z3 hx hM hat
    go_wp2
    exact hR0.out

end Go.Proofs.YthbkklnahhdgcaaDoor.PlEb

namespace Go.Proofs.YthbkklnahhdgcaaDoor.PlGa
open Go Go.Proofs Go.RowKit Go.Maps Go.Proofs.YthbkklnahhdgcaaDoor.Lib HeapR HeapG ErrC ChA ChT ChCa ChCc ChE ChH ChJ ChL ChN ChO ChQ ChR ChU ChX ChYf ChZ PlT PlZ PlX PlYa PlL PlLd PlG

variable {w w' : World} {O : Nat → Nat} {B : Nat} {V : Zv} {H H' : HS} {nu ol : List Ob} {T T' : List Th} {Z Z' : Zn} {loc : Nat → Ob}
def rsOf (gW : Nat) (L : List Nat) : List (Nat × Nat) := L.map fun j => (gW, j * 3)
def fOf (T : List Th) (a : Nat × Nat) : Vl := match T[a.2 / 3]? with
  | some t => t.wv
  | none => nilV
theorem fOf_at {j g : Nat} {t : Th} (h : T[j]? = some t) : fOf T (g, j * 3) = t.wv := by
  unfold fOf
  rw [show j * 3 / 3 = j by omega, h]
theorem rs_mem {gW : Nat} {L : List Nat} {a : Nat × Nat} : a ∈ rsOf gW L ↔ ∃ j ∈ L, a = (gW, j * 3) := by
  unfold rsOf
  rw [List.mem_map]
  exact ⟨fun ⟨j, h, e⟩ => ⟨j, h, e.symm⟩, fun ⟨j, h, e⟩ => ⟨j, h, e.symm⟩⟩

theorem wcell (h : ZR w O B V H T Z) {gW n cW : Nat} (hv : V.wv = .slice (some ⟨gW, 0, none⟩) n cW) {j r : Nat} {t : Th} (ht : T[j]? = some t) (hr : r < 3) : w.cell? ⟨gW, j * 3 + r, none⟩ = (vlVals t.wv)[r]? := by
  have hj := (List.getElem?_eq_some_iff.1 ht).1
  have h2 := h.wher
  rw [hv] at h2
  have hn : T.length = n := by
    rcases h2.2 with ⟨e, _⟩ | ⟨_, _, _, e, _⟩
    · cases e
    · injection e with _ e2 _
      exact e2.symm
  subst hn
  rw [h2.cellAt (j * 3 + r) (by omega), wVals_get ht hr]
theorem wblk (h : ZR w O B V H T Z) {gW n cW : Nat} (hv : V.wv = .slice (some ⟨gW, 0, none⟩) n cW) : n = T.length ∧ ∃ c, w.heap[gW]? = some (.cells c 28 (0, 0)) ∧ B ≤ gW ∧ n ≤ cW ∧ cW ≤ maxLen ∧ c.size = cW * 3 ∧ c.toList.take (n * 3) = wVals T := by
  have h2 := h.wher
  rw [hv] at h2
  rcases h2.2 with ⟨e, _⟩ | ⟨g, cap, cur, e, h3, h4, h5, h6, h7, h8⟩
  · cases e
  · injection e with e1 e2 e3
    injection e1 with e1
    injection e1 with e1 _ _
    subst e1
    subst e2
    subst e3
    exact ⟨rfl, cur, h4, h3, h5, h6, h7, h8⟩

/-- The roots that collects takes. -/
theorem zoo_roots (h : ZR w O B V H T Z) {gW cW : Nat} (hv : 0 < T.length → V.wv = .slice (some ⟨gW, 0, none⟩) T.length cW) {L : List Nat} (hL : ∀ j ∈ L, ∃ t, T[j]? = some t) (hLl : L.length ≤ big) {B0 : Nat} {oA : Option Addr} {cA : Nat}
    (hrow : w.ownsRow B0 208 1 (.slice oA L.length cA) L.length (L.map fun j => .pointer (some ⟨gW, j * 3, none⟩))) (hown : ∀ k, (Value.slice oA L.length cA).ownBlock = some k → ¬ V.heap k ∧ (0 < T.length → k ≠ gW)) :
    RootsAt w (Owns V.hb V.nb V.mb V.ov V.rv) (.slice oA L.length cA) (rsOf gW L) (fOf T) := by
  have pos : ∀ j ∈ L, 0 < T.length := fun j hj => by
    obtain ⟨t, ht⟩ := hL j hj
    have := (List.getElem?_eq_some_iff.1 ht).1
    omega
  have hl : (rsOf gW L).length = L.length := by simp [rsOf]
  refine {
    cell := fun a ha => ?_
    out := fun a ha ho => ?_
    blk := fun a ha => ?_
    apart := fun a ha b hb => ?_
    len := by rw [hl]; exact hLl
    list := ?_ }
  · obtain ⟨j, hj, rfl⟩ := rs_mem.1 ha
    obtain ⟨t, ht⟩ := hL j hj
    rw [fOf_at ht]
    obtain ⟨hn, c, hc, _⟩ := wblk h (hv (pos j hj))
    exact ⟨wcell h (hv (pos j hj)) (r := 0) ht (by omega), wcell h (hv (pos j hj)) (r := 1) ht (by omega), wcell h (hv (pos j hj)) (r := 2) ht (by omega), frozen_of_block hc⟩
  · obtain ⟨j, hj, rfl⟩ := rs_mem.1 ha
    have h1 := h.o0 gW ho
    have h2 := h.o3 gW (by rw [hv (pos j hj)]; rfl)
    omega
  · obtain ⟨j, hj, rfl⟩ := rs_mem.1 ha
    obtain ⟨hn, c, hc, _⟩ := wblk h (hv (pos j hj))
    exact ⟨c, _, hc⟩
  · obtain ⟨j, _, rfl⟩ := rs_mem.1 ha
    obtain ⟨i, _, rfl⟩ := rs_mem.1 hb
    by_cases e : j = i
    · exact .inl (by rw [e])
    · exact .inr (.inr (by simp only; omega))
  · rcases hrow.2 with ⟨e, h0⟩ | ⟨g, cap, cur, e, h3, h4, _⟩
    · refine ⟨oA, 0, 0, cA, by rw [hl], fun i a hi => ?_⟩
      have := (List.getElem?_eq_some_iff.1 hi).1
      omega
    · injection e with e1 e2 e3
      subst e1
      subst e3
      refine ⟨_, g, 0, cA, by rw [hl], fun i a hi => ⟨rfl, ?_, (hown g rfl).1, fun b hb => ?_⟩⟩
      · have hi' := (List.getElem?_eq_some_iff.1 hi).1
        unfold rsOf at hi
        rw [List.getElem?_map] at hi
        obtain ⟨j, hj, e⟩ := Option.map_eq_some_iff.1 hi
        subst e
        rw [Nat.zero_add, hrow.cellAt i (by omega), List.getElem?_map, hj]
        rfl
      · obtain ⟨j, hj, rfl⟩ := rs_mem.1 hb
        exact fun e => (hown g rfl).2 (pos j hj) e.symm

/-- The roots' values moved. -/
def movedT (L : List Nat) (mvv : Vl → Vl) (T : List Th) : List Th := T.mapIdx fun i t => if i ∈ L then { t with wv := mvv t.wv } else t
theorem movedT_length {L : List Nat} {mvv : Vl → Vl} : (movedT L mvv T).length = T.length := by simp [movedT]
theorem movedT_get {L : List Nat} {mvv : Vl → Vl} {i : Nat} {t : Th} (h : T[i]? = some t) : (movedT L mvv T)[i]? = some (if i ∈ L then { t with wv := mvv t.wv } else t) := by
  unfold movedT
  rw [List.getElem?_mapIdx, h]
  rfl
theorem movedT_of {L : List Nat} {mvv : Vl → Vl} {i : Nat} {t' : Th} (h : (movedT L mvv T)[i]? = some t') : ∃ t, T[i]? = some t ∧ t' = if i ∈ L then { t with wv := mvv t.wv } else t := by
  have hi := (List.getElem?_eq_some_iff.1 h).1
  rw [movedT_length] at hi
  obtain ⟨t, ht⟩ : ∃ t, T[i]? = some t := ⟨_, List.getElem?_eq_getElem hi⟩
  rw [movedT_get ht] at h
  exact ⟨t, ht, (Option.some.inj h).symm⟩
theorem movedT_map {α : Type} {L : List Nat} {mvv : Vl → Vl} (f : Th → α) (hf : ∀ t, f { t with wv := mvv t.wv } = f t) : (movedT L mvv T).map f = T.map f := by
  apply List.ext_getElem?
  intro i
  rw [List.getElem?_map, List.getElem?_map]
  cases ht : T[i]? with
  | none =>
    have h7 : (movedT L mvv T)[i]? = none := List.getElem?_eq_none (by rw [movedT_length]; exact List.getElem?_eq_none_iff.1 ht)
    rw [h7]
  | some t =>
    rw [movedT_get ht]
    by_cases e : i ∈ L
    · rw [if_pos e]
      exact congrArg some (hf t)
    · rw [if_neg e]

/-- The zoo behind a collection. -/
theorem zr_moved (h : ZR w O B V H T Z) {gW cW mb' : Nat} (hv : 0 < T.length → V.wv = .slice (some ⟨gW, 0, none⟩) T.length cW) {L : List Nat} (hL : ∀ j ∈ L, ∃ t, T[j]? = some t) (mvv : Vl → Vl) {ov' rv' : Value} (hr : HR w' V.hb V.nb mb' ov' rv' B H') (hT : Turned (fun k => V.heap k ∨ ∃ a ∈ rsOf gW L, a.1 = k) w w')
    (hown : ∀ k, Owns V.hb V.nb mb' ov' rv' k → V.heap k ∨ w.heap.size ≤ k) (hcells : ∀ j ∈ L, ∀ t, T[j]? = some t → ∀ r, r < 3 → w'.cell? ⟨gW, j * 3 + r, none⟩ = (vlVals (mvv t.wv))[r]?)
    (hsize : ∀ a ∈ rsOf gW L, ∃ c c' t, w.heap[a.1]? = some (.cells c t (0, 0)) ∧ w'.heap[a.1]? = some (.cells c' t (0, 0)) ∧ SameBut (rsOf gW L) a.1 c' c) :
    ZR w' (fun k => if w.heap.size ≤ k then 0 else O k) B { V with mb := mb', ov := ov', rv := rv' } H' (movedT L mvv T) Z := by
  have pos : ∀ j ∈ L, 0 < T.length := fun j hj => by
    obtain ⟨t, ht⟩ := hL j hj
    have := (List.getElem?_eq_some_iff.1 ht).1
    omega
  have og : 0 < T.length → O gW = 3 := fun h0 => h.o3 gW (by rw [hv h0]; rfl)
  have keep : ∀ k, k < w.heap.size → O k ≠ 0 → O k ≠ 3 → w'.heap[k]? = w.heap[k]? := fun k hk h0 h3 => hT.block k hk (fun hh => by
    rcases hh with hh | ⟨a, ha, e⟩
    · exact h0 (h.o0 k hh)
    · obtain ⟨j, hj, rfl⟩ := rs_mem.1 ha
      have e' : gW = k := e
      rw [← e'] at h3
      exact h3 (og (pos j hj)))
  have low : ∀ k, k < w.heap.size → (if w.heap.size ≤ k then 0 else O k) = O k := fun k hk => if_neg (by omega)
  have hwr : w'.ownsRow B 28 3 V.wv (movedT L mvv T).length (wVals (movedT L mvv T)) := by
    rcases Nat.eq_zero_or_pos T.length with h0 | h0
    · have eT : T = [] := List.length_eq_zero_iff.1 h0
      have h2 := h.wher
      subst eT
      exact ownsRow_same h2 fun k hk => hT.block k (own_lt h2 hk).2 (fun hh => by
        rcases hh with hh | ⟨a, ha, _⟩
        · have := h.o0 k hh
          have := h.o3 k hk
          omega
        · obtain ⟨j, hj, rfl⟩ := rs_mem.1 ha
          have := pos j hj
          simp at this)
    · obtain ⟨_, c, hc, hBg, hncW, hcm, hcs, htk⟩ := wblk h (hv h0)
      obtain ⟨c', hc', hsb⟩ : ∃ c', w'.heap[gW]? = some (.cells c' 28 (0, 0)) ∧ SameBut (rsOf gW L) gW c' c := by
        cases L with
        | nil => exact ⟨c, (hT.block gW (lt_of_block hc) (fun hh => by
            rcases hh with hh | ⟨a, ha, _⟩
            · have := h.o0 gW hh
              have := og h0
              omega
            · cases ha)).trans hc, rfl, fun _ _ => rfl⟩
        | cons j L =>
          obtain ⟨c1, c2, t, e1, e2, e3⟩ := hsize (gW, j * 3) (rs_mem.2 ⟨j, List.mem_cons_self .., rfl⟩)
          have e1' : w.heap[gW]? = some (.cells c1 t (0, 0)) := e1
          rw [hc] at e1'
          have e4 := Option.some.inj e1'
          injection e4 with e5 e6 _
          subst e5
          subst e6
          exact ⟨c2, e2, e3⟩
      rw [movedT_length]
      refine ⟨by rw [wVals_length, movedT_length], .inr ⟨gW, cW, c', hv h0, hBg, hc', by omega, hcm, by rw [hsb.1, hcs], ?_⟩⟩
      apply List.ext_getElem?
      intro m
      rw [List.getElem?_take]
      by_cases hm : m < T.length * 3
      · rw [if_pos hm]
        obtain ⟨t, ht⟩ : ∃ t, T[m / 3]? = some t := ⟨_, List.getElem?_eq_getElem (by omega)⟩
        have hm3 : m / 3 * 3 + m % 3 = m := by omega
        have h1 := wVals_get (movedT_get (L := L) (mvv := mvv) ht) (j := m % 3) (by omega)
        rw [hm3] at h1
        rw [h1]
        by_cases e : m / 3 ∈ L
        · rw [if_pos e]
          have h2 := hcells (m / 3) e t ht (m % 3) (by omega)
          rw [hm3, cell_of_row w' gW m c' _ (0, 0) hc'] at h2
          rw [Array.getElem?_toList]
          exact h2
        · rw [if_neg e, Array.getElem?_toList, hsb.2 m (fun b hb _ => by
            obtain ⟨j, hj, rfl⟩ := rs_mem.1 hb
            intro e2
            have e3 : m = j * 3 + 1 := e2
            have e4 : m / 3 = j := by omega
            exact e (e4 ▸ hj))]
          have h3 := wVals_get ht (j := m % 3) (by omega)
          rw [hm3, ← htk, List.getElem?_take, if_pos hm, Array.getElem?_toList] at h3
          exact h3
      · rw [if_neg hm]
        refine (List.getElem?_eq_none ?_).symm
        rw [wVals_length, movedT_length]
        omega
  have o1 := h.o1
  exact {
    blk := (keep _ h.zlt (by omega) (by omega)).trans h.blk
    hr := hr
    things := by
      rw [movedT_length, movedT_map Th.ptr (fun _ => rfl)]
      exact ownsRow_same h.things fun k hk => by
        have := h.o2 k hk
        exact keep k (own_lt h.things hk).2 (by omega) (by omega)
    wher := hwr
    here := by
      rw [movedT_length, movedT_map (fun t : Th => Value.bool t.here) (fun _ => rfl)]
      exact ownsRow_same h.here fun k hk => by
        have := h.o4 k hk
        exact keep k (own_lt h.here hk).2 (by omega) (by omega)
    known := by
      rw [movedT_length, movedT_map (fun t : Th => Value.bool t.known) (fun _ => rfl)]
      exact ownsRow_same h.known fun k hk => by
        have := h.o5 k hk
        exact keep k (own_lt h.known hk).2 (by omega) (by omega)
    thing := fun t' ht' => by
      obtain ⟨i, hi⟩ := List.getElem?_of_mem ht'
      obtain ⟨t, ht, rfl⟩ := movedT_of hi
      have hm := List.mem_of_getElem? ht
      obtain ⟨q1, q2, q3⟩ := h.ot i t ht
      have h1 : w'.heap[t.b]? = some (.cells t.block 186 (0, 0)) := (keep _ (h.tlt hm) (by omega) (by omega)).trans (h.thing t hm).1
      have h2 : w'.ownsRow B 3 1 t.iv t.is.length (t.is.map (Value.int .i64)) := ownsRow_same (h.thing t hm).2 fun k hk => by
        have := q3 k hk
        exact keep k (own_lt (h.thing t hm).2 hk).2 (by omega) (by omega)
      by_cases e : i ∈ L
      · rw [if_pos e]
        exact ⟨h1, h2⟩
      · rw [if_neg e]
        exact ⟨h1, h2⟩
    o0 := fun k hk => by
      rcases hown k hk with h1 | h1
      · rw [low k (h.hr.lt h1)]
        exact h.o0 k h1
      · exact if_pos h1
    o1 := (low _ h.zlt).trans h.o1
    o2 := fun k hk => (low k (own_lt h.things hk).2).trans (h.o2 k hk)
    o3 := fun k hk => (low k (own_lt h.wher hk).2).trans (h.o3 k hk)
    o4 := fun k hk => (low k (own_lt h.here hk).2).trans (h.o4 k hk)
    o5 := fun k hk => (low k (own_lt h.known hk).2).trans (h.o5 k hk)
    ot := fun i t' hi => by
      obtain ⟨t, ht, rfl⟩ := movedT_of hi
      have hm := List.mem_of_getElem? ht
      obtain ⟨q1, q2, q3⟩ := h.ot i t ht
      have r1 := (low _ (h.tlt hm)).trans q1
      have r3 : ∀ k, t.iv.ownBlock = some k → (if w.heap.size ≤ k then 0 else O k) = 2 * i + 7 := fun k hk => (low k (own_lt (h.thing t hm).2 hk).2).trans (q3 k hk)
      by_cases e : i ∈ L
      · rw [if_pos e]
        exact ⟨r1, q2, r3⟩
      · rw [if_neg e]
        exact ⟨r1, q2, r3⟩
    low := h.low
    et := (World.cell?_of_block (a := ⟨1, 0, none⟩) (hT.block _ h.etlt (fun hh => by
      have hel : 1 < B := h.el
      rcases hh with hh | ⟨a, ha, e⟩
      · have h9 : B ≤ 1 := h.hr.ge hh
        omega
      · obtain ⟨j, hj, rfl⟩ := rs_mem.1 ha
        have e' : gW = 1 := e
        have := (wblk h (hv (pos j hj))).2.choose_spec.2.1
        omega))).trans h.et
    el := h.el }

/-! ### what is kept -/
variable {kept L : List Ob} {from_ : Int → Bool} {z : Nat}
theorem kept_closed (hK : Kept H nu ol from_ L kept z) : ∀ o ∈ nu ++ ol, o ∈ kept ++ L → ∀ v ∈ o.fs, v.k = 4 → ∀ x ∈ nu ++ ol, v.n = (x.addr : Int) → x ∈ kept ++ L := fun o _ hS v hv hk x hx hn => by
  by_cases hf : from_ (x.addr : Int) = true
  · have h1 := hK.closed o hS v hv hk (by rw [hn]; exact hf)
    rw [hn, Int.toNat_natCast] at h1
    exact List.mem_append.mpr (Or.inr (hK.of_has hx h1))
  · exact List.mem_append.mpr (Or.inl (hK.rest x hx (by simpa using hf)))
theorem kept_root (hK : Kept H nu ol from_ L kept z) {x : Ob} (hx : x ∈ nu ++ ol) (h : from_ (x.addr : Int) = true → has L x.addr) : x ∈ kept ++ L := by
  by_cases hf : from_ (x.addr : Int) = true
  · exact List.mem_append.mpr (Or.inr (hK.of_has hx (h hf)))
  · exact List.mem_append.mpr (Or.inl (hK.rest x hx (by simpa using hf)))
/-- What Lead starts from. -/
def numsOf (K : List Nat) : List Int := K.map fun j : Nat => (j : Int) + 1
theorem nums_mem {K : List Nat} {a : Nat} : (a : Int) + 1 ∈ numsOf K ↔ a ∈ K := by
  unfold numsOf
  rw [List.mem_map]
  constructor
  · rintro ⟨j, hj, e⟩
    have : j = a := by omega
    exact this ▸ hj
  · exact fun h => ⟨a, h, rfl⟩
theorem nums_fit {K : List Nat} (h : ∀ j ∈ K, ∃ t, T[j]? = some t ∧ t.here = true) : ∀ x ∈ numsOf K, Fit T x := fun x hx => by
  obtain ⟨j, hj, rfl⟩ := List.mem_map.mp hx
  obtain ⟨t, ht, hh⟩ := h j hj
  exact .inr ⟨j, t, rfl, ht, hh⟩

theorem minor_iff (hz : ZI H nu ol T Z loc) {K M : List Nat} (hK : ∀ j ∈ K, ∃ t, T[j]? = some t ∧ t.known = true) (hM : ∀ j, j ∈ M ↔ j < T.length ∧ ∃ t, T[j]? = some t ∧ t.here = true ∧ t.old = true) {s : List Int} (hL : Led T (numsOf (K ++ M)) [] s) {gW : Nat} {hb nb mb : Nat} {ov rv tv : Value}
    (hD : MinorDone w hb nb mb ov rv B H nu ol (rsOf gW K) (fOf T) w' tv H' L) : Coll H H' nu ol ol L (minFrom H) (H.room + total ol) ∧ ∀ (i : Nat) (t : Th), T[i]? = some t → t.here = true → ((i : Int) ∈ s ↔ loc i ∈ ol ++ L) := by
  have hC : Coll H H' nu ol ol L (minFrom H) (H.room + total ol) := ⟨hD.kept, hD.hi, hD.room, hD.most, hD.next⟩
  refine ⟨hC, ?_⟩
  have hkn : ∀ j ∈ K, ∃ t, T[j]? = some t ∧ t.here = true ∧ t.wv = refV (loc j) := fun j hj => by
    obtain ⟨t, ht, hk⟩ := hK j hj
    obtain ⟨h1, h2⟩ := hz.known j t ht hk
    exact ⟨t, ht, h1, h2⟩
  have hol : ∀ j ∈ M, ∃ t, T[j]? = some t ∧ t.here = true ∧ loc j ∈ ol := fun j hj => by
    obtain ⟨_, t, ht, h1, h2⟩ := (hM j).1 hj
    exact ⟨t, ht, h1, (hz.obj j t ht h1).2.1.1 h2⟩
  refine led_iff hz hL (nums_fit fun j hj => ?_) (kept_closed hD.kept) (fun a ha => ?_) (fun P hP hroot o ho => ?_)
  · rcases List.mem_append.mp hj with hj | hj
    · obtain ⟨t, ht, h1, _⟩ := hkn j hj
      exact ⟨t, ht, h1⟩
    · obtain ⟨t, ht, h1, _⟩ := hol j hj
      exact ⟨t, ht, h1⟩
  · rcases List.mem_append.mp (nums_mem.1 ha) with hj | hj
    · obtain ⟨t, ht, h1, h2⟩ := hkn a hj
      refine kept_root hD.kept (hz.obj a t ht h1).1 (fun hf => ?_)
      have h3 := hD.roots (gW, a * 3) (rs_mem.2 ⟨a, hj, rfl⟩)
      rw [fOf_at ht, h2] at h3
      have h4 := h3 rfl hf
      exact h4
    · obtain ⟨t, ht, h1, h2⟩ := hol a hj
      exact List.mem_append.mpr (Or.inl h2)
  · have hold : ∀ y ∈ ol, P y := fun y hy => by
      obtain ⟨i, t, ht, h1, e⟩ := hz.all y (List.mem_append.mpr (Or.inr hy))
      have h2 : t.old = true := (hz.obj i t ht h1).2.1.2 (e ▸ hy)
      rw [← e]
      exact hroot i (nums_mem.2 (List.mem_append.mpr (Or.inr ((hM i).2 ⟨(List.getElem?_eq_some_iff.1 ht).1, t, ht, h1, h2⟩))))
    rcases List.mem_append.mp ho with ho2 | ho2
    · exact hold o ho2
    · have hre := hD.led o ho2
      clear ho ho2
      induction hre with
      | @src o hon hs =>
        rcases hs with ⟨r, hr, h1, h2⟩ | ⟨j, c, _, hj, h1, h2⟩
        · obtain ⟨i, hi, rfl⟩ := rs_mem.1 hr
          obtain ⟨t, ht, h3, h4⟩ := hkn i hi
          rw [fOf_at ht, h4] at h2
          have h5 : ((loc i).addr : Int) = (o.addr : Int) := h2
          have e := hz.hi.apart (loc i) (hz.obj i t ht h3).1 o (List.mem_append.mpr (Or.inl hon)) (by omega)
          rw [← e]
          exact hroot i (nums_mem.2 (List.mem_append.mpr (Or.inl hi)))
        · rw [hz.hi.old] at hj
          obtain ⟨y, hy, hcy⟩ := List.mem_flatMap.mp (List.mem_of_getElem? hj)
          rcases List.mem_cons.mp (show c ∈ y.head 0 :: y.fs.map Vl.cell from hcy) with e | hcy
          · rw [e] at h1
            exact absurd h1 (show ¬ (0 : Int) = 4 by decide)
          · obtain ⟨v, hv, e⟩ := List.mem_map.mp hcy
            subst e
            exact hP y (List.mem_append.mpr (Or.inr hy)) (hold y hy) v hv h1 o (List.mem_append.mpr (Or.inl hon)) h2
      | @step x o v hx hv hk hn hon ih =>
        have hxn : x ∈ nu := by
          cases hx with
          | src h _ => exact h
          | step _ _ _ _ h => exact h
        exact hP x (List.mem_append.mpr (Or.inl hxn)) ih v hv hk o (List.mem_append.mpr (Or.inl hon)) hn

/-- What Major keeps. -/
theorem major_reach (hz : ZI H nu ol T Z loc) {K : List Nat} (hK : ∀ j ∈ K, ∃ t, T[j]? = some t ∧ t.known = true) {s : List Int} (hL : Led T (numsOf K) [] s) {gW : Nat} {S : List Ob} (hS : ∀ o, o ∈ S ↔ Reached (nu ++ ol) (rootSrc (rsOf gW K) (fOf T)) o) :
    ∀ (i : Nat) (t : Th), T[i]? = some t → t.here = true → ((i : Int) ∈ s ↔ loc i ∈ S) := by
  have hkn : ∀ j ∈ K, ∃ t, T[j]? = some t ∧ t.here = true ∧ t.wv = refV (loc j) := fun j hj => by
    obtain ⟨t, ht, hk⟩ := hK j hj
    obtain ⟨h1, h2⟩ := hz.known j t ht hk
    exact ⟨t, ht, h1, h2⟩
  refine led_iff hz hL (nums_fit fun j hj => ?_) (fun o _ ho v hv hk x hx hn => ?_) (fun a ha => ?_) (fun P hP hroot o ho => ?_)
  · obtain ⟨t, ht, h1, _⟩ := hkn j hj
    exact ⟨t, ht, h1⟩
  · exact (hS x).2 (.step ((hS o).1 ho) hv hk hn hx)
  · obtain ⟨t, ht, h1, h2⟩ := hkn a (nums_mem.1 ha)
    exact (hS _).2 (.src (hz.obj a t ht h1).1 ⟨(gW, a * 3), rs_mem.2 ⟨a, nums_mem.1 ha, rfl⟩, by rw [fOf_at ht, h2]; rfl, by rw [fOf_at ht, h2]; rfl⟩)
  · have hre := (hS o).1 ho
    clear ho
    induction hre with
    | @src o hon hs =>
      obtain ⟨r, hr, h1, h2⟩ := hs
      obtain ⟨i, hi, rfl⟩ := rs_mem.1 hr
      obtain ⟨t, ht, h3, h4⟩ := hkn i hi
      rw [fOf_at ht, h4] at h2
      have h5 : ((loc i).addr : Int) = (o.addr : Int) := h2
      have e := hz.hi.apart (loc i) (hz.obj i t ht h3).1 o hon (by omega)
      rw [← e]
      exact hroot i (nums_mem.2 hi)
    | @step x o v hx hv hk hn hon ih =>
      have hxn : x ∈ nu ++ ol := by
        cases hx with
        | src h _ => exact h
        | step _ _ _ _ h => exact h
      exact hP x hxn ih v hv hk o hon hn
theorem major_iff (hz : ZI H nu ol T Z loc) {K : List Nat} (hK : ∀ j ∈ K, ∃ t, T[j]? = some t ∧ t.known = true) {s : List Int} (hL : Led T (numsOf K) [] s) {gW : Nat} {hb nb mb mb' : Nat} {ov rv tv : Value}
    (hD : MajorDone w hb nb mb ov rv B H nu ol (rsOf gW K) (fOf T) w' mb' tv H' L) : Coll H H' nu ol [] L majFrom H.room ∧ ∀ (i : Nat) (t : Th), T[i]? = some t → t.here = true → ((i : Int) ∈ s ↔ loc i ∈ [] ++ L) := by
  refine ⟨⟨hD.kept, hD.hi, hD.room, hD.most, hD.next⟩, ?_⟩
  exact major_reach hz hK hL hD.led
/-- What Major's space is held against. -/
theorem major_cells (hz : ZI H nu ol T Z loc) {K : List Nat} (hK : ∀ j ∈ K, ∃ t, T[j]? = some t ∧ t.known = true) {s : List Int} (hL : Led T (numsOf K) [] s) {gW : Nat} {S : List Ob} (hnd : S.Nodup) (hS : ∀ o, o ∈ S ↔ Reached (nu ++ ol) (rootSrc (rsOf gW K) (fOf T)) o) :
    cellsOf T (fun i => decide ((i : Int) ∈ s)) T.length = (total S : Int) := by
  have h := major_reach hz hK hL hS
  have hq : ∀ (i : Nat) (t : Th), T[i]? = some t → (t.here && decide ((i : Int) ∈ s)) = true → t.here = true ∧ loc i ∈ S := fun i t ht hq => by
    have h2 : t.here = true ∧ (i : Int) ∈ s := by simpa using hq
    exact ⟨h2.1, (h i t ht h2.1).1 h2.2⟩
  refine cells_total (loc := loc) hnd (fun i t ht hh => ?_) (fun o ho => ?_) (fun i j t u ht hu h1 h2 e => ?_)
  · obtain ⟨h1, h2⟩ := hq i t ht hh
    exact ⟨h2, (hz.obj i t ht h1).2.2.len⟩
  · have hon : o ∈ nu ++ ol := by
      have hr := (hS o).1 ho
      cases hr with
      | src h _ => exact h
      | step _ _ _ _ h => exact h
    obtain ⟨i, t, ht, h1, e⟩ := hz.all o hon
    refine ⟨i, t, ht, ?_, e⟩
    rw [h1]
    simpa using (h i t ht h1).2 (e ▸ ho)
  · exact hz.inj i j t u ht hu (hq i t ht h1).1 (hq j u hu h2).1 e
end Go.Proofs.YthbkklnahhdgcaaDoor.PlGa
