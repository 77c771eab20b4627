/-
  HeapPlays' tells: a field that leads to a thing.
-/
import Derived.Test.YthbkklnahhdgcaaDoorPG00
import Derived.Test.YthbkklnahhdgcaaDoorPG22
import Derived.Test.YthbkklnahhdgcaaDoorPG02
set_option maxRecDepth 100000
set_option maxHeartbeats 4000000
namespace Go.Proofs.YthbkklnahhdgcaaDoor.PlSc
open Go Go.Proofs Go.RowKit Go.Maps Go.Proofs.YthbkklnahhdgcaaDoor.Lib HeapR HeapB HeapC HeapD HeapG HeapH ErrC ChA ChT ChCa ChCc ChE ChH ChI ChL ChN ChO ChW ChZ PlA PlT PlZ PlX PlYa PlU PlG PlJ PlP PlSa

theorem ref_no {Q : Exit → Act → World → Prop} {u1 u2 u3 u4 u5 u6 u7 u8 u9 Jb Je Jf Jg Jh Ji Jj Jk Jl Jm Jn Jo Jp Jq Jr Js Jt Ju Jv Jw Jx Jy Jz Qa Qb Qc Qd Qe Qf Qg Qh Qi Qj Qk Ql Qm Qn Qo Qp Qq Qr Qs Qt Qu Qv Qw Qx Qy Qz Xe Xg Xh Xi Xj Xk Xn Xo Xp Xq Xt Xu Xv Xx Xy Xz Yg Yh Yi Yj Yk Yl Ym Yn Yo Yp Yq Yr Ys Yt Yu Yv Yw Yx Yy Yz Ua Ub Uc Ud Ue Uf Ug Uh Ui Uj Uk Ul Um Un Uo Up Uq Ur Us Ut Uu Uv Uw Ux Uy Uz Wc Wd We Wf Wg Wh Wi Wj Wk Wl Wm Wn Wo Wp Wq Wt Wu Ww Wx Wy Wz Ka Kb Kc Kd Ke Kf Kg Kh Kj Kl Km Kn Ko Kp Kq Kr Kt Ku Kv Kw Kx Ky Kz Rg Rh Ri Rj Rk Rl Rm Rp Rq Rt Ru Rx Ry Rz Gc Ge Gf Gg Gh Gi Gj Gm Gn Gp Gq Gt Gu Gv Gx Gy Gz Fe Ff Fg Fh Fi Fj Fk Fm Fo Fp Fq Fs Ft Fu Fv Fw Fx Fy Fz Ec Ee Ef Eg Eh Ei Ej Ek Em En Eo Ep Eu Ev Ex Ey Ez Da Db Dc Dd Dg Dh Di Dj Dk Dl Dm Dn Do Dp Dq Dt Du Dv Dw Dx Dy Dz Pa Pb Pc Pe Pf Pg Ph Pi Pj Pk Pm Pn Po Pq Ps Pt Pu Pv Pw Px Py Pz Na Nc Nd Nf Ng Nh Ni Nj Nk Nl Nn Np Nq Ns Nt Nu Nv Nw Nx Ny Nz Ba Bc Be Bh Bi Bj Bk Bo Bp Bs Bt Bv Bx Mb Mc Md Me Mg Mh Mi Mj Mk Mm Mo Mp Mq Mr Mt Mu Mv Mw Mx My Mz Ha Hb He Hg Hh Hi Hj Hk Hm Ho Hp Hq Hs Ht Hu Hv Hw Hx Hy Tp Tq Ts Tu Tx Tz Va Vb Vc Vd Ve Vf Vg Vh Vi Vj Vk Vm Vn Vo Vp Vq Vs Vt Vu Vv Vw Vx Vy Vz Za Zc Zd Ze Zf Zg Zh Zi Zj Zk Zl Zm Zo Zp Zq Zt Zu Zw Zx Zy Zz u404 u405 u406 u407 : Value} (w0 : World) (zb hb vb ub gK cK _gW _cW m j : Nat) (a kind id : Int) (oI : Option Addr) (n cI : Nat) (hjm : j < m) (hm : m ≤ 1000)
    (z0 : w0.cell? ⟨zb, 0, none⟩ = some (.pointer (some ⟨hb, 0, none⟩))) (z4 : w0.cell? ⟨zb, 4, none⟩ = some (.slice (some ⟨gK, 0, none⟩) m cK)) (zk : w0.cell? ⟨gK, j, none⟩ = some (.bool false)) (v0 : w0.cell? ⟨vb, 0, none⟩ = some (.int .i64 4)) (v1 : w0.cell? ⟨vb, 1, none⟩ = some (.int .i64 a)) (t0 : w0.cell? ⟨ub, 0, none⟩ = some (.int .i64 kind)) (t2 : w0.cell? ⟨ub, 2, none⟩ = some (.int .i64 id)) (t4 : w0.cell? ⟨ub, 4, none⟩ = some (.slice oI n cI))
    (hK : ∀ wz : World, Below w0.heap.size w0 wz → Calls Tryd.prog 15 #[.pointer (some ⟨hb, 0, none⟩), .int .i64 a] wz fun e w' => e = .returned (.int .i64 kind) ∧ Below wz.heap.size wz w') (hI : ∀ wz : World, Below w0.heap.size w0 wz → Calls Tryd.prog 17 #[.pointer (some ⟨hb, 0, none⟩), .int .i64 a] wz fun e w' => e = .returned (.int .i64 id) ∧ Below wz.heap.size wz w') (hS : ∀ wz : World, Below w0.heap.size w0 wz → Calls Tryd.prog 75 #[.pointer (some ⟨hb, 0, none⟩), .int .i64 a] wz fun e w' => e = .returned (.int .i64 (n : Int)) ∧ Below wz.heap.size wz w')
    (hQ : ∀ (sEm sEn sEo sEp sEq sEr sEs sEt sEu sEv sEw sEx sEy sEz sEA sEB sEC sED sEE sEF sEG sEH sEI sEJ sEK sEL sEM sEN sEO sEP sEQ sER sES sET sEU sEV sEW sEX sEY sEZ sFa sFb sFc sFd sFe sFf sFg sFh sFi sFj sFk sFl sFm sFn sFo sFp sFq sFr sFs sFt sFu sFv sFw sFx sFy sFz sFA : Value) (w' : World), Below w0.heap.size w0 w' → Q .normal ⟨#[(.pointer (some ⟨zb,0,none⟩)),u1,u2,u3,u4,u5,u6,u7,u8,u9,(.pointer (some ⟨vb,0,none⟩)),Jb,(.int .i64 ((j : Int) + 1)),(.pointer (some ⟨ub,0,none⟩)),Je,Jf,Jg,Jh,Ji,Jj,Jk,Jl,Jm,Jn,Jo,Jp,Jq,Jr,Js,Jt,Ju,Jv,Jw,Jx,Jy,Jz,Qa,Qb,Qc,Qd,Qe,Qf,Qg,Qh,Qi,Qj,Qk,Ql,Qm,Qn,Qo,Qp,Qq,Qr,Qs,Qt,Qu,Qv,Qw,Qx,Qy,Qz,Xe,Xg,Xh,Xi,Xj,Xk,Xn,Xo,Xp,Xq,Xt,Xu,Xv,Xx,Xy,Xz,Yg,Yh,Yi,Yj,Yk,Yl,Ym,Yn,Yo,Yp,Yq,Yr,Ys,Yt,Yu,Yv,Yw,Yx,Yy,Yz,Ua,Ub,Uc,Ud,Ue,Uf,Ug,Uh,Ui,Uj,Uk,Ul,Um,Un,Uo,Up,Uq,Ur,Us,Ut,Uu,Uv,Uw,Ux,Uy,Uz,Wc,Wd,We,Wf,Wg,Wh,Wi,Wj,Wk,Wl,Wm,Wn,Wo,Wp,Wq,Wt,Wu,Ww,Wx,Wy,Wz,Ka,Kb,Kc,Kd,Ke,Kf,Kg,Kh,Kj,Kl,Km,Kn,Ko,Kp,Kq,Kr,Kt,Ku,Kv,Kw,Kx,Ky,Kz,Rg,Rh,Ri,Rj,Rk,Rl,Rm,Rp,Rq,Rt,Ru,Rx,Ry,Rz,Gc,Ge,Gf,Gg,Gh,Gi,Gj,Gm,Gn,Gp,Gq,Gt,Gu,Gv,Gx,Gy,Gz,Fe,Ff,Fg,Fh,Fi,Fj,Fk,Fm,Fo,Fp,Fq,Fs,Ft,Fu,Fv,Fw,Fx,Fy,Fz,Ec,Ee,sEm,sEn,sEo,sEp,sEq,sEr,sEs,sEt,sEu,sEv,sEw,sEx,sEy,sEz,sEA,sEB,sEC,sED,sEE,sEF,sEG,sEH,sEI,sEJ,sEK,sEL,sEM,sEN,sEO,sEP,sEQ,sER,sES,sET,sEU,sEV,sEW,sEX,sEY,sEZ,sFa,sFb,sFc,sFd,sFe,sFf,sFg,sFh,sFi,sFj,sFk,sFl,sFm,sFn,sFo,sFp,sFq,sFr,sFs,sFt,sFu,sFv,sFw,sFx,sFy,sFz,sFA,(.bool false),Nl,Nn,Np,Nq,Ns,Nt,Nu,Nv,Nw,Nx,Ny,Nz,Ba,Bc,Be,Bh,Bi,Bj,Bk,Bo,Bp,Bs,Bt,Bv,Bx,Mb,Mc,Md,Me,Mg,Mh,Mi,Mj,Mk,Mm,Mo,Mp,Mq,Mr,Mt,Mu,Mv,Mw,Mx,My,Mz,Ha,Hb,He,Hg,Hh,Hi,Hj,Hk,Hm,Ho,Hp,Hq,Hs,Ht,Hu,Hv,Hw,Hx,Hy,Tp,Tq,Ts,Tu,Tx,Tz,Va,Vb,Vc,Vd,Ve,Vf,Vg,Vh,Vi,Vj,Vk,Vm,Vn,Vo,Vp,Vq,Vs,Vt,Vu,Vv,Vw,Vx,Vy,Vz,Za,Zc,Zd,Ze,Zf,Zg,Zh,Zi,Zj,Zk,Zl,Zm,Zo,Zp,Zq,Zt,Zu,Zw,Zx,Zy,Zz,u404,u405,u406,u407], []⟩ w') :
    Code.wp Tryd.prog (Cut.piece Tryd.f31 (Cut.region 23)) Q ⟨#[(.pointer (some ⟨zb,0,none⟩)),u1,u2,u3,u4,u5,u6,u7,u8,u9,(.pointer (some ⟨vb,0,none⟩)),Jb,(.int .i64 ((j : Int) + 1)),(.pointer (some ⟨ub,0,none⟩)),Je,Jf,Jg,Jh,Ji,Jj,Jk,Jl,Jm,Jn,Jo,Jp,Jq,Jr,Js,Jt,Ju,Jv,Jw,Jx,Jy,Jz,Qa,Qb,Qc,Qd,Qe,Qf,Qg,Qh,Qi,Qj,Qk,Ql,Qm,Qn,Qo,Qp,Qq,Qr,Qs,Qt,Qu,Qv,Qw,Qx,Qy,Qz,Xe,Xg,Xh,Xi,Xj,Xk,Xn,Xo,Xp,Xq,Xt,Xu,Xv,Xx,Xy,Xz,Yg,Yh,Yi,Yj,Yk,Yl,Ym,Yn,Yo,Yp,Yq,Yr,Ys,Yt,Yu,Yv,Yw,Yx,Yy,Yz,Ua,Ub,Uc,Ud,Ue,Uf,Ug,Uh,Ui,Uj,Uk,Ul,Um,Un,Uo,Up,Uq,Ur,Us,Ut,Uu,Uv,Uw,Ux,Uy,Uz,Wc,Wd,We,Wf,Wg,Wh,Wi,Wj,Wk,Wl,Wm,Wn,Wo,Wp,Wq,Wt,Wu,Ww,Wx,Wy,Wz,Ka,Kb,Kc,Kd,Ke,Kf,Kg,Kh,Kj,Kl,Km,Kn,Ko,Kp,Kq,Kr,Kt,Ku,Kv,Kw,Kx,Ky,Kz,Rg,Rh,Ri,Rj,Rk,Rl,Rm,Rp,Rq,Rt,Ru,Rx,Ry,Rz,Gc,Ge,Gf,Gg,Gh,Gi,Gj,Gm,Gn,Gp,Gq,Gt,Gu,Gv,Gx,Gy,Gz,Fe,Ff,Fg,Fh,Fi,Fj,Fk,Fm,Fo,Fp,Fq,Fs,Ft,Fu,Fv,Fw,Fx,Fy,Fz,Ec,Ee,Ef,Eg,Eh,Ei,Ej,Ek,Em,En,Eo,Ep,Eu,Ev,Ex,Ey,Ez,Da,Db,Dc,Dd,Dg,Dh,Di,Dj,Dk,Dl,Dm,Dn,Do,Dp,Dq,Dt,Du,Dv,Dw,Dx,Dy,Dz,Pa,Pb,Pc,Pe,Pf,Pg,Ph,Pi,Pj,Pk,Pm,Pn,Po,Pq,Ps,Pt,Pu,Pv,Pw,Px,Py,Pz,Na,Nc,Nd,Nf,Ng,Nh,Ni,Nj,Nk,Nl,Nn,Np,Nq,Ns,Nt,Nu,Nv,Nw,Nx,Ny,Nz,Ba,Bc,Be,Bh,Bi,Bj,Bk,Bo,Bp,Bs,Bt,Bv,Bx,Mb,Mc,Md,Me,Mg,Mh,Mi,Mj,Mk,Mm,Mo,Mp,Mq,Mr,Mt,Mu,Mv,Mw,Mx,My,Mz,Ha,Hb,He,Hg,Hh,Hi,Hj,Hk,Hm,Ho,Hp,Hq,Hs,Ht,Hu,Hv,Hw,Hx,Hy,Tp,Tq,Ts,Tu,Tx,Tz,Va,Vb,Vc,Vd,Ve,Vf,Vg,Vh,Vi,Vj,Vk,Vm,Vn,Vo,Vp,Vq,Vs,Vt,Vu,Vv,Vw,Vx,Vy,Vz,Za,Zc,Zd,Ze,Zf,Zg,Zh,Zi,Zj,Zk,Zl,Zm,Zo,Zp,Zq,Zt,Zu,Zw,Zx,Zy,Zz,u404,u405,u406,u407], []⟩ w0 := by
  conv => arg 2; whnf
  have k0 : (0 : Int) ≤ (j : Int) := by omega
  have k1 : (j : Int) < (m : Int) := by omega
  have c1 : IntKind.i64.wrap ((j : Int) + 1 - 1) = (j : Int) := by rw [Int.add_sub_cancel]; exact IntWalk.i64_in _ (by omega)
  have c2 : IntKind.i64.wrap (j : Int) = (j : Int) := IntWalk.i64_in _ (by omega)
  have A0 := Lib.hid hQ
  have A1 := Lib.hid hK
  have A3 := Lib.hid hI
  have A4 := Lib.hid hS
  have b0 : Below w0.heap.size w0 w0.drew := (Below.refl _ _).drew
  have B0 := Lib.hid b0
  have hs : ∀ wz : World, Below w0.heap.size w0 wz → wz.cell? ⟨zb, 0, none⟩ = some (.pointer (some ⟨hb, 0, none⟩)) ∧ wz.cell? ⟨zb, 4, none⟩ = some (.slice (some ⟨gK, 0, none⟩) m cK) ∧ wz.cell? ⟨gK, j, none⟩ = some (.bool false) ∧ wz.cell? ⟨vb, 0, none⟩ = some (.int .i64 4) ∧ wz.cell? ⟨vb, 1, none⟩ = some (.int .i64 a) ∧ wz.cell? ⟨ub, 0, none⟩ = some (.int .i64 kind) ∧ wz.cell? ⟨ub, 2, none⟩ = some (.int .i64 id) ∧ wz.cell? ⟨ub, 4, none⟩ = some (.slice oI n cI) := fun wz hb => ⟨(hb.cell (World.block_lt_of_cell? w0 _ z0)).trans z0, (hb.cell (World.block_lt_of_cell? w0 _ z4)).trans z4, (hb.cell (World.block_lt_of_cell? w0 _ zk)).trans zk, (hb.cell (World.block_lt_of_cell? w0 _ v0)).trans v0, (hb.cell (World.block_lt_of_cell? w0 _ v1)).trans v1, (hb.cell (World.block_lt_of_cell? w0 _ t0)).trans t0, (hb.cell (World.block_lt_of_cell? w0 _ t2)).trans t2, (hb.cell (World.block_lt_of_cell? w0 _ t4)).trans t4⟩
  have A5 := Lib.hid hs
  have hs0 := hs _ b0
  clear hQ hK hI hS hs b0 z0 z4 zk v0 v1 t0 t2 t4
  refine wp_region_noPanic ?_
  refine RegU.begin (S := fun wz => wz.cell? ⟨zb, 0, none⟩ = some (.pointer (some ⟨hb, 0, none⟩)) ∧ wz.cell? ⟨zb, 4, none⟩ = some (.slice (some ⟨gK, 0, none⟩) m cK) ∧ wz.cell? ⟨gK, j, none⟩ = some (.bool false) ∧ wz.cell? ⟨vb, 0, none⟩ = some (.int .i64 4) ∧ wz.cell? ⟨vb, 1, none⟩ = some (.int .i64 a) ∧ wz.cell? ⟨ub, 0, none⟩ = some (.int .i64 kind) ∧ wz.cell? ⟨ub, 2, none⟩ = some (.int .i64 id) ∧ wz.cell? ⟨ub, 4, none⟩ = some (.slice oI n cI)) (N := [8, 9, 14, 15, 16, 17, 18, 19, 20, 21, 30, 31, 32, 33, 34, 35, 36, 44, 45, 46, 47, 48, 49, 50, 58, 59, 60, 61, 62, 63, 64, 65]) (by kernel_rfl) ?_ (fun hHeld => ?_)
  · exact hs0
  refine RegU.tk [1, 2, 3, 4, 5, 6, 7, 8, 9, 10, 11, 12, 13, 14, 15, 16, 17, 18, 19, 20, 21, 22, 23, 24, 25, 26, 27, 28, 29, 30, 31, 32, 33, 34, 35, 36, 37, 38, 39, 40, 41, 42, 43, 44, 45, 46, 47, 48, 49, 50, 51, 52, 53, 54, 55, 56, 57, 58, 59, 60, 61, 62, 63, 64, 65, 66, 67] 0 ?_
  refine RegU.tk [2, 3, 4, 5, 6, 7, 8, 9, 10, 11, 12, 13, 14, 15, 16, 17, 18, 19, 20, 21, 22, 23, 24, 25, 26, 27, 28, 29, 30, 31, 32, 33, 34, 35, 36, 37, 38, 39, 40, 41, 42, 43, 44, 45, 46, 47, 48, 49, 50, 51, 52, 53, 54, 55, 56, 57, 58, 59, 60, 61, 62, 63, 64, 65, 66, 67] 1 ?_
  refine RegU.tk [3, 4, 5, 6, 7, 8, 9, 10, 11, 12, 13, 14, 15, 16, 17, 18, 19, 20, 21, 22, 23, 24, 25, 26, 27, 28, 29, 30, 31, 32, 33, 34, 35, 36, 37, 38, 39, 40, 41, 42, 43, 44, 45, 46, 47, 48, 49, 50, 51, 52, 53, 54, 55, 56, 57, 58, 59, 60, 61, 62, 63, 64, 65, 66, 67] 2 ?_
  refine RegU.tk [4, 5, 6, 7, 8, 9, 10, 11, 12, 13, 14, 15, 16, 17, 18, 19, 20, 21, 22, 23, 24, 25, 26, 27, 28, 29, 30, 31, 32, 33, 34, 35, 36, 37, 38, 39, 40, 41, 42, 43, 44, 45, 46, 47, 48, 49, 50, 51, 52, 53, 54, 55, 56, 57, 58, 59, 60, 61, 62, 63, 64, 65, 66, 67] 3 ?_
  refine RegU.tk [5, 6, 7, 10, 11, 12, 13, 14, 15, 16, 17, 18, 19, 20, 21, 22, 23, 24, 25, 26, 27, 28, 29, 30, 31, 32, 33, 34, 35, 36, 37, 38, 39, 40, 41, 42, 43, 44, 45, 46, 47, 48, 49, 50, 51, 52, 53, 54, 55, 56, 57, 58, 59, 60, 61, 62, 63, 64, 65, 66, 67] 4 ?_
  refine RegU.tk [6, 7, 10, 11, 12, 13, 14, 15, 16, 17, 18, 19, 20, 21, 22, 23, 24, 25, 26, 27, 28, 29, 30, 31, 32, 33, 34, 35, 36, 37, 38, 39, 40, 41, 42, 43, 44, 45, 46, 47, 48, 49, 50, 51, 52, 53, 54, 55, 56, 57, 58, 59, 60, 61, 62, 63, 64, 65, 66, 67] 5 ?_
  refine RegU.tk [7, 10, 11, 12, 13, 14, 15, 16, 17, 18, 19, 20, 21, 22, 23, 24, 25, 26, 27, 28, 29, 30, 31, 32, 33, 34, 35, 36, 37, 38, 39, 40, 41, 42, 43, 44, 45, 46, 47, 48, 49, 50, 51, 52, 53, 54, 55, 56, 57, 58, 59, 60, 61, 62, 63, 64, 65, 66, 67] 6 ?_
  refine RegU.tk [10, 11, 12, 13, 14, 15, 16, 17, 18, 19, 20, 21, 22, 23, 24, 25, 26, 27, 28, 29, 30, 31, 32, 33, 34, 35, 36, 37, 38, 39, 40, 41, 42, 43, 44, 45, 46, 47, 48, 49, 50, 51, 52, 53, 54, 55, 56, 57, 58, 59, 60, 61, 62, 63, 64, 65, 66, 67] 7 ?_
  refine RegU.tk [9, 10, 11, 12, 13, 14, 15, 16, 17, 18, 19, 20, 21, 22, 23, 24, 25, 26, 27, 28, 29, 30, 31, 32, 33, 34, 35, 36, 37, 38, 39, 40, 41, 42, 43, 44, 45, 46, 47, 48, 49, 50, 51, 52, 53, 54, 55, 56, 57, 58, 59, 60, 61, 62, 63, 64, 65, 66, 67] 8 ?_
  refine RegU.tk [10, 11, 12, 13, 14, 15, 16, 17, 18, 19, 20, 21, 22, 23, 24, 25, 26, 27, 28, 29, 30, 31, 32, 33, 34, 35, 36, 37, 38, 39, 40, 41, 42, 43, 44, 45, 46, 47, 48, 49, 50, 51, 52, 53, 54, 55, 56, 57, 58, 59, 60, 61, 62, 63, 64, 65, 66, 67] 9 ?_
  refine RegU.tk [11, 12, 13, 14, 15, 16, 17, 18, 19, 20, 21, 22, 23, 24, 25, 26, 27, 28, 29, 30, 31, 32, 33, 34, 35, 36, 37, 38, 39, 40, 41, 42, 43, 44, 45, 46, 47, 48, 49, 50, 51, 52, 53, 54, 55, 56, 57, 58, 59, 60, 61, 62, 63, 64, 65, 66, 67] 10 ?_
  refine RegU.tk [12, 13, 14, 15, 16, 17, 18, 19, 20, 21, 22, 23, 24, 25, 26, 27, 28, 29, 30, 31, 32, 33, 34, 35, 36, 37, 38, 39, 40, 41, 42, 43, 44, 45, 46, 47, 48, 49, 50, 51, 52, 53, 54, 55, 56, 57, 58, 59, 60, 61, 62, 63, 64, 65, 66, 67] 11 ?_
  refine RegU.tk [13, 14, 15, 16, 17, 18, 19, 20, 21, 22, 23, 24, 25, 26, 27, 28, 29, 30, 31, 32, 33, 34, 35, 36, 37, 38, 39, 40, 41, 42, 43, 44, 45, 46, 47, 48, 49, 50, 51, 52, 53, 54, 55, 56, 57, 58, 59, 60, 61, 62, 63, 64, 65, 66, 67] 12 ?_
  refine RegU.tu [22, 23, 24, 25, 26, 27, 28, 29, 30, 31, 32, 33, 34, 35, 36, 37, 38, 39, 40, 41, 42, 43, 44, 45, 46, 47, 48, 49, 50, 51, 52, 53, 54, 55, 56, 57, 58, 59, 60, 61, 62, 63, 64, 65, 66, 67] 13 ?_
  refine RegU.tu [15, 16, 17, 20, 21, 22, 23, 24, 25, 26, 27, 28, 29, 30, 31, 32, 33, 34, 35, 36, 37, 38, 39, 40, 41, 42, 43, 44, 45, 46, 47, 48, 49, 50, 51, 52, 53, 54, 55, 56, 57, 58, 59, 60, 61, 62, 63, 64, 65, 66, 67] 14 ?_
  refine RegU.tu [16, 17, 20, 21, 22, 23, 24, 25, 26, 27, 28, 29, 30, 31, 32, 33, 34, 35, 36, 37, 38, 39, 40, 41, 42, 43, 44, 45, 46, 47, 48, 49, 50, 51, 52, 53, 54, 55, 56, 57, 58, 59, 60, 61, 62, 63, 64, 65, 66, 67] 15 ?_
  refine RegU.tu [17, 20, 21, 22, 23, 24, 25, 26, 27, 28, 29, 30, 31, 32, 33, 34, 35, 36, 37, 38, 39, 40, 41, 42, 43, 44, 45, 46, 47, 48, 49, 50, 51, 52, 53, 54, 55, 56, 57, 58, 59, 60, 61, 62, 63, 64, 65, 66, 67] 16 ?_
  refine RegU.tu [20, 21, 22, 23, 24, 25, 26, 27, 28, 29, 30, 31, 32, 33, 34, 35, 36, 37, 38, 39, 40, 41, 42, 43, 44, 45, 46, 47, 48, 49, 50, 51, 52, 53, 54, 55, 56, 57, 58, 59, 60, 61, 62, 63, 64, 65, 66, 67] 17 ?_
  refine RegU.tu [19, 20, 21, 22, 23, 24, 25, 26, 27, 28, 29, 30, 31, 32, 33, 34, 35, 36, 37, 38, 39, 40, 41, 42, 43, 44, 45, 46, 47, 48, 49, 50, 51, 52, 53, 54, 55, 56, 57, 58, 59, 60, 61, 62, 63, 64, 65, 66, 67] 18 ?_
  refine RegU.tu [20, 21, 22, 23, 24, 25, 26, 27, 28, 29, 30, 31, 32, 33, 34, 35, 36, 37, 38, 39, 40, 41, 42, 43, 44, 45, 46, 47, 48, 49, 50, 51, 52, 53, 54, 55, 56, 57, 58, 59, 60, 61, 62, 63, 64, 65, 66, 67] 19 ?_
  refine RegU.tu [21, 22, 23, 24, 25, 26, 27, 28, 29, 30, 31, 32, 33, 34, 35, 36, 37, 38, 39, 40, 41, 42, 43, 44, 45, 46, 47, 48, 49, 50, 51, 52, 53, 54, 55, 56, 57, 58, 59, 60, 61, 62, 63, 64, 65, 66, 67] 20 ?_
  refine RegU.tu [22, 23, 24, 25, 26, 27, 28, 29, 30, 31, 32, 33, 34, 35, 36, 37, 38, 39, 40, 41, 42, 43, 44, 45, 46, 47, 48, 49, 50, 51, 52, 53, 54, 55, 56, 57, 58, 59, 60, 61, 62, 63, 64, 65, 66, 67] 21 ?_
  refine RegU.tu [23, 24, 25, 26, 27, 28, 29, 30, 31, 32, 33, 34, 35, 36, 37, 38, 39, 40, 41, 42, 43, 44, 45, 46, 47, 48, 49, 50, 51, 52, 53, 54, 55, 56, 57, 58, 59, 60, 61, 62, 63, 64, 65, 66, 67] 22 ?_
  refine RegU.tk [24, 25, 26, 27, 28, 29, 30, 31, 32, 33, 34, 35, 36, 37, 38, 39, 40, 41, 42, 43, 44, 45, 46, 47, 48, 49, 50, 51, 52, 53, 54, 55, 56, 57, 58, 59, 60, 61, 62, 63, 64, 65, 66, 67] 23 ?_
  refine RegU.tk [25, 26, 27, 28, 29, 30, 31, 32, 33, 34, 35, 36, 37, 38, 39, 40, 41, 42, 43, 44, 45, 46, 47, 48, 49, 50, 51, 52, 53, 54, 55, 56, 57, 58, 59, 60, 61, 62, 63, 64, 65, 66, 67] 24 ?_
  refine RegU.tk [26, 27, 28, 29, 30, 31, 32, 33, 34, 35, 36, 37, 38, 39, 40, 41, 42, 43, 44, 45, 46, 47, 48, 49, 50, 51, 52, 53, 54, 55, 56, 57, 58, 59, 60, 61, 62, 63, 64, 65, 66, 67] 25 ?_
  refine RegU.tk [27, 28, 29, 32, 37, 38, 39, 40, 41, 42, 43, 44, 45, 46, 47, 48, 49, 50, 51, 52, 53, 54, 55, 56, 57, 58, 59, 60, 61, 62, 63, 64, 65, 66, 67] 26 ?_
  refine RegU.tk [28, 29, 32, 37, 38, 39, 40, 41, 42, 43, 44, 45, 46, 47, 48, 49, 50, 51, 52, 53, 54, 55, 56, 57, 58, 59, 60, 61, 62, 63, 64, 65, 66, 67] 27 ?_
  refine RegU.tk [29, 32, 37, 38, 39, 40, 41, 42, 43, 44, 45, 46, 47, 48, 49, 50, 51, 52, 53, 54, 55, 56, 57, 58, 59, 60, 61, 62, 63, 64, 65, 66, 67] 28 ?_
  refine RegU.tk [32, 37, 38, 39, 40, 41, 42, 43, 44, 45, 46, 47, 48, 49, 50, 51, 52, 53, 54, 55, 56, 57, 58, 59, 60, 61, 62, 63, 64, 65, 66, 67] 29 ?_
  refine RegU.tk [31, 32, 37, 38, 39, 40, 41, 42, 43, 44, 45, 46, 47, 48, 49, 50, 51, 52, 53, 54, 55, 56, 57, 58, 59, 60, 61, 62, 63, 64, 65, 66, 67] 30 ?_
  refine RegU.tk [32, 37, 38, 39, 40, 41, 42, 43, 44, 45, 46, 47, 48, 49, 50, 51, 52, 53, 54, 55, 56, 57, 58, 59, 60, 61, 62, 63, 64, 65, 66, 67] 31 ?_
  refine RegU.tk [34, 35, 36, 37, 38, 39, 40, 41, 42, 43, 44, 45, 46, 47, 48, 49, 50, 51, 52, 53, 54, 55, 56, 57, 58, 59, 60, 61, 62, 63, 64, 65, 66, 67] 33 ?_
  refine RegU.tk [35, 36, 37, 38, 39, 40, 41, 42, 43, 44, 45, 46, 47, 48, 49, 50, 51, 52, 53, 54, 55, 56, 57, 58, 59, 60, 61, 62, 63, 64, 65, 66, 67] 34 ?_
  refine RegU.tk [36, 37, 38, 39, 40, 41, 42, 43, 44, 45, 46, 47, 48, 49, 50, 51, 52, 53, 54, 55, 56, 57, 58, 59, 60, 61, 62, 63, 64, 65, 66, 67] 35 ?_
  refine RegU.tk [37, 38, 39, 40, 41, 42, 43, 44, 45, 46, 47, 48, 49, 50, 51, 52, 53, 54, 55, 56, 57, 58, 59, 60, 61, 62, 63, 64, 65, 66, 67] 36 ?_
  refine RegU.one (i := 32) (by kernel_rfl) rfl (fun K hK => ?_)
  go_simp
  refine (A1.out _ B0.out).mono ?_
  rintro e w1 ⟨rfl, hb1⟩
  have B1 := Lib.hid (B0.out.trans (hb1.mono B0.out.size))
  clear hb1
  refine hK.out _ _ (A5.out _ B1.out) (fun hHeld => ?_)
  clear hK K
  try simp only [Act.put, List.setIfInBounds_toArray, List.set_cons_zero, List.set_cons_succ]
  refine RegU.tk [38, 39, 40, 41, 42, 43, 44, 45, 46, 47, 48, 49, 50, 51, 52, 53, 54, 55, 56, 57, 58, 59, 60, 61, 62, 63, 64, 65, 66, 67] 37 ?_
  refine RegU.tk [39, 40, 41, 42, 43, 44, 45, 46, 47, 48, 49, 50, 51, 52, 53, 54, 55, 56, 57, 58, 59, 60, 61, 62, 63, 64, 65, 66, 67] 38 ?_
  refine RegU.tk [40, 41, 42, 43, 44, 45, 46, 47, 48, 49, 50, 51, 52, 53, 54, 55, 56, 57, 58, 59, 60, 61, 62, 63, 64, 65, 66, 67] 39 ?_
  refine RegU.tk [41, 42, 43, 46, 51, 52, 53, 54, 55, 56, 57, 58, 59, 60, 61, 62, 63, 64, 65, 66, 67] 40 ?_
  refine RegU.tk [42, 43, 46, 51, 52, 53, 54, 55, 56, 57, 58, 59, 60, 61, 62, 63, 64, 65, 66, 67] 41 ?_
  refine RegU.tk [43, 46, 51, 52, 53, 54, 55, 56, 57, 58, 59, 60, 61, 62, 63, 64, 65, 66, 67] 42 ?_
  refine RegU.tk [46, 51, 52, 53, 54, 55, 56, 57, 58, 59, 60, 61, 62, 63, 64, 65, 66, 67] 43 ?_
  refine RegU.tk [45, 46, 51, 52, 53, 54, 55, 56, 57, 58, 59, 60, 61, 62, 63, 64, 65, 66, 67] 44 ?_
  refine RegU.tk [46, 51, 52, 53, 54, 55, 56, 57, 58, 59, 60, 61, 62, 63, 64, 65, 66, 67] 45 ?_
  refine RegU.tk [48, 49, 50, 51, 52, 53, 54, 55, 56, 57, 58, 59, 60, 61, 62, 63, 64, 65, 66, 67] 47 ?_
  refine RegU.tk [49, 50, 51, 52, 53, 54, 55, 56, 57, 58, 59, 60, 61, 62, 63, 64, 65, 66, 67] 48 ?_
  refine RegU.tk [50, 51, 52, 53, 54, 55, 56, 57, 58, 59, 60, 61, 62, 63, 64, 65, 66, 67] 49 ?_
  refine RegU.tk [51, 52, 53, 54, 55, 56, 57, 58, 59, 60, 61, 62, 63, 64, 65, 66, 67] 50 ?_
  refine RegU.one (i := 46) (by kernel_rfl) rfl (fun K hK => ?_)
  go_simp
  refine (A3.out _ B1.out).mono ?_
  rintro e w2 ⟨rfl, hb2⟩
  have B2 := Lib.hid (B1.out.trans (hb2.mono B1.out.size))
  clear hb2
  refine hK.out _ _ (A5.out _ B2.out) (fun hHeld => ?_)
  clear hK K
  try simp only [Act.put, List.setIfInBounds_toArray, List.set_cons_zero, List.set_cons_succ]
  refine RegU.tk [52, 53, 54, 55, 56, 57, 58, 59, 60, 61, 62, 63, 64, 65, 66, 67] 51 ?_
  refine RegU.tk [53, 54, 55, 56, 57, 58, 59, 60, 61, 62, 63, 64, 65, 66, 67] 52 ?_
  refine RegU.tk [54, 55, 56, 57, 58, 59, 60, 61, 62, 63, 64, 65, 66, 67] 53 ?_
  refine RegU.tk [55, 56, 57, 60, 66, 67] 54 ?_
  refine RegU.tk [56, 57, 60, 66, 67] 55 ?_
  refine RegU.tk [57, 60, 66, 67] 56 ?_
  refine RegU.tk [60, 66, 67] 57 ?_
  refine RegU.tk [59, 60, 66, 67] 58 ?_
  refine RegU.tk [60, 66, 67] 59 ?_
  refine RegU.tk [62, 63, 64, 65, 66, 67] 61 ?_
  refine RegU.tk [63, 64, 65, 66, 67] 62 ?_
  refine RegU.tk [64, 65, 66, 67] 63 ?_
  refine RegU.tk [65, 66, 67] 64 ?_
  refine RegU.tk [66, 67] 65 ?_
  refine RegU.one (i := 60) (by kernel_rfl) rfl (fun K hK => ?_)
  go_simp
  refine (A4.out _ B2.out).mono ?_
  rintro e w3 ⟨rfl, hb3⟩
  have B3 := Lib.hid (B2.out.trans (hb3.mono B2.out.size))
  clear hb3
  refine hK.out _ _ (A5.out _ B3.out) (fun hHeld => ?_)
  clear hK K
  try simp only [Act.put, List.setIfInBounds_toArray, List.set_cons_zero, List.set_cons_succ]
  refine RegU.tk [67] 66 ?_
  refine RegU.tk [] 67 ?_
  refine RegU.rest [] [] (by kernel_rfl) rfl ?_
  refine NoPanic.normal ?_
  exact A0.out _ _ _ _ _ _ _ _ _ _ _ _ _ _ _ _ _ _ _ _ _ _ _ _ _ _ _ _ _ _ _ _ _ _ _ _ _ _ _ _ _ _ _ _ _ _ _ _ _ _ _ _ _ _ _ _ _ _ _ _ _ _ _ _ _ _ _ _ B3.out

theorem ref_yes {Q : Exit → Act → World → Prop} {u1 u2 u3 u4 u5 u6 u7 u8 u9 Jb Je Jf Jg Jh Ji Jj Jk Jl Jm Jn Jo Jp Jq Jr Js Jt Ju Jv Jw Jx Jy Jz Qa Qb Qc Qd Qe Qf Qg Qh Qi Qj Qk Ql Qm Qn Qo Qp Qq Qr Qs Qt Qu Qv Qw Qx Qy Qz Xe Xg Xh Xi Xj Xk Xn Xo Xp Xq Xt Xu Xv Xx Xy Xz Yg Yh Yi Yj Yk Yl Ym Yn Yo Yp Yq Yr Ys Yt Yu Yv Yw Yx Yy Yz Ua Ub Uc Ud Ue Uf Ug Uh Ui Uj Uk Ul Um Un Uo Up Uq Ur Us Ut Uu Uv Uw Ux Uy Uz Wc Wd We Wf Wg Wh Wi Wj Wk Wl Wm Wn Wo Wp Wq Wt Wu Ww Wx Wy Wz Ka Kb Kc Kd Ke Kf Kg Kh Kj Kl Km Kn Ko Kp Kq Kr Kt Ku Kv Kw Kx Ky Kz Rg Rh Ri Rj Rk Rl Rm Rp Rq Rt Ru Rx Ry Rz Gc Ge Gf Gg Gh Gi Gj Gm Gn Gp Gq Gt Gu Gv Gx Gy Gz Fe Ff Fg Fh Fi Fj Fk Fm Fo Fp Fq Fs Ft Fu Fv Fw Fx Fy Fz Ec Ee Ef Eg Eh Ei Ej Ek Em En Eo Ep Eu Ev Ex Ey Ez Da Db Dc Dd Dg Dh Di Dj Dk Dl Dm Dn Do Dp Dq Dt Du Dv Dw Dx Dy Dz Pa Pb Pc Pe Pf Pg Ph Pi Pj Pk Pm Pn Po Pq Ps Pt Pu Pv Pw Px Py Pz Na Nc Nd Nf Ng Nh Ni Nj Nk Nl Nn Np Nq Ns Nt Nu Nv Nw Nx Ny Nz Ba Bc Be Bh Bi Bj Bk Bo Bp Bs Bt Bv Bx Mb Mc Md Me Mg Mh Mi Mj Mk Mm Mo Mp Mq Mr Mt Mu Mv Mw Mx My Mz Ha Hb He Hg Hh Hi Hj Hk Hm Ho Hp Hq Hs Ht Hu Hv Hw Hx Hy Tp Tq Ts Tu Tx Tz Va Vb Vc Vd Ve Vf Vg Vh Vi Vj Vk Vm Vn Vo Vp Vq Vs Vt Vu Vv Vw Vx Vy Vz Za Zc Zd Ze Zf Zg Zh Zi Zj Zk Zl Zm Zo Zp Zq Zt Zu Zw Zx Zy Zz u404 u405 u406 u407 : Value} (w0 : World) (zb hb vb ub gK cK gW cW m j : Nat) (a kind id : Int) (oI : Option Addr) (n cI : Nat) (hjm : j < m) (hm : m ≤ 1000)
    (z0 : w0.cell? ⟨zb, 0, none⟩ = some (.pointer (some ⟨hb, 0, none⟩))) (z4 : w0.cell? ⟨zb, 4, none⟩ = some (.slice (some ⟨gK, 0, none⟩) m cK)) (zk : w0.cell? ⟨gK, j, none⟩ = some (.bool true)) (v0 : w0.cell? ⟨vb, 0, none⟩ = some (.int .i64 4)) (v1 : w0.cell? ⟨vb, 1, none⟩ = some (.int .i64 a)) (t0 : w0.cell? ⟨ub, 0, none⟩ = some (.int .i64 kind)) (t2 : w0.cell? ⟨ub, 2, none⟩ = some (.int .i64 id)) (t4 : w0.cell? ⟨ub, 4, none⟩ = some (.slice oI n cI)) (v2 : w0.cell? ⟨vb, 2, none⟩ = some (.string ByteArray.empty)) (z2 : w0.cell? ⟨zb, 2, none⟩ = some (.slice (some ⟨gW, 0, none⟩) m cW)) (w0' : w0.cell? ⟨gW, j * 3, none⟩ = some (.int .i64 4)) (w1' : w0.cell? ⟨gW, j * 3 + 1, none⟩ = some (.int .i64 a)) (w2' : w0.cell? ⟨gW, j * 3 + 2, none⟩ = some (.string ByteArray.empty))
    (hK : ∀ wz : World, Below w0.heap.size w0 wz → Calls Tryd.prog 15 #[.pointer (some ⟨hb, 0, none⟩), .int .i64 a] wz fun e w' => e = .returned (.int .i64 kind) ∧ Below wz.heap.size wz w') (hI : ∀ wz : World, Below w0.heap.size w0 wz → Calls Tryd.prog 17 #[.pointer (some ⟨hb, 0, none⟩), .int .i64 a] wz fun e w' => e = .returned (.int .i64 id) ∧ Below wz.heap.size wz w') (hS : ∀ wz : World, Below w0.heap.size w0 wz → Calls Tryd.prog 75 #[.pointer (some ⟨hb, 0, none⟩), .int .i64 a] wz fun e w' => e = .returned (.int .i64 (n : Int)) ∧ Below wz.heap.size wz w')
    (hQ : ∀ (sEm sEn sEo sEp sEq sEr sEs sEt sEu sEv sEw sEx sEy sEz sEA sEB sEC sED sEE sEF sEG sEH sEI sEJ sEK sEL sEM sEN sEO sEP sEQ sER sES sET sEU sEV sEW sEX sEY sEZ sFa sFb sFc sFd sFe sFf sFg sFh sFi sFj sFk sFl sFm sFn sFo sFp sFq sFr sFs sFt sFu sFv sFw sFx sFy sFz sFA : Value) (w' : World), Below w0.heap.size w0 w' → Q .normal ⟨#[(.pointer (some ⟨zb,0,none⟩)),u1,u2,u3,u4,u5,u6,u7,u8,u9,(.pointer (some ⟨vb,0,none⟩)),Jb,(.int .i64 ((j : Int) + 1)),(.pointer (some ⟨ub,0,none⟩)),Je,Jf,Jg,Jh,Ji,Jj,Jk,Jl,Jm,Jn,Jo,Jp,Jq,Jr,Js,Jt,Ju,Jv,Jw,Jx,Jy,Jz,Qa,Qb,Qc,Qd,Qe,Qf,Qg,Qh,Qi,Qj,Qk,Ql,Qm,Qn,Qo,Qp,Qq,Qr,Qs,Qt,Qu,Qv,Qw,Qx,Qy,Qz,Xe,Xg,Xh,Xi,Xj,Xk,Xn,Xo,Xp,Xq,Xt,Xu,Xv,Xx,Xy,Xz,Yg,Yh,Yi,Yj,Yk,Yl,Ym,Yn,Yo,Yp,Yq,Yr,Ys,Yt,Yu,Yv,Yw,Yx,Yy,Yz,Ua,Ub,Uc,Ud,Ue,Uf,Ug,Uh,Ui,Uj,Uk,Ul,Um,Un,Uo,Up,Uq,Ur,Us,Ut,Uu,Uv,Uw,Ux,Uy,Uz,Wc,Wd,We,Wf,Wg,Wh,Wi,Wj,Wk,Wl,Wm,Wn,Wo,Wp,Wq,Wt,Wu,Ww,Wx,Wy,Wz,Ka,Kb,Kc,Kd,Ke,Kf,Kg,Kh,Kj,Kl,Km,Kn,Ko,Kp,Kq,Kr,Kt,Ku,Kv,Kw,Kx,Ky,Kz,Rg,Rh,Ri,Rj,Rk,Rl,Rm,Rp,Rq,Rt,Ru,Rx,Ry,Rz,Gc,Ge,Gf,Gg,Gh,Gi,Gj,Gm,Gn,Gp,Gq,Gt,Gu,Gv,Gx,Gy,Gz,Fe,Ff,Fg,Fh,Fi,Fj,Fk,Fm,Fo,Fp,Fq,Fs,Ft,Fu,Fv,Fw,Fx,Fy,Fz,Ec,Ee,sEm,sEn,sEo,sEp,sEq,sEr,sEs,sEt,sEu,sEv,sEw,sEx,sEy,sEz,sEA,sEB,sEC,sED,sEE,sEF,sEG,sEH,sEI,sEJ,sEK,sEL,sEM,sEN,sEO,sEP,sEQ,sER,sES,sET,sEU,sEV,sEW,sEX,sEY,sEZ,sFa,sFb,sFc,sFd,sFe,sFf,sFg,sFh,sFi,sFj,sFk,sFl,sFm,sFn,sFo,sFp,sFq,sFr,sFs,sFt,sFu,sFv,sFw,sFx,sFy,sFz,sFA,(.bool false),Nl,Nn,Np,Nq,Ns,Nt,Nu,Nv,Nw,Nx,Ny,Nz,Ba,Bc,Be,Bh,Bi,Bj,Bk,Bo,Bp,Bs,Bt,Bv,Bx,Mb,Mc,Md,Me,Mg,Mh,Mi,Mj,Mk,Mm,Mo,Mp,Mq,Mr,Mt,Mu,Mv,Mw,Mx,My,Mz,Ha,Hb,He,Hg,Hh,Hi,Hj,Hk,Hm,Ho,Hp,Hq,Hs,Ht,Hu,Hv,Hw,Hx,Hy,Tp,Tq,Ts,Tu,Tx,Tz,Va,Vb,Vc,Vd,Ve,Vf,Vg,Vh,Vi,Vj,Vk,Vm,Vn,Vo,Vp,Vq,Vs,Vt,Vu,Vv,Vw,Vx,Vy,Vz,Za,Zc,Zd,Ze,Zf,Zg,Zh,Zi,Zj,Zk,Zl,Zm,Zo,Zp,Zq,Zt,Zu,Zw,Zx,Zy,Zz,u404,u405,u406,u407], []⟩ w') :
    Code.wp Tryd.prog (Cut.piece Tryd.f31 (Cut.region 23)) Q ⟨#[(.pointer (some ⟨zb,0,none⟩)),u1,u2,u3,u4,u5,u6,u7,u8,u9,(.pointer (some ⟨vb,0,none⟩)),Jb,(.int .i64 ((j : Int) + 1)),(.pointer (some ⟨ub,0,none⟩)),Je,Jf,Jg,Jh,Ji,Jj,Jk,Jl,Jm,Jn,Jo,Jp,Jq,Jr,Js,Jt,Ju,Jv,Jw,Jx,Jy,Jz,Qa,Qb,Qc,Qd,Qe,Qf,Qg,Qh,Qi,Qj,Qk,Ql,Qm,Qn,Qo,Qp,Qq,Qr,Qs,Qt,Qu,Qv,Qw,Qx,Qy,Qz,Xe,Xg,Xh,Xi,Xj,Xk,Xn,Xo,Xp,Xq,Xt,Xu,Xv,Xx,Xy,Xz,Yg,Yh,Yi,Yj,Yk,Yl,Ym,Yn,Yo,Yp,Yq,Yr,Ys,Yt,Yu,Yv,Yw,Yx,Yy,Yz,Ua,Ub,Uc,Ud,Ue,Uf,Ug,Uh,Ui,Uj,Uk,Ul,Um,Un,Uo,Up,Uq,Ur,Us,Ut,Uu,Uv,Uw,Ux,Uy,Uz,Wc,Wd,We,Wf,Wg,Wh,Wi,Wj,Wk,Wl,Wm,Wn,Wo,Wp,Wq,Wt,Wu,Ww,Wx,Wy,Wz,Ka,Kb,Kc,Kd,Ke,Kf,Kg,Kh,Kj,Kl,Km,Kn,Ko,Kp,Kq,Kr,Kt,Ku,Kv,Kw,Kx,Ky,Kz,Rg,Rh,Ri,Rj,Rk,Rl,Rm,Rp,Rq,Rt,Ru,Rx,Ry,Rz,Gc,Ge,Gf,Gg,Gh,Gi,Gj,Gm,Gn,Gp,Gq,Gt,Gu,Gv,Gx,Gy,Gz,Fe,Ff,Fg,Fh,Fi,Fj,Fk,Fm,Fo,Fp,Fq,Fs,Ft,Fu,Fv,Fw,Fx,Fy,Fz,Ec,Ee,Ef,Eg,Eh,Ei,Ej,Ek,Em,En,Eo,Ep,Eu,Ev,Ex,Ey,Ez,Da,Db,Dc,Dd,Dg,Dh,Di,Dj,Dk,Dl,Dm,Dn,Do,Dp,Dq,Dt,Du,Dv,Dw,Dx,Dy,Dz,Pa,Pb,Pc,Pe,Pf,Pg,Ph,Pi,Pj,Pk,Pm,Pn,Po,Pq,Ps,Pt,Pu,Pv,Pw,Px,Py,Pz,Na,Nc,Nd,Nf,Ng,Nh,Ni,Nj,Nk,Nl,Nn,Np,Nq,Ns,Nt,Nu,Nv,Nw,Nx,Ny,Nz,Ba,Bc,Be,Bh,Bi,Bj,Bk,Bo,Bp,Bs,Bt,Bv,Bx,Mb,Mc,Md,Me,Mg,Mh,Mi,Mj,Mk,Mm,Mo,Mp,Mq,Mr,Mt,Mu,Mv,Mw,Mx,My,Mz,Ha,Hb,He,Hg,Hh,Hi,Hj,Hk,Hm,Ho,Hp,Hq,Hs,Ht,Hu,Hv,Hw,Hx,Hy,Tp,Tq,Ts,Tu,Tx,Tz,Va,Vb,Vc,Vd,Ve,Vf,Vg,Vh,Vi,Vj,Vk,Vm,Vn,Vo,Vp,Vq,Vs,Vt,Vu,Vv,Vw,Vx,Vy,Vz,Za,Zc,Zd,Ze,Zf,Zg,Zh,Zi,Zj,Zk,Zl,Zm,Zo,Zp,Zq,Zt,Zu,Zw,Zx,Zy,Zz,u404,u405,u406,u407], []⟩ w0 := by
  conv => arg 2; whnf
  have k0 : (0 : Int) ≤ (j : Int) := by omega
  have k1 : (j : Int) < (m : Int) := by omega
  have c1 : IntKind.i64.wrap ((j : Int) + 1 - 1) = (j : Int) := by rw [Int.add_sub_cancel]; exact IntWalk.i64_in _ (by omega)
  have c2 : IntKind.i64.wrap (j : Int) = (j : Int) := IntWalk.i64_in _ (by omega)
  have A0 := Lib.hid hQ
  have A1 := Lib.hid hK
  have A3 := Lib.hid hI
  have A4 := Lib.hid hS
  have b0 : Below w0.heap.size w0 w0.drew := (Below.refl _ _).drew
  have B0 := Lib.hid b0
  have hs : ∀ wz : World, Below w0.heap.size w0 wz → wz.cell? ⟨zb, 0, none⟩ = some (.pointer (some ⟨hb, 0, none⟩)) ∧ wz.cell? ⟨zb, 4, none⟩ = some (.slice (some ⟨gK, 0, none⟩) m cK) ∧ wz.cell? ⟨gK, j, none⟩ = some (.bool true) ∧ wz.cell? ⟨vb, 0, none⟩ = some (.int .i64 4) ∧ wz.cell? ⟨vb, 1, none⟩ = some (.int .i64 a) ∧ wz.cell? ⟨ub, 0, none⟩ = some (.int .i64 kind) ∧ wz.cell? ⟨ub, 2, none⟩ = some (.int .i64 id) ∧ wz.cell? ⟨ub, 4, none⟩ = some (.slice oI n cI) ∧ wz.cell? ⟨vb, 2, none⟩ = some (.string ByteArray.empty) ∧ wz.cell? ⟨zb, 2, none⟩ = some (.slice (some ⟨gW, 0, none⟩) m cW) ∧ wz.cell? ⟨gW, j * 3, none⟩ = some (.int .i64 4) ∧ wz.cell? ⟨gW, j * 3 + 1, none⟩ = some (.int .i64 a) ∧ wz.cell? ⟨gW, j * 3 + 2, none⟩ = some (.string ByteArray.empty) := fun wz hb => ⟨(hb.cell (World.block_lt_of_cell? w0 _ z0)).trans z0, (hb.cell (World.block_lt_of_cell? w0 _ z4)).trans z4, (hb.cell (World.block_lt_of_cell? w0 _ zk)).trans zk, (hb.cell (World.block_lt_of_cell? w0 _ v0)).trans v0, (hb.cell (World.block_lt_of_cell? w0 _ v1)).trans v1, (hb.cell (World.block_lt_of_cell? w0 _ t0)).trans t0, (hb.cell (World.block_lt_of_cell? w0 _ t2)).trans t2, (hb.cell (World.block_lt_of_cell? w0 _ t4)).trans t4, (hb.cell (World.block_lt_of_cell? w0 _ v2)).trans v2, (hb.cell (World.block_lt_of_cell? w0 _ z2)).trans z2, (hb.cell (World.block_lt_of_cell? w0 _ w0')).trans w0', (hb.cell (World.block_lt_of_cell? w0 _ w1')).trans w1', (hb.cell (World.block_lt_of_cell? w0 _ w2')).trans w2'⟩
  have A5 := Lib.hid hs
  have hs0 := hs _ b0
  clear hQ hK hI hS hs b0 z0 z4 zk v0 v1 t0 t2 t4 v2 z2 w0' w1' w2'
  refine wp_region_noPanic ?_
  refine RegU.begin (S := fun wz => wz.cell? ⟨zb, 0, none⟩ = some (.pointer (some ⟨hb, 0, none⟩)) ∧ wz.cell? ⟨zb, 4, none⟩ = some (.slice (some ⟨gK, 0, none⟩) m cK) ∧ wz.cell? ⟨gK, j, none⟩ = some (.bool true) ∧ wz.cell? ⟨vb, 0, none⟩ = some (.int .i64 4) ∧ wz.cell? ⟨vb, 1, none⟩ = some (.int .i64 a) ∧ wz.cell? ⟨ub, 0, none⟩ = some (.int .i64 kind) ∧ wz.cell? ⟨ub, 2, none⟩ = some (.int .i64 id) ∧ wz.cell? ⟨ub, 4, none⟩ = some (.slice oI n cI) ∧ wz.cell? ⟨vb, 2, none⟩ = some (.string ByteArray.empty) ∧ wz.cell? ⟨zb, 2, none⟩ = some (.slice (some ⟨gW, 0, none⟩) m cW) ∧ wz.cell? ⟨gW, j * 3, none⟩ = some (.int .i64 4) ∧ wz.cell? ⟨gW, j * 3 + 1, none⟩ = some (.int .i64 a) ∧ wz.cell? ⟨gW, j * 3 + 2, none⟩ = some (.string ByteArray.empty)) (N := [8, 9, 14, 15, 16, 17, 18, 19, 20, 21, 30, 31, 32, 33, 34, 35, 36, 44, 45, 46, 47, 48, 49, 50, 58, 59, 60, 61, 62, 63, 64, 65]) (by kernel_rfl) ?_ (fun hHeld => ?_)
  · exact hs0
  refine RegU.tk [1, 2, 3, 4, 5, 6, 7, 8, 9, 10, 11, 12, 13, 14, 15, 16, 17, 18, 19, 20, 21, 22, 23, 24, 25, 26, 27, 28, 29, 30, 31, 32, 33, 34, 35, 36, 37, 38, 39, 40, 41, 42, 43, 44, 45, 46, 47, 48, 49, 50, 51, 52, 53, 54, 55, 56, 57, 58, 59, 60, 61, 62, 63, 64, 65, 66, 67] 0 ?_
  refine RegU.tk [2, 3, 4, 5, 6, 7, 8, 9, 10, 11, 12, 13, 14, 15, 16, 17, 18, 19, 20, 21, 22, 23, 24, 25, 26, 27, 28, 29, 30, 31, 32, 33, 34, 35, 36, 37, 38, 39, 40, 41, 42, 43, 44, 45, 46, 47, 48, 49, 50, 51, 52, 53, 54, 55, 56, 57, 58, 59, 60, 61, 62, 63, 64, 65, 66, 67] 1 ?_
  refine RegU.tk [3, 4, 5, 6, 7, 8, 9, 10, 11, 12, 13, 14, 15, 16, 17, 18, 19, 20, 21, 22, 23, 24, 25, 26, 27, 28, 29, 30, 31, 32, 33, 34, 35, 36, 37, 38, 39, 40, 41, 42, 43, 44, 45, 46, 47, 48, 49, 50, 51, 52, 53, 54, 55, 56, 57, 58, 59, 60, 61, 62, 63, 64, 65, 66, 67] 2 ?_
  refine RegU.tk [4, 5, 6, 7, 8, 9, 10, 11, 12, 13, 14, 15, 16, 17, 18, 19, 20, 21, 22, 23, 24, 25, 26, 27, 28, 29, 30, 31, 32, 33, 34, 35, 36, 37, 38, 39, 40, 41, 42, 43, 44, 45, 46, 47, 48, 49, 50, 51, 52, 53, 54, 55, 56, 57, 58, 59, 60, 61, 62, 63, 64, 65, 66, 67] 3 ?_
  refine RegU.tk [5, 6, 7, 10, 11, 12, 13, 14, 15, 16, 17, 18, 19, 20, 21, 22, 23, 24, 25, 26, 27, 28, 29, 30, 31, 32, 33, 34, 35, 36, 37, 38, 39, 40, 41, 42, 43, 44, 45, 46, 47, 48, 49, 50, 51, 52, 53, 54, 55, 56, 57, 58, 59, 60, 61, 62, 63, 64, 65, 66, 67] 4 ?_
  refine RegU.tk [6, 7, 10, 11, 12, 13, 14, 15, 16, 17, 18, 19, 20, 21, 22, 23, 24, 25, 26, 27, 28, 29, 30, 31, 32, 33, 34, 35, 36, 37, 38, 39, 40, 41, 42, 43, 44, 45, 46, 47, 48, 49, 50, 51, 52, 53, 54, 55, 56, 57, 58, 59, 60, 61, 62, 63, 64, 65, 66, 67] 5 ?_
  refine RegU.tk [7, 10, 11, 12, 13, 14, 15, 16, 17, 18, 19, 20, 21, 22, 23, 24, 25, 26, 27, 28, 29, 30, 31, 32, 33, 34, 35, 36, 37, 38, 39, 40, 41, 42, 43, 44, 45, 46, 47, 48, 49, 50, 51, 52, 53, 54, 55, 56, 57, 58, 59, 60, 61, 62, 63, 64, 65, 66, 67] 6 ?_
  refine RegU.tk [10, 11, 12, 13, 14, 15, 16, 17, 18, 19, 20, 21, 22, 23, 24, 25, 26, 27, 28, 29, 30, 31, 32, 33, 34, 35, 36, 37, 38, 39, 40, 41, 42, 43, 44, 45, 46, 47, 48, 49, 50, 51, 52, 53, 54, 55, 56, 57, 58, 59, 60, 61, 62, 63, 64, 65, 66, 67] 7 ?_
  refine RegU.tk [9, 10, 11, 12, 13, 14, 15, 16, 17, 18, 19, 20, 21, 22, 23, 24, 25, 26, 27, 28, 29, 30, 31, 32, 33, 34, 35, 36, 37, 38, 39, 40, 41, 42, 43, 44, 45, 46, 47, 48, 49, 50, 51, 52, 53, 54, 55, 56, 57, 58, 59, 60, 61, 62, 63, 64, 65, 66, 67] 8 ?_
  refine RegU.tk [10, 11, 12, 13, 14, 15, 16, 17, 18, 19, 20, 21, 22, 23, 24, 25, 26, 27, 28, 29, 30, 31, 32, 33, 34, 35, 36, 37, 38, 39, 40, 41, 42, 43, 44, 45, 46, 47, 48, 49, 50, 51, 52, 53, 54, 55, 56, 57, 58, 59, 60, 61, 62, 63, 64, 65, 66, 67] 9 ?_
  refine RegU.tk [11, 12, 13, 14, 15, 16, 17, 18, 19, 20, 21, 22, 23, 24, 25, 26, 27, 28, 29, 30, 31, 32, 33, 34, 35, 36, 37, 38, 39, 40, 41, 42, 43, 44, 45, 46, 47, 48, 49, 50, 51, 52, 53, 54, 55, 56, 57, 58, 59, 60, 61, 62, 63, 64, 65, 66, 67] 10 ?_
  refine RegU.tk [12, 13, 14, 15, 16, 17, 18, 19, 20, 21, 22, 23, 24, 25, 26, 27, 28, 29, 30, 31, 32, 33, 34, 35, 36, 37, 38, 39, 40, 41, 42, 43, 44, 45, 46, 47, 48, 49, 50, 51, 52, 53, 54, 55, 56, 57, 58, 59, 60, 61, 62, 63, 64, 65, 66, 67] 11 ?_
  refine RegU.tk [13, 14, 15, 16, 17, 18, 19, 20, 21, 22, 23, 24, 25, 26, 27, 28, 29, 30, 31, 32, 33, 34, 35, 36, 37, 38, 39, 40, 41, 42, 43, 44, 45, 46, 47, 48, 49, 50, 51, 52, 53, 54, 55, 56, 57, 58, 59, 60, 61, 62, 63, 64, 65, 66, 67] 12 ?_
  refine RegU.tk [22, 23, 24, 25, 26, 27, 28, 29, 30, 31, 32, 33, 34, 35, 36, 37, 38, 39, 40, 41, 42, 43, 44, 45, 46, 47, 48, 49, 50, 51, 52, 53, 54, 55, 56, 57, 58, 59, 60, 61, 62, 63, 64, 65, 66, 67] 13 ?_
  refine RegU.tk [15, 16, 17, 20, 21, 22, 23, 24, 25, 26, 27, 28, 29, 30, 31, 32, 33, 34, 35, 36, 37, 38, 39, 40, 41, 42, 43, 44, 45, 46, 47, 48, 49, 50, 51, 52, 53, 54, 55, 56, 57, 58, 59, 60, 61, 62, 63, 64, 65, 66, 67] 14 ?_
  refine RegU.tk [16, 17, 20, 21, 22, 23, 24, 25, 26, 27, 28, 29, 30, 31, 32, 33, 34, 35, 36, 37, 38, 39, 40, 41, 42, 43, 44, 45, 46, 47, 48, 49, 50, 51, 52, 53, 54, 55, 56, 57, 58, 59, 60, 61, 62, 63, 64, 65, 66, 67] 15 ?_
  refine RegU.tk [17, 20, 21, 22, 23, 24, 25, 26, 27, 28, 29, 30, 31, 32, 33, 34, 35, 36, 37, 38, 39, 40, 41, 42, 43, 44, 45, 46, 47, 48, 49, 50, 51, 52, 53, 54, 55, 56, 57, 58, 59, 60, 61, 62, 63, 64, 65, 66, 67] 16 ?_
  refine RegU.tk [20, 21, 22, 23, 24, 25, 26, 27, 28, 29, 30, 31, 32, 33, 34, 35, 36, 37, 38, 39, 40, 41, 42, 43, 44, 45, 46, 47, 48, 49, 50, 51, 52, 53, 54, 55, 56, 57, 58, 59, 60, 61, 62, 63, 64, 65, 66, 67] 17 ?_
  refine RegU.tk [19, 20, 21, 22, 23, 24, 25, 26, 27, 28, 29, 30, 31, 32, 33, 34, 35, 36, 37, 38, 39, 40, 41, 42, 43, 44, 45, 46, 47, 48, 49, 50, 51, 52, 53, 54, 55, 56, 57, 58, 59, 60, 61, 62, 63, 64, 65, 66, 67] 18 ?_
  refine RegU.tk [20, 21, 22, 23, 24, 25, 26, 27, 28, 29, 30, 31, 32, 33, 34, 35, 36, 37, 38, 39, 40, 41, 42, 43, 44, 45, 46, 47, 48, 49, 50, 51, 52, 53, 54, 55, 56, 57, 58, 59, 60, 61, 62, 63, 64, 65, 66, 67] 19 ?_
  refine RegU.tk [21, 22, 23, 24, 25, 26, 27, 28, 29, 30, 31, 32, 33, 34, 35, 36, 37, 38, 39, 40, 41, 42, 43, 44, 45, 46, 47, 48, 49, 50, 51, 52, 53, 54, 55, 56, 57, 58, 59, 60, 61, 62, 63, 64, 65, 66, 67] 20 ?_
  refine RegU.tk [22, 23, 24, 25, 26, 27, 28, 29, 30, 31, 32, 33, 34, 35, 36, 37, 38, 39, 40, 41, 42, 43, 44, 45, 46, 47, 48, 49, 50, 51, 52, 53, 54, 55, 56, 57, 58, 59, 60, 61, 62, 63, 64, 65, 66, 67] 21 ?_
  refine RegU.tk [23, 24, 25, 26, 27, 28, 29, 30, 31, 32, 33, 34, 35, 36, 37, 38, 39, 40, 41, 42, 43, 44, 45, 46, 47, 48, 49, 50, 51, 52, 53, 54, 55, 56, 57, 58, 59, 60, 61, 62, 63, 64, 65, 66, 67] 22 ?_
  refine RegU.tk [24, 25, 26, 27, 28, 29, 30, 31, 32, 33, 34, 35, 36, 37, 38, 39, 40, 41, 42, 43, 44, 45, 46, 47, 48, 49, 50, 51, 52, 53, 54, 55, 56, 57, 58, 59, 60, 61, 62, 63, 64, 65, 66, 67] 23 ?_
  refine RegU.tk [25, 26, 27, 28, 29, 30, 31, 32, 33, 34, 35, 36, 37, 38, 39, 40, 41, 42, 43, 44, 45, 46, 47, 48, 49, 50, 51, 52, 53, 54, 55, 56, 57, 58, 59, 60, 61, 62, 63, 64, 65, 66, 67] 24 ?_
  refine RegU.tk [26, 27, 28, 29, 30, 31, 32, 33, 34, 35, 36, 37, 38, 39, 40, 41, 42, 43, 44, 45, 46, 47, 48, 49, 50, 51, 52, 53, 54, 55, 56, 57, 58, 59, 60, 61, 62, 63, 64, 65, 66, 67] 25 ?_
  refine RegU.tk [27, 28, 29, 32, 37, 38, 39, 40, 41, 42, 43, 44, 45, 46, 47, 48, 49, 50, 51, 52, 53, 54, 55, 56, 57, 58, 59, 60, 61, 62, 63, 64, 65, 66, 67] 26 ?_
  refine RegU.tk [28, 29, 32, 37, 38, 39, 40, 41, 42, 43, 44, 45, 46, 47, 48, 49, 50, 51, 52, 53, 54, 55, 56, 57, 58, 59, 60, 61, 62, 63, 64, 65, 66, 67] 27 ?_
  refine RegU.tk [29, 32, 37, 38, 39, 40, 41, 42, 43, 44, 45, 46, 47, 48, 49, 50, 51, 52, 53, 54, 55, 56, 57, 58, 59, 60, 61, 62, 63, 64, 65, 66, 67] 28 ?_
  refine RegU.tk [32, 37, 38, 39, 40, 41, 42, 43, 44, 45, 46, 47, 48, 49, 50, 51, 52, 53, 54, 55, 56, 57, 58, 59, 60, 61, 62, 63, 64, 65, 66, 67] 29 ?_
  refine RegU.tk [31, 32, 37, 38, 39, 40, 41, 42, 43, 44, 45, 46, 47, 48, 49, 50, 51, 52, 53, 54, 55, 56, 57, 58, 59, 60, 61, 62, 63, 64, 65, 66, 67] 30 ?_
  refine RegU.tk [32, 37, 38, 39, 40, 41, 42, 43, 44, 45, 46, 47, 48, 49, 50, 51, 52, 53, 54, 55, 56, 57, 58, 59, 60, 61, 62, 63, 64, 65, 66, 67] 31 ?_
  refine RegU.tk [34, 35, 36, 37, 38, 39, 40, 41, 42, 43, 44, 45, 46, 47, 48, 49, 50, 51, 52, 53, 54, 55, 56, 57, 58, 59, 60, 61, 62, 63, 64, 65, 66, 67] 33 ?_
  refine RegU.tk [35, 36, 37, 38, 39, 40, 41, 42, 43, 44, 45, 46, 47, 48, 49, 50, 51, 52, 53, 54, 55, 56, 57, 58, 59, 60, 61, 62, 63, 64, 65, 66, 67] 34 ?_
  refine RegU.tk [36, 37, 38, 39, 40, 41, 42, 43, 44, 45, 46, 47, 48, 49, 50, 51, 52, 53, 54, 55, 56, 57, 58, 59, 60, 61, 62, 63, 64, 65, 66, 67] 35 ?_
  refine RegU.tk [37, 38, 39, 40, 41, 42, 43, 44, 45, 46, 47, 48, 49, 50, 51, 52, 53, 54, 55, 56, 57, 58, 59, 60, 61, 62, 63, 64, 65, 66, 67] 36 ?_
  refine RegU.one (i := 32) (by kernel_rfl) rfl (fun K hK => ?_)
  go_simp
  refine (A1.out _ B0.out).mono ?_
  rintro e w1 ⟨rfl, hb1⟩
  have B1 := Lib.hid (B0.out.trans (hb1.mono B0.out.size))
  clear hb1
  refine hK.out _ _ (A5.out _ B1.out) (fun hHeld => ?_)
  clear hK K
  try simp only [Act.put, List.setIfInBounds_toArray, List.set_cons_zero, List.set_cons_succ]
  refine RegU.tk [38, 39, 40, 41, 42, 43, 44, 45, 46, 47, 48, 49, 50, 51, 52, 53, 54, 55, 56, 57, 58, 59, 60, 61, 62, 63, 64, 65, 66, 67] 37 ?_
  refine RegU.tk [39, 40, 41, 42, 43, 44, 45, 46, 47, 48, 49, 50, 51, 52, 53, 54, 55, 56, 57, 58, 59, 60, 61, 62, 63, 64, 65, 66, 67] 38 ?_
  refine RegU.tk [40, 41, 42, 43, 44, 45, 46, 47, 48, 49, 50, 51, 52, 53, 54, 55, 56, 57, 58, 59, 60, 61, 62, 63, 64, 65, 66, 67] 39 ?_
  refine RegU.tk [41, 42, 43, 46, 51, 52, 53, 54, 55, 56, 57, 58, 59, 60, 61, 62, 63, 64, 65, 66, 67] 40 ?_
  refine RegU.tk [42, 43, 46, 51, 52, 53, 54, 55, 56, 57, 58, 59, 60, 61, 62, 63, 64, 65, 66, 67] 41 ?_
  refine RegU.tk [43, 46, 51, 52, 53, 54, 55, 56, 57, 58, 59, 60, 61, 62, 63, 64, 65, 66, 67] 42 ?_
  refine RegU.tk [46, 51, 52, 53, 54, 55, 56, 57, 58, 59, 60, 61, 62, 63, 64, 65, 66, 67] 43 ?_
  refine RegU.tk [45, 46, 51, 52, 53, 54, 55, 56, 57, 58, 59, 60, 61, 62, 63, 64, 65, 66, 67] 44 ?_
  refine RegU.tk [46, 51, 52, 53, 54, 55, 56, 57, 58, 59, 60, 61, 62, 63, 64, 65, 66, 67] 45 ?_
  refine RegU.tk [48, 49, 50, 51, 52, 53, 54, 55, 56, 57, 58, 59, 60, 61, 62, 63, 64, 65, 66, 67] 47 ?_
  refine RegU.tk [49, 50, 51, 52, 53, 54, 55, 56, 57, 58, 59, 60, 61, 62, 63, 64, 65, 66, 67] 48 ?_
  refine RegU.tk [50, 51, 52, 53, 54, 55, 56, 57, 58, 59, 60, 61, 62, 63, 64, 65, 66, 67] 49 ?_
  refine RegU.tk [51, 52, 53, 54, 55, 56, 57, 58, 59, 60, 61, 62, 63, 64, 65, 66, 67] 50 ?_
  refine RegU.one (i := 46) (by kernel_rfl) rfl (fun K hK => ?_)
  go_simp
  refine (A3.out _ B1.out).mono ?_
  rintro e w2 ⟨rfl, hb2⟩
  have B2 := Lib.hid (B1.out.trans (hb2.mono B1.out.size))
  clear hb2
  refine hK.out _ _ (A5.out _ B2.out) (fun hHeld => ?_)
  clear hK K
  try simp only [Act.put, List.setIfInBounds_toArray, List.set_cons_zero, List.set_cons_succ]
  refine RegU.tk [52, 53, 54, 55, 56, 57, 58, 59, 60, 61, 62, 63, 64, 65, 66, 67] 51 ?_
  refine RegU.tk [53, 54, 55, 56, 57, 58, 59, 60, 61, 62, 63, 64, 65, 66, 67] 52 ?_
  refine RegU.tk [54, 55, 56, 57, 58, 59, 60, 61, 62, 63, 64, 65, 66, 67] 53 ?_
  refine RegU.tk [55, 56, 57, 60, 66, 67] 54 ?_
  refine RegU.tk [56, 57, 60, 66, 67] 55 ?_
  refine RegU.tk [57, 60, 66, 67] 56 ?_
  refine RegU.tk [60, 66, 67] 57 ?_
  refine RegU.tk [59, 60, 66, 67] 58 ?_
  refine RegU.tk [60, 66, 67] 59 ?_
  refine RegU.tk [62, 63, 64, 65, 66, 67] 61 ?_
  refine RegU.tk [63, 64, 65, 66, 67] 62 ?_
  refine RegU.tk [64, 65, 66, 67] 63 ?_
  refine RegU.tk [65, 66, 67] 64 ?_
  refine RegU.tk [66, 67] 65 ?_
  refine RegU.one (i := 60) (by kernel_rfl) rfl (fun K hK => ?_)
  go_simp
  refine (A4.out _ B2.out).mono ?_
  rintro e w3 ⟨rfl, hb3⟩
  have B3 := Lib.hid (B2.out.trans (hb3.mono B2.out.size))
  clear hb3
  refine hK.out _ _ (A5.out _ B3.out) (fun hHeld => ?_)
  clear hK K
  try simp only [Act.put, List.setIfInBounds_toArray, List.set_cons_zero, List.set_cons_succ]
  refine RegU.tk [67] 66 ?_
  refine RegU.tk [] 67 ?_
  refine RegU.rest [] [] (by kernel_rfl) rfl ?_
  refine NoPanic.normal ?_
  exact A0.out _ _ _ _ _ _ _ _ _ _ _ _ _ _ _ _ _ _ _ _ _ _ _ _ _ _ _ _ _ _ _ _ _ _ _ _ _ _ _ _ _ _ _ _ _ _ _ _ _ _ _ _ _ _ _ _ _ _ _ _ _ _ _ _ _ _ _ _ B3.out

end Go.Proofs.YthbkklnahhdgcaaDoor.PlSc
