/-
  HeapPlays' tells, whole.
-/
import Derived.Test.YthbkklnahhdgcaaDoorPG26
import Derived.Test.YthbkklnahhdgcaaDoorPG21
import Derived.Test.YthbkklnahhdgcaaDoorPG22
import Derived.Test.YthbkklnahhdgcaaDoorPG09
import Derived.Test.YthbkklnahhdgcaaDoorPG00
import Derived.Test.YthbkklnahhdgcaaDoorPG25
import Derived.Test.YthbkklnahhdgcaaDoorRows
import Derived.Test.YthbkklnahhdgcaaDoorPG12
import Derived.LaidLaws
import Derived.LaidHandle
set_option maxRecDepth 100000
set_option maxHeartbeats 4000000
namespace Go.Proofs.YthbkklnahhdgcaaDoor.PlSk
open Go Go.Proofs Go.RowKit Go.Maps Go.Proofs.YthbkklnahhdgcaaDoor.Lib HeapR HeapB HeapC HeapD HeapG HeapH ErrC ChA ChT ChCa ChCc ChE ChH ChI ChL ChN ChO ChW ChZ PlA PlT PlZ PlX PlYa PlU PlG PlGa PlI PlJ PlP PlSa PlSe PlSh PlSi PlSj PlRb

def Inv_none_loop (w0 : World) (zb : Nat) (u1 u2 u3 u4 u6 u7 u8 u9 Ja Jb Jc Jd Je Jf Jg Jh Ji Jj Jk Jl Jm Jn Jv Jw Jx Jy Jz Qa Qb Qc Qd Qe Qf Qg Qh Qi Qj Qk Ql Qm Qn Qo Qp Qq Qr Qs Qt Qu Qv Qw Qx Qy Qz Xe Xg Xh Xi Xj Xk Xn Xo Xp Xq Xt Xu Xv Xx Xy Xz Yg Yh Yi Yj Yk Yl Ym Yn Yo Yp Yq Yr Ys Yt Yu Yv Yw Yx Yy Yz Ua Ub Uc Ud Ue Uf Ug Uh Ui Uj Uk Ul Um Un Uo Up Uq Ur Us Ut Uu Uv Uw Ux Uy Uz Wc Wd We Wf Wg Wh Wi Wj Wk Wl Wm Wn Wo Wp Wq Wt Wu Ww Wx Wy Wz Ka Kb Kc Kd Ke Kf Kg Kh Kj Kl Km Kn Ko Kp Kq Kr Kt Ku Kv Kw Kx Ky Kz Rg Rh Ri Rj Rk Rl Rm Rp Rq Rt Ru Rx Ry Rz Gc Ge Gf Gg Gh Gi Gj Gm Gn Gp Gq Gt Gu Gv Gx Gy Gz Fe Ff Fg Fh Fi Fj Fk Fm Fo Fp Fq Fs Ft Fu Fv Fw Fx Fy Fz Ec Ee Ef Eg Eh Ei Ej Ek Em En Eo Ep Eu Ev Ex Ey Ez Da Db Dc Dd Dg Dh Di Dj Dk Dl Dm Dn Do Dp Dq Dt Du Dv Dw Dx Dy Dz Pa Pb Pc Pe Pf Pg Ph Pi Pj Pk Pm Pn Po Pq Ps Pt Pu Pv Pw Px Py Pz Na Nc Nd Nf Ng Nh Ni Nj Nk Nl Nn Np Nq Ns Nt Nu Nv Nw Nx Ny Nz Ba Bc Be Bh Bi Bj Bk Bo Bp Bs Bt Bv Bx Mb Mc Md Me Mg Mh Mi Mj Mk Mm Mo Mp Mq Mr Mt Mu Mv Mw Mx My Mz Ha Hb He Hg Hh Hi Hj Hk Hm Ho Hp Hq Hs Ht Hu Hv Hw Hx Hy Tp Tq Ts Tu Tx Tz Va Vb Vc Vd Ve Vf Vg Vh Vi Vj Vk Vm Vn Vo Vp Vq Vs Vt Vu Vv Vw Vx Vy Vz Za Zc Zd Ze Zf Zg Zh Zi Zj Zk Zl Zm Zo Zp Zq Zt Zu Zw Zx Zy Zz u404 u405 u406 u407 : Value) (a : Act) (wr : World) : Prop :=
  ∃ (i : Nat) (s24 s25 s26 s27 s28 s29 s30 : Value), i ≤ 0 ∧ (wr = w0) ∧ a = ⟨#[(.pointer (some ⟨zb,0,none⟩)),u1,u2,u3,u4,(.int .i64 (i : Int)),u6,u7,u8,u9,Ja,Jb,Jc,Jd,Je,Jf,Jg,Jh,Ji,Jj,Jk,Jl,Jm,Jn,s24,s25,s26,s27,s28,s29,s30,Jv,Jw,Jx,Jy,Jz,Qa,Qb,Qc,Qd,Qe,Qf,Qg,Qh,Qi,Qj,Qk,Ql,Qm,Qn,Qo,Qp,Qq,Qr,Qs,Qt,Qu,Qv,Qw,Qx,Qy,Qz,Xe,Xg,Xh,Xi,Xj,Xk,Xn,Xo,Xp,Xq,Xt,Xu,Xv,Xx,Xy,Xz,Yg,Yh,Yi,Yj,Yk,Yl,Ym,Yn,Yo,Yp,Yq,Yr,Ys,Yt,Yu,Yv,Yw,Yx,Yy,Yz,Ua,Ub,Uc,Ud,Ue,Uf,Ug,Uh,Ui,Uj,Uk,Ul,Um,Un,Uo,Up,Uq,Ur,Us,Ut,Uu,Uv,Uw,Ux,Uy,Uz,Wc,Wd,We,Wf,Wg,Wh,Wi,Wj,Wk,Wl,Wm,Wn,Wo,Wp,Wq,Wt,Wu,Ww,Wx,Wy,Wz,Ka,Kb,Kc,Kd,Ke,Kf,Kg,Kh,Kj,Kl,Km,Kn,Ko,Kp,Kq,Kr,Kt,Ku,Kv,Kw,Kx,Ky,Kz,Rg,Rh,Ri,Rj,Rk,Rl,Rm,Rp,Rq,Rt,Ru,Rx,Ry,Rz,Gc,Ge,Gf,Gg,Gh,Gi,Gj,Gm,Gn,Gp,Gq,Gt,Gu,Gv,Gx,Gy,Gz,Fe,Ff,Fg,Fh,Fi,Fj,Fk,Fm,Fo,Fp,Fq,Fs,Ft,Fu,Fv,Fw,Fx,Fy,Fz,Ec,Ee,Ef,Eg,Eh,Ei,Ej,Ek,Em,En,Eo,Ep,Eu,Ev,Ex,Ey,Ez,Da,Db,Dc,Dd,Dg,Dh,Di,Dj,Dk,Dl,Dm,Dn,Do,Dp,Dq,Dt,Du,Dv,Dw,Dx,Dy,Dz,Pa,Pb,Pc,Pe,Pf,Pg,Ph,Pi,Pj,Pk,Pm,Pn,Po,Pq,Ps,Pt,Pu,Pv,Pw,Px,Py,Pz,Na,Nc,Nd,Nf,Ng,Nh,Ni,Nj,Nk,Nl,Nn,Np,Nq,Ns,Nt,Nu,Nv,Nw,Nx,Ny,Nz,Ba,Bc,Be,Bh,Bi,Bj,Bk,Bo,Bp,Bs,Bt,Bv,Bx,Mb,Mc,Md,Me,Mg,Mh,Mi,Mj,Mk,Mm,Mo,Mp,Mq,Mr,Mt,Mu,Mv,Mw,Mx,My,Mz,Ha,Hb,He,Hg,Hh,Hi,Hj,Hk,Hm,Ho,Hp,Hq,Hs,Ht,Hu,Hv,Hw,Hx,Hy,Tp,Tq,Ts,Tu,Tx,Tz,Va,Vb,Vc,Vd,Ve,Vf,Vg,Vh,Vi,Vj,Vk,Vm,Vn,Vo,Vp,Vq,Vs,Vt,Vu,Vv,Vw,Vx,Vy,Vz,Za,Zc,Zd,Ze,Zf,Zg,Zh,Zi,Zj,Zk,Zl,Zm,Zo,Zp,Zq,Zt,Zu,Zw,Zx,Zy,Zz,u404,u405,u406,u407], []⟩
def mu_none_loop (n : Nat) (a : Act) (_ : World) : Nat := n - (intOf (a.tmps.getD 5 undef)).toNat

theorem none_loop {Q : Exit → Act → World → Prop} {u1 u2 u3 u4 u6 u7 u8 u9 Ja Jb Jc Jd Je Jf Jg Jh Ji Jj Jk Jl Jm Jn Jo Jp Jq Jr Js Jt Ju Jv Jw Jx Jy Jz Qa Qb Qc Qd Qe Qf Qg Qh Qi Qj Qk Ql Qm Qn Qo Qp Qq Qr Qs Qt Qu Qv Qw Qx Qy Qz Xe Xg Xh Xi Xj Xk Xn Xo Xp Xq Xt Xu Xv Xx Xy Xz Yg Yh Yi Yj Yk Yl Ym Yn Yo Yp Yq Yr Ys Yt Yu Yv Yw Yx Yy Yz Ua Ub Uc Ud Ue Uf Ug Uh Ui Uj Uk Ul Um Un Uo Up Uq Ur Us Ut Uu Uv Uw Ux Uy Uz Wc Wd We Wf Wg Wh Wi Wj Wk Wl Wm Wn Wo Wp Wq Wt Wu Ww Wx Wy Wz Ka Kb Kc Kd Ke Kf Kg Kh Kj Kl Km Kn Ko Kp Kq Kr Kt Ku Kv Kw Kx Ky Kz Rg Rh Ri Rj Rk Rl Rm Rp Rq Rt Ru Rx Ry Rz Gc Ge Gf Gg Gh Gi Gj Gm Gn Gp Gq Gt Gu Gv Gx Gy Gz Fe Ff Fg Fh Fi Fj Fk Fm Fo Fp Fq Fs Ft Fu Fv Fw Fx Fy Fz Ec Ee Ef Eg Eh Ei Ej Ek Em En Eo Ep Eu Ev Ex Ey Ez Da Db Dc Dd Dg Dh Di Dj Dk Dl Dm Dn Do Dp Dq Dt Du Dv Dw Dx Dy Dz Pa Pb Pc Pe Pf Pg Ph Pi Pj Pk Pm Pn Po Pq Ps Pt Pu Pv Pw Px Py Pz Na Nc Nd Nf Ng Nh Ni Nj Nk Nl Nn Np Nq Ns Nt Nu Nv Nw Nx Ny Nz Ba Bc Be Bh Bi Bj Bk Bo Bp Bs Bt Bv Bx Mb Mc Md Me Mg Mh Mi Mj Mk Mm Mo Mp Mq Mr Mt Mu Mv Mw Mx My Mz Ha Hb He Hg Hh Hi Hj Hk Hm Ho Hp Hq Hs Ht Hu Hv Hw Hx Hy Tp Tq Ts Tu Tx Tz Va Vb Vc Vd Ve Vf Vg Vh Vi Vj Vk Vm Vn Vo Vp Vq Vs Vt Vu Vv Vw Vx Vy Vz Za Zc Zd Ze Zf Zg Zh Zi Zj Zk Zl Zm Zo Zp Zq Zt Zu Zw Zx Zy Zz u404 u405 u406 u407 : Value} (w0 : World) (zb : Nat) (w : World) (oT : Option Addr) (cT : Nat) (z1 : w0.cell? ⟨zb, 1, none⟩ = some (.slice oT 0 cT))
    (h0 : w = w0)
    (hQ : ∀ (s24 s25 s26 s27 s28 s29 s30 : Value) (w' : World), (w' = w0) → Q (.exit 0) ⟨#[(.pointer (some ⟨zb,0,none⟩)),u1,u2,u3,u4,(.int .i64 (0 : Int)),u6,u7,u8,u9,Ja,Jb,Jc,Jd,Je,Jf,Jg,Jh,Ji,Jj,Jk,Jl,Jm,Jn,s24,s25,s26,s27,s28,s29,s30,Jv,Jw,Jx,Jy,Jz,Qa,Qb,Qc,Qd,Qe,Qf,Qg,Qh,Qi,Qj,Qk,Ql,Qm,Qn,Qo,Qp,Qq,Qr,Qs,Qt,Qu,Qv,Qw,Qx,Qy,Qz,Xe,Xg,Xh,Xi,Xj,Xk,Xn,Xo,Xp,Xq,Xt,Xu,Xv,Xx,Xy,Xz,Yg,Yh,Yi,Yj,Yk,Yl,Ym,Yn,Yo,Yp,Yq,Yr,Ys,Yt,Yu,Yv,Yw,Yx,Yy,Yz,Ua,Ub,Uc,Ud,Ue,Uf,Ug,Uh,Ui,Uj,Uk,Ul,Um,Un,Uo,Up,Uq,Ur,Us,Ut,Uu,Uv,Uw,Ux,Uy,Uz,Wc,Wd,We,Wf,Wg,Wh,Wi,Wj,Wk,Wl,Wm,Wn,Wo,Wp,Wq,Wt,Wu,Ww,Wx,Wy,Wz,Ka,Kb,Kc,Kd,Ke,Kf,Kg,Kh,Kj,Kl,Km,Kn,Ko,Kp,Kq,Kr,Kt,Ku,Kv,Kw,Kx,Ky,Kz,Rg,Rh,Ri,Rj,Rk,Rl,Rm,Rp,Rq,Rt,Ru,Rx,Ry,Rz,Gc,Ge,Gf,Gg,Gh,Gi,Gj,Gm,Gn,Gp,Gq,Gt,Gu,Gv,Gx,Gy,Gz,Fe,Ff,Fg,Fh,Fi,Fj,Fk,Fm,Fo,Fp,Fq,Fs,Ft,Fu,Fv,Fw,Fx,Fy,Fz,Ec,Ee,Ef,Eg,Eh,Ei,Ej,Ek,Em,En,Eo,Ep,Eu,Ev,Ex,Ey,Ez,Da,Db,Dc,Dd,Dg,Dh,Di,Dj,Dk,Dl,Dm,Dn,Do,Dp,Dq,Dt,Du,Dv,Dw,Dx,Dy,Dz,Pa,Pb,Pc,Pe,Pf,Pg,Ph,Pi,Pj,Pk,Pm,Pn,Po,Pq,Ps,Pt,Pu,Pv,Pw,Px,Py,Pz,Na,Nc,Nd,Nf,Ng,Nh,Ni,Nj,Nk,Nl,Nn,Np,Nq,Ns,Nt,Nu,Nv,Nw,Nx,Ny,Nz,Ba,Bc,Be,Bh,Bi,Bj,Bk,Bo,Bp,Bs,Bt,Bv,Bx,Mb,Mc,Md,Me,Mg,Mh,Mi,Mj,Mk,Mm,Mo,Mp,Mq,Mr,Mt,Mu,Mv,Mw,Mx,My,Mz,Ha,Hb,He,Hg,Hh,Hi,Hj,Hk,Hm,Ho,Hp,Hq,Hs,Ht,Hu,Hv,Hw,Hx,Hy,Tp,Tq,Ts,Tu,Tx,Tz,Va,Vb,Vc,Vd,Ve,Vf,Vg,Vh,Vi,Vj,Vk,Vm,Vn,Vo,Vp,Vq,Vs,Vt,Vu,Vv,Vw,Vx,Vy,Vz,Za,Zc,Zd,Ze,Zf,Zg,Zh,Zi,Zj,Zk,Zl,Zm,Zo,Zp,Zq,Zt,Zu,Zw,Zx,Zy,Zz,u404,u405,u406,u407], []⟩ w') :
    Code.wp Tryd.prog (Cut.piece Tryd.f31 (Cut.loop 4)) Q ⟨#[(.pointer (some ⟨zb,0,none⟩)),u1,u2,u3,u4,(.int .i64 (0 : Int)),u6,u7,u8,u9,Ja,Jb,Jc,Jd,Je,Jf,Jg,Jh,Ji,Jj,Jk,Jl,Jm,Jn,Jo,Jp,Jq,Jr,Js,Jt,Ju,Jv,Jw,Jx,Jy,Jz,Qa,Qb,Qc,Qd,Qe,Qf,Qg,Qh,Qi,Qj,Qk,Ql,Qm,Qn,Qo,Qp,Qq,Qr,Qs,Qt,Qu,Qv,Qw,Qx,Qy,Qz,Xe,Xg,Xh,Xi,Xj,Xk,Xn,Xo,Xp,Xq,Xt,Xu,Xv,Xx,Xy,Xz,Yg,Yh,Yi,Yj,Yk,Yl,Ym,Yn,Yo,Yp,Yq,Yr,Ys,Yt,Yu,Yv,Yw,Yx,Yy,Yz,Ua,Ub,Uc,Ud,Ue,Uf,Ug,Uh,Ui,Uj,Uk,Ul,Um,Un,Uo,Up,Uq,Ur,Us,Ut,Uu,Uv,Uw,Ux,Uy,Uz,Wc,Wd,We,Wf,Wg,Wh,Wi,Wj,Wk,Wl,Wm,Wn,Wo,Wp,Wq,Wt,Wu,Ww,Wx,Wy,Wz,Ka,Kb,Kc,Kd,Ke,Kf,Kg,Kh,Kj,Kl,Km,Kn,Ko,Kp,Kq,Kr,Kt,Ku,Kv,Kw,Kx,Ky,Kz,Rg,Rh,Ri,Rj,Rk,Rl,Rm,Rp,Rq,Rt,Ru,Rx,Ry,Rz,Gc,Ge,Gf,Gg,Gh,Gi,Gj,Gm,Gn,Gp,Gq,Gt,Gu,Gv,Gx,Gy,Gz,Fe,Ff,Fg,Fh,Fi,Fj,Fk,Fm,Fo,Fp,Fq,Fs,Ft,Fu,Fv,Fw,Fx,Fy,Fz,Ec,Ee,Ef,Eg,Eh,Ei,Ej,Ek,Em,En,Eo,Ep,Eu,Ev,Ex,Ey,Ez,Da,Db,Dc,Dd,Dg,Dh,Di,Dj,Dk,Dl,Dm,Dn,Do,Dp,Dq,Dt,Du,Dv,Dw,Dx,Dy,Dz,Pa,Pb,Pc,Pe,Pf,Pg,Ph,Pi,Pj,Pk,Pm,Pn,Po,Pq,Ps,Pt,Pu,Pv,Pw,Px,Py,Pz,Na,Nc,Nd,Nf,Ng,Nh,Ni,Nj,Nk,Nl,Nn,Np,Nq,Ns,Nt,Nu,Nv,Nw,Nx,Ny,Nz,Ba,Bc,Be,Bh,Bi,Bj,Bk,Bo,Bp,Bs,Bt,Bv,Bx,Mb,Mc,Md,Me,Mg,Mh,Mi,Mj,Mk,Mm,Mo,Mp,Mq,Mr,Mt,Mu,Mv,Mw,Mx,My,Mz,Ha,Hb,He,Hg,Hh,Hi,Hj,Hk,Hm,Ho,Hp,Hq,Hs,Ht,Hu,Hv,Hw,Hx,Hy,Tp,Tq,Ts,Tu,Tx,Tz,Va,Vb,Vc,Vd,Ve,Vf,Vg,Vh,Vi,Vj,Vk,Vm,Vn,Vo,Vp,Vq,Vs,Vt,Vu,Vv,Vw,Vx,Vy,Vz,Za,Zc,Zd,Ze,Zf,Zg,Zh,Zi,Zj,Zk,Zl,Zm,Zo,Zp,Zq,Zt,Zu,Zw,Zx,Zy,Zz,u404,u405,u406,u407], []⟩ w := by
  conv => arg 2; whnf
  refine wp_loop (Inv_none_loop w0 zb u1 u2 u3 u4 u6 u7 u8 u9 Ja Jb Jc Jd Je Jf Jg Jh Ji Jj Jk Jl Jm Jn Jv Jw Jx Jy Jz Qa Qb Qc Qd Qe Qf Qg Qh Qi Qj Qk Ql Qm Qn Qo Qp Qq Qr Qs Qt Qu Qv Qw Qx Qy Qz Xe Xg Xh Xi Xj Xk Xn Xo Xp Xq Xt Xu Xv Xx Xy Xz Yg Yh Yi Yj Yk Yl Ym Yn Yo Yp Yq Yr Ys Yt Yu Yv Yw Yx Yy Yz Ua Ub Uc Ud Ue Uf Ug Uh Ui Uj Uk Ul Um Un Uo Up Uq Ur Us Ut Uu Uv Uw Ux Uy Uz Wc Wd We Wf Wg Wh Wi Wj Wk Wl Wm Wn Wo Wp Wq Wt Wu Ww Wx Wy Wz Ka Kb Kc Kd Ke Kf Kg Kh Kj Kl Km Kn Ko Kp Kq Kr Kt Ku Kv Kw Kx Ky Kz Rg Rh Ri Rj Rk Rl Rm Rp Rq Rt Ru Rx Ry Rz Gc Ge Gf Gg Gh Gi Gj Gm Gn Gp Gq Gt Gu Gv Gx Gy Gz Fe Ff Fg Fh Fi Fj Fk Fm Fo Fp Fq Fs Ft Fu Fv Fw Fx Fy Fz Ec Ee Ef Eg Eh Ei Ej Ek Em En Eo Ep Eu Ev Ex Ey Ez Da Db Dc Dd Dg Dh Di Dj Dk Dl Dm Dn Do Dp Dq Dt Du Dv Dw Dx Dy Dz Pa Pb Pc Pe Pf Pg Ph Pi Pj Pk Pm Pn Po Pq Ps Pt Pu Pv Pw Px Py Pz Na Nc Nd Nf Ng Nh Ni Nj Nk Nl Nn Np Nq Ns Nt Nu Nv Nw Nx Ny Nz Ba Bc Be Bh Bi Bj Bk Bo Bp Bs Bt Bv Bx Mb Mc Md Me Mg Mh Mi Mj Mk Mm Mo Mp Mq Mr Mt Mu Mv Mw Mx My Mz Ha Hb He Hg Hh Hi Hj Hk Hm Ho Hp Hq Hs Ht Hu Hv Hw Hx Hy Tp Tq Ts Tu Tx Tz Va Vb Vc Vd Ve Vf Vg Vh Vi Vj Vk Vm Vn Vo Vp Vq Vs Vt Vu Vv Vw Vx Vy Vz Za Zc Zd Ze Zf Zg Zh Zi Zj Zk Zl Zm Zo Zp Zq Zt Zu Zw Zx Zy Zz u404 u405 u406 u407) (mu_none_loop (0)) ?_ (fun a' wr hI => ?_)
  · exact ⟨0, Jo, Jp, Jq, Jr, Js, Jt, Ju, Nat.zero_le _, h0, rfl⟩
  obtain ⟨i, s24, s25, s26, s27, s28, s29, s30, hI⟩ := hI
  obtain ⟨hib, hR, rfl⟩ := hI
  clear h0
  subst hR
  have hi0 : i = 0 := by omega
  subst hi0
  have g0 : decide (((0 : Nat) : Int) < ((0 : Nat) : Int)) = false := by simp
  go_wp2
  rfl

variable {w : World} {O : Nat → Nat} {B : Nat} {V : Zv} {H : HS} {nu ol : List Ob} {T : List Th} {Z : Zn} {loc : Nat → Ob}
theorem tells_ok (h : ZR w O B V H T Z) (hz : ZI H nu ol T Z loc) (hTl : T.length ≤ 1000) :
    Calls Tryd.prog 31 #[.pointer (some ⟨V.zb, 0, none⟩)] w fun e w' => e = .returned (.bool true) ∧ Below w.heap.size w w' := by
  obtain ⟨oT, oW, oE, oK, gT, cT, gE, cE, gW, cW, gK, cK, hS⟩ := slots_of h
  have A0 := Lib.hid h
  have A1 := Lib.hid hz
  have A2 := Lib.hid hS
  have z1 : w.cell? ⟨V.zb, 1, none⟩ = some (.slice oT T.length cT) := (h.cz rfl).trans (congrArg some hS.v1)
  clear h hz hS
  go_enter Tryd.func31, Tryd.ntmps31
  refine wp_seq_k (fun K1 hK1 => ?_)
  have E1 := Lib.hid hK1
  clear hK1
  go_wp2_with fail
  refine E1.out _ _ ?_
  clear E1 K1
  refine wp_seq_k (fun K2 hK2 => ?_)
  have E2 := Lib.hid hK2
  clear hK2
  go_wp2_with fail
  refine E2.out _ _ ?_
  clear E2 K2
  refine wp_seq_k (fun K3 hK3 => ?_)
  have E3 := Lib.hid hK3
  clear hK3
  go_wp2_with fail
  refine E3.out _ _ ?_
  clear E3 K3
  refine wp_seq_k (fun K4 hK4 => ?_)
  have E4 := Lib.hid hK4
  clear hK4
  rcases Nat.eq_zero_or_pos T.length with h0 | h0
  · have eT : T = [] := List.length_eq_zero_iff.1 h0
    have hnx : (0 : Int) = (H.next : Int) := by
      rw [A1.out.next, eT]
      rfl
    rw [h0] at z1
    have B1 := Lib.hid hnx
    clear hnx h0
    go_wp2_with fail
    refine none_loop w V.zb w oT cT z1 rfl ?_
    intro _ _ _ _ _ _ _ w1 hw1
    subst hw1
    refine E4.out _ _ ?_
    exact tells_end w1 O B V H nu ol T Z loc none 0 0 w1.heap.size 0 B1.out A0.out A1.out hTl (by rw [eT]; rfl) (by rw [eT]; exact World.ownsRow_nil _ _ _ _) (fun a' w' h1 h2 h3 => bodyPost_ret (results_tmp rfl _ _ _) h2 ⟨by rw [h1], h3⟩)
  · have hv1 : V.tv = .slice (some ⟨gT, 0, none⟩) T.length cT := by rw [A2.out.v1, A2.out.o1 h0]
    have hv2 : V.wv = .slice (some ⟨gW, 0, none⟩) T.length cW := by rw [A2.out.v2, A2.out.o2 h0]
    have hv3 : V.ev = .slice (some ⟨gE, 0, none⟩) T.length cE := by rw [A2.out.v3, A2.out.o3 h0]
    have hv4 : V.kv = .slice (some ⟨gK, 0, none⟩) T.length cK := by rw [A2.out.v4, A2.out.o4 h0]
    have B1 := Lib.hid (show TZ w O B V H nu ol T Z loc gT cT gE cE gW cW gK cK from ⟨A0.out, A1.out, hv1, hv2, hv3, hv4, hTl⟩)
    clear hv1 hv2 hv3 hv4 z1
    go_wp2_with fail
    refine things_loop w O B V H nu ol T Z loc gT cT gE cE gW cW gK cK w B1.out ⟨none, 0, 0, by rw [idsTo_zero]; rfl, rfl, by rw [idsTo_zero]; exact World.ownsRow_nil _ _ _ _, Below.refl _ _⟩ ?_
    intro _ _ _ _ _ _ _ _ _ _ _ _ _ _ _ _ _ _ _ _ _ _ _ _ _ _ _ _ _ _ _ _ _ _ _ _ _ _ _ _ _ _ _ _ _ _ _ _ _ _ _ _ _ _ _ _ _ _ _ _ _ _ _ _ _ _ _ _ _ _ _ _ _ _ _ _ _ _ _ _ _ _ _ _ _ _ _ _ _ _ _ _ _ _ _ _ _ _ _ _ _ _ _ _ _ _ _ _ _ _ _ _ _ _ _ _ _ _ _ _ _ _ _ _ _ _ _ _ _ _ _ _ _ _ _ _ _ _ _ _ _ _ _ _ _ _ _ _ _ _ _ _ _ _ _ _ _ _ _ _ _ _ _ _ _ _ _ _ _ _ _ _ _ _ _ _ _ _ _ _ _ _ _ _ _ _ _ _ _ _ _ _ _ _ _ _ _ _ _ _ _ _ _ _ _ _ _ _ _ _ _ _ _ _ _ _ _ _ _ _ _ _ _ _ _ _ _ _ _ _ _ _ _ _ _ _ _ _ _ _ _ _ _ _ _ _ _ _ _ _ _ _ _ _ _ _ _ _ _ _ _ _ _ _ _ _ _ _ _ _ _ _ _ _ _ _ _ _ _ _ _ _ _ _ _ _ _ _ _ _ _ _ _ _ _ _ _ _ _ _ _ _ _ _ _ _ _ w1 hR
    obtain ⟨oo, cc, n, hn, rfl, hrow, hb⟩ := hR
    refine E4.out _ _ ?_
    exact tells_end w1 O B V H nu ol T Z loc oo n cc w.heap.size (lastTo T T.length) (lastTo_all A1.out) (A0.out.below hb) A1.out hTl hn hrow (fun a' w' h1 h2 h3 => bodyPost_ret (results_tmp rfl _ _ _) h2 ⟨by rw [h1], hb.trans (h3.mono hb.size)⟩)
end Go.Proofs.YthbkklnahhdgcaaDoor.PlSk

namespace Go.Proofs.YthbkklnahhdgcaaDoor.PlTc
open Go Go.Proofs Go.RowKit Go.Maps Go.Proofs.YthbkklnahhdgcaaDoor.Lib HeapR HeapB HeapG ErrC ChA ChT ChCa ChCc ChE ChH ChL ChN ChO ChZ PlC PlH PlT PlZ PlX PlYa PlTb

variable {w w' w1 : World} {O : Nat → Nat} {B : Nat} {V : Zv} {H H' : HS} {nu ol : List Ob} {T : List Th} {Z : Zn} {loc : Nat → Ob}
theorem hr_low {hb nb mb B' : Nat} {ov rv : Value} (h : HR w hb nb mb ov rv B H) (hle : B' ≤ B) : HR w hb nb mb ov rv B' H :=
  { h with
    old := row_low h.old hle
    rem := row_low h.rem hle
    lo := ⟨Nat.le_trans hle h.lo.1, Nat.le_trans hle h.lo.2.1, Nat.le_trans hle h.lo.2.2⟩ }
/-- The zoo at its begin. -/
theorem zr_new {hb nb mb : Nat} {ov rv : Value} (hr : HR w hb nb mb ov rv B H) (hB : B ≤ w.heap.size) (hg : EtIs w) (he : 1 < B) (Z : Zn) :
    ZR (w.alloc (.cells (zblock hb (.slice none 0 0) (.slice none 0 0) (.slice none 0 0) (.slice none 0 0) Z) 80 (0, 0))) (fun k => if k = w.heap.size then 1 else 0) B ⟨w.heap.size, hb, nb, mb, ov, rv, .slice none 0 0, .slice none 0 0, .slice none 0 0, .slice none 0 0⟩ H [] Z where
  blk := heap_alloc_last w _
  hr := hr.below ((Below.refl _ w).alloc (Nat.le_refl _) _)
  things := World.ownsRow_nil _ _ _ _
  wher := World.ownsRow_nil _ _ _ _
  here := World.ownsRow_nil _ _ _ _
  known := World.ownsRow_nil _ _ _ _
  thing := fun t ht => by cases ht
  o0 := fun k hk => if_neg (fun e => by
    have := hr.lt hk
    omega)
  o1 := if_pos rfl
  o2 := fun k hk => by cases hk
  o3 := fun k hk => by cases hk
  o4 := fun k hk => by cases hk
  o5 := fun k hk => by cases hk
  ot := fun i t ht => by simp at ht
  low := hB
  et := (((Below.refl w.heap.size w).alloc (Nat.le_refl _) _).cell (World.block_lt_of_cell? w _ hg)).trans hg
  el := he
theorem zi_new (n o : Nat) (h : HI (fresh n o) [] []) : ZI (fresh n o) [] [] [] ⟨(o : Int), (n : Int), 0, 0, 0, 0⟩ (fun _ => ⟨0, 0, 0, 0, []⟩) := {
  hi := h
  obj := fun i t ht => by simp at ht
  inj := fun i j t u ht => by simp at ht
  all := fun o ho => by cases ho
  known := fun i t ht => by simp at ht
  oldh := fun t ht => by cases ht
  ids := fun i t ht => by simp at ht
  next := rfl
  kinds := fun t ht => by cases ht
  len := fun t ht => by cases ht
  most := rfl
  room := rfl
  top := rfl
  old := rfl
  minors := rfl
  majors := rfl }

/-- What turned is no block of the zoo. -/
theorem zr_aside {S : Nat → Prop} (h : ZR w O B V H T Z) (hT : Turned S w w') (hS : ∀ k, S k → O k = 0 ∧ ¬ V.heap k ∧ B ≤ k) : ZR w' O B V H T Z := by
  have keep : ∀ k, k < w.heap.size → O k ≠ 0 → w'.heap[k]? = w.heap[k]? := fun k hk ho => hT.block k hk (fun hh => ho (hS k hh).1)
  have o1 := h.o1
  exact { h with
    blk := (keep _ h.zlt (by omega)).trans h.blk
    hr := h.hr.same fun k hk => hT.block k (h.hr.lt hk) (fun hh => (hS k hh).2.1 hk)
    things := ownsRow_same h.things fun k hk => keep k (own_lt h.things hk).2 (by have := h.o2 k hk; omega)
    wher := ownsRow_same h.wher fun k hk => keep k (own_lt h.wher hk).2 (by have := h.o3 k hk; omega)
    here := ownsRow_same h.here fun k hk => keep k (own_lt h.here hk).2 (by have := h.o4 k hk; omega)
    known := ownsRow_same h.known fun k hk => keep k (own_lt h.known hk).2 (by have := h.o5 k hk; omega)
    thing := fun t ht => by
      obtain ⟨i, hi⟩ := List.getElem?_of_mem ht
      obtain ⟨e1, _, e2⟩ := h.ot i t hi
      exact ⟨(keep _ (h.tlt ht) (by omega)).trans (h.thing t ht).1, ownsRow_same (h.thing t ht).2 fun k hk => keep k (own_lt (h.thing t ht).2 hk).2 (by have := e2 k hk; omega)⟩
    et := (World.cell?_of_block (a := ⟨1, 0, none⟩) (hT.block _ h.etlt (fun hh => by
      have h1 : B ≤ 1 := (hS _ hh).2.2
      have h2 : 1 < B := h.el
      omega))).trans h.et }

/-- The zoo has another heap, of the same data. -/
theorem zr_copy {hb' nb' mb' : Nat} {ov' rv' : Value} (h : ZR w O B V H T Z) (hb : Below w.heap.size w w1) (hr : HR w1 hb' nb' mb' ov' rv' w.heap.size H') :
    ZR (w1.setCell ⟨V.zb, 0, none⟩ (.pointer (some ⟨hb', 0, none⟩))) (fun k => if w.heap.size ≤ k then 0 else O k) B { V with hb := hb', nb := nb', mb := mb', ov := ov', rv := rv' } H' T Z := by
  have hzl := h.zlt
  have low : ∀ k, k < w.heap.size → (if w.heap.size ≤ k then 0 else O k) = O k := fun k hk => if_neg (by omega)
  have keep : ∀ k, k < w.heap.size → O k ≠ 1 → (w1.setCell ⟨V.zb, 0, none⟩ (.pointer (some ⟨hb', 0, none⟩))).heap[k]? = w.heap[k]? := fun k hk ho => (blk_ne (w := w1) (p := ⟨V.zb, 0, none⟩) (fun e => ho (by
    have e' : k = V.zb := e
    rw [e']
    exact h.o1))).trans (hb.block k hk)
  have hle : B ≤ w.heap.size := Nat.le_trans h.low (Nat.le_of_lt hzl)
  exact {
    blk := blk_set (w := w1) ((hb.block _ hzl).trans h.blk) _
    hr := (hr_low hr hle).same fun k hk => blk_ne (w := w1) (p := ⟨V.zb, 0, none⟩) (fun e => by
      have h1 := hr.ge hk
      have e' : k = V.zb := e
      omega)
    things := ownsRow_same h.things fun k hk => keep k (own_lt h.things hk).2 (by have := h.o2 k hk; omega)
    wher := ownsRow_same h.wher fun k hk => keep k (own_lt h.wher hk).2 (by have := h.o3 k hk; omega)
    here := ownsRow_same h.here fun k hk => keep k (own_lt h.here hk).2 (by have := h.o4 k hk; omega)
    known := ownsRow_same h.known fun k hk => keep k (own_lt h.known hk).2 (by have := h.o5 k hk; omega)
    thing := fun t ht => by
      obtain ⟨i, hi⟩ := List.getElem?_of_mem ht
      obtain ⟨e1, _, e2⟩ := h.ot i t hi
      exact ⟨(keep _ (h.tlt ht) (by omega)).trans (h.thing t ht).1, ownsRow_same (h.thing t ht).2 fun k hk => keep k (own_lt (h.thing t ht).2 hk).2 (by have := e2 k hk; omega)⟩
    o0 := fun k hk => if_pos (hr.ge hk)
    o1 := (low _ hzl).trans h.o1
    o2 := fun k hk => (low k (own_lt h.things hk).2).trans (h.o2 k hk)
    o3 := fun k hk => (low k (own_lt h.wher hk).2).trans (h.o3 k hk)
    o4 := fun k hk => (low k (own_lt h.here hk).2).trans (h.o4 k hk)
    o5 := fun k hk => (low k (own_lt h.known hk).2).trans (h.o5 k hk)
    ot := fun i t hi => by
      obtain ⟨e1, e2, e3⟩ := h.ot i t hi
      have hm := List.mem_of_getElem? hi
      exact ⟨(low _ (h.tlt hm)).trans e1, e2, fun k hk => (low k (own_lt (h.thing t hm).2 hk).2).trans (e3 k hk)⟩
    low := h.low
    et := (World.cell?_of_block (a := ⟨1, 0, none⟩) ((blk_ne (w := w1) (p := ⟨V.zb, 0, none⟩) (fun e => by
      have e2 : 1 = V.zb := e
      have h3 := h.low
      rw [← e2] at h3
      exact absurd h3 (Nat.not_le.mpr h.el))).trans (hb.block _ h.etlt))).trans h.et
    el := h.el }
theorem zi_like (hz : ZI H nu ol T Z loc) (e : Like H H') (ht : H.top ≤ H.room) (hl : H.room ≤ H'.nur.length) : ZI H' nu ol T Z loc :=
  { hz with
    hi := hi_like hz.hi e ht hl
    next := by rw [e.next]; exact hz.next
    most := by rw [e.most]; exact hz.most
    room := by rw [e.room]; exact hz.room
    minors := by rw [e.minors]; exact hz.minors
    majors := by rw [e.majors]; exact hz.majors }

/-- A step, as it came in. -/
structure St where
  what : Int
  a : Int
  b : Int
  c : Int
  bits : Int
def St.vals (s : St) : List Value := [.int .i64 s.what, .int .i64 s.a, .int .i64 s.b, .int .i64 s.c, .int .u64 s.bits]
def St.val (s : St) : Value := PlM.stepV s.what s.a s.b s.c s.bits

/-- Ahead of round i. -/
def RP (w0 : World) (zb hb : Nat) (m i : Nat) (wr : World) : Prop :=
  ∃ (O : Nat → Nat) (V : Zv) (H : HS) (nu ol : List Ob) (T : List Th) (Z : Zn) (loc : Nat → Ob), ZR wr O w0.heap.size V H T Z ∧ ZI H nu ol T Z loc ∧ V.zb = zb ∧ (i ≤ m → V.hb = hb) ∧ T.length ≤ i ∧ H.rem.length ≤ i ∧ H.minors ≤ i ∧ H.majors ≤ i ∧ 0 < H.room ∧ Turned (fun k => w0.heap.size ≤ k) w0 wr
end Go.Proofs.YthbkklnahhdgcaaDoor.PlTc

namespace Go.Proofs.YthbkklnahhdgcaaDoor.PlTd
open Go Go.Proofs Go.RowKit Go.Maps Go.Proofs.YthbkklnahhdgcaaDoor.Lib HeapR HeapB HeapC HeapD HeapG HeapH ErrC ChA ChT ChCa ChCc ChE ChH ChI ChL ChN ChO ChW ChZ PlC PlA PlH PlM PlT PlZ PlX PlYa PlU PlG PlGa PlP PlTb PlTc PlSk

theorem play_round {Q : Exit → Act → World → Prop} {u0 u1 u3 u4 u5 u6 u7 u8 u9 Ja Jd Je Jf Jg Jh Ji Jj Jk Jl Jm Jn Jo Jp Jq Jr Js Jt Ju Jv Jw Jx Jy Jz Qa Qb Qc Qd Qe Qf Qg Qh Qi Qj Qk Ql Qm Qn Qo Qp Qq Qr Qs Qt Qu Qv Qw Qx Qy Qz Xe Xg Xh Xi Xj Xk Xn Xo Xp Xq Xt Xu Xv Xx Xy Xz Yg Yh Yi Yj Yk Yl Ym Yn Yo Yp Yq Yr Ys Yt Yu Yv : Value} (w0 wr : World) (O : Nat → Nat) (V : Zv) (H : HS) (nu ol : List Ob) (T : List Th) (Z : Zn) (loc : Nat → Ob) (zb hb m i b o n cS : Nat) (oS : Option Addr) (s : St)
    (h : ZR wr O w0.heap.size V H T Z) (hz : ZI H nu ol T Z loc) (hzb : V.zb = zb) (hhb : i + 1 ≤ m → V.hb = hb) (hTl : T.length ≤ i) (hrl : H.rem.length ≤ i) (hmi : H.minors ≤ i) (hmj : H.majors ≤ i) (h0 : 0 < H.room) (hT : Turned (fun k => w0.heap.size ≤ k) w0 wr)
    (hin : i < n) (hn : n ≤ 60) (ha : oS = some ⟨b, o, none⟩) (hrow : RowO.Row w0 b (o + i * 5) s.vals)
    (hQ : ∀ (s82 s83 s84 s85 s86 s87 s88 s89 s90 s91 s92 s93 : Value) (w' : World), RP w0 zb hb m (i + 1) w' → Q .normal ⟨#[u0,u1,(.slice oS n cS),u3,u4,u5,u6,u7,u8,u9,Ja,(.pointer (some ⟨zb,0,none⟩)),(.int .i64 (i : Int)),Jd,Je,Jf,Jg,Jh,Ji,Jj,Jk,Jl,Jm,Jn,Jo,Jp,Jq,Jr,Js,Jt,Ju,Jv,Jw,Jx,Jy,Jz,Qa,Qb,Qc,Qd,Qe,Qf,Qg,Qh,Qi,Qj,Qk,Ql,Qm,Qn,Qo,Qp,Qq,Qr,Qs,Qt,Qu,Qv,Qw,Qx,Qy,Qz,Xe,Xg,Xh,Xi,Xj,Xk,Xn,Xo,Xp,Xq,Xt,Xu,Xv,Xx,Xy,Xz,Yg,Yh,Yi,Yj,s82,s83,s84,s85,s86,s87,s88,s89,s90,s91,s92,s93], []⟩ w') :
    Code.wp Tryd.prog (Cut.piece Tryd.f8 (Cut.tail 17)) Q ⟨#[u0,u1,(.slice oS n cS),u3,u4,u5,u6,u7,u8,u9,Ja,(.pointer (some ⟨zb,0,none⟩)),(.int .i64 (i : Int)),Jd,Je,Jf,Jg,Jh,Ji,Jj,Jk,Jl,Jm,Jn,Jo,Jp,Jq,Jr,Js,Jt,Ju,Jv,Jw,Jx,Jy,Jz,Qa,Qb,Qc,Qd,Qe,Qf,Qg,Qh,Qi,Qj,Qk,Ql,Qm,Qn,Qo,Qp,Qq,Qr,Qs,Qt,Qu,Qv,Qw,Qx,Qy,Qz,Xe,Xg,Xh,Xi,Xj,Xk,Xn,Xo,Xp,Xq,Xt,Xu,Xv,Xx,Xy,Xz,Yg,Yh,Yi,Yj,Yk,Yl,Ym,Yn,Yo,Yp,Yq,Yr,Ys,Yt,Yu,Yv], []⟩ wr := by
  subst ha
  subst hzb
  conv => arg 2; whnf
  have hb0 : Below w0.heap.size w0 wr := hT.below (Nat.le_refl _) (fun k hk => hk)
  have rc : ∀ (k : Nat) (v : Value), s.vals[k]? = some v → wr.cell? ⟨b, o + i * 5 + k, none⟩ = some v := fun k v hk => (hb0.cell (World.block_lt_of_cell? w0 _ (hrow k v hk))).trans (hrow k v hk)
  have r0 : wr.cell? ⟨b, o + i * 5, none⟩ = some (.int .i64 s.what) := rc 0 _ rfl
  have r1 : wr.cell? ⟨b, o + i * 5 + 1, none⟩ = some (.int .i64 s.a) := rc 1 _ rfl
  have r2 : wr.cell? ⟨b, o + i * 5 + 2, none⟩ = some (.int .i64 s.b) := rc 2 _ rfl
  have r3 : wr.cell? ⟨b, o + i * 5 + 3, none⟩ = some (.int .i64 s.c) := rc 3 _ rfl
  have r4 : wr.cell? ⟨b, o + i * 5 + 4, none⟩ = some (.int .u64 s.bits) := rc 4 _ rfl
  have hst := step_ok h hz s.what s.a s.b s.c s.bits (by omega) (by unfold big; omega) (by unfold big; omega) (by unfold big; omega)
  have k0 : (0 : Int) ≤ (i : Int) := by omega
  have k1 : (i : Int) < (n : Int) := by omega
  have A0 := Lib.hid hhb
  have A1 := Lib.hid hTl
  have A2 := Lib.hid hrl
  have A3 := Lib.hid hmi
  have A4 := Lib.hid hmj
  have A5 := Lib.hid hT
  have A6 := Lib.hid hQ
  have A7 := Lib.hid h0
  unfold stepV at hst
  clear h hz hhb hTl hrl hmi hmj h0 hT hrow hQ hb0 rc
  refine wp_seq_k (fun K1 hK1 => ?_)
  have E1 := Lib.hid hK1
  clear hK1
  go_wp2_with fail
  refine hst.mono ?_
  rintro e w2 ⟨rfl, hd⟩
  dsimp only
  clear hst r0 r1 r2 r3 r4
  obtain ⟨O', V', H', nu', ol', T', Z', loc', d1, d2, d3, d4, d5, d6, d7, d8, d9⟩ := hd
  have hzb' : V'.zb = V.zb := congrArg Prod.fst d3
  have hhb' : V'.hb = V.hb := congrArg Prod.snd d3
  have hte := tells_ok d1 d2 (by have := A1.out; omega)
  rw [hzb'] at hte
  have B1 := Lib.hid d1
  have B2 := Lib.hid d2
  have B3 := Lib.hid d4
  have B4 := Lib.hid d5
  have B5 := Lib.hid d6
  have B6 := Lib.hid d7
  have B7 := Lib.hid d8
  have B8 := Lib.hid d9
  have B9 := Lib.hid hzb'
  have B10 := Lib.hid hhb'
  clear d1 d2 d3 d4 d5 d6 d7 d8 d9 hzb' hhb'
  go_wp2_with fail
  refine hte.mono ?_
  rintro e w3 ⟨rfl, hb3⟩
  dsimp only
  clear hte
  have hfin : RP w0 V.zb hb m (i + 1) w3 := ⟨O', V', H', nu', ol', T', Z', loc', B1.out.below hb3, B2.out, B9.out, fun hm => B10.out.trans (A0.out hm), by have := A1.out; have := B3.out; omega, by have := A2.out; have := B4.out; omega, by have := A3.out; have := B5.out; omega, by have := A4.out; have := B6.out; omega, by have := A7.out; have := B7.out; omega, (A5.out.trans B8.out).trans (Turned.of_below _ hb3)⟩
  have B11 := Lib.hid hfin
  clear hfin hb3
  go_wp2_with fail
  refine E1.out _ _ ?_
  go_wp2_with fail
  exact A6.out _ _ _ _ _ _ _ _ _ _ _ _ _ B11.out

def Inv_plays_loop (w0 : World) (nursery old : Int) (oS : Option Addr) (n cS _b _o zb hb : Nat) (copies : Bool) (_l : List St) (u4 u5 u6 u7 u8 Ja Jd Je Jf Jg Jh Ji Jj Jk Jl Jm Jn Jo Jp Jq Jr Js Jt Ju Jv Jw Jx Jy Jz Qa Qb Qc Qd Qe Qf Qg Qh Qi Qj Qk Ql Qm Qn Qo Qp Qq : Value) (a : Act) (wr : World) : Prop :=
  ∃ (i : Nat) (s53 s54 s55 s56 s57 s58 s59 s60 s61 s62 s63 s64 s65 s66 s67 s68 s69 s70 s71 s72 s73 s74 s75 s76 s77 s78 s79 s80 s81 s82 s83 s84 s85 s86 s87 s88 s89 s90 s91 s92 s93 : Value), i ≤ n ∧ (RP w0 zb hb (n / 2) i wr) ∧ a = ⟨#[(.int .i64 nursery),(.int .i64 old),(.slice oS n cS),(.bool copies),u4,u5,u6,u7,u8,(.pointer (some ⟨hb,0,none⟩)),Ja,(.pointer (some ⟨zb,0,none⟩)),(.int .i64 (i : Int)),Jd,Je,Jf,Jg,Jh,Ji,Jj,Jk,Jl,Jm,Jn,Jo,Jp,Jq,Jr,Js,Jt,Ju,Jv,Jw,Jx,Jy,Jz,Qa,Qb,Qc,Qd,Qe,Qf,Qg,Qh,Qi,Qj,Qk,Ql,Qm,Qn,Qo,Qp,Qq,s53,s54,s55,s56,s57,s58,s59,s60,s61,s62,s63,s64,s65,s66,s67,s68,s69,s70,s71,s72,s73,s74,s75,s76,s77,s78,s79,s80,s81,s82,s83,s84,s85,s86,s87,s88,s89,s90,s91,s92,s93], []⟩
def mu_plays_loop (n : Nat) (a : Act) (_ : World) : Nat := n - (intOf (a.tmps.getD 12 undef)).toNat

theorem plays_loop {Q : Exit → Act → World → Prop} {u4 u5 u6 u7 u8 Ja Jd Je Jf Jg Jh Ji Jj Jk Jl Jm Jn Jo Jp Jq Jr Js Jt Ju Jv Jw Jx Jy Jz Qa Qb Qc Qd Qe Qf Qg Qh Qi Qj Qk Ql Qm Qn Qo Qp Qq Qr Qs Qt Qu Qv Qw Qx Qy Qz Xe Xg Xh Xi Xj Xk Xn Xo Xp Xq Xt Xu Xv Xx Xy Xz Yg Yh Yi Yj Yk Yl Ym Yn Yo Yp Yq Yr Ys Yt Yu Yv : Value} (w0 : World) (nursery old : Int) (oS : Option Addr) (n cS b o zb hb : Nat) (copies : Bool) (l : List St) (w : World) (hn : n ≤ 60) (hnl : n = l.length) (ha : 0 < n → oS = some ⟨b, o, none⟩) (hrow : ∀ (i : Nat) (s : St), l[i]? = some s → RowO.Row w0 b (o + i * 5) s.vals)
    (h0 : RP w0 zb hb (n / 2) 0 w)
    (hQ : ∀ (s53 s54 s55 s56 s57 s58 s59 s60 s61 s62 s63 s64 s65 s66 s67 s68 s69 s70 s71 s72 s73 s74 s75 s76 s77 s78 s79 s80 s81 s82 s83 s84 s85 s86 s87 s88 s89 s90 s91 s92 s93 : Value) (w' : World), (RP w0 zb hb (n / 2) n w') → Q (.exit 0) ⟨#[(.int .i64 nursery),(.int .i64 old),(.slice oS n cS),(.bool copies),u4,u5,u6,u7,u8,(.pointer (some ⟨hb,0,none⟩)),Ja,(.pointer (some ⟨zb,0,none⟩)),(.int .i64 (n : Int)),Jd,Je,Jf,Jg,Jh,Ji,Jj,Jk,Jl,Jm,Jn,Jo,Jp,Jq,Jr,Js,Jt,Ju,Jv,Jw,Jx,Jy,Jz,Qa,Qb,Qc,Qd,Qe,Qf,Qg,Qh,Qi,Qj,Qk,Ql,Qm,Qn,Qo,Qp,Qq,s53,s54,s55,s56,s57,s58,s59,s60,s61,s62,s63,s64,s65,s66,s67,s68,s69,s70,s71,s72,s73,s74,s75,s76,s77,s78,s79,s80,s81,s82,s83,s84,s85,s86,s87,s88,s89,s90,s91,s92,s93], []⟩ w') :
    Code.wp Tryd.prog (Cut.piece Tryd.f8 (Cut.loop 10)) Q ⟨#[(.int .i64 nursery),(.int .i64 old),(.slice oS n cS),(.bool copies),u4,u5,u6,u7,u8,(.pointer (some ⟨hb,0,none⟩)),Ja,(.pointer (some ⟨zb,0,none⟩)),(.int .i64 (0 : Int)),Jd,Je,Jf,Jg,Jh,Ji,Jj,Jk,Jl,Jm,Jn,Jo,Jp,Jq,Jr,Js,Jt,Ju,Jv,Jw,Jx,Jy,Jz,Qa,Qb,Qc,Qd,Qe,Qf,Qg,Qh,Qi,Qj,Qk,Ql,Qm,Qn,Qo,Qp,Qq,Qr,Qs,Qt,Qu,Qv,Qw,Qx,Qy,Qz,Xe,Xg,Xh,Xi,Xj,Xk,Xn,Xo,Xp,Xq,Xt,Xu,Xv,Xx,Xy,Xz,Yg,Yh,Yi,Yj,Yk,Yl,Ym,Yn,Yo,Yp,Yq,Yr,Ys,Yt,Yu,Yv], []⟩ w := by
  conv => arg 2; whnf
  refine wp_loop (Inv_plays_loop w0 nursery old oS n cS b o zb hb copies l u4 u5 u6 u7 u8 Ja Jd Je Jf Jg Jh Ji Jj Jk Jl Jm Jn Jo Jp Jq Jr Js Jt Ju Jv Jw Jx Jy Jz Qa Qb Qc Qd Qe Qf Qg Qh Qi Qj Qk Ql Qm Qn Qo Qp Qq) (mu_plays_loop (n)) ?_ (fun a' wr hI => ?_)
  · exact ⟨0, Qr, Qs, Qt, Qu, Qv, Qw, Qx, Qy, Qz, Xe, Xg, Xh, Xi, Xj, Xk, Xn, Xo, Xp, Xq, Xt, Xu, Xv, Xx, Xy, Xz, Yg, Yh, Yi, Yj, Yk, Yl, Ym, Yn, Yo, Yp, Yq, Yr, Ys, Yt, Yu, Yv, Nat.zero_le _, h0, rfl⟩
  obtain ⟨i, s53, s54, s55, s56, s57, s58, s59, s60, s61, hI⟩ := hI
  obtain ⟨s62, s63, s64, s65, s66, s67, s68, s69, s70, s71, hI⟩ := hI
  obtain ⟨s72, s73, s74, s75, s76, s77, s78, s79, s80, s81, hI⟩ := hI
  obtain ⟨s82, s83, s84, s85, s86, s87, s88, s89, s90, s91, hI⟩ := hI
  obtain ⟨s92, s93, hI⟩ := hI
  obtain ⟨hib, hR, rfl⟩ := hI
  clear h0
  obtain ⟨O, V, H, nu, ol, T, Z, loc, h, hz, hzb, hhb, hTl, hrl, hmi, hmj, h0, hT⟩ := hR
  by_cases hil : i < n
  · obtain ⟨s, hs⟩ : ∃ s, l[i]? = some s := ⟨_, List.getElem?_eq_getElem (by omega)⟩
    have g0 : decide ((i : Int) < (n : Int)) = true := by simpa using hil
    have j1 : (i : Int) < (n : Int) := by omega
    have j0 : (0 : Int) ≤ (i : Int) := by omega
    have c3 : IntKind.i64.wrap ((i : Int) + 1) = (i : Int) + 1 := IntWalk.i64_in _ (by omega)
    have q2 : IntKind.i64.wrap ((n : Int).tdiv 2) = ((n / 2 : Nat) : Int) := by
      rw [show (n : Int).tdiv 2 = ((n / 2 : Nat) : Int) by rw [Int.tdiv_eq_ediv_of_nonneg (by omega)]; omega]
      exact IntWalk.i64_in _ (by omega)
    have A1 := Lib.hid h
    have A2 := Lib.hid hz
    have A3 := Lib.hid hTl
    have A4 := Lib.hid hrl
    have A5 := Lib.hid hmi
    have A6 := Lib.hid hmj
    have A7 := Lib.hid hT
    have A8 := Lib.hid hhb
    have A9 := Lib.hid ha
    have A10 := Lib.hid (hrow i s hs)
    clear h hz hTl hrl hmi hmj hT hhb ha hrow hs hnl
    refine wp_seq_k (fun K1 hK1 => ?_)
    have E1 := Lib.hid hK1
    clear hK1
    go_wp2_with fail
    refine E1.out _ _ ?_
    clear E1
    refine wp_seq_k (fun K2 hK2 => ?_)
    have E2 := Lib.hid hK2
    clear hK2
    refine wp_block ?_
    refine wp_seq_k (fun K3 hK3 => ?_)
    have E3 := Lib.hid hK3
    clear hK3
    cases copies with
    | false =>
      go_wp2_with fail
      refine E3.out _ _ ?_
      clear E3
      refine play_round w0 wr O V H nu ol T Z loc zb hb (n / 2) i b o n cS oS s A1.out A2.out hzb (fun hm => A8.out (by omega)) A3.out A4.out A5.out A6.out h0 A7.out hil hn (A9.out (by omega)) A10.out ?_
      intro _ _ _ _ _ _ _ _ _ _ _ _ w9 hR9
      have D1 := Lib.hid hR9
      clear hR9
      refine E2.out _ _ ?_
      go_wp2
      clear c3
      refine ⟨⟨i + 1, _, _, _, _, _, _, _, _, _, _, _, _, _, _, _, _, _, _, _, _, _, _, _, _, _, _, _, _, _, _, _, _, _, _, _, _, _, _, _, _, _, by omega, D1.out, rfl⟩, ?_⟩
      simp [mu_plays_loop, intOf]
      omega
    | true =>
      by_cases him : i = n / 2
      · have g1 : decide ((i : Int) = ((n / 2 : Nat) : Int)) = true := decide_eq_true (by omega)
        have g2 : ((i : Int) == (n : Int) / 2) = true := by rw [beq_iff_eq]; omega
        have z0 : wr.cell? ⟨zb, 0, none⟩ = some (.pointer (some ⟨hb, 0, none⟩)) := by
          rw [← hzb, ← A8.out (by omega)]
          exact A1.out.cz rfl
        have f0 : ∀ j, wr.frozen? ⟨zb, j, none⟩ = false := fun j => by
          rw [← hzb]
          exact A1.out.fz j
        have hcp := copy_any A1.out.hr h0 (by have := A4.out; unfold big; omega)
        rw [A8.out (by omega)] at hcp
        have A12 := Lib.hid him
        clear him
        go_wp2_with fail
        refine hcp.mono ?_
        rintro e w2 ⟨hb', nb', mb', ov', rv', H', rfl, hr', hlk, hb2⟩
        dsimp only
        have hvh : V.hb = hb := A8.out (by have := A12.out; omega)
        have hno : ∀ k, V.heap k → k ≠ zb := fun k hk e => by
          have h1 := A1.out.o0 k hk
          have h2 := A1.out.o1
          rw [hzb, ← e] at h2
          omega
        have hr3 : HR (w2.setCell ⟨zb, 0, none⟩ (.pointer (some ⟨hb', 0, none⟩))) hb V.nb V.mb V.ov V.rv w0.heap.size H := by
          rw [← hvh]
          exact (A1.out.hr.below hb2).same fun k hk => blk_ne (w := w2) (p := ⟨zb, 0, none⟩) (hno k hk)
        have hnx : H.next ≤ big := by
          rw [A2.out.next]
          have h1 := List.countP_le_length (p := ided) (l := T)
          have := A3.out
          unfold big
          omega
        have hal : Calls Tryd.prog 13 #[.pointer (some ⟨hb, 0, none⟩), .int .i64 2, .int .i64 0, .int .i64 0] (w2.setCell ⟨zb, 0, none⟩ (.pointer (some ⟨hb', 0, none⟩))) fun e w' => (∃ v, e = .returned v) ∧ Turned V.heap (w2.setCell ⟨zb, 0, none⟩ (.pointer (some ⟨hb', 0, none⟩))) w' := by
          by_cases hf : total nu + (1 + 0) ≤ H.room
          · exact (alloc_ob hr3 A2.out.hi 2 0 0 (by decide) (by decide) (by decide) hf hnx).mono fun e w' ⟨e1, _, _, e4⟩ => ⟨⟨_, e1⟩, e4.mono fun k hk => by
              rw [← hvh] at hk
              rcases hk with hk | hk | hk
              · exact .inl hk
              · exact .inr (.inl hk)
              · exact .inr (.inr (.inl hk))⟩
          · exact (alloc_full hr3 2 0 0 (by decide) (by decide) (by decide) (by have := A2.out.hi.top; omega)).mono fun e w' ⟨e1, k, e2⟩ => ⟨⟨_, e1⟩, by rw [e2]; exact (Turned.refl _ _).drewN k⟩
        have hZ3 := zr_copy A1.out hb2 hr'
        rw [hzb] at hZ3
        have C2 := Lib.hid (zi_like A2.out hlk A1.out.hr.tr (by rw [← hlk.room]; exact hr'.len))
        have C3 := Lib.hid hlk
        have hS4 : ∀ k, V.heap k → (if wr.heap.size ≤ k then 0 else O k) = 0 ∧ ¬ Owns hb' nb' mb' ov' rv' k ∧ w0.heap.size ≤ k := fun k hk => by
          have h1 := A1.out.hr.lt hk
          refine ⟨?_, fun h2 => ?_, A1.out.hr.ge hk⟩
          · rw [if_neg (by omega)]
            exact A1.out.o0 k hk
          · have := hr'.ge h2
            omega
        have z3 : (w2.setCell ⟨zb, 0, none⟩ (.pointer (some ⟨hb', 0, none⟩))).cell? ⟨zb, 0, none⟩ = some (.pointer (some ⟨hb', 0, none⟩)) := by
          have h5 := hZ3.cz (i := 0) (v := .pointer (some ⟨hb', 0, none⟩)) rfl
          exact h5
        have z2 : w2.cell? ⟨zb, 0, none⟩ = some (.pointer (some ⟨hb, 0, none⟩)) := (hb2.cell (World.block_lt_of_cell? wr _ z0)).trans z0
        have f2 : w2.frozen? ⟨zb, 0, none⟩ = false := by
          rw [← hzb]
          exact (A1.out.below hb2).fz 0
        have hTw : Turned (fun k => w0.heap.size ≤ k) w0 (w2.setCell ⟨zb, 0, none⟩ (.pointer (some ⟨hb', 0, none⟩))) := (A7.out.trans (Turned.of_below _ hb2)).setCell (.inl (by rw [← hzb]; exact A1.out.low)) _
        have C5 := Lib.hid hZ3
        have C6 := Lib.hid hS4
        have C7 := Lib.hid hTw
        have C8 := Lib.hid z3
        clear hZ3 hS4 hTw z3 hr3 hnx hno hcp hlk hr' hb2 z0 f0
        go_wp2_with fail
        refine hal.mono ?_
        rintro e w5 ⟨⟨v5, rfl⟩, hT5⟩
        dsimp only
        have hZ5 := zr_aside C5.out hT5 (fun k hk => C6.out k hk)
        have z5 : w5.cell? ⟨zb, 0, none⟩ = some (.pointer (some ⟨hb', 0, none⟩)) := by
          have h5 := hZ5.cz (i := 0) (v := .pointer (some ⟨hb', 0, none⟩)) rfl
          exact h5
        have C1 := Lib.hid hZ5
        have C4 := Lib.hid (C7.out.trans (hT5.mono fun k hk => A1.out.hr.ge hk))
        clear hal hZ5 hT5 z2 f2
        go_wp2_with fail
        refine E3.out _ _ ?_
        clear E3
        refine play_round w0 w5 _ ({ V with zb := zb, hb := hb', nb := nb', mb := mb', ov := ov', rv := rv' } : Zv) H' nu ol T Z loc zb hb (n / 2) i b o n cS oS s C1.out C2.out rfl (fun hm => by have := A12.out; omega) A3.out (by rw [C3.out.rem]; exact A4.out) (by rw [C3.out.minors]; exact A5.out) (by rw [C3.out.majors]; exact A6.out) (by rw [C3.out.room]; exact h0) C4.out hil hn (A9.out (by omega)) A10.out ?_
        intro _ _ _ _ _ _ _ _ _ _ _ _ w9 hR9
        have D1 := Lib.hid hR9
        clear hR9
        refine E2.out _ _ ?_
        go_wp2
        clear c3
        refine ⟨⟨i + 1, _, _, _, _, _, _, _, _, _, _, _, _, _, _, _, _, _, _, _, _, _, _, _, _, _, _, _, _, _, _, _, _, _, _, _, _, _, _, _, _, _, by omega, D1.out, rfl⟩, ?_⟩
        simp [mu_plays_loop, intOf]
        omega
      · have g1 : decide ((i : Int) = ((n / 2 : Nat) : Int)) = false := decide_eq_false (by omega)
        have g2 : ((i : Int) == (n : Int) / 2) = false := by rw [beq_eq_false_iff_ne]; omega
        go_wp2_with fail
        refine E3.out _ _ ?_
        clear E3
        refine play_round w0 wr O V H nu ol T Z loc zb hb (n / 2) i b o n cS oS s A1.out A2.out hzb (fun hm => A8.out (by omega)) A3.out A4.out A5.out A6.out h0 A7.out hil hn (A9.out (by omega)) A10.out ?_
        intro _ _ _ _ _ _ _ _ _ _ _ _ w9 hR9
        have D1 := Lib.hid hR9
        clear hR9
        refine E2.out _ _ ?_
        go_wp2
        clear c3
        refine ⟨⟨i + 1, _, _, _, _, _, _, _, _, _, _, _, _, _, _, _, _, _, _, _, _, _, _, _, _, _, _, _, _, _, _, _, _, _, _, _, _, _, _, _, _, _, by omega, D1.out, rfl⟩, ?_⟩
        simp [mu_plays_loop, intOf]
        omega
  · have hie : i = n := by omega
    subst hie
    have g0 : decide ((i : Int) < (i : Int)) = false := by simp
    have A1 := Lib.hid (show RP w0 zb hb (i / 2) i wr from ⟨O, V, H, nu, ol, T, Z, loc, h, hz, hzb, hhb, hTl, hrl, hmi, hmj, h0, hT⟩)
    clear h hz hzb hhb hTl hrl hmi hmj h0 hT hrow ha hnl
    go_wp2
    exact A1.out

end Go.Proofs.YthbkklnahhdgcaaDoor.PlTd

namespace Go.Proofs.YthbkklnahhdgcaaDoor.PlTe
open Go Go.Proofs Go.RowKit Go.Maps Go.Proofs.YthbkklnahhdgcaaDoor.Lib HeapR HeapB HeapC HeapD HeapG HeapH ErrC ChA ChT ChCa ChCc ChE ChH ChI ChL ChN ChO ChW ChZ PlC PlA PlH PlM PlT PlZ PlX PlYa PlU PlG PlGa PlP PlTb PlTc PlSk PlTd

variable {w : World}
theorem law_bad (nursery old : Int) (oS : Option Addr) (n cS : Nat) (copies : Bool) (hn : n ≤ 60) (hg : EtIs w) (hbad : nursery < 1 ∨ 65536 < nursery ∨ old < 1 ∨ 1048576 < old) :
    Calls Tryd.prog 8 #[.int .i64 nursery, .int .i64 old, .slice oS n cS, .bool copies] w fun e w' => e = .returned (.bool true) ∧ Below w.heap.size w w' := by
  have hnew := new_bad nursery old w hbad
  have hbare : Calls Tryd.prog 14 #[.iface 35 (.int .i64 2), .int .i64 2] w fun e w' => e = .returned (.bool true) ∧ Below w.heap.size w w' := bare_errno 2 2 w hg
  have g0 : decide ((60 : Int) < (n : Int)) = false := decide_eq_false (by omega)
  clear hg hn
  rcases Int.lt_or_le nursery 1 with h1 | h1
  · have g1 : decide (nursery < 1) = true := by simpa using h1
    go_enter Tryd.func8, Tryd.ntmps8
    go_wp2_with fail
    refine hnew.mono ?_
    rintro e w1 ⟨rfl, rfl⟩
    dsimp only
    clear hnew
    go_wp2_with fail
    refine hbare.mono ?_
    rintro e w2 ⟨rfl, hb2⟩
    dsimp only
    go_wp2_with fail
    exact bodyPost_ret (results_tmp rfl _ _ _) rfl ⟨rfl, hb2⟩
  have g1 : decide (nursery < 1) = false := by simpa using h1
  rcases Int.lt_or_le 65536 nursery with h2 | h2
  · have g2 : decide (65536 < nursery) = true := by simpa using h2
    go_enter Tryd.func8, Tryd.ntmps8
    go_wp2_with fail
    refine hnew.mono ?_
    rintro e w1 ⟨rfl, rfl⟩
    dsimp only
    clear hnew
    go_wp2_with fail
    refine hbare.mono ?_
    rintro e w2 ⟨rfl, hb2⟩
    dsimp only
    go_wp2_with fail
    exact bodyPost_ret (results_tmp rfl _ _ _) rfl ⟨rfl, hb2⟩
  have g2 : decide (65536 < nursery) = false := by simpa using h2
  rcases Int.lt_or_le old 1 with h3 | h3
  · have g3 : decide (old < 1) = true := by simpa using h3
    go_enter Tryd.func8, Tryd.ntmps8
    go_wp2_with fail
    refine hnew.mono ?_
    rintro e w1 ⟨rfl, rfl⟩
    dsimp only
    clear hnew
    go_wp2_with fail
    refine hbare.mono ?_
    rintro e w2 ⟨rfl, hb2⟩
    dsimp only
    go_wp2_with fail
    exact bodyPost_ret (results_tmp rfl _ _ _) rfl ⟨rfl, hb2⟩
  have g3 : decide (old < 1) = false := by simpa using h3
  have g4 : decide (1048576 < old) = true := decide_eq_true (by omega)
  go_enter Tryd.func8, Tryd.ntmps8
  go_wp2_with fail
  refine hnew.mono ?_
  rintro e w1 ⟨rfl, rfl⟩
  dsimp only
  clear hnew
  go_wp2_with fail
  refine hbare.mono ?_
  rintro e w2 ⟨rfl, hb2⟩
  dsimp only
  go_wp2_with fail
  exact bodyPost_ret (results_tmp rfl _ _ _) rfl ⟨rfl, hb2⟩

theorem law_long (nursery old : Int) (oS : Option Addr) (n cS : Nat) (copies : Bool) (hn : 60 < n) :
    Calls Tryd.prog 8 #[.int .i64 nursery, .int .i64 old, .slice oS n cS, .bool copies] w fun e w' => e = .returned (.bool true) ∧ Below w.heap.size w w' := by
  have g0 : decide ((60 : Int) < (n : Int)) = true := decide_eq_true (by omega)
  go_enter Tryd.func8, Tryd.ntmps8
  go_wp2_with fail
  exact bodyPost_ret (results_tmp rfl _ _ _) rfl ⟨rfl, Below.refl _ _⟩

theorem law_ok (nursery old : Nat) (oS : Option Addr) (n cS b o : Nat) (copies : Bool) (l : List St) (hn : n ≤ 60) (hnl : n = l.length) (ha : 0 < n → oS = some ⟨b, o, none⟩) (hrow : ∀ (i : Nat) (s : St), l[i]? = some s → RowO.Row w b (o + i * 5) s.vals) (hg : EtIs w) (h1 : 1 ≤ nursery) (h2 : nursery ≤ 65536) (h3 : 1 ≤ old) (h4 : old ≤ 1048576) :
    Calls Tryd.prog 8 #[.int .i64 (nursery : Int), .int .i64 (old : Int), .slice oS n cS, .bool copies] w fun e w' => e = .returned (.bool true) ∧ Below w.heap.size w w' := by
  have hnew := new_ok nursery old w h1 h2 h3 h4
  have g0 : decide ((60 : Int) < (n : Int)) = false := decide_eq_false (by omega)
  have g1 : decide ((nursery : Int) < 1) = false := decide_eq_false (by omega)
  have g2 : decide ((65536 : Int) < (nursery : Int)) = false := decide_eq_false (by omega)
  have g3 : decide ((old : Int) < 1) = false := decide_eq_false (by omega)
  have g4 : decide ((1048576 : Int) < (old : Int)) = false := decide_eq_false (by omega)
  have hel : 1 < w.heap.size := World.block_lt_of_cell? w _ hg
  have A0 := Lib.hid ha
  have A1 := Lib.hid hrow
  have A2 := Lib.hid hg
  have A3 := Lib.hid hnl
  clear ha hrow hg hnl
  go_enter Tryd.func8, Tryd.ntmps8
  go_wp2_with fail
  refine hnew.mono ?_
  rintro e w2 ⟨rfl, hr2, hb2⟩
  dsimp only
  clear hnew
  have hg2 : EtIs w2 := (hb2.cell (World.block_lt_of_cell? w _ A2.out)).trans A2.out
  have hZ := zr_new hr2 hb2.size hg2 hel ⟨(old : Int), (nursery : Int), 0, 0, 0, 0⟩
  have hI := zi_new nursery old (hi_fresh nursery old)
  have hRP : RP w w2.heap.size (w.heap.size + 2) (n / 2) 0 (w2.alloc (.cells (zblock (w.heap.size + 2) (.slice none 0 0) (.slice none 0 0) (.slice none 0 0) (.slice none 0 0) ⟨(old : Int), (nursery : Int), 0, 0, 0, 0⟩) 80 (0, 0))) :=
    ⟨_, _, _, _, _, _, _, _, hZ, hI, rfl, fun _ => rfl, Nat.le_refl _, Nat.le_refl _, Nat.le_refl _, Nat.le_refl _, by show 0 < nursery; omega, (Turned.of_below _ hb2).alloc _⟩
  unfold zblock at hRP
  have B1 := Lib.hid hRP
  clear hRP hZ hI hg2 hr2 hb2 hel h1 h2 h3 h4
  go_wp2_with fail
  generalize w2.alloc (.cells #[.pointer (some ⟨w.heap.size + 2,0,none⟩),.slice none 0 0,.slice none 0 0,.slice none 0 0,.slice none 0 0,.int .i64 (old : Int),.int .i64 (nursery : Int),.int .i64 0,.int .i64 0,.int .i64 0,.int .i64 0] 80 (0, 0)) = w3 at *
  refine plays_loop w (nursery : Int) (old : Int) oS n cS b o w2.heap.size (w.heap.size + 2) copies l w3 hn A3.out A0.out A1.out B1.out ?_
  intro _ _ _ _ _ _ _ _ _ _ _ _ _ _ _ _ _ _ _ _ _ _ _ _ _ _ _ _ _ _ _ _ _ _ _ _ _ _ _ _ _ w4 hR
  obtain ⟨O, V, H, nu, ol, T, Z, loc, _, _, _, _, _, _, _, _, _, hT⟩ := hR
  have hb4 : Below w.heap.size w w4 := hT.below (Nat.le_refl _) (fun k hk => hk)
  have B2 := Lib.hid hb4
  clear hb4 hT
  go_wp2_with fail
  exact bodyPost_ret (results_tmp rfl _ _ _) rfl ⟨rfl, B2.out⟩

/-- The law, whatever came in. -/
theorem law (nursery old : Int) (oS : Option Addr) (n cS b o : Nat) (copies : Bool) (l : List St) (hnl : n = l.length) (ha : 0 < n → oS = some ⟨b, o, none⟩) (hrow : ∀ (i : Nat) (s : St), l[i]? = some s → RowO.Row w b (o + i * 5) s.vals) (hg : EtIs w) :
    Calls Tryd.prog 8 #[.int .i64 nursery, .int .i64 old, .slice oS n cS, .bool copies] w fun e w' => e = .returned (.bool true) ∧ Below w.heap.size w w' := by
  by_cases hn : 60 < n
  · exact law_long nursery old oS n cS copies hn
  by_cases hbad : nursery < 1 ∨ 65536 < nursery ∨ old < 1 ∨ 1048576 < old
  · exact law_bad nursery old oS n cS copies (by omega) hg hbad
  obtain ⟨a, rfl⟩ : ∃ a : Nat, nursery = (a : Int) := ⟨nursery.toNat, by omega⟩
  obtain ⟨c, rfl⟩ : ∃ c : Nat, old = (c : Int) := ⟨old.toNat, by omega⟩
  exact law_ok a c oS n cS b o copies l (by omega) hnl ha hrow hg (by omega) (by omega) (by omega) (by omega)
end Go.Proofs.YthbkklnahhdgcaaDoor.PlTe

namespace Go.Proofs.YthbkklnahhdgcaaDoor.LaidEt
open Go Go.RowKit Go.WideShapes Go.ChangeShapes

theorem et : Tryd.prog.globalNamed "errors.errorType" = some 1 := by kernel_rfl
theorem rt : (Tryd.prog.cutTypes.find? (·.1 == "internal/reflectlite.rtype")).map (·.2) = some 256 := by kernel_rfl
theorem size : Tryd.prog.types.size = 336 := by kernel_rfl
theorem oneRow : ((List.range 336).filter fun t => Tryd.prog.rowNamed t [101, 114, 114, 111, 114]) = [24] := by kernel_rfl

/-- What the handle's condition gives a walk. -/
theorem handle {l : List (String × DataW Unit)} {W : World} (h : handlesMet Tryd.prog l W) (hm0 : ("errors.errorType", Rows.laid_errors_errorType) ∈ l) : ErrC.EtIs W := by
  obtain ⟨name, u, ty, e1, e2, e3, e4, e5⟩ := h _ hm0
  have en : name = [101, 114, 114, 111, 114] := (Option.some.inj e1).symm
  subst en
  obtain rfl := Option.some.inj (rt.symm.trans e2)
  have hm : ty ∈ (List.range 336).filter fun t => Tryd.prog.rowNamed t [101, 114, 114, 111, 114] := List.mem_filter.2 ⟨List.mem_range.2 (by rw [← size]; exact e3), e4⟩
  rw [oneRow] at hm
  obtain rfl := List.mem_singleton.1 hm
  have hh : typeHandle Tryd.prog 24 = .pointer (some ⟨5, 24, none⟩) := by kernel_rfl
  rw [hh] at e5
  have := World.var?_cell et e5 0
  unfold ErrC.EtIs
  simpa using this
end Go.Proofs.YthbkklnahhdgcaaDoor.LaidEt
