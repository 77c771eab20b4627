/-
  HeapPlays' tells: the fields of a thing.
-/
import Derived.Test.YthbkklnahhdgcaaDoorPPlSc
import Derived.Test.YthbkklnahhdgcaaDoorPG23
import Derived.Test.YthbkklnahhdgcaaDoorPG02
set_option maxRecDepth 100000
set_option maxHeartbeats 4000000
namespace Go.Proofs.YthbkklnahhdgcaaDoor.PlSe
open Go Go.Proofs Go.RowKit Go.Maps Go.Proofs.YthbkklnahhdgcaaDoor.Lib HeapR HeapB HeapC HeapD HeapG HeapH ErrC ChA ChT ChCa ChCc ChE ChH ChI ChL ChN ChO ChW ChZ PlA PlT PlZ PlX PlYa PlU PlG PlGa PlJ PlP PlSa PlSc

/-- What tells leans on: a zoo with things, and where its slices lie. -/
structure TZ (w : World) (O : Nat → Nat) (B : Nat) (V : Zv) (H : HS) (nu ol : List Ob) (T : List Th) (Z : Zn) (loc : Nat → Ob) (gT cT gE cE gW cW gK cK : Nat) : Prop where
  h : ZR w O B V H T Z
  hz : ZI H nu ol T Z loc
  v1 : V.tv = .slice (some ⟨gT, 0, none⟩) T.length cT
  v2 : V.wv = .slice (some ⟨gW, 0, none⟩) T.length cW
  v3 : V.ev = .slice (some ⟨gE, 0, none⟩) T.length cE
  v4 : V.kv = .slice (some ⟨gK, 0, none⟩) T.length cK
  tl : T.length ≤ 1000
theorem TZ.below {w w' : World} {O : Nat → Nat} {B : Nat} {V : Zv} {H : HS} {nu ol : List Ob} {T : List Th} {Z : Zn} {loc : Nat → Ob} {gT cT gE cE gW cW gK cK : Nat} (t : TZ w O B V H nu ol T Z loc gT cT gE cE gW cW gK cK) (hb : Below w.heap.size w w') : TZ w' O B V H nu ol T Z loc gT cT gE cE gW cW gK cK := { t with h := t.h.below hb }

def Inv_fields_loop (w1 : World) (_O : Nat → Nat) (_B : Nat) (V : Zv) (_H : HS) (_nu _ol : List Ob) (_T : List Th) (_Z : Zn) (loc : Nat → Ob) (_gT _cT _gE _cE _gW _cW _gK _cK : Nat) (t : Th) (q : Nat) (u1 u2 u3 u4 u5 u8 Je Jf Jg Jh Ji Jj Jk Jl Jm Jn Jo Jp Jq Jr Js Jt Ju Jv Jw Jx Jy Jz Qa Qb Qc Qd Qe Qf Qg Qh Qi Qj Qk Ql Qm Qn Qo Qp Qq Qr Qs Qt Qu Qv Qw Qx Qy Qz Xe Xg Xh Xi Xj Xk Xn Xo Xp Xq Xt Xu Xv Xx Xy Xz Yg Yh Yi Yj Yk Yl Ym Yn Yo Yp Yq Yr Ys Yt Yu Yv Yw Yx Yy Yz Ua Ub Uc Ud Ue Uf Ug Uh Ui Uj Uk Ul Um Un Uo Up Uq Ur Us Ut Uu Uv Uw Ux Uy Uz Wc Wd We Wf Wg Wh Wi Wj Wk Wl Wm Wn Wo Wp Wq Wt Wu Ww Wx Wy Wz Ka Kb Kc Kd Ke Kf Kg Kh Kj Kl Km Kn Ko Kp Kq Kr Kt Ku Kv Kw Kx Ky Kz Rg Rh Ri Rj Rk Rl Rm Rp Rq Rt Ru Rx Ry Rz Gc Ge Gf Gg Bh Bi Bj Bk Bo Bp Bs Bt Bv Bx Mb Mc Md Me Mg Mh Mi Mj Mk Mm Mo Mp Mq Mr Mt Mu Mv Mw Mx My Mz Ha Hb He Hg Hh Hi Hj Hk Hm Ho Hp Hq Hs Ht Hu Hv Hw Hx Hy Tp Tq Ts Tu Tx Tz Va Vb Vc Vd Ve Vf Vg Vh Vi Vj Vk Vm Vn Vo Vp Vq Vs Vt Vu Vv Vw Vx Vy Vz Za Zc Zd Ze Zf Zg Zh Zi Zj Zk Zl Zm Zo Zp Zq Zt Zu Zw Zx Zy Zz u404 u405 u406 u407 : Value) (a : Act) (wr : World) : Prop :=
  ∃ (i : Nat) (s10 s11 s12 s13 sDE sDF sDG sDH sDI sDJ sDK sDL sDM sDN sDO sDP sDQ sDR sDS sDT sDU sDV sDW sDX sDY sDZ sEa sEb sEc sEd sEe sEf sEg sEh sEi sEj sEk sEl sEm sEn sEo sEp sEq sEr sEs sEt sEu sEv sEw sEx sEy sEz sEA sEB sEC sED sEE sEF sEG sEH sEI sEJ sEK sEL sEM sEN sEO sEP sEQ sER sES sET sEU sEV sEW sEX sEY sEZ sFa sFb sFc sFd sFe sFf sFg sFh sFi sFj sFk sFl sFm sFn sFo sFp sFq sFr sFs sFt sFu sFv sFw sFx sFy sFz sFA sFB sFC sFD sFE sFF sFG sFH sFI sFJ sFK sFL sFM sFN sFO sFP sFQ : Value), i ≤ t.is.length ∧ (Below w1.heap.size w1 wr) ∧ a = ⟨#[(.pointer (some ⟨V.zb,0,none⟩)),u1,u2,u3,u4,u5,(.pointer (some ⟨t.b,0,none⟩)),(.int .i64 ((loc q).addr : Int)),u8,(.int .i64 (i : Int)),s10,s11,s12,s13,Je,Jf,Jg,Jh,Ji,Jj,Jk,Jl,Jm,Jn,Jo,Jp,Jq,Jr,Js,Jt,Ju,Jv,Jw,Jx,Jy,Jz,Qa,Qb,Qc,Qd,Qe,Qf,Qg,Qh,Qi,Qj,Qk,Ql,Qm,Qn,Qo,Qp,Qq,Qr,Qs,Qt,Qu,Qv,Qw,Qx,Qy,Qz,Xe,Xg,Xh,Xi,Xj,Xk,Xn,Xo,Xp,Xq,Xt,Xu,Xv,Xx,Xy,Xz,Yg,Yh,Yi,Yj,Yk,Yl,Ym,Yn,Yo,Yp,Yq,Yr,Ys,Yt,Yu,Yv,Yw,Yx,Yy,Yz,Ua,Ub,Uc,Ud,Ue,Uf,Ug,Uh,Ui,Uj,Uk,Ul,Um,Un,Uo,Up,Uq,Ur,Us,Ut,Uu,Uv,Uw,Ux,Uy,Uz,Wc,Wd,We,Wf,Wg,Wh,Wi,Wj,Wk,Wl,Wm,Wn,Wo,Wp,Wq,Wt,Wu,Ww,Wx,Wy,Wz,Ka,Kb,Kc,Kd,Ke,Kf,Kg,Kh,Kj,Kl,Km,Kn,Ko,Kp,Kq,Kr,Kt,Ku,Kv,Kw,Kx,Ky,Kz,Rg,Rh,Ri,Rj,Rk,Rl,Rm,Rp,Rq,Rt,Ru,Rx,Ry,Rz,Gc,Ge,Gf,Gg,sDE,sDF,sDG,sDH,sDI,sDJ,sDK,sDL,sDM,sDN,sDO,sDP,sDQ,sDR,sDS,sDT,sDU,sDV,sDW,sDX,sDY,sDZ,sEa,sEb,sEc,sEd,sEe,sEf,sEg,sEh,sEi,sEj,sEk,sEl,sEm,sEn,sEo,sEp,sEq,sEr,sEs,sEt,sEu,sEv,sEw,sEx,sEy,sEz,sEA,sEB,sEC,sED,sEE,sEF,sEG,sEH,sEI,sEJ,sEK,sEL,sEM,sEN,sEO,sEP,sEQ,sER,sES,sET,sEU,sEV,sEW,sEX,sEY,sEZ,sFa,sFb,sFc,sFd,sFe,sFf,sFg,sFh,sFi,sFj,sFk,sFl,sFm,sFn,sFo,sFp,sFq,sFr,sFs,sFt,sFu,sFv,sFw,sFx,sFy,sFz,sFA,sFB,sFC,sFD,sFE,sFF,sFG,sFH,sFI,sFJ,sFK,sFL,sFM,sFN,sFO,sFP,sFQ,Bh,Bi,Bj,Bk,Bo,Bp,Bs,Bt,Bv,Bx,Mb,Mc,Md,Me,Mg,Mh,Mi,Mj,Mk,Mm,Mo,Mp,Mq,Mr,Mt,Mu,Mv,Mw,Mx,My,Mz,Ha,Hb,He,Hg,Hh,Hi,Hj,Hk,Hm,Ho,Hp,Hq,Hs,Ht,Hu,Hv,Hw,Hx,Hy,Tp,Tq,Ts,Tu,Tx,Tz,Va,Vb,Vc,Vd,Ve,Vf,Vg,Vh,Vi,Vj,Vk,Vm,Vn,Vo,Vp,Vq,Vs,Vt,Vu,Vv,Vw,Vx,Vy,Vz,Za,Zc,Zd,Ze,Zf,Zg,Zh,Zi,Zj,Zk,Zl,Zm,Zo,Zp,Zq,Zt,Zu,Zw,Zx,Zy,Zz,u404,u405,u406,u407], []⟩
def mu_fields_loop (n : Nat) (a : Act) (_ : World) : Nat := n - (intOf (a.tmps.getD 9 undef)).toNat

theorem fields_loop {Q : Exit → Act → World → Prop} {u1 u2 u3 u4 u5 u8 Ja Jb Jc Jd Je Jf Jg Jh Ji Jj Jk Jl Jm Jn Jo Jp Jq Jr Js Jt Ju Jv Jw Jx Jy Jz Qa Qb Qc Qd Qe Qf Qg Qh Qi Qj Qk Ql Qm Qn Qo Qp Qq Qr Qs Qt Qu Qv Qw Qx Qy Qz Xe Xg Xh Xi Xj Xk Xn Xo Xp Xq Xt Xu Xv Xx Xy Xz Yg Yh Yi Yj Yk Yl Ym Yn Yo Yp Yq Yr Ys Yt Yu Yv Yw Yx Yy Yz Ua Ub Uc Ud Ue Uf Ug Uh Ui Uj Uk Ul Um Un Uo Up Uq Ur Us Ut Uu Uv Uw Ux Uy Uz Wc Wd We Wf Wg Wh Wi Wj Wk Wl Wm Wn Wo Wp Wq Wt Wu Ww Wx Wy Wz Ka Kb Kc Kd Ke Kf Kg Kh Kj Kl Km Kn Ko Kp Kq Kr Kt Ku Kv Kw Kx Ky Kz Rg Rh Ri Rj Rk Rl Rm Rp Rq Rt Ru Rx Ry Rz Gc Ge Gf Gg Gh Gi Gj Gm Gn Gp Gq Gt Gu Gv Gx Gy Gz Fe Ff Fg Fh Fi Fj Fk Fm Fo Fp Fq Fs Ft Fu Fv Fw Fx Fy Fz Ec Ee Ef Eg Eh Ei Ej Ek Em En Eo Ep Eu Ev Ex Ey Ez Da Db Dc Dd Dg Dh Di Dj Dk Dl Dm Dn Do Dp Dq Dt Du Dv Dw Dx Dy Dz Pa Pb Pc Pe Pf Pg Ph Pi Pj Pk Pm Pn Po Pq Ps Pt Pu Pv Pw Px Py Pz Na Nc Nd Nf Ng Nh Ni Nj Nk Nl Nn Np Nq Ns Nt Nu Nv Nw Nx Ny Nz Ba Bc Be Bh Bi Bj Bk Bo Bp Bs Bt Bv Bx Mb Mc Md Me Mg Mh Mi Mj Mk Mm Mo Mp Mq Mr Mt Mu Mv Mw Mx My Mz Ha Hb He Hg Hh Hi Hj Hk Hm Ho Hp Hq Hs Ht Hu Hv Hw Hx Hy Tp Tq Ts Tu Tx Tz Va Vb Vc Vd Ve Vf Vg Vh Vi Vj Vk Vm Vn Vo Vp Vq Vs Vt Vu Vv Vw Vx Vy Vz Za Zc Zd Ze Zf Zg Zh Zi Zj Zk Zl Zm Zo Zp Zq Zt Zu Zw Zx Zy Zz u404 u405 u406 u407 : Value} (w1 : World) (O : Nat → Nat) (B : Nat) (V : Zv) (H : HS) (nu ol : List Ob) (T : List Th) (Z : Zn) (loc : Nat → Ob) (gT cT gE cE gW cW gK cK : Nat) (t : Th) (q : Nat) (w : World) (tz : TZ w1 O B V H nu ol T Z loc gT cT gE cE gW cW gK cK) (ht : T[q]? = some t) (hth : t.here = true)
    (h0 : Below w1.heap.size w1 w)
    (hQ : ∀ (s10 s11 s12 s13 sDE sDF sDG sDH sDI sDJ sDK sDL sDM sDN sDO sDP sDQ sDR sDS sDT sDU sDV sDW sDX sDY sDZ sEa sEb sEc sEd sEe sEf sEg sEh sEi sEj sEk sEl sEm sEn sEo sEp sEq sEr sEs sEt sEu sEv sEw sEx sEy sEz sEA sEB sEC sED sEE sEF sEG sEH sEI sEJ sEK sEL sEM sEN sEO sEP sEQ sER sES sET sEU sEV sEW sEX sEY sEZ sFa sFb sFc sFd sFe sFf sFg sFh sFi sFj sFk sFl sFm sFn sFo sFp sFq sFr sFs sFt sFu sFv sFw sFx sFy sFz sFA sFB sFC sFD sFE sFF sFG sFH sFI sFJ sFK sFL sFM sFN sFO sFP sFQ : Value) (w' : World), (Below w1.heap.size w1 w') → Q (.exit 2) ⟨#[(.pointer (some ⟨V.zb,0,none⟩)),u1,u2,u3,u4,u5,(.pointer (some ⟨t.b,0,none⟩)),(.int .i64 ((loc q).addr : Int)),u8,(.int .i64 (t.is.length : Int)),s10,s11,s12,s13,Je,Jf,Jg,Jh,Ji,Jj,Jk,Jl,Jm,Jn,Jo,Jp,Jq,Jr,Js,Jt,Ju,Jv,Jw,Jx,Jy,Jz,Qa,Qb,Qc,Qd,Qe,Qf,Qg,Qh,Qi,Qj,Qk,Ql,Qm,Qn,Qo,Qp,Qq,Qr,Qs,Qt,Qu,Qv,Qw,Qx,Qy,Qz,Xe,Xg,Xh,Xi,Xj,Xk,Xn,Xo,Xp,Xq,Xt,Xu,Xv,Xx,Xy,Xz,Yg,Yh,Yi,Yj,Yk,Yl,Ym,Yn,Yo,Yp,Yq,Yr,Ys,Yt,Yu,Yv,Yw,Yx,Yy,Yz,Ua,Ub,Uc,Ud,Ue,Uf,Ug,Uh,Ui,Uj,Uk,Ul,Um,Un,Uo,Up,Uq,Ur,Us,Ut,Uu,Uv,Uw,Ux,Uy,Uz,Wc,Wd,We,Wf,Wg,Wh,Wi,Wj,Wk,Wl,Wm,Wn,Wo,Wp,Wq,Wt,Wu,Ww,Wx,Wy,Wz,Ka,Kb,Kc,Kd,Ke,Kf,Kg,Kh,Kj,Kl,Km,Kn,Ko,Kp,Kq,Kr,Kt,Ku,Kv,Kw,Kx,Ky,Kz,Rg,Rh,Ri,Rj,Rk,Rl,Rm,Rp,Rq,Rt,Ru,Rx,Ry,Rz,Gc,Ge,Gf,Gg,sDE,sDF,sDG,sDH,sDI,sDJ,sDK,sDL,sDM,sDN,sDO,sDP,sDQ,sDR,sDS,sDT,sDU,sDV,sDW,sDX,sDY,sDZ,sEa,sEb,sEc,sEd,sEe,sEf,sEg,sEh,sEi,sEj,sEk,sEl,sEm,sEn,sEo,sEp,sEq,sEr,sEs,sEt,sEu,sEv,sEw,sEx,sEy,sEz,sEA,sEB,sEC,sED,sEE,sEF,sEG,sEH,sEI,sEJ,sEK,sEL,sEM,sEN,sEO,sEP,sEQ,sER,sES,sET,sEU,sEV,sEW,sEX,sEY,sEZ,sFa,sFb,sFc,sFd,sFe,sFf,sFg,sFh,sFi,sFj,sFk,sFl,sFm,sFn,sFo,sFp,sFq,sFr,sFs,sFt,sFu,sFv,sFw,sFx,sFy,sFz,sFA,sFB,sFC,sFD,sFE,sFF,sFG,sFH,sFI,sFJ,sFK,sFL,sFM,sFN,sFO,sFP,sFQ,Bh,Bi,Bj,Bk,Bo,Bp,Bs,Bt,Bv,Bx,Mb,Mc,Md,Me,Mg,Mh,Mi,Mj,Mk,Mm,Mo,Mp,Mq,Mr,Mt,Mu,Mv,Mw,Mx,My,Mz,Ha,Hb,He,Hg,Hh,Hi,Hj,Hk,Hm,Ho,Hp,Hq,Hs,Ht,Hu,Hv,Hw,Hx,Hy,Tp,Tq,Ts,Tu,Tx,Tz,Va,Vb,Vc,Vd,Ve,Vf,Vg,Vh,Vi,Vj,Vk,Vm,Vn,Vo,Vp,Vq,Vs,Vt,Vu,Vv,Vw,Vx,Vy,Vz,Za,Zc,Zd,Ze,Zf,Zg,Zh,Zi,Zj,Zk,Zl,Zm,Zo,Zp,Zq,Zt,Zu,Zw,Zx,Zy,Zz,u404,u405,u406,u407], []⟩ w') :
    Code.wp Tryd.prog (Cut.piece Tryd.f31 (Cut.loop 18)) Q ⟨#[(.pointer (some ⟨V.zb,0,none⟩)),u1,u2,u3,u4,u5,(.pointer (some ⟨t.b,0,none⟩)),(.int .i64 ((loc q).addr : Int)),u8,(.int .i64 (0 : Int)),Ja,Jb,Jc,Jd,Je,Jf,Jg,Jh,Ji,Jj,Jk,Jl,Jm,Jn,Jo,Jp,Jq,Jr,Js,Jt,Ju,Jv,Jw,Jx,Jy,Jz,Qa,Qb,Qc,Qd,Qe,Qf,Qg,Qh,Qi,Qj,Qk,Ql,Qm,Qn,Qo,Qp,Qq,Qr,Qs,Qt,Qu,Qv,Qw,Qx,Qy,Qz,Xe,Xg,Xh,Xi,Xj,Xk,Xn,Xo,Xp,Xq,Xt,Xu,Xv,Xx,Xy,Xz,Yg,Yh,Yi,Yj,Yk,Yl,Ym,Yn,Yo,Yp,Yq,Yr,Ys,Yt,Yu,Yv,Yw,Yx,Yy,Yz,Ua,Ub,Uc,Ud,Ue,Uf,Ug,Uh,Ui,Uj,Uk,Ul,Um,Un,Uo,Up,Uq,Ur,Us,Ut,Uu,Uv,Uw,Ux,Uy,Uz,Wc,Wd,We,Wf,Wg,Wh,Wi,Wj,Wk,Wl,Wm,Wn,Wo,Wp,Wq,Wt,Wu,Ww,Wx,Wy,Wz,Ka,Kb,Kc,Kd,Ke,Kf,Kg,Kh,Kj,Kl,Km,Kn,Ko,Kp,Kq,Kr,Kt,Ku,Kv,Kw,Kx,Ky,Kz,Rg,Rh,Ri,Rj,Rk,Rl,Rm,Rp,Rq,Rt,Ru,Rx,Ry,Rz,Gc,Ge,Gf,Gg,Gh,Gi,Gj,Gm,Gn,Gp,Gq,Gt,Gu,Gv,Gx,Gy,Gz,Fe,Ff,Fg,Fh,Fi,Fj,Fk,Fm,Fo,Fp,Fq,Fs,Ft,Fu,Fv,Fw,Fx,Fy,Fz,Ec,Ee,Ef,Eg,Eh,Ei,Ej,Ek,Em,En,Eo,Ep,Eu,Ev,Ex,Ey,Ez,Da,Db,Dc,Dd,Dg,Dh,Di,Dj,Dk,Dl,Dm,Dn,Do,Dp,Dq,Dt,Du,Dv,Dw,Dx,Dy,Dz,Pa,Pb,Pc,Pe,Pf,Pg,Ph,Pi,Pj,Pk,Pm,Pn,Po,Pq,Ps,Pt,Pu,Pv,Pw,Px,Py,Pz,Na,Nc,Nd,Nf,Ng,Nh,Ni,Nj,Nk,Nl,Nn,Np,Nq,Ns,Nt,Nu,Nv,Nw,Nx,Ny,Nz,Ba,Bc,Be,Bh,Bi,Bj,Bk,Bo,Bp,Bs,Bt,Bv,Bx,Mb,Mc,Md,Me,Mg,Mh,Mi,Mj,Mk,Mm,Mo,Mp,Mq,Mr,Mt,Mu,Mv,Mw,Mx,My,Mz,Ha,Hb,He,Hg,Hh,Hi,Hj,Hk,Hm,Ho,Hp,Hq,Hs,Ht,Hu,Hv,Hw,Hx,Hy,Tp,Tq,Ts,Tu,Tx,Tz,Va,Vb,Vc,Vd,Ve,Vf,Vg,Vh,Vi,Vj,Vk,Vm,Vn,Vo,Vp,Vq,Vs,Vt,Vu,Vv,Vw,Vx,Vy,Vz,Za,Zc,Zd,Ze,Zf,Zg,Zh,Zi,Zj,Zk,Zl,Zm,Zo,Zp,Zq,Zt,Zu,Zw,Zx,Zy,Zz,u404,u405,u406,u407], []⟩ w := by
  conv => arg 2; whnf
  refine wp_loop (Inv_fields_loop w1 O B V H nu ol T Z loc gT cT gE cE gW cW gK cK t q u1 u2 u3 u4 u5 u8 Je Jf Jg Jh Ji Jj Jk Jl Jm Jn Jo Jp Jq Jr Js Jt Ju Jv Jw Jx Jy Jz Qa Qb Qc Qd Qe Qf Qg Qh Qi Qj Qk Ql Qm Qn Qo Qp Qq Qr Qs Qt Qu Qv Qw Qx Qy Qz Xe Xg Xh Xi Xj Xk Xn Xo Xp Xq Xt Xu Xv Xx Xy Xz Yg Yh Yi Yj Yk Yl Ym Yn Yo Yp Yq Yr Ys Yt Yu Yv Yw Yx Yy Yz Ua Ub Uc Ud Ue Uf Ug Uh Ui Uj Uk Ul Um Un Uo Up Uq Ur Us Ut Uu Uv Uw Ux Uy Uz Wc Wd We Wf Wg Wh Wi Wj Wk Wl Wm Wn Wo Wp Wq Wt Wu Ww Wx Wy Wz Ka Kb Kc Kd Ke Kf Kg Kh Kj Kl Km Kn Ko Kp Kq Kr Kt Ku Kv Kw Kx Ky Kz Rg Rh Ri Rj Rk Rl Rm Rp Rq Rt Ru Rx Ry Rz Gc Ge Gf Gg Bh Bi Bj Bk Bo Bp Bs Bt Bv Bx Mb Mc Md Me Mg Mh Mi Mj Mk Mm Mo Mp Mq Mr Mt Mu Mv Mw Mx My Mz Ha Hb He Hg Hh Hi Hj Hk Hm Ho Hp Hq Hs Ht Hu Hv Hw Hx Hy Tp Tq Ts Tu Tx Tz Va Vb Vc Vd Ve Vf Vg Vh Vi Vj Vk Vm Vn Vo Vp Vq Vs Vt Vu Vv Vw Vx Vy Vz Za Zc Zd Ze Zf Zg Zh Zi Zj Zk Zl Zm Zo Zp Zq Zt Zu Zw Zx Zy Zz u404 u405 u406 u407) (mu_fields_loop (t.is.length)) ?_ (fun a' wr hI => ?_)
  · exact ⟨0, Ja, Jb, Jc, Jd, Gh, Gi, Gj, Gm, Gn, Gp, Gq, Gt, Gu, Gv, Gx, Gy, Gz, Fe, Ff, Fg, Fh, Fi, Fj, Fk, Fm, Fo, Fp, Fq, Fs, Ft, Fu, Fv, Fw, Fx, Fy, Fz, Ec, Ee, Ef, Eg, Eh, Ei, Ej, Ek, Em, En, Eo, Ep, Eu, Ev, Ex, Ey, Ez, Da, Db, Dc, Dd, Dg, Dh, Di, Dj, Dk, Dl, Dm, Dn, Do, Dp, Dq, Dt, Du, Dv, Dw, Dx, Dy, Dz, Pa, Pb, Pc, Pe, Pf, Pg, Ph, Pi, Pj, Pk, Pm, Pn, Po, Pq, Ps, Pt, Pu, Pv, Pw, Px, Py, Pz, Na, Nc, Nd, Nf, Ng, Nh, Ni, Nj, Nk, Nl, Nn, Np, Nq, Ns, Nt, Nu, Nv, Nw, Nx, Ny, Nz, Ba, Bc, Be, Nat.zero_le _, h0, rfl⟩
  obtain ⟨i, s10, s11, s12, s13, sDE, sDF, sDG, sDH, sDI, hI⟩ := hI
  obtain ⟨sDJ, sDK, sDL, sDM, sDN, sDO, sDP, sDQ, sDR, sDS, hI⟩ := hI
  obtain ⟨sDT, sDU, sDV, sDW, sDX, sDY, sDZ, sEa, sEb, sEc, hI⟩ := hI
  obtain ⟨sEd, sEe, sEf, sEg, sEh, sEi, sEj, sEk, sEl, sEm, hI⟩ := hI
  obtain ⟨sEn, sEo, sEp, sEq, sEr, sEs, sEt, sEu, sEv, sEw, hI⟩ := hI
  obtain ⟨sEx, sEy, sEz, sEA, sEB, sEC, sED, sEE, sEF, sEG, hI⟩ := hI
  obtain ⟨sEH, sEI, sEJ, sEK, sEL, sEM, sEN, sEO, sEP, sEQ, hI⟩ := hI
  obtain ⟨sER, sES, sET, sEU, sEV, sEW, sEX, sEY, sEZ, sFa, hI⟩ := hI
  obtain ⟨sFb, sFc, sFd, sFe, sFf, sFg, sFh, sFi, sFj, sFk, hI⟩ := hI
  obtain ⟨sFl, sFm, sFn, sFo, sFp, sFq, sFr, sFs, sFt, sFu, hI⟩ := hI
  obtain ⟨sFv, sFw, sFx, sFy, sFz, sFA, sFB, sFC, sFD, sFE, hI⟩ := hI
  obtain ⟨sFF, sFG, sFH, sFI, sFJ, sFK, sFL, sFM, sFN, sFO, hI⟩ := hI
  obtain ⟨sFP, sFQ, hI⟩ := hI
  obtain ⟨hib, hR, rfl⟩ := hI
  clear h0
  have hZr := tz.h.below hR
  obtain ⟨hob, _, hI⟩ := tz.hz.obj q t ht hth
  obtain ⟨_, tp, tc, tf, tr⟩ := zr_thing hZr tz.v1 (fun _ => rfl) ht
  obtain ⟨oI, cI, hiv⟩ := row_form tr
  have t4 : wr.cell? ⟨t.b, 4, none⟩ = some (.slice oI t.is.length cI) := tc 4 _ (congrArg some hiv)
  have il := tz.hz.len t (List.mem_of_getElem? ht)
  by_cases hil : i < t.is.length
  · obtain ⟨x, hx⟩ : ∃ x, t.is[i]? = some x := ⟨_, List.getElem?_eq_getElem hil⟩
    obtain ⟨v, hv, hfm⟩ := Is.at hI hx
    obtain ⟨gI, rfl⟩ : ∃ gI, oI = some ⟨gI, 0, none⟩ := by
      obtain ⟨g, oo, cc, e1, e2, _⟩ := slot tr (Nat.lt_of_le_of_lt (Nat.zero_le _) hZr.zlt)
      rw [hiv] at e1
      injection e1 with e3 _ _
      exact ⟨g, e3.trans (e2 (by omega))⟩
    have xi : wr.cell? ⟨gI, i, none⟩ = some (.int .i64 x) := by
      rw [hiv] at tr
      rw [tr.cellAt i (by omega), List.getElem?_map, hx]
      rfl
    have hget := get_ob hZr.hr tz.hz.hi hob hv
    have z0 : wr.cell? ⟨V.zb, 0, none⟩ = some (.pointer (some ⟨V.hb, 0, none⟩)) := hZr.cz rfl
    have g0 : decide ((i : Int) < (t.is.length : Int)) = true := by simpa using hil
    have j1 : (i : Int) < (t.is.length : Int) := by omega
    have j0 : (0 : Int) ≤ (i : Int) := by omega
    have c3 : IntKind.i64.wrap ((i : Int) + 1) = (i : Int) + 1 := IntWalk.i64_in _ (by omega)
    have A0 := Lib.hid tz
    have A1 := Lib.hid hR
    have A2 := Lib.hid hZr
    have A3 := Lib.hid hfm
    have A4 := Lib.hid hob
    clear tz hR hZr hfm hob hI tp tc tf tr hiv hv hx ht hth il
    refine wp_seq_k (fun K1 hK1 => ?_)
    have E1 := Lib.hid hK1
    clear hK1
    go_wp2_with fail
    refine E1.out _ _ ?_
    clear E1
    refine wp_seq_k (fun K2 hK2 => ?_)
    have E2 := Lib.hid hK2
    clear hK2
    refine wp_block ?_
    refine wp_seq_k (fun K3 hK3 => ?_)
    have E3 := Lib.hid hK3
    clear hK3
    go_wp2_with fail
    refine hget.mono ?_
    rintro e w2 ⟨rfl, hb2⟩
    have hl := heap_alloc_last w2 (.cells #[.int .i64 v.k, .int .i64 v.n, .string v.s] 28 (0, 0))
    have hb3 : Below wr.heap.size wr (w2.alloc (.cells #[.int .i64 v.k, .int .i64 v.n, .string v.s] 28 (0, 0))) := hb2.alloc hb2.size _
    have k0 := cell_of_block (i := 0) hl rfl
    have k1 := cell_of_block (i := 1) hl rfl
    have k2 := cell_of_block (i := 2) hl rfl
    have t4' := (hb3.cell (World.block_lt_of_cell? wr _ t4)).trans t4
    have xi' := (hb3.cell (World.block_lt_of_cell? wr _ xi)).trans xi
    clear hget z0 t4 xi hl hb2
    go_wp2_with fail
    refine E3.out _ _ ?_
    clear E3
    generalize w2.alloc (.cells #[.int .i64 v.k, .int .i64 v.n, .string v.s] 28 (0, 0)) = w3 at *
    generalize w2.heap.size = vb at *
    have B1 := Lib.hid hb3
    have B2 := Lib.hid (show Below w1.heap.size w1 w3 from A1.out.trans (hb3.mono A1.out.size))
    clear hb3
    rcases A3.out with ⟨rfl, rfl⟩ | ⟨hx0, hvk⟩ | ⟨j, u, rfl, hu, huh, rfl⟩
    · unfold nilV at k0 k1 k2
      simp only at k0 k1 k2
      go_wp2_with fail
      refine E2.out _ _ ?_
      go_wp2
      clear c3
      refine ⟨⟨i + 1, _, _, _, _, _, _, _, _, _, _, _, _, _, _, _, _, _, _, _, _, _, _, _, _, _, _, _, _, _, _, _, _, _, _, _, _, _, _, _, _, _, _, _, _, _, _, _, _, _, _, _, _, _, _, _, _, _, _, _, _, _, _, _, _, _, _, _, _, _, _, _, _, _, _, _, _, _, _, _, _, _, _, _, _, _, _, _, _, _, _, _, _, _, _, _, _, _, _, _, _, _, _, _, _, _, _, _, _, _, _, _, _, _, _, _, _, _, _, _, _, _, by omega, B2.out, rfl⟩, ?_⟩
      simp [mu_fields_loop, intOf]
      omega
    · have d1 : decide (x = 0) = false := by
        simp
        omega
      have d2 : decide (x < 0) = true := by simpa using hx0
      rw [hvk] at k0
      go_wp2_with fail
      refine E2.out _ _ ?_
      go_wp2
      clear c3
      refine ⟨⟨i + 1, _, _, _, _, _, _, _, _, _, _, _, _, _, _, _, _, _, _, _, _, _, _, _, _, _, _, _, _, _, _, _, _, _, _, _, _, _, _, _, _, _, _, _, _, _, _, _, _, _, _, _, _, _, _, _, _, _, _, _, _, _, _, _, _, _, _, _, _, _, _, _, _, _, _, _, _, _, _, _, _, _, _, _, _, _, _, _, _, _, _, _, _, _, _, _, _, _, _, _, _, _, _, _, _, _, _, _, _, _, _, _, _, _, _, _, _, _, _, _, _, _, by omega, B2.out, rfl⟩, ?_⟩
      simp [mu_fields_loop, intOf]
      omega
    · have d1 : decide ((j : Int) + 1 = 0) = false := by
        simp
        omega
      have d2 : decide ((j : Int) + 1 < 0) = false := by
        simp
        omega
      unfold refV at k0 k1 k2
      simp only at k0 k1 k2
      have hZ3 := A0.out.h.below B2.out
      obtain ⟨ho', _, hI'⟩ := A0.out.hz.obj j u hu huh
      obtain ⟨_, up, uc, uf, ur⟩ := zr_thing hZ3 A0.out.v1 (fun _ => rfl) hu
      obtain ⟨oU, cU, hiu⟩ := row_form ur
      have hjl := (List.getElem?_eq_some_iff.1 hu).1
      have hTl := A0.out.tl
      have e1 : w3.cell? ⟨V.zb, 1, none⟩ = some (.slice (some ⟨gT, 0, none⟩) T.length cT) := (hZ3.cz rfl).trans (congrArg some A0.out.v1)
      have e4 : w3.cell? ⟨V.zb, 4, none⟩ = some (.slice (some ⟨gK, 0, none⟩) T.length cK) := (hZ3.cz rfl).trans (congrArg some A0.out.v4)
      have e2 : w3.cell? ⟨V.zb, 2, none⟩ = some (.slice (some ⟨gW, 0, none⟩) T.length cW) := (hZ3.cz rfl).trans (congrArg some A0.out.v2)
      have e0 : w3.cell? ⟨V.zb, 0, none⟩ = some (.pointer (some ⟨V.hb, 0, none⟩)) := hZ3.cz rfl
      have ek := (zr_known hZ3 A0.out.v4 (fun _ => rfl) hu).2
      have u0' : w3.cell? ⟨u.b, 0, none⟩ = some (.int .i64 u.kind) := uc 0 _ rfl
      have u2' : w3.cell? ⟨u.b, 2, none⟩ = some (.int .i64 u.id) := uc 2 _ rfl
      have u4' : w3.cell? ⟨u.b, 4, none⟩ = some (.slice oU u.is.length cU) := uc 4 _ (congrArg some hiu)
      have hKk : ∀ wz : World, Below w3.heap.size w3 wz → Calls Tryd.prog 15 #[.pointer (some ⟨V.hb, 0, none⟩), .int .i64 ((loc j).addr : Int)] wz fun e w' => e = .returned (.int .i64 u.kind) ∧ Below wz.heap.size wz w' := fun wz hb => by
        rw [← hI'.kind]
        exact kind_ob (hZ3.below hb).hr A0.out.hz.hi ho'
      have hKi : ∀ wz : World, Below w3.heap.size w3 wz → Calls Tryd.prog 17 #[.pointer (some ⟨V.hb, 0, none⟩), .int .i64 ((loc j).addr : Int)] wz fun e w' => e = .returned (.int .i64 u.id) ∧ Below wz.heap.size wz w' := fun wz hb => by
        rw [← hI'.id]
        exact id_ob (hZ3.below hb).hr A0.out.hz.hi ho'
      have hKs : ∀ wz : World, Below w3.heap.size w3 wz → Calls Tryd.prog 75 #[.pointer (some ⟨V.hb, 0, none⟩), .int .i64 ((loc j).addr : Int)] wz fun e w' => e = .returned (.int .i64 (u.is.length : Int)) ∧ Below wz.heap.size wz w' := fun wz hb => by
        rw [← hI'.len]
        exact size_ob (hZ3.below hb).hr A0.out.hz.hi ho'
      have m0 : (0 : Int) ≤ (j : Int) := by omega
      have m1 : (j : Int) < (T.length : Int) := by omega
      have c5 : IntKind.i64.wrap (j : Int) = (j : Int) := IntWalk.i64_in _ (by omega)
      have C1 := Lib.hid hKk
      have C2 := Lib.hid hKi
      have C3 := Lib.hid hKs
      have C4 := Lib.hid hZ3
      have C5 := Lib.hid hu
      clear hKk hKi hKs hZ3 ho' hI' uc uf ur hiu hu
      refine wp_seq_k (fun K4 hK4 => ?_)
      have E4 := Lib.hid hK4
      clear hK4
      go_wp2_with fail
      refine E4.out _ _ ?_
      clear E4
      refine wp_block ?_
      refine wp_seq_k (fun K6 hK6 => ?_)
      have E6 := Lib.hid hK6
      clear hK6
      go_wp2_with fail
      refine E6.out _ _ ?_
      clear E6
      refine wp_cond_split rfl (fun hc => ?_) (fun _ => ?_)
      · cases hc
      refine wp_seq_k (fun K7 hK7 => ?_)
      have E7 := Lib.hid hK7
      clear hK7
      go_wp2_with fail
      refine E7.out _ _ ?_
      clear E7
      refine wp_cond_split rfl (fun hc => ?_) (fun _ => ?_)
      · cases hc
      refine wp_seq_k (fun K8 hK8 => ?_)
      have E8 := Lib.hid hK8
      clear hK8
      go_wp2_with fail
      refine E8.out _ _ ?_
      clear E8
      refine wp_cond_split rfl (fun hc => ?_) (fun _ => ?_)
      · cases hc
      refine wp_seq_k (fun K9 hK9 => ?_)
      have E9 := Lib.hid hK9
      clear hK9
      go_wp2_with fail
      refine E9.out _ _ ?_
      clear E9
      refine wp_seq_k (fun K10 hK10 => ?_)
      have E10 := Lib.hid hK10
      clear hK10
      cases hk : u.known with
      | false =>
        rw [hk] at ek
        refine ref_no w3 V.zb V.hb vb u.b gK cK gW cW T.length j ((loc j).addr : Int) u.kind u.id oU u.is.length cU hjl hTl e0 e4 ek k0 k1 u0' u2' u4' C1.out C2.out C3.out ?_
        intro _ _ _ _ _ _ _ _ _ _ _ _ _ _ _ _ _ _ _ _ _ _ _ _ _ _ _ _ _ _ _ _ _ _ _ _ _ _ _ _ _ _ _ _ _ _ _ _ _ _ _ _ _ _ _ _ _ _ _ _ _ _ _ _ _ _ _ w4 hb4
        have D1 := Lib.hid (B2.out.trans (hb4.mono B2.out.size))
        clear hb4 e0 e4 ek k0 k1 k2 u0' u2' u4' e1 e2 up t4' xi' c5 m0 m1
        refine E10.out _ _ ?_
        clear E10
        go_wp2_with fail
        refine E2.out _ _ ?_
        go_wp2
        clear c3
        refine ⟨⟨i + 1, _, _, _, _, _, _, _, _, _, _, _, _, _, _, _, _, _, _, _, _, _, _, _, _, _, _, _, _, _, _, _, _, _, _, _, _, _, _, _, _, _, _, _, _, _, _, _, _, _, _, _, _, _, _, _, _, _, _, _, _, _, _, _, _, _, _, _, _, _, _, _, _, _, _, _, _, _, _, _, _, _, _, _, _, _, _, _, _, _, _, _, _, _, _, _, _, _, _, _, _, _, _, _, _, _, _, _, _, _, _, _, _, _, _, _, _, _, _, _, _, _, by omega, D1.out, rfl⟩, ?_⟩
        simp [mu_fields_loop, intOf]
        omega
      | true =>
        rw [hk] at ek
        obtain ⟨_, huw⟩ := A0.out.hz.known j u C5.out hk
        have x0 : w3.cell? ⟨gW, j * 3, none⟩ = some (.int .i64 4) := by
          have h5 := wcell C4.out A0.out.v2 (r := 0) C5.out (by omega)
          rw [huw] at h5
          exact h5
        have x1 : w3.cell? ⟨gW, j * 3 + 1, none⟩ = some (.int .i64 ((loc j).addr : Int)) := by
          have h5 := wcell C4.out A0.out.v2 (r := 1) C5.out (by omega)
          rw [huw] at h5
          exact h5
        have x2 : w3.cell? ⟨gW, j * 3 + 2, none⟩ = some (.string ByteArray.empty) := by
          have h5 := wcell C4.out A0.out.v2 (r := 2) C5.out (by omega)
          rw [huw] at h5
          exact h5
        refine ref_yes w3 V.zb V.hb vb u.b gK cK gW cW T.length j ((loc j).addr : Int) u.kind u.id oU u.is.length cU hjl hTl e0 e4 ek k0 k1 u0' u2' u4' k2 e2 x0 x1 x2 C1.out C2.out C3.out ?_
        intro _ _ _ _ _ _ _ _ _ _ _ _ _ _ _ _ _ _ _ _ _ _ _ _ _ _ _ _ _ _ _ _ _ _ _ _ _ _ _ _ _ _ _ _ _ _ _ _ _ _ _ _ _ _ _ _ _ _ _ _ _ _ _ _ _ _ _ w4 hb4
        have D1 := Lib.hid (B2.out.trans (hb4.mono B2.out.size))
        clear hb4 e0 e4 ek k0 k1 k2 u0' u2' u4' e1 e2 up t4' xi' c5 m0 m1 x0 x1 x2 huw
        refine E10.out _ _ ?_
        clear E10
        go_wp2_with fail
        refine E2.out _ _ ?_
        go_wp2
        clear c3
        refine ⟨⟨i + 1, _, _, _, _, _, _, _, _, _, _, _, _, _, _, _, _, _, _, _, _, _, _, _, _, _, _, _, _, _, _, _, _, _, _, _, _, _, _, _, _, _, _, _, _, _, _, _, _, _, _, _, _, _, _, _, _, _, _, _, _, _, _, _, _, _, _, _, _, _, _, _, _, _, _, _, _, _, _, _, _, _, _, _, _, _, _, _, _, _, _, _, _, _, _, _, _, _, _, _, _, _, _, _, _, _, _, _, _, _, _, _, _, _, _, _, _, _, _, _, _, _, by omega, D1.out, rfl⟩, ?_⟩
        simp [mu_fields_loop, intOf]
        omega
  · have hie : i = t.is.length := by omega
    subst hie
    have g0 : decide ((t.is.length : Int) < (t.is.length : Int)) = false := by simp
    have A1 := Lib.hid hR
    clear tz hR hZr hob hI tp tc tf tr hiv ht hth il
    go_wp2
    exact A1.out

end Go.Proofs.YthbkklnahhdgcaaDoor.PlSe

namespace Go.Proofs.YthbkklnahhdgcaaDoor.PlSf
open Go Go.Proofs Go.RowKit Go.Maps Go.Proofs.YthbkklnahhdgcaaDoor.Lib HeapR HeapB HeapC HeapD HeapG HeapH ErrC ChA ChT ChCa ChCc ChE ChH ChI ChL ChN ChO ChW ChZ PlA PlT PlZ PlX PlYa PlU PlG PlGa PlJ PlP PlSa PlSb PlSc PlSd PlSe

theorem tell_yes {Q : Exit → Act → World → Prop} {u1 u2 u3 u4 u7 u8 u9 Ja Jb Jc Jd Je Jf Jg Jh Ji Jj Jk Jl Jm Jn Jo Jp Jq Jr Js Jt Ju Jv Jw Jx Jy Jz Qa Qb Qc Qd Qe Qf Qg Qh Qi Qj Qk Ql Qm Qn Qo Qp Qq Qr Qs Qt Qu Qv Qw Qx Qy Qz Xe Xg Xh Xi Xj Xk Xn Xo Xp Xq Xt Xu Xv Xx Xy Xz Yg Yh Yi Yj Yk Yl Ym Yn Yo Yp Yq Yr Ys Yt Yu Yv Yw Yx Yy Yz Ua Ub Uc Ud Ue Uf Ug Uh Ui Uj Uk Ul Um Un Uo Up Uq Ur Us Ut Uu Uv Uw Ux Uy Uz Wc Wd We Wf Wg Wh Wi Wj Wk Wl Wm Wn Wo Wp Wq Wt Wu Ww Wx Wy Wz Ka Kb Kc Kd Ke Kf Kg Kh Kj Kl Km Kn Ko Kp Kq Kr Kt Ku Kv Kw Kx Ky Kz Rg Rh Ri Rj Rk Rl Rm Rp Rq Rt Ru Rx Ry Rz Gc Ge Gf Gg Gh Gi Gj Gm Gn Gp Gq Gt Gu Gv Gx Gy Gz Fe Ff Fg Fh Fi Fj Fk Fm Fo Fp Fq Fs Ft Fu Fv Fw Fx Fy Fz Ec Ee Ef Eg Eh Ei Ej Ek Em En Eo Ep Eu Ev Ex Ey Ez Da Db Dc Dd Dg Dh Di Dj Dk Dl Dm Dn Do Dp Dq Dt Du Dv Dw Dx Dy Dz Pa Pb Pc Pe Pf Pg Ph Pi Pj Pk Pm Pn Po Pq Ps Pt Pu Pv Pw Px Py Pz Na Nc Nd Nf Ng Nh Ni Nj Nk Nl Nn Np Nq Ns Nt Nu Nv Nw Nx Ny Nz Ba Bc Be Bh Bi Bj Bk Bo Bp Bs Bt Bv Bx Mb Mc Md Me Mg Mh Mi Mj Mk Mm Mo Mp Mq Mr Mt Mu Mv Mw Mx My Mz Ha Hb He Hg Hh Hi Hj Hk Hm Ho Hp Hq Hs Ht Hu Hv Hw Hx Hy Tp Tq Ts Tu Tx Tz Va Vb Vc Vd Ve Vf Vg Vh Vi Vj Vk Vm Vn Vo Vp Vq Vs Vt Vu Vv Vw Vx Vy Vz Za Zc Zd Ze Zf Zg Zh Zi Zj Zk Zl Zm Zo Zp Zq Zt Zu Zw Zx Zy Zz u404 u405 u406 u407 : Value} (w0 : World) (O : Nat → Nat) (B : Nat) (V : Zv) (H : HS) (nu ol : List Ob) (T : List Th) (Z : Zn) (loc : Nat → Ob) (gT cT gE cE gW cW gK cK : Nat) (t : Th) (q : Nat)
    (tz : TZ w0 O B V H nu ol T Z loc gT cT gE cE gW cW gK cK) (ht : T[q]? = some t) (hkn : t.known = true)
    (hQ1 : ∀ (s7 s9 s10 s11 s12 s13 s14 s15 sCx sCy sCz sCA sCB sCC sCD sCE sCF sCG sCH sCI sCJ sCK sCL sCM sCN sCO sCP sCQ sCR sCS sCT sCU sCV sCW sCX sCY sCZ sDa sDb sDc sDd sDe sDf sDg sDh sDi sDj sDk sDl sDm sDn sDo sDp sDq sDr sDs sDt sDu sDv sDw sDx sDy sDz sDA sDB sDC sDD sDE sDF sDG sDH sDI sDJ sDK sDL sDM sDN sDO sDP sDQ sDR sDS sDT sDU sDV sDW sDX sDY sDZ sEa sEb sEc sEd sEe sEf sEg sEh sEi sEj sEk sEl sEm sEn sEo sEp sEq sEr sEs sEt sEu sEv sEw sEx sEy sEz sEA sEB sEC sED sEE sEF sEG sEH sEI sEJ sEK sEL sEM sEN sEO sEP sEQ sER sES sET sEU sEV sEW sEX sEY sEZ sFa sFb sFc sFd sFe sFf sFg sFh sFi sFj sFk sFl sFm sFn sFo sFp sFq sFr sFs sFt sFu sFv sFw sFx sFy sFz sFA sFB sFC sFD sFE sFF sFG sFH sFI sFJ sFK sFL sFM sFN sFO sFP sFQ sFR sFS sFT sFU sFV sFW sFX sFY sFZ sGa sGb sGc sGd sGe sGf sGg sGh : Value) (w' : World), Below w0.heap.size w0 w' → Q .normal ⟨#[(.pointer (some ⟨V.zb,0,none⟩)),u1,u2,u3,u4,(.int .i64 (q : Int)),(.pointer (some ⟨t.b,0,none⟩)),s7,u8,s9,s10,s11,s12,s13,s14,s15,Jg,Jh,Ji,Jj,Jk,Jl,Jm,Jn,Jo,Jp,Jq,Jr,Js,Jt,Ju,Jv,Jw,Jx,Jy,Jz,Qa,Qb,Qc,Qd,Qe,Qf,Qg,Qh,Qi,Qj,Qk,Ql,Qm,Qn,Qo,Qp,Qq,Qr,Qs,Qt,Qu,Qv,Qw,Qx,Qy,Qz,Xe,Xg,Xh,Xi,Xj,Xk,Xn,Xo,Xp,Xq,Xt,Xu,Xv,Xx,Xy,Xz,Yg,Yh,Yi,Yj,Yk,Yl,Ym,Yn,Yo,Yp,Yq,Yr,Ys,Yt,Yu,Yv,Yw,Yx,Yy,Yz,Ua,Ub,Uc,Ud,Ue,Uf,Ug,Uh,Ui,Uj,Uk,Ul,Um,Un,Uo,Up,Uq,Ur,Us,Ut,Uu,Uv,Uw,Ux,Uy,Uz,Wc,Wd,We,sCx,sCy,sCz,sCA,sCB,sCC,sCD,sCE,sCF,sCG,sCH,sCI,sCJ,sCK,sCL,sCM,sCN,sCO,sCP,sCQ,sCR,sCS,sCT,sCU,sCV,sCW,sCX,sCY,sCZ,sDa,sDb,sDc,sDd,sDe,sDf,sDg,sDh,sDi,sDj,sDk,sDl,sDm,sDn,sDo,sDp,sDq,sDr,sDs,sDt,sDu,sDv,sDw,sDx,sDy,sDz,sDA,sDB,sDC,sDD,sDE,sDF,sDG,sDH,sDI,sDJ,sDK,sDL,sDM,sDN,sDO,sDP,sDQ,sDR,sDS,sDT,sDU,sDV,sDW,sDX,sDY,sDZ,sEa,sEb,sEc,sEd,sEe,sEf,sEg,sEh,sEi,sEj,sEk,sEl,sEm,sEn,sEo,sEp,sEq,sEr,sEs,sEt,sEu,sEv,sEw,sEx,sEy,sEz,sEA,sEB,sEC,sED,sEE,sEF,sEG,sEH,sEI,sEJ,sEK,sEL,sEM,sEN,sEO,sEP,sEQ,sER,sES,sET,sEU,sEV,sEW,sEX,sEY,sEZ,sFa,sFb,sFc,sFd,sFe,sFf,sFg,sFh,sFi,sFj,sFk,sFl,sFm,sFn,sFo,sFp,sFq,sFr,sFs,sFt,sFu,sFv,sFw,sFx,sFy,sFz,sFA,sFB,sFC,sFD,sFE,sFF,sFG,sFH,sFI,sFJ,sFK,sFL,sFM,sFN,sFO,sFP,sFQ,sFR,sFS,sFT,sFU,sFV,sFW,sFX,sFY,sFZ,sGa,sGb,sGc,sGd,sGe,sGf,sGg,sGh,Mj,Mk,Mm,Mo,Mp,Mq,Mr,Mt,Mu,Mv,Mw,Mx,My,Mz,Ha,Hb,He,Hg,Hh,Hi,Hj,Hk,Hm,Ho,Hp,Hq,Hs,Ht,Hu,Hv,Hw,Hx,Hy,Tp,Tq,Ts,Tu,Tx,Tz,Va,Vb,Vc,Vd,Ve,Vf,Vg,Vh,Vi,Vj,Vk,Vm,Vn,Vo,Vp,Vq,Vs,Vt,Vu,Vv,Vw,Vx,Vy,Vz,Za,Zc,Zd,Ze,Zf,Zg,Zh,Zi,Zj,Zk,Zl,Zm,Zo,Zp,Zq,Zt,Zu,Zw,Zx,Zy,Zz,u404,u405,u406,u407], []⟩ w') :
    Code.wp Tryd.prog (Cut.piece Tryd.f31 (Cut.tail 14)) Q ⟨#[(.pointer (some ⟨V.zb,0,none⟩)),u1,u2,u3,u4,(.int .i64 (q : Int)),(.pointer (some ⟨t.b,0,none⟩)),u7,u8,u9,Ja,Jb,Jc,Jd,Je,Jf,Jg,Jh,Ji,Jj,Jk,Jl,Jm,Jn,Jo,Jp,Jq,Jr,Js,Jt,Ju,Jv,Jw,Jx,Jy,Jz,Qa,Qb,Qc,Qd,Qe,Qf,Qg,Qh,Qi,Qj,Qk,Ql,Qm,Qn,Qo,Qp,Qq,Qr,Qs,Qt,Qu,Qv,Qw,Qx,Qy,Qz,Xe,Xg,Xh,Xi,Xj,Xk,Xn,Xo,Xp,Xq,Xt,Xu,Xv,Xx,Xy,Xz,Yg,Yh,Yi,Yj,Yk,Yl,Ym,Yn,Yo,Yp,Yq,Yr,Ys,Yt,Yu,Yv,Yw,Yx,Yy,Yz,Ua,Ub,Uc,Ud,Ue,Uf,Ug,Uh,Ui,Uj,Uk,Ul,Um,Un,Uo,Up,Uq,Ur,Us,Ut,Uu,Uv,Uw,Ux,Uy,Uz,Wc,Wd,We,Wf,Wg,Wh,Wi,Wj,Wk,Wl,Wm,Wn,Wo,Wp,Wq,Wt,Wu,Ww,Wx,Wy,Wz,Ka,Kb,Kc,Kd,Ke,Kf,Kg,Kh,Kj,Kl,Km,Kn,Ko,Kp,Kq,Kr,Kt,Ku,Kv,Kw,Kx,Ky,Kz,Rg,Rh,Ri,Rj,Rk,Rl,Rm,Rp,Rq,Rt,Ru,Rx,Ry,Rz,Gc,Ge,Gf,Gg,Gh,Gi,Gj,Gm,Gn,Gp,Gq,Gt,Gu,Gv,Gx,Gy,Gz,Fe,Ff,Fg,Fh,Fi,Fj,Fk,Fm,Fo,Fp,Fq,Fs,Ft,Fu,Fv,Fw,Fx,Fy,Fz,Ec,Ee,Ef,Eg,Eh,Ei,Ej,Ek,Em,En,Eo,Ep,Eu,Ev,Ex,Ey,Ez,Da,Db,Dc,Dd,Dg,Dh,Di,Dj,Dk,Dl,Dm,Dn,Do,Dp,Dq,Dt,Du,Dv,Dw,Dx,Dy,Dz,Pa,Pb,Pc,Pe,Pf,Pg,Ph,Pi,Pj,Pk,Pm,Pn,Po,Pq,Ps,Pt,Pu,Pv,Pw,Px,Py,Pz,Na,Nc,Nd,Nf,Ng,Nh,Ni,Nj,Nk,Nl,Nn,Np,Nq,Ns,Nt,Nu,Nv,Nw,Nx,Ny,Nz,Ba,Bc,Be,Bh,Bi,Bj,Bk,Bo,Bp,Bs,Bt,Bv,Bx,Mb,Mc,Md,Me,Mg,Mh,Mi,Mj,Mk,Mm,Mo,Mp,Mq,Mr,Mt,Mu,Mv,Mw,Mx,My,Mz,Ha,Hb,He,Hg,Hh,Hi,Hj,Hk,Hm,Ho,Hp,Hq,Hs,Ht,Hu,Hv,Hw,Hx,Hy,Tp,Tq,Ts,Tu,Tx,Tz,Va,Vb,Vc,Vd,Ve,Vf,Vg,Vh,Vi,Vj,Vk,Vm,Vn,Vo,Vp,Vq,Vs,Vt,Vu,Vv,Vw,Vx,Vy,Vz,Za,Zc,Zd,Ze,Zf,Zg,Zh,Zi,Zj,Zk,Zl,Zm,Zo,Zp,Zq,Zt,Zu,Zw,Zx,Zy,Zz,u404,u405,u406,u407], []⟩ w0 := by
  conv => arg 2; whnf
  have hTl := tz.tl
  have hql := (List.getElem?_eq_some_iff.1 ht).1
  have e2 : w0.cell? ⟨V.zb, 2, none⟩ = some (.slice (some ⟨gW, 0, none⟩) T.length cW) := (tz.h.cz rfl).trans (congrArg some tz.v2)
  have e0 : w0.cell? ⟨V.zb, 0, none⟩ = some (.pointer (some ⟨V.hb, 0, none⟩)) := tz.h.cz rfl
  obtain ⟨_, tp, tc, tf, tr⟩ := zr_thing tz.h tz.v1 (fun _ => rfl) ht
  obtain ⟨oI, cI, hiv⟩ := row_form tr
  have t0 : w0.cell? ⟨t.b, 0, none⟩ = some (.int .i64 t.kind) := tc 0 _ rfl
  have t1 : w0.cell? ⟨t.b, 1, none⟩ = some (.int .i64 t.tag) := tc 1 _ rfl
  have t2 : w0.cell? ⟨t.b, 2, none⟩ = some (.int .i64 t.id) := tc 2 _ rfl
  have t4 : w0.cell? ⟨t.b, 4, none⟩ = some (.slice oI t.is.length cI) := tc 4 _ (congrArg some hiv)
  have m0 : (0 : Int) ≤ (q : Int) := by omega
  have m1 : (q : Int) < (T.length : Int) := by omega
  have A0 := Lib.hid hQ1
  have A2 := Lib.hid tz
  have A3 := Lib.hid ht
  obtain ⟨hth, htw⟩ := tz.hz.known q t ht hkn
  obtain ⟨hob, _, hI⟩ := tz.hz.obj q t ht hth
  have w1' : w0.cell? ⟨gW, q * 3 + 1, none⟩ = some (.int .i64 ((loc q).addr : Int)) := by
    have h5 := wcell tz.h tz.v2 (r := 1) ht (by omega)
    rw [htw] at h5
    exact h5
  have cK : ∀ wz : World, Below w0.heap.size w0 wz → Calls Tryd.prog 15 #[.pointer (some ⟨V.hb, 0, none⟩), .int .i64 ((loc q).addr : Int)] wz fun e w' => e = .returned (.int .i64 t.kind) ∧ Below wz.heap.size wz w' := fun wz hb => by
    rw [← hI.kind]
    exact kind_ob (A2.out.h.below hb).hr A2.out.hz.hi hob
  have cG : ∀ wz : World, Below w0.heap.size w0 wz → Calls Tryd.prog 16 #[.pointer (some ⟨V.hb, 0, none⟩), .int .i64 ((loc q).addr : Int)] wz fun e w' => e = .returned (.int .i64 t.tag) ∧ Below wz.heap.size wz w' := fun wz hb => by
    rw [← hI.tag]
    exact tag_ob (A2.out.h.below hb).hr A2.out.hz.hi hob
  have cD : ∀ wz : World, Below w0.heap.size w0 wz → Calls Tryd.prog 17 #[.pointer (some ⟨V.hb, 0, none⟩), .int .i64 ((loc q).addr : Int)] wz fun e w' => e = .returned (.int .i64 t.id) ∧ Below wz.heap.size wz w' := fun wz hb => by
    rw [← hI.id]
    exact id_ob (A2.out.h.below hb).hr A2.out.hz.hi hob
  have cZ : ∀ wz : World, Below w0.heap.size w0 wz → Calls Tryd.prog 75 #[.pointer (some ⟨V.hb, 0, none⟩), .int .i64 ((loc q).addr : Int)] wz fun e w' => e = .returned (.int .i64 (t.is.length : Int)) ∧ Below wz.heap.size wz w' := fun wz hb => by
    rw [← hI.len]
    exact size_ob (A2.out.h.below hb).hr A2.out.hz.hi hob
  have cP : ∀ wz : World, Below w0.heap.size w0 wz → Calls Tryd.prog 11 #[.pointer (some ⟨V.hb, 0, none⟩), .int .i64 ((loc q).addr : Int), .int .i64 (t.is.length : Int)] wz fun e w' => e = .returned (.tuple #[.agg #[.int .i64 0, .int .i64 0, .string ByteArray.empty], .iface 35 (.int .i64 2)]) ∧ Below wz.heap.size wz w' := fun wz hb => by
    rw [← hI.len]
    exact get_out (A2.out.h.below hb).hr A2.out.hz.hi hob
  have A4 := Lib.hid cK
  have A5 := Lib.hid cG
  have A6 := Lib.hid cD
  have A7 := Lib.hid cZ
  have A8 := Lib.hid cP
  have A9 := Lib.hid hth
  have C0 := Lib.hid e0
  have C1 := Lib.hid t0
  have C2 := Lib.hid t1
  have C3 := Lib.hid t2
  have C4 := Lib.hid t4
  clear hQ1 tz tp tc tf tr hiv ht hth htw hob hI cK cG cD cZ cP t0 t1 t2 t4 e0
  refine wp_seq_k (fun K2 hK2 => ?_)
  have E2 := Lib.hid hK2
  clear hK2
  go_wp2_with fail
  refine E2.out _ _ ?_
  clear E2 e2 w1'
  refine wp_seq_k (fun K3 hK3 => ?_)
  have E3 := Lib.hid hK3
  clear hK3
  refine wp_seq_k (fun K4 hK4 => ?_)
  have E4 := Lib.hid hK4
  clear hK4
  refine same_all w0 V.zb V.hb t.b ((loc q).addr : Int) t.kind t.tag t.id oI t.is.length cI C0.out C1.out C2.out C3.out C4.out A4.out A5.out A6.out A7.out ?_
  intro _ _ _ _ _ _ _ _ _ _ _ _ _ _ _ _ _ _ _ _ _ _ _ _ _ _ _ _ _ _ _ _ _ _ _ _ _ _ _ _ _ _ _ _ _ _ _ _ _ _ w1 hb1
  refine E4.out _ _ ?_
  clear E4
  go_wp2_with fail
  refine E3.out _ _ ?_
  clear E3
  have hl1 := hb1.size
  have D1 := Lib.hid hb1
  clear hb1
  refine wp_seq_k (fun K5 hK5 => ?_)
  have E5 := Lib.hid hK5
  clear hK5
  go_wp2_with fail
  refine fields_loop w1 O B V H nu ol T Z loc gT cT gE cE gW cW gK cK t q w1 (A2.out.below D1.out) A3.out A9.out (Below.refl _ _) ?_
  intro _ _ _ _ _ _ _ _ _ _ _ _ _ _ _ _ _ _ _ _ _ _ _ _ _ _ _ _ _ _ _ _ _ _ _ _ _ _ _ _ _ _ _ _ _ _ _ _ _ _ _ _ _ _ _ _ _ _ _ _ _ _ _ _ _ _ _ _ _ _ _ _ _ _ _ _ _ _ _ _ _ _ _ _ _ _ _ _ _ _ _ _ _ _ _ _ _ _ _ _ _ _ _ _ _ _ _ _ _ _ _ _ _ _ _ _ _ _ _ _ _ w2 hb2
  refine E5.out _ _ ?_
  clear E5
  have D2 := Lib.hid (D1.out.trans (hb2.mono D1.out.size))
  clear hb2
  refine wp_seq_k (fun K6 hK6 => ?_)
  have E6 := Lib.hid hK6
  clear hK6
  refine get_past w2 V.zb V.hb t.b ((loc q).addr : Int) oI t.is.length cI ((D2.out.cell (World.block_lt_of_cell? w0 _ C0.out)).trans C0.out) ((D2.out.cell (World.block_lt_of_cell? w0 _ C4.out)).trans C4.out) (fun wz hb => A8.out wz (D2.out.trans (hb.mono D2.out.size))) ?_
  intro _ _ _ _ _ _ _ _ _ _ _ _ _ _ _ w3 hb3
  refine E6.out _ _ ?_
  clear E6
  have D3 := Lib.hid (D2.out.trans (hb3.mono D2.out.size))
  have hbare : Calls Tryd.prog 14 #[.iface 35 (.int .i64 2), .int .i64 2] w3 fun e w' => e = .returned (.bool true) ∧ Below w3.heap.size w3 w' := bare_errno 2 2 w3 (A2.out.h.below D3.out).et
  clear hb3
  go_wp2_with fail
  refine hbare.mono ?_
  rintro e w4 ⟨rfl, hb4⟩
  dsimp only
  clear hbare
  have D4 := Lib.hid (D3.out.trans (hb4.mono D3.out.size))
  clear hb4
  go_wp2_with fail
  exact A0.out _ _ _ _ _ _ _ _ _ _ _ _ _ _ _ _ _ _ _ _ _ _ _ _ _ _ _ _ _ _ _ _ _ _ _ _ _ _ _ _ _ _ _ _ _ _ _ _ _ _ _ _ _ _ _ _ _ _ _ _ _ _ _ _ _ _ _ _ _ _ _ _ _ _ _ _ _ _ _ _ _ _ _ _ _ _ _ _ _ _ _ _ _ _ _ _ _ _ _ _ _ _ _ _ _ _ _ _ _ _ _ _ _ _ _ _ _ _ _ _ _ _ _ _ _ _ _ _ _ _ _ _ _ _ _ _ _ _ _ _ _ _ _ _ _ _ _ _ _ _ _ _ _ _ _ _ _ _ _ _ _ _ _ _ _ _ _ _ _ _ _ _ _ _ _ _ _ _ _ _ _ _ _ _ _ _ _ _ _ _ _ _ _ _ _ _ _ _ _ _ _ _ D4.out
end Go.Proofs.YthbkklnahhdgcaaDoor.PlSf

namespace Go.Proofs.YthbkklnahhdgcaaDoor.Cut
open Go

/-- The region with which it begins. -/
def lead : Code → Option Nat
  | .region i _ _ => some i
  | .seq a _ => lead a
  | .block _ c => lead c
  | .loop c => lead c
  | .scope c => lead c
  | _ => none
/-- The longest sequence that begins with region n. -/
def since (n : Nat) : Code → Option Code
  | .seq a b => if lead a = some n then some (.seq a b) else match since n a with
    | some c => some c
    | none => since n b
  | .block _ c => since n c
  | .loop c => since n c
  | .scope c => since n c
  | .cond _ a b => match since n a with
    | some c => some c
    | none => since n b
  | _ => none
end Go.Proofs.YthbkklnahhdgcaaDoor.Cut

namespace Go.Proofs.YthbkklnahhdgcaaDoor.PlSg
open Go Go.Proofs Go.RowKit Go.Maps Go.Proofs.YthbkklnahhdgcaaDoor.Lib HeapR HeapB HeapC HeapD HeapG HeapH ErrC ChA ChT ChCa ChCc ChE ChH ChI ChL ChN ChO ChW ChZ PlA PlT PlZ PlX PlYa PlU PlG PlGa PlJ PlP PlSa PlSb PlSc PlSd PlSe PlSf

theorem tell_thing {Q : Exit → Act → World → Prop} {u1 u2 u3 u4 u9 Ja Jb Jc Jd Je Jf Jg Jh Ji Jj Jk Jl Jm Jn Jo Jp Jq Jr Js Jt Ju Jv Jw Jx Jy Jz Qa Qb Qc Qd Qe Qf Qg Qh Qi Qj Qk Ql Qm Qn Qo Qp Qq Qr Qs Qt Qu Qv Qw Qx Qy Qz Xe Xg Xh Xi Xj Xk Xn Xo Xp Xq Xt Xu Xv Xx Xy Xz Yg Yh Yi Yj Yk Yl Ym Yn Yo Yp Yq Yr Ys Yt Yu Yv Yw Yx Yy Yz Ua Ub Uc Ud Ue Uf Ug Uh Ui Uj Uk Ul Um Un Uo Up Uq Ur Us Ut Uu Uv Uw Ux Uy Uz Wc Wd We Wf Wg Wh Wi Wj Wk Wl Wm Wn Wo Wp Wq Wt Wu Ww Wx Wy Wz Ka Kb Kc Kd Ke Kf Kg Kh Kj Kl Km Kn Ko Kp Kq Kr Kt Ku Kv Kw Kx Ky Kz Rg Rh Ri Rj Rk Rl Rm Rp Rq Rt Ru Rx Ry Rz Gc Ge Gf Gg Gh Gi Gj Gm Gn Gp Gq Gt Gu Gv Gx Gy Gz Fe Ff Fg Fh Fi Fj Fk Fm Fo Fp Fq Fs Ft Fu Fv Fw Fx Fy Fz Ec Ee Ef Eg Eh Ei Ej Ek Em En Eo Ep Eu Ev Ex Ey Ez Da Db Dc Dd Dg Dh Di Dj Dk Dl Dm Dn Do Dp Dq Dt Du Dv Dw Dx Dy Dz Pa Pb Pc Pe Pf Pg Ph Pi Pj Pk Pm Pn Po Pq Ps Pt Pu Pv Pw Px Py Pz Na Nc Nd Nf Ng Nh Ni Nj Nk Nl Nn Np Nq Ns Nt Nu Nv Nw Nx Ny Nz Ba Bc Be Bh Bi Bj Bk Bo Bp Bs Bt Bv Bx Mb Mc Md Me Mg Mh Mi Mj Mk Mm Mo Mp Mq Mr Mt Mu Mv Mw Mx My Mz Ha Hb He Hg Hh Hi Hj Hk Hm Ho Hp Hq Hs Ht Hu Hv Hw Hx Hy Tp Tq Ts Tu Tx Tz Va Vb Vc Vd Ve Vf Vg Vh Vi Vj Vk Vm Vn Vo Vp Vq Vs Vt Vu Vv Vw Vx Vy Vz Za Zc Zd Ze Zf Zg Zh Zi Zj Zk Zl Zm Zo Zp Zq Zt Zu Zw Zx Zy Zz u404 u405 u406 u407 : Value} (w0 : World) (O : Nat → Nat) (B : Nat) (V : Zv) (H : HS) (nu ol : List Ob) (T : List Th) (Z : Zn) (loc : Nat → Ob) (gT cT gE cE gW cW gK cK : Nat) (t : Th) (q : Nat) (c : Int) (bo : Bool)
    (tz : TZ w0 O B V H nu ol T Z loc gT cT gE cE gW cW gK cK) (ht : T[q]? = some t) (hbo : 0 < t.id → bo = t.here ∧ (bo = true → c = ((loc q).addr : Int)))
    (hQ1 : ∀ (s7 s8 s9 s10 s11 s12 s13 s14 s15 s79 s80 s81 s82 s83 s84 s85 s86 s87 s88 s89 s90 s91 s92 s93 s94 s95 s96 s97 s98 s99 sBW sBX sBY sBZ sCa sCb sCc sCd sCe sCf sCg sCh sCi sCj sCk sCl sCm sCn sCo sCp sCq sCr sCs sCt sCu sCv sCw sCx sCy sCz sCA sCB sCC sCD sCE sCF sCG sCH sCI sCJ sCK sCL sCM sCN sCO sCP sCQ sCR sCS sCT sCU sCV sCW sCX sCY sCZ sDa sDb sDc sDd sDe sDf sDg sDh sDi sDj sDk sDl sDm sDn sDo sDp sDq sDr sDs sDt sDu sDv sDw sDx sDy sDz sDA sDB sDC sDD sDE sDF sDG sDH sDI sDJ sDK sDL sDM sDN sDO sDP sDQ sDR sDS sDT sDU sDV sDW sDX sDY sDZ sEa sEb sEc sEd sEe sEf sEg sEh sEi sEj sEk sEl sEm sEn sEo sEp sEq sEr sEs sEt sEu sEv sEw sEx sEy sEz sEA sEB sEC sED sEE sEF sEG sEH sEI sEJ sEK sEL sEM sEN sEO sEP sEQ sER sES sET sEU sEV sEW sEX sEY sEZ sFa sFb sFc sFd sFe sFf sFg sFh sFi sFj sFk sFl sFm sFn sFo sFp sFq sFr sFs sFt sFu sFv sFw sFx sFy sFz sFA sFB sFC sFD sFE sFF sFG sFH sFI sFJ sFK sFL sFM sFN sFO sFP sFQ sFR sFS sFT sFU sFV sFW sFX sFY sFZ sGa sGb sGc sGd sGe sGf sGg sGh : Value) (w' : World), Below w0.heap.size w0 w' → Q .normal ⟨#[(.pointer (some ⟨V.zb,0,none⟩)),u1,u2,u3,u4,(.int .i64 (q : Int)),(.pointer (some ⟨t.b,0,none⟩)),s7,s8,s9,s10,s11,s12,s13,s14,s15,Jg,Jh,Ji,Jj,Jk,Jl,Jm,Jn,Jo,Jp,Jq,Jr,Js,Jt,Ju,Jv,Jw,Jx,Jy,Jz,Qa,Qb,Qc,Qd,Qe,Qf,Qg,Qh,Qi,Qj,Qk,Ql,Qm,Qn,Qo,Qp,Qq,Qr,Qs,Qt,Qu,Qv,Qw,Qx,Qy,Qz,Xe,Xg,Xh,Xi,Xj,Xk,Xn,Xo,Xp,Xq,Xt,Xu,Xv,Xx,Xy,Xz,Yg,s79,s80,s81,s82,s83,s84,s85,s86,s87,s88,s89,s90,s91,s92,s93,s94,s95,s96,s97,s98,s99,sBW,sBX,sBY,sBZ,sCa,sCb,sCc,sCd,sCe,sCf,sCg,sCh,sCi,sCj,sCk,sCl,sCm,sCn,sCo,sCp,sCq,sCr,sCs,sCt,sCu,sCv,sCw,sCx,sCy,sCz,sCA,sCB,sCC,sCD,sCE,sCF,sCG,sCH,sCI,sCJ,sCK,sCL,sCM,sCN,sCO,sCP,sCQ,sCR,sCS,sCT,sCU,sCV,sCW,sCX,sCY,sCZ,sDa,sDb,sDc,sDd,sDe,sDf,sDg,sDh,sDi,sDj,sDk,sDl,sDm,sDn,sDo,sDp,sDq,sDr,sDs,sDt,sDu,sDv,sDw,sDx,sDy,sDz,sDA,sDB,sDC,sDD,sDE,sDF,sDG,sDH,sDI,sDJ,sDK,sDL,sDM,sDN,sDO,sDP,sDQ,sDR,sDS,sDT,sDU,sDV,sDW,sDX,sDY,sDZ,sEa,sEb,sEc,sEd,sEe,sEf,sEg,sEh,sEi,sEj,sEk,sEl,sEm,sEn,sEo,sEp,sEq,sEr,sEs,sEt,sEu,sEv,sEw,sEx,sEy,sEz,sEA,sEB,sEC,sED,sEE,sEF,sEG,sEH,sEI,sEJ,sEK,sEL,sEM,sEN,sEO,sEP,sEQ,sER,sES,sET,sEU,sEV,sEW,sEX,sEY,sEZ,sFa,sFb,sFc,sFd,sFe,sFf,sFg,sFh,sFi,sFj,sFk,sFl,sFm,sFn,sFo,sFp,sFq,sFr,sFs,sFt,sFu,sFv,sFw,sFx,sFy,sFz,sFA,sFB,sFC,sFD,sFE,sFF,sFG,sFH,sFI,sFJ,sFK,sFL,sFM,sFN,sFO,sFP,sFQ,sFR,sFS,sFT,sFU,sFV,sFW,sFX,sFY,sFZ,sGa,sGb,sGc,sGd,sGe,sGf,sGg,sGh,Mj,Mk,Mm,Mo,Mp,Mq,Mr,Mt,Mu,Mv,Mw,Mx,My,Mz,Ha,Hb,He,Hg,Hh,Hi,Hj,Hk,Hm,Ho,Hp,Hq,Hs,Ht,Hu,Hv,Hw,Hx,Hy,Tp,Tq,Ts,Tu,Tx,Tz,Va,Vb,Vc,Vd,Ve,Vf,Vg,Vh,Vi,Vj,Vk,Vm,Vn,Vo,Vp,Vq,Vs,Vt,Vu,Vv,Vw,Vx,Vy,Vz,Za,Zc,Zd,Ze,Zf,Zg,Zh,Zi,Zj,Zk,Zl,Zm,Zo,Zp,Zq,Zt,Zu,Zw,Zx,Zy,Zz,u404,u405,u406,u407], []⟩ w')
    (hQ2 : ∀ (s7 s8 s9 s10 s11 s12 s13 s14 s15 s79 s80 s81 s82 s83 s84 s85 s86 s87 s88 s89 s90 s91 s92 s93 s94 s95 s96 s97 s98 s99 sBW sBX sBY sBZ sCa sCb sCc sCd sCe sCf sCg sCh sCi sCj sCk sCl sCm sCn sCo sCp sCq sCr sCs sCt sCu sCv sCw sCx sCy sCz sCA sCB sCC sCD sCE sCF sCG sCH sCI sCJ sCK sCL sCM sCN sCO sCP sCQ sCR sCS sCT sCU sCV sCW sCX sCY sCZ sDa sDb sDc sDd sDe sDf sDg sDh sDi sDj sDk sDl sDm sDn sDo sDp sDq sDr sDs sDt sDu sDv sDw sDx sDy sDz sDA sDB sDC sDD sDE sDF sDG sDH sDI sDJ sDK sDL sDM sDN sDO sDP sDQ sDR sDS sDT sDU sDV sDW sDX sDY sDZ sEa sEb sEc sEd sEe sEf sEg sEh sEi sEj sEk sEl sEm sEn sEo sEp sEq sEr sEs sEt sEu sEv sEw sEx sEy sEz sEA sEB sEC sED sEE sEF sEG sEH sEI sEJ sEK sEL sEM sEN sEO sEP sEQ sER sES sET sEU sEV sEW sEX sEY sEZ sFa sFb sFc sFd sFe sFf sFg sFh sFi sFj sFk sFl sFm sFn sFo sFp sFq sFr sFs sFt sFu sFv sFw sFx sFy sFz sFA sFB sFC sFD sFE sFF sFG sFH sFI sFJ sFK sFL sFM sFN sFO sFP sFQ sFR sFS sFT sFU sFV sFW sFX sFY sFZ sGa sGb sGc sGd sGe sGf sGg sGh : Value) (w' : World), Below w0.heap.size w0 w' → Q (.exit 1) ⟨#[(.pointer (some ⟨V.zb,0,none⟩)),u1,u2,u3,u4,(.int .i64 (q : Int)),(.pointer (some ⟨t.b,0,none⟩)),s7,s8,s9,s10,s11,s12,s13,s14,s15,Jg,Jh,Ji,Jj,Jk,Jl,Jm,Jn,Jo,Jp,Jq,Jr,Js,Jt,Ju,Jv,Jw,Jx,Jy,Jz,Qa,Qb,Qc,Qd,Qe,Qf,Qg,Qh,Qi,Qj,Qk,Ql,Qm,Qn,Qo,Qp,Qq,Qr,Qs,Qt,Qu,Qv,Qw,Qx,Qy,Qz,Xe,Xg,Xh,Xi,Xj,Xk,Xn,Xo,Xp,Xq,Xt,Xu,Xv,Xx,Xy,Xz,Yg,s79,s80,s81,s82,s83,s84,s85,s86,s87,s88,s89,s90,s91,s92,s93,s94,s95,s96,s97,s98,s99,sBW,sBX,sBY,sBZ,sCa,sCb,sCc,sCd,sCe,sCf,sCg,sCh,sCi,sCj,sCk,sCl,sCm,sCn,sCo,sCp,sCq,sCr,sCs,sCt,sCu,sCv,sCw,sCx,sCy,sCz,sCA,sCB,sCC,sCD,sCE,sCF,sCG,sCH,sCI,sCJ,sCK,sCL,sCM,sCN,sCO,sCP,sCQ,sCR,sCS,sCT,sCU,sCV,sCW,sCX,sCY,sCZ,sDa,sDb,sDc,sDd,sDe,sDf,sDg,sDh,sDi,sDj,sDk,sDl,sDm,sDn,sDo,sDp,sDq,sDr,sDs,sDt,sDu,sDv,sDw,sDx,sDy,sDz,sDA,sDB,sDC,sDD,sDE,sDF,sDG,sDH,sDI,sDJ,sDK,sDL,sDM,sDN,sDO,sDP,sDQ,sDR,sDS,sDT,sDU,sDV,sDW,sDX,sDY,sDZ,sEa,sEb,sEc,sEd,sEe,sEf,sEg,sEh,sEi,sEj,sEk,sEl,sEm,sEn,sEo,sEp,sEq,sEr,sEs,sEt,sEu,sEv,sEw,sEx,sEy,sEz,sEA,sEB,sEC,sED,sEE,sEF,sEG,sEH,sEI,sEJ,sEK,sEL,sEM,sEN,sEO,sEP,sEQ,sER,sES,sET,sEU,sEV,sEW,sEX,sEY,sEZ,sFa,sFb,sFc,sFd,sFe,sFf,sFg,sFh,sFi,sFj,sFk,sFl,sFm,sFn,sFo,sFp,sFq,sFr,sFs,sFt,sFu,sFv,sFw,sFx,sFy,sFz,sFA,sFB,sFC,sFD,sFE,sFF,sFG,sFH,sFI,sFJ,sFK,sFL,sFM,sFN,sFO,sFP,sFQ,sFR,sFS,sFT,sFU,sFV,sFW,sFX,sFY,sFZ,sGa,sGb,sGc,sGd,sGe,sGf,sGg,sGh,Mj,Mk,Mm,Mo,Mp,Mq,Mr,Mt,Mu,Mv,Mw,Mx,My,Mz,Ha,Hb,He,Hg,Hh,Hi,Hj,Hk,Hm,Ho,Hp,Hq,Hs,Ht,Hu,Hv,Hw,Hx,Hy,Tp,Tq,Ts,Tu,Tx,Tz,Va,Vb,Vc,Vd,Ve,Vf,Vg,Vh,Vi,Vj,Vk,Vm,Vn,Vo,Vp,Vq,Vs,Vt,Vu,Vv,Vw,Vx,Vy,Vz,Za,Zc,Zd,Ze,Zf,Zg,Zh,Zi,Zj,Zk,Zl,Zm,Zo,Zp,Zq,Zt,Zu,Zw,Zx,Zy,Zz,u404,u405,u406,u407], []⟩ w') :
    Code.wp Tryd.prog (Cut.piece Tryd.f31 (Cut.since 11)) Q ⟨#[(.pointer (some ⟨V.zb,0,none⟩)),u1,u2,u3,u4,(.int .i64 (q : Int)),(.pointer (some ⟨t.b,0,none⟩)),(.int .i64 c),(.bool bo),u9,Ja,Jb,Jc,Jd,Je,Jf,Jg,Jh,Ji,Jj,Jk,Jl,Jm,Jn,Jo,Jp,Jq,Jr,Js,Jt,Ju,Jv,Jw,Jx,Jy,Jz,Qa,Qb,Qc,Qd,Qe,Qf,Qg,Qh,Qi,Qj,Qk,Ql,Qm,Qn,Qo,Qp,Qq,Qr,Qs,Qt,Qu,Qv,Qw,Qx,Qy,Qz,Xe,Xg,Xh,Xi,Xj,Xk,Xn,Xo,Xp,Xq,Xt,Xu,Xv,Xx,Xy,Xz,Yg,Yh,Yi,Yj,Yk,Yl,Ym,Yn,Yo,Yp,Yq,Yr,Ys,Yt,Yu,Yv,Yw,Yx,Yy,Yz,Ua,Ub,Uc,Ud,Ue,Uf,Ug,Uh,Ui,Uj,Uk,Ul,Um,Un,Uo,Up,Uq,Ur,Us,Ut,Uu,Uv,Uw,Ux,Uy,Uz,Wc,Wd,We,Wf,Wg,Wh,Wi,Wj,Wk,Wl,Wm,Wn,Wo,Wp,Wq,Wt,Wu,Ww,Wx,Wy,Wz,Ka,Kb,Kc,Kd,Ke,Kf,Kg,Kh,Kj,Kl,Km,Kn,Ko,Kp,Kq,Kr,Kt,Ku,Kv,Kw,Kx,Ky,Kz,Rg,Rh,Ri,Rj,Rk,Rl,Rm,Rp,Rq,Rt,Ru,Rx,Ry,Rz,Gc,Ge,Gf,Gg,Gh,Gi,Gj,Gm,Gn,Gp,Gq,Gt,Gu,Gv,Gx,Gy,Gz,Fe,Ff,Fg,Fh,Fi,Fj,Fk,Fm,Fo,Fp,Fq,Fs,Ft,Fu,Fv,Fw,Fx,Fy,Fz,Ec,Ee,Ef,Eg,Eh,Ei,Ej,Ek,Em,En,Eo,Ep,Eu,Ev,Ex,Ey,Ez,Da,Db,Dc,Dd,Dg,Dh,Di,Dj,Dk,Dl,Dm,Dn,Do,Dp,Dq,Dt,Du,Dv,Dw,Dx,Dy,Dz,Pa,Pb,Pc,Pe,Pf,Pg,Ph,Pi,Pj,Pk,Pm,Pn,Po,Pq,Ps,Pt,Pu,Pv,Pw,Px,Py,Pz,Na,Nc,Nd,Nf,Ng,Nh,Ni,Nj,Nk,Nl,Nn,Np,Nq,Ns,Nt,Nu,Nv,Nw,Nx,Ny,Nz,Ba,Bc,Be,Bh,Bi,Bj,Bk,Bo,Bp,Bs,Bt,Bv,Bx,Mb,Mc,Md,Me,Mg,Mh,Mi,Mj,Mk,Mm,Mo,Mp,Mq,Mr,Mt,Mu,Mv,Mw,Mx,My,Mz,Ha,Hb,He,Hg,Hh,Hi,Hj,Hk,Hm,Ho,Hp,Hq,Hs,Ht,Hu,Hv,Hw,Hx,Hy,Tp,Tq,Ts,Tu,Tx,Tz,Va,Vb,Vc,Vd,Ve,Vf,Vg,Vh,Vi,Vj,Vk,Vm,Vn,Vo,Vp,Vq,Vs,Vt,Vu,Vv,Vw,Vx,Vy,Vz,Za,Zc,Zd,Ze,Zf,Zg,Zh,Zi,Zj,Zk,Zl,Zm,Zo,Zp,Zq,Zt,Zu,Zw,Zx,Zy,Zz,u404,u405,u406,u407], []⟩ w0 := by
  conv => arg 2; whnf
  have hTl := tz.tl
  have hql := (List.getElem?_eq_some_iff.1 ht).1
  have e4 : w0.cell? ⟨V.zb, 4, none⟩ = some (.slice (some ⟨gK, 0, none⟩) T.length cK) := (tz.h.cz rfl).trans (congrArg some tz.v4)
  have e3 : w0.cell? ⟨V.zb, 3, none⟩ = some (.slice (some ⟨gE, 0, none⟩) T.length cE) := (tz.h.cz rfl).trans (congrArg some tz.v3)
  have e2 : w0.cell? ⟨V.zb, 2, none⟩ = some (.slice (some ⟨gW, 0, none⟩) T.length cW) := (tz.h.cz rfl).trans (congrArg some tz.v2)
  have ek := (zr_known tz.h tz.v4 (fun _ => rfl) ht).2
  have eh := (zr_here tz.h tz.v3 (fun _ => rfl) ht).2
  obtain ⟨_, tp, tc, tf, tr⟩ := zr_thing tz.h tz.v1 (fun _ => rfl) ht
  have t2 : w0.cell? ⟨t.b, 2, none⟩ = some (.int .i64 t.id) := tc 2 _ rfl
  have wn : w0.cell? ⟨gW, q * 3 + 1, none⟩ = some (.int .i64 t.wv.n) := wcell tz.h tz.v2 (r := 1) ht (by omega)
  have m0 : (0 : Int) ≤ (q : Int) := by omega
  have m1 : (q : Int) < (T.length : Int) := by omega
  have hkw : t.known = true → t.here = true ∧ t.wv.n = ((loc q).addr : Int) := fun h => by
    obtain ⟨h1, h2⟩ := tz.hz.known q t ht h
    exact ⟨h1, by rw [h2]; rfl⟩
  have A0 := Lib.hid hQ1
  have A1 := Lib.hid hQ2
  have A2 := Lib.hid tz
  have A3 := Lib.hid ht
  clear hQ1 hQ2 tz tp tc tf tr ht
  refine wp_seq_k (fun K1 hK1 => ?_)
  have E1 := Lib.hid hK1
  clear hK1
  refine wp_seq_k (fun K2 hK2 => ?_)
  have E2 := Lib.hid hK2
  clear hK2
  by_cases hp : 0 < t.id
  · have g1 : decide (0 < t.id) = true := by simpa using hp
    obtain ⟨hb1, hb2⟩ := hbo hp
    subst hb1
    cases hh : t.here with
    | false =>
      rw [hh] at eh
      clear hbo hb2 hkw
      go_wp2_with fail
      refine E2.out _ _ ?_
      clear E2
      refine wp_cond_split rfl (fun hc => ?_) (fun _ => ?_)
      · cases hc
      go_wp2_with fail
      refine E1.out _ _ ?_
      clear E1
      refine wp_seq_k (fun K3 hK3 => ?_)
      have E3 := Lib.hid hK3
      clear hK3
      cases hkn : t.known with
      | false =>
        rw [hkn] at ek
        go_wp2_with fail
        exact A1.out _ _ _ _ _ _ _ _ _ _ _ _ _ _ _ _ _ _ _ _ _ _ _ _ _ _ _ _ _ _ _ _ _ _ _ _ _ _ _ _ _ _ _ _ _ _ _ _ _ _ _ _ _ _ _ _ _ _ _ _ _ _ _ _ _ _ _ _ _ _ _ _ _ _ _ _ _ _ _ _ _ _ _ _ _ _ _ _ _ _ _ _ _ _ _ _ _ _ _ _ _ _ _ _ _ _ _ _ _ _ _ _ _ _ _ _ _ _ _ _ _ _ _ _ _ _ _ _ _ _ _ _ _ _ _ _ _ _ _ _ _ _ _ _ _ _ _ _ _ _ _ _ _ _ _ _ _ _ _ _ _ _ _ _ _ _ _ _ _ _ _ _ _ _ _ _ _ _ _ _ _ _ _ _ _ _ _ _ _ _ _ _ _ _ _ _ _ _ _ _ _ _ _ _ _ _ _ _ _ _ _ _ _ _ _ _ _ _ _ _ _ _ _ _ _ _ _ _ _ _ _ _ _ _ _ _ _ _ _ _ _ _ _ _ _ _ _ _ _ _ _ (Below.refl _ _)
      | true =>
        rw [hkn] at ek
        go_wp2_with fail
        refine E3.out _ _ ?_
        clear E3
        refine tell_yes w0 O B V H nu ol T Z loc gT cT gE cE gW cW gK cK t q A2.out A3.out hkn ?_
        intro _ _ _ _ _ _ _ _ _ _ _ _ _ _ _ _ _ _ _ _ _ _ _ _ _ _ _ _ _ _ _ _ _ _ _ _ _ _ _ _ _ _ _ _ _ _ _ _ _ _ _ _ _ _ _ _ _ _ _ _ _ _ _ _ _ _ _ _ _ _ _ _ _ _ _ _ _ _ _ _ _ _ _ _ _ _ _ _ _ _ _ _ _ _ _ _ _ _ _ _ _ _ _ _ _ _ _ _ _ _ _ _ _ _ _ _ _ _ _ _ _ _ _ _ _ _ _ _ _ _ _ _ _ _ _ _ _ _ _ _ _ _ _ _ _ _ _ _ _ _ _ _ _ _ _ _ _ _ _ _ _ _ _ _ _ _ _ _ _ _ _ _ _ _ _ _ _ _ _ _ _ _ _ _ _ _ _ _ _ _ _ _ _ _ _ _ _ _ _ _ _ w1 hb1
        exact A0.out _ _ _ _ _ _ _ _ _ _ _ _ _ _ _ _ _ _ _ _ _ _ _ _ _ _ _ _ _ _ _ _ _ _ _ _ _ _ _ _ _ _ _ _ _ _ _ _ _ _ _ _ _ _ _ _ _ _ _ _ _ _ _ _ _ _ _ _ _ _ _ _ _ _ _ _ _ _ _ _ _ _ _ _ _ _ _ _ _ _ _ _ _ _ _ _ _ _ _ _ _ _ _ _ _ _ _ _ _ _ _ _ _ _ _ _ _ _ _ _ _ _ _ _ _ _ _ _ _ _ _ _ _ _ _ _ _ _ _ _ _ _ _ _ _ _ _ _ _ _ _ _ _ _ _ _ _ _ _ _ _ _ _ _ _ _ _ _ _ _ _ _ _ _ _ _ _ _ _ _ _ _ _ _ _ _ _ _ _ _ _ _ _ _ _ _ _ _ _ _ _ _ _ _ _ _ _ _ _ _ _ _ _ _ _ _ _ _ _ _ _ _ _ _ _ _ _ _ _ _ _ _ _ _ _ _ _ _ _ _ _ _ _ _ _ _ _ _ _ _ w1 hb1
    | true =>
      rw [hh] at eh
      have hc := hb2 hh
      subst hc
      cases hk0 : t.known with
      | false =>
        have ek0 := ek
        rw [hk0] at ek0
        clear hbo hb2 hkw
        go_wp2_with fail
        refine E2.out _ _ ?_
        clear E2
        refine wp_cond_split rfl (fun hc => ?_) (fun _ => ?_)
        · cases hc
        go_wp2_with fail
        refine E1.out _ _ ?_
        clear E1
        refine wp_seq_k (fun K3 hK3 => ?_)
        have E3 := Lib.hid hK3
        clear hK3
        cases hkn : t.known with
        | false =>
          rw [hkn] at ek
          go_wp2_with fail
          exact A1.out _ _ _ _ _ _ _ _ _ _ _ _ _ _ _ _ _ _ _ _ _ _ _ _ _ _ _ _ _ _ _ _ _ _ _ _ _ _ _ _ _ _ _ _ _ _ _ _ _ _ _ _ _ _ _ _ _ _ _ _ _ _ _ _ _ _ _ _ _ _ _ _ _ _ _ _ _ _ _ _ _ _ _ _ _ _ _ _ _ _ _ _ _ _ _ _ _ _ _ _ _ _ _ _ _ _ _ _ _ _ _ _ _ _ _ _ _ _ _ _ _ _ _ _ _ _ _ _ _ _ _ _ _ _ _ _ _ _ _ _ _ _ _ _ _ _ _ _ _ _ _ _ _ _ _ _ _ _ _ _ _ _ _ _ _ _ _ _ _ _ _ _ _ _ _ _ _ _ _ _ _ _ _ _ _ _ _ _ _ _ _ _ _ _ _ _ _ _ _ _ _ _ _ _ _ _ _ _ _ _ _ _ _ _ _ _ _ _ _ _ _ _ _ _ _ _ _ _ _ _ _ _ _ _ _ _ _ _ _ _ _ _ _ _ _ _ _ _ _ _ _ (Below.refl _ _)
        | true =>
          rw [hkn] at ek
          go_wp2_with fail
          refine E3.out _ _ ?_
          clear E3
          refine tell_yes w0 O B V H nu ol T Z loc gT cT gE cE gW cW gK cK t q A2.out A3.out hkn ?_
          intro _ _ _ _ _ _ _ _ _ _ _ _ _ _ _ _ _ _ _ _ _ _ _ _ _ _ _ _ _ _ _ _ _ _ _ _ _ _ _ _ _ _ _ _ _ _ _ _ _ _ _ _ _ _ _ _ _ _ _ _ _ _ _ _ _ _ _ _ _ _ _ _ _ _ _ _ _ _ _ _ _ _ _ _ _ _ _ _ _ _ _ _ _ _ _ _ _ _ _ _ _ _ _ _ _ _ _ _ _ _ _ _ _ _ _ _ _ _ _ _ _ _ _ _ _ _ _ _ _ _ _ _ _ _ _ _ _ _ _ _ _ _ _ _ _ _ _ _ _ _ _ _ _ _ _ _ _ _ _ _ _ _ _ _ _ _ _ _ _ _ _ _ _ _ _ _ _ _ _ _ _ _ _ _ _ _ _ _ _ _ _ _ _ _ _ _ _ _ _ _ _ w1 hb1
          exact A0.out _ _ _ _ _ _ _ _ _ _ _ _ _ _ _ _ _ _ _ _ _ _ _ _ _ _ _ _ _ _ _ _ _ _ _ _ _ _ _ _ _ _ _ _ _ _ _ _ _ _ _ _ _ _ _ _ _ _ _ _ _ _ _ _ _ _ _ _ _ _ _ _ _ _ _ _ _ _ _ _ _ _ _ _ _ _ _ _ _ _ _ _ _ _ _ _ _ _ _ _ _ _ _ _ _ _ _ _ _ _ _ _ _ _ _ _ _ _ _ _ _ _ _ _ _ _ _ _ _ _ _ _ _ _ _ _ _ _ _ _ _ _ _ _ _ _ _ _ _ _ _ _ _ _ _ _ _ _ _ _ _ _ _ _ _ _ _ _ _ _ _ _ _ _ _ _ _ _ _ _ _ _ _ _ _ _ _ _ _ _ _ _ _ _ _ _ _ _ _ _ _ _ _ _ _ _ _ _ _ _ _ _ _ _ _ _ _ _ _ _ _ _ _ _ _ _ _ _ _ _ _ _ _ _ _ _ _ _ _ _ _ _ _ _ _ _ _ _ _ _ w1 hb1
      | true =>
        have ek0 := ek
        rw [hk0] at ek0
        have hw0 := (hkw hk0).2
        rw [hw0] at wn
        clear hbo hb2 hkw hw0
        go_wp2_with fail
        refine E2.out _ _ ?_
        clear E2
        refine wp_cond_split rfl (fun hc => ?_) (fun _ => ?_)
        · cases hc
        go_wp2_with fail
        refine E1.out _ _ ?_
        clear E1
        refine wp_seq_k (fun K3 hK3 => ?_)
        have E3 := Lib.hid hK3
        clear hK3
        cases hkn : t.known with
        | false =>
          rw [hkn] at ek
          go_wp2_with fail
          exact A1.out _ _ _ _ _ _ _ _ _ _ _ _ _ _ _ _ _ _ _ _ _ _ _ _ _ _ _ _ _ _ _ _ _ _ _ _ _ _ _ _ _ _ _ _ _ _ _ _ _ _ _ _ _ _ _ _ _ _ _ _ _ _ _ _ _ _ _ _ _ _ _ _ _ _ _ _ _ _ _ _ _ _ _ _ _ _ _ _ _ _ _ _ _ _ _ _ _ _ _ _ _ _ _ _ _ _ _ _ _ _ _ _ _ _ _ _ _ _ _ _ _ _ _ _ _ _ _ _ _ _ _ _ _ _ _ _ _ _ _ _ _ _ _ _ _ _ _ _ _ _ _ _ _ _ _ _ _ _ _ _ _ _ _ _ _ _ _ _ _ _ _ _ _ _ _ _ _ _ _ _ _ _ _ _ _ _ _ _ _ _ _ _ _ _ _ _ _ _ _ _ _ _ _ _ _ _ _ _ _ _ _ _ _ _ _ _ _ _ _ _ _ _ _ _ _ _ _ _ _ _ _ _ _ _ _ _ _ _ _ _ _ _ _ _ _ _ _ _ _ _ _ (Below.refl _ _)
        | true =>
          rw [hkn] at ek
          go_wp2_with fail
          refine E3.out _ _ ?_
          clear E3
          refine tell_yes w0 O B V H nu ol T Z loc gT cT gE cE gW cW gK cK t q A2.out A3.out hkn ?_
          intro _ _ _ _ _ _ _ _ _ _ _ _ _ _ _ _ _ _ _ _ _ _ _ _ _ _ _ _ _ _ _ _ _ _ _ _ _ _ _ _ _ _ _ _ _ _ _ _ _ _ _ _ _ _ _ _ _ _ _ _ _ _ _ _ _ _ _ _ _ _ _ _ _ _ _ _ _ _ _ _ _ _ _ _ _ _ _ _ _ _ _ _ _ _ _ _ _ _ _ _ _ _ _ _ _ _ _ _ _ _ _ _ _ _ _ _ _ _ _ _ _ _ _ _ _ _ _ _ _ _ _ _ _ _ _ _ _ _ _ _ _ _ _ _ _ _ _ _ _ _ _ _ _ _ _ _ _ _ _ _ _ _ _ _ _ _ _ _ _ _ _ _ _ _ _ _ _ _ _ _ _ _ _ _ _ _ _ _ _ _ _ _ _ _ _ _ _ _ _ _ _ w1 hb1
          exact A0.out _ _ _ _ _ _ _ _ _ _ _ _ _ _ _ _ _ _ _ _ _ _ _ _ _ _ _ _ _ _ _ _ _ _ _ _ _ _ _ _ _ _ _ _ _ _ _ _ _ _ _ _ _ _ _ _ _ _ _ _ _ _ _ _ _ _ _ _ _ _ _ _ _ _ _ _ _ _ _ _ _ _ _ _ _ _ _ _ _ _ _ _ _ _ _ _ _ _ _ _ _ _ _ _ _ _ _ _ _ _ _ _ _ _ _ _ _ _ _ _ _ _ _ _ _ _ _ _ _ _ _ _ _ _ _ _ _ _ _ _ _ _ _ _ _ _ _ _ _ _ _ _ _ _ _ _ _ _ _ _ _ _ _ _ _ _ _ _ _ _ _ _ _ _ _ _ _ _ _ _ _ _ _ _ _ _ _ _ _ _ _ _ _ _ _ _ _ _ _ _ _ _ _ _ _ _ _ _ _ _ _ _ _ _ _ _ _ _ _ _ _ _ _ _ _ _ _ _ _ _ _ _ _ _ _ _ _ _ _ _ _ _ _ _ _ _ _ _ _ _ w1 hb1
  · have g1 : decide (0 < t.id) = false := by simpa using hp
    clear hbo hkw
    go_wp2_with fail
    refine E2.out _ _ ?_
    clear E2
    refine wp_cond_split rfl (fun hc => ?_) (fun _ => ?_)
    · cases hc
    go_wp2_with fail
    refine E1.out _ _ ?_
    clear E1
    refine wp_seq_k (fun K3 hK3 => ?_)
    have E3 := Lib.hid hK3
    clear hK3
    cases hkn : t.known with
    | false =>
      rw [hkn] at ek
      go_wp2_with fail
      exact A1.out _ _ _ _ _ _ _ _ _ _ _ _ _ _ _ _ _ _ _ _ _ _ _ _ _ _ _ _ _ _ _ _ _ _ _ _ _ _ _ _ _ _ _ _ _ _ _ _ _ _ _ _ _ _ _ _ _ _ _ _ _ _ _ _ _ _ _ _ _ _ _ _ _ _ _ _ _ _ _ _ _ _ _ _ _ _ _ _ _ _ _ _ _ _ _ _ _ _ _ _ _ _ _ _ _ _ _ _ _ _ _ _ _ _ _ _ _ _ _ _ _ _ _ _ _ _ _ _ _ _ _ _ _ _ _ _ _ _ _ _ _ _ _ _ _ _ _ _ _ _ _ _ _ _ _ _ _ _ _ _ _ _ _ _ _ _ _ _ _ _ _ _ _ _ _ _ _ _ _ _ _ _ _ _ _ _ _ _ _ _ _ _ _ _ _ _ _ _ _ _ _ _ _ _ _ _ _ _ _ _ _ _ _ _ _ _ _ _ _ _ _ _ _ _ _ _ _ _ _ _ _ _ _ _ _ _ _ _ _ _ _ _ _ _ _ _ _ _ _ _ _ (Below.refl _ _)
    | true =>
      rw [hkn] at ek
      go_wp2_with fail
      refine E3.out _ _ ?_
      clear E3
      refine tell_yes w0 O B V H nu ol T Z loc gT cT gE cE gW cW gK cK t q A2.out A3.out hkn ?_
      intro _ _ _ _ _ _ _ _ _ _ _ _ _ _ _ _ _ _ _ _ _ _ _ _ _ _ _ _ _ _ _ _ _ _ _ _ _ _ _ _ _ _ _ _ _ _ _ _ _ _ _ _ _ _ _ _ _ _ _ _ _ _ _ _ _ _ _ _ _ _ _ _ _ _ _ _ _ _ _ _ _ _ _ _ _ _ _ _ _ _ _ _ _ _ _ _ _ _ _ _ _ _ _ _ _ _ _ _ _ _ _ _ _ _ _ _ _ _ _ _ _ _ _ _ _ _ _ _ _ _ _ _ _ _ _ _ _ _ _ _ _ _ _ _ _ _ _ _ _ _ _ _ _ _ _ _ _ _ _ _ _ _ _ _ _ _ _ _ _ _ _ _ _ _ _ _ _ _ _ _ _ _ _ _ _ _ _ _ _ _ _ _ _ _ _ _ _ _ _ _ _ w1 hb1
      exact A0.out _ _ _ _ _ _ _ _ _ _ _ _ _ _ _ _ _ _ _ _ _ _ _ _ _ _ _ _ _ _ _ _ _ _ _ _ _ _ _ _ _ _ _ _ _ _ _ _ _ _ _ _ _ _ _ _ _ _ _ _ _ _ _ _ _ _ _ _ _ _ _ _ _ _ _ _ _ _ _ _ _ _ _ _ _ _ _ _ _ _ _ _ _ _ _ _ _ _ _ _ _ _ _ _ _ _ _ _ _ _ _ _ _ _ _ _ _ _ _ _ _ _ _ _ _ _ _ _ _ _ _ _ _ _ _ _ _ _ _ _ _ _ _ _ _ _ _ _ _ _ _ _ _ _ _ _ _ _ _ _ _ _ _ _ _ _ _ _ _ _ _ _ _ _ _ _ _ _ _ _ _ _ _ _ _ _ _ _ _ _ _ _ _ _ _ _ _ _ _ _ _ _ _ _ _ _ _ _ _ _ _ _ _ _ _ _ _ _ _ _ _ _ _ _ _ _ _ _ _ _ _ _ _ _ _ _ _ _ _ _ _ _ _ _ _ _ _ _ _ _ w1 hb1
end Go.Proofs.YthbkklnahhdgcaaDoor.PlSg
