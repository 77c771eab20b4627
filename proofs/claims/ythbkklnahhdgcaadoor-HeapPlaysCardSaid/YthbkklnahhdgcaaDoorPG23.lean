/-
  HeapPlays' tells: a known thing against its object.
-/
import Derived.Test.YthbkklnahhdgcaaDoorPG00
import Derived.Test.YthbkklnahhdgcaaDoorPG22
import Derived.Test.YthbkklnahhdgcaaDoorPG02
set_option maxRecDepth 100000
set_option maxHeartbeats 4000000
namespace Go.Proofs.YthbkklnahhdgcaaDoor.PlSb
open Go Go.Proofs Go.RowKit Go.Maps Go.Proofs.YthbkklnahhdgcaaDoor.Lib HeapR HeapB HeapC HeapD HeapG HeapH ErrC ChA ChT ChCa ChCc ChE ChH ChI ChL ChN ChO ChW ChZ PlA PlT PlZ PlX PlYa PlU PlG PlJ PlP PlSa

theorem same_all {Q : Exit → Act → World → Prop} {u1 u2 u3 u4 u5 u8 u9 Ja Jb Jc Jd Je Jf Jg Jh Ji Jj Jk Jl Jm Jn Jo Jp Jq Jr Js Jt Ju Jv Jw Jx Jy Jz Qa Qb Qc Qd Qe Qf Qg Qh Qi Qj Qk Ql Qm Qn Qo Qp Qq Qr Qs Qt Qu Qv Qw Qx Qy Qz Xe Xg Xh Xi Xj Xk Xn Xo Xp Xq Xt Xu Xv Xx Xy Xz Yg Yh Yi Yj Yk Yl Ym Yn Yo Yp Yq Yr Ys Yt Yu Yv Yw Yx Yy Yz Ua Ub Uc Ud Ue Uf Ug Uh Ui Uj Uk Ul Um Un Uo Up Uq Ur Us Ut Uu Uv Uw Ux Uy Uz Wc Wd We Wf Wg Wh Wi Wj Wk Wl Wm Wn Wo Wp Wq Wt Wu Ww Wx Wy Wz Ka Kb Kc Kd Ke Kf Kg Kh Kj Kl Km Kn Ko Kp Kq Kr Kt Ku Kv Kw Kx Ky Kz Rg Rh Ri Rj Rk Rl Rm Rp Rq Rt Ru Rx Ry Rz Gc Ge Gf Gg Gh Gi Gj Gm Gn Gp Gq Gt Gu Gv Gx Gy Gz Fe Ff Fg Fh Fi Fj Fk Fm Fo Fp Fq Fs Ft Fu Fv Fw Fx Fy Fz Ec Ee Ef Eg Eh Ei Ej Ek Em En Eo Ep Eu Ev Ex Ey Ez Da Db Dc Dd Dg Dh Di Dj Dk Dl Dm Dn Do Dp Dq Dt Du Dv Dw Dx Dy Dz Pa Pb Pc Pe Pf Pg Ph Pi Pj Pk Pm Pn Po Pq Ps Pt Pu Pv Pw Px Py Pz Na Nc Nd Nf Ng Nh Ni Nj Nk Nl Nn Np Nq Ns Nt Nu Nv Nw Nx Ny Nz Ba Bc Be Bh Bi Bj Bk Bo Bp Bs Bt Bv Bx Mb Mc Md Me Mg Mh Mi Mj Mk Mm Mo Mp Mq Mr Mt Mu Mv Mw Mx My Mz Ha Hb He Hg Hh Hi Hj Hk Hm Ho Hp Hq Hs Ht Hu Hv Hw Hx Hy Tp Tq Ts Tu Tx Tz Va Vb Vc Vd Ve Vf Vg Vh Vi Vj Vk Vm Vn Vo Vp Vq Vs Vt Vu Vv Vw Vx Vy Vz Za Zc Zd Ze Zf Zg Zh Zi Zj Zk Zl Zm Zo Zp Zq Zt Zu Zw Zx Zy Zz u404 u405 u406 u407 : Value} (w0 : World) (zb hb tb : Nat) (a kind tag id : Int) (oI : Option Addr) (n cI : Nat)
    (z0 : w0.cell? ⟨zb, 0, none⟩ = some (.pointer (some ⟨hb, 0, none⟩))) (t0 : w0.cell? ⟨tb, 0, none⟩ = some (.int .i64 kind)) (t1 : w0.cell? ⟨tb, 1, none⟩ = some (.int .i64 tag)) (t2 : w0.cell? ⟨tb, 2, none⟩ = some (.int .i64 id)) (t4 : w0.cell? ⟨tb, 4, none⟩ = some (.slice oI n cI))
    (hK : ∀ wz : World, Below w0.heap.size w0 wz → Calls Tryd.prog 15 #[.pointer (some ⟨hb, 0, none⟩), .int .i64 a] wz fun e w' => e = .returned (.int .i64 kind) ∧ Below wz.heap.size wz w') (hT : ∀ wz : World, Below w0.heap.size w0 wz → Calls Tryd.prog 16 #[.pointer (some ⟨hb, 0, none⟩), .int .i64 a] wz fun e w' => e = .returned (.int .i64 tag) ∧ Below wz.heap.size wz w') (hI : ∀ wz : World, Below w0.heap.size w0 wz → Calls Tryd.prog 17 #[.pointer (some ⟨hb, 0, none⟩), .int .i64 a] wz fun e w' => e = .returned (.int .i64 id) ∧ Below wz.heap.size wz w') (hS : ∀ wz : World, Below w0.heap.size w0 wz → Calls Tryd.prog 75 #[.pointer (some ⟨hb, 0, none⟩), .int .i64 a] wz fun e w' => e = .returned (.int .i64 (n : Int)) ∧ Below wz.heap.size wz w')
    (hQ : ∀ (sCF sCG sCH sCI sCJ sCK sCL sCM sCN sCO sCP sCQ sCR sCS sCT sCU sCV sCW sCX sCY sCZ sDa sDb sDc sDd sDe sDf sDg sDh sDi sDj sDk sDl sDm sDn sDo sDp sDq sDr sDs sDt sDu sDv sDw sDx sDy sDz sDA sDB sDC : Value) (w' : World), Below w0.heap.size w0 w' → Q .normal ⟨#[(.pointer (some ⟨zb,0,none⟩)),u1,u2,u3,u4,u5,(.pointer (some ⟨tb,0,none⟩)),(.int .i64 a),u8,u9,Ja,Jb,Jc,Jd,Je,Jf,Jg,Jh,Ji,Jj,Jk,Jl,Jm,Jn,Jo,Jp,Jq,Jr,Js,Jt,Ju,Jv,Jw,Jx,Jy,Jz,Qa,Qb,Qc,Qd,Qe,Qf,Qg,Qh,Qi,Qj,Qk,Ql,Qm,Qn,Qo,Qp,Qq,Qr,Qs,Qt,Qu,Qv,Qw,Qx,Qy,Qz,Xe,Xg,Xh,Xi,Xj,Xk,Xn,Xo,Xp,Xq,Xt,Xu,Xv,Xx,Xy,Xz,Yg,Yh,Yi,Yj,Yk,Yl,Ym,Yn,Yo,Yp,Yq,Yr,Ys,Yt,Yu,Yv,Yw,Yx,Yy,Yz,Ua,Ub,Uc,Ud,Ue,Uf,Ug,Uh,Ui,Uj,Uk,Ul,Um,Un,Uo,Up,Uq,Ur,Us,Ut,Uu,Uv,Uw,Ux,Uy,Uz,Wc,Wd,We,Wf,Wg,Wh,Wi,Wj,Wk,Wl,Wm,sCF,sCG,sCH,sCI,sCJ,sCK,sCL,sCM,sCN,sCO,sCP,sCQ,sCR,sCS,sCT,sCU,sCV,sCW,sCX,sCY,sCZ,sDa,sDb,sDc,sDd,sDe,sDf,sDg,sDh,sDi,sDj,sDk,sDl,sDm,sDn,sDo,sDp,sDq,sDr,sDs,sDt,sDu,sDv,sDw,sDx,sDy,sDz,sDA,sDB,sDC,(.bool false),Gh,Gi,Gj,Gm,Gn,Gp,Gq,Gt,Gu,Gv,Gx,Gy,Gz,Fe,Ff,Fg,Fh,Fi,Fj,Fk,Fm,Fo,Fp,Fq,Fs,Ft,Fu,Fv,Fw,Fx,Fy,Fz,Ec,Ee,Ef,Eg,Eh,Ei,Ej,Ek,Em,En,Eo,Ep,Eu,Ev,Ex,Ey,Ez,Da,Db,Dc,Dd,Dg,Dh,Di,Dj,Dk,Dl,Dm,Dn,Do,Dp,Dq,Dt,Du,Dv,Dw,Dx,Dy,Dz,Pa,Pb,Pc,Pe,Pf,Pg,Ph,Pi,Pj,Pk,Pm,Pn,Po,Pq,Ps,Pt,Pu,Pv,Pw,Px,Py,Pz,Na,Nc,Nd,Nf,Ng,Nh,Ni,Nj,Nk,Nl,Nn,Np,Nq,Ns,Nt,Nu,Nv,Nw,Nx,Ny,Nz,Ba,Bc,Be,Bh,Bi,Bj,Bk,Bo,Bp,Bs,Bt,Bv,Bx,Mb,Mc,Md,Me,Mg,Mh,Mi,Mj,Mk,Mm,Mo,Mp,Mq,Mr,Mt,Mu,Mv,Mw,Mx,My,Mz,Ha,Hb,He,Hg,Hh,Hi,Hj,Hk,Hm,Ho,Hp,Hq,Hs,Ht,Hu,Hv,Hw,Hx,Hy,Tp,Tq,Ts,Tu,Tx,Tz,Va,Vb,Vc,Vd,Ve,Vf,Vg,Vh,Vi,Vj,Vk,Vm,Vn,Vo,Vp,Vq,Vs,Vt,Vu,Vv,Vw,Vx,Vy,Vz,Za,Zc,Zd,Ze,Zf,Zg,Zh,Zi,Zj,Zk,Zl,Zm,Zo,Zp,Zq,Zt,Zu,Zw,Zx,Zy,Zz,u404,u405,u406,u407], []⟩ w') :
    Code.wp Tryd.prog (Cut.piece Tryd.f31 (Cut.region 15)) Q ⟨#[(.pointer (some ⟨zb,0,none⟩)),u1,u2,u3,u4,u5,(.pointer (some ⟨tb,0,none⟩)),(.int .i64 a),u8,u9,Ja,Jb,Jc,Jd,Je,Jf,Jg,Jh,Ji,Jj,Jk,Jl,Jm,Jn,Jo,Jp,Jq,Jr,Js,Jt,Ju,Jv,Jw,Jx,Jy,Jz,Qa,Qb,Qc,Qd,Qe,Qf,Qg,Qh,Qi,Qj,Qk,Ql,Qm,Qn,Qo,Qp,Qq,Qr,Qs,Qt,Qu,Qv,Qw,Qx,Qy,Qz,Xe,Xg,Xh,Xi,Xj,Xk,Xn,Xo,Xp,Xq,Xt,Xu,Xv,Xx,Xy,Xz,Yg,Yh,Yi,Yj,Yk,Yl,Ym,Yn,Yo,Yp,Yq,Yr,Ys,Yt,Yu,Yv,Yw,Yx,Yy,Yz,Ua,Ub,Uc,Ud,Ue,Uf,Ug,Uh,Ui,Uj,Uk,Ul,Um,Un,Uo,Up,Uq,Ur,Us,Ut,Uu,Uv,Uw,Ux,Uy,Uz,Wc,Wd,We,Wf,Wg,Wh,Wi,Wj,Wk,Wl,Wm,Wn,Wo,Wp,Wq,Wt,Wu,Ww,Wx,Wy,Wz,Ka,Kb,Kc,Kd,Ke,Kf,Kg,Kh,Kj,Kl,Km,Kn,Ko,Kp,Kq,Kr,Kt,Ku,Kv,Kw,Kx,Ky,Kz,Rg,Rh,Ri,Rj,Rk,Rl,Rm,Rp,Rq,Rt,Ru,Rx,Ry,Rz,Gc,Ge,Gf,Gg,Gh,Gi,Gj,Gm,Gn,Gp,Gq,Gt,Gu,Gv,Gx,Gy,Gz,Fe,Ff,Fg,Fh,Fi,Fj,Fk,Fm,Fo,Fp,Fq,Fs,Ft,Fu,Fv,Fw,Fx,Fy,Fz,Ec,Ee,Ef,Eg,Eh,Ei,Ej,Ek,Em,En,Eo,Ep,Eu,Ev,Ex,Ey,Ez,Da,Db,Dc,Dd,Dg,Dh,Di,Dj,Dk,Dl,Dm,Dn,Do,Dp,Dq,Dt,Du,Dv,Dw,Dx,Dy,Dz,Pa,Pb,Pc,Pe,Pf,Pg,Ph,Pi,Pj,Pk,Pm,Pn,Po,Pq,Ps,Pt,Pu,Pv,Pw,Px,Py,Pz,Na,Nc,Nd,Nf,Ng,Nh,Ni,Nj,Nk,Nl,Nn,Np,Nq,Ns,Nt,Nu,Nv,Nw,Nx,Ny,Nz,Ba,Bc,Be,Bh,Bi,Bj,Bk,Bo,Bp,Bs,Bt,Bv,Bx,Mb,Mc,Md,Me,Mg,Mh,Mi,Mj,Mk,Mm,Mo,Mp,Mq,Mr,Mt,Mu,Mv,Mw,Mx,My,Mz,Ha,Hb,He,Hg,Hh,Hi,Hj,Hk,Hm,Ho,Hp,Hq,Hs,Ht,Hu,Hv,Hw,Hx,Hy,Tp,Tq,Ts,Tu,Tx,Tz,Va,Vb,Vc,Vd,Ve,Vf,Vg,Vh,Vi,Vj,Vk,Vm,Vn,Vo,Vp,Vq,Vs,Vt,Vu,Vv,Vw,Vx,Vy,Vz,Za,Zc,Zd,Ze,Zf,Zg,Zh,Zi,Zj,Zk,Zl,Zm,Zo,Zp,Zq,Zt,Zu,Zw,Zx,Zy,Zz,u404,u405,u406,u407], []⟩ w0 := by
  conv => arg 2; whnf
  have A0 := Lib.hid hQ
  have A1 := Lib.hid hK
  have A2 := Lib.hid hT
  have A3 := Lib.hid hI
  have A4 := Lib.hid hS
  have b0 : Below w0.heap.size w0 w0.drew := (Below.refl _ _).drew
  have B0 := Lib.hid b0
  have hs : ∀ wz : World, Below w0.heap.size w0 wz → wz.cell? ⟨zb, 0, none⟩ = some (.pointer (some ⟨hb, 0, none⟩)) ∧ wz.cell? ⟨tb, 0, none⟩ = some (.int .i64 kind) ∧ wz.cell? ⟨tb, 1, none⟩ = some (.int .i64 tag) ∧ wz.cell? ⟨tb, 2, none⟩ = some (.int .i64 id) ∧ wz.cell? ⟨tb, 4, none⟩ = some (.slice oI n cI) := fun wz hb => ⟨(hb.cell (World.block_lt_of_cell? w0 _ z0)).trans z0, (hb.cell (World.block_lt_of_cell? w0 _ t0)).trans t0, (hb.cell (World.block_lt_of_cell? w0 _ t1)).trans t1, (hb.cell (World.block_lt_of_cell? w0 _ t2)).trans t2, (hb.cell (World.block_lt_of_cell? w0 _ t4)).trans t4⟩
  have A5 := Lib.hid hs
  have hs0 := hs _ b0
  clear hQ hK hT hI hS hs b0 z0 t0 t1 t2 t4
  refine wp_region_noPanic ?_
  refine RegU.begin (S := fun wz => wz.cell? ⟨zb, 0, none⟩ = some (.pointer (some ⟨hb, 0, none⟩)) ∧ wz.cell? ⟨tb, 0, none⟩ = some (.int .i64 kind) ∧ wz.cell? ⟨tb, 1, none⟩ = some (.int .i64 tag) ∧ wz.cell? ⟨tb, 2, none⟩ = some (.int .i64 id) ∧ wz.cell? ⟨tb, 4, none⟩ = some (.slice oI n cI)) (N := [4, 5, 6, 7, 8, 9, 16, 17, 18, 19, 20, 21, 29, 30, 31, 32, 33, 34, 42, 43, 44, 45, 46, 47, 48]) (by kernel_rfl) ?_ (fun hHeld => ?_)
  · exact hs0
  refine RegU.tk [1, 2, 3, 5, 10, 11, 12, 13, 14, 15, 16, 17, 18, 19, 20, 21, 22, 23, 24, 25, 26, 27, 28, 29, 30, 31, 32, 33, 34, 35, 36, 37, 38, 39, 40, 41, 42, 43, 44, 45, 46, 47, 48, 49, 50] 0 ?_
  refine RegU.tk [2, 3, 5, 10, 11, 12, 13, 14, 15, 16, 17, 18, 19, 20, 21, 22, 23, 24, 25, 26, 27, 28, 29, 30, 31, 32, 33, 34, 35, 36, 37, 38, 39, 40, 41, 42, 43, 44, 45, 46, 47, 48, 49, 50] 1 ?_
  refine RegU.tk [3, 5, 10, 11, 12, 13, 14, 15, 16, 17, 18, 19, 20, 21, 22, 23, 24, 25, 26, 27, 28, 29, 30, 31, 32, 33, 34, 35, 36, 37, 38, 39, 40, 41, 42, 43, 44, 45, 46, 47, 48, 49, 50] 2 ?_
  refine RegU.tk [5, 10, 11, 12, 13, 14, 15, 16, 17, 18, 19, 20, 21, 22, 23, 24, 25, 26, 27, 28, 29, 30, 31, 32, 33, 34, 35, 36, 37, 38, 39, 40, 41, 42, 43, 44, 45, 46, 47, 48, 49, 50] 3 ?_
  refine RegU.tk [5, 10, 11, 12, 13, 14, 15, 16, 17, 18, 19, 20, 21, 22, 23, 24, 25, 26, 27, 28, 29, 30, 31, 32, 33, 34, 35, 36, 37, 38, 39, 40, 41, 42, 43, 44, 45, 46, 47, 48, 49, 50] 4 ?_
  refine RegU.tk [7, 8, 9, 10, 11, 12, 13, 14, 15, 16, 17, 18, 19, 20, 21, 22, 23, 24, 25, 26, 27, 28, 29, 30, 31, 32, 33, 34, 35, 36, 37, 38, 39, 40, 41, 42, 43, 44, 45, 46, 47, 48, 49, 50] 6 ?_
  refine RegU.tk [8, 9, 10, 11, 12, 13, 14, 15, 16, 17, 18, 19, 20, 21, 22, 23, 24, 25, 26, 27, 28, 29, 30, 31, 32, 33, 34, 35, 36, 37, 38, 39, 40, 41, 42, 43, 44, 45, 46, 47, 48, 49, 50] 7 ?_
  refine RegU.tk [9, 10, 11, 12, 13, 14, 15, 16, 17, 18, 19, 20, 21, 22, 23, 24, 25, 26, 27, 28, 29, 30, 31, 32, 33, 34, 35, 36, 37, 38, 39, 40, 41, 42, 43, 44, 45, 46, 47, 48, 49, 50] 8 ?_
  refine RegU.tk [10, 11, 12, 13, 14, 15, 16, 17, 18, 19, 20, 21, 22, 23, 24, 25, 26, 27, 28, 29, 30, 31, 32, 33, 34, 35, 36, 37, 38, 39, 40, 41, 42, 43, 44, 45, 46, 47, 48, 49, 50] 9 ?_
  refine RegU.one (i := 5) (by kernel_rfl) rfl (fun K hK => ?_)
  go_simp
  refine (A1.out _ B0.out).mono ?_
  rintro e w1 ⟨rfl, hb1⟩
  have B1 := Lib.hid (B0.out.trans (hb1.mono B0.out.size))
  clear hb1
  refine hK.out _ _ (A5.out _ B1.out) (fun hHeld => ?_)
  clear hK K
  try simp only [Act.put, List.setIfInBounds_toArray, List.set_cons_zero, List.set_cons_succ]
  refine RegU.tk [11, 12, 13, 14, 15, 16, 17, 18, 19, 20, 21, 22, 23, 24, 25, 26, 27, 28, 29, 30, 31, 32, 33, 34, 35, 36, 37, 38, 39, 40, 41, 42, 43, 44, 45, 46, 47, 48, 49, 50] 10 ?_
  refine RegU.tk [12, 13, 14, 15, 16, 17, 18, 19, 20, 21, 22, 23, 24, 25, 26, 27, 28, 29, 30, 31, 32, 33, 34, 35, 36, 37, 38, 39, 40, 41, 42, 43, 44, 45, 46, 47, 48, 49, 50] 11 ?_
  refine RegU.tk [13, 14, 15, 17, 22, 23, 24, 25, 26, 27, 28, 29, 30, 31, 32, 33, 34, 35, 36, 37, 38, 39, 40, 41, 42, 43, 44, 45, 46, 47, 48, 49, 50] 12 ?_
  refine RegU.tk [14, 15, 17, 22, 23, 24, 25, 26, 27, 28, 29, 30, 31, 32, 33, 34, 35, 36, 37, 38, 39, 40, 41, 42, 43, 44, 45, 46, 47, 48, 49, 50] 13 ?_
  refine RegU.tk [15, 17, 22, 23, 24, 25, 26, 27, 28, 29, 30, 31, 32, 33, 34, 35, 36, 37, 38, 39, 40, 41, 42, 43, 44, 45, 46, 47, 48, 49, 50] 14 ?_
  refine RegU.tk [17, 22, 23, 24, 25, 26, 27, 28, 29, 30, 31, 32, 33, 34, 35, 36, 37, 38, 39, 40, 41, 42, 43, 44, 45, 46, 47, 48, 49, 50] 15 ?_
  refine RegU.tk [17, 22, 23, 24, 25, 26, 27, 28, 29, 30, 31, 32, 33, 34, 35, 36, 37, 38, 39, 40, 41, 42, 43, 44, 45, 46, 47, 48, 49, 50] 16 ?_
  refine RegU.tk [19, 20, 21, 22, 23, 24, 25, 26, 27, 28, 29, 30, 31, 32, 33, 34, 35, 36, 37, 38, 39, 40, 41, 42, 43, 44, 45, 46, 47, 48, 49, 50] 18 ?_
  refine RegU.tk [20, 21, 22, 23, 24, 25, 26, 27, 28, 29, 30, 31, 32, 33, 34, 35, 36, 37, 38, 39, 40, 41, 42, 43, 44, 45, 46, 47, 48, 49, 50] 19 ?_
  refine RegU.tk [21, 22, 23, 24, 25, 26, 27, 28, 29, 30, 31, 32, 33, 34, 35, 36, 37, 38, 39, 40, 41, 42, 43, 44, 45, 46, 47, 48, 49, 50] 20 ?_
  refine RegU.tk [22, 23, 24, 25, 26, 27, 28, 29, 30, 31, 32, 33, 34, 35, 36, 37, 38, 39, 40, 41, 42, 43, 44, 45, 46, 47, 48, 49, 50] 21 ?_
  refine RegU.one (i := 17) (by kernel_rfl) rfl (fun K hK => ?_)
  go_simp
  refine (A2.out _ B1.out).mono ?_
  rintro e w2 ⟨rfl, hb2⟩
  have B2 := Lib.hid (B1.out.trans (hb2.mono B1.out.size))
  clear hb2
  refine hK.out _ _ (A5.out _ B2.out) (fun hHeld => ?_)
  clear hK K
  try simp only [Act.put, List.setIfInBounds_toArray, List.set_cons_zero, List.set_cons_succ]
  refine RegU.tk [23, 24, 25, 26, 27, 28, 29, 30, 31, 32, 33, 34, 35, 36, 37, 38, 39, 40, 41, 42, 43, 44, 45, 46, 47, 48, 49, 50] 22 ?_
  refine RegU.tk [24, 25, 26, 27, 28, 29, 30, 31, 32, 33, 34, 35, 36, 37, 38, 39, 40, 41, 42, 43, 44, 45, 46, 47, 48, 49, 50] 23 ?_
  refine RegU.tk [25, 26, 27, 28, 29, 30, 31, 32, 33, 34, 35, 36, 37, 38, 39, 40, 41, 42, 43, 44, 45, 46, 47, 48, 49, 50] 24 ?_
  refine RegU.tk [26, 27, 28, 30, 35, 36, 37, 38, 39, 40, 41, 42, 43, 44, 45, 46, 47, 48, 49, 50] 25 ?_
  refine RegU.tk [27, 28, 30, 35, 36, 37, 38, 39, 40, 41, 42, 43, 44, 45, 46, 47, 48, 49, 50] 26 ?_
  refine RegU.tk [28, 30, 35, 36, 37, 38, 39, 40, 41, 42, 43, 44, 45, 46, 47, 48, 49, 50] 27 ?_
  refine RegU.tk [30, 35, 36, 37, 38, 39, 40, 41, 42, 43, 44, 45, 46, 47, 48, 49, 50] 28 ?_
  refine RegU.tk [30, 35, 36, 37, 38, 39, 40, 41, 42, 43, 44, 45, 46, 47, 48, 49, 50] 29 ?_
  refine RegU.tk [32, 33, 34, 35, 36, 37, 38, 39, 40, 41, 42, 43, 44, 45, 46, 47, 48, 49, 50] 31 ?_
  refine RegU.tk [33, 34, 35, 36, 37, 38, 39, 40, 41, 42, 43, 44, 45, 46, 47, 48, 49, 50] 32 ?_
  refine RegU.tk [34, 35, 36, 37, 38, 39, 40, 41, 42, 43, 44, 45, 46, 47, 48, 49, 50] 33 ?_
  refine RegU.tk [35, 36, 37, 38, 39, 40, 41, 42, 43, 44, 45, 46, 47, 48, 49, 50] 34 ?_
  refine RegU.one (i := 30) (by kernel_rfl) rfl (fun K hK => ?_)
  go_simp
  refine (A3.out _ B2.out).mono ?_
  rintro e w3 ⟨rfl, hb3⟩
  have B3 := Lib.hid (B2.out.trans (hb3.mono B2.out.size))
  clear hb3
  refine hK.out _ _ (A5.out _ B3.out) (fun hHeld => ?_)
  clear hK K
  try simp only [Act.put, List.setIfInBounds_toArray, List.set_cons_zero, List.set_cons_succ]
  refine RegU.tk [36, 37, 38, 39, 40, 41, 42, 43, 44, 45, 46, 47, 48, 49, 50] 35 ?_
  refine RegU.tk [37, 38, 39, 40, 41, 42, 43, 44, 45, 46, 47, 48, 49, 50] 36 ?_
  refine RegU.tk [38, 39, 40, 41, 42, 43, 44, 45, 46, 47, 48, 49, 50] 37 ?_
  refine RegU.tk [39, 40, 41, 43, 49, 50] 38 ?_
  refine RegU.tk [40, 41, 43, 49, 50] 39 ?_
  refine RegU.tk [41, 43, 49, 50] 40 ?_
  refine RegU.tk [43, 49, 50] 41 ?_
  refine RegU.tk [43, 49, 50] 42 ?_
  refine RegU.tk [45, 46, 47, 48, 49, 50] 44 ?_
  refine RegU.tk [46, 47, 48, 49, 50] 45 ?_
  refine RegU.tk [47, 48, 49, 50] 46 ?_
  refine RegU.tk [48, 49, 50] 47 ?_
  refine RegU.tk [49, 50] 48 ?_
  refine RegU.one (i := 43) (by kernel_rfl) rfl (fun K hK => ?_)
  go_simp
  refine (A4.out _ B3.out).mono ?_
  rintro e w4 ⟨rfl, hb4⟩
  have B4 := Lib.hid (B3.out.trans (hb4.mono B3.out.size))
  clear hb4
  refine hK.out _ _ (A5.out _ B4.out) (fun hHeld => ?_)
  clear hK K
  try simp only [Act.put, List.setIfInBounds_toArray, List.set_cons_zero, List.set_cons_succ]
  refine RegU.tk [50] 49 ?_
  refine RegU.tk [] 50 ?_
  refine RegU.rest [] [] (by kernel_rfl) rfl ?_
  refine NoPanic.normal ?_
  exact A0.out _ _ _ _ _ _ _ _ _ _ _ _ _ _ _ _ _ _ _ _ _ _ _ _ _ _ _ _ _ _ _ _ _ _ _ _ _ _ _ _ _ _ _ _ _ _ _ _ _ _ _ B4.out
end Go.Proofs.YthbkklnahhdgcaaDoor.PlSb

namespace Go.Proofs.YthbkklnahhdgcaaDoor.PlSd
open Go Go.Proofs Go.RowKit Go.Maps Go.Proofs.YthbkklnahhdgcaaDoor.Lib HeapR HeapB HeapC HeapD HeapG HeapH ErrC ChA ChT ChCa ChCc ChE ChH ChI ChL ChN ChO ChW ChZ PlA PlT PlZ PlX PlYa PlU PlG PlJ PlP PlSa

theorem get_past {Q : Exit → Act → World → Prop} {u1 u2 u3 u4 u5 u8 u9 Ja Jb Jc Jd Je Jf Jg Jh Ji Jj Jk Jl Jm Jn Jo Jp Jq Jr Js Jt Ju Jv Jw Jx Jy Jz Qa Qb Qc Qd Qe Qf Qg Qh Qi Qj Qk Ql Qm Qn Qo Qp Qq Qr Qs Qt Qu Qv Qw Qx Qy Qz Xe Xg Xh Xi Xj Xk Xn Xo Xp Xq Xt Xu Xv Xx Xy Xz Yg Yh Yi Yj Yk Yl Ym Yn Yo Yp Yq Yr Ys Yt Yu Yv Yw Yx Yy Yz Ua Ub Uc Ud Ue Uf Ug Uh Ui Uj Uk Ul Um Un Uo Up Uq Ur Us Ut Uu Uv Uw Ux Uy Uz Wc Wd We Wf Wg Wh Wi Wj Wk Wl Wm Wn Wo Wp Wq Wt Wu Ww Wx Wy Wz Ka Kb Kc Kd Ke Kf Kg Kh Kj Kl Km Kn Ko Kp Kq Kr Kt Ku Kv Kw Kx Ky Kz Rg Rh Ri Rj Rk Rl Rm Rp Rq Rt Ru Rx Ry Rz Gc Ge Gf Gg Gh Gi Gj Gm Gn Gp Gq Gt Gu Gv Gx Gy Gz Fe Ff Fg Fh Fi Fj Fk Fm Fo Fp Fq Fs Ft Fu Fv Fw Fx Fy Fz Ec Ee Ef Eg Eh Ei Ej Ek Em En Eo Ep Eu Ev Ex Ey Ez Da Db Dc Dd Dg Dh Di Dj Dk Dl Dm Dn Do Dp Dq Dt Du Dv Dw Dx Dy Dz Pa Pb Pc Pe Pf Pg Ph Pi Pj Pk Pm Pn Po Pq Ps Pt Pu Pv Pw Px Py Pz Na Nc Nd Nf Ng Nh Ni Nj Nk Nl Nn Np Nq Ns Nt Nu Nv Nw Nx Ny Nz Ba Bc Be Bh Bi Bj Bk Bo Bp Bs Bt Bv Bx Mb Mc Md Me Mg Mh Mi Mj Mk Mm Mo Mp Mq Mr Mt Mu Mv Mw Mx My Mz Ha Hb He Hg Hh Hi Hj Hk Hm Ho Hp Hq Hs Ht Hu Hv Hw Hx Hy Tp Tq Ts Tu Tx Tz Va Vb Vc Vd Ve Vf Vg Vh Vi Vj Vk Vm Vn Vo Vp Vq Vs Vt Vu Vv Vw Vx Vy Vz Za Zc Zd Ze Zf Zg Zh Zi Zj Zk Zl Zm Zo Zp Zq Zt Zu Zw Zx Zy Zz u404 u405 u406 u407 : Value} (w0 : World) (zb hb tb : Nat) (a : Int) (oI : Option Addr) (n cI : Nat)
    (z0 : w0.cell? ⟨zb, 0, none⟩ = some (.pointer (some ⟨hb, 0, none⟩))) (t4 : w0.cell? ⟨tb, 4, none⟩ = some (.slice oI n cI))
    (hG : ∀ wz : World, Below w0.heap.size w0 wz → Calls Tryd.prog 11 #[.pointer (some ⟨hb, 0, none⟩), .int .i64 a, .int .i64 (n : Int)] wz fun e w' => e = .returned (.tuple #[.agg #[.int .i64 0, .int .i64 0, .string ByteArray.empty], .iface 35 (.int .i64 2)]) ∧ Below wz.heap.size wz w')
    (hQ : ∀ (s14 sFR sFS sFT sFU sFV sFW sFX sFY sFZ sGa sGb sGc sGd sGe : Value) (w' : World), Below w0.heap.size w0 w' → Q .normal ⟨#[(.pointer (some ⟨zb,0,none⟩)),u1,u2,u3,u4,u5,(.pointer (some ⟨tb,0,none⟩)),(.int .i64 a),u8,u9,Ja,Jb,Jc,Jd,s14,(.iface 35 (.int .i64 2)),Jg,Jh,Ji,Jj,Jk,Jl,Jm,Jn,Jo,Jp,Jq,Jr,Js,Jt,Ju,Jv,Jw,Jx,Jy,Jz,Qa,Qb,Qc,Qd,Qe,Qf,Qg,Qh,Qi,Qj,Qk,Ql,Qm,Qn,Qo,Qp,Qq,Qr,Qs,Qt,Qu,Qv,Qw,Qx,Qy,Qz,Xe,Xg,Xh,Xi,Xj,Xk,Xn,Xo,Xp,Xq,Xt,Xu,Xv,Xx,Xy,Xz,Yg,Yh,Yi,Yj,Yk,Yl,Ym,Yn,Yo,Yp,Yq,Yr,Ys,Yt,Yu,Yv,Yw,Yx,Yy,Yz,Ua,Ub,Uc,Ud,Ue,Uf,Ug,Uh,Ui,Uj,Uk,Ul,Um,Un,Uo,Up,Uq,Ur,Us,Ut,Uu,Uv,Uw,Ux,Uy,Uz,Wc,Wd,We,Wf,Wg,Wh,Wi,Wj,Wk,Wl,Wm,Wn,Wo,Wp,Wq,Wt,Wu,Ww,Wx,Wy,Wz,Ka,Kb,Kc,Kd,Ke,Kf,Kg,Kh,Kj,Kl,Km,Kn,Ko,Kp,Kq,Kr,Kt,Ku,Kv,Kw,Kx,Ky,Kz,Rg,Rh,Ri,Rj,Rk,Rl,Rm,Rp,Rq,Rt,Ru,Rx,Ry,Rz,Gc,Ge,Gf,Gg,Gh,Gi,Gj,Gm,Gn,Gp,Gq,Gt,Gu,Gv,Gx,Gy,Gz,Fe,Ff,Fg,Fh,Fi,Fj,Fk,Fm,Fo,Fp,Fq,Fs,Ft,Fu,Fv,Fw,Fx,Fy,Fz,Ec,Ee,Ef,Eg,Eh,Ei,Ej,Ek,Em,En,Eo,Ep,Eu,Ev,Ex,Ey,Ez,Da,Db,Dc,Dd,Dg,Dh,Di,Dj,Dk,Dl,Dm,Dn,Do,Dp,Dq,Dt,Du,Dv,Dw,Dx,Dy,Dz,Pa,Pb,Pc,Pe,Pf,Pg,Ph,Pi,Pj,Pk,Pm,Pn,Po,Pq,Ps,Pt,Pu,Pv,Pw,Px,Py,Pz,Na,Nc,Nd,Nf,Ng,Nh,Ni,Nj,Nk,Nl,Nn,Np,Nq,Ns,Nt,Nu,Nv,Nw,Nx,Ny,Nz,Ba,Bc,Be,sFR,sFS,sFT,sFU,sFV,sFW,sFX,sFY,sFZ,sGa,sGb,sGc,sGd,sGe,Mg,Mh,Mi,Mj,Mk,Mm,Mo,Mp,Mq,Mr,Mt,Mu,Mv,Mw,Mx,My,Mz,Ha,Hb,He,Hg,Hh,Hi,Hj,Hk,Hm,Ho,Hp,Hq,Hs,Ht,Hu,Hv,Hw,Hx,Hy,Tp,Tq,Ts,Tu,Tx,Tz,Va,Vb,Vc,Vd,Ve,Vf,Vg,Vh,Vi,Vj,Vk,Vm,Vn,Vo,Vp,Vq,Vs,Vt,Vu,Vv,Vw,Vx,Vy,Vz,Za,Zc,Zd,Ze,Zf,Zg,Zh,Zi,Zj,Zk,Zl,Zm,Zo,Zp,Zq,Zt,Zu,Zw,Zx,Zy,Zz,u404,u405,u406,u407], []⟩ w') :
    Code.wp Tryd.prog (Cut.piece Tryd.f31 (Cut.region 33)) Q ⟨#[(.pointer (some ⟨zb,0,none⟩)),u1,u2,u3,u4,u5,(.pointer (some ⟨tb,0,none⟩)),(.int .i64 a),u8,u9,Ja,Jb,Jc,Jd,Je,Jf,Jg,Jh,Ji,Jj,Jk,Jl,Jm,Jn,Jo,Jp,Jq,Jr,Js,Jt,Ju,Jv,Jw,Jx,Jy,Jz,Qa,Qb,Qc,Qd,Qe,Qf,Qg,Qh,Qi,Qj,Qk,Ql,Qm,Qn,Qo,Qp,Qq,Qr,Qs,Qt,Qu,Qv,Qw,Qx,Qy,Qz,Xe,Xg,Xh,Xi,Xj,Xk,Xn,Xo,Xp,Xq,Xt,Xu,Xv,Xx,Xy,Xz,Yg,Yh,Yi,Yj,Yk,Yl,Ym,Yn,Yo,Yp,Yq,Yr,Ys,Yt,Yu,Yv,Yw,Yx,Yy,Yz,Ua,Ub,Uc,Ud,Ue,Uf,Ug,Uh,Ui,Uj,Uk,Ul,Um,Un,Uo,Up,Uq,Ur,Us,Ut,Uu,Uv,Uw,Ux,Uy,Uz,Wc,Wd,We,Wf,Wg,Wh,Wi,Wj,Wk,Wl,Wm,Wn,Wo,Wp,Wq,Wt,Wu,Ww,Wx,Wy,Wz,Ka,Kb,Kc,Kd,Ke,Kf,Kg,Kh,Kj,Kl,Km,Kn,Ko,Kp,Kq,Kr,Kt,Ku,Kv,Kw,Kx,Ky,Kz,Rg,Rh,Ri,Rj,Rk,Rl,Rm,Rp,Rq,Rt,Ru,Rx,Ry,Rz,Gc,Ge,Gf,Gg,Gh,Gi,Gj,Gm,Gn,Gp,Gq,Gt,Gu,Gv,Gx,Gy,Gz,Fe,Ff,Fg,Fh,Fi,Fj,Fk,Fm,Fo,Fp,Fq,Fs,Ft,Fu,Fv,Fw,Fx,Fy,Fz,Ec,Ee,Ef,Eg,Eh,Ei,Ej,Ek,Em,En,Eo,Ep,Eu,Ev,Ex,Ey,Ez,Da,Db,Dc,Dd,Dg,Dh,Di,Dj,Dk,Dl,Dm,Dn,Do,Dp,Dq,Dt,Du,Dv,Dw,Dx,Dy,Dz,Pa,Pb,Pc,Pe,Pf,Pg,Ph,Pi,Pj,Pk,Pm,Pn,Po,Pq,Ps,Pt,Pu,Pv,Pw,Px,Py,Pz,Na,Nc,Nd,Nf,Ng,Nh,Ni,Nj,Nk,Nl,Nn,Np,Nq,Ns,Nt,Nu,Nv,Nw,Nx,Ny,Nz,Ba,Bc,Be,Bh,Bi,Bj,Bk,Bo,Bp,Bs,Bt,Bv,Bx,Mb,Mc,Md,Me,Mg,Mh,Mi,Mj,Mk,Mm,Mo,Mp,Mq,Mr,Mt,Mu,Mv,Mw,Mx,My,Mz,Ha,Hb,He,Hg,Hh,Hi,Hj,Hk,Hm,Ho,Hp,Hq,Hs,Ht,Hu,Hv,Hw,Hx,Hy,Tp,Tq,Ts,Tu,Tx,Tz,Va,Vb,Vc,Vd,Ve,Vf,Vg,Vh,Vi,Vj,Vk,Vm,Vn,Vo,Vp,Vq,Vs,Vt,Vu,Vv,Vw,Vx,Vy,Vz,Za,Zc,Zd,Ze,Zf,Zg,Zh,Zi,Zj,Zk,Zl,Zm,Zo,Zp,Zq,Zt,Zu,Zw,Zx,Zy,Zz,u404,u405,u406,u407], []⟩ w0 := by
  conv => arg 2; whnf
  have A0 := Lib.hid hQ
  have A1 := Lib.hid hG
  have b0 : Below w0.heap.size w0 w0.drew := (Below.refl _ _).drew
  have B0 := Lib.hid b0
  have hs : ∀ wz : World, Below w0.heap.size w0 wz → wz.cell? ⟨zb, 0, none⟩ = some (.pointer (some ⟨hb, 0, none⟩)) ∧ wz.cell? ⟨tb, 4, none⟩ = some (.slice oI n cI) := fun wz hb => ⟨(hb.cell (World.block_lt_of_cell? w0 _ z0)).trans z0, (hb.cell (World.block_lt_of_cell? w0 _ t4)).trans t4⟩
  have A5 := Lib.hid hs
  have hs0 := hs _ b0
  clear hQ hG hs b0 z0 t4
  refine wp_region_noPanic ?_
  refine RegU.begin (S := fun wz => wz.cell? ⟨zb, 0, none⟩ = some (.pointer (some ⟨hb, 0, none⟩)) ∧ wz.cell? ⟨tb, 4, none⟩ = some (.slice oI n cI)) (N := [4, 5, 6, 7, 8, 9, 13, 14, 15]) (by kernel_rfl) ?_ (fun hHeld => ?_)
  · exact hs0
  refine RegU.tk [1, 2, 3, 10, 11, 12, 13, 15, 16] 0 ?_
  refine RegU.tk [2, 3, 10, 11, 12, 13, 15, 16] 1 ?_
  refine RegU.tk [3, 10, 11, 12, 13, 15, 16] 2 ?_
  refine RegU.tk [10, 11, 12, 13, 15, 16] 3 ?_
  refine RegU.tk [10, 11, 12, 13, 15, 16] 4 ?_
  refine RegU.tk [6, 7, 8, 9, 10, 11, 12, 13, 15, 16] 5 ?_
  refine RegU.tk [7, 8, 9, 10, 11, 12, 13, 15, 16] 6 ?_
  refine RegU.tk [8, 9, 10, 11, 12, 13, 15, 16] 7 ?_
  refine RegU.tk [9, 10, 11, 12, 13, 15, 16] 8 ?_
  refine RegU.tk [10, 11, 12, 13, 15, 16] 9 ?_
  refine RegU.two (i := 10) (j := 14) (by kernel_rfl) rfl rfl (fun K hK => ?_) (fun K hK => ?_)
  · go_simp
    refine (A1.out _ B0.out).mono ?_
    rintro e w1 ⟨rfl, hb1⟩
    have B1 := Lib.hid (B0.out.trans (hb1.mono B0.out.size))
    clear hb1
    refine hK.out _ _ (A5.out _ B1.out) (fun hHeld => ?_)
    clear hK K
    try simp only [Act.put, List.setIfInBounds_toArray, List.set_cons_zero, List.set_cons_succ]
    refine RegU.tk [12, 13, 15, 16] 11 ?_
    refine RegU.tk [15, 16] 12 ?_
    refine RegU.tk [16] 13 ?_
    refine RegU.one (i := 14) (by kernel_rfl) rfl (fun K hK => ?_)
    go_simp
    have B2 := Lib.hid (B1.out.alloc B1.out.size (.cells #[.int .i64 0, .int .i64 0, .string ByteArray.empty] 28 (0, 0)))
    have hl := heap_alloc_last w1 (.cells #[.int .i64 0, .int .i64 0, .string ByteArray.empty] 28 (0, 0))
    have c0 := cell_of_block (i := 0) hl rfl
    have c1 := cell_of_block (i := 1) hl rfl
    have c2 := cell_of_block (i := 2) hl rfl
    have ff : ∀ i, _ := fun i => frozen_of_block (i := i) hl
    have hsz := B1.out.size
    refine hK.out _ _ (A5.out _ B2.out) (fun hHeld => ?_)
    clear hK K
    try simp only [Act.put, List.setIfInBounds_toArray, List.set_cons_zero, List.set_cons_succ]
    refine RegU.one (i := 15) (by kernel_rfl) rfl (fun K hK => ?_)
    go_simp
    refine hK.out _ _ (A5.out _ B2.out) (fun hHeld => ?_)
    clear hK K
    try simp only [Act.put, List.setIfInBounds_toArray, List.set_cons_zero, List.set_cons_succ]
    refine RegU.rest [16] [_] (by kernel_rfl) rfl ?_
    clear hHeld hs0 hl
    go_wp2
    refine NoPanic.normal ?_
    exact A0.out _ _ _ _ _ _ _ _ _ _ _ _ _ _ _ _ B2.out
  · go_simp
    have B2 := Lib.hid (((Below.refl _ w0).alloc (Nat.le_refl _) (.cells #[.int .i64 0, .int .i64 0, .string ⟨#[]⟩] 28 (0, 0))).drew)
    have hl : ((w0.alloc (.cells #[.int .i64 0, .int .i64 0, .string ⟨#[]⟩] 28 (0, 0))).drew).heap[w0.heap.size]? = _ := heap_alloc_last w0 (.cells #[.int .i64 0, .int .i64 0, .string ⟨#[]⟩] 28 (0, 0))
    have hsz := Nat.le_refl w0.heap.size
    have hxl : w0.heap.size < ((w0.alloc (.cells #[.int .i64 0, .int .i64 0, .string ⟨#[]⟩] 28 (0, 0))).drew).heap.size := by simp
    refine hK.out _ _ (A5.out _ B2.out) (fun hHeld => ?_)
    clear hK K
    try simp only [Act.put, List.setIfInBounds_toArray, List.set_cons_zero, List.set_cons_succ]
    generalize ((w0.alloc (.cells #[.int .i64 0, .int .i64 0, .string ⟨#[]⟩] 28 (0, 0))).drew) = w2 at *
    refine RegU.one (i := 10) (by kernel_rfl) rfl (fun K hK => ?_)
    go_simp
    refine (A1.out _ B2.out).mono ?_
    rintro e w3 ⟨rfl, hb3⟩
    have B3 := Lib.hid (B2.out.trans (hb3.mono B2.out.size))
    have hl3 := (hb3.block w0.heap.size hxl).trans hl
    have c0 := cell_of_block (i := 0) hl3 rfl
    have c1 := cell_of_block (i := 1) hl3 rfl
    have c2 := cell_of_block (i := 2) hl3 rfl
    have ff : ∀ i, _ := fun i => frozen_of_block (i := i) hl3
    clear hb3 hl3
    refine hK.out _ _ (A5.out _ B3.out) (fun hHeld => ?_)
    clear hK K
    try simp only [Act.put, List.setIfInBounds_toArray, List.set_cons_zero, List.set_cons_succ]
    refine RegU.tk [12, 13, 15, 16] 11 ?_
    refine RegU.tk [15, 16] 12 ?_
    refine RegU.tk [16] 13 ?_
    refine RegU.one (i := 15) (by kernel_rfl) rfl (fun K hK => ?_)
    go_simp
    have B4 := Lib.hid (((B3.out.setCell (p := ⟨w0.heap.size, 0, none⟩) hsz (.int .i64 0)).setCell (p := ⟨w0.heap.size, 1, none⟩) hsz (.int .i64 0)).setCell (p := ⟨w0.heap.size, 2, none⟩) hsz (.string ⟨#[]⟩))
    refine hK.out _ _ (A5.out _ B4.out) (fun hHeld => ?_)
    clear hK K
    try simp only [Act.put, List.setIfInBounds_toArray, List.set_cons_zero, List.set_cons_succ]
    refine RegU.rest [16] [_] (by kernel_rfl) rfl ?_
    clear hHeld hs0 hl
    go_wp2
    refine NoPanic.normal ?_
    exact A0.out _ _ _ _ _ _ _ _ _ _ _ _ _ _ _ _ B4.out
end Go.Proofs.YthbkklnahhdgcaaDoor.PlSd
