/-
  HeapPlays' tells: its things.
-/
import Derived.Test.YthbkklnahhdgcaaDoorPG00
import Derived.Test.YthbkklnahhdgcaaDoorPG25
import Derived.Deep.AppendLies
import Derived.Test.YthbkklnahhdgcaaDoorPG22
import Derived.Test.YthbkklnahhdgcaaDoorPG02
set_option maxRecDepth 100000
set_option maxHeartbeats 4000000
namespace Go.Proofs.YthbkklnahhdgcaaDoor.PlSh
open Go Go.Proofs Go.RowKit Go.Maps Go.Proofs.YthbkklnahhdgcaaDoor.Lib HeapR HeapB HeapC HeapD HeapG HeapH ErrC ChA ChT ChCa ChCc ChE ChH ChI ChL ChN ChO ChW ChZ PlA PlT PlZ PlX PlYa PlU PlQ PlG PlGa PlJ PlP PlSa PlSb PlSc PlSd PlSe PlSf PlSg

theorem at_zoo {H : HS} {nu ol : List Ob} {T : List Th} {Z : Zn} {loc : Nat → Ob} (hz : ZI H nu ol T Z loc) {i : Nat} {t : Th} (ht : T[i]? = some t) (h0 : 0 < t.id) {b : Bool} {c : Int}
    (hb : b = true ↔ t.id ≠ 0 ∧ ∃ o ∈ nu ++ ol, o.id = t.id) (hc : b = true → ∃ o ∈ nu ++ ol, o.id = t.id ∧ c = (o.addr : Int)) : b = t.here ∧ (b = true → c = ((loc i).addr : Int)) := by
  have main : ∀ o ∈ nu ++ ol, o.id = t.id → o = loc i ∧ t.here = true := by
    intro o ho e
    obtain ⟨j, u, hu, huh, rfl⟩ := hz.all o ho
    have h2 := (hz.obj j u hu huh).2.2.id
    have e2 := ids_inj hz ht hu (by omega) h0
    subst e2
    rw [ht] at hu
    cases hu
    exact ⟨rfl, huh⟩
  constructor
  · rw [Bool.eq_iff_iff, hb]
    constructor
    · rintro ⟨_, o, ho, e⟩
      exact (main o ho e).2
    · intro hh
      exact ⟨by omega, loc i, (hz.obj i t ht hh).1, (hz.obj i t ht hh).2.2.id⟩
  · intro hb'
    obtain ⟨o, ho, e, hcc⟩ := hc hb'
    rw [hcc, (main o ho e).1]
theorem id_le {H : HS} {nu ol : List Ob} {T : List Th} {Z : Zn} {loc : Nat → Ob} (hz : ZI H nu ol T Z loc) (hTl : T.length ≤ 1000) {i : Nat} {t : Th} (hi : T[i]? = some t) : 0 ≤ t.id ∧ t.id ≤ 1001 := by
  have e := hz.ids i t hi
  have h1 := List.countP_le_length (p := ided) (l := T.take i)
  rw [List.length_take] at h1
  by_cases hk : t.kind = 4
  · rw [if_pos hk] at e
    omega
  · rw [if_neg hk] at e
    omega

/-- The identities of the first i things. -/
def RT (w0 : World) (T : List Th) (i : Nat) (v4 : Value) (wr : World) : Prop :=
  ∃ (oo : Option Addr) (cc n : Nat), n = (idsTo T i).length ∧ v4 = .slice oo n cc ∧ wr.ownsRow w0.heap.size 3 1 v4 n ((idsTo T i).map (Value.int .i64)) ∧ Below w0.heap.size w0 wr

def Inv_things_loop (w0 : World) (_O : Nat → Nat) (_B : Nat) (V : Zv) (_H : HS) (_nu _ol : List Ob) (T : List Th) (_Z : Zn) (_loc : Nat → Ob) (_gT _cT _gE _cE _gW _cW _gK _cK : Nat) (u1 u2 Jg Jh Ji Jj Jk Jl Jm Jn Mj Mk Mm Mo Mp Mq Mr Mt Mu Mv Mw Mx My Mz Ha Hb He Hg Hh Hi Hj Hk Hm Ho Hp Hq Hs Ht Hu Hv Hw Hx Hy Tp Tq Ts Tu Tx Tz Va Vb Vc Vd Ve Vf Vg Vh Vi Vj Vk Vm Vn Vo Vp Vq Vs Vt Vu Vv Vw Vx Vy Vz Za Zc Zd Ze Zf Zg Zh Zi Zj Zk Zl Zm Zo Zp Zq Zt Zu Zw Zx Zy Zz u404 u405 u406 u407 : Value) (a : Act) (wr : World) : Prop :=
  ∃ (i : Nat) (s4 s6 s7 s8 s9 s10 s11 s12 s13 s14 s15 s24 s25 s26 s27 s28 s29 s30 s31 s32 s33 s34 s35 s36 s37 s38 s39 s40 s41 s42 s43 s44 s45 s46 s47 s48 s49 s50 s51 s52 s53 s54 s55 s56 s57 s58 s59 s60 s61 s62 s63 s64 s65 s66 s67 s68 s69 s70 s71 s72 s73 s74 s75 s76 s77 s78 s79 s80 s81 s82 s83 s84 s85 s86 s87 s88 s89 s90 s91 s92 s93 s94 s95 s96 s97 s98 s99 sBW sBX sBY sBZ sCa sCb sCc sCd sCe sCf sCg sCh sCi sCj sCk sCl sCm sCn sCo sCp sCq sCr sCs sCt sCu sCv sCw sCx sCy sCz sCA sCB sCC sCD sCE sCF sCG sCH sCI sCJ sCK sCL sCM sCN sCO sCP sCQ sCR sCS sCT sCU sCV sCW sCX sCY sCZ sDa sDb sDc sDd sDe sDf sDg sDh sDi sDj sDk sDl sDm sDn sDo sDp sDq sDr sDs sDt sDu sDv sDw sDx sDy sDz sDA sDB sDC sDD sDE sDF sDG sDH sDI sDJ sDK sDL sDM sDN sDO sDP sDQ sDR sDS sDT sDU sDV sDW sDX sDY sDZ sEa sEb sEc sEd sEe sEf sEg sEh sEi sEj sEk sEl sEm sEn sEo sEp sEq sEr sEs sEt sEu sEv sEw sEx sEy sEz sEA sEB sEC sED sEE sEF sEG sEH sEI sEJ sEK sEL sEM sEN sEO sEP sEQ sER sES sET sEU sEV sEW sEX sEY sEZ sFa sFb sFc sFd sFe sFf sFg sFh sFi sFj sFk sFl sFm sFn sFo sFp sFq sFr sFs sFt sFu sFv sFw sFx sFy sFz sFA sFB sFC sFD sFE sFF sFG sFH sFI sFJ sFK sFL sFM sFN sFO sFP sFQ sFR sFS sFT sFU sFV sFW sFX sFY sFZ sGa sGb sGc sGd sGe sGf sGg sGh : Value), i ≤ T.length ∧ (RT w0 T i s4 wr) ∧ a = ⟨#[(.pointer (some ⟨V.zb,0,none⟩)),u1,u2,(.int .i64 (lastTo T i)),s4,(.int .i64 (i : Int)),s6,s7,s8,s9,s10,s11,s12,s13,s14,s15,Jg,Jh,Ji,Jj,Jk,Jl,Jm,Jn,s24,s25,s26,s27,s28,s29,s30,s31,s32,s33,s34,s35,s36,s37,s38,s39,s40,s41,s42,s43,s44,s45,s46,s47,s48,s49,s50,s51,s52,s53,s54,s55,s56,s57,s58,s59,s60,s61,s62,s63,s64,s65,s66,s67,s68,s69,s70,s71,s72,s73,s74,s75,s76,s77,s78,s79,s80,s81,s82,s83,s84,s85,s86,s87,s88,s89,s90,s91,s92,s93,s94,s95,s96,s97,s98,s99,sBW,sBX,sBY,sBZ,sCa,sCb,sCc,sCd,sCe,sCf,sCg,sCh,sCi,sCj,sCk,sCl,sCm,sCn,sCo,sCp,sCq,sCr,sCs,sCt,sCu,sCv,sCw,sCx,sCy,sCz,sCA,sCB,sCC,sCD,sCE,sCF,sCG,sCH,sCI,sCJ,sCK,sCL,sCM,sCN,sCO,sCP,sCQ,sCR,sCS,sCT,sCU,sCV,sCW,sCX,sCY,sCZ,sDa,sDb,sDc,sDd,sDe,sDf,sDg,sDh,sDi,sDj,sDk,sDl,sDm,sDn,sDo,sDp,sDq,sDr,sDs,sDt,sDu,sDv,sDw,sDx,sDy,sDz,sDA,sDB,sDC,sDD,sDE,sDF,sDG,sDH,sDI,sDJ,sDK,sDL,sDM,sDN,sDO,sDP,sDQ,sDR,sDS,sDT,sDU,sDV,sDW,sDX,sDY,sDZ,sEa,sEb,sEc,sEd,sEe,sEf,sEg,sEh,sEi,sEj,sEk,sEl,sEm,sEn,sEo,sEp,sEq,sEr,sEs,sEt,sEu,sEv,sEw,sEx,sEy,sEz,sEA,sEB,sEC,sED,sEE,sEF,sEG,sEH,sEI,sEJ,sEK,sEL,sEM,sEN,sEO,sEP,sEQ,sER,sES,sET,sEU,sEV,sEW,sEX,sEY,sEZ,sFa,sFb,sFc,sFd,sFe,sFf,sFg,sFh,sFi,sFj,sFk,sFl,sFm,sFn,sFo,sFp,sFq,sFr,sFs,sFt,sFu,sFv,sFw,sFx,sFy,sFz,sFA,sFB,sFC,sFD,sFE,sFF,sFG,sFH,sFI,sFJ,sFK,sFL,sFM,sFN,sFO,sFP,sFQ,sFR,sFS,sFT,sFU,sFV,sFW,sFX,sFY,sFZ,sGa,sGb,sGc,sGd,sGe,sGf,sGg,sGh,Mj,Mk,Mm,Mo,Mp,Mq,Mr,Mt,Mu,Mv,Mw,Mx,My,Mz,Ha,Hb,He,Hg,Hh,Hi,Hj,Hk,Hm,Ho,Hp,Hq,Hs,Ht,Hu,Hv,Hw,Hx,Hy,Tp,Tq,Ts,Tu,Tx,Tz,Va,Vb,Vc,Vd,Ve,Vf,Vg,Vh,Vi,Vj,Vk,Vm,Vn,Vo,Vp,Vq,Vs,Vt,Vu,Vv,Vw,Vx,Vy,Vz,Za,Zc,Zd,Ze,Zf,Zg,Zh,Zi,Zj,Zk,Zl,Zm,Zo,Zp,Zq,Zt,Zu,Zw,Zx,Zy,Zz,u404,u405,u406,u407], []⟩
def mu_things_loop (n : Nat) (a : Act) (_ : World) : Nat := n - (intOf (a.tmps.getD 5 undef)).toNat

theorem things_loop {Q : Exit → Act → World → Prop} {u1 u2 u4 u6 u7 u8 u9 Ja Jb Jc Jd Je Jf Jg Jh Ji Jj Jk Jl Jm Jn Jo Jp Jq Jr Js Jt Ju Jv Jw Jx Jy Jz Qa Qb Qc Qd Qe Qf Qg Qh Qi Qj Qk Ql Qm Qn Qo Qp Qq Qr Qs Qt Qu Qv Qw Qx Qy Qz Xe Xg Xh Xi Xj Xk Xn Xo Xp Xq Xt Xu Xv Xx Xy Xz Yg Yh Yi Yj Yk Yl Ym Yn Yo Yp Yq Yr Ys Yt Yu Yv Yw Yx Yy Yz Ua Ub Uc Ud Ue Uf Ug Uh Ui Uj Uk Ul Um Un Uo Up Uq Ur Us Ut Uu Uv Uw Ux Uy Uz Wc Wd We Wf Wg Wh Wi Wj Wk Wl Wm Wn Wo Wp Wq Wt Wu Ww Wx Wy Wz Ka Kb Kc Kd Ke Kf Kg Kh Kj Kl Km Kn Ko Kp Kq Kr Kt Ku Kv Kw Kx Ky Kz Rg Rh Ri Rj Rk Rl Rm Rp Rq Rt Ru Rx Ry Rz Gc Ge Gf Gg Gh Gi Gj Gm Gn Gp Gq Gt Gu Gv Gx Gy Gz Fe Ff Fg Fh Fi Fj Fk Fm Fo Fp Fq Fs Ft Fu Fv Fw Fx Fy Fz Ec Ee Ef Eg Eh Ei Ej Ek Em En Eo Ep Eu Ev Ex Ey Ez Da Db Dc Dd Dg Dh Di Dj Dk Dl Dm Dn Do Dp Dq Dt Du Dv Dw Dx Dy Dz Pa Pb Pc Pe Pf Pg Ph Pi Pj Pk Pm Pn Po Pq Ps Pt Pu Pv Pw Px Py Pz Na Nc Nd Nf Ng Nh Ni Nj Nk Nl Nn Np Nq Ns Nt Nu Nv Nw Nx Ny Nz Ba Bc Be Bh Bi Bj Bk Bo Bp Bs Bt Bv Bx Mb Mc Md Me Mg Mh Mi Mj Mk Mm Mo Mp Mq Mr Mt Mu Mv Mw Mx My Mz Ha Hb He Hg Hh Hi Hj Hk Hm Ho Hp Hq Hs Ht Hu Hv Hw Hx Hy Tp Tq Ts Tu Tx Tz Va Vb Vc Vd Ve Vf Vg Vh Vi Vj Vk Vm Vn Vo Vp Vq Vs Vt Vu Vv Vw Vx Vy Vz Za Zc Zd Ze Zf Zg Zh Zi Zj Zk Zl Zm Zo Zp Zq Zt Zu Zw Zx Zy Zz u404 u405 u406 u407 : Value} (w0 : World) (O : Nat → Nat) (B : Nat) (V : Zv) (H : HS) (nu ol : List Ob) (T : List Th) (Z : Zn) (loc : Nat → Ob) (gT cT gE cE gW cW gK cK : Nat) (w : World) (tz : TZ w0 O B V H nu ol T Z loc gT cT gE cE gW cW gK cK)
    (h0 : RT w0 T 0 u4 w)
    (hQ : ∀ (s4 s6 s7 s8 s9 s10 s11 s12 s13 s14 s15 s24 s25 s26 s27 s28 s29 s30 s31 s32 s33 s34 s35 s36 s37 s38 s39 s40 s41 s42 s43 s44 s45 s46 s47 s48 s49 s50 s51 s52 s53 s54 s55 s56 s57 s58 s59 s60 s61 s62 s63 s64 s65 s66 s67 s68 s69 s70 s71 s72 s73 s74 s75 s76 s77 s78 s79 s80 s81 s82 s83 s84 s85 s86 s87 s88 s89 s90 s91 s92 s93 s94 s95 s96 s97 s98 s99 sBW sBX sBY sBZ sCa sCb sCc sCd sCe sCf sCg sCh sCi sCj sCk sCl sCm sCn sCo sCp sCq sCr sCs sCt sCu sCv sCw sCx sCy sCz sCA sCB sCC sCD sCE sCF sCG sCH sCI sCJ sCK sCL sCM sCN sCO sCP sCQ sCR sCS sCT sCU sCV sCW sCX sCY sCZ sDa sDb sDc sDd sDe sDf sDg sDh sDi sDj sDk sDl sDm sDn sDo sDp sDq sDr sDs sDt sDu sDv sDw sDx sDy sDz sDA sDB sDC sDD sDE sDF sDG sDH sDI sDJ sDK sDL sDM sDN sDO sDP sDQ sDR sDS sDT sDU sDV sDW sDX sDY sDZ sEa sEb sEc sEd sEe sEf sEg sEh sEi sEj sEk sEl sEm sEn sEo sEp sEq sEr sEs sEt sEu sEv sEw sEx sEy sEz sEA sEB sEC sED sEE sEF sEG sEH sEI sEJ sEK sEL sEM sEN sEO sEP sEQ sER sES sET sEU sEV sEW sEX sEY sEZ sFa sFb sFc sFd sFe sFf sFg sFh sFi sFj sFk sFl sFm sFn sFo sFp sFq sFr sFs sFt sFu sFv sFw sFx sFy sFz sFA sFB sFC sFD sFE sFF sFG sFH sFI sFJ sFK sFL sFM sFN sFO sFP sFQ sFR sFS sFT sFU sFV sFW sFX sFY sFZ sGa sGb sGc sGd sGe sGf sGg sGh : Value) (w' : World), (RT w0 T T.length s4 w') → Q (.exit 0) ⟨#[(.pointer (some ⟨V.zb,0,none⟩)),u1,u2,(.int .i64 (lastTo T (T.length))),s4,(.int .i64 (T.length : Int)),s6,s7,s8,s9,s10,s11,s12,s13,s14,s15,Jg,Jh,Ji,Jj,Jk,Jl,Jm,Jn,s24,s25,s26,s27,s28,s29,s30,s31,s32,s33,s34,s35,s36,s37,s38,s39,s40,s41,s42,s43,s44,s45,s46,s47,s48,s49,s50,s51,s52,s53,s54,s55,s56,s57,s58,s59,s60,s61,s62,s63,s64,s65,s66,s67,s68,s69,s70,s71,s72,s73,s74,s75,s76,s77,s78,s79,s80,s81,s82,s83,s84,s85,s86,s87,s88,s89,s90,s91,s92,s93,s94,s95,s96,s97,s98,s99,sBW,sBX,sBY,sBZ,sCa,sCb,sCc,sCd,sCe,sCf,sCg,sCh,sCi,sCj,sCk,sCl,sCm,sCn,sCo,sCp,sCq,sCr,sCs,sCt,sCu,sCv,sCw,sCx,sCy,sCz,sCA,sCB,sCC,sCD,sCE,sCF,sCG,sCH,sCI,sCJ,sCK,sCL,sCM,sCN,sCO,sCP,sCQ,sCR,sCS,sCT,sCU,sCV,sCW,sCX,sCY,sCZ,sDa,sDb,sDc,sDd,sDe,sDf,sDg,sDh,sDi,sDj,sDk,sDl,sDm,sDn,sDo,sDp,sDq,sDr,sDs,sDt,sDu,sDv,sDw,sDx,sDy,sDz,sDA,sDB,sDC,sDD,sDE,sDF,sDG,sDH,sDI,sDJ,sDK,sDL,sDM,sDN,sDO,sDP,sDQ,sDR,sDS,sDT,sDU,sDV,sDW,sDX,sDY,sDZ,sEa,sEb,sEc,sEd,sEe,sEf,sEg,sEh,sEi,sEj,sEk,sEl,sEm,sEn,sEo,sEp,sEq,sEr,sEs,sEt,sEu,sEv,sEw,sEx,sEy,sEz,sEA,sEB,sEC,sED,sEE,sEF,sEG,sEH,sEI,sEJ,sEK,sEL,sEM,sEN,sEO,sEP,sEQ,sER,sES,sET,sEU,sEV,sEW,sEX,sEY,sEZ,sFa,sFb,sFc,sFd,sFe,sFf,sFg,sFh,sFi,sFj,sFk,sFl,sFm,sFn,sFo,sFp,sFq,sFr,sFs,sFt,sFu,sFv,sFw,sFx,sFy,sFz,sFA,sFB,sFC,sFD,sFE,sFF,sFG,sFH,sFI,sFJ,sFK,sFL,sFM,sFN,sFO,sFP,sFQ,sFR,sFS,sFT,sFU,sFV,sFW,sFX,sFY,sFZ,sGa,sGb,sGc,sGd,sGe,sGf,sGg,sGh,Mj,Mk,Mm,Mo,Mp,Mq,Mr,Mt,Mu,Mv,Mw,Mx,My,Mz,Ha,Hb,He,Hg,Hh,Hi,Hj,Hk,Hm,Ho,Hp,Hq,Hs,Ht,Hu,Hv,Hw,Hx,Hy,Tp,Tq,Ts,Tu,Tx,Tz,Va,Vb,Vc,Vd,Ve,Vf,Vg,Vh,Vi,Vj,Vk,Vm,Vn,Vo,Vp,Vq,Vs,Vt,Vu,Vv,Vw,Vx,Vy,Vz,Za,Zc,Zd,Ze,Zf,Zg,Zh,Zi,Zj,Zk,Zl,Zm,Zo,Zp,Zq,Zt,Zu,Zw,Zx,Zy,Zz,u404,u405,u406,u407], []⟩ w') :
    Code.wp Tryd.prog (Cut.piece Tryd.f31 (Cut.loop 4)) Q ⟨#[(.pointer (some ⟨V.zb,0,none⟩)),u1,u2,(.int .i64 (lastTo T 0)),u4,(.int .i64 (0 : Int)),u6,u7,u8,u9,Ja,Jb,Jc,Jd,Je,Jf,Jg,Jh,Ji,Jj,Jk,Jl,Jm,Jn,Jo,Jp,Jq,Jr,Js,Jt,Ju,Jv,Jw,Jx,Jy,Jz,Qa,Qb,Qc,Qd,Qe,Qf,Qg,Qh,Qi,Qj,Qk,Ql,Qm,Qn,Qo,Qp,Qq,Qr,Qs,Qt,Qu,Qv,Qw,Qx,Qy,Qz,Xe,Xg,Xh,Xi,Xj,Xk,Xn,Xo,Xp,Xq,Xt,Xu,Xv,Xx,Xy,Xz,Yg,Yh,Yi,Yj,Yk,Yl,Ym,Yn,Yo,Yp,Yq,Yr,Ys,Yt,Yu,Yv,Yw,Yx,Yy,Yz,Ua,Ub,Uc,Ud,Ue,Uf,Ug,Uh,Ui,Uj,Uk,Ul,Um,Un,Uo,Up,Uq,Ur,Us,Ut,Uu,Uv,Uw,Ux,Uy,Uz,Wc,Wd,We,Wf,Wg,Wh,Wi,Wj,Wk,Wl,Wm,Wn,Wo,Wp,Wq,Wt,Wu,Ww,Wx,Wy,Wz,Ka,Kb,Kc,Kd,Ke,Kf,Kg,Kh,Kj,Kl,Km,Kn,Ko,Kp,Kq,Kr,Kt,Ku,Kv,Kw,Kx,Ky,Kz,Rg,Rh,Ri,Rj,Rk,Rl,Rm,Rp,Rq,Rt,Ru,Rx,Ry,Rz,Gc,Ge,Gf,Gg,Gh,Gi,Gj,Gm,Gn,Gp,Gq,Gt,Gu,Gv,Gx,Gy,Gz,Fe,Ff,Fg,Fh,Fi,Fj,Fk,Fm,Fo,Fp,Fq,Fs,Ft,Fu,Fv,Fw,Fx,Fy,Fz,Ec,Ee,Ef,Eg,Eh,Ei,Ej,Ek,Em,En,Eo,Ep,Eu,Ev,Ex,Ey,Ez,Da,Db,Dc,Dd,Dg,Dh,Di,Dj,Dk,Dl,Dm,Dn,Do,Dp,Dq,Dt,Du,Dv,Dw,Dx,Dy,Dz,Pa,Pb,Pc,Pe,Pf,Pg,Ph,Pi,Pj,Pk,Pm,Pn,Po,Pq,Ps,Pt,Pu,Pv,Pw,Px,Py,Pz,Na,Nc,Nd,Nf,Ng,Nh,Ni,Nj,Nk,Nl,Nn,Np,Nq,Ns,Nt,Nu,Nv,Nw,Nx,Ny,Nz,Ba,Bc,Be,Bh,Bi,Bj,Bk,Bo,Bp,Bs,Bt,Bv,Bx,Mb,Mc,Md,Me,Mg,Mh,Mi,Mj,Mk,Mm,Mo,Mp,Mq,Mr,Mt,Mu,Mv,Mw,Mx,My,Mz,Ha,Hb,He,Hg,Hh,Hi,Hj,Hk,Hm,Ho,Hp,Hq,Hs,Ht,Hu,Hv,Hw,Hx,Hy,Tp,Tq,Ts,Tu,Tx,Tz,Va,Vb,Vc,Vd,Ve,Vf,Vg,Vh,Vi,Vj,Vk,Vm,Vn,Vo,Vp,Vq,Vs,Vt,Vu,Vv,Vw,Vx,Vy,Vz,Za,Zc,Zd,Ze,Zf,Zg,Zh,Zi,Zj,Zk,Zl,Zm,Zo,Zp,Zq,Zt,Zu,Zw,Zx,Zy,Zz,u404,u405,u406,u407], []⟩ w := by
  conv => arg 2; whnf
  refine wp_loop (Inv_things_loop w0 O B V H nu ol T Z loc gT cT gE cE gW cW gK cK u1 u2 Jg Jh Ji Jj Jk Jl Jm Jn Mj Mk Mm Mo Mp Mq Mr Mt Mu Mv Mw Mx My Mz Ha Hb He Hg Hh Hi Hj Hk Hm Ho Hp Hq Hs Ht Hu Hv Hw Hx Hy Tp Tq Ts Tu Tx Tz Va Vb Vc Vd Ve Vf Vg Vh Vi Vj Vk Vm Vn Vo Vp Vq Vs Vt Vu Vv Vw Vx Vy Vz Za Zc Zd Ze Zf Zg Zh Zi Zj Zk Zl Zm Zo Zp Zq Zt Zu Zw Zx Zy Zz u404 u405 u406 u407) (mu_things_loop (T.length)) ?_ (fun a' wr hI => ?_)
  · exact ⟨0, u4, u6, u7, u8, u9, Ja, Jb, Jc, Jd, Je, Jf, Jo, Jp, Jq, Jr, Js, Jt, Ju, Jv, Jw, Jx, Jy, Jz, Qa, Qb, Qc, Qd, Qe, Qf, Qg, Qh, Qi, Qj, Qk, Ql, Qm, Qn, Qo, Qp, Qq, Qr, Qs, Qt, Qu, Qv, Qw, Qx, Qy, Qz, Xe, Xg, Xh, Xi, Xj, Xk, Xn, Xo, Xp, Xq, Xt, Xu, Xv, Xx, Xy, Xz, Yg, Yh, Yi, Yj, Yk, Yl, Ym, Yn, Yo, Yp, Yq, Yr, Ys, Yt, Yu, Yv, Yw, Yx, Yy, Yz, Ua, Ub, Uc, Ud, Ue, Uf, Ug, Uh, Ui, Uj, Uk, Ul, Um, Un, Uo, Up, Uq, Ur, Us, Ut, Uu, Uv, Uw, Ux, Uy, Uz, Wc, Wd, We, Wf, Wg, Wh, Wi, Wj, Wk, Wl, Wm, Wn, Wo, Wp, Wq, Wt, Wu, Ww, Wx, Wy, Wz, Ka, Kb, Kc, Kd, Ke, Kf, Kg, Kh, Kj, Kl, Km, Kn, Ko, Kp, Kq, Kr, Kt, Ku, Kv, Kw, Kx, Ky, Kz, Rg, Rh, Ri, Rj, Rk, Rl, Rm, Rp, Rq, Rt, Ru, Rx, Ry, Rz, Gc, Ge, Gf, Gg, Gh, Gi, Gj, Gm, Gn, Gp, Gq, Gt, Gu, Gv, Gx, Gy, Gz, Fe, Ff, Fg, Fh, Fi, Fj, Fk, Fm, Fo, Fp, Fq, Fs, Ft, Fu, Fv, Fw, Fx, Fy, Fz, Ec, Ee, Ef, Eg, Eh, Ei, Ej, Ek, Em, En, Eo, Ep, Eu, Ev, Ex, Ey, Ez, Da, Db, Dc, Dd, Dg, Dh, Di, Dj, Dk, Dl, Dm, Dn, Do, Dp, Dq, Dt, Du, Dv, Dw, Dx, Dy, Dz, Pa, Pb, Pc, Pe, Pf, Pg, Ph, Pi, Pj, Pk, Pm, Pn, Po, Pq, Ps, Pt, Pu, Pv, Pw, Px, Py, Pz, Na, Nc, Nd, Nf, Ng, Nh, Ni, Nj, Nk, Nl, Nn, Np, Nq, Ns, Nt, Nu, Nv, Nw, Nx, Ny, Nz, Ba, Bc, Be, Bh, Bi, Bj, Bk, Bo, Bp, Bs, Bt, Bv, Bx, Mb, Mc, Md, Me, Mg, Mh, Mi, Nat.zero_le _, h0, rfl⟩
  obtain ⟨i, s4, s6, s7, s8, s9, s10, s11, s12, s13, hI⟩ := hI
  obtain ⟨s14, s15, s24, s25, s26, s27, s28, s29, s30, s31, hI⟩ := hI
  obtain ⟨s32, s33, s34, s35, s36, s37, s38, s39, s40, s41, hI⟩ := hI
  obtain ⟨s42, s43, s44, s45, s46, s47, s48, s49, s50, s51, hI⟩ := hI
  obtain ⟨s52, s53, s54, s55, s56, s57, s58, s59, s60, s61, hI⟩ := hI
  obtain ⟨s62, s63, s64, s65, s66, s67, s68, s69, s70, s71, hI⟩ := hI
  obtain ⟨s72, s73, s74, s75, s76, s77, s78, s79, s80, s81, hI⟩ := hI
  obtain ⟨s82, s83, s84, s85, s86, s87, s88, s89, s90, s91, hI⟩ := hI
  obtain ⟨s92, s93, s94, s95, s96, s97, s98, s99, sBW, sBX, hI⟩ := hI
  obtain ⟨sBY, sBZ, sCa, sCb, sCc, sCd, sCe, sCf, sCg, sCh, hI⟩ := hI
  obtain ⟨sCi, sCj, sCk, sCl, sCm, sCn, sCo, sCp, sCq, sCr, hI⟩ := hI
  obtain ⟨sCs, sCt, sCu, sCv, sCw, sCx, sCy, sCz, sCA, sCB, hI⟩ := hI
  obtain ⟨sCC, sCD, sCE, sCF, sCG, sCH, sCI, sCJ, sCK, sCL, hI⟩ := hI
  obtain ⟨sCM, sCN, sCO, sCP, sCQ, sCR, sCS, sCT, sCU, sCV, hI⟩ := hI
  obtain ⟨sCW, sCX, sCY, sCZ, sDa, sDb, sDc, sDd, sDe, sDf, hI⟩ := hI
  obtain ⟨sDg, sDh, sDi, sDj, sDk, sDl, sDm, sDn, sDo, sDp, hI⟩ := hI
  obtain ⟨sDq, sDr, sDs, sDt, sDu, sDv, sDw, sDx, sDy, sDz, hI⟩ := hI
  obtain ⟨sDA, sDB, sDC, sDD, sDE, sDF, sDG, sDH, sDI, sDJ, hI⟩ := hI
  obtain ⟨sDK, sDL, sDM, sDN, sDO, sDP, sDQ, sDR, sDS, sDT, hI⟩ := hI
  obtain ⟨sDU, sDV, sDW, sDX, sDY, sDZ, sEa, sEb, sEc, sEd, hI⟩ := hI
  obtain ⟨sEe, sEf, sEg, sEh, sEi, sEj, sEk, sEl, sEm, sEn, hI⟩ := hI
  obtain ⟨sEo, sEp, sEq, sEr, sEs, sEt, sEu, sEv, sEw, sEx, hI⟩ := hI
  obtain ⟨sEy, sEz, sEA, sEB, sEC, sED, sEE, sEF, sEG, sEH, hI⟩ := hI
  obtain ⟨sEI, sEJ, sEK, sEL, sEM, sEN, sEO, sEP, sEQ, sER, hI⟩ := hI
  obtain ⟨sES, sET, sEU, sEV, sEW, sEX, sEY, sEZ, sFa, sFb, hI⟩ := hI
  obtain ⟨sFc, sFd, sFe, sFf, sFg, sFh, sFi, sFj, sFk, sFl, hI⟩ := hI
  obtain ⟨sFm, sFn, sFo, sFp, sFq, sFr, sFs, sFt, sFu, sFv, hI⟩ := hI
  obtain ⟨sFw, sFx, sFy, sFz, sFA, sFB, sFC, sFD, sFE, sFF, hI⟩ := hI
  obtain ⟨sFG, sFH, sFI, sFJ, sFK, sFL, sFM, sFN, sFO, sFP, hI⟩ := hI
  obtain ⟨sFQ, sFR, sFS, sFT, sFU, sFV, sFW, sFX, sFY, sFZ, hI⟩ := hI
  obtain ⟨sGa, sGb, sGc, sGd, sGe, sGf, sGg, sGh, hI⟩ := hI
  obtain ⟨hib, hR, rfl⟩ := hI
  clear h0
  obtain ⟨oo, cc, n, hn, rfl, hrow, hb⟩ := hR
  have hZr := tz.h.below hb
  have hTl := tz.tl
  have z1 : wr.cell? ⟨V.zb, 1, none⟩ = some (.slice (some ⟨gT, 0, none⟩) T.length cT) := (hZr.cz rfl).trans (congrArg some tz.v1)
  by_cases hil : i < T.length
  · obtain ⟨t, ht⟩ : ∃ t, T[i]? = some t := ⟨_, List.getElem?_eq_getElem hil⟩
    obtain ⟨_, tp, tc, tf, tr⟩ := zr_thing hZr tz.v1 (fun _ => rfl) ht
    have t2 : wr.cell? ⟨t.b, 2, none⟩ = some (.int .i64 t.id) := tc 2 _ rfl
    have z0 : wr.cell? ⟨V.zb, 0, none⟩ = some (.pointer (some ⟨V.hb, 0, none⟩)) := hZr.cz rfl
    have e3 : wr.drew.cell? ⟨V.zb, 3, none⟩ = some (.slice (some ⟨gE, 0, none⟩) T.length cE) := (hZr.cz rfl).trans (congrArg some tz.v3)
    have eh : wr.drew.cell? ⟨gE, i, none⟩ = some (.bool t.here) := (zr_here hZr tz.v3 (fun _ => rfl) ht).2
    have t2' : wr.drew.cell? ⟨t.b, 2, none⟩ = some (.int .i64 t.id) := t2
    have hid0 := id_le tz.hz hTl ht
    have hAt := at_any hZr.drew.hr tz.hz.hi t.id (lit_wf _ (by omega) (by omega))
    have hls := lastTo_succ tz.hz ht
    have g0 : decide ((i : Int) < (T.length : Int)) = true := by simpa using hil
    have j1 : (i : Int) < (T.length : Int) := by omega
    have j0 : (0 : Int) ≤ (i : Int) := by omega
    have c3 : IntKind.i64.wrap ((i : Int) + 1) = (i : Int) + 1 := IntWalk.i64_in _ (by omega)
    have A0 := Lib.hid tz
    have A2 := Lib.hid ht
    have A3 := Lib.hid hls
    have B1 := Lib.hid hb.drew
    have B2 := Lib.hid (ownsRow_same (w' := wr.drew) hrow (fun _ _ => rfl))
    have hnl := idsTo_length T i
    rw [← hn] at hnl
    have A6 := Lib.hid hn
    have A5 := Lib.hid hid0
    clear tz ht hls hb hrow hZr tc tf tr hid0 hn
    refine wp_seq_k (fun K1 hK1 => ?_)
    have E1 := Lib.hid hK1
    clear hK1
    go_wp2_with fail
    refine E1.out _ _ ?_
    clear E1
    refine wp_seq_k (fun K2 hK2 => ?_)
    have E2 := Lib.hid hK2
    clear hK2
    refine wp_block ?_
    refine wp_seq_k (fun K3 hK3 => ?_)
    have E3 := Lib.hid hK3
    clear hK3
    go_wp2_with fail
    refine E3.out _ _ ?_
    clear E3
    refine wp_seq_k (fun K4 hK4 => ?_)
    have E4 := Lib.hid hK4
    clear hK4
    go_wp2_with fail
    refine E4.out _ _ ?_
    clear E4 z1 tp
    rw [← A3.out]
    refine wp_seq_k (fun K5 hK5 => ?_)
    have E5 := Lib.hid hK5
    clear hK5
    refine wp_region_noPanic ?_
    refine RegU.begin (S := fun wz => wz.cell? ⟨V.zb, 0, none⟩ = some (.pointer (some ⟨V.hb, 0, none⟩)) ∧ wz.cell? ⟨t.b, 2, none⟩ = some (.int .i64 t.id)) (N := [4, 5, 6, 7, 11, 12]) (by kernel_rfl) ?_ (fun hHeld => ?_)
    · (try dsimp only); first | assumption | go_keep
    refine RegU.tk [1, 2, 3, 8, 9, 10, 11, 12, 13] 0 ?_
    refine RegU.tk [2, 3, 8, 9, 10, 11, 12, 13] 1 ?_
    refine RegU.tk [3, 8, 9, 10, 11, 12, 13] 2 ?_
    refine RegU.tk [8, 9, 10, 11, 12, 13] 3 ?_
    refine RegU.tk [5, 6, 7, 8, 9, 10, 11, 12, 13] 4 ?_
    refine RegU.tk [6, 7, 8, 9, 10, 11, 12, 13] 5 ?_
    refine RegU.tk [7, 8, 9, 10, 11, 12, 13] 6 ?_
    refine RegU.tk [8, 9, 10, 11, 12, 13] 7 ?_
    refine RegU.one (i := 8) (by kernel_rfl) rfl (fun K hK => ?_)
    go_simp
    refine hAt.mono ?_
    rintro e w4 ⟨rfl, c, bo, rfl, hbo, hco⟩
    refine hK.out _ _ ⟨z0, t2⟩ (fun hHeld => ?_)
    clear hK K
    try dsimp only
    refine RegU.tk [10, 11, 12, 13] 9 ?_
    refine RegU.tk [12, 13] 10 ?_
    refine RegU.tk [13] 11 ?_
    refine RegU.one (i := 12) (by kernel_rfl) rfl (fun K hK => ?_)
    go_simp
    refine hK.out _ _ (by assumption) (fun hHeld => ?_)
    clear hK K
    try simp only [Act.put, List.setIfInBounds_toArray, List.set_cons_zero, List.set_cons_succ]
    refine RegU.rest [13] [_] (by kernel_rfl) rfl ?_
    clear hHeld hAt t2 z0
    go_wp2_with fail
    refine NoPanic.normal ?_
    refine E5.out _ _ ?_
    clear E5
    generalize wr.drew = w4 at *
    have B3 := Lib.hid (fun h0 : 0 < t.id => at_zoo A0.out.hz A2.out h0 hbo hco)
    clear hbo hco
    refine wp_seq_k (fun K6 hK6 => ?_)
    have E6 := Lib.hid hK6
    clear hK6
    by_cases hp : 0 < t.id
    · have g1 : decide (0 < t.id) = true := by simpa using hp
      cases hh : t.here with
      | false =>
        have HN : ¬ (0 < t.id ∧ t.here = true) := fun h => by
          rw [hh] at h
          exact absurd h.2 (by decide)
        rw [hh] at eh
        clear hh
        go_wp2_with fail
        clear e3 eh t2'
        refine E6.out _ _ ?_
        clear E6
        refine tell_thing w4 O B V H nu ol T Z loc gT cT gE cE gW cW gK cK t i c bo (A0.out.below B1.out) A2.out B3.out (fun _ _ _ _ _ _ _ _ _ _ _ _ _ _ _ _ _ _ _ _ _ _ _ _ _ _ _ _ _ _ _ _ _ _ _ _ _ _ _ _ _ _ _ _ _ _ _ _ _ _ _ _ _ _ _ _ _ _ _ _ _ _ _ _ _ _ _ _ _ _ _ _ _ _ _ _ _ _ _ _ _ _ _ _ _ _ _ _ _ _ _ _ _ _ _ _ _ _ _ _ _ _ _ _ _ _ _ _ _ _ _ _ _ _ _ _ _ _ _ _ _ _ _ _ _ _ _ _ _ _ _ _ _ _ _ _ _ _ _ _ _ _ _ _ _ _ _ _ _ _ _ _ _ _ _ _ _ _ _ _ _ _ _ _ _ _ _ _ _ _ _ _ _ _ _ _ _ _ _ _ _ _ _ _ _ _ _ _ _ _ _ _ _ _ _ _ _ _ _ _ _ _ _ _ _ _ _ _ _ _ _ _ _ _ _ _ _ _ _ _ _ _ _ _ _ _ _ _ _ _ _ _ _ _ _ _ _ _ _ _ _ _ _ _ _ _ _ _ _ _ w6 hb6 => ?_) (fun _ _ _ _ _ _ _ _ _ _ _ _ _ _ _ _ _ _ _ _ _ _ _ _ _ _ _ _ _ _ _ _ _ _ _ _ _ _ _ _ _ _ _ _ _ _ _ _ _ _ _ _ _ _ _ _ _ _ _ _ _ _ _ _ _ _ _ _ _ _ _ _ _ _ _ _ _ _ _ _ _ _ _ _ _ _ _ _ _ _ _ _ _ _ _ _ _ _ _ _ _ _ _ _ _ _ _ _ _ _ _ _ _ _ _ _ _ _ _ _ _ _ _ _ _ _ _ _ _ _ _ _ _ _ _ _ _ _ _ _ _ _ _ _ _ _ _ _ _ _ _ _ _ _ _ _ _ _ _ _ _ _ _ _ _ _ _ _ _ _ _ _ _ _ _ _ _ _ _ _ _ _ _ _ _ _ _ _ _ _ _ _ _ _ _ _ _ _ _ _ _ _ _ _ _ _ _ _ _ _ _ _ _ _ _ _ _ _ _ _ _ _ _ _ _ _ _ _ _ _ _ _ _ _ _ _ _ _ _ _ _ _ _ _ _ _ _ _ _ _ w6 hb6 => ?_)
        · have D1 := Lib.hid (show RT w0 T (i + 1) (.slice oo n cc) w6 from ⟨_, _, _, (by rw [idsTo_no A2.out HN]; exact A6.out), rfl, ownsRow_same (by rw [idsTo_no A2.out HN]; exact B2.out : w4.ownsRow w0.heap.size 3 1 (.slice oo n cc) n ((idsTo T (i + 1)).map (Value.int .i64))) (fun k hk => hb6.block k (own_lt (by rw [idsTo_no A2.out HN]; exact B2.out : w4.ownsRow w0.heap.size 3 1 (.slice oo n cc) n ((idsTo T (i + 1)).map (Value.int .i64))) hk).2), B1.out.trans (hb6.mono B1.out.size)⟩)
          refine E2.out _ _ ?_
          go_wp2
          clear c3
          refine ⟨⟨i + 1, _, _, _, _, _, _, _, _, _, _, _, _, _, _, _, _, _, _, _, _, _, _, _, _, _, _, _, _, _, _, _, _, _, _, _, _, _, _, _, _, _, _, _, _, _, _, _, _, _, _, _, _, _, _, _, _, _, _, _, _, _, _, _, _, _, _, _, _, _, _, _, _, _, _, _, _, _, _, _, _, _, _, _, _, _, _, _, _, _, _, _, _, _, _, _, _, _, _, _, _, _, _, _, _, _, _, _, _, _, _, _, _, _, _, _, _, _, _, _, _, _, _, _, _, _, _, _, _, _, _, _, _, _, _, _, _, _, _, _, _, _, _, _, _, _, _, _, _, _, _, _, _, _, _, _, _, _, _, _, _, _, _, _, _, _, _, _, _, _, _, _, _, _, _, _, _, _, _, _, _, _, _, _, _, _, _, _, _, _, _, _, _, _, _, _, _, _, _, _, _, _, _, _, _, _, _, _, _, _, _, _, _, _, _, _, _, _, _, _, _, _, _, _, _, _, _, _, _, _, _, _, _, _, _, _, _, _, _, _, _, _, _, _, _, _, _, _, _, _, _, _, _, _, _, _, _, _, _, _, _, _, _, _, _, _, _, _, _, _, _, _, _, _, _, _, _, _, _, _, _, _, _, _, _, _, _, _, _, _, _, _, _, _, _, _, _, _, _, _, _, _, _, _, _, _, _, _, by omega, D1.out, rfl⟩, ?_⟩
          simp [mu_things_loop, intOf]
          omega
        · have D1 := Lib.hid (show RT w0 T (i + 1) (.slice oo n cc) w6 from ⟨_, _, _, (by rw [idsTo_no A2.out HN]; exact A6.out), rfl, ownsRow_same (by rw [idsTo_no A2.out HN]; exact B2.out : w4.ownsRow w0.heap.size 3 1 (.slice oo n cc) n ((idsTo T (i + 1)).map (Value.int .i64))) (fun k hk => hb6.block k (own_lt (by rw [idsTo_no A2.out HN]; exact B2.out : w4.ownsRow w0.heap.size 3 1 (.slice oo n cc) n ((idsTo T (i + 1)).map (Value.int .i64))) hk).2), B1.out.trans (hb6.mono B1.out.size)⟩)
          refine E2.out _ _ ?_
          go_wp2
          clear c3
          refine ⟨⟨i + 1, _, _, _, _, _, _, _, _, _, _, _, _, _, _, _, _, _, _, _, _, _, _, _, _, _, _, _, _, _, _, _, _, _, _, _, _, _, _, _, _, _, _, _, _, _, _, _, _, _, _, _, _, _, _, _, _, _, _, _, _, _, _, _, _, _, _, _, _, _, _, _, _, _, _, _, _, _, _, _, _, _, _, _, _, _, _, _, _, _, _, _, _, _, _, _, _, _, _, _, _, _, _, _, _, _, _, _, _, _, _, _, _, _, _, _, _, _, _, _, _, _, _, _, _, _, _, _, _, _, _, _, _, _, _, _, _, _, _, _, _, _, _, _, _, _, _, _, _, _, _, _, _, _, _, _, _, _, _, _, _, _, _, _, _, _, _, _, _, _, _, _, _, _, _, _, _, _, _, _, _, _, _, _, _, _, _, _, _, _, _, _, _, _, _, _, _, _, _, _, _, _, _, _, _, _, _, _, _, _, _, _, _, _, _, _, _, _, _, _, _, _, _, _, _, _, _, _, _, _, _, _, _, _, _, _, _, _, _, _, _, _, _, _, _, _, _, _, _, _, _, _, _, _, _, _, _, _, _, _, _, _, _, _, _, _, _, _, _, _, _, _, _, _, _, _, _, _, _, _, _, _, _, _, _, _, _, _, _, _, _, _, _, _, _, _, _, _, _, _, _, _, _, _, _, _, _, _, by omega, D1.out, rfl⟩, ?_⟩
          simp [mu_things_loop, intOf]
          omega
      | true =>
        have hyes := idsTo_yes A2.out hp hh
        rw [hh] at eh
        clear hh
        obtain ⟨iB, hiB, hB0, hB1, hB2⟩ := info_parts (P := Tryd.prog) (e := 3) (by kernel_rfl : (Tryd.prog.info? 3).map (fun i => (i.zero, i.size, i.bytes)) = some (some (.int .i64 0), 1, 8))
        have mA : n + 1 ≤ maxLen := by unfold maxLen; omega
        have nA : (n + 1) * 8 ≤ 140737488355328 := by omega
        have hBl := B1.out.size
        have hrB := B2.out
        have hNB := heap_alloc_last w4 (.cells #[.int .i64 t.id] 3 (0, 0))
        have hrB1 := hrB.alloc (.cells #[.int .i64 t.id] 3 (0, 0))
        have C4 := Lib.hid hNB
        have C5 := Lib.hid hyes
        clear hNB hyes
        go_wp2_with (at_builtin; go_loud (refine wpList_append_lies _ rfl _ _ 52 rfl w0.heap.size 3 iB (.int .i64 0) 1 8 Tryd.underlying52 hiB hB0 hB1 hB2 rfl (by decide) (Value.slice oo n cc) n ((idsTo T i).map (Value.int .i64)) rfl hrB1 ⟨w4.heap.size, 0, none⟩ 1 1 [.int .i64 t.id] rfl rfl ?d1 ?d2 (by decide) mA nA ?d5 _ rfl ?grow2))
        case d1 => exact World.news_of_block (cs := #[.int .i64 t.id]) (t := 3) (fr := (0, 0)) C4.out
        case d2 => first | rfl | (intro u hu; simp only [List.mem_cons, List.not_mem_nil, or_false] at hu; subst hu; rfl)
        case d5 => first | omega | (simp; omega)
        case grow2 =>
          intro gB kB w5 hrn hg hat2 hlt
          have hT5 : Turned (fun k => w0.heap.size ≤ k) w0 w5 := ((Turned.of_below _ B1.out).alloc (.cells #[.int .i64 t.id] 3 (0, 0))).grown hg (fun k hk => .inl (own_lt hrB hk).1)
          have B4 := Lib.hid (show Below w0.heap.size w0 w5 from hT5.below (Nat.le_refl _) (fun k hk => hk))
          have hr5 : w5.ownsRow w0.heap.size 3 1 (.slice (some ⟨gB, 0, none⟩) (n + 1) kB) (n + 1) ((idsTo T (i + 1)).map (Value.int .i64)) := by
            rw [C5.out, List.map_append]
            exact hrn
          have B5 := Lib.hid hr5
          have B6 := Lib.hid (show n + 1 = (idsTo T (i + 1)).length by rw [C5.out, List.length_append, ← A6.out]; rfl)
          clear hr5 hT5 hrn hg hat2 hlt hrB hrB1 nA mA hiB hB0 hB1 hB2 e3 eh t2'
          go_wp2_with fail
          refine E6.out _ _ ?_
          clear E6
          refine tell_thing w5 O B V H nu ol T Z loc gT cT gE cE gW cW gK cK t i c bo (A0.out.below B4.out) A2.out B3.out (fun _ _ _ _ _ _ _ _ _ _ _ _ _ _ _ _ _ _ _ _ _ _ _ _ _ _ _ _ _ _ _ _ _ _ _ _ _ _ _ _ _ _ _ _ _ _ _ _ _ _ _ _ _ _ _ _ _ _ _ _ _ _ _ _ _ _ _ _ _ _ _ _ _ _ _ _ _ _ _ _ _ _ _ _ _ _ _ _ _ _ _ _ _ _ _ _ _ _ _ _ _ _ _ _ _ _ _ _ _ _ _ _ _ _ _ _ _ _ _ _ _ _ _ _ _ _ _ _ _ _ _ _ _ _ _ _ _ _ _ _ _ _ _ _ _ _ _ _ _ _ _ _ _ _ _ _ _ _ _ _ _ _ _ _ _ _ _ _ _ _ _ _ _ _ _ _ _ _ _ _ _ _ _ _ _ _ _ _ _ _ _ _ _ _ _ _ _ _ _ _ _ _ _ _ _ _ _ _ _ _ _ _ _ _ _ _ _ _ _ _ _ _ _ _ _ _ _ _ _ _ _ _ _ _ _ _ _ _ _ _ _ _ _ _ _ _ _ _ _ _ w6 hb6 => ?_) (fun _ _ _ _ _ _ _ _ _ _ _ _ _ _ _ _ _ _ _ _ _ _ _ _ _ _ _ _ _ _ _ _ _ _ _ _ _ _ _ _ _ _ _ _ _ _ _ _ _ _ _ _ _ _ _ _ _ _ _ _ _ _ _ _ _ _ _ _ _ _ _ _ _ _ _ _ _ _ _ _ _ _ _ _ _ _ _ _ _ _ _ _ _ _ _ _ _ _ _ _ _ _ _ _ _ _ _ _ _ _ _ _ _ _ _ _ _ _ _ _ _ _ _ _ _ _ _ _ _ _ _ _ _ _ _ _ _ _ _ _ _ _ _ _ _ _ _ _ _ _ _ _ _ _ _ _ _ _ _ _ _ _ _ _ _ _ _ _ _ _ _ _ _ _ _ _ _ _ _ _ _ _ _ _ _ _ _ _ _ _ _ _ _ _ _ _ _ _ _ _ _ _ _ _ _ _ _ _ _ _ _ _ _ _ _ _ _ _ _ _ _ _ _ _ _ _ _ _ _ _ _ _ _ _ _ _ _ _ _ _ _ _ _ _ _ _ _ _ _ _ w6 hb6 => ?_)
          · have D1 := Lib.hid (show RT w0 T (i + 1) (.slice (some ⟨gB, 0, none⟩) (n + 1) kB) w6 from ⟨_, _, _, B6.out, rfl, ownsRow_same B5.out (fun k hk => hb6.block k (own_lt B5.out hk).2), B4.out.trans (hb6.mono B4.out.size)⟩)
            refine E2.out _ _ ?_
            go_wp2
            clear c3
            refine ⟨⟨i + 1, _, _, _, _, _, _, _, _, _, _, _, _, _, _, _, _, _, _, _, _, _, _, _, _, _, _, _, _, _, _, _, _, _, _, _, _, _, _, _, _, _, _, _, _, _, _, _, _, _, _, _, _, _, _, _, _, _, _, _, _, _, _, _, _, _, _, _, _, _, _, _, _, _, _, _, _, _, _, _, _, _, _, _, _, _, _, _, _, _, _, _, _, _, _, _, _, _, _, _, _, _, _, _, _, _, _, _, _, _, _, _, _, _, _, _, _, _, _, _, _, _, _, _, _, _, _, _, _, _, _, _, _, _, _, _, _, _, _, _, _, _, _, _, _, _, _, _, _, _, _, _, _, _, _, _, _, _, _, _, _, _, _, _, _, _, _, _, _, _, _, _, _, _, _, _, _, _, _, _, _, _, _, _, _, _, _, _, _, _, _, _, _, _, _, _, _, _, _, _, _, _, _, _, _, _, _, _, _, _, _, _, _, _, _, _, _, _, _, _, _, _, _, _, _, _, _, _, _, _, _, _, _, _, _, _, _, _, _, _, _, _, _, _, _, _, _, _, _, _, _, _, _, _, _, _, _, _, _, _, _, _, _, _, _, _, _, _, _, _, _, _, _, _, _, _, _, _, _, _, _, _, _, _, _, _, _, _, _, _, _, _, _, _, _, _, _, _, _, _, _, _, _, _, _, _, _, _, by omega, D1.out, rfl⟩, ?_⟩
            simp [mu_things_loop, intOf]
            omega
          · have D1 := Lib.hid (show RT w0 T (i + 1) (.slice (some ⟨gB, 0, none⟩) (n + 1) kB) w6 from ⟨_, _, _, B6.out, rfl, ownsRow_same B5.out (fun k hk => hb6.block k (own_lt B5.out hk).2), B4.out.trans (hb6.mono B4.out.size)⟩)
            refine E2.out _ _ ?_
            go_wp2
            clear c3
            refine ⟨⟨i + 1, _, _, _, _, _, _, _, _, _, _, _, _, _, _, _, _, _, _, _, _, _, _, _, _, _, _, _, _, _, _, _, _, _, _, _, _, _, _, _, _, _, _, _, _, _, _, _, _, _, _, _, _, _, _, _, _, _, _, _, _, _, _, _, _, _, _, _, _, _, _, _, _, _, _, _, _, _, _, _, _, _, _, _, _, _, _, _, _, _, _, _, _, _, _, _, _, _, _, _, _, _, _, _, _, _, _, _, _, _, _, _, _, _, _, _, _, _, _, _, _, _, _, _, _, _, _, _, _, _, _, _, _, _, _, _, _, _, _, _, _, _, _, _, _, _, _, _, _, _, _, _, _, _, _, _, _, _, _, _, _, _, _, _, _, _, _, _, _, _, _, _, _, _, _, _, _, _, _, _, _, _, _, _, _, _, _, _, _, _, _, _, _, _, _, _, _, _, _, _, _, _, _, _, _, _, _, _, _, _, _, _, _, _, _, _, _, _, _, _, _, _, _, _, _, _, _, _, _, _, _, _, _, _, _, _, _, _, _, _, _, _, _, _, _, _, _, _, _, _, _, _, _, _, _, _, _, _, _, _, _, _, _, _, _, _, _, _, _, _, _, _, _, _, _, _, _, _, _, _, _, _, _, _, _, _, _, _, _, _, _, _, _, _, _, _, _, _, _, _, _, _, _, _, _, _, _, _, by omega, D1.out, rfl⟩, ?_⟩
            simp [mu_things_loop, intOf]
            omega
    · have g1 : decide (0 < t.id) = false := by simpa using hp
      have HN : ¬ (0 < t.id ∧ t.here = true) := fun h => hp h.1
      go_wp2_with fail
      clear e3 eh t2'
      refine E6.out _ _ ?_
      clear E6
      refine tell_thing w4 O B V H nu ol T Z loc gT cT gE cE gW cW gK cK t i c bo (A0.out.below B1.out) A2.out B3.out (fun _ _ _ _ _ _ _ _ _ _ _ _ _ _ _ _ _ _ _ _ _ _ _ _ _ _ _ _ _ _ _ _ _ _ _ _ _ _ _ _ _ _ _ _ _ _ _ _ _ _ _ _ _ _ _ _ _ _ _ _ _ _ _ _ _ _ _ _ _ _ _ _ _ _ _ _ _ _ _ _ _ _ _ _ _ _ _ _ _ _ _ _ _ _ _ _ _ _ _ _ _ _ _ _ _ _ _ _ _ _ _ _ _ _ _ _ _ _ _ _ _ _ _ _ _ _ _ _ _ _ _ _ _ _ _ _ _ _ _ _ _ _ _ _ _ _ _ _ _ _ _ _ _ _ _ _ _ _ _ _ _ _ _ _ _ _ _ _ _ _ _ _ _ _ _ _ _ _ _ _ _ _ _ _ _ _ _ _ _ _ _ _ _ _ _ _ _ _ _ _ _ _ _ _ _ _ _ _ _ _ _ _ _ _ _ _ _ _ _ _ _ _ _ _ _ _ _ _ _ _ _ _ _ _ _ _ _ _ _ _ _ _ _ _ _ _ _ _ _ _ w6 hb6 => ?_) (fun _ _ _ _ _ _ _ _ _ _ _ _ _ _ _ _ _ _ _ _ _ _ _ _ _ _ _ _ _ _ _ _ _ _ _ _ _ _ _ _ _ _ _ _ _ _ _ _ _ _ _ _ _ _ _ _ _ _ _ _ _ _ _ _ _ _ _ _ _ _ _ _ _ _ _ _ _ _ _ _ _ _ _ _ _ _ _ _ _ _ _ _ _ _ _ _ _ _ _ _ _ _ _ _ _ _ _ _ _ _ _ _ _ _ _ _ _ _ _ _ _ _ _ _ _ _ _ _ _ _ _ _ _ _ _ _ _ _ _ _ _ _ _ _ _ _ _ _ _ _ _ _ _ _ _ _ _ _ _ _ _ _ _ _ _ _ _ _ _ _ _ _ _ _ _ _ _ _ _ _ _ _ _ _ _ _ _ _ _ _ _ _ _ _ _ _ _ _ _ _ _ _ _ _ _ _ _ _ _ _ _ _ _ _ _ _ _ _ _ _ _ _ _ _ _ _ _ _ _ _ _ _ _ _ _ _ _ _ _ _ _ _ _ _ _ _ _ _ _ _ w6 hb6 => ?_)
      · have D1 := Lib.hid (show RT w0 T (i + 1) (.slice oo n cc) w6 from ⟨_, _, _, (by rw [idsTo_no A2.out HN]; exact A6.out), rfl, ownsRow_same (by rw [idsTo_no A2.out HN]; exact B2.out : w4.ownsRow w0.heap.size 3 1 (.slice oo n cc) n ((idsTo T (i + 1)).map (Value.int .i64))) (fun k hk => hb6.block k (own_lt (by rw [idsTo_no A2.out HN]; exact B2.out : w4.ownsRow w0.heap.size 3 1 (.slice oo n cc) n ((idsTo T (i + 1)).map (Value.int .i64))) hk).2), B1.out.trans (hb6.mono B1.out.size)⟩)
        refine E2.out _ _ ?_
        go_wp2
        clear c3
        refine ⟨⟨i + 1, _, _, _, _, _, _, _, _, _, _, _, _, _, _, _, _, _, _, _, _, _, _, _, _, _, _, _, _, _, _, _, _, _, _, _, _, _, _, _, _, _, _, _, _, _, _, _, _, _, _, _, _, _, _, _, _, _, _, _, _, _, _, _, _, _, _, _, _, _, _, _, _, _, _, _, _, _, _, _, _, _, _, _, _, _, _, _, _, _, _, _, _, _, _, _, _, _, _, _, _, _, _, _, _, _, _, _, _, _, _, _, _, _, _, _, _, _, _, _, _, _, _, _, _, _, _, _, _, _, _, _, _, _, _, _, _, _, _, _, _, _, _, _, _, _, _, _, _, _, _, _, _, _, _, _, _, _, _, _, _, _, _, _, _, _, _, _, _, _, _, _, _, _, _, _, _, _, _, _, _, _, _, _, _, _, _, _, _, _, _, _, _, _, _, _, _, _, _, _, _, _, _, _, _, _, _, _, _, _, _, _, _, _, _, _, _, _, _, _, _, _, _, _, _, _, _, _, _, _, _, _, _, _, _, _, _, _, _, _, _, _, _, _, _, _, _, _, _, _, _, _, _, _, _, _, _, _, _, _, _, _, _, _, _, _, _, _, _, _, _, _, _, _, _, _, _, _, _, _, _, _, _, _, _, _, _, _, _, _, _, _, _, _, _, _, _, _, _, _, _, _, _, _, _, _, _, _, by omega, D1.out, rfl⟩, ?_⟩
        simp [mu_things_loop, intOf]
        omega
      · have D1 := Lib.hid (show RT w0 T (i + 1) (.slice oo n cc) w6 from ⟨_, _, _, (by rw [idsTo_no A2.out HN]; exact A6.out), rfl, ownsRow_same (by rw [idsTo_no A2.out HN]; exact B2.out : w4.ownsRow w0.heap.size 3 1 (.slice oo n cc) n ((idsTo T (i + 1)).map (Value.int .i64))) (fun k hk => hb6.block k (own_lt (by rw [idsTo_no A2.out HN]; exact B2.out : w4.ownsRow w0.heap.size 3 1 (.slice oo n cc) n ((idsTo T (i + 1)).map (Value.int .i64))) hk).2), B1.out.trans (hb6.mono B1.out.size)⟩)
        refine E2.out _ _ ?_
        go_wp2
        clear c3
        refine ⟨⟨i + 1, _, _, _, _, _, _, _, _, _, _, _, _, _, _, _, _, _, _, _, _, _, _, _, _, _, _, _, _, _, _, _, _, _, _, _, _, _, _, _, _, _, _, _, _, _, _, _, _, _, _, _, _, _, _, _, _, _, _, _, _, _, _, _, _, _, _, _, _, _, _, _, _, _, _, _, _, _, _, _, _, _, _, _, _, _, _, _, _, _, _, _, _, _, _, _, _, _, _, _, _, _, _, _, _, _, _, _, _, _, _, _, _, _, _, _, _, _, _, _, _, _, _, _, _, _, _, _, _, _, _, _, _, _, _, _, _, _, _, _, _, _, _, _, _, _, _, _, _, _, _, _, _, _, _, _, _, _, _, _, _, _, _, _, _, _, _, _, _, _, _, _, _, _, _, _, _, _, _, _, _, _, _, _, _, _, _, _, _, _, _, _, _, _, _, _, _, _, _, _, _, _, _, _, _, _, _, _, _, _, _, _, _, _, _, _, _, _, _, _, _, _, _, _, _, _, _, _, _, _, _, _, _, _, _, _, _, _, _, _, _, _, _, _, _, _, _, _, _, _, _, _, _, _, _, _, _, _, _, _, _, _, _, _, _, _, _, _, _, _, _, _, _, _, _, _, _, _, _, _, _, _, _, _, _, _, _, _, _, _, _, _, _, _, _, _, _, _, _, _, _, _, _, _, _, _, _, _, by omega, D1.out, rfl⟩, ?_⟩
        simp [mu_things_loop, intOf]
        omega
  · have hie : i = T.length := by omega
    subst hie
    have g0 : decide ((T.length : Int) < (T.length : Int)) = false := by simp
    have A1 := Lib.hid (show RT w0 T T.length (.slice oo n cc) wr from ⟨oo, cc, n, hn, rfl, hrow, hb⟩)
    clear tz hrow hb hZr hn
    go_wp2
    exact A1.out

end Go.Proofs.YthbkklnahhdgcaaDoor.PlSh

namespace Go.Proofs.YthbkklnahhdgcaaDoor.PlSi
open Go Go.Proofs Go.RowKit Go.Maps Go.Proofs.YthbkklnahhdgcaaDoor.Lib HeapR HeapB HeapC HeapD HeapG HeapH ErrC ChA ChT ChCa ChCc ChE ChH ChI ChL ChN ChO ChW ChZ PlA PlT PlZ PlX PlYa PlU PlG PlGa PlJ PlP PlSa

def Inv_ids_same_loop (w0 : World) (oA oB : Option Addr) (cA cB n : Nat) (_xs : List Int) (u0 u1 u2 u3 u5 u6 u7 u8 u9 Ja Jb Jc Jd Je Jf Jg Jh Ji Jj Jk Jl Jo Jp Jq Jr Js Jt Ju Jv Jw Jx Jy Jz Qa Qb Qc Qd Qe Qf Qg Qh Qi Qj Qk Ql Qm Qn Qo Qp Qq Qr Qs Qt Qu Qv Qw Qx Qy Qz Xe Xg Xh Xi Xj Xk Xn Xo Xp Xq Xt Xu Xv Xx Xy Xz Yg Yh Yi Yj Yk Yl Ym Yn Yo Yp Yq Yr Ys Yt Yu Yv Yw Yx Yy Yz Ua Ub Uc Ud Ue Uf Ug Uh Ui Uj Uk Ul Um Un Uo Up Uq Ur Us Ut Uu Uv Uw Ux Uy Uz Wc Wd We Wf Wg Wh Wi Wj Wk Wl Wm Wn Wo Wp Wq Wt Wu Ww Wx Wy Wz Ka Kb Kc Kd Ke Kf Kg Kh Kj Kl Km Kn Ko Kp Kq Kr Kt Ku Kv Kw Kx Ky Kz Rg Rh Ri Rj Rk Rl Rm Rp Rq Rt Ru Rx Ry Rz Gc Ge Gf Gg Gh Gi Gj Gm Gn Gp Gq Gt Gu Gv Gx Gy Gz Fe Ff Fg Fh Fi Fj Fk Fm Fo Fp Fq Fs Ft Fu Fv Fw Fx Fy Fz Ec Ee Ef Eg Eh Ei Ej Ek Em En Eo Ep Eu Ev Ex Ey Ez Da Db Dc Dd Dg Dh Di Dj Dk Dl Dm Dn Do Dp Dq Dt Du Dv Dw Dx Dy Dz Pa Pb Pc Pe Pf Pg Ph Pi Pj Pk Pm Pn Po Pq Ps Pt Pu Pv Pw Px Py Pz Na Nc Nd Nf Ng Nh Ni Nj Nk Nl Nn Np Nq Ns Nt Nu Nv Nw Nx Ny Nz Ba Bc Be Bh Bi Bj Bk Bo Bp Bs Bt Bv Bx Mb Mc Md Me Mg Mh Mi Mj Mk Mm Mo Mp Mq Mr Mt Mu Mv Mw Mx My Mz Ha Hb He Hg Hh Hi Hj Hk Hm Ho Hp Hq Hs Ht Hu Hv Vg Vh Vi Vj Vk Vm Vn Vo Vp Vq Vs Vt Vu Vv Vw Vx Vy Vz Za Zc Zd Ze Zf Zg Zh Zi Zj Zk Zl Zm Zo Zp Zq Zt Zu Zw Zx Zy Zz u404 u405 u406 u407 : Value) (a : Act) (wr : World) : Prop :=
  ∃ (i : Nat) (sGM sGN sGO sGP sGQ sGR sGS sGT sGU sGV sGW sGX sGY sGZ sHa : Value), i ≤ n ∧ (∃ k, wr = w0.drewN k) ∧ a = ⟨#[u0,u1,u2,u3,(.slice oA n cA),u5,u6,u7,u8,u9,Ja,Jb,Jc,Jd,Je,Jf,Jg,Jh,Ji,Jj,Jk,Jl,(.slice oB n cB),(.int .i64 (i : Int)),Jo,Jp,Jq,Jr,Js,Jt,Ju,Jv,Jw,Jx,Jy,Jz,Qa,Qb,Qc,Qd,Qe,Qf,Qg,Qh,Qi,Qj,Qk,Ql,Qm,Qn,Qo,Qp,Qq,Qr,Qs,Qt,Qu,Qv,Qw,Qx,Qy,Qz,Xe,Xg,Xh,Xi,Xj,Xk,Xn,Xo,Xp,Xq,Xt,Xu,Xv,Xx,Xy,Xz,Yg,Yh,Yi,Yj,Yk,Yl,Ym,Yn,Yo,Yp,Yq,Yr,Ys,Yt,Yu,Yv,Yw,Yx,Yy,Yz,Ua,Ub,Uc,Ud,Ue,Uf,Ug,Uh,Ui,Uj,Uk,Ul,Um,Un,Uo,Up,Uq,Ur,Us,Ut,Uu,Uv,Uw,Ux,Uy,Uz,Wc,Wd,We,Wf,Wg,Wh,Wi,Wj,Wk,Wl,Wm,Wn,Wo,Wp,Wq,Wt,Wu,Ww,Wx,Wy,Wz,Ka,Kb,Kc,Kd,Ke,Kf,Kg,Kh,Kj,Kl,Km,Kn,Ko,Kp,Kq,Kr,Kt,Ku,Kv,Kw,Kx,Ky,Kz,Rg,Rh,Ri,Rj,Rk,Rl,Rm,Rp,Rq,Rt,Ru,Rx,Ry,Rz,Gc,Ge,Gf,Gg,Gh,Gi,Gj,Gm,Gn,Gp,Gq,Gt,Gu,Gv,Gx,Gy,Gz,Fe,Ff,Fg,Fh,Fi,Fj,Fk,Fm,Fo,Fp,Fq,Fs,Ft,Fu,Fv,Fw,Fx,Fy,Fz,Ec,Ee,Ef,Eg,Eh,Ei,Ej,Ek,Em,En,Eo,Ep,Eu,Ev,Ex,Ey,Ez,Da,Db,Dc,Dd,Dg,Dh,Di,Dj,Dk,Dl,Dm,Dn,Do,Dp,Dq,Dt,Du,Dv,Dw,Dx,Dy,Dz,Pa,Pb,Pc,Pe,Pf,Pg,Ph,Pi,Pj,Pk,Pm,Pn,Po,Pq,Ps,Pt,Pu,Pv,Pw,Px,Py,Pz,Na,Nc,Nd,Nf,Ng,Nh,Ni,Nj,Nk,Nl,Nn,Np,Nq,Ns,Nt,Nu,Nv,Nw,Nx,Ny,Nz,Ba,Bc,Be,Bh,Bi,Bj,Bk,Bo,Bp,Bs,Bt,Bv,Bx,Mb,Mc,Md,Me,Mg,Mh,Mi,Mj,Mk,Mm,Mo,Mp,Mq,Mr,Mt,Mu,Mv,Mw,Mx,My,Mz,Ha,Hb,He,Hg,Hh,Hi,Hj,Hk,Hm,Ho,Hp,Hq,Hs,Ht,Hu,Hv,sGM,sGN,sGO,sGP,sGQ,sGR,sGS,sGT,sGU,sGV,sGW,sGX,sGY,sGZ,sHa,Vg,Vh,Vi,Vj,Vk,Vm,Vn,Vo,Vp,Vq,Vs,Vt,Vu,Vv,Vw,Vx,Vy,Vz,Za,Zc,Zd,Ze,Zf,Zg,Zh,Zi,Zj,Zk,Zl,Zm,Zo,Zp,Zq,Zt,Zu,Zw,Zx,Zy,Zz,u404,u405,u406,u407], []⟩
def mu_ids_same_loop (n : Nat) (a : Act) (_ : World) : Nat := n - (intOf (a.tmps.getD 23 undef)).toNat

theorem ids_same_loop {Q : Exit → Act → World → Prop} {u0 u1 u2 u3 u5 u6 u7 u8 u9 Ja Jb Jc Jd Je Jf Jg Jh Ji Jj Jk Jl Jo Jp Jq Jr Js Jt Ju Jv Jw Jx Jy Jz Qa Qb Qc Qd Qe Qf Qg Qh Qi Qj Qk Ql Qm Qn Qo Qp Qq Qr Qs Qt Qu Qv Qw Qx Qy Qz Xe Xg Xh Xi Xj Xk Xn Xo Xp Xq Xt Xu Xv Xx Xy Xz Yg Yh Yi Yj Yk Yl Ym Yn Yo Yp Yq Yr Ys Yt Yu Yv Yw Yx Yy Yz Ua Ub Uc Ud Ue Uf Ug Uh Ui Uj Uk Ul Um Un Uo Up Uq Ur Us Ut Uu Uv Uw Ux Uy Uz Wc Wd We Wf Wg Wh Wi Wj Wk Wl Wm Wn Wo Wp Wq Wt Wu Ww Wx Wy Wz Ka Kb Kc Kd Ke Kf Kg Kh Kj Kl Km Kn Ko Kp Kq Kr Kt Ku Kv Kw Kx Ky Kz Rg Rh Ri Rj Rk Rl Rm Rp Rq Rt Ru Rx Ry Rz Gc Ge Gf Gg Gh Gi Gj Gm Gn Gp Gq Gt Gu Gv Gx Gy Gz Fe Ff Fg Fh Fi Fj Fk Fm Fo Fp Fq Fs Ft Fu Fv Fw Fx Fy Fz Ec Ee Ef Eg Eh Ei Ej Ek Em En Eo Ep Eu Ev Ex Ey Ez Da Db Dc Dd Dg Dh Di Dj Dk Dl Dm Dn Do Dp Dq Dt Du Dv Dw Dx Dy Dz Pa Pb Pc Pe Pf Pg Ph Pi Pj Pk Pm Pn Po Pq Ps Pt Pu Pv Pw Px Py Pz Na Nc Nd Nf Ng Nh Ni Nj Nk Nl Nn Np Nq Ns Nt Nu Nv Nw Nx Ny Nz Ba Bc Be Bh Bi Bj Bk Bo Bp Bs Bt Bv Bx Mb Mc Md Me Mg Mh Mi Mj Mk Mm Mo Mp Mq Mr Mt Mu Mv Mw Mx My Mz Ha Hb He Hg Hh Hi Hj Hk Hm Ho Hp Hq Hs Ht Hu Hv Hw Hx Hy Tp Tq Ts Tu Tx Tz Va Vb Vc Vd Ve Vf Vg Vh Vi Vj Vk Vm Vn Vo Vp Vq Vs Vt Vu Vv Vw Vx Vy Vz Za Zc Zd Ze Zf Zg Zh Zi Zj Zk Zl Zm Zo Zp Zq Zt Zu Zw Zx Zy Zz u404 u405 u406 u407 : Value} (w0 : World) (oA oB : Option Addr) (cA cB n : Nat) (xs : List Int) (w : World) (hn : xs.length = n) (hnb : n ≤ 1000) (hA : ∀ (i : Nat) (x : Int), xs[i]? = some x → ∃ g, oA = some ⟨g, 0, none⟩ ∧ w0.cell? ⟨g, i, none⟩ = some (.int .i64 x)) (hB : ∀ (i : Nat) (x : Int), xs[i]? = some x → ∃ g, oB = some ⟨g, 0, none⟩ ∧ w0.cell? ⟨g, i, none⟩ = some (.int .i64 x))
    (h0 : ∃ k, w = w0.drewN k)
    (hQ : ∀ (sGM sGN sGO sGP sGQ sGR sGS sGT sGU sGV sGW sGX sGY sGZ sHa : Value) (w' : World), (∃ k, w' = w0.drewN k) → Q (.exit 5) ⟨#[u0,u1,u2,u3,(.slice oA n cA),u5,u6,u7,u8,u9,Ja,Jb,Jc,Jd,Je,Jf,Jg,Jh,Ji,Jj,Jk,Jl,(.slice oB n cB),(.int .i64 (n : Int)),Jo,Jp,Jq,Jr,Js,Jt,Ju,Jv,Jw,Jx,Jy,Jz,Qa,Qb,Qc,Qd,Qe,Qf,Qg,Qh,Qi,Qj,Qk,Ql,Qm,Qn,Qo,Qp,Qq,Qr,Qs,Qt,Qu,Qv,Qw,Qx,Qy,Qz,Xe,Xg,Xh,Xi,Xj,Xk,Xn,Xo,Xp,Xq,Xt,Xu,Xv,Xx,Xy,Xz,Yg,Yh,Yi,Yj,Yk,Yl,Ym,Yn,Yo,Yp,Yq,Yr,Ys,Yt,Yu,Yv,Yw,Yx,Yy,Yz,Ua,Ub,Uc,Ud,Ue,Uf,Ug,Uh,Ui,Uj,Uk,Ul,Um,Un,Uo,Up,Uq,Ur,Us,Ut,Uu,Uv,Uw,Ux,Uy,Uz,Wc,Wd,We,Wf,Wg,Wh,Wi,Wj,Wk,Wl,Wm,Wn,Wo,Wp,Wq,Wt,Wu,Ww,Wx,Wy,Wz,Ka,Kb,Kc,Kd,Ke,Kf,Kg,Kh,Kj,Kl,Km,Kn,Ko,Kp,Kq,Kr,Kt,Ku,Kv,Kw,Kx,Ky,Kz,Rg,Rh,Ri,Rj,Rk,Rl,Rm,Rp,Rq,Rt,Ru,Rx,Ry,Rz,Gc,Ge,Gf,Gg,Gh,Gi,Gj,Gm,Gn,Gp,Gq,Gt,Gu,Gv,Gx,Gy,Gz,Fe,Ff,Fg,Fh,Fi,Fj,Fk,Fm,Fo,Fp,Fq,Fs,Ft,Fu,Fv,Fw,Fx,Fy,Fz,Ec,Ee,Ef,Eg,Eh,Ei,Ej,Ek,Em,En,Eo,Ep,Eu,Ev,Ex,Ey,Ez,Da,Db,Dc,Dd,Dg,Dh,Di,Dj,Dk,Dl,Dm,Dn,Do,Dp,Dq,Dt,Du,Dv,Dw,Dx,Dy,Dz,Pa,Pb,Pc,Pe,Pf,Pg,Ph,Pi,Pj,Pk,Pm,Pn,Po,Pq,Ps,Pt,Pu,Pv,Pw,Px,Py,Pz,Na,Nc,Nd,Nf,Ng,Nh,Ni,Nj,Nk,Nl,Nn,Np,Nq,Ns,Nt,Nu,Nv,Nw,Nx,Ny,Nz,Ba,Bc,Be,Bh,Bi,Bj,Bk,Bo,Bp,Bs,Bt,Bv,Bx,Mb,Mc,Md,Me,Mg,Mh,Mi,Mj,Mk,Mm,Mo,Mp,Mq,Mr,Mt,Mu,Mv,Mw,Mx,My,Mz,Ha,Hb,He,Hg,Hh,Hi,Hj,Hk,Hm,Ho,Hp,Hq,Hs,Ht,Hu,Hv,sGM,sGN,sGO,sGP,sGQ,sGR,sGS,sGT,sGU,sGV,sGW,sGX,sGY,sGZ,sHa,Vg,Vh,Vi,Vj,Vk,Vm,Vn,Vo,Vp,Vq,Vs,Vt,Vu,Vv,Vw,Vx,Vy,Vz,Za,Zc,Zd,Ze,Zf,Zg,Zh,Zi,Zj,Zk,Zl,Zm,Zo,Zp,Zq,Zt,Zu,Zw,Zx,Zy,Zz,u404,u405,u406,u407], []⟩ w') :
    Code.wp Tryd.prog (Cut.piece Tryd.f31 (Cut.loop 42)) Q ⟨#[u0,u1,u2,u3,(.slice oA n cA),u5,u6,u7,u8,u9,Ja,Jb,Jc,Jd,Je,Jf,Jg,Jh,Ji,Jj,Jk,Jl,(.slice oB n cB),(.int .i64 (0 : Int)),Jo,Jp,Jq,Jr,Js,Jt,Ju,Jv,Jw,Jx,Jy,Jz,Qa,Qb,Qc,Qd,Qe,Qf,Qg,Qh,Qi,Qj,Qk,Ql,Qm,Qn,Qo,Qp,Qq,Qr,Qs,Qt,Qu,Qv,Qw,Qx,Qy,Qz,Xe,Xg,Xh,Xi,Xj,Xk,Xn,Xo,Xp,Xq,Xt,Xu,Xv,Xx,Xy,Xz,Yg,Yh,Yi,Yj,Yk,Yl,Ym,Yn,Yo,Yp,Yq,Yr,Ys,Yt,Yu,Yv,Yw,Yx,Yy,Yz,Ua,Ub,Uc,Ud,Ue,Uf,Ug,Uh,Ui,Uj,Uk,Ul,Um,Un,Uo,Up,Uq,Ur,Us,Ut,Uu,Uv,Uw,Ux,Uy,Uz,Wc,Wd,We,Wf,Wg,Wh,Wi,Wj,Wk,Wl,Wm,Wn,Wo,Wp,Wq,Wt,Wu,Ww,Wx,Wy,Wz,Ka,Kb,Kc,Kd,Ke,Kf,Kg,Kh,Kj,Kl,Km,Kn,Ko,Kp,Kq,Kr,Kt,Ku,Kv,Kw,Kx,Ky,Kz,Rg,Rh,Ri,Rj,Rk,Rl,Rm,Rp,Rq,Rt,Ru,Rx,Ry,Rz,Gc,Ge,Gf,Gg,Gh,Gi,Gj,Gm,Gn,Gp,Gq,Gt,Gu,Gv,Gx,Gy,Gz,Fe,Ff,Fg,Fh,Fi,Fj,Fk,Fm,Fo,Fp,Fq,Fs,Ft,Fu,Fv,Fw,Fx,Fy,Fz,Ec,Ee,Ef,Eg,Eh,Ei,Ej,Ek,Em,En,Eo,Ep,Eu,Ev,Ex,Ey,Ez,Da,Db,Dc,Dd,Dg,Dh,Di,Dj,Dk,Dl,Dm,Dn,Do,Dp,Dq,Dt,Du,Dv,Dw,Dx,Dy,Dz,Pa,Pb,Pc,Pe,Pf,Pg,Ph,Pi,Pj,Pk,Pm,Pn,Po,Pq,Ps,Pt,Pu,Pv,Pw,Px,Py,Pz,Na,Nc,Nd,Nf,Ng,Nh,Ni,Nj,Nk,Nl,Nn,Np,Nq,Ns,Nt,Nu,Nv,Nw,Nx,Ny,Nz,Ba,Bc,Be,Bh,Bi,Bj,Bk,Bo,Bp,Bs,Bt,Bv,Bx,Mb,Mc,Md,Me,Mg,Mh,Mi,Mj,Mk,Mm,Mo,Mp,Mq,Mr,Mt,Mu,Mv,Mw,Mx,My,Mz,Ha,Hb,He,Hg,Hh,Hi,Hj,Hk,Hm,Ho,Hp,Hq,Hs,Ht,Hu,Hv,Hw,Hx,Hy,Tp,Tq,Ts,Tu,Tx,Tz,Va,Vb,Vc,Vd,Ve,Vf,Vg,Vh,Vi,Vj,Vk,Vm,Vn,Vo,Vp,Vq,Vs,Vt,Vu,Vv,Vw,Vx,Vy,Vz,Za,Zc,Zd,Ze,Zf,Zg,Zh,Zi,Zj,Zk,Zl,Zm,Zo,Zp,Zq,Zt,Zu,Zw,Zx,Zy,Zz,u404,u405,u406,u407], []⟩ w := by
  conv => arg 2; whnf
  refine wp_loop (Inv_ids_same_loop w0 oA oB cA cB n xs u0 u1 u2 u3 u5 u6 u7 u8 u9 Ja Jb Jc Jd Je Jf Jg Jh Ji Jj Jk Jl Jo Jp Jq Jr Js Jt Ju Jv Jw Jx Jy Jz Qa Qb Qc Qd Qe Qf Qg Qh Qi Qj Qk Ql Qm Qn Qo Qp Qq Qr Qs Qt Qu Qv Qw Qx Qy Qz Xe Xg Xh Xi Xj Xk Xn Xo Xp Xq Xt Xu Xv Xx Xy Xz Yg Yh Yi Yj Yk Yl Ym Yn Yo Yp Yq Yr Ys Yt Yu Yv Yw Yx Yy Yz Ua Ub Uc Ud Ue Uf Ug Uh Ui Uj Uk Ul Um Un Uo Up Uq Ur Us Ut Uu Uv Uw Ux Uy Uz Wc Wd We Wf Wg Wh Wi Wj Wk Wl Wm Wn Wo Wp Wq Wt Wu Ww Wx Wy Wz Ka Kb Kc Kd Ke Kf Kg Kh Kj Kl Km Kn Ko Kp Kq Kr Kt Ku Kv Kw Kx Ky Kz Rg Rh Ri Rj Rk Rl Rm Rp Rq Rt Ru Rx Ry Rz Gc Ge Gf Gg Gh Gi Gj Gm Gn Gp Gq Gt Gu Gv Gx Gy Gz Fe Ff Fg Fh Fi Fj Fk Fm Fo Fp Fq Fs Ft Fu Fv Fw Fx Fy Fz Ec Ee Ef Eg Eh Ei Ej Ek Em En Eo Ep Eu Ev Ex Ey Ez Da Db Dc Dd Dg Dh Di Dj Dk Dl Dm Dn Do Dp Dq Dt Du Dv Dw Dx Dy Dz Pa Pb Pc Pe Pf Pg Ph Pi Pj Pk Pm Pn Po Pq Ps Pt Pu Pv Pw Px Py Pz Na Nc Nd Nf Ng Nh Ni Nj Nk Nl Nn Np Nq Ns Nt Nu Nv Nw Nx Ny Nz Ba Bc Be Bh Bi Bj Bk Bo Bp Bs Bt Bv Bx Mb Mc Md Me Mg Mh Mi Mj Mk Mm Mo Mp Mq Mr Mt Mu Mv Mw Mx My Mz Ha Hb He Hg Hh Hi Hj Hk Hm Ho Hp Hq Hs Ht Hu Hv Vg Vh Vi Vj Vk Vm Vn Vo Vp Vq Vs Vt Vu Vv Vw Vx Vy Vz Za Zc Zd Ze Zf Zg Zh Zi Zj Zk Zl Zm Zo Zp Zq Zt Zu Zw Zx Zy Zz u404 u405 u406 u407) (mu_ids_same_loop (n)) ?_ (fun a' wr hI => ?_)
  · exact ⟨0, Hw, Hx, Hy, Tp, Tq, Ts, Tu, Tx, Tz, Va, Vb, Vc, Vd, Ve, Vf, Nat.zero_le _, h0, rfl⟩
  obtain ⟨i, sGM, sGN, sGO, sGP, sGQ, sGR, sGS, sGT, sGU, sGV, sGW, sGX, sGY, sGZ, sHa, hI⟩ := hI
  obtain ⟨hib, hR, rfl⟩ := hI
  clear h0
  obtain ⟨k, rfl⟩ := hR
  by_cases hil : i < n
  · obtain ⟨x, hx⟩ : ∃ x, xs[i]? = some x := ⟨_, List.getElem?_eq_getElem (by omega)⟩
    obtain ⟨gA, rfl, a1⟩ := hA i x hx
    obtain ⟨gB, rfl, b1⟩ := hB i x hx
    have a2 : ((w0.drewN k).drew).cell? ⟨gA, i, none⟩ = some (.int .i64 x) := a1
    have b2 : ((w0.drewN k).drew).cell? ⟨gB, i, none⟩ = some (.int .i64 x) := b1
    have g0 : decide ((i : Int) < (n : Int)) = true := by simpa using hil
    have j1 : (i : Int) < (n : Int) := by omega
    have j0 : (0 : Int) ≤ (i : Int) := by omega
    have c3 : IntKind.i64.wrap ((i : Int) + 1) = (i : Int) + 1 := IntWalk.i64_in _ (by omega)
    have A0 := Lib.hid hA
    have A1 := Lib.hid hB
    have A2 := Lib.hid hn
    clear hA hB hn hx a1 b1
    refine wp_seq_k (fun K1 hK1 => ?_)
    have E1 := Lib.hid hK1
    clear hK1
    go_wp2_with fail
    refine E1.out _ _ ?_
    clear E1
    refine wp_seq_k (fun K2 hK2 => ?_)
    have E2 := Lib.hid hK2
    clear hK2
    refine wp_block ?_
    refine wp_seq_k (fun K3 hK3 => ?_)
    have E3 := Lib.hid hK3
    clear hK3
    refine wp_region_noPanic ?_
    refine RegU.begin (S := fun wz => wz.cell? ⟨gA, i, none⟩ = some (.int .i64 x) ∧ wz.cell? ⟨gB, i, none⟩ = some (.int .i64 x)) (N := [1, 4, 5, 6, 7]) (by kernel_rfl) ?_ (fun hHeld => ?_)
    · exact ⟨a2, b2⟩
    refine RegU.tk [2, 3, 8] 0 ?_
    refine RegU.tk [2, 3, 8] 1 ?_
    refine RegU.tk [3, 8] 2 ?_
    refine RegU.tk [8] 3 ?_
    refine RegU.tk [6, 7, 8] 4 ?_
    refine RegU.tk [6, 7, 8] 5 ?_
    refine RegU.tk [7, 8] 6 ?_
    refine RegU.tk [8] 7 ?_
    refine RegU.tk [] 8 ?_
    refine RegU.rest [] [] (by kernel_rfl) rfl ?_
    clear hHeld a2 b2
    refine NoPanic.normal ?_
    refine E3.out _ _ ?_
    clear E3
    refine wp_cond_split rfl (fun hc => ?_) (fun _ => ?_)
    · cases hc
    go_wp2_with fail
    refine E2.out _ _ ?_
    go_wp2
    clear c3
    refine ⟨⟨i + 1, _, _, _, _, _, _, _, _, _, _, _, _, _, _, _, by omega, ⟨k + 1, rfl⟩, rfl⟩, ?_⟩
    simp [mu_ids_same_loop, intOf]
    omega
  · have hie : i = n := by omega
    subst hie
    have g0 : decide ((i : Int) < (i : Int)) = false := by simp
    clear hA hB
    go_wp2
    exact ⟨k, rfl⟩

end Go.Proofs.YthbkklnahhdgcaaDoor.PlSi

namespace Go.Proofs.YthbkklnahhdgcaaDoor.PlSj
open Go Go.Proofs Go.RowKit Go.Maps Go.Proofs.YthbkklnahhdgcaaDoor.Lib HeapR HeapB HeapC HeapD HeapG HeapH ErrC ChA ChT ChCa ChCc ChE ChH ChI ChL ChN ChO ChW ChZ PlA PlT PlZ PlX PlYa PlU PlG PlGa PlI PlJ PlP PlSa PlSi

theorem tells_end {Q : Exit → Act → World → Prop} {u1 u2 u5 u6 u7 u8 u9 Ja Jb Jc Jd Je Jf Jg Jh Ji Jj Jk Jl Jm Jn Jo Jp Jq Jr Js Jt Ju Jv Jw Jx Jy Jz Qa Qb Qc Qd Qe Qf Qg Qh Qi Qj Qk Ql Qm Qn Qo Qp Qq Qr Qs Qt Qu Qv Qw Qx Qy Qz Xe Xg Xh Xi Xj Xk Xn Xo Xp Xq Xt Xu Xv Xx Xy Xz Yg Yh Yi Yj Yk Yl Ym Yn Yo Yp Yq Yr Ys Yt Yu Yv Yw Yx Yy Yz Ua Ub Uc Ud Ue Uf Ug Uh Ui Uj Uk Ul Um Un Uo Up Uq Ur Us Ut Uu Uv Uw Ux Uy Uz Wc Wd We Wf Wg Wh Wi Wj Wk Wl Wm Wn Wo Wp Wq Wt Wu Ww Wx Wy Wz Ka Kb Kc Kd Ke Kf Kg Kh Kj Kl Km Kn Ko Kp Kq Kr Kt Ku Kv Kw Kx Ky Kz Rg Rh Ri Rj Rk Rl Rm Rp Rq Rt Ru Rx Ry Rz Gc Ge Gf Gg Gh Gi Gj Gm Gn Gp Gq Gt Gu Gv Gx Gy Gz Fe Ff Fg Fh Fi Fj Fk Fm Fo Fp Fq Fs Ft Fu Fv Fw Fx Fy Fz Ec Ee Ef Eg Eh Ei Ej Ek Em En Eo Ep Eu Ev Ex Ey Ez Da Db Dc Dd Dg Dh Di Dj Dk Dl Dm Dn Do Dp Dq Dt Du Dv Dw Dx Dy Dz Pa Pb Pc Pe Pf Pg Ph Pi Pj Pk Pm Pn Po Pq Ps Pt Pu Pv Pw Px Py Pz Na Nc Nd Nf Ng Nh Ni Nj Nk Nl Nn Np Nq Ns Nt Nu Nv Nw Nx Ny Nz Ba Bc Be Bh Bi Bj Bk Bo Bp Bs Bt Bv Bx Mb Mc Md Me Mg Mh Mi Mj Mk Mm Mo Mp Mq Mr Mt Mu Mv Mw Mx My Mz Ha Hb He Hg Hh Hi Hj Hk Hm Ho Hp Hq Hs Ht Hu Hv Hw Hx Hy Tp Tq Ts Tu Tx Tz Va Vb Vc Vd Ve Vf Vg Vh Vi Vj Vk Vm Vn Vo Vp Vq Vs Vt Vu Vv Vw Vx Vy Vz Za Zc Zd Ze Zf Zg Zh Zi Zj Zk Zl Zm Zo Zp Zq Zt Zu Zw Zx Zy Zz u404 u405 u406 u407 : Value} (w1 : World) (O : Nat → Nat) (B : Nat) (V : Zv) (H : HS) (nu ol : List Ob) (T : List Th) (Z : Zn) (loc : Nat → Ob) (oA : Option Addr) (n cA B0 : Nat) (last : Int) (hla : last = (H.next : Int))
    (h : ZR w1 O B V H T Z) (hz : ZI H nu ol T Z loc) (hTl : T.length ≤ 1000) (hn : n = (idsTo T T.length).length) (hrow : w1.ownsRow B0 3 1 (.slice oA n cA) n ((idsTo T T.length).map (Value.int .i64)))
    (hQ : ∀ (a' : Act) (w' : World), a'.tmps.getD 2 undef = .bool true → a'.defers = [] → Below w1.heap.size w1 w' → Q .ret a' w') :
    Code.wp Tryd.prog (Cut.piece Tryd.f31 (Cut.since 36)) Q ⟨#[(.pointer (some ⟨V.zb,0,none⟩)),u1,u2,(.int .i64 last),(.slice oA n cA),u5,u6,u7,u8,u9,Ja,Jb,Jc,Jd,Je,Jf,Jg,Jh,Ji,Jj,Jk,Jl,Jm,Jn,Jo,Jp,Jq,Jr,Js,Jt,Ju,Jv,Jw,Jx,Jy,Jz,Qa,Qb,Qc,Qd,Qe,Qf,Qg,Qh,Qi,Qj,Qk,Ql,Qm,Qn,Qo,Qp,Qq,Qr,Qs,Qt,Qu,Qv,Qw,Qx,Qy,Qz,Xe,Xg,Xh,Xi,Xj,Xk,Xn,Xo,Xp,Xq,Xt,Xu,Xv,Xx,Xy,Xz,Yg,Yh,Yi,Yj,Yk,Yl,Ym,Yn,Yo,Yp,Yq,Yr,Ys,Yt,Yu,Yv,Yw,Yx,Yy,Yz,Ua,Ub,Uc,Ud,Ue,Uf,Ug,Uh,Ui,Uj,Uk,Ul,Um,Un,Uo,Up,Uq,Ur,Us,Ut,Uu,Uv,Uw,Ux,Uy,Uz,Wc,Wd,We,Wf,Wg,Wh,Wi,Wj,Wk,Wl,Wm,Wn,Wo,Wp,Wq,Wt,Wu,Ww,Wx,Wy,Wz,Ka,Kb,Kc,Kd,Ke,Kf,Kg,Kh,Kj,Kl,Km,Kn,Ko,Kp,Kq,Kr,Kt,Ku,Kv,Kw,Kx,Ky,Kz,Rg,Rh,Ri,Rj,Rk,Rl,Rm,Rp,Rq,Rt,Ru,Rx,Ry,Rz,Gc,Ge,Gf,Gg,Gh,Gi,Gj,Gm,Gn,Gp,Gq,Gt,Gu,Gv,Gx,Gy,Gz,Fe,Ff,Fg,Fh,Fi,Fj,Fk,Fm,Fo,Fp,Fq,Fs,Ft,Fu,Fv,Fw,Fx,Fy,Fz,Ec,Ee,Ef,Eg,Eh,Ei,Ej,Ek,Em,En,Eo,Ep,Eu,Ev,Ex,Ey,Ez,Da,Db,Dc,Dd,Dg,Dh,Di,Dj,Dk,Dl,Dm,Dn,Do,Dp,Dq,Dt,Du,Dv,Dw,Dx,Dy,Dz,Pa,Pb,Pc,Pe,Pf,Pg,Ph,Pi,Pj,Pk,Pm,Pn,Po,Pq,Ps,Pt,Pu,Pv,Pw,Px,Py,Pz,Na,Nc,Nd,Nf,Ng,Nh,Ni,Nj,Nk,Nl,Nn,Np,Nq,Ns,Nt,Nu,Nv,Nw,Nx,Ny,Nz,Ba,Bc,Be,Bh,Bi,Bj,Bk,Bo,Bp,Bs,Bt,Bv,Bx,Mb,Mc,Md,Me,Mg,Mh,Mi,Mj,Mk,Mm,Mo,Mp,Mq,Mr,Mt,Mu,Mv,Mw,Mx,My,Mz,Ha,Hb,He,Hg,Hh,Hi,Hj,Hk,Hm,Ho,Hp,Hq,Hs,Ht,Hu,Hv,Hw,Hx,Hy,Tp,Tq,Ts,Tu,Tx,Tz,Va,Vb,Vc,Vd,Ve,Vf,Vg,Vh,Vi,Vj,Vk,Vm,Vn,Vo,Vp,Vq,Vs,Vt,Vu,Vv,Vw,Vx,Vy,Vz,Za,Zc,Zd,Ze,Zf,Zg,Zh,Zi,Zj,Zk,Zl,Zm,Zo,Zp,Zq,Zt,Zu,Zw,Zx,Zy,Zz,u404,u405,u406,u407], []⟩ w1 := by
  subst hla
  conv => arg 2; whnf
  have hnx : H.next ≤ 1000 := by
    rw [hz.next]
    have := List.countP_le_length (p := ided) (l := T)
    omega
  have huse := use_any h.hr
  have e7 : Z.top = (H.top : Int) := by rw [hz.top, hz.hi.top]
  have e8 : Z.old = (H.old.length : Int) := by rw [hz.old, hz.hi.olen]
  have z0 : w1.cell? ⟨V.zb, 0, none⟩ = some (.pointer (some ⟨V.hb, 0, none⟩)) := h.cz rfl
  have z7 : w1.cell? ⟨V.zb, 7, none⟩ = some (.int .i64 (H.top : Int)) := (h.cz (v := .int .i64 Z.top) rfl).trans (by rw [e7])
  have z8 : w1.cell? ⟨V.zb, 8, none⟩ = some (.int .i64 (H.old.length : Int)) := (h.cz (v := .int .i64 Z.old) rfl).trans (by rw [e8])
  have z9 : w1.cell? ⟨V.zb, 9, none⟩ = some (.int .i64 (H.minors : Int)) := (h.cz (v := .int .i64 Z.minors) rfl).trans (by rw [hz.minors])
  have z10 : w1.cell? ⟨V.zb, 10, none⟩ = some (.int .i64 (H.majors : Int)) := (h.cz (v := .int .i64 Z.majors) rfl).trans (by rw [hz.majors])
  have c1 : IntKind.i64.wrap ((H.next : Int) + 1) = (H.next : Int) + 1 := IntWalk.i64_in _ (by omega)
  have hat : ∀ wz : World, Below w1.heap.size w1 wz → Calls Tryd.prog 74 #[.pointer (some ⟨V.hb, 0, none⟩), .int .i64 ((H.next : Int) + 1)] wz fun e w' => ∃ c : Int, e = .returned (.tuple #[.int .i64 c, .bool false]) ∧ w' = wz := fun wz hb => (at_any (h.below hb).hr hz.hi ((H.next : Int) + 1) (lit_wf _ (by omega) (by omega))).mono fun e w' ⟨h1, c, b, h2, h3, _⟩ => by
    have hbf : b = false := by
      cases hb : b with
      | false => rfl
      | true =>
        obtain ⟨_, o, ho, e3⟩ := h3.1 hb
        have := (hz.hi.ids o ho).2
        omega
    exact ⟨c, by rw [h2, hbf], h1⟩
  have hids : ∀ wz : World, Below w1.heap.size w1 wz → Calls Tryd.prog 77 #[.pointer (some ⟨V.hb, 0, none⟩)] wz fun e w' => ∃ (oB : Option Addr) (cB : Nat), e = .returned (.slice oB n cB) ∧ w'.ownsRow wz.heap.size 3 1 (.slice oB n cB) n ((idsTo T T.length).map (Value.int .i64)) ∧ Below wz.heap.size wz w' := fun wz hb => (ids_any (h.below hb).hr (by unfold big; omega)).mono fun e w' ⟨⟨xs, v, h1, h2, h3, h4, _, h5⟩, h6⟩ => by
    have e3 := ids_same hz h2 h3 h4
    subst e3
    obtain ⟨oB, cB, e4⟩ := row_form h5
    rw [← hn] at e4 h5
    subst e4
    exact ⟨oB, cB, h1, h5, h6⟩
  have hlast : ∀ wz : World, Below w1.heap.size w1 wz → Calls Tryd.prog 78 #[.pointer (some ⟨V.hb, 0, none⟩)] wz fun e w' => e = .returned (.int .i64 (H.next : Int)) ∧ w' = wz := fun wz hb => last_any (h.below hb).hr
  have hcs : ∀ wz : World, Below w1.heap.size w1 wz → wz.cell? ⟨V.zb, 0, none⟩ = some (.pointer (some ⟨V.hb, 0, none⟩)) ∧ wz.cell? ⟨V.zb, 7, none⟩ = some (.int .i64 (H.top : Int)) ∧ wz.cell? ⟨V.zb, 8, none⟩ = some (.int .i64 (H.old.length : Int)) ∧ wz.cell? ⟨V.zb, 9, none⟩ = some (.int .i64 (H.minors : Int)) ∧ wz.cell? ⟨V.zb, 10, none⟩ = some (.int .i64 (H.majors : Int)) := fun wz hb => ⟨(hb.cell (World.block_lt_of_cell? w1 _ z0)).trans z0, (hb.cell (World.block_lt_of_cell? w1 _ z7)).trans z7, (hb.cell (World.block_lt_of_cell? w1 _ z8)).trans z8, (hb.cell (World.block_lt_of_cell? w1 _ z9)).trans z9, (hb.cell (World.block_lt_of_cell? w1 _ z10)).trans z10⟩
  have hpos : 0 < w1.heap.size := Nat.lt_of_le_of_lt (Nat.zero_le _) h.zlt
  have hnb := idsTo_length T T.length
  rw [← hn] at hnb
  have A0 := Lib.hid hat
  have A1 := Lib.hid hids
  have A2 := Lib.hid hlast
  have A3 := Lib.hid hcs
  have A4 := Lib.hid hrow
  have A5 := Lib.hid hQ
  have A6 := Lib.hid hn
  clear hat hids hlast hcs hrow hQ hn h hz e7 e8 z7 z8 z9 z10
  refine wp_seq_k (fun K1 hK1 => ?_)
  have E1 := Lib.hid hK1
  clear hK1
  go_wp2_with fail
  refine huse.mono ?_
  rintro e w2 ⟨rfl, k, rfl⟩
  dsimp only
  clear huse z0
  have B1 := Lib.hid (show Below w1.heap.size w1 (w1.drewN k) from below_drewN (Below.refl _ _) k)
  obtain ⟨z0, z7, z8, z9, z10⟩ := A3.out _ B1.out
  go_wp2_with fail
  refine E1.out _ _ ?_
  clear E1
  refine wp_seq_k (fun K2 hK2 => ?_)
  have E2 := Lib.hid hK2
  clear hK2
  go_wp2_with fail
  refine (A0.out _ B1.out).mono ?_
  rintro e w2 ⟨c, rfl, rfl⟩
  dsimp only
  go_wp2_with fail
  refine E2.out _ _ ?_
  clear E2
  refine wp_seq_k (fun K3 hK3 => ?_)
  have E3 := Lib.hid hK3
  clear hK3
  go_wp2_with fail
  refine (A1.out _ B1.out).mono ?_
  rintro e w3 ⟨oB, cB, rfl, hrB, hb3⟩
  dsimp only
  have B2 := Lib.hid (B1.out.trans (hb3.mono B1.out.size))
  have B3 := Lib.hid hrB
  have B4 := Lib.hid (ownsRow_same A4.out (fun j hj => B2.out.block j (own_lt A4.out hj).2))
  clear z0 z7 z8 z9 z10 hb3 hrB
  obtain ⟨z0, z7, z8, z9, z10⟩ := A3.out _ B2.out
  go_wp2_with fail
  refine E3.out _ _ ?_
  clear E3
  refine wp_seq_k (fun K4 hK4 => ?_)
  have E4 := Lib.hid hK4
  clear hK4
  go_wp2_with fail
  refine E4.out _ _ ?_
  clear E4
  refine wp_seq_k (fun K5 hK5 => ?_)
  have E5 := Lib.hid hK5
  clear hK5
  go_wp2_with fail
  refine ids_same_loop w3 oA oB cA cB n (idsTo T T.length) w3 A6.out.symm (by omega) (fun i x hx => ?_) (fun i x hx => ?_) ⟨0, rfl⟩ ?_
  · have hi := (List.getElem?_eq_some_iff.1 hx).1
    have h2 := B4.out
    obtain ⟨g, o', c', e1, e2, _⟩ := slot h2 (Nat.lt_of_lt_of_le hpos B2.out.size)
    injection e1 with e3 e4 e5
    have e6 := e2 (by rw [A6.out]; omega)
    rw [← e3] at e6
    rw [e6] at h2
    refine ⟨g, e6, ?_⟩
    rw [h2.cellAt i (by rw [A6.out]; omega), List.getElem?_map, hx]
    rfl
  · have hi := (List.getElem?_eq_some_iff.1 hx).1
    have h2 := B3.out
    obtain ⟨g, o', c', e1, e2, _⟩ := slot h2 (Nat.lt_of_lt_of_le hpos B2.out.size)
    injection e1 with e3 e4 e5
    have e6 := e2 (by rw [A6.out]; omega)
    rw [← e3] at e6
    rw [e6] at h2
    refine ⟨g, e6, ?_⟩
    rw [h2.cellAt i (by rw [A6.out]; omega), List.getElem?_map, hx]
    rfl
  intro _ _ _ _ _ _ _ _ _ _ _ _ _ _ _ w4 hw4
  obtain ⟨k4, rfl⟩ := hw4
  refine E5.out _ _ ?_
  clear E5 z0 z7 z8 z9 z10
  have B5 := Lib.hid (below_drewN B2.out k4)
  obtain ⟨z0, z7, z8, z9, z10⟩ := A3.out _ B5.out
  generalize w3.drewN k4 = w5 at *
  go_wp2_with fail
  refine (A2.out _ B5.out).mono ?_
  rintro e w6 ⟨rfl, rfl⟩
  dsimp only
  go_wp2_with fail
  exact A5.out _ _ rfl rfl B5.out
end Go.Proofs.YthbkklnahhdgcaaDoor.PlSj
