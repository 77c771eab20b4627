/-
  HeapPlays' collects: what was kept is looked up.
-/
import Derived.Test.YthbkklnahhdgcaaDoorPG00
import Derived.Test.YthbkklnahhdgcaaDoorPG19
import Derived.Test.YthbkklnahhdgcaaDoorPG08
import Derived.Test.YthbkklnahhdgcaaDoorPG17
set_option maxRecDepth 100000
set_option maxHeartbeats 4000000
namespace Go.Proofs.YthbkklnahhdgcaaDoor.PlK
open Go Go.Proofs Go.RowKit Go.Maps Go.Proofs.YthbkklnahhdgcaaDoor.Lib HeapR HeapB HeapC HeapD HeapG HeapH ErrC ChA ChT ChCa ChCc ChE ChH ChI ChJ ChK ChL ChN ChO ChP ChQ ChR ChU ChV ChW ChX ChYf ChZ PlA PlT PlZ PlX PlYa PlU PlQ PlL PlLa PlLb PlLc PlLd PlE PlEa PlEb PlF PlFa PlFb PlFc PlFd PlG PlGa PlGb

/-- What the loop leans on. -/
structure LX (w1 : World) (B n0 : Nat) (V : Zv) (H' : HS) (T T1 : List Th) (Z : Zn) (loc : Nat → Ob) (s : List Int) (L : List Nat) (zx lv mb gT cT gE cE gW cW gK cK gH : Nat) (ol' : List Ob) : Prop where
  x : w1.cell? ⟨zx, 0, none⟩ = some (.pointer (some ⟨V.zb, 0, none⟩))
  l : w1.cell? ⟨lv, 0, none⟩ = some (.map (some mb))
  m : Sh w1 mb s
  held : w1.heap[gH]? = some (.cells (heldRow T.length L).toArray 4 (0, 0))
  v1' : ∃ o, V.tv = .slice o T.length cT ∧ (0 < T.length → o = some ⟨gT, 0, none⟩)
  v2' : ∃ o, V.wv = .slice o T.length cW ∧ (0 < T.length → o = some ⟨gW, 0, none⟩)
  v3' : ∃ o, V.ev = .slice o T.length cE ∧ (0 < T.length → o = some ⟨gE, 0, none⟩)
  v4' : ∃ o, V.kv = .slice o T.length cK ∧ (0 < T.length → o = some ⟨gK, 0, none⟩)
  nx : n0 ≤ zx
  nl : n0 ≤ lv
  nm : n0 ≤ mb
  nh : n0 ≤ gH
  nE : gE < n0
  nW : gW < n0
  nK : gK < n0
  nb : V.zb < n0
  nt : ∀ (i : Nat) (t : Th), T1[i]? = some t → t.b < n0
  tl : T.length ≤ 1000
  ids : ∀ t ∈ T, 0 ≤ t.id ∧ t.id ≤ 1001
  heldA : ∀ (i : Nat) (t t1 : Th), T[i]? = some t → T1[i]? = some t1 → i ∈ L → Aft loc s i t (setOld (setHere t1 (t1.here && decide ((i : Int) ∈ s))) (t1.here && decide ((i : Int) ∈ s)))
  freeA : ∀ (i : Nat) (t t1 : Th) (kn : Bool) (a : Int), T[i]? = some t → T1[i]? = some t1 → i ∉ L → (kn = true → (t1.here && decide ((i : Int) ∈ s)) = true ∧ a = ((loc i).addr : Int)) → Aft loc s i t (setKnown (setWv (setOld (setHere t1 (t1.here && decide ((i : Int) ∈ s))) (t1.here && decide ((i : Int) ∈ s))) ⟨4, a, ByteArray.empty⟩) kn)
  t1 : ∀ (i : Nat) (t : Th), T[i]? = some t → ∃ t1, T1[i]? = some t1 ∧ t1.id = t.id
  says : ∀ (i : Nat) (t1 : Th) (b : Bool) (c : Int), T1[i]? = some t1 → 0 < t1.id → (b = true ↔ t1.id ≠ 0 ∧ ∃ o ∈ [] ++ ol', o.id = t1.id) → (b = true → ∃ o ∈ [] ++ ol', o.id = t1.id ∧ c = (o.addr : Int)) → b = (t1.here && decide ((i : Int) ∈ s)) ∧ (b = true → c = ((loc i).addr : Int))

section
variable {w1 : World} {B n0 : Nat} {V : Zv} {H' : HS} {T T1 : List Th} {Z : Zn} {loc : Nat → Ob} {s : List Int} {L : List Nat} {zx lv mb gT cT gE cE gW cW gK cK gH : Nat} {ol' : List Ob}
theorem LX.v1 (h : LX w1 B n0 V H' T T1 Z loc s L zx lv mb gT cT gE cE gW cW gK cK gH ol') (h0 : 0 < T.length) : V.tv = .slice (some ⟨gT, 0, none⟩) T.length cT := by
  obtain ⟨o, e, h1⟩ := h.v1'
  rw [e, h1 h0]
theorem LX.v2 (h : LX w1 B n0 V H' T T1 Z loc s L zx lv mb gT cT gE cE gW cW gK cK gH ol') (h0 : 0 < T.length) : V.wv = .slice (some ⟨gW, 0, none⟩) T.length cW := by
  obtain ⟨o, e, h1⟩ := h.v2'
  rw [e, h1 h0]
theorem LX.v3 (h : LX w1 B n0 V H' T T1 Z loc s L zx lv mb gT cT gE cE gW cW gK cK gH ol') (h0 : 0 < T.length) : V.ev = .slice (some ⟨gE, 0, none⟩) T.length cE := by
  obtain ⟨o, e, h1⟩ := h.v3'
  rw [e, h1 h0]
theorem LX.v4 (h : LX w1 B n0 V H' T T1 Z loc s L zx lv mb gT cT gE cE gW cW gK cK gH ol') (h0 : 0 < T.length) : V.kv = .slice (some ⟨gK, 0, none⟩) T.length cK := by
  obtain ⟨o, e, h1⟩ := h.v4'
  rw [e, h1 h0]
end

def Inv_last_loop (w1 : World) (B n0 : Nat) (V : Zv) (H' : HS) (T T1 : List Th) (Z : Zn) (loc : Nat → Ob) (s : List Int) (_L : List Nat) (zx lv _mb _gT _cT _gE _cE _gW _cW _gK _cK gH cH : Nat) (_ol' : List Ob) (u0 u1 u3 u4 u5 u6 u8 u9 Ja Jc Jd Ji Jj Jk Jl Jm Jn Jo Jp Jq Jr Js Jt Ju Jv Jw Jx Jy Jz Qa Qb Qc Qd Qe Qf Qg Qh Qi Qj Qk Ql Qm Qn Qo Qp Qq Qr Qs Qt Qu Qv Qw Qx Qy Qz Xe Xg Xh Xi Xj Xk Xn Xo Xp Xq Xt Xu Xv Xx Xy Xz Yg Yh Yi Yj Yk Yl Ym Yn Yo Yp Yq Yr Ys Yt Yu Yv Yw Yx Yy Yz Ua Ub Uc Ud Ue Uf Ug Uh Ui Uj Uk Ul Um Un Uo Up Uq Ur Us Ut Uu Uv Uw Ux Uy Uz Wc Wd We Wf Wg Wh Wi Wj Wk Wl Wm Wn Wo Wp Wq Wt Wu Ww Wx Wy Wz Ka Kb Kc Kd Ke Kf Kg Kh Kj Kl Km Kn Ko Kp Kq Kr Kt Ku Kv Kw Kx Ky Kz Pt Pu Pv Pw Px Py Pz Na : Value) (a : Act) (wr : World) : Prop :=
  ∃ (i : Nat) (s15 s16 s17 sDm sDn sDo sDp sDq sDr sDs sDt sDu sDv sDw sDx sDy sDz sDA sDB sDC sDD sDE sDF sDG sDH sDI sDJ sDK sDL sDM sDN sDO sDP sDQ sDR sDS sDT sDU sDV sDW sDX sDY sDZ sEa sEb sEc sEd sEe sEf sEg sEh sEi sEj sEk sEl sEm sEn sEo sEp sEq sEr sEs sEt sEu sEv sEw sEx sEy sEz sEA sEB sEC sED sEE sEF sEG sEH sEI sEJ sEK sEL sEM sEN sEO sEP sEQ sER sES sET sEU sEV sEW sEX sEY sEZ sFa sFb sFc sFd sFe sFf sFg sFh sFi sFj sFk sFl : Value), i ≤ T.length ∧ (RZ w1 B n0 V H' T T1 Z loc s i wr) ∧ a = ⟨#[u0,u1,(.pointer (some ⟨zx,0,none⟩)),u3,u4,u5,u6,(.slice (some ⟨gH,0,none⟩) T.length cH),u8,u9,Ja,(.pointer (some ⟨lv,0,none⟩)),Jc,Jd,(.int .i64 (i : Int)),s15,s16,s17,Ji,Jj,Jk,Jl,Jm,Jn,Jo,Jp,Jq,Jr,Js,Jt,Ju,Jv,Jw,Jx,Jy,Jz,Qa,Qb,Qc,Qd,Qe,Qf,Qg,Qh,Qi,Qj,Qk,Ql,Qm,Qn,Qo,Qp,Qq,Qr,Qs,Qt,Qu,Qv,Qw,Qx,Qy,Qz,Xe,Xg,Xh,Xi,Xj,Xk,Xn,Xo,Xp,Xq,Xt,Xu,Xv,Xx,Xy,Xz,Yg,Yh,Yi,Yj,Yk,Yl,Ym,Yn,Yo,Yp,Yq,Yr,Ys,Yt,Yu,Yv,Yw,Yx,Yy,Yz,Ua,Ub,Uc,Ud,Ue,Uf,Ug,Uh,Ui,Uj,Uk,Ul,Um,Un,Uo,Up,Uq,Ur,Us,Ut,Uu,Uv,Uw,Ux,Uy,Uz,Wc,Wd,We,Wf,Wg,Wh,Wi,Wj,Wk,Wl,Wm,Wn,Wo,Wp,Wq,Wt,Wu,Ww,Wx,Wy,Wz,Ka,Kb,Kc,Kd,Ke,Kf,Kg,Kh,Kj,Kl,Km,Kn,Ko,Kp,Kq,Kr,Kt,Ku,Kv,Kw,Kx,Ky,Kz,sDm,sDn,sDo,sDp,sDq,sDr,sDs,sDt,sDu,sDv,sDw,sDx,sDy,sDz,sDA,sDB,sDC,sDD,sDE,sDF,sDG,sDH,sDI,sDJ,sDK,sDL,sDM,sDN,sDO,sDP,sDQ,sDR,sDS,sDT,sDU,sDV,sDW,sDX,sDY,sDZ,sEa,sEb,sEc,sEd,sEe,sEf,sEg,sEh,sEi,sEj,sEk,sEl,sEm,sEn,sEo,sEp,sEq,sEr,sEs,sEt,sEu,sEv,sEw,sEx,sEy,sEz,sEA,sEB,sEC,sED,sEE,sEF,sEG,sEH,sEI,sEJ,sEK,sEL,sEM,sEN,sEO,sEP,sEQ,sER,sES,sET,sEU,sEV,sEW,sEX,sEY,sEZ,sFa,sFb,sFc,sFd,sFe,sFf,sFg,sFh,sFi,sFj,sFk,sFl,Pt,Pu,Pv,Pw,Px,Py,Pz,Na], []⟩
def mu_last_loop (n : Nat) (a : Act) (_ : World) : Nat := n - (intOf (a.tmps.getD 14 undef)).toNat

theorem last_loop {Q : Exit → Act → World → Prop} {u0 u1 u3 u4 u5 u6 u8 u9 Ja Jc Jd Jf Jg Jh Ji Jj Jk Jl Jm Jn Jo Jp Jq Jr Js Jt Ju Jv Jw Jx Jy Jz Qa Qb Qc Qd Qe Qf Qg Qh Qi Qj Qk Ql Qm Qn Qo Qp Qq Qr Qs Qt Qu Qv Qw Qx Qy Qz Xe Xg Xh Xi Xj Xk Xn Xo Xp Xq Xt Xu Xv Xx Xy Xz Yg Yh Yi Yj Yk Yl Ym Yn Yo Yp Yq Yr Ys Yt Yu Yv Yw Yx Yy Yz Ua Ub Uc Ud Ue Uf Ug Uh Ui Uj Uk Ul Um Un Uo Up Uq Ur Us Ut Uu Uv Uw Ux Uy Uz Wc Wd We Wf Wg Wh Wi Wj Wk Wl Wm Wn Wo Wp Wq Wt Wu Ww Wx Wy Wz Ka Kb Kc Kd Ke Kf Kg Kh Kj Kl Km Kn Ko Kp Kq Kr Kt Ku Kv Kw Kx Ky Kz Rg Rh Ri Rj Rk Rl Rm Rp Rq Rt Ru Rx Ry Rz Gc Ge Gf Gg Gh Gi Gj Gm Gn Gp Gq Gt Gu Gv Gx Gy Gz Fe Ff Fg Fh Fi Fj Fk Fm Fo Fp Fq Fs Ft Fu Fv Fw Fx Fy Fz Ec Ee Ef Eg Eh Ei Ej Ek Em En Eo Ep Eu Ev Ex Ey Ez Da Db Dc Dd Dg Dh Di Dj Dk Dl Dm Dn Do Dp Dq Dt Du Dv Dw Dx Dy Dz Pa Pb Pc Pe Pf Pg Ph Pi Pj Pk Pm Pn Po Pq Ps Pt Pu Pv Pw Px Py Pz Na : Value} (w1 : World) (B n0 : Nat) (V : Zv) (H' : HS) (T T1 : List Th) (Z : Zn) (loc : Nat → Ob) (s : List Int) (L : List Nat) (zx lv mb gT cT gE cE gW cW gK cK gH cH : Nat) (ol' : List Ob) (w : World) (hx : LX w1 B n0 V H' T T1 Z loc s L zx lv mb gT cT gE cE gW cW gK cK gH ol') (hi : HI H' [] ol')
    (h0 : RZ w1 B n0 V H' T T1 Z loc s 0 w)
    (hQ : ∀ (s15 s16 s17 sDm sDn sDo sDp sDq sDr sDs sDt sDu sDv sDw sDx sDy sDz sDA sDB sDC sDD sDE sDF sDG sDH sDI sDJ sDK sDL sDM sDN sDO sDP sDQ sDR sDS sDT sDU sDV sDW sDX sDY sDZ sEa sEb sEc sEd sEe sEf sEg sEh sEi sEj sEk sEl sEm sEn sEo sEp sEq sEr sEs sEt sEu sEv sEw sEx sEy sEz sEA sEB sEC sED sEE sEF sEG sEH sEI sEJ sEK sEL sEM sEN sEO sEP sEQ sER sES sET sEU sEV sEW sEX sEY sEZ sFa sFb sFc sFd sFe sFf sFg sFh sFi sFj sFk sFl : Value) (w' : World), (RZ w1 B n0 V H' T T1 Z loc s T.length w') → Q (.exit 4) ⟨#[u0,u1,(.pointer (some ⟨zx,0,none⟩)),u3,u4,u5,u6,(.slice (some ⟨gH,0,none⟩) T.length cH),u8,u9,Ja,(.pointer (some ⟨lv,0,none⟩)),Jc,Jd,(.int .i64 (T.length : Int)),s15,s16,s17,Ji,Jj,Jk,Jl,Jm,Jn,Jo,Jp,Jq,Jr,Js,Jt,Ju,Jv,Jw,Jx,Jy,Jz,Qa,Qb,Qc,Qd,Qe,Qf,Qg,Qh,Qi,Qj,Qk,Ql,Qm,Qn,Qo,Qp,Qq,Qr,Qs,Qt,Qu,Qv,Qw,Qx,Qy,Qz,Xe,Xg,Xh,Xi,Xj,Xk,Xn,Xo,Xp,Xq,Xt,Xu,Xv,Xx,Xy,Xz,Yg,Yh,Yi,Yj,Yk,Yl,Ym,Yn,Yo,Yp,Yq,Yr,Ys,Yt,Yu,Yv,Yw,Yx,Yy,Yz,Ua,Ub,Uc,Ud,Ue,Uf,Ug,Uh,Ui,Uj,Uk,Ul,Um,Un,Uo,Up,Uq,Ur,Us,Ut,Uu,Uv,Uw,Ux,Uy,Uz,Wc,Wd,We,Wf,Wg,Wh,Wi,Wj,Wk,Wl,Wm,Wn,Wo,Wp,Wq,Wt,Wu,Ww,Wx,Wy,Wz,Ka,Kb,Kc,Kd,Ke,Kf,Kg,Kh,Kj,Kl,Km,Kn,Ko,Kp,Kq,Kr,Kt,Ku,Kv,Kw,Kx,Ky,Kz,sDm,sDn,sDo,sDp,sDq,sDr,sDs,sDt,sDu,sDv,sDw,sDx,sDy,sDz,sDA,sDB,sDC,sDD,sDE,sDF,sDG,sDH,sDI,sDJ,sDK,sDL,sDM,sDN,sDO,sDP,sDQ,sDR,sDS,sDT,sDU,sDV,sDW,sDX,sDY,sDZ,sEa,sEb,sEc,sEd,sEe,sEf,sEg,sEh,sEi,sEj,sEk,sEl,sEm,sEn,sEo,sEp,sEq,sEr,sEs,sEt,sEu,sEv,sEw,sEx,sEy,sEz,sEA,sEB,sEC,sED,sEE,sEF,sEG,sEH,sEI,sEJ,sEK,sEL,sEM,sEN,sEO,sEP,sEQ,sER,sES,sET,sEU,sEV,sEW,sEX,sEY,sEZ,sFa,sFb,sFc,sFd,sFe,sFf,sFg,sFh,sFi,sFj,sFk,sFl,Pt,Pu,Pv,Pw,Px,Py,Pz,Na], []⟩ w') :
    Code.wp Tryd.prog (Cut.piece Tryd.f73 (Cut.loop 31)) Q ⟨#[u0,u1,(.pointer (some ⟨zx,0,none⟩)),u3,u4,u5,u6,(.slice (some ⟨gH,0,none⟩) T.length cH),u8,u9,Ja,(.pointer (some ⟨lv,0,none⟩)),Jc,Jd,(.int .i64 (0 : Int)),Jf,Jg,Jh,Ji,Jj,Jk,Jl,Jm,Jn,Jo,Jp,Jq,Jr,Js,Jt,Ju,Jv,Jw,Jx,Jy,Jz,Qa,Qb,Qc,Qd,Qe,Qf,Qg,Qh,Qi,Qj,Qk,Ql,Qm,Qn,Qo,Qp,Qq,Qr,Qs,Qt,Qu,Qv,Qw,Qx,Qy,Qz,Xe,Xg,Xh,Xi,Xj,Xk,Xn,Xo,Xp,Xq,Xt,Xu,Xv,Xx,Xy,Xz,Yg,Yh,Yi,Yj,Yk,Yl,Ym,Yn,Yo,Yp,Yq,Yr,Ys,Yt,Yu,Yv,Yw,Yx,Yy,Yz,Ua,Ub,Uc,Ud,Ue,Uf,Ug,Uh,Ui,Uj,Uk,Ul,Um,Un,Uo,Up,Uq,Ur,Us,Ut,Uu,Uv,Uw,Ux,Uy,Uz,Wc,Wd,We,Wf,Wg,Wh,Wi,Wj,Wk,Wl,Wm,Wn,Wo,Wp,Wq,Wt,Wu,Ww,Wx,Wy,Wz,Ka,Kb,Kc,Kd,Ke,Kf,Kg,Kh,Kj,Kl,Km,Kn,Ko,Kp,Kq,Kr,Kt,Ku,Kv,Kw,Kx,Ky,Kz,Rg,Rh,Ri,Rj,Rk,Rl,Rm,Rp,Rq,Rt,Ru,Rx,Ry,Rz,Gc,Ge,Gf,Gg,Gh,Gi,Gj,Gm,Gn,Gp,Gq,Gt,Gu,Gv,Gx,Gy,Gz,Fe,Ff,Fg,Fh,Fi,Fj,Fk,Fm,Fo,Fp,Fq,Fs,Ft,Fu,Fv,Fw,Fx,Fy,Fz,Ec,Ee,Ef,Eg,Eh,Ei,Ej,Ek,Em,En,Eo,Ep,Eu,Ev,Ex,Ey,Ez,Da,Db,Dc,Dd,Dg,Dh,Di,Dj,Dk,Dl,Dm,Dn,Do,Dp,Dq,Dt,Du,Dv,Dw,Dx,Dy,Dz,Pa,Pb,Pc,Pe,Pf,Pg,Ph,Pi,Pj,Pk,Pm,Pn,Po,Pq,Ps,Pt,Pu,Pv,Pw,Px,Py,Pz,Na], []⟩ w := by
  conv => arg 2; whnf
  refine wp_loop (Inv_last_loop w1 B n0 V H' T T1 Z loc s L zx lv mb gT cT gE cE gW cW gK cK gH cH ol' u0 u1 u3 u4 u5 u6 u8 u9 Ja Jc Jd Ji Jj Jk Jl Jm Jn Jo Jp Jq Jr Js Jt Ju Jv Jw Jx Jy Jz Qa Qb Qc Qd Qe Qf Qg Qh Qi Qj Qk Ql Qm Qn Qo Qp Qq Qr Qs Qt Qu Qv Qw Qx Qy Qz Xe Xg Xh Xi Xj Xk Xn Xo Xp Xq Xt Xu Xv Xx Xy Xz Yg Yh Yi Yj Yk Yl Ym Yn Yo Yp Yq Yr Ys Yt Yu Yv Yw Yx Yy Yz Ua Ub Uc Ud Ue Uf Ug Uh Ui Uj Uk Ul Um Un Uo Up Uq Ur Us Ut Uu Uv Uw Ux Uy Uz Wc Wd We Wf Wg Wh Wi Wj Wk Wl Wm Wn Wo Wp Wq Wt Wu Ww Wx Wy Wz Ka Kb Kc Kd Ke Kf Kg Kh Kj Kl Km Kn Ko Kp Kq Kr Kt Ku Kv Kw Kx Ky Kz Pt Pu Pv Pw Px Py Pz Na) (mu_last_loop (T.length)) ?_ (fun a' wr hI => ?_)
  · exact ⟨0, Jf, Jg, Jh, Rg, Rh, Ri, Rj, Rk, Rl, Rm, Rp, Rq, Rt, Ru, Rx, Ry, Rz, Gc, Ge, Gf, Gg, Gh, Gi, Gj, Gm, Gn, Gp, Gq, Gt, Gu, Gv, Gx, Gy, Gz, Fe, Ff, Fg, Fh, Fi, Fj, Fk, Fm, Fo, Fp, Fq, Fs, Ft, Fu, Fv, Fw, Fx, Fy, Fz, Ec, Ee, Ef, Eg, Eh, Ei, Ej, Ek, Em, En, Eo, Ep, Eu, Ev, Ex, Ey, Ez, Da, Db, Dc, Dd, Dg, Dh, Di, Dj, Dk, Dl, Dm, Dn, Do, Dp, Dq, Dt, Du, Dv, Dw, Dx, Dy, Dz, Pa, Pb, Pc, Pe, Pf, Pg, Ph, Pi, Pj, Pk, Pm, Pn, Po, Pq, Ps, Nat.zero_le _, h0, rfl⟩
  obtain ⟨i, s15, s16, s17, sDm, sDn, sDo, sDp, sDq, sDr, hI⟩ := hI
  obtain ⟨sDs, sDt, sDu, sDv, sDw, sDx, sDy, sDz, sDA, sDB, hI⟩ := hI
  obtain ⟨sDC, sDD, sDE, sDF, sDG, sDH, sDI, sDJ, sDK, sDL, hI⟩ := hI
  obtain ⟨sDM, sDN, sDO, sDP, sDQ, sDR, sDS, sDT, sDU, sDV, hI⟩ := hI
  obtain ⟨sDW, sDX, sDY, sDZ, sEa, sEb, sEc, sEd, sEe, sEf, hI⟩ := hI
  obtain ⟨sEg, sEh, sEi, sEj, sEk, sEl, sEm, sEn, sEo, sEp, hI⟩ := hI
  obtain ⟨sEq, sEr, sEs, sEt, sEu, sEv, sEw, sEx, sEy, sEz, hI⟩ := hI
  obtain ⟨sEA, sEB, sEC, sED, sEE, sEF, sEG, sEH, sEI, sEJ, hI⟩ := hI
  obtain ⟨sEK, sEL, sEM, sEN, sEO, sEP, sEQ, sER, sES, sET, hI⟩ := hI
  obtain ⟨sEU, sEV, sEW, sEX, sEY, sEZ, sFa, sFb, sFc, sFd, hI⟩ := hI
  obtain ⟨sFe, sFf, sFg, sFh, sFi, sFj, sFk, sFl, hI⟩ := hI
  obtain ⟨hib, hR, rfl⟩ := hI
  clear h0
  obtain ⟨O, T', hZ, hlen, hdone, hrest, hT⟩ := hR
  have out : ∀ k, n0 ≤ k → k < w1.heap.size → wr.heap[k]? = w1.heap[k]? := fun k hk hl => hT.block k hl (fun h => by omega)
  have x1 : wr.cell? ⟨zx, 0, none⟩ = some (.pointer (some ⟨V.zb, 0, none⟩)) := (World.cell?_of_block (a := ⟨zx, 0, none⟩) (out zx hx.nx (World.block_lt_of_cell? w1 _ hx.x))).trans hx.x
  obtain ⟨oT, hoT, hoT'⟩ := hx.v1'
  have y1 : wr.cell? ⟨V.zb, 1, none⟩ = some (.slice oT T.length cT) := (hZ.cz rfl).trans (congrArg some hoT)
  by_cases hil : i < T.length
  · obtain rfl := hoT' (by omega)
    have hT0 : 0 < T.length := by omega
    obtain ⟨t, ht⟩ : ∃ t, T[i]? = some t := ⟨_, List.getElem?_eq_getElem hil⟩
    obtain ⟨t1, ht1, hid1⟩ := hx.t1 i t ht
    have ht' : T'[i]? = some t1 := (hrest i (Nat.le_refl _)).trans ht1
    have hids := hx.ids t (List.mem_of_getElem? ht)
    have hTl := hx.tl
    have yt : wr.cell? ⟨gT, i, none⟩ = some (.pointer (some ⟨t1.b, 0, none⟩)) := by
      have h2 := hZ.things
      rw [hx.v1 hT0, hlen] at h2
      rw [h2.cellAt i (by omega), List.getElem?_map, ht']
      rfl
    have g0 : decide ((i : Int) < (T.length : Int)) = true := by simpa using hil
    have j1 : (i : Int) < (T.length : Int) := by omega
    have j0 : (0 : Int) ≤ (i : Int) := by omega
    have c3 : IntKind.i64.wrap ((i : Int) + 1) = (i : Int) + 1 := IntWalk.i64_in _ (by omega)
    have A0 := Lib.hid hx
    have A1 := Lib.hid hi
    have A2 := Lib.hid hZ
    have A3 := Lib.hid hlen
    have A4 := Lib.hid hdone
    have A5 := Lib.hid hrest
    have A6 := Lib.hid hT
    have A7 := Lib.hid ht
    have A8 := Lib.hid ht1
    have A9 := Lib.hid ht'
    have A10 := Lib.hid hid1
    have A11 := Lib.hid hids
    have A12 := Lib.hid out
    clear hx hi hZ hlen hdone hrest hT ht ht1 ht' hid1 hids out
    refine wp_seq_k (fun K1 hK1 => ?_)
    have E1 := Lib.hid hK1
    clear hK1
    go_wp2_with fail
    refine E1.out _ _ ?_
    clear E1 K1
    refine wp_seq_k (fun K3 hK3 => ?_)
    have E3 := Lib.hid hK3
    clear hK3
    refine wp_block ?_
    refine wp_seq_k (fun K4 hK4 => ?_)
    have E4 := Lib.hid hK4
    clear hK4
    go_wp2_with fail
    refine E4.out _ _ ?_
    clear E4 K4 y1 yt
    refine wp_seq_k (fun K5 hK5 => ?_)
    have E5 := Lib.hid hK5
    clear hK5
    have e3 : wr.cell? ⟨V.zb, 3, none⟩ = some (.slice (some ⟨gE, 0, none⟩) T.length cE) := (A2.out.cz rfl).trans (congrArg some (A0.out.v3 hT0))
    have e4 : wr.cell? ⟨gE, i, none⟩ = some (.bool t1.here) := by
      have h2 := A2.out.here
      rw [(A0.out.v3 hT0), A3.out] at h2
      rw [h2.cellAt i (by omega), List.getElem?_map, A9.out]
      rfl
    have e5 : wr.frozen? ⟨gE, i, none⟩ = false := by
      have h2 := A2.out.here
      rw [(A0.out.v3 hT0), A3.out] at h2
      exact h2.frozenAt i
    have e6 : wr.cell? ⟨lv, 0, none⟩ = some (.map (some mb)) := (World.cell?_of_block (a := ⟨lv, 0, none⟩) (A12.out lv A0.out.nl (World.block_lt_of_cell? w1 _ A0.out.l))).trans A0.out.l
    have e7 : Sh wr mb s := A0.out.m.same (A12.out mb A0.out.nm A0.out.m.lt)
    refine here_any wr zx V.zb gE cE lv mb T.length i s t1.here hil hTl x1 e3 e4 e5 e6 e7 ?_
    clear e3 e4 e5 e6 e7 x1
    intro _ _ _ _ _ _ _ _ _ _ _ _ _ _ _ _ _ _ w2 hw2
    refine E5.out _ _ ?_
    clear E5 K5
    obtain ⟨hb, hhb⟩ : ∃ hb, hb = (t1.here && decide ((i : Int) ∈ s)) := ⟨_, rfl⟩
    rw [← hhb] at hw2
    have HB := Lib.hid hhb
    clear hhb
    obtain ⟨Z2, T2⟩ : ZR w2 O B V H' (T'.set i (setHere t1 hb)) Z ∧ Turned (fun k => B ≤ k ∧ k < n0) w1 w2 := by
      rw [hw2]
      have hBE : B ≤ gE := (own_lt A2.out.here (k := gE) (by rw [(A0.out.v3 hT0)]; rfl)).1
      exact ⟨(zr_setHere hb (A2.out.drew) A9.out (A0.out.v3 hT0)).1, turned_at A6.out.drew hBE A0.out.nE⟩
    clear hw2 A2 A6 A12
    have hil' : i < T'.length := by rw [A3.out]; exact hil
    have q2 : (T'.set i (setHere t1 hb))[i]? = some (setHere t1 hb) := by rw [List.getElem?_set, if_pos rfl, if_pos hil']
    have x2 : w2.cell? ⟨zx, 0, none⟩ = some (.pointer (some ⟨V.zb, 0, none⟩)) := (World.cell?_of_block (a := ⟨zx, 0, none⟩) (T2.block zx (World.block_lt_of_cell? w1 _ A0.out.x) (fun h => by have := A0.out.nx; omega))).trans A0.out.x
    have e3 : w2.cell? ⟨V.zb, 3, none⟩ = some (.slice (some ⟨gE, 0, none⟩) T.length cE) := (Z2.cz rfl).trans (congrArg some (A0.out.v3 hT0))
    have e4 : w2.cell? ⟨gE, i, none⟩ = some (.bool hb) := by
      have h2 := Z2.here
      rw [(A0.out.v3 hT0), List.length_set, A3.out] at h2
      rw [h2.cellAt i (by omega), List.getElem?_map, q2]
      rfl
    have e5 : w2.cell? ⟨t1.b, 3, none⟩ = some (.bool t1.old) := cell_of_block (Z2.thing _ (List.mem_of_getElem? q2)).1 rfl
    have e6 : w2.frozen? ⟨t1.b, 3, none⟩ = false := frozen_of_block (Z2.thing _ (List.mem_of_getElem? q2)).1
    obtain ⟨Z3, T3⟩ : ZR (w2.setCell ⟨t1.b, 3, none⟩ (.bool hb)) O B V H' (T'.set i (setOld (setHere t1 hb) hb)) Z ∧ Turned (fun k => B ≤ k ∧ k < n0) w1 (w2.setCell ⟨t1.b, 3, none⟩ (.bool hb)) := by
      have h3 := (zr_setOld hb Z2 q2).1
      rw [List.set_set] at h3
      exact ⟨h3, turned_at T2 (Z2.ot _ _ q2).2.1 (A0.out.nt i t1 A8.out)⟩
    have q3 : (T'.set i (setOld (setHere t1 hb) hb))[i]? = some (setOld (setHere t1 hb) hb) := by rw [List.getElem?_set, if_pos rfl, if_pos hil']
    have B1 := Lib.hid Z3
    have B2 := Lib.hid T3
    have B3 := Lib.hid q3
    clear Z2 T2 q2 Z3 T3 q3
    refine wp_seq_k (fun K5 hK5 => ?_)
    have E5 := Lib.hid hK5
    clear hK5
    go_wp2_with fail
    refine E5.out _ _ ?_
    clear E5 K5 x2 e3 e4 e5 e6
    generalize w2.setCell ⟨t1.b, 3, none⟩ (.bool hb) = w3 at *
    have x3 : w3.cell? ⟨zx, 0, none⟩ = some (.pointer (some ⟨V.zb, 0, none⟩)) := (World.cell?_of_block (a := ⟨zx, 0, none⟩) (B2.out.block zx (World.block_lt_of_cell? w1 _ A0.out.x) (fun h => by have := A0.out.nx; omega))).trans A0.out.x
    have h3 : w3.cell? ⟨gH, i, none⟩ = some (.bool (decide (i ∈ L))) := by
      have h4 := (B2.out.block gH (lt_of_block A0.out.held) (fun h => by have := A0.out.nh; omega)).trans A0.out.held
      exact cell_of_block h4 (held_at hil)
    by_cases hiL : i ∈ L
    · rw [decide_eq_true hiL] at h3
      have A13 := Lib.hid (show RZ w1 B n0 V H' T T1 Z loc s (i + 1) w3 from rz_next A3.out A4.out A5.out A7.out B1.out (by rw [HB.out]; exact A0.out.heldA i t t1 A7.out A8.out hiL) B2.out)
      clear x3
      go_wp2_with fail
      refine E3.out _ _ ?_
      go_wp2
      clear c3
      refine ⟨⟨i + 1, _, _, _, _, _, _, _, _, _, _, _, _, _, _, _, _, _, _, _, _, _, _, _, _, _, _, _, _, _, _, _, _, _, _, _, _, _, _, _, _, _, _, _, _, _, _, _, _, _, _, _, _, _, _, _, _, _, _, _, _, _, _, _, _, _, _, _, _, _, _, _, _, _, _, _, _, _, _, _, _, _, _, _, _, _, _, _, _, _, _, _, _, _, _, _, _, _, _, _, _, _, _, _, _, _, _, _, by omega, A13.out, rfl⟩, ?_⟩
      simp [mu_last_loop, intOf]
      omega
    · rw [decide_eq_false hiL] at h3
      have f2 : w3.cell? ⟨t1.b, 2, none⟩ = some (.int .i64 t1.id) := cell_of_block (B1.out.thing _ (List.mem_of_getElem? B3.out)).1 rfl
      have f0 : w3.cell? ⟨V.zb, 0, none⟩ = some (.pointer (some ⟨V.hb, 0, none⟩)) := B1.out.cz rfl
      have f3 : w3.cell? ⟨V.zb, 3, none⟩ = some (.slice (some ⟨gE, 0, none⟩) T.length cE) := (B1.out.cz rfl).trans (congrArg some (A0.out.v3 hT0))
      have f4 : w3.cell? ⟨gE, i, none⟩ = some (.bool hb) := by
        have h2 := B1.out.here
        rw [(A0.out.v3 hT0), List.length_set, A3.out] at h2
        rw [h2.cellAt i (by omega), List.getElem?_map, B3.out]
        rfl
      have hid0 := A11.out
      rw [← A10.out] at hid0
      have hAt := at_any B1.out.drew.hr A1.out t1.id (lit_wf _ (by omega) (by omega))
      refine wp_seq_k (fun K5 hK5 => ?_)
      have E5 := Lib.hid hK5
      clear hK5
      go_wp2_with fail
      refine E5.out _ _ ?_
      clear E5 K5 h3
      refine wp_seq_k (fun K5 hK5 => ?_)
      have E5 := Lib.hid hK5
      clear hK5
      refine wp_region_noPanic ?_
      refine RegU.begin (S := fun wz => wz.cell? ⟨zx, 0, none⟩ = some (.pointer (some ⟨V.zb, 0, none⟩)) ∧ wz.cell? ⟨V.zb, 0, none⟩ = some (.pointer (some ⟨V.hb, 0, none⟩)) ∧ wz.cell? ⟨t1.b, 2, none⟩ = some (.int .i64 t1.id)) (N := [4, 5, 6, 7, 11, 12]) (by kernel_rfl) ?_ (fun hHeld => ?_)
      · (try dsimp only); first | assumption | go_keep
      refine RegU.tk [1, 2, 3, 8, 9, 10, 11, 12, 13] 0 ?_
      refine RegU.tk [2, 3, 8, 9, 10, 11, 12, 13] 1 ?_
      refine RegU.tk [3, 8, 9, 10, 11, 12, 13] 2 ?_
      refine RegU.tk [8, 9, 10, 11, 12, 13] 3 ?_
      refine RegU.tk [5, 6, 7, 8, 9, 10, 11, 12, 13] 4 ?_
      refine RegU.tk [6, 7, 8, 9, 10, 11, 12, 13] 5 ?_
      refine RegU.tk [7, 8, 9, 10, 11, 12, 13] 6 ?_
      refine RegU.tk [8, 9, 10, 11, 12, 13] 7 ?_
      refine RegU.one (i := 8) (by kernel_rfl) rfl (fun K hK => ?_)
      go_simp
      refine hAt.mono ?_
      rintro e w4 ⟨rfl, c, bo, rfl, hbo, hco⟩
      refine hK.out _ _ ⟨x3, f0, f2⟩ (fun hHeld => ?_)
      clear hK K
      try simp only [Act.put, List.setIfInBounds_toArray, List.set_cons_zero, List.set_cons_succ]
      refine RegU.tk [10, 11, 12, 13] 9 ?_
      refine RegU.tk [12, 13] 10 ?_
      refine RegU.tk [13] 11 ?_
      refine RegU.one (i := 12) (by kernel_rfl) rfl (fun K hK => ?_)
      go_simp
      refine hK.out _ _ (by assumption) (fun hHeld => ?_)
      clear hK K
      try simp only [Act.put, List.setIfInBounds_toArray, List.set_cons_zero, List.set_cons_succ]
      refine RegU.rest [13] [_] (by kernel_rfl) rfl ?_
      clear hHeld hAt
      go_wp2_with fail
      refine NoPanic.normal ?_
      refine E5.out _ _ ?_
      clear E5 K5
      have B4 := Lib.hid hbo
      have B5 := Lib.hid hco
      clear hbo hco
      have x4 : w3.drew.cell? ⟨zx, 0, none⟩ = some (.pointer (some ⟨V.zb, 0, none⟩)) := x3
      have k2 : w3.drew.cell? ⟨t1.b, 2, none⟩ = some (.int .i64 t1.id) := f2
      have k3 : w3.drew.cell? ⟨V.zb, 3, none⟩ = some (.slice (some ⟨gE, 0, none⟩) T.length cE) := f3
      have k4 : w3.drew.cell? ⟨gE, i, none⟩ = some (.bool hb) := f4
      clear x3 f0 f2 f3 f4
      have Z4 := Lib.hid B1.out.drew
      have T4 := Lib.hid B2.out.drew
      clear B1 B2
      generalize w3.drew = w4 at *
      have hkn : (decide (0 < t1.id) && hb) = true → (t1.here && decide ((i : Int) ∈ s)) = true ∧ c = ((loc i).addr : Int) := fun h => by
        have h5 : 0 < t1.id ∧ hb = true := by simpa using h
        have h6 := A0.out.says i t1 bo c A8.out h5.1 B4.out B5.out
        exact ⟨by rw [← HB.out]; exact h5.2, h6.2 (by rw [h6.1, ← HB.out]; exact h5.2)⟩
      have hbo2 : 0 < t1.id → bo = hb := fun h5 => by rw [HB.out]; exact (A0.out.says i t1 bo c A8.out h5 B4.out B5.out).1
      have B6 := Lib.hid hkn
      clear hkn B4 B5
      have w0' : w4.cell? ⟨gW, i * 3, none⟩ = some (.int .i64 t1.wv.k) := by
        have h5 := wcell Z4.out (A0.out.v2 hT0) (r := 0) B3.out (by omega)
        exact h5
      have w1' : w4.cell? ⟨gW, i * 3 + 1, none⟩ = some (.int .i64 t1.wv.n) := by
        have h5 := wcell Z4.out (A0.out.v2 hT0) (r := 1) B3.out (by omega)
        exact h5
      have w2' : w4.cell? ⟨gW, i * 3 + 2, none⟩ = some (.string t1.wv.s) := by
        have h5 := wcell Z4.out (A0.out.v2 hT0) (r := 2) B3.out (by omega)
        exact h5
      have wf' : ∀ i, w4.frozen? ⟨gW, i, none⟩ = false := by
        have h2 := Z4.out.wher
        rw [(A0.out.v2 hT0), List.length_set, A3.out] at h2
        exact fun i => h2.frozenAt i
      have kf' : w4.frozen? ⟨gK, i, none⟩ = false := by
        have h2 := Z4.out.known
        rw [(A0.out.v4 hT0), List.length_set, A3.out] at h2
        exact h2.frozenAt i
      have kk' : w4.cell? ⟨gK, i, none⟩ = some (.bool t1.known) := by
        have h2 := Z4.out.known
        rw [(A0.out.v4 hT0), List.length_set, A3.out] at h2
        rw [h2.cellAt i (by omega), List.getElem?_map, B3.out]
        rfl
      have y2' : w4.cell? ⟨V.zb, 2, none⟩ = some (.slice (some ⟨gW, 0, none⟩) T.length cW) := (Z4.out.cz rfl).trans (congrArg some (A0.out.v2 hT0))
      have y4' : w4.cell? ⟨V.zb, 4, none⟩ = some (.slice (some ⟨gK, 0, none⟩) T.length cK) := (Z4.out.cz rfl).trans (congrArg some (A0.out.v4 hT0))
      have oW := Z4.out.o3 gW (by rw [(A0.out.v2 hT0)]; rfl)
      have oE := Z4.out.o4 gE (by rw [(A0.out.v3 hT0)]; rfl)
      have oK := Z4.out.o5 gK (by rw [(A0.out.v4 hT0)]; rfl)
      have oZ := Z4.out.o1
      have oT := (Z4.out.ot _ _ B3.out).1
      have nKW : gK ≠ gW := fun h => by rw [h] at oK; omega
      have nxW : zx ≠ gW := fun h => by have := A0.out.nx; have := A0.out.nW; omega
      have nzW : V.zb ≠ gW := fun h => by rw [h] at oZ; omega
      have nEW : gE ≠ gW := fun h => by rw [h] at oE; omega
      have ntW : t1.b ≠ gW := fun h => by
        have oT' : O t1.b = 2 * i + 6 := oT
        rw [h] at oT'
        omega
      have bW : B ≤ gW := (own_lt Z4.out.wher (k := gW) (by rw [(A0.out.v2 hT0)]; rfl)).1
      have bK : B ≤ gK := (own_lt Z4.out.known (k := gK) (by rw [(A0.out.v4 hT0)]; rfl)).1
      have hfin : RZ w1 B n0 V H' T T1 Z loc s (i + 1) ((((w4.drew.setCell ⟨gW, i * 3, none⟩ (.int .i64 4)).setCell ⟨gW, i * 3 + 1, none⟩ (.int .i64 c)).setCell ⟨gW, i * 3 + 2, none⟩ (.string ByteArray.empty)).setCell ⟨gK, i, none⟩ (.bool (decide (0 < t1.id) && hb))) := by
        have h5 := (zr_setWv ⟨4, c, ByteArray.empty⟩ Z4.out.drew B3.out (A0.out.v2 hT0)).1
        rw [List.set_set] at h5
        have q5 : (T'.set i (setWv (setOld (setHere t1 hb) hb) ⟨4, c, ByteArray.empty⟩))[i]? = some (setWv (setOld (setHere t1 hb) hb) ⟨4, c, ByteArray.empty⟩) := by rw [List.getElem?_set, if_pos rfl, if_pos hil']
        have h6 := (zr_setKnown (decide (0 < t1.id) && hb) h5 q5 (A0.out.v4 hT0)).1
        rw [List.set_set] at h6
        refine rz_next A3.out A4.out A5.out A7.out h6 ?_ (turned_at (turned_at (turned_at (turned_at T4.out.drew bW A0.out.nW) bW A0.out.nW) bW A0.out.nW) bK A0.out.nK)
        have h7 := A0.out.freeA i t t1 (decide (0 < t1.id) && hb) c A7.out A8.out hiL B6.out
        rw [← HB.out] at h7
        exact h7
      have A13 := Lib.hid hfin
      have A14 := Lib.hid wf'
      clear hfin oW oE oK oZ oT bW bK Z4 T4 B6 wf'
      by_cases hp : 0 < t1.id
      · have g1 : decide (0 < t1.id) = true := by simpa using hp
        have hbb := hbo2 hp
        subst hbb
        cases bo with
        | false =>
          go_wp2_with fail
          refine where_any w4 zx V.zb gE cE gW cW gK cK t1.b T.length i c t1.id false t1.known t1.wv.k t1.wv.n t1.wv.s hil hTl x4 y2' k3 y4' k4 k2 w0' w1' w2' kk' A14.out kf' nKW nxW nzW nEW ntW ?_
          clear w0' w1' w2' kk' kf' y2' y4' x4 k2 k3 k4
          intro _ _ _ _ _ _ _ _ _ _ _ _ _ _ _ _ _ _ _ _ _ _ _ _ _ _ _ _ w5 hw5
          rw [← hw5] at A13
          clear hw5
          refine E3.out _ _ ?_
          go_wp2
          clear c3
          refine ⟨⟨i + 1, _, _, _, _, _, _, _, _, _, _, _, _, _, _, _, _, _, _, _, _, _, _, _, _, _, _, _, _, _, _, _, _, _, _, _, _, _, _, _, _, _, _, _, _, _, _, _, _, _, _, _, _, _, _, _, _, _, _, _, _, _, _, _, _, _, _, _, _, _, _, _, _, _, _, _, _, _, _, _, _, _, _, _, _, _, _, _, _, _, _, _, _, _, _, _, _, _, _, _, _, _, _, _, _, _, _, _, by omega, A13.out, rfl⟩, ?_⟩
          simp [mu_last_loop, intOf]
          omega
        | true =>
          go_wp2_with fail
          refine where_any w4 zx V.zb gE cE gW cW gK cK t1.b T.length i c t1.id true t1.known t1.wv.k t1.wv.n t1.wv.s hil hTl x4 y2' k3 y4' k4 k2 w0' w1' w2' kk' A14.out kf' nKW nxW nzW nEW ntW ?_
          clear w0' w1' w2' kk' kf' y2' y4' x4 k2 k3 k4
          intro _ _ _ _ _ _ _ _ _ _ _ _ _ _ _ _ _ _ _ _ _ _ _ _ _ _ _ _ w5 hw5
          rw [← hw5] at A13
          clear hw5
          refine E3.out _ _ ?_
          go_wp2
          clear c3
          refine ⟨⟨i + 1, _, _, _, _, _, _, _, _, _, _, _, _, _, _, _, _, _, _, _, _, _, _, _, _, _, _, _, _, _, _, _, _, _, _, _, _, _, _, _, _, _, _, _, _, _, _, _, _, _, _, _, _, _, _, _, _, _, _, _, _, _, _, _, _, _, _, _, _, _, _, _, _, _, _, _, _, _, _, _, _, _, _, _, _, _, _, _, _, _, _, _, _, _, _, _, _, _, _, _, _, _, _, _, _, _, _, _, by omega, A13.out, rfl⟩, ?_⟩
          simp [mu_last_loop, intOf]
          omega
      · have g1 : decide (0 < t1.id) = false := by simpa using hp
        go_wp2_with fail
        refine where_any w4 zx V.zb gE cE gW cW gK cK t1.b T.length i c t1.id hb t1.known t1.wv.k t1.wv.n t1.wv.s hil hTl x4 y2' k3 y4' k4 k2 w0' w1' w2' kk' A14.out kf' nKW nxW nzW nEW ntW ?_
        clear w0' w1' w2' kk' kf' y2' y4' x4 k2 k3 k4
        intro _ _ _ _ _ _ _ _ _ _ _ _ _ _ _ _ _ _ _ _ _ _ _ _ _ _ _ _ w5 hw5
        rw [← hw5] at A13
        clear hw5
        refine E3.out _ _ ?_
        go_wp2
        clear c3
        refine ⟨⟨i + 1, _, _, _, _, _, _, _, _, _, _, _, _, _, _, _, _, _, _, _, _, _, _, _, _, _, _, _, _, _, _, _, _, _, _, _, _, _, _, _, _, _, _, _, _, _, _, _, _, _, _, _, _, _, _, _, _, _, _, _, _, _, _, _, _, _, _, _, _, _, _, _, _, _, _, _, _, _, _, _, _, _, _, _, _, _, _, _, _, _, _, _, _, _, _, _, _, _, _, _, _, _, _, _, _, _, _, _, by omega, A13.out, rfl⟩, ?_⟩
        simp [mu_last_loop, intOf]
        omega
  · have hie : i = T.length := by omega
    subst hie
    have g0 : decide ((T.length : Int) < (T.length : Int)) = false := by simp
    have A1 := Lib.hid (show RZ w1 B n0 V H' T T1 Z loc s T.length wr from ⟨O, T', hZ, hlen, hdone, hrest, hT⟩)
    clear hx hi hZ hlen hdone hrest hT out
    go_wp2
    exact A1.out

end Go.Proofs.YthbkklnahhdgcaaDoor.PlK

namespace Go.Proofs.YthbkklnahhdgcaaDoor.PlW
open Go Go.Proofs Go.RowKit Go.Maps Go.Proofs.YthbkklnahhdgcaaDoor.Lib HeapR HeapB HeapC HeapD HeapG HeapH ErrC ChA ChT ChCa ChCc ChE ChH ChI ChL ChN ChO ChR ChW ChZ PlC PlH PlS PlT PlZ PlU PlM PlN PlQ PlV PlO PlX PlY PlYa

variable {w w' : World} {O : Nat → Nat} {B : Nat} {H H' : HS} {T : List Th} {Z : Zn} {nu ol : List Ob} {loc : Nat → Ob}
/-- What sets leaves. -/
def SetDone (w : World) (B : Nat) (zb : Nat × Nat) (H : HS) (T : List Th) (Z : Zn) (w' : World) : Prop :=
  ∃ (O' : Nat → Nat) (V' : Zv) (H' : HS) (nu' ol' : List Ob) (T' : List Th) (loc' : Nat → Ob), ZR w' O' B V' H' T' Z ∧ ZI H' nu' ol' T' Z loc' ∧ (V'.zb, V'.hb) = zb ∧ T'.length = T.length ∧ H'.rem.length ≤ H.rem.length + 1 ∧ Turned (fun k => B ≤ k) w w'

theorem sets_out {Q : Exit → Act → World → Prop} {u1 u2 u4 u6 u9 Ja Jb Jc Jd Je Jf Jg Jh Ji Jj Jk Jl Jm Jn Jo Jp Jq Jr Js Jt Ju Jv Jw Jx Jy Jz Qa Qb Qc Qd Qe Qf Qg Qh Qi Qj Qk Ql Qm Qn Qo Qp Qq Qr Qs Qt Qu Qv Qw Qx Qy Qz Xe Xg Xh Xi Xj Xk Xn Xo Xp Xq Xt Xu Xv Xx Xy Xz Yg Yh Yi Yj Yk Yl Ym Yn Yo Yp Yq Yr Ys Yt Yu Yv Yw Yx Yy Yz Ua Ub Uc Ud Ue Uf Ug Uh Ui Uj Uk Ul Um Un Uo Up Uq Ur : Value} (zb hb nb mb gT cT gW cW : Nat) (ov rv ev kv : Value) (h : ZR w O B ⟨zb, hb, nb, mb, ov, rv, .slice (some ⟨gT, 0, none⟩) T.length cT, .slice (some ⟨gW, 0, none⟩) T.length cW, ev, kv⟩ H T Z) (hz : ZI H nu ol T Z loc)
    (sb k vb : Nat) (b x : Int) (v : Vl) {t : Th} (hk : T[k]? = some t) (hkn : t.known = true) (s2 : w.cell? ⟨sb, 2, none⟩ = some (.int .i64 b)) (v0 : w.cell? ⟨vb, 0, none⟩ = some (.int .i64 v.k)) (v1 : w.cell? ⟨vb, 1, none⟩ = some (.int .i64 v.n)) (v2 : w.cell? ⟨vb, 2, none⟩ = some (.string v.s))
    (_hsb : ¬ Owns hb nb mb ov rv sb) (_hTl : T.length ≤ 1000) (hb2 : b < 0 ∨ (t.is.length : Int) ≤ b)
    (hQ : ∀ (a' : Act) (w' : World), a'.tmps.getD 4 undef = .bool true → a'.defers = [] → SetDone w B (zb, hb) H T Z w' → Q .ret a' w') :
    Code.wp Tryd.prog (Cut.piece Tryd.f72 (Cut.tail 7)) Q ⟨#[(.pointer (some ⟨zb,0,none⟩)),u1,u2,(.pointer (some ⟨sb,0,none⟩)),u4,(.int .i64 (k : Int)),u6,(.pointer (some ⟨vb,0,none⟩)),(.int .i64 x),u9,Ja,Jb,Jc,Jd,Je,Jf,Jg,Jh,Ji,Jj,Jk,Jl,Jm,Jn,Jo,Jp,Jq,Jr,Js,Jt,Ju,Jv,Jw,Jx,Jy,Jz,Qa,Qb,Qc,Qd,Qe,Qf,Qg,Qh,Qi,Qj,Qk,Ql,Qm,Qn,Qo,Qp,Qq,Qr,Qs,Qt,Qu,Qv,Qw,Qx,Qy,Qz,Xe,Xg,Xh,Xi,Xj,Xk,Xn,Xo,Xp,Xq,Xt,Xu,Xv,Xx,Xy,Xz,Yg,Yh,Yi,Yj,Yk,Yl,Ym,Yn,Yo,Yp,Yq,Yr,Ys,Yt,Yu,Yv,Yw,Yx,Yy,Yz,Ua,Ub,Uc,Ud,Ue,Uf,Ug,Uh,Ui,Uj,Uk,Ul,Um,Un,Uo,Up,Uq,Ur], []⟩ w := by
  conv => arg 2; whnf
  have hkm := List.mem_of_getElem? hk
  have hkl := (List.getElem?_eq_some_iff.1 hk).1
  obtain ⟨hkh, hkw⟩ := hz.known k t hk hkn
  obtain ⟨hko, _, hkI⟩ := hz.obj k t hk hkh
  have z0 : w.cell? ⟨zb, 0, none⟩ = some (.pointer (some ⟨hb, 0, none⟩)) := h.cz rfl
  have z1 : w.cell? ⟨zb, 1, none⟩ = some (.slice (some ⟨gT, 0, none⟩) T.length cT) := h.cz rfl
  have z2 : w.cell? ⟨zb, 2, none⟩ = some (.slice (some ⟨gW, 0, none⟩) T.length cW) := h.cz rfl
  have zw : w.cell? ⟨gW, k * 3 + 1, none⟩ = some (.int .i64 ((loc k).addr : Int)) := by
    have h2 := h.wher
    simp only at h2
    rw [h2.cellAt (k * 3 + 1) (by omega), wVals_get hk (by omega), hkw]
    rfl
  have hbig := big_lt
  have htop := hz.hi.top
  have hfit := hz.hi.fit
  have hrr := h.hr.rr
  have hmm := h.hr.mm
  have hom := h.hr.om
  have holn := hz.hi.olen
  have hsz : ∀ y ∈ nu ++ ol, y.addr + y.len ≤ big := fun y hy => by
    rcases List.mem_append.mp hy with hy | hy
    · have := laid_in hz.hi.na hy
      unfold big
      omega
    · have := laid_in hz.hi.oa hy
      unfold big
      omega
  have hka := hsz _ hko
  have hlen : (loc k).len = 1 + (loc k).fs.length := rfl
  have hk0 : (0 : Int) ≤ (k : Int) := by omega
  have hkl2 : (k : Int) < (T.length : Int) := by omega
  have hz1l : zb < w.heap.size := h.zlt

  have hset := set_range (w := w.drew) (h.hr.drewN 1) ((loc k).addr : Int) b (by omega) v.k v.n v.s ((loc k).head 0) (head_obj h.hr hz.hi hko) (by
    rcases hb2 with h1 | h1
    · exact .inl h1
    · right
      show ((loc k).fs.length : Int) ≤ b
      rw [hkI.len]
      exact h1)
  have A0 := Lib.hid h
  have A1 := Lib.hid hz
  have A2 := Lib.hid hQ
  have A3 := Lib.hid hsz
  have A4 := Lib.hid hkI
  clear h hz hQ hsz hkI htop hfit hrr hmm hom holn hka hlen hbig hkw
  go_wp2_with fail
  refine wp_region_noPanic ?_
  refine RegU.begin (S := fun wz => wz.cell? ⟨zb, 0, none⟩ = some (.pointer (some ⟨hb, 0, none⟩)) ∧ wz.cell? ⟨zb, 2, none⟩ = some (.slice (some ⟨gW, 0, none⟩) T.length cW) ∧ wz.cell? ⟨gW, k * 3 + 1, none⟩ = some (.int .i64 ((loc k).addr : Int)) ∧ wz.cell? ⟨sb, 2, none⟩ = some (.int .i64 b) ∧ wz.cell? ⟨vb, 0, none⟩ = some (.int .i64 v.k) ∧ wz.cell? ⟨vb, 1, none⟩ = some (.int .i64 v.n) ∧ wz.cell? ⟨vb, 2, none⟩ = some (.string v.s)) (N := [4, 5, 6, 7, 8, 9, 10, 11, 12, 13, 14]) (by kernel_rfl) ?_ (fun hHeld => ?_)
  · (try dsimp only); first | assumption | go_keep
  refine RegU.tk [1, 2, 3, 15, 16] 0 ?_
  refine RegU.tk [2, 3, 15, 16] 1 ?_
  refine RegU.tk [3, 15, 16] 2 ?_
  refine RegU.tk [15, 16] 3 ?_
  refine RegU.tk [5, 6, 7, 9, 10, 11, 15, 16] 4 ?_
  refine RegU.tk [6, 7, 9, 10, 11, 15, 16] 5 ?_
  refine RegU.tk [7, 9, 10, 11, 15, 16] 6 ?_
  refine RegU.tk [9, 10, 11, 15, 16] 7 ?_
  refine RegU.tk [9, 10, 11, 15, 16] 8 ?_
  refine RegU.tk [10, 11, 15, 16] 9 ?_
  refine RegU.tk [11, 15, 16] 10 ?_
  refine RegU.tk [15, 16] 11 ?_
  refine RegU.tk [13, 15, 16] 12 ?_
  refine RegU.tk [15, 16] 13 ?_
  refine RegU.tk [15, 16] 14 ?_
  refine RegU.one (i := 15) (by kernel_rfl) rfl (fun K hK => ?_)
  go_simp
  refine hset.mono ?_
  rintro e w2 ⟨rfl, hb2w⟩
  have hbw : Below w.heap.size w w2 := ((Below.refl _ w).drew).trans (hb2w.mono (Nat.le_refl _))
  refine hK.out _ _ ⟨(hbw.cell (p := ⟨zb, 0, none⟩) (World.block_lt_of_cell? w _ z0)).trans z0, (hbw.cell (p := ⟨zb, 2, none⟩) (World.block_lt_of_cell? w _ z2)).trans z2, (hbw.cell (p := ⟨gW, k * 3 + 1, none⟩) (World.block_lt_of_cell? w _ zw)).trans zw, (hbw.cell (p := ⟨sb, 2, none⟩) (World.block_lt_of_cell? w _ s2)).trans s2, (hbw.cell (p := ⟨vb, 0, none⟩) (World.block_lt_of_cell? w _ v0)).trans v0, (hbw.cell (p := ⟨vb, 1, none⟩) (World.block_lt_of_cell? w _ v1)).trans v1, (hbw.cell (p := ⟨vb, 2, none⟩) (World.block_lt_of_cell? w _ v2)).trans v2⟩ (fun hHeld => ?_)
  clear hK K
  try simp only [Act.put, List.setIfInBounds_toArray, List.set_cons_zero, List.set_cons_succ]
  refine RegU.rest [16] [_] (by kernel_rfl) rfl ?_
  go_wp2_with fail
  refine NoPanic.normal ?_
  have hZ2 := A0.out.below hbw
  have y1 : w2.cell? ⟨zb, 1, none⟩ = some (.slice (some ⟨gT, 0, none⟩) T.length cT) := hZ2.cz rfl
  have y2 : w2.cell? ⟨gT, k, none⟩ = some (.pointer (some ⟨t.b, 0, none⟩)) := by
    have h2 := hZ2.things
    simp only at h2
    rw [h2.cellAt k (by omega), List.getElem?_map, hk]
    rfl
  obtain ⟨oI, cI, hiv⟩ := row_form (hZ2.thing t hkm).2
  have y3 : w2.cell? ⟨t.b, 4, none⟩ = some (.slice oI t.is.length cI) := by
    rw [← hiv]
    exact cell_of_block (hZ2.thing t hkm).1 rfl
  have y4 : w2.cell? ⟨sb, 2, none⟩ = some (.int .i64 b) := (hbw.cell (p := ⟨sb, 2, none⟩) (World.block_lt_of_cell? w _ s2)).trans s2
  have het := hZ2.et
  have B1 := Lib.hid hZ2
  have B2 := Lib.hid hbw
  have B3 := Lib.hid hb2
  clear hZ2 hbw z0 z1 z2 zw s2 v0 v1 v2 hHeld hset hb2w hiv hb2
  rcases Int.lt_or_le b 0 with hn | hn
  · have g1 : decide (b < 0) = true := by simpa using hn
    go_wp2_with fail
    refine wp_region_noPanic ?_
    go_quiet (fail)
    refine NoPanic.normal ?_
    have het3 : EtIs (w2.drewN nq) := het
    have hbare := bare_errno 2 2 (w2.drewN nq) het3
    go_wp2_with fail
    refine hbare.mono ?_
    rintro e w3 ⟨rfl, hb3⟩
    have B4 := Lib.hid hb3
    clear hbare hb3 het3 het
    go_wp2
    have hb13 : Below w.heap.size w w3 := (below_drewN B2.out nq).trans (B4.out.mono B2.out.size)
    exact A2.out _ _ rfl rfl ⟨O, _, H, nu, ol, T, loc, A0.out.below hb13, A1.out, rfl, rfl, Nat.le_succ _, Turned.of_below _ hb13⟩
  · have g1 : decide (b < 0) = false := by simpa using hn
    have g2 : decide ((t.is.length : Int) ≤ b) = true := by
      simp only [decide_eq_true_eq]
      rcases B3.out with h1 | h1 <;> omega
    go_wp2_with fail
    refine wp_region_noPanic ?_
    go_quiet (fail)
    refine NoPanic.normal ?_
    have het3 : EtIs (w2.drewN nq) := het
    have hbare := bare_errno 2 2 (w2.drewN nq) het3
    go_wp2_with fail
    refine hbare.mono ?_
    rintro e w3 ⟨rfl, hb3⟩
    have B4 := Lib.hid hb3
    clear hbare hb3 het3 het
    go_wp2
    have hb13 : Below w.heap.size w w3 := (below_drewN B2.out nq).trans (B4.out.mono B2.out.size)
    exact A2.out _ _ rfl rfl ⟨O, _, H, nu, ol, T, loc, A0.out.below hb13, A1.out, rfl, rfl, Nat.le_succ _, Turned.of_below _ hb13⟩

theorem sets_in {Q : Exit → Act → World → Prop} {u1 u2 u4 u6 u9 Ja Jb Jc Jd Je Jf Jg Jh Ji Jj Jk Jl Jm Jn Jo Jp Jq Jr Js Jt Ju Jv Jw Jx Jy Jz Qa Qb Qc Qd Qe Qf Qg Qh Qi Qj Qk Ql Qm Qn Qo Qp Qq Qr Qs Qt Qu Qv Qw Qx Qy Qz Xe Xg Xh Xi Xj Xk Xn Xo Xp Xq Xt Xu Xv Xx Xy Xz Yg Yh Yi Yj Yk Yl Ym Yn Yo Yp Yq Yr Ys Yt Yu Yv Yw Yx Yy Yz Ua Ub Uc Ud Ue Uf Ug Uh Ui Uj Uk Ul Um Un Uo Up Uq Ur : Value} (zb hb nb mb gT cT gW cW : Nat) (ov rv ev kv : Value) (h : ZR w O B ⟨zb, hb, nb, mb, ov, rv, .slice (some ⟨gT, 0, none⟩) T.length cT, .slice (some ⟨gW, 0, none⟩) T.length cW, ev, kv⟩ H T Z) (hz : ZI H nu ol T Z loc)
    (sb k vb : Nat) (b x : Int) (v : Vl) {t : Th} (hk : T[k]? = some t) (hkn : t.known = true) (s2 : w.cell? ⟨sb, 2, none⟩ = some (.int .i64 b)) (v0 : w.cell? ⟨vb, 0, none⟩ = some (.int .i64 v.k)) (v1 : w.cell? ⟨vb, 1, none⟩ = some (.int .i64 v.n)) (v2 : w.cell? ⟨vb, 2, none⟩ = some (.string v.s))
    (hsb : ¬ Owns hb nb mb ov rv sb) (_hTl : T.length ≤ 1000) (i : Nat) (hbi : b = (i : Int)) (hil : i < t.is.length) (hfm : FM T loc x v) (hvb : ¬ Owns hb nb mb ov rv vb) (hvr : v.k = 4 → ∃ o ∈ nu ++ ol, v.n = (o.addr : Int)) (hrl : H.rem.length ≤ big)
    (hQ : ∀ (a' : Act) (w' : World), a'.tmps.getD 4 undef = .bool true → a'.defers = [] → SetDone w B (zb, hb) H T Z w' → Q .ret a' w') :
    Code.wp Tryd.prog (Cut.piece Tryd.f72 (Cut.tail 7)) Q ⟨#[(.pointer (some ⟨zb,0,none⟩)),u1,u2,(.pointer (some ⟨sb,0,none⟩)),u4,(.int .i64 (k : Int)),u6,(.pointer (some ⟨vb,0,none⟩)),(.int .i64 x),u9,Ja,Jb,Jc,Jd,Je,Jf,Jg,Jh,Ji,Jj,Jk,Jl,Jm,Jn,Jo,Jp,Jq,Jr,Js,Jt,Ju,Jv,Jw,Jx,Jy,Jz,Qa,Qb,Qc,Qd,Qe,Qf,Qg,Qh,Qi,Qj,Qk,Ql,Qm,Qn,Qo,Qp,Qq,Qr,Qs,Qt,Qu,Qv,Qw,Qx,Qy,Qz,Xe,Xg,Xh,Xi,Xj,Xk,Xn,Xo,Xp,Xq,Xt,Xu,Xv,Xx,Xy,Xz,Yg,Yh,Yi,Yj,Yk,Yl,Ym,Yn,Yo,Yp,Yq,Yr,Ys,Yt,Yu,Yv,Yw,Yx,Yy,Yz,Ua,Ub,Uc,Ud,Ue,Uf,Ug,Uh,Ui,Uj,Uk,Ul,Um,Un,Uo,Up,Uq,Ur], []⟩ w := by
  subst hbi
  conv => arg 2; whnf
  have hkm := List.mem_of_getElem? hk
  have hkl := (List.getElem?_eq_some_iff.1 hk).1
  obtain ⟨hkh, hkw⟩ := hz.known k t hk hkn
  obtain ⟨hko, _, hkI⟩ := hz.obj k t hk hkh
  have z0 : w.cell? ⟨zb, 0, none⟩ = some (.pointer (some ⟨hb, 0, none⟩)) := h.cz rfl
  have z1 : w.cell? ⟨zb, 1, none⟩ = some (.slice (some ⟨gT, 0, none⟩) T.length cT) := h.cz rfl
  have z2 : w.cell? ⟨zb, 2, none⟩ = some (.slice (some ⟨gW, 0, none⟩) T.length cW) := h.cz rfl
  have zw : w.cell? ⟨gW, k * 3 + 1, none⟩ = some (.int .i64 ((loc k).addr : Int)) := by
    have h2 := h.wher
    simp only at h2
    rw [h2.cellAt (k * 3 + 1) (by omega), wVals_get hk (by omega), hkw]
    rfl
  have hbig := big_lt
  have htop := hz.hi.top
  have hfit := hz.hi.fit
  have hrr := h.hr.rr
  have hmm := h.hr.mm
  have hom := h.hr.om
  have holn := hz.hi.olen
  have hsz : ∀ y ∈ nu ++ ol, y.addr + y.len ≤ big := fun y hy => by
    rcases List.mem_append.mp hy with hy | hy
    · have := laid_in hz.hi.na hy
      unfold big
      omega
    · have := laid_in hz.hi.oa hy
      unfold big
      omega
  have hka := hsz _ hko
  have hlen : (loc k).len = 1 + (loc k).fs.length := rfl
  have hk0 : (0 : Int) ≤ (k : Int) := by omega
  have hkl2 : (k : Int) < (T.length : Int) := by omega
  have hz1l : zb < w.heap.size := h.zlt

  have hset := set_there (w := w.drew) (h.hr.drewN 1) hz.hi hko (i := i) (by rw [hkI.len]; exact hil) v hvr hsz hrl
  have A0 := Lib.hid h
  have A1 := Lib.hid hz
  have A2 := Lib.hid hQ
  have A3 := Lib.hid hsz
  have A4 := Lib.hid hkI
  clear h hz hQ hsz hkI htop hfit hrr hmm hom holn hka hlen hbig hkw
  have nz : ¬ Owns hb nb mb ov rv zb := fun e => by have h1 := A0.out.o0 zb e; have h2 := A0.out.o1; simp only at h2; omega
  have nW : ¬ Owns hb nb mb ov rv gW := fun e => by have h1 := A0.out.o0 gW e; have h2 := A0.out.o3 gW rfl; omega
  go_wp2_with fail
  refine wp_region_noPanic ?_
  refine RegU.begin (S := fun wz => wz.cell? ⟨zb, 0, none⟩ = some (.pointer (some ⟨hb, 0, none⟩)) ∧ wz.cell? ⟨zb, 2, none⟩ = some (.slice (some ⟨gW, 0, none⟩) T.length cW) ∧ wz.cell? ⟨gW, k * 3 + 1, none⟩ = some (.int .i64 ((loc k).addr : Int)) ∧ wz.cell? ⟨sb, 2, none⟩ = some (.int .i64 (i : Int)) ∧ wz.cell? ⟨vb, 0, none⟩ = some (.int .i64 v.k) ∧ wz.cell? ⟨vb, 1, none⟩ = some (.int .i64 v.n) ∧ wz.cell? ⟨vb, 2, none⟩ = some (.string v.s)) (N := [4, 5, 6, 7, 8, 9, 10, 11, 12, 13, 14]) (by kernel_rfl) ?_ (fun hHeld => ?_)
  · (try dsimp only); first | assumption | go_keep
  refine RegU.tk [1, 2, 3, 15, 16] 0 ?_
  refine RegU.tk [2, 3, 15, 16] 1 ?_
  refine RegU.tk [3, 15, 16] 2 ?_
  refine RegU.tk [15, 16] 3 ?_
  refine RegU.tk [5, 6, 7, 9, 10, 11, 15, 16] 4 ?_
  refine RegU.tk [6, 7, 9, 10, 11, 15, 16] 5 ?_
  refine RegU.tk [7, 9, 10, 11, 15, 16] 6 ?_
  refine RegU.tk [9, 10, 11, 15, 16] 7 ?_
  refine RegU.tk [9, 10, 11, 15, 16] 8 ?_
  refine RegU.tk [10, 11, 15, 16] 9 ?_
  refine RegU.tk [11, 15, 16] 10 ?_
  refine RegU.tk [15, 16] 11 ?_
  refine RegU.tk [13, 15, 16] 12 ?_
  refine RegU.tk [15, 16] 13 ?_
  refine RegU.tk [15, 16] 14 ?_
  refine RegU.one (i := 15) (by kernel_rfl) rfl (fun K hK => ?_)
  go_simp
  refine hset.mono ?_
  rintro e w2 ⟨rfl, rv2, H2, hr2, hi2, hl2, hT2, hrv2⟩
  refine hK.out _ _ ⟨(hT2.cell (p := ⟨zb, 0, none⟩) (World.block_lt_of_cell? w _ z0) nz).trans z0, (hT2.cell (p := ⟨zb, 2, none⟩) (World.block_lt_of_cell? w _ z2) nz).trans z2, (hT2.cell (p := ⟨gW, k * 3 + 1, none⟩) (World.block_lt_of_cell? w _ zw) nW).trans zw, (hT2.cell (p := ⟨sb, 2, none⟩) (World.block_lt_of_cell? w _ s2) hsb).trans s2, (hT2.cell (p := ⟨vb, 0, none⟩) (World.block_lt_of_cell? w _ v0) hvb).trans v0, (hT2.cell (p := ⟨vb, 1, none⟩) (World.block_lt_of_cell? w _ v1) hvb).trans v1, (hT2.cell (p := ⟨vb, 2, none⟩) (World.block_lt_of_cell? w _ v2) hvb).trans v2⟩ (fun hHeld => ?_)
  clear hK K
  try simp only [Act.put, List.setIfInBounds_toArray, List.set_cons_zero, List.set_cons_succ]
  refine RegU.rest [16] [_] (by kernel_rfl) rfl ?_
  go_wp2_with fail
  refine NoPanic.normal ?_
  have hZ2 := zr_turnHeap2 (w := w.drew) (A0.out.drew) hT2 hr2 hrv2
  have y1 : w2.cell? ⟨zb, 1, none⟩ = some (.slice (some ⟨gT, 0, none⟩) T.length cT) := hZ2.cz rfl
  have y2 : w2.cell? ⟨gT, k, none⟩ = some (.pointer (some ⟨t.b, 0, none⟩)) := by
    have h2 := hZ2.things
    simp only at h2
    rw [h2.cellAt k (by omega), List.getElem?_map, hk]
    rfl
  obtain ⟨gI, cI, hiv⟩ := row_slice (hZ2.thing t hkm).2 (by omega)
  have y3 : w2.cell? ⟨t.b, 4, none⟩ = some (.slice (some ⟨gI, 0, none⟩) t.is.length cI) := by
    rw [← hiv]
    exact cell_of_block (hZ2.thing t hkm).1 rfl
  have y4 : w2.cell? ⟨sb, 2, none⟩ = some (.int .i64 (i : Int)) := (hT2.cell (p := ⟨sb, 2, none⟩) (World.block_lt_of_cell? w _ s2) hsb).trans s2
  obtain ⟨y, hy⟩ : ∃ y, t.is[i]? = some y := ⟨_, List.getElem?_eq_getElem hil⟩
  have y5 : w2.cell? ⟨gI, i, none⟩ = some (.int .i64 y) := by
    have h2 := (hZ2.thing t hkm).2
    rw [hiv] at h2
    rw [h2.cellAt i (by omega), List.getElem?_map, hy]
    rfl
  have y6 : w2.frozen? ⟨gI, i, none⟩ = false := by
    have h2 := (hZ2.thing t hkm).2
    rw [hiv] at h2
    rcases h2.2 with ⟨e, _⟩ | ⟨g2, _, _, e, _, hblk, _⟩
    · cases e
    · cases e
      exact frozen_of_block hblk
  have hTw : Turned (fun k => B ≤ k) w w2 := ((Turned.refl (fun k => B ≤ k) w).drew).trans (hT2.mono (fun k hk => A0.out.hr.ge hk))
  have B1 := Lib.hid hZ2
  have B2 := Lib.hid hTw
  have B3 := Lib.hid hi2
  have B4 := Lib.hid hl2
  have B5 := Lib.hid hiv
  clear hZ2 hTw z0 z1 z2 zw s2 v0 v1 v2 hHeld hset hiv hi2 hl2 hr2 hT2 hrv2 hy
  have g1 : decide ((i : Int) < 0) = false := by simp
  have g2 : decide ((t.is.length : Int) ≤ (i : Int)) = false := by simp; omega
  have g3 : (0 : Int) ≤ (i : Int) := by omega
  have g4 : (i : Int) < (t.is.length : Int) := by omega
  go_wp2_with fail
  refine wp_region_noPanic ?_
  go_quiet (fail)
  refine NoPanic.normal ?_
  have x1 : (w2.drewN nq).cell? ⟨zb, 1, none⟩ = some (.slice (some ⟨gT, 0, none⟩) T.length cT) := y1
  have x2 : (w2.drewN nq).cell? ⟨gT, k, none⟩ = some (.pointer (some ⟨t.b, 0, none⟩)) := y2
  have x3 : (w2.drewN nq).cell? ⟨t.b, 4, none⟩ = some (.slice (some ⟨gI, 0, none⟩) t.is.length cI) := y3
  have x4 : (w2.drewN nq).cell? ⟨sb, 2, none⟩ = some (.int .i64 (i : Int)) := y4
  have x5 : (w2.drewN nq).cell? ⟨gI, i, none⟩ = some (.int .i64 y) := y5
  have x6 : (w2.drewN nq).frozen? ⟨gI, i, none⟩ = false := y6
  have D1 := Lib.hid (B1.out.drewN nq)
  have D2 := Lib.hid (B2.out.drewN nq)
  clear y1 y2 y3 y4 y5 y6 g1 g2
  generalize w2.drewN nq = w3 at *
  go_wp2_with fail
  refine wp_region_noPanic ?_
  refine RegU.begin (S := fun wz => wz.cell? ⟨zb, 1, none⟩ = some (.slice (some ⟨gT, 0, none⟩) T.length cT) ∧ wz.cell? ⟨gT, k, none⟩ = some (.pointer (some ⟨t.b, 0, none⟩)) ∧ wz.cell? ⟨t.b, 4, none⟩ = some (.slice (some ⟨gI, 0, none⟩) t.is.length cI) ∧ wz.cell? ⟨sb, 2, none⟩ = some (.int .i64 (i : Int))) (N := [4, 10, 11, 12]) (by kernel_rfl) ?_ (fun hHeld => ?_)
  · (try dsimp only); first | assumption | go_keep
  refine RegU.tk [1, 2, 3, 5, 6, 7, 8, 9, 13, 14] 0 ?_
  refine RegU.tk [2, 3, 5, 6, 7, 8, 9, 13, 14] 1 ?_
  refine RegU.tk [3, 5, 6, 7, 8, 9, 13, 14] 2 ?_
  refine RegU.tk [5, 6, 7, 8, 9, 13, 14] 3 ?_
  refine RegU.tk [5, 6, 7, 8, 9, 13, 14] 4 ?_
  refine RegU.tk [6, 7, 8, 9, 13, 14] 5 ?_
  refine RegU.tk [7, 8, 9, 13, 14] 6 ?_
  refine RegU.tk [8, 9, 13, 14] 7 ?_
  refine RegU.tk [9, 13, 14] 8 ?_
  refine RegU.tk [13, 14] 9 ?_
  refine RegU.tk [11, 13, 14] 10 ?_
  refine RegU.tk [13, 14] 11 ?_
  refine RegU.tk [13, 14] 12 ?_
  refine RegU.tk [14] 13 ?_
  refine RegU.rest [14] [_] (by kernel_rfl) rfl ?_
  have u5 : w3.drew.cell? ⟨gI, i, none⟩ = some (.int .i64 y) := x5
  have u6 : w3.drew.frozen? ⟨gI, i, none⟩ = false := x6
  clear x1 x2 x3 x4 x5 x6 hHeld
  go_wp2_with fail
  refine NoPanic.normal ?_
  go_wp2
  obtain ⟨r1, r2⟩ := zr_setIs (i := i) (x := x) D1.out.drew hk B5.out
  exact A2.out _ _ rfl rfl ⟨_, _, H2, _, _, _, _, r1, zi_set A1.out hk hkh hfm B3.out B4.out, rfl, by rw [List.length_set], B4.out.reml, (D2.out.drew).trans r2⟩
end Go.Proofs.YthbkklnahhdgcaaDoor.PlW

namespace Go.Proofs.YthbkklnahhdgcaaDoor.PlWa
open Go Go.Proofs Go.RowKit Go.Maps Go.Proofs.YthbkklnahhdgcaaDoor.Lib HeapR HeapB HeapC HeapD HeapG HeapH ErrC ChA ChT ChCa ChCc ChE ChH ChI ChL ChN ChO ChR ChW ChZ PlC PlH PlS PlT PlZ PlU PlM PlN PlQ PlV PlO PlX PlY PlYa PlW ChP

variable {w w' : World} {O : Nat → Nat} {B : Nat} {H H' : HS} {T : List Th} {Z : Zn} {nu ol : List Ob} {loc : Nat → Ob}
theorem SetDone.pre {w0 : World} {zb : Nat × Nat} (h : SetDone w B zb H T Z w') (ht : Turned (fun k => B ≤ k) w0 w) : SetDone w0 B zb H T Z w' := by
  obtain ⟨a, b, c, d, e, f, g, h1, h2, h3, h4, h5, h6⟩ := h
  exact ⟨a, b, c, d, e, f, g, h1, h2, h3, h4, h5, ht.trans h6⟩

theorem sets_tail {Q : Exit → Act → World → Prop} {u1 u2 u4 u6 u9 Ja Jb Jc Jd Je Jf Jg Jh Ji Jj Jk Jl Jm Jn Jo Jp Jq Jr Js Jt Ju Jv Jw Jx Jy Jz Qa Qb Qc Qd Qe Qf Qg Qh Qi Qj Qk Ql Qm Qn Qo Qp Qq Qr Qs Qt Qu Qv Qw Qx Qy Qz Xe Xg Xh Xi Xj Xk Xn Xo Xp Xq Xt Xu Xv Xx Xy Xz Yg Yh Yi Yj Yk Yl Ym Yn Yo Yp Yq Yr Ys Yt Yu Yv Yw Yx Yy Yz Ua Ub Uc Ud Ue Uf Ug Uh Ui Uj Uk Ul Um Un Uo Up Uq Ur : Value} (zb hb nb mb gT cT gW cW : Nat) (ov rv ev kv : Value) (h : ZR w O B ⟨zb, hb, nb, mb, ov, rv, .slice (some ⟨gT, 0, none⟩) T.length cT, .slice (some ⟨gW, 0, none⟩) T.length cW, ev, kv⟩ H T Z) (hz : ZI H nu ol T Z loc)
    (sb k vb : Nat) (b x : Int) (v : Vl) {t : Th} (hk : T[k]? = some t) (hkn : t.known = true) (s2 : w.cell? ⟨sb, 2, none⟩ = some (.int .i64 b)) (v0 : w.cell? ⟨vb, 0, none⟩ = some (.int .i64 v.k)) (v1 : w.cell? ⟨vb, 1, none⟩ = some (.int .i64 v.n)) (v2 : w.cell? ⟨vb, 2, none⟩ = some (.string v.s))
    (hsb : ¬ Owns hb nb mb ov rv sb) (hTl : T.length ≤ 1000) (hfm : FM T loc x v) (hvb : ¬ Owns hb nb mb ov rv vb) (hvr : v.k = 4 → ∃ o ∈ nu ++ ol, v.n = (o.addr : Int)) (hrl : H.rem.length ≤ big)
    (hQ : ∀ (a' : Act) (w' : World), a'.tmps.getD 4 undef = .bool true → a'.defers = [] → SetDone w B (zb, hb) H T Z w' → Q .ret a' w') :
    Code.wp Tryd.prog (Cut.piece Tryd.f72 (Cut.tail 7)) Q ⟨#[(.pointer (some ⟨zb,0,none⟩)),u1,u2,(.pointer (some ⟨sb,0,none⟩)),u4,(.int .i64 (k : Int)),u6,(.pointer (some ⟨vb,0,none⟩)),(.int .i64 x),u9,Ja,Jb,Jc,Jd,Je,Jf,Jg,Jh,Ji,Jj,Jk,Jl,Jm,Jn,Jo,Jp,Jq,Jr,Js,Jt,Ju,Jv,Jw,Jx,Jy,Jz,Qa,Qb,Qc,Qd,Qe,Qf,Qg,Qh,Qi,Qj,Qk,Ql,Qm,Qn,Qo,Qp,Qq,Qr,Qs,Qt,Qu,Qv,Qw,Qx,Qy,Qz,Xe,Xg,Xh,Xi,Xj,Xk,Xn,Xo,Xp,Xq,Xt,Xu,Xv,Xx,Xy,Xz,Yg,Yh,Yi,Yj,Yk,Yl,Ym,Yn,Yo,Yp,Yq,Yr,Ys,Yt,Yu,Yv,Yw,Yx,Yy,Yz,Ua,Ub,Uc,Ud,Ue,Uf,Ug,Uh,Ui,Uj,Uk,Ul,Um,Un,Uo,Up,Uq,Ur], []⟩ w := by
  by_cases h1 : b < 0 ∨ (t.is.length : Int) ≤ b
  · exact sets_out zb hb nb mb gT cT gW cW ov rv ev kv h hz sb k vb b x v hk hkn s2 v0 v1 v2 hsb hTl h1 hQ
  · have h2 : 0 ≤ b := Int.not_lt.mp (fun e => h1 (.inl e))
    have h3 : b < (t.is.length : Int) := Int.not_le.mp (fun e => h1 (.inr e))
    exact sets_in zb hb nb mb gT cT gW cW ov rv ev kv h hz sb k vb b x v hk hkn s2 v0 v1 v2 hsb hTl b.toNat (by omega) (by omega) hfm hvb hvr hrl hQ

variable {w0 : World}
theorem sets_v {Q : Exit → Act → World → Prop} {u1 u2 u4 u9 Ja Jb Jc Jd Je Jf Jg Jh Ji Jj Jk Jl Jm Jn Jo Jp Jq Jr Js Jt Ju Jv Jw Jx Jy Jz Qa Qb Qc Qd Qe Qf Qg Qh Qi Qj Qk Ql Qm Qn Qo Qp Qq Qr Qs Qt Qu Qv Qw Qx Qy Qz Xe Xg Xh Xi Xj Xk Xn Xo Xp Xq Xt Xu Xv Xx Xy Xz Yg Yh Yi Yj Yk Yl Ym Yn Yo Yp Yq Yr Ys Yt Yu Yv Yw Yx Yy Yz Ua Ub Uc Ud Ue Uf Ug Uh Ui Uj Uk Ul Um Un Uo Up Uq Ur : Value} (zb hb nb mb gT cT gW cW gK cK : Nat) (ov rv ev : Value) (h : ZR w0 O B ⟨zb, hb, nb, mb, ov, rv, .slice (some ⟨gT, 0, none⟩) T.length cT, .slice (some ⟨gW, 0, none⟩) T.length cW, ev, .slice (some ⟨gK, 0, none⟩) T.length cK⟩ H T Z) (hz : ZI H nu ol T Z loc) (hb0 : Below w0.heap.size w0 w)
    (sb k vb j : Nat) (b c : Int) (s2 : w.cell? ⟨sb, 2, none⟩ = some (.int .i64 b)) (hv : w.heap[vb]? = some (.cells #[.int .i64 2, .int .i64 c, .string ByteArray.empty] 28 (0, 0)))
    (hvl : w0.heap.size ≤ vb) (hsv : sb ≠ vb) (hTl : T.length ≤ 1000)
    (hQ : ∀ (y38 y39 y40 y41 y42 y43 y44 y45 y46 y47 y48 y49 y50 y51 y52 y53 y54 y55 y56 y57 y58 y59 y60 y61 y62 : Value) (v : Vl) (x : Int) (w' : World), Below w0.heap.size w0 w' → w'.cell? ⟨sb, 2, none⟩ = some (.int .i64 b) → w'.cell? ⟨vb, 0, none⟩ = some (.int .i64 v.k) → w'.cell? ⟨vb, 1, none⟩ = some (.int .i64 v.n) → w'.cell? ⟨vb, 2, none⟩ = some (.string v.s) →
      FM T loc x v → (v.k = 4 → ∃ o ∈ nu ++ ol, v.n = (o.addr : Int)) → Q .normal ⟨#[(.pointer (some ⟨zb,0,none⟩)),u1,u2,(.pointer (some ⟨sb,0,none⟩)),u4,(.int .i64 (k : Int)),(.int .i64 (j : Int)),(.pointer (some ⟨vb,0,none⟩)),(.int .i64 x),u9,Ja,Jb,Jc,Jd,Je,Jf,Jg,Jh,Ji,Jj,Jk,Jl,Jm,Jn,Jo,Jp,Jq,Jr,Js,Jt,Ju,Jv,Jw,Jx,Jy,Jz,Qa,Qb,(y38),(y39),(y40),(y41),(y42),(y43),(y44),(y45),(y46),(y47),(y48),(y49),(y50),(y51),(y52),(y53),(y54),(y55),(y56),(y57),(y58),(y59),(y60),(y61),(y62),Xg,Xh,Xi,Xj,Xk,Xn,Xo,Xp,Xq,Xt,Xu,Xv,Xx,Xy,Xz,Yg,Yh,Yi,Yj,Yk,Yl,Ym,Yn,Yo,Yp,Yq,Yr,Ys,Yt,Yu,Yv,Yw,Yx,Yy,Yz,Ua,Ub,Uc,Ud,Ue,Uf,Ug,Uh,Ui,Uj,Uk,Ul,Um,Un,Uo,Up,Uq,Ur], []⟩ w') :
    Code.wp Tryd.prog (Cut.piece Tryd.f72 (Cut.tail 5)) Q ⟨#[(.pointer (some ⟨zb,0,none⟩)),u1,u2,(.pointer (some ⟨sb,0,none⟩)),u4,(.int .i64 (k : Int)),(.int .i64 (j : Int)),(.pointer (some ⟨vb,0,none⟩)),(.int .i64 (-1)),u9,Ja,Jb,Jc,Jd,Je,Jf,Jg,Jh,Ji,Jj,Jk,Jl,Jm,Jn,Jo,Jp,Jq,Jr,Js,Jt,Ju,Jv,Jw,Jx,Jy,Jz,Qa,Qb,Qc,Qd,Qe,Qf,Qg,Qh,Qi,Qj,Qk,Ql,Qm,Qn,Qo,Qp,Qq,Qr,Qs,Qt,Qu,Qv,Qw,Qx,Qy,Qz,Xe,Xg,Xh,Xi,Xj,Xk,Xn,Xo,Xp,Xq,Xt,Xu,Xv,Xx,Xy,Xz,Yg,Yh,Yi,Yj,Yk,Yl,Ym,Yn,Yo,Yp,Yq,Yr,Ys,Yt,Yu,Yv,Yw,Yx,Yy,Yz,Ua,Ub,Uc,Ud,Ue,Uf,Ug,Uh,Ui,Uj,Uk,Ul,Um,Un,Uo,Up,Uq,Ur], []⟩ w := by
  conv => arg 2; whnf
  have v0 : w.cell? ⟨vb, 0, none⟩ = some (.int .i64 2) := cell_of_block hv rfl
  have v1 : w.cell? ⟨vb, 1, none⟩ = some (.int .i64 c) := cell_of_block hv rfl
  have v2 : w.cell? ⟨vb, 2, none⟩ = some (.string ByteArray.empty) := cell_of_block hv rfl
  have f0 : w.frozen? ⟨vb, 0, none⟩ = false := frozen_of_block hv
  have f1 : w.frozen? ⟨vb, 1, none⟩ = false := frozen_of_block hv
  have f2 : w.frozen? ⟨vb, 2, none⟩ = false := frozen_of_block hv
  have hZ := h.below hb0
  have z1 : w.cell? ⟨zb, 1, none⟩ = some (.slice (some ⟨gT, 0, none⟩) T.length cT) := hZ.cz rfl
  have z2 : w.cell? ⟨zb, 2, none⟩ = some (.slice (some ⟨gW, 0, none⟩) T.length cW) := hZ.cz rfl
  have z4 : w.cell? ⟨zb, 4, none⟩ = some (.slice (some ⟨gK, 0, none⟩) T.length cK) := hZ.cz rfl
  have A0 := Lib.hid h
  have A1 := Lib.hid hz
  have A2 := Lib.hid hQ
  have A3 := Lib.hid hZ
  have A4 := Lib.hid hb0
  have A6 := Lib.hid hv
  clear h hz hQ hZ hb0 hv
  by_cases hj : j < T.length
  · obtain ⟨u, hu⟩ : ∃ u, T[j]? = some u := ⟨_, List.getElem?_eq_getElem hj⟩
    have j0 : (0 : Int) ≤ (j : Int) := by omega
    have j1 : (j : Int) < (T.length : Int) := by omega
    have g1 : decide ((j : Int) < (T.length : Int)) = true := by simpa using hj
    have zk : w.cell? ⟨gK, j, none⟩ = some (.bool u.known) := by
      have h2 := A3.out.known
      simp only at h2
      rw [h2.cellAt j (by omega), List.getElem?_map, hu]
      rfl
    cases huk : u.known with
    | true =>
      rw [huk] at zk
      obtain ⟨hkh, hkw⟩ := A1.out.known j u hu huk
      have w0' : w.cell? ⟨gW, j * 3, none⟩ = some (.int .i64 4) := by
        have h2 := A3.out.wher
        simp only at h2
        rw [h2.cellAt (j * 3) (by omega)]
        have h3 := wVals_get hu (j := 0) (by omega)
        rw [Nat.add_zero] at h3
        rw [h3, hkw]
        rfl
      have w1' : w.cell? ⟨gW, j * 3 + 1, none⟩ = some (.int .i64 ((loc j).addr : Int)) := by
        have h2 := A3.out.wher
        simp only at h2
        rw [h2.cellAt (j * 3 + 1) (by omega), wVals_get hu (by omega), hkw]
        rfl
      have w2' : w.cell? ⟨gW, j * 3 + 2, none⟩ = some (.string ByteArray.empty) := by
        have h2 := A3.out.wher
        simp only at h2
        rw [h2.cellAt (j * 3 + 2) (by omega), wVals_get hu (by omega), hkw]
        rfl
      have k1 : IntKind.i64.wrap ((j : Int) + 1) = (j : Int) + 1 := IntWalk.i64_in _ (by omega)
      have B1 := Lib.hid (A1.out.obj j u hu hkh).1
      have B2 := Lib.hid hkh
      clear hkw hkh
      go_wp2_with fail
      have hB := blk_set (i := 2) (blk_set (i := 1) (blk_set (i := 0) A6.out (.int .i64 4)) (.int .i64 ((loc j).addr : Int))) (.string ByteArray.empty)
      refine A2.out _ _ _ _ _ _ _ _ _ _ _ _ _ _ _ _ _ _ _ _ _ _ _ _ _ (refV (loc j)) ((j : Int) + 1) _ (((A4.out.setCell hvl _).setCell hvl _).setCell hvl _) ?_ (cell_of_block hB rfl) (cell_of_block hB rfl) (cell_of_block hB rfl) (.inr (.inr ⟨j, u, rfl, hu, B2.out, rfl⟩)) (fun _ => ⟨_, B1.out, rfl⟩)
      rw [cell_set_out hsv, cell_set_out hsv, cell_set_out hsv]
      exact s2
    | false =>
      rw [huk] at zk
      go_wp2_with fail
      exact A2.out _ _ _ _ _ _ _ _ _ _ _ _ _ _ _ _ _ _ _ _ _ _ _ _ _ ⟨2, c, ByteArray.empty⟩ (-1) w A4.out s2 v0 v1 v2 (.inr (.inl ⟨by decide, rfl⟩)) (fun h1 => absurd (show (2 : Int) = 4 from h1) (by decide))
  · have g1 : decide ((j : Int) < (T.length : Int)) = false := by simpa using hj
    go_wp2_with fail
    exact A2.out _ _ _ _ _ _ _ _ _ _ _ _ _ _ _ _ _ _ _ _ _ _ _ _ _ ⟨2, c, ByteArray.empty⟩ (-1) w A4.out s2 v0 v1 v2 (.inr (.inl ⟨by decide, rfl⟩)) (fun h1 => absurd (show (2 : Int) = 4 from h1) (by decide))

end Go.Proofs.YthbkklnahhdgcaaDoor.PlWa
