/-
  Package heap's collector: Minor's loops over roots, and over what is remembered.
-/
import Derived.Test.YthbkklnahhdgcaaDoorPG04
import Derived.Lib.Hide
import Derived.Maps.RangeWalk
set_option maxRecDepth 100000
set_option maxHeartbeats 4000000
namespace Go.Proofs.YthbkklnahhdgcaaDoor.ChK
open Go Go.Proofs Go.RowKit Go.Proofs.YthbkklnahhdgcaaDoor.Lib HeapR HeapA ChA ChB ChT ChCa ChCc ChCd ChD ChE ChF ChG ChH ChI ChJ

/-- What holds at each round over roots. -/
def RelR (p : Par) (tv0 : Value) (w : World) (L0 : List Ob) (P : Nat → Bool) (rs : List (Nat × Nat)) (f : Nat × Nat → Vl) (i : Nat) (wr : World) : Prop := ∃ tv K, Half p tv0 w L0 P rs f i wr tv K

def InvR (p : Par) (oa : Option Addr) (_rb _ro c : Nat) (tv0 : Value) (w : World) (L0 : List Ob) (P : Nat → Bool) (rs : List (Nat × Nat)) (f : Nat × Nat → Vl) (u0 u1 u2 u3 u4 u5 u7 u9 Ja Jb Jc Jd Je Jf Jg Jh Ji Jj Jk Jl Jm Jn Jo Jp Jq Jr Js Jt Ju Jv Jw Jx Jy Jz Qa Qb Qc Qn Qo Qp Qq Qr Qs Qt Qu Qv Qw Qx Qy Qz Xe Xg Xh Xi Xj Xk Xn Xo Xp Xq Xt Xu Xv Xx Xy Xz Yg Yh Yi Yj Yk Yl Ym Yn Yo Yp Yq Yr Ys Yt Yu Yv Yw Yx Yy Yz Ua Ub Uc Ud Ue Uf Ug Uh Ui Uj Uk Ul Um Un Uo Up Uq Ur Us Ut Uu Uv : Value) (a : Act) (wr : World) : Prop :=
  ∃ (i : Nat) (s8 s42 s43 s44 s45 s46 s47 s48 : Value), RelR p tv0 w L0 P rs f i wr ∧ a = ⟨#[u0,u1,u2,u3,u4,u5,(.pointer (some ⟨p.kb,0,none⟩)),u7,s8,u9,Ja,Jb,Jc,Jd,Je,Jf,Jg,Jh,Ji,Jj,Jk,Jl,Jm,Jn,Jo,Jp,Jq,Jr,Js,Jt,Ju,Jv,Jw,Jx,Jy,Jz,Qa,Qb,Qc,(.slice oa rs.length c),(.int .i64 (rs.length : Int)),(.int .i64 (i : Int)),s42,s43,s44,s45,s46,s47,s48,Qn,Qo,Qp,Qq,Qr,Qs,Qt,Qu,Qv,Qw,Qx,Qy,Qz,Xe,Xg,Xh,Xi,Xj,Xk,Xn,Xo,Xp,Xq,Xt,Xu,Xv,Xx,Xy,Xz,Yg,Yh,Yi,Yj,Yk,Yl,Ym,Yn,Yo,Yp,Yq,Yr,Ys,Yt,Yu,Yv,Yw,Yx,Yy,Yz,Ua,Ub,Uc,Ud,Ue,Uf,Ug,Uh,Ui,Uj,Uk,Ul,Um,Un,Uo,Up,Uq,Ur,Us,Ut,Uu,Uv], []⟩
def muR (n : Nat) (a : Act) (_ : World) : Nat := n - (intOf (a.tmps.getD 41 undef)).toNat

theorem roots_loop {p : Par} (hp : p.OK) {Q : Exit → Act → World → Prop} (u0 u1 u2 u3 u4 u5 u7 u8 u9 Ja Jb Jc Jd Je Jf Jg Jh Ji Jj Jk Jl Jm Jn Jo Jp Jq Jr Js Jt Ju Jv Jw Jx Jy Jz Qa Qb Qc Qg Qh Qi Qj Qk Ql Qm Qn Qo Qp Qq Qr Qs Qt Qu Qv Qw Qx Qy Qz Xe Xg Xh Xi Xj Xk Xn Xo Xp Xq Xt Xu Xv Xx Xy Xz Yg Yh Yi Yj Yk Yl Ym Yn Yo Yp Yq Yr Ys Yt Yu Yv Yw Yx Yy Yz Ua Ub Uc Ud Ue Uf Ug Uh Ui Uj Uk Ul Um Un Uo Up Uq Ur Us Ut Uu Uv : Value) (oa : Option Addr) (rb ro c : Nat) (tv0 : Value) (w : World) (L0 : List Ob) (P : Nat → Bool) (rs : List (Nat × Nat)) (f : Nat × Nat → Vl)
    (hmj : p.maj = false) (h0 : Half p tv0 w L0 P rs f 0 w tv0 []) (hA : RootsApart rs) (hlen : rs.length ≤ big) (hre : ∀ (i : Nat) (a : Nat × Nat), rs[i]? = some a → oa = some ⟨rb, ro, none⟩ ∧ w.cell? ⟨rb, ro + i, none⟩ = some (.pointer (some ⟨a.1, a.2, none⟩)) ∧ ¬ Tset p tv0 rb ∧ (∀ b ∈ rs, b.1 ≠ rb))
    (hn : ∀ a ∈ rs, (f a).k = 4 → p.from_ (f a).n = true → ∃ o, Leads p o ∧ (f a).n = (o.addr : Int))
    (hQ : ∀ (s8 s42 s43 s44 s45 s46 s47 s48 : Value) (w' : World), RelR p tv0 w L0 P rs f rs.length w' → Q (.exit 0) ⟨#[u0,u1,u2,u3,u4,u5,(.pointer (some ⟨p.kb,0,none⟩)),u7,s8,u9,Ja,Jb,Jc,Jd,Je,Jf,Jg,Jh,Ji,Jj,Jk,Jl,Jm,Jn,Jo,Jp,Jq,Jr,Js,Jt,Ju,Jv,Jw,Jx,Jy,Jz,Qa,Qb,Qc,(.slice oa rs.length c),(.int .i64 (rs.length : Int)),(.int .i64 (rs.length : Int)),s42,s43,s44,s45,s46,s47,s48,Qn,Qo,Qp,Qq,Qr,Qs,Qt,Qu,Qv,Qw,Qx,Qy,Qz,Xe,Xg,Xh,Xi,Xj,Xk,Xn,Xo,Xp,Xq,Xt,Xu,Xv,Xx,Xy,Xz,Yg,Yh,Yi,Yj,Yk,Yl,Ym,Yn,Yo,Yp,Yq,Yr,Ys,Yt,Yu,Yv,Yw,Yx,Yy,Yz,Ua,Ub,Uc,Ud,Ue,Uf,Ug,Uh,Ui,Uj,Uk,Ul,Um,Un,Uo,Up,Uq,Ur,Us,Ut,Uu,Uv], []⟩ w') :
    Code.wp Tryd.prog (Cut.piece Tryd.f93 (Cut.loop 6)) Q ⟨#[u0,u1,u2,u3,u4,u5,(.pointer (some ⟨p.kb,0,none⟩)),u7,u8,u9,Ja,Jb,Jc,Jd,Je,Jf,Jg,Jh,Ji,Jj,Jk,Jl,Jm,Jn,Jo,Jp,Jq,Jr,Js,Jt,Ju,Jv,Jw,Jx,Jy,Jz,Qa,Qb,Qc,(.slice oa rs.length c),(.int .i64 (rs.length : Int)),(.int .i64 (0 : Int)),Qg,Qh,Qi,Qj,Qk,Ql,Qm,Qn,Qo,Qp,Qq,Qr,Qs,Qt,Qu,Qv,Qw,Qx,Qy,Qz,Xe,Xg,Xh,Xi,Xj,Xk,Xn,Xo,Xp,Xq,Xt,Xu,Xv,Xx,Xy,Xz,Yg,Yh,Yi,Yj,Yk,Yl,Ym,Yn,Yo,Yp,Yq,Yr,Ys,Yt,Yu,Yv,Yw,Yx,Yy,Yz,Ua,Ub,Uc,Ud,Ue,Uf,Ug,Uh,Ui,Uj,Uk,Ul,Um,Un,Uo,Up,Uq,Ur,Us,Ut,Uu,Uv], []⟩ w := by
  conv => arg 2; whnf
  refine wp_loop (InvR p oa rb ro c tv0 w L0 P rs f u0 u1 u2 u3 u4 u5 u7 u9 Ja Jb Jc Jd Je Jf Jg Jh Ji Jj Jk Jl Jm Jn Jo Jp Jq Jr Js Jt Ju Jv Jw Jx Jy Jz Qa Qb Qc Qn Qo Qp Qq Qr Qs Qt Qu Qv Qw Qx Qy Qz Xe Xg Xh Xi Xj Xk Xn Xo Xp Xq Xt Xu Xv Xx Xy Xz Yg Yh Yi Yj Yk Yl Ym Yn Yo Yp Yq Yr Ys Yt Yu Yv Yw Yx Yy Yz Ua Ub Uc Ud Ue Uf Ug Uh Ui Uj Uk Ul Um Un Uo Up Uq Ur Us Ut Uu Uv) (muR rs.length) ?_ (fun a' wr hI => ?_)
  · exact ⟨0, u8, Qg, Qh, Qi, Qj, Qk, Ql, Qm, ⟨tv0, [], h0⟩, rfl⟩
  obtain ⟨i, s8, s42, s43, s44, s45, s46, s47, s48, hI⟩ := hI
  obtain ⟨⟨tv, K, hH⟩, rfl⟩ := hI
  have hi := hH.le
  by_cases hil : i < rs.length
  · have hil' : decide ((i : Int) < (rs.length : Int)) = true := by simpa using hil
    have hil2 : (i : Int) < (rs.length : Int) := by omega
    have hi0 : (0 : Int) ≤ (i : Int) := by omega
    obtain ⟨a, ha⟩ : ∃ a, rs[i]? = some a := ⟨_, List.getElem?_eq_getElem hil⟩
    obtain ⟨rfl, hc, hT, hB⟩ := hre i a ha
    have har := List.mem_of_getElem? ha
    have hcr : wr.cell? ⟨rb, ro + i, none⟩ = some (.pointer (some ⟨a.1, a.2, none⟩)) := (World.cell?_of_block (a := ⟨rb, ro + i, none⟩) (hH.grew.1.block rb (World.block_lt_of_cell? w _ hc) (fun h => h.elim hT (fun ⟨b, hb, e⟩ => hB b hb e)))).trans hc
    obtain ⟨q0, q1, q2, q3⟩ := hH.roots.cell a har
    have hcall := move_any hp hH.cr a.1 a.2 _ _ q0 q1 q3 (hH.roots.out a har) (fun g1 g2 => by
      by_cases hat : a ∈ rs.take i
      · rw [if_pos hat] at g1 g2
        exact absurd ⟨g1, g2⟩ (newN_again hmj _ _ _)
      · rw [if_neg hat] at g1 g2 ⊢
        exact hn a har g1 g2)
    have b3 : i + 1 ≤ big := by omega
    clear hre hn q0 q1 q2 q3 hc
    have c3 : IntKind.i64.wrap ((i : Int) + 1) = (i : Int) + 1 := wrapk_two i 1 b3
    have c6 : wrap64 ((i : Int) + 1) = (i : Int) + 1 := wrap_two i 1 b3
    go_wp2_with fail
    refine hcall.mono ?_
    rintro e w2 ⟨rfl, hM⟩
    obtain ⟨tv2, K2, hH2⟩ := half_minor hmj hH hA ha hM
    clear hcall hM hH
    go_wp2_with fail
    clear c3 c6
    refine ⟨⟨i + 1, _, _, _, _, _, _, _, _, ⟨tv2, K2, hH2⟩, rfl⟩, ?_⟩
    simp [muR, intOf]
    omega
  · have hie : i = rs.length := by omega
    subst hie
    have hil' : decide ((rs.length : Int) < (rs.length : Int)) = false := by simp
    clear hre hn
    go_wp2
    exact ⟨tv, K, hH⟩

/-- What holds at each round over what is remembered. -/
def RelM (p : Par) (tv0 : Value) (w : World) (L0 : List Ob) (P : Nat → Bool) (rem : List Int) (i : Nat) (wr : World) : Prop :=
  i ≤ rem.length ∧ ∃ tv K P', CR p wr tv (L0 ++ K) P' ∧ (∀ j : Nat, P' j = true ↔ P j = true ∨ ((p.room + j : Nat) : Int) ∈ rem.take i) ∧ Grew p tv0 w tv wr
theorem mem_take_succ' {rs : List Int} {i : Nat} {a b : Int} (h : rs[i]? = some a) : b ∈ rs.take (i + 1) ↔ b ∈ rs.take i ∨ b = a := by
  rw [List.take_add_one, h]
  simp

theorem wrapk_one {j : Nat} (h : j ≤ big) : IntKind.i64.wrap (j : Int) = (j : Int) := by
  unfold big at h
  exact IntWalk.i64_in _ (by omega)
theorem wrap_one {j : Nat} (h : j ≤ big) : wrap64 (j : Int) = (j : Int) := by
  unfold big at h
  unfold wrap64
  omega

def InvM (p : Par) (oa : Option Addr) (_rb c : Nat) (tv0 : Value) (w : World) (L0 : List Ob) (P : Nat → Bool) (rem : List Int) (u0 u1 u3 u4 u5 u7 u8 u9 Jb Jc Jd Je Jf Jg Jh Ji Jj Jk Jl Jm Jn Jo Jp Jq Jr Js Jt Ju Jv Jw Jx Jy Jz Qa Qb Qc Qd Qe Qf Qg Qh Qi Qj Qk Ql Qm Qn Qo Qp Xk Xn Xo Xp Xq Xt Xu Xv Xx Xy Xz Yg Yh Yi Yj Yk Yl Ym Yn Yo Yp Yq Yr Ys Yt Yu Yv Yw Yx Yy Yz Ua Ub Uc Ud Ue Uf Ug Uh Ui Uj Uk Ul Um Un Uo Up Uq Ur Us Ut Uu Uv : Value) (a : Act) (wr : World) : Prop :=
  ∃ (i : Nat) (s10 s55 s56 s57 s58 s59 s60 s61 s62 s63 s64 s65 s66 : Value), RelM p tv0 w L0 P rem i wr ∧ a = ⟨#[u0,u1,(.pointer (some ⟨p.hv,0,none⟩)),u3,u4,u5,(.pointer (some ⟨p.kb,0,none⟩)),u7,u8,u9,s10,Jb,Jc,Jd,Je,Jf,Jg,Jh,Ji,Jj,Jk,Jl,Jm,Jn,Jo,Jp,Jq,Jr,Js,Jt,Ju,Jv,Jw,Jx,Jy,Jz,Qa,Qb,Qc,Qd,Qe,Qf,Qg,Qh,Qi,Qj,Qk,Ql,Qm,Qn,Qo,Qp,(.slice oa rem.length c),(.int .i64 (rem.length : Int)),(.int .i64 (i : Int)),s55,s56,s57,s58,s59,s60,s61,s62,s63,s64,s65,s66,Xk,Xn,Xo,Xp,Xq,Xt,Xu,Xv,Xx,Xy,Xz,Yg,Yh,Yi,Yj,Yk,Yl,Ym,Yn,Yo,Yp,Yq,Yr,Ys,Yt,Yu,Yv,Yw,Yx,Yy,Yz,Ua,Ub,Uc,Ud,Ue,Uf,Ug,Uh,Ui,Uj,Uk,Ul,Um,Un,Uo,Up,Uq,Ur,Us,Ut,Uu,Uv], []⟩
def muM (n : Nat) (a : Act) (_ : World) : Nat := n - (intOf (a.tmps.getD 54 undef)).toNat

theorem rem_loop {p : Par} (hp : p.OK) {Q : Exit → Act → World → Prop} (u0 u1 u3 u4 u5 u7 u8 u9 Ja Jb Jc Jd Je Jf Jg Jh Ji Jj Jk Jl Jm Jn Jo Jp Jq Jr Js Jt Ju Jv Jw Jx Jy Jz Qa Qb Qc Qd Qe Qf Qg Qh Qi Qj Qk Ql Qm Qn Qo Qp Qt Qu Qv Qw Qx Qy Qz Xe Xg Xh Xi Xj Xk Xn Xo Xp Xq Xt Xu Xv Xx Xy Xz Yg Yh Yi Yj Yk Yl Ym Yn Yo Yp Yq Yr Ys Yt Yu Yv Yw Yx Yy Yz Ua Ub Uc Ud Ue Uf Ug Uh Ui Uj Uk Ul Um Un Uo Up Uq Ur Us Ut Uu Uv : Value) (oa : Option Addr) (rb c : Nat) (tv0 : Value) (w : World) (L0 : List Ob) (P : Nat → Bool) (rem : List Int)
    (hmj : p.maj = false) (h0 : CR p w tv0 L0 P) (hlen : rem.length ≤ big) (hre : ∀ (i : Nat) (r : Int), rem[i]? = some r → oa = some ⟨rb, 0, none⟩ ∧ w.cell? ⟨rb, i, none⟩ = some (.int .i64 r) ∧ ¬ Tset p tv0 rb)
    (hn : ∀ r ∈ rem, ∃ (j : Nat) (x : HCell), r = ((p.room + j : Nat) : Int) ∧ p.base[j]? = some x ∧ (x.vk = 4 → p.from_ x.vn = true → ∃ o, Leads p o ∧ x.vn = (o.addr : Int)))
    (hQ : ∀ (s10 s55 s56 s57 s58 s59 s60 s61 s62 s63 s64 s65 s66 : Value) (w' : World), RelM p tv0 w L0 P rem rem.length w' → Q (.exit 2) ⟨#[u0,u1,(.pointer (some ⟨p.hv,0,none⟩)),u3,u4,u5,(.pointer (some ⟨p.kb,0,none⟩)),u7,u8,u9,s10,Jb,Jc,Jd,Je,Jf,Jg,Jh,Ji,Jj,Jk,Jl,Jm,Jn,Jo,Jp,Jq,Jr,Js,Jt,Ju,Jv,Jw,Jx,Jy,Jz,Qa,Qb,Qc,Qd,Qe,Qf,Qg,Qh,Qi,Qj,Qk,Ql,Qm,Qn,Qo,Qp,(.slice oa rem.length c),(.int .i64 (rem.length : Int)),(.int .i64 (rem.length : Int)),s55,s56,s57,s58,s59,s60,s61,s62,s63,s64,s65,s66,Xk,Xn,Xo,Xp,Xq,Xt,Xu,Xv,Xx,Xy,Xz,Yg,Yh,Yi,Yj,Yk,Yl,Ym,Yn,Yo,Yp,Yq,Yr,Ys,Yt,Yu,Yv,Yw,Yx,Yy,Yz,Ua,Ub,Uc,Ud,Ue,Uf,Ug,Uh,Ui,Uj,Uk,Ul,Um,Un,Uo,Up,Uq,Ur,Us,Ut,Uu,Uv], []⟩ w') :
    Code.wp Tryd.prog (Cut.piece Tryd.f93 (Cut.loop 11)) Q ⟨#[u0,u1,(.pointer (some ⟨p.hv,0,none⟩)),u3,u4,u5,(.pointer (some ⟨p.kb,0,none⟩)),u7,u8,u9,Ja,Jb,Jc,Jd,Je,Jf,Jg,Jh,Ji,Jj,Jk,Jl,Jm,Jn,Jo,Jp,Jq,Jr,Js,Jt,Ju,Jv,Jw,Jx,Jy,Jz,Qa,Qb,Qc,Qd,Qe,Qf,Qg,Qh,Qi,Qj,Qk,Ql,Qm,Qn,Qo,Qp,(.slice oa rem.length c),(.int .i64 (rem.length : Int)),(.int .i64 (0 : Int)),Qt,Qu,Qv,Qw,Qx,Qy,Qz,Xe,Xg,Xh,Xi,Xj,Xk,Xn,Xo,Xp,Xq,Xt,Xu,Xv,Xx,Xy,Xz,Yg,Yh,Yi,Yj,Yk,Yl,Ym,Yn,Yo,Yp,Yq,Yr,Ys,Yt,Yu,Yv,Yw,Yx,Yy,Yz,Ua,Ub,Uc,Ud,Ue,Uf,Ug,Uh,Ui,Uj,Uk,Ul,Um,Un,Uo,Up,Uq,Ur,Us,Ut,Uu,Uv], []⟩ w := by
  conv => arg 2; whnf
  refine wp_loop (InvM p oa rb c tv0 w L0 P rem u0 u1 u3 u4 u5 u7 u8 u9 Jb Jc Jd Je Jf Jg Jh Ji Jj Jk Jl Jm Jn Jo Jp Jq Jr Js Jt Ju Jv Jw Jx Jy Jz Qa Qb Qc Qd Qe Qf Qg Qh Qi Qj Qk Ql Qm Qn Qo Qp Xk Xn Xo Xp Xq Xt Xu Xv Xx Xy Xz Yg Yh Yi Yj Yk Yl Ym Yn Yo Yp Yq Yr Ys Yt Yu Yv Yw Yx Yy Yz Ua Ub Uc Ud Ue Uf Ug Uh Ui Uj Uk Ul Um Un Uo Up Uq Ur Us Ut Uu Uv) (muM rem.length) ?_ (fun a' wr hI => ?_)
  · exact ⟨0, Ja, Qt, Qu, Qv, Qw, Qx, Qy, Qz, Xe, Xg, Xh, Xi, Xj, ⟨Nat.zero_le _, tv0, [], P, by rw [List.append_nil]; exact h0, fun j => by simp, Grew.refl _ _ _⟩, rfl⟩
  obtain ⟨i, s10, s55, s56, s57, s58, s59, s60, s61, s62, s63, s64, s65, s66, hI⟩ := hI
  obtain ⟨⟨hi, tv, K, P', hC, hP, hG⟩, rfl⟩ := hI
  by_cases hil : i < rem.length
  · have hil' : decide ((i : Int) < (rem.length : Int)) = true := by simpa using hil
    have hil2 : (i : Int) < (rem.length : Int) := by omega
    have hi0 : (0 : Int) ≤ (i : Int) := by omega
    obtain ⟨r, hr⟩ : ∃ r, rem[i]? = some r := ⟨_, List.getElem?_eq_getElem hil⟩
    obtain ⟨rfl, hc, hT⟩ := hre i r hr
    have hrr := List.mem_of_getElem? hr
    obtain ⟨j, x, hrj, hx, hl⟩ := hn r hrr
    have hcr : wr.cell? ⟨rb, i, none⟩ = some (.int .i64 r) := (World.cell?_of_block (a := ⟨rb, i, none⟩) (hG.1.block rb (World.block_lt_of_cell? w _ hc) hT)).trans hc
    have hjl := (List.getElem?_eq_some_iff.1 hx).1
    have hx' : (p.base ++ flat (L0 ++ K))[j]? = some x := by
      rw [List.getElem?_append_left hjl]
      exact hx
    have hcall := field_any hp hC j x hx' hl (fun _ => hmj)
    have c3r : wr.cell? ⟨p.hb, 3, none⟩ = some (.int .i64 (p.room : Int)) := cell_of_block hC.hblk hp.h3
    have hvr : wr.cell? ⟨p.hv, 0, none⟩ = some (.pointer (some ⟨p.hb, 0, none⟩)) := hC.hvar hmj
    have hsz := hp.size
    have b3 : i + 1 ≤ big := by omega
    have bj : j ≤ big := by omega
    have hsub : r - (p.room : Int) = (j : Int) := by omega
    clear hre hn hsz hc
    have d1 : IntKind.i64.wrap (r - (p.room : Int)) = (j : Int) := by rw [hsub]; exact wrapk_one bj
    have d2 : wrap64 (r - (p.room : Int)) = (j : Int) := by rw [hsub]; exact wrap_one bj
    have c3 : IntKind.i64.wrap ((i : Int) + 1) = (i : Int) + 1 := wrapk_two i 1 b3
    have c6 : wrap64 ((i : Int) + 1) = (i : Int) + 1 := wrap_two i 1 b3
    have Hr := Lib.hid hrj
    clear hsub hrj
    go_wp2_with fail
    refine hcall.mono ?_
    rintro e w2 ⟨rfl, tv2, K2, hC2, hT2, ho2⟩
    clear hcall
    go_wp2_with fail
    clear c3 c6 d1 d2
    have hrj := Hr.out
    refine ⟨⟨i + 1, _, _, _, _, _, _, _, _, _, _, _, _, _, ⟨by omega, tv2, K ++ K2, with1 P' j, by rw [← List.append_assoc]; exact hC2, fun q => ?_, hG.trans ⟨hT2, ho2⟩⟩, rfl⟩, ?_⟩
    · rw [mem_take_succ' hr]
      by_cases hq : q = j
      · subst hq
        rw [with1_eq]
        exact ⟨fun _ => Or.inr (Or.inr hrj.symm), fun _ => rfl⟩
      · rw [with1_ne _ hq, hP q]
        constructor
        · exact fun h => h.imp id Or.inl
        · rintro (h | h | h)
          · exact Or.inl h
          · exact Or.inr h
          · omega
    · simp [muM, intOf]
      omega
  · have hie : i = rem.length := by omega
    subst hie
    have hil' : decide ((rem.length : Int) < (rem.length : Int)) = false := by simp
    clear hre hn
    go_wp2
    exact ⟨Nat.le_refl _, tv, K, P', hC, hP, hG⟩

end Go.Proofs.YthbkklnahhdgcaaDoor.ChK

namespace Go.Proofs.YthbkklnahhdgcaaDoor.ChL
open Go Go.Proofs Go.RowKit Go.Maps Go.Proofs.YthbkklnahhdgcaaDoor.Lib HeapR ChCa ChI ChK

/-- A map of integers reads as a function. -/
structure Reads (D : DataW Unit) (g : Int → Option Int) : Prop where
  map : IsMap D
  has_ : ∀ id, Maps.has D (.int .i64 id) = (g id).isSome
  at_ : ∀ id c, g id = some c → ∀ z, D.atKey (.int .i64 id) z = .lit (.int .i64 c)
theorem lit_ne {a b : Int} (h : a ≠ b) : (Lit.int .i64 a) ≠ (Lit.int .i64 b) := fun e => h (by cases e; rfl)
theorem lit_key (a : Int) : WideAt.IsKeyLit (Lit.int .i64 a) := trivial
theorem sameKey_int (a b : Int) : (Lit.int .i64 a).sameKey (.int .i64 b) = decide (a = b) := by
  by_cases h : a = b
  · subst h
    rw [WideAt.sameKey_self (lit_key a)]
    simp
  · rw [sameKey_ne (lit_ne h)]
    simp [h]
theorem reads_empty : Reads (.map []) (fun _ => none) := ⟨isMap_empty, fun _ => rfl, fun _ _ h => by cases h⟩
theorem reads_put {D : DataW Unit} {g : Int → Option Int} (h : Reads D g) (id c : Int) : Reads (D.put (.int .i64 id) (.lit (.int .i64 c))) (fun i => if i = id then some c else g i) := by
  refine ⟨h.map.put _ _, fun i => ?_, fun i d hi z => ?_⟩
  · by_cases he : i = id
    · subst he
      rw [has_put_same h.map (lit_key i), if_pos rfl]
      rfl
    · rw [has_put_other (lit_ne he), if_neg he]
      exact h.has_ i
  · by_cases he : i = id
    · subst he
      rw [if_pos rfl] at hi
      cases hi
      exact atKey_put_same h.map (lit_key i) _ z
    · rw [if_neg he] at hi
      rw [atKey_put_other (lit_ne he)]
      exact h.at_ i d hi z
theorem reads_del {D : DataW Unit} {g : Int → Option Int} (h : Reads D g) (id : Int) : Reads (D.del (.int .i64 id)) (fun i => if i = id then none else g i) := by
  refine ⟨h.map.del _, fun i => ?_, fun i d hi z => ?_⟩
  · by_cases he : i = id
    · subst he
      rw [has_del_same, if_pos rfl]
      rfl
    · rw [has_del_other (lit_ne he), if_neg he]
      exact h.has_ i
  · by_cases he : i = id
    · rw [if_pos he] at hi
      cases hi
    · rw [if_neg he] at hi
      rw [atKey_del_other (lit_ne he)]
      exact h.at_ i d hi z
theorem Reads.congr {D : DataW Unit} {g g' : Int → Option Int} (h : Reads D g) (e : ∀ i, g' i = g i) : Reads D g' := (funext e : g' = g) ▸ h
theorem reads_at {D : DataW Unit} {g : Int → Option Int} (h : Reads D g) {id c : Int} (hc : ∀ z, D.atKey (.int .i64 id) z = .lit (.int .i64 c)) : g id = some c := by
  cases hg : g id with
  | none =>
    have h1 := h.has_ id
    rw [hg] at h1
    have h2 := atKey_of_not_has h1 (.lit (.int .i64 (c + 1)))
    rw [hc] at h2
    injection h2 with h2
    injection h2 with _ h2
    omega
  | some d =>
    have h1 := h.at_ id d hg (.lit (.int .i64 0))
    rw [hc] at h1
    injection h1 with h1
    injection h1 with _ h1
    rw [h1]

/-- What is not below room. -/
def Above (room : Int) : Option Int → Option Int
  | some c => if c < room then none else some c
  | none => none
theorem above_lt {room c : Int} (h : c < room) : Above room (some c) = none := by
  show (if c < room then none else some c) = none
  rw [if_pos h]
theorem above_ge {room c : Int} (h : ¬ c < room) : Above room (some c) = some c := by
  show (if c < room then none else some c) = some c
  rw [if_neg h]
/-- What holds at each round of Minor's loop over the map. -/
def RelD (mb r n : Nat) (room : Int) (g0 : Int → Option Int) (w : World) (_ : Nat) (wr : World) : Prop :=
  ∃ D left cnt g, wr.ranges Tryd.prog 3 (plainElem Tryd.prog 3) mb r n D left cnt ∧ Reads D g ∧ (∀ id, left (.int .i64 id) = true → g id = g0 id) ∧ (∀ id, left (.int .i64 id) = false → g id = Above room (g0 id)) ∧ Turned (fun k => k = mb ∨ k = r) w wr
/-- What it leaves. -/
def RelDe (mb r n : Nat) (room : Int) (g0 : Int → Option Int) (w : World) (w' : World) : Prop :=
  ∃ D, w'.ownsMap Tryd.prog 3 (plainElem Tryd.prog 3) mb n D ∧ Reads D (fun id => Above room (g0 id)) ∧ Turned (fun k => k = mb ∨ k = r) w w'

def InvD (mb r n hv : Nat) (room : Int) (g0 : Int → Option Int) (w : World) (u0 u1 u3 u4 u5 u6 u7 u8 u9 Ja Jd Je Jf Jg Jh Ji Jj Jk Jl Jm Jn Jo Jp Jq Jr Js Jt Ju Jv Jw Jx Jy Jz Qa Qb Qc Qd Qe Qf Qg Qh Qi Qj Qk Ql Qm Qn Qo Qp Qq Qr Qs Qt Qu Qv Qw Qx Qy Qz Xe Xg Xh Xi Xj Xk Xn Xo Xp Xq Xt Xu Yt Yu Yv Yw Yx Yy Yz Ua Ub Uc Ud Ue Uf Ug Uh Ui Uj Uk Ul Um Un Uo Up Uq Ur Us Ut Uu Uv : Value) (a : Act) (wr : World) : Prop :=
  ∃ (s11 s12 s75 s76 s77 s78 s79 s80 s81 s82 s83 s84 s85 s86 s87 s88 s89 s90 : Value), RelD mb r n room g0 w 0 wr ∧ a = ⟨#[u0,u1,(.pointer (some ⟨hv,0,none⟩)),u3,u4,u5,u6,u7,u8,u9,Ja,s11,s12,Jd,Je,Jf,Jg,Jh,Ji,Jj,Jk,Jl,Jm,Jn,Jo,Jp,Jq,Jr,Js,Jt,Ju,Jv,Jw,Jx,Jy,Jz,Qa,Qb,Qc,Qd,Qe,Qf,Qg,Qh,Qi,Qj,Qk,Ql,Qm,Qn,Qo,Qp,Qq,Qr,Qs,Qt,Qu,Qv,Qw,Qx,Qy,Qz,Xe,Xg,Xh,Xi,Xj,Xk,Xn,Xo,Xp,Xq,Xt,Xu,(.pointer (some ⟨r,0,none⟩)),s75,s76,s77,s78,s79,s80,s81,s82,s83,s84,s85,s86,s87,s88,s89,s90,Yt,Yu,Yv,Yw,Yx,Yy,Yz,Ua,Ub,Uc,Ud,Ue,Uf,Ug,Uh,Ui,Uj,Uk,Ul,Um,Un,Uo,Up,Uq,Ur,Us,Ut,Uu,Uv], []⟩

theorem del_loop {Q : Exit → Act → World → Prop} {u0 u1 u3 u4 u5 u6 u7 u8 u9 Ja Jb Jc Jd Je Jf Jg Jh Ji Jj Jk Jl Jm Jn Jo Jp Jq Jr Js Jt Ju Jv Jw Jx Jy Jz Qa Qb Qc Qd Qe Qf Qg Qh Qi Qj Qk Ql Qm Qn Qo Qp Qq Qr Qs Qt Qu Qv Qw Qx Qy Qz Xe Xg Xh Xi Xj Xk Xn Xo Xp Xq Xt Xu Xx Xy Xz Yg Yh Yi Yj Yk Yl Ym Yn Yo Yp Yq Yr Ys Yt Yu Yv Yw Yx Yy Yz Ua Ub Uc Ud Ue Uf Ug Uh Ui Uj Uk Ul Um Un Uo Up Uq Ur Us Ut Uu Uv : Value} (mb r n hv hb : Nat) (room : Int) (g0 : Int → Option Int) (w : World)
    (h0 : RelD mb r n room g0 w 0 w) (hv0 : w.cell? ⟨hv, 0, none⟩ = some (.pointer (some ⟨hb, 0, none⟩))) (c3 : w.cell? ⟨hb, 3, none⟩ = some (.int .i64 room)) (c6 : w.cell? ⟨hb, 6, none⟩ = some (.map (some mb))) (d1 : hv ≠ mb) (d2 : hv ≠ r) (d3 : hb ≠ mb) (d4 : hb ≠ r)
    (hQ : ∀ (s11 s12 s75 s76 s77 s78 s79 s80 s81 s82 s83 s84 s85 s86 s87 s88 s89 s90 : Value) (w' : World), RelDe mb r n room g0 w w' → Q (.exit 4) ⟨#[u0,u1,(.pointer (some ⟨hv,0,none⟩)),u3,u4,u5,u6,u7,u8,u9,Ja,s11,s12,Jd,Je,Jf,Jg,Jh,Ji,Jj,Jk,Jl,Jm,Jn,Jo,Jp,Jq,Jr,Js,Jt,Ju,Jv,Jw,Jx,Jy,Jz,Qa,Qb,Qc,Qd,Qe,Qf,Qg,Qh,Qi,Qj,Qk,Ql,Qm,Qn,Qo,Qp,Qq,Qr,Qs,Qt,Qu,Qv,Qw,Qx,Qy,Qz,Xe,Xg,Xh,Xi,Xj,Xk,Xn,Xo,Xp,Xq,Xt,Xu,(.pointer (some ⟨r,0,none⟩)),s75,s76,s77,s78,s79,s80,s81,s82,s83,s84,s85,s86,s87,s88,s89,s90,Yt,Yu,Yv,Yw,Yx,Yy,Yz,Ua,Ub,Uc,Ud,Ue,Uf,Ug,Uh,Ui,Uj,Uk,Ul,Um,Un,Uo,Up,Uq,Ur,Us,Ut,Uu,Uv], []⟩ w') :
    Code.wp Tryd.prog (Cut.piece Tryd.f93 (Cut.loop 17)) Q ⟨#[u0,u1,(.pointer (some ⟨hv,0,none⟩)),u3,u4,u5,u6,u7,u8,u9,Ja,Jb,Jc,Jd,Je,Jf,Jg,Jh,Ji,Jj,Jk,Jl,Jm,Jn,Jo,Jp,Jq,Jr,Js,Jt,Ju,Jv,Jw,Jx,Jy,Jz,Qa,Qb,Qc,Qd,Qe,Qf,Qg,Qh,Qi,Qj,Qk,Ql,Qm,Qn,Qo,Qp,Qq,Qr,Qs,Qt,Qu,Qv,Qw,Qx,Qy,Qz,Xe,Xg,Xh,Xi,Xj,Xk,Xn,Xo,Xp,Xq,Xt,Xu,(.pointer (some ⟨r,0,none⟩)),Xx,Xy,Xz,Yg,Yh,Yi,Yj,Yk,Yl,Ym,Yn,Yo,Yp,Yq,Yr,Ys,Yt,Yu,Yv,Yw,Yx,Yy,Yz,Ua,Ub,Uc,Ud,Ue,Uf,Ug,Uh,Ui,Uj,Uk,Ul,Um,Un,Uo,Up,Uq,Ur,Us,Ut,Uu,Uv], []⟩ w := by
  conv => arg 2; whnf
  refine wp_loop (InvD mb r n hv room g0 w u0 u1 u3 u4 u5 u6 u7 u8 u9 Ja Jd Je Jf Jg Jh Ji Jj Jk Jl Jm Jn Jo Jp Jq Jr Js Jt Ju Jv Jw Jx Jy Jz Qa Qb Qc Qd Qe Qf Qg Qh Qi Qj Qk Ql Qm Qn Qo Qp Qq Qr Qs Qt Qu Qv Qw Qx Qy Qz Xe Xg Xh Xi Xj Xk Xn Xo Xp Xq Xt Xu Yt Yu Yv Yw Yx Yy Yz Ua Ub Uc Ud Ue Uf Ug Uh Ui Uj Uk Ul Um Un Uo Up Uq Ur Us Ut Uu Uv) (fun _ wr => wr.rangeLeft mb r) ?_ (fun a' wr hI => ?_)
  · exact ⟨Jb, Jc, Xx, Xy, Xz, Yg, Yh, Yi, Yj, Yk, Yl, Ym, Yn, Yo, Yp, Yq, Yr, Ys, h0, rfl⟩
  obtain ⟨s11, s12, s75, s76, s77, s78, s79, s80, s81, s82, s83, s84, s85, s86, s87, s88, s89, s90, hI⟩ := hI
  obtain ⟨⟨D, left, cnt, g, hrg, hR, hl, hnl, hT⟩, rfl⟩ := hI
  have vr : wr.cell? ⟨hv, 0, none⟩ = some (.pointer (some ⟨hb, 0, none⟩)) := (World.cell?_of_block (a := ⟨hv, 0, none⟩) (hT.block hv (World.block_lt_of_cell? w _ hv0) (fun h => h.elim d1 d2))).trans hv0
  have hbr := hT.block hb (World.block_lt_of_cell? w _ c3) (fun h => h.elim d3 d4)
  have c3r : wr.cell? ⟨hb, 3, none⟩ = some (.int .i64 room) := (World.cell?_of_block (a := ⟨hb, 3, none⟩) hbr).trans c3
  have c6r : wr.cell? ⟨hb, 6, none⟩ = some (.map (some mb)) := (World.cell?_of_block (a := ⟨hb, 6, none⟩) hbr).trans c6
  have hmu := hrg.left_eq
  clear hv0 c3 c6 h0
  go_wp2_with (at_next; refine wpList_next_ranges_ii _ rfl _ rfl 3 3 .i64 .i64 (int_keyed Tryd.underlying3) Tryd.underlying3 Tryd.underlying3 mb r n _ _ _ rfl hrg ?_ ?_)
  · intro _ hl0
    clear hmu vr hbr c3r c6r hl
    have hfin : RelDe mb r n room g0 w wr := ⟨D, hrg.owns, hR.congr (fun i => (hnl i (hl0 _)).symm), hT⟩
    clear hnl hl0
    go_wp2
    exact hfin
  · intro x c w1 cnt1 hwx hwc hlx hat hrg1 hlt hg1 hs1 hen
    have hgx : g x = some c := reads_at hR hat
    have hg0 : g0 x = some c := (hl x hlx).symm.trans hgx
    have hT1 : Turned (fun k => k = mb ∨ k = r) w w1 := hT.grown hg1 (fun k hk => Or.inl (Or.inr (Option.some.inj hk).symm))
    have vr1 : w1.cell? ⟨hv, 0, none⟩ = some (.pointer (some ⟨hb, 0, none⟩)) := (World.cell?_of_block (a := ⟨hv, 0, none⟩) (hg1.block hv (World.block_lt_of_cell? wr _ vr) (fun h => d2 (Option.some.inj h)))).trans vr
    have hbr1 := hg1.block hb (World.block_lt_of_cell? wr _ c3r) (fun h => d4 (Option.some.inj h))
    have c3r1 : w1.cell? ⟨hb, 3, none⟩ = some (.int .i64 room) := (World.cell?_of_block (a := ⟨hb, 3, none⟩) hbr1).trans c3r
    have c6r1 : w1.cell? ⟨hb, 6, none⟩ = some (.map (some mb)) := (World.cell?_of_block (a := ⟨hb, 6, none⟩) hbr1).trans c6r
    have hl1 : ∀ id, (left (.int .i64 id) && !(Lit.int .i64 id).sameKey (.int .i64 x)) = true → g id = g0 id := fun id h => hl id (by rw [Bool.and_eq_true] at h; exact h.1)
    have hne : ∀ id, id ≠ x → (left (.int .i64 id) && !(Lit.int .i64 id).sameKey (.int .i64 x)) = left (.int .i64 id) := fun id h => by
      rw [sameKey_int, decide_eq_false h]
      simp
    have hxx : (left (.int .i64 x) && !(Lit.int .i64 x).sameKey (.int .i64 x)) = false := by
      rw [sameKey_int]
      simp
    clear vr hbr c3r c6r hg1 hbr1 hwc hat hrg
    by_cases hcr : c < room
    · have hcd : decide (c < room) = true := by simpa using hcr
      have hab := Lib.hid (above_lt hcr)
      have A1 := Lib.hid hnl
      have A2 := Lib.hid hl
      have A3 := Lib.hid hl1
      have A4 := Lib.hid hne
      have A5 := Lib.hid hxx
      have A6 := Lib.hid hg0
      have A7 := Lib.hid hmu
      have A8 := Lib.hid hgx
      clear hnl hl hl1 hne hxx hg0 hmu hgx
      go_wp2_with (at_delete; refine wpList_delete_ranges _ rfl _ _ _ _ rfl 3 (int_keyed Tryd.underlying3) Tryd.underlying96 _ mb r n _ _ _ rfl hrg1 _ _ rfl (keyOf_int_mk Tryd.underlying3 hwx) ?_; intro w2 cnt2 hrg2 hle2 htu2)
      rw [Maps.strike_twice] at hrg2
      have hT2 : Turned (fun k => k = mb ∨ k = r) w w2 := hT1.grown htu2.grown (fun k hk => Or.inl (Or.inl (Option.some.inj hk).symm))
      have hfin : RelD mb r n room g0 w 0 w2 := ⟨_, _, cnt2, _, hrg2, reads_del hR x, fun id h => by
        have he : id ≠ x := by
          rintro rfl
          rw [A5.out] at h
          cases h
        rw [if_neg he]
        exact A3.out id h, fun id h => by
        by_cases he : id = x
        · rw [if_pos he, he, A6.out]
          exact hab.out.symm
        · rw [if_neg he]
          rw [A4.out id he] at h
          exact A1.out id h, hT2⟩
      refine ⟨⟨_, _, _, _, _, _, _, _, _, _, _, _, _, _, _, _, _, _, hfin, rfl⟩, ?_⟩
      rw [hrg2.left_eq, A7.out]
      omega
    · have hcd : decide (c < room) = false := by simpa using hcr
      have hab := above_ge hcr
      have hfin : RelD mb r n room g0 w 0 w1 := ⟨D, _, cnt1, g, hrg1, hR, hl1, fun id h => by
        by_cases he : id = x
        · subst he
          rw [hgx, hg0, hab]
        · rw [hne id he] at h
          exact hnl id h, hT1⟩
      have hm1 := hrg1.left_eq
      clear hnl hl hl1 hne hxx hg0 hgx hrg1 hR hT hT1
      go_wp2
      exact ⟨_, _, _, _, _, _, _, _, _, _, _, _, _, _, _, _, _, _, hfin, rfl⟩

end Go.Proofs.YthbkklnahhdgcaaDoor.ChL

namespace Go.Proofs.YthbkklnahhdgcaaDoor.ChM
open Go Go.Proofs Go.RowKit Go.Maps Go.Proofs.YthbkklnahhdgcaaDoor.Lib HeapR ChCa ChI ChK ChL

/-- What holds at each round. -/
def RelC (mb wb n m r : Nat) (g gs : Int → Option Int) (Ds : DataW Unit) (w wr : World) : Prop :=
  ∃ D left cnt gr, wr.ranges Tryd.prog 3 (plainElem Tryd.prog 3) wb r m Ds left cnt ∧ wr.ownsMap Tryd.prog 3 (plainElem Tryd.prog 3) mb (n + (Maps.size Ds - cnt)) D ∧ cnt ≤ Maps.size Ds ∧ Reads D gr ∧ (∀ id, left (.int .i64 id) = true → gr id = g id) ∧ (∀ id, left (.int .i64 id) = false → gr id = (gs id).or (g id)) ∧ Turned (fun k => k = mb ∨ k = r) w wr

def InvC (mb wb n m r : Nat) (g gs : Int → Option Int) (Ds : DataW Unit) (w : World) (u1 u2 u3 u6 : Value) (a : Act) (wr : World) : Prop :=
  ∃ (s4 s5 s8 s9 s10 s11 s12 s13 s14 s15 : Value), RelC mb wb n m r g gs Ds w wr ∧ a = ⟨#[(.map (some mb)), u1, u2, u3, s4, s5, u6, (.pointer (some ⟨r, 0, none⟩)), s8, s9, s10, s11, s12, s13, s14, s15], []⟩

theorem copy_any (mb wb n m : Nat) (g gs : Int → Option Int) (D Ds : DataW Unit) (w : World) (hd : w.ownsMap Tryd.prog 3 (plainElem Tryd.prog 3) mb n D) (hs : w.ownsMap Tryd.prog 3 (plainElem Tryd.prog 3) wb m Ds) (hR : Reads D g) (hRs : Reads Ds gs) (hne : mb ≠ wb) (hb : n + Maps.size Ds < maxLen) :
    Calls Tryd.prog 112 #[.map (some mb), .map (some wb)] w fun e w' => e = .returned (.tuple #[]) ∧ ∃ D', w'.ownsMap Tryd.prog 3 (plainElem Tryd.prog 3) mb (n + Maps.size Ds) D' ∧ Reads D' (fun id => (gs id).or (g id)) ∧ Turned (fun k => k = mb) w w' := by
  have hml := hd.lt
  have hhas := hRs.has_
  go_enter Tryd.func112, Tryd.ntmps112
  go_wp2_with (at_range; refine wpList_range_own _ rfl _ 96 rfl 3 3 (int_keyed Tryd.underlying3) Tryd.underlying96 _ wb m Ds rfl hs ?_; intro w0 hrg0 hg0 hs0)
  go_frame
  generalize hr : w.heap.size = r at *
  refine wp_loop (InvC mb wb n m r g gs Ds w (.map (some wb)) undef undef (.map (some wb))) (fun _ wr => wr.rangeLeft wb r) ?_ (fun a' wr hI => ?_)
  · refine ⟨_, _, _, _, _, _, _, _, _, _, ⟨D, _, _, g, hrg0, by rw [Nat.sub_self]; exact HeapF.ownsMap_same hd (hg0.block mb (by rw [hr]; exact hml) (by simp)), Nat.le_refl _, hR, fun _ _ => rfl, fun id h => ?_, (Turned.refl _ w).grown hg0 (fun k hk => by cases hk)⟩, rfl⟩
    rw [hhas] at h
    cases hgs : gs id with
    | none => rfl
    | some c =>
      rw [hgs] at h
      cases h
  obtain ⟨s4, s5, s8, s9, s10, s11, s12, s13, s14, s15, hI⟩ := hI
  obtain ⟨⟨Dr, left, cnt, gr, hrg, hown, hcs, hRr, hl, hnl, hT⟩, rfl⟩ := hI
  have hmu := hrg.left_eq
  clear hrg0 hg0 hs0 hd hs hR
  go_wp2_with (at_next; refine wpList_next_ranges_ii _ rfl _ rfl 3 3 .i64 .i64 (int_keyed Tryd.underlying3) Tryd.underlying3 Tryd.underlying3 wb r m _ _ _ rfl hrg ?_ ?_)
  · intro hc0 hl0
    have hfin : ∃ D', wr.ownsMap Tryd.prog 3 (plainElem Tryd.prog 3) mb (n + Maps.size Ds) D' ∧ Reads D' (fun id => (gs id).or (g id)) ∧ Turned (fun k => k = mb) w wr := ⟨Dr, by rw [hc0, Nat.sub_zero] at hown; exact hown, hRr.congr (fun i => (hnl i (hl0 _)).symm), hT.os, hT.tape, hT.output, hT.size, fun k hk hs => hT.block k hk (fun h => h.elim hs (fun h => by omega))⟩
    clear hmu hl hnl hl0 hcs hc0 hhas hb
    go_wp2
    go_end0
    exact ⟨rfl, hfin⟩
  · intro x c w1 cnt1 hwx hwc hlx hat hrg1 hlt hg1 hs1 hen
    have hgx : gs x = some c := reads_at hRs hat
    have hT1 : Turned (fun k => k = mb ∨ k = r) w w1 := hT.grown hg1 (fun k hk => Or.inl (Or.inr (Option.some.inj hk).symm))
    have hne' : ∀ id, id ≠ x → (left (.int .i64 id) && !(Lit.int .i64 id).sameKey (.int .i64 x)) = left (.int .i64 id) := fun id h => by
      rw [sameKey_int, decide_eq_false h]
      simp
    have hxx : (left (.int .i64 x) && !(Lit.int .i64 x).sameKey (.int .i64 x)) = false := by
      rw [sameKey_int]
      simp
    have hmr : mb ≠ r := by omega
    have hown1 := HeapF.ownsMap_same hown (hg1.block mb hown.lt (fun h => hmr (Option.some.inj h)))
    have hlm : n + (Maps.size Ds - cnt) < maxLen := by omega
    have A1 := Lib.hid hnl
    have A2 := Lib.hid hl
    have A4 := Lib.hid hne'
    have A5 := Lib.hid hxx
    have A6 := Lib.hid hgx
    have A7 := Lib.hid hmu
    have A8 := Lib.hid hhas
    have A9 := Lib.hid hr
    have A10 := Lib.hid hat
    clear hnl hl hne' hxx hgx hmu hhas hr hat hb
    go_wp2_with (at_mapUpdate; refine wpList_mapUpdate_own _ rfl _ _ _ 96 rfl 3 3 (int_keyed Tryd.underlying3) Tryd.underlying96 _ mb _ Dr rfl hown1 hlm _ _ (.int .i64 x) rfl rfl (keyOf_int_mk Tryd.underlying3 hwx) _ [] (plainElem_int Tryd.underlying3 hwc) ?_; intro w2 hm2 hg2)
    have hrg2 := hrg1.kept hg2 (by intro h; exact hne (Option.some.inj h).symm) (by intro h; exact hmr (Option.some.inj h).symm)
    have hT2 : Turned (fun k => k = mb ∨ k = r) w w2 := hT1.grown hg2 (fun k hk => Or.inl (Or.inl (Option.some.inj hk).symm))
    have hfin : RelC mb wb n m r g gs Ds w w2 := ⟨_, _, cnt1, _, hrg2, hm2.mono (by omega), by omega, reads_put hRr x c, fun id h => by
      have he : id ≠ x := by
        rintro rfl
        rw [A5.out] at h
        cases h
      rw [if_neg he]
      rw [A4.out id he] at h
      exact A2.out id h, fun id h => by
      by_cases he : id = x
      · rw [if_pos he, he, A6.out]
        rfl
      · rw [if_neg he]
        rw [A4.out id he] at h
        exact A1.out id h, hT2⟩
    clear hrg hrg1 hown1 hown
    go_wp2
    refine ⟨⟨_, _, _, _, _, _, _, _, _, _, hfin, rfl⟩, ?_⟩
    rw [hrg2.left_eq, A7.out]
    exact hlt

/-- A list of numbers below n that are apart has at most n. -/
theorem len_of_apart : ∀ (n : Nat) (l : List Nat), l.Nodup → (∀ x ∈ l, x < n) → l.length ≤ n := by
  intro n
  induction n with
  | zero =>
    intro l _ h
    cases l with
    | nil => exact Nat.le_refl _
    | cons x l => exact absurd (h x (List.mem_cons_self ..)) (by omega)
  | succ n ih =>
    intro l hl h
    have h1 := ih (l.erase n) (hl.erase n) (fun x hx => by
      have h2 := (List.Nodup.mem_erase_iff hl).1 hx
      have := h x h2.2
      have := h2.1
      omega)
    by_cases hm : n ∈ l
    · rw [List.length_erase_of_mem hm] at h1
      omega
    · rw [List.erase_of_not_mem hm] at h1
      omega

open Go.WideElems (Fit rd rg rg_of rd_key) in
/-- How many entries the map of identities has at most. -/
theorem shrink {w : World} {b n : Nat} {D : DataW Unit} {g : Int → Option Int} {N : Nat} (h : w.ownsMap Tryd.prog 3 (plainElem Tryd.prog 3) b n D) (hR : Reads D g) (hg : ∀ id, (g id).isSome = true → 1 ≤ id ∧ id ≤ (N : Int)) : w.ownsMap Tryd.prog 3 (plainElem Tryd.prog 3) b N D := by
  have hen := h.entries (int_keyed Tryd.underlying3)
  obtain ⟨es, clock, hb, F, hs, hD⟩ := h
  refine ⟨es, clock, hb, F, ?_, hD⟩
  have hint : ∀ p ∈ es.toList.map (rg Tryd.prog 3 (plainElem (H := Unit) Tryd.prog 3)), ∃ x, p.1 = Lit.int .i64 x := by
    intro p hp
    obtain ⟨e, he, rfl⟩ := List.mem_map.1 hp
    obtain ⟨y, hy⟩ := F.reads e he
    obtain ⟨x, _, h3, _⟩ := keyOf_int_inv Tryd.underlying3 (rd_key hy)
    exact ⟨x, by rw [rg_of hy, h3]⟩
  obtain ⟨l, hl, hap, hk⟩ := hen
  rw [hl] at hD
  injection hD with hD
  have hint' : ∀ p ∈ l, ∃ x, p.1 = Lit.int .i64 x := fun p hp => hint p (mem_sorted.1 (hD ▸ hp))
  have hlen : l.length = es.size := by
    rw [hD, length_sorted]
    simp
  have hin : ∀ p ∈ l, ∀ x, p.1 = Lit.int .i64 x → 1 ≤ x ∧ x ≤ (N : Int) := fun p hp x hx => by
    refine hg x ?_
    rw [← hR.has_ x, hl, has_eq, List.any_eq_true]
    exact ⟨p, hp, by rw [hx]; exact WideAt.sameKey_self (lit_key x)⟩
  let f : Lit × DataW Unit → Nat := fun p => match p.1 with | .int _ x => (x - 1).toNat | _ => 0
  have hnd : (l.map f).Nodup := by
    rw [List.Nodup, List.pairwise_map]
    refine List.Pairwise.imp_of_mem ?_ hap
    intro a b ha hb' hab e
    obtain ⟨x, hx⟩ := hint' a ha
    obtain ⟨y, hy⟩ := hint' b hb'
    have h1 := hin a ha x hx
    have h2 := hin b hb' y hy
    refine hab ?_
    simp only [f, hx, hy] at e
    rw [hx, hy]
    congr 1
    omega
  have := len_of_apart N (l.map f) hnd (fun z hz => by
    obtain ⟨p, hp, rfl⟩ := List.mem_map.1 hz
    obtain ⟨x, hx⟩ := hint' p hp
    have h1 := hin p hp x hx
    simp only [f, hx]
    omega)
  rw [List.length_map, hlen] at this
  exact this

end Go.Proofs.YthbkklnahhdgcaaDoor.ChM

namespace Go.Proofs.YthbkklnahhdgcaaDoor.ChN
open Go Go.Proofs Go.RowKit Go.Proofs.YthbkklnahhdgcaaDoor.Lib HeapR ChA ChT ChCa ChCc ChD ChE ChJ ChL

/-- Objects lie one behind the other. -/
def Laid : Nat → List Ob → Prop
  | _, [] => True
  | a, o :: l => o.addr = a ∧ Laid (a + o.len) l
theorem laid_append {a : Nat} {l k : List Ob} : Laid a (l ++ k) ↔ Laid a l ∧ Laid (a + total l) k := by
  induction l generalizing a with
  | nil => simp [Laid, total]
  | cons o l ih =>
    show (o.addr = a ∧ Laid (a + o.len) (l ++ k)) ↔ (o.addr = a ∧ Laid (a + o.len) l) ∧ Laid (a + total (o :: l)) k
    rw [ih, total_cons, and_assoc, Nat.add_assoc]
theorem laid_in {a : Nat} {l : List Ob} (h : Laid a l) {o : Ob} (ho : o ∈ l) : a ≤ o.addr ∧ o.addr + o.len ≤ a + total l := by
  induction l generalizing a with
  | nil => cases ho
  | cons x l ih =>
    obtain ⟨h1, h2⟩ := h
    rw [total_cons]
    rcases List.mem_cons.mp ho with rfl | ho
    · omega
    · have := ih h2 ho
      omega
theorem len_pos (o : Ob) : 0 < o.len := by unfold Ob.len; omega
theorem laid_two {a : Nat} {l : List Ob} (h : Laid a l) {x y : Ob} (hx : x ∈ l) (hy : y ∈ l) : x = y ∨ x.addr + x.len ≤ y.addr ∨ y.addr + y.len ≤ x.addr := by
  induction l generalizing a with
  | nil => cases hx
  | cons o l ih =>
    obtain ⟨h1, h2⟩ := h
    rcases List.mem_cons.mp hx with rfl | hx' <;> rcases List.mem_cons.mp hy with rfl | hy'
    · exact Or.inl rfl
    · have := laid_in h2 hy'
      exact Or.inr (Or.inl (by omega))
    · have := laid_in h2 hx'
      exact Or.inr (Or.inr (by omega))
    · exact ih h2 hx' hy'
theorem laid_apart {a : Nat} {l : List Ob} (h : Laid a l) : Apart l := fun x hx y hy e => by
  rcases laid_two h hx hy with h1 | h1 | h1
  · exact h1
  · have := len_pos x
    omega
  · have := len_pos y
    omega
theorem laid_nodup {a : Nat} {l : List Ob} (h : Laid a l) : l.Nodup := by
  induction l generalizing a with
  | nil => exact List.nodup_nil
  | cons o l ih =>
    obtain ⟨h1, h2⟩ := h
    refine List.nodup_cons.mpr ⟨fun ho => ?_, ih h2⟩
    have := laid_in h2 ho
    have := len_pos o
    omega

/-- A heap as objects. -/
structure HI (H : HS) (nu ol : List Ob) : Prop where
  nur : H.nur.take H.top = flat nu
  old : H.old = flat ol
  tlen : H.top ≤ H.nur.length
  na : Laid 0 nu
  oa : Laid H.room ol
  fit : total nu ≤ H.room
  refs : ∀ o ∈ nu ++ ol, ∀ v ∈ o.fs, v.k = 4 → ∃ x ∈ nu ++ ol, v.n = (x.addr : Int)
  rem1 : ∀ r ∈ H.rem, ∃ j : Nat, r = ((H.room + j : Nat) : Int) ∧ j < H.old.length
  rem2 : ∀ (j : Nat) (c : HCell), H.old[j]? = some c → c.vk = 4 → c.vn < (H.room : Int) → ((H.room + j : Nat) : Int) ∈ H.rem
  wh : ∃ g, Reads H.wh g ∧ ∀ id c, g id = some c ↔ id ≠ 0 ∧ ∃ o ∈ nu ++ ol, o.id = id ∧ c = (o.addr : Int)
  ids : ∀ o ∈ nu ++ ol, 0 ≤ o.id ∧ o.id ≤ (H.next : Int)
  named : ∀ x ∈ nu ++ ol, ∀ y ∈ nu ++ ol, x.id = y.id → x.id ≠ 0 → x = y
  kinds : ∀ o ∈ nu ++ ol, o.kind ≠ 0
theorem HI.top {H : HS} {nu ol : List Ob} (h : HI H nu ol) : H.top = total nu := by
  have := congrArg List.length h.nur
  rw [List.length_take, flat_length, Nat.min_eq_left h.tlen] at this
  exact this
theorem HI.olen {H : HS} {nu ol : List Ob} (h : HI H nu ol) : H.old.length = total ol := by rw [h.old, flat_length]
/-- All objects are apart. -/
theorem HI.apart {H : HS} {nu ol : List Ob} (h : HI H nu ol) : Apart (nu ++ ol) := fun x hx y hy e => by
  have hf := h.fit
  rcases List.mem_append.mp hx with hx | hx <;> rcases List.mem_append.mp hy with hy | hy
  · exact laid_apart h.na x hx y hy e
  · have h1 := laid_in h.na hx
    have h2 := laid_in h.oa hy
    have := len_pos x
    omega
  · have h1 := laid_in h.na hy
    have h2 := laid_in h.oa hx
    have := len_pos y
    omega
  · exact laid_apart h.oa x hx y hy e
theorem HI.nodup {H : HS} {nu ol : List Ob} (h : HI H nu ol) : (nu ++ ol).Nodup := by
  rw [List.nodup_append]
  refine ⟨laid_nodup h.na, laid_nodup h.oa, fun x hx y hy => ?_⟩
  rintro rfl
  have h1 := laid_in h.na hx
  have h2 := laid_in h.oa hy
  have := len_pos x
  have := h.fit
  omega

/-! ### what a collection leaves -/
/-- Where an object is behind it. -/
def mvA (from_ : Int → Bool) (L : List Ob) (z : Nat) (a : Nat) : Nat := if from_ (a : Int) = true then fwd L z a else a
def mvV (from_ : Int → Bool) (L : List Ob) (z : Nat) (v : Vl) : Vl := if v.k = 4 ∧ from_ v.n = true then { v with n := (fwd L z v.n.toNat : Nat) } else v
def mvO (from_ : Int → Bool) (L : List Ob) (z : Nat) (o : Ob) : Ob := { o with addr := mvA from_ L z o.addr, fs := o.fs.map (mvV from_ L z) }
theorem mvO_len (from_ : Int → Bool) (L : List Ob) (z : Nat) (o : Ob) : (mvO from_ L z o).len = o.len := by simp [mvO, Ob.len]
theorem total_mv (from_ : Int → Bool) (L : List Ob) (z : Nat) (l : List Ob) : total (l.map (mvO from_ L z)) = total l := by
  induction l with
  | nil => rfl
  | cons o l ih => rw [List.map_cons, total_cons, total_cons, ih, mvO_len]
theorem fix_cell (from_ : Int → Bool) (L : List Ob) (z : Nat) (v : Vl) : fix from_ L z v.cell = (mvV from_ L z v).cell := by
  unfold fix mvV
  by_cases h : v.k = 4 ∧ from_ v.n = true
  · rw [if_pos h, if_pos (show v.cell.vk = 4 ∧ from_ v.cell.vn = true from h)]
    rfl
  · rw [if_neg h, if_neg (show ¬ (v.cell.vk = 4 ∧ from_ v.cell.vn = true) from h)]
theorem fix_head (from_ : Int → Bool) (L : List Ob) (z : Nat) (o : Ob) : fix from_ L z (o.head 0) = (mvO from_ L z o).head 0 := by
  unfold fix
  rw [if_neg (fun h => absurd h.1 (show ¬ (0 : Int) = 4 by decide))]
  simp [Ob.head, mvO]
theorem flat_fix (from_ : Int → Bool) (L : List Ob) (z : Nat) (l : List Ob) : (flat l).map (fix from_ L z) = flat (l.map (mvO from_ L z)) := by
  induction l with
  | nil => rfl
  | cons o l ih =>
    unfold flat at ih ⊢
    rw [List.flatMap_cons, List.map_append, ih, List.map_cons, List.flatMap_cons]
    congr 1
    show fix from_ L z (o.head 0) :: (o.fs.map Vl.cell).map (fix from_ L z) = (mvO from_ L z o).head 0 :: ((mvO from_ L z o).fs.map Vl.cell)
    rw [fix_head, List.map_map]
    congr 1
    show _ = (o.fs.map (mvV from_ L z)).map Vl.cell
    rw [List.map_map]
    refine List.map_congr_left fun v _ => ?_
    exact fix_cell from_ L z v
theorem tcells_all {from_ : Int → Bool} {base : List HCell} {L : List Ob} {z : Nat} {P : Nat → Bool} (h : ∀ i c, (base ++ flat L)[i]? = some c → c.vk = 4 → from_ c.vn = true → P i = true) : tcells from_ base L z P = (base ++ flat L).map (fix from_ L z) := by
  refine List.ext_getElem? fun i => ?_
  rw [tcells_get, List.getElem?_map]
  cases hc : (base ++ flat L)[i]? with
  | none => rfl
  | some c =>
    simp only [Option.map_some]
    by_cases hp : P i = true
    · rw [if_pos hp]
    · rw [if_neg hp]
      unfold fix
      rw [if_neg (fun hh => hp (h i c hc hh.1 hh.2))]
theorem laid_copies {from_ : Int → Bool} {z : Nat} {L : List Ob} (hA : Apart L) (hn : L.Nodup) (hf : ∀ o ∈ L, from_ (o.addr : Int) = true) : Laid z (L.map (mvO from_ L z)) := by
  have key : ∀ (k l : List Ob), L = l ++ k → Laid (z + total l) (k.map (mvO from_ L z)) := by
    intro k
    induction k with
    | nil => intro l _; exact trivial
    | cons o k ih =>
      intro l hl
      refine ⟨?_, ?_⟩
      · show mvA from_ L z o.addr = z + total l
        have ho : o ∈ L := by rw [hl]; exact List.mem_append.mpr (Or.inr (List.mem_cons_self ..))
        unfold mvA
        rw [if_pos (hf o ho)]
        unfold fwd
        congr 1
        rw [hl]
        have hnot : ¬ has l o.addr := by
          rintro ⟨x, hx, e⟩
          have hxo : x = o := hA x (by rw [hl]; exact List.mem_append.mpr (Or.inl hx)) o ho e
          subst hxo
          rw [hl] at hn
          exact (List.nodup_append.mp hn).2.2 x hx x (List.mem_cons_self ..) rfl
        rw [show l ++ o :: k = (l ++ [o]) ++ k by simp, ahead_in (has_append.mpr (Or.inr (has_cons.mpr (Or.inl rfl)))), ahead_new hnot]
      · rw [mvO_len]
        have h2 := ih (l ++ [o]) (by rw [hl]; simp)
        rw [total_append] at h2
        simpa [total, Nat.add_assoc] using h2
  have h := key L [] rfl
  simpa [total] using h
end Go.Proofs.YthbkklnahhdgcaaDoor.ChN

namespace Go.Proofs.YthbkklnahhdgcaaDoor.ChO
open Go Go.Proofs Go.RowKit Go.Proofs.YthbkklnahhdgcaaDoor.Lib HeapR ChA ChT ChCa ChCc ChD ChE ChJ ChL ChN

/-- Where the object of an identity was put last. -/
def idAt (z : Nat) : List Ob → Nat → Int → Option Int
  | [], _, _ => none
  | o :: l, n, id => (idAt z l (n + o.len) id).or (if o.id ≠ 0 ∧ o.id = id then some ((z + n : Nat) : Int) else none)
theorem idAt_cons (z : Nat) (o : Ob) (l : List Ob) (n : Nat) (id : Int) : idAt z (o :: l) n id = (idAt z l (n + o.len) id).or (if o.id ≠ 0 ∧ o.id = id then some ((z + n : Nat) : Int) else none) := rfl
theorem reads_where (z : Nat) (L : List Ob) : ∀ (D : DataW Unit) (g : Int → Option Int) (n : Nat), Reads D g → Reads (whereOf z L D n) (fun id => (idAt z L n id).or (g id)) := by
  induction L with
  | nil => intro D g n h; exact h
  | cons o l ih =>
    intro D g n h
    unfold whereOf
    by_cases h0 : o.id = 0
    · have e : putId o.id (z + n) D = D := by unfold putId; rw [if_pos h0]
      rw [e]
      refine (ih D g (n + o.len) h).congr fun id => ?_
      rw [idAt_cons, if_neg (fun hh => hh.1 h0)]
      cases idAt z l (n + o.len) id <;> rfl
    · have e : putId o.id (z + n) D = D.put (.int .i64 o.id) (.lit (.int .i64 ((z + n : Nat) : Int))) := by unfold putId; rw [if_neg h0]
      rw [e]
      refine (ih _ _ (n + o.len) (reads_put h o.id _)).congr fun id => ?_
      rw [idAt_cons]
      by_cases hi : id = o.id
      · rw [if_pos ⟨h0, hi.symm⟩, if_pos hi]
        cases idAt z l (n + o.len) id <;> rfl
      · rw [if_neg (fun hh => hi hh.2.symm), if_neg hi]
        cases idAt z l (n + o.len) id <;> rfl
theorem idAt_some {z : Nat} {L : List Ob} {n : Nat} {id c : Int} (h : idAt z L n id = some c) : id ≠ 0 ∧ ∃ l o k, L = l ++ o :: k ∧ o.id = id ∧ c = ((z + (n + total l) : Nat) : Int) := by
  induction L generalizing n with
  | nil => cases h
  | cons x L ih =>
    rw [idAt_cons] at h
    cases h1 : idAt z L (n + x.len) id with
    | some d =>
      rw [h1] at h
      have hd : d = c := by simpa using h
      subst hd
      obtain ⟨h2, l, o, k, h3, h4, h5⟩ := ih h1
      refine ⟨h2, x :: l, o, k, by rw [h3]; rfl, h4, ?_⟩
      rw [h5, total_cons]
      congr 2
      omega
    | none =>
      rw [h1] at h
      by_cases hx : x.id ≠ 0 ∧ x.id = id
      · rw [if_pos hx] at h
        have hd : ((z + n : Nat) : Int) = c := by simpa using h
        exact ⟨hx.2 ▸ hx.1, [], x, L, rfl, hx.2, by rw [← hd]; simp [total]⟩
      · rw [if_neg hx] at h
        cases h
theorem idAt_has {z : Nat} {L : List Ob} {n : Nat} {o : Ob} (ho : o ∈ L) (h0 : o.id ≠ 0) : ∃ c, idAt z L n o.id = some c := by
  induction L generalizing n with
  | nil => cases ho
  | cons x L ih =>
    rw [idAt_cons]
    rcases List.mem_cons.mp ho with rfl | ho
    · rw [if_pos ⟨h0, rfl⟩]
      cases idAt z L (n + o.len) o.id with
      | some d => exact ⟨d, rfl⟩
      | none => exact ⟨_, rfl⟩
    · obtain ⟨c, hc⟩ := ih (n := n + x.len) ho
      rw [hc]
      exact ⟨c, rfl⟩

/-- A collection that moved L, and left kept where it was. -/
structure Kept (H : HS) (nu ol : List Ob) (from_ : Int → Bool) (L kept : List Ob) (z : Nat) : Prop where
  hi : HI H nu ol
  inO : ∀ o ∈ L, o ∈ nu ++ ol
  nd : L.Nodup
  inK : ∀ o ∈ kept, o ∈ ol
  laid : Laid H.room kept
  hz : z = H.room + total kept
  fL : ∀ o ∈ L, from_ (o.addr : Int) = true
  fK : ∀ o ∈ kept, from_ (o.addr : Int) = false
  rest : ∀ o ∈ nu ++ ol, from_ (o.addr : Int) = false → o ∈ kept
  closed : ∀ o ∈ kept ++ L, ∀ v ∈ o.fs, v.k = 4 → from_ v.n = true → has L v.n.toNat
variable {H : HS} {nu ol : List Ob} {from_ : Int → Bool} {L kept : List Ob} {z : Nat}
theorem Kept.mem (h : Kept H nu ol from_ L kept z) {o : Ob} (ho : o ∈ kept ++ L) : o ∈ nu ++ ol := by
  rcases List.mem_append.mp ho with ho | ho
  · exact List.mem_append.mpr (Or.inr (h.inK o ho))
  · exact h.inO o ho
theorem Kept.aL (h : Kept H nu ol from_ L kept z) : Apart L := fun x hx y hy e => h.hi.apart x (h.inO x hx) y (h.inO y hy) e
theorem Kept.of_has (h : Kept H nu ol from_ L kept z) {x : Ob} (hx : x ∈ nu ++ ol) (hh : has L x.addr) : x ∈ L := by
  obtain ⟨y, hy, e⟩ := hh
  rw [← h.hi.apart y (h.inO y hy) x hx e]
  exact hy
theorem map_same {l : List Ob} (h : ∀ o ∈ l, from_ (o.addr : Int) = false) : ∀ (a : Nat), Laid a l → Laid a (l.map (mvO from_ L z)) := by
  induction l with
  | nil => intro a _; exact trivial
  | cons o l ih =>
    rintro a ⟨h1, h2⟩
    refine ⟨?_, ?_⟩
    · show mvA from_ L z o.addr = a
      unfold mvA
      rw [if_neg (by rw [h o (List.mem_cons_self ..)]; exact Bool.false_ne_true)]
      exact h1
    · rw [mvO_len]
      exact ih (fun x hx => h x (List.mem_cons_of_mem _ hx)) _ h2
theorem Kept.lies (h : Kept H nu ol from_ L kept z) : Laid H.room ((kept ++ L).map (mvO from_ L z)) := by
  rw [List.map_append, laid_append, total_mv]
  refine ⟨map_same h.fK _ h.laid, ?_⟩
  have := laid_copies (z := z) h.aL h.nd h.fL
  rw [h.hz] at this ⊢
  exact this
/-- A value that led to an object leads to it. -/
theorem Kept.leads (h : Kept H nu ol from_ L kept z) {v : Vl} (hk : v.k = 4) (hv : ∃ x ∈ nu ++ ol, v.n = (x.addr : Int)) (hh : from_ v.n = true → has L v.n.toNat) : ∃ x ∈ kept ++ L, v.n = (x.addr : Int) ∧ (mvV from_ L z v).n = ((mvO from_ L z x).addr : Int) := by
  obtain ⟨x, hx, e⟩ := hv
  by_cases hf : from_ v.n = true
  · have h1 := hh hf
    rw [e, Int.toNat_natCast] at h1
    refine ⟨x, List.mem_append.mpr (Or.inr (h.of_has hx h1)), e, ?_⟩
    unfold mvV
    rw [if_pos ⟨hk, hf⟩]
    show ((fwd L z v.n.toNat : Nat) : Int) = ((mvA from_ L z x.addr : Nat) : Int)
    unfold mvA
    rw [e] at hf ⊢
    rw [if_pos hf, Int.toNat_natCast]
  · have hf' : from_ (x.addr : Int) = false := by rw [← e]; simpa using hf
    refine ⟨x, List.mem_append.mpr (Or.inl (h.rest x hx hf')), e, ?_⟩
    unfold mvV
    rw [if_neg (fun hh => hf hh.2)]
    show v.n = ((mvA from_ L z x.addr : Nat) : Int)
    unfold mvA
    rw [if_neg (by rw [hf']; exact Bool.false_ne_true), e]
theorem mvV_k (v : Vl) : (mvV from_ L z v).k = v.k := by
  unfold mvV
  split <;> rfl
theorem mvV_s (v : Vl) : (mvV from_ L z v).s = v.s := by
  unfold mvV
  split <;> rfl
theorem mvV_id {v : Vl} (h : v.k ≠ 4) : mvV from_ L z v = v := by
  unfold mvV
  rw [if_neg (fun hh => h hh.1)]

/-- Behind it. -/
theorem Kept.after (h : Kept H nu ol from_ L kept z) {H' : HS} (hold : H'.old = flat ((kept ++ L).map (mvO from_ L z))) (hroom : H'.room = H.room) (htop : H'.top = 0) (hrem : H'.rem = []) (hnext : H'.next = H.next)
    (hw : ∃ g, Reads H'.wh g ∧ ∀ id c, g id = some c ↔ id ≠ 0 ∧ ∃ o ∈ kept ++ L, o.id = id ∧ c = ((mvO from_ L z o).addr : Int)) : HI H' [] ((kept ++ L).map (mvO from_ L z)) := by
  have hlies := h.lies
  have refs : ∀ o ∈ (kept ++ L).map (mvO from_ L z), ∀ v ∈ o.fs, v.k = 4 → ∃ x ∈ (kept ++ L).map (mvO from_ L z), v.n = (x.addr : Int) := by
    intro o ho v hv hk
    obtain ⟨o0, ho0, rfl⟩ := List.mem_map.mp ho
    obtain ⟨v0, hv0, rfl⟩ := List.mem_map.mp (show v ∈ o0.fs.map (mvV from_ L z) from hv)
    rw [mvV_k] at hk
    obtain ⟨x, hx, _, e⟩ := h.leads hk (h.hi.refs o0 (h.mem ho0) v0 hv0 hk) (h.closed o0 ho0 v0 hv0 hk)
    exact ⟨_, List.mem_map.mpr ⟨x, hx, rfl⟩, e⟩
  have hold' : ∀ {o : Ob}, o ∈ (kept ++ L).map (mvO from_ L z) → ∃ x ∈ nu ++ ol, x.id = o.id ∧ x.kind = o.kind ∧ x ∈ kept ++ L ∧ o = mvO from_ L z x := by
    intro o ho
    obtain ⟨x, hx, rfl⟩ := List.mem_map.mp ho
    exact ⟨x, h.mem hx, rfl, rfl, hx, rfl⟩
  exact {
    nur := by rw [htop]; rfl
    old := hold
    tlen := by rw [htop]; exact Nat.zero_le _
    na := trivial
    oa := by rw [hroom]; exact hlies
    fit := by simp [total]
    refs := by rw [List.nil_append]; exact refs
    rem1 := fun r hr => by rw [hrem] at hr; cases hr
    rem2 := fun j c hj hk hlt => by
      exfalso
      rw [hold] at hj
      have hm := List.mem_of_getElem? hj
      obtain ⟨o, ho, hc⟩ := List.mem_flatMap.mp hm
      rcases List.mem_cons.mp (show c ∈ o.head 0 :: o.fs.map Vl.cell from hc) with rfl | hc
      · exact absurd hk (show ¬ (0 : Int) = 4 by decide)
      · obtain ⟨v, hv, rfl⟩ := List.mem_map.mp hc
        obtain ⟨x, hx, e⟩ := refs o ho v hv hk
        have := laid_in hlies hx
        rw [hroom] at hlt
        have hlt' : v.n < (H.room : Int) := hlt
        omega
    wh := by
      obtain ⟨g, hg, hi⟩ := hw
      refine ⟨g, hg, fun id c => (hi id c).trans ⟨?_, ?_⟩⟩
      · rintro ⟨h0, o, ho, h1, h2⟩
        exact ⟨h0, _, List.mem_map.mpr ⟨o, ho, rfl⟩, h1, h2⟩
      · rintro ⟨h0, o, ho, h1, h2⟩
        obtain ⟨x, hx, rfl⟩ := List.mem_map.mp (show o ∈ (kept ++ L).map (mvO from_ L z) from ho)
        exact ⟨h0, x, hx, h1, h2⟩
    ids := fun o ho => by
      obtain ⟨x, hx, e, _⟩ := hold' (show o ∈ (kept ++ L).map (mvO from_ L z) from ho)
      rw [hnext, ← e]
      exact h.hi.ids x hx
    named := fun a ha b hb e h0 => by
      obtain ⟨x, hx, ex, _, _, rfl⟩ := hold' (show a ∈ (kept ++ L).map (mvO from_ L z) from ha)
      obtain ⟨y, hy, ey, _, _, rfl⟩ := hold' (show b ∈ (kept ++ L).map (mvO from_ L z) from hb)
      rw [h.hi.named x hx y hy (ex.trans (e.trans ey.symm)) (by rw [ex]; exact h0)]
    kinds := fun o ho => by
      obtain ⟨x, hx, _, e, _⟩ := hold' (show o ∈ (kept ++ L).map (mvO from_ L z) from ho)
      rw [← e]
      exact h.hi.kinds x hx }

/-- The copied objects' identities. -/
theorem Kept.idL (h : Kept H nu ol from_ L kept z) (id c : Int) : idAt z L 0 id = some c ↔ id ≠ 0 ∧ ∃ o ∈ L, o.id = id ∧ c = ((mvO from_ L z o).addr : Int) := by
  have hpos : ∀ l o k, L = l ++ o :: k → ((z + (0 + total l) : Nat) : Int) = ((mvO from_ L z o).addr : Int) := by
    intro l o k hl
    have ho : o ∈ L := by rw [hl]; exact List.mem_append.mpr (Or.inr (List.mem_cons_self ..))
    show _ = ((mvA from_ L z o.addr : Nat) : Int)
    unfold mvA
    rw [if_pos (h.fL o ho)]
    unfold fwd
    have hnot : ¬ has l o.addr := by
      rintro ⟨x, hx, e⟩
      have hxo : x = o := h.aL x (by rw [hl]; exact List.mem_append.mpr (Or.inl hx)) o ho e
      subst hxo
      have hn := h.nd
      rw [hl] at hn
      exact (List.nodup_append.mp hn).2.2 x hx x (List.mem_cons_self ..) rfl
    have e : ChA.ahead L o.addr = total l := by
      rw [hl, show l ++ o :: k = (l ++ [o]) ++ k by simp, ahead_in (has_append.mpr (Or.inr (has_cons.mpr (Or.inl rfl)))), ahead_new hnot]
    rw [e, Nat.zero_add]
  constructor
  · intro h1
    obtain ⟨h0, l, o, k, hl, e1, e2⟩ := idAt_some h1
    exact ⟨h0, o, by rw [hl]; exact List.mem_append.mpr (Or.inr (List.mem_cons_self ..)), e1, by rw [e2]; exact hpos l o k hl⟩
  · rintro ⟨h0, o, ho, rfl, e⟩
    obtain ⟨d, hd⟩ := idAt_has (z := z) (n := 0) ho h0
    obtain ⟨_, l, x, k, hl, e1, e2⟩ := idAt_some hd
    have hx : x ∈ L := by rw [hl]; exact List.mem_append.mpr (Or.inr (List.mem_cons_self ..))
    have hxo : x = o := h.hi.named x (h.inO x hx) o (h.inO o ho) e1 (by rw [e1]; exact h0)
    subst hxo
    rw [hd, e2, e]
    congr 1
    exact hpos l x k hl
end Go.Proofs.YthbkklnahhdgcaaDoor.ChO
