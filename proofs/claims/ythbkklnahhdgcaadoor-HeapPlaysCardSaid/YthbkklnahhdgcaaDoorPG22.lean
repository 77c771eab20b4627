/-
  HeapPlays' collects: Major's branch.
-/
import Derived.Test.YthbkklnahhdgcaaDoorPG00
import Derived.Test.YthbkklnahhdgcaaDoorPG21
import Derived.Test.YthbkklnahhdgcaaDoorPG17
import Derived.Test.YthbkklnahhdgcaaDoorPG11
set_option maxRecDepth 100000
set_option maxHeartbeats 4000000
namespace Go.Proofs.YthbkklnahhdgcaaDoor.PlRd
open Go Go.Proofs Go.RowKit Go.Maps Go.Proofs.YthbkklnahhdgcaaDoor.Lib HeapR HeapB HeapC HeapD HeapG HeapH ErrC ChA ChT ChCa ChCc ChE ChH ChI ChJ ChK ChL ChN ChO ChP ChQ ChR ChU ChV ChW ChX ChYf ChZ PlA PlT PlZ PlX PlYa PlU PlQ PlL PlLa PlLb PlLc PlLd PlE PlEa PlEb PlF PlFa PlFb PlFc PlFd PlG PlGa PlGb PlV PlO PlK PlP PlR PlRa PlRb PlRc

variable {w w4 : World} {O : Nat → Nat} {B : Nat} {V : Zv} {H : HS} {nu ol : List Ob} {T : List Th} {Z : Zn} {loc : Nat → Ob}
theorem cells_moved {T : List Th} {L : List Nat} {mvv : Vl → Vl} {q : Nat → Bool} (n : Nat) : cellsOf (movedT L mvv T) q n = cellsOf T q n := by
  induction n with
  | zero => rfl
  | succ n ih =>
    unfold cellsOf
    rw [ih]
    cases ht : T[n]? with
    | none =>
      have h7 : (movedT L mvv T)[n]? = none := List.getElem?_eq_none (by rw [movedT_length]; exact List.getElem?_eq_none_iff.1 ht)
      rw [h7]
    | some t =>
      rw [movedT_get ht]
      by_cases e : n ∈ L
      · rw [if_pos e]
      · rw [if_neg e]

theorem col_major {Q : Exit → Act → World → Prop} {u0 u1 u3 u4 u6 u7 u8 Ja Jc Jd Je Jf Jg Jh Ji Jj Jk Jl Jm Jn Jo Jp Jq Jr Js Jt Ju Jv Jw Jx Jy Jz Qa Qb Qc Qd Qe Qf Qg Qh Qi Qj Qk Ql Qm Qn Qo Qp Qq Qr Qs Qt Qu Qv Qw Qx Qy Qz Xe Xg Xh Xi Xj Xk Xn Xo Xp Xq Xt Xu Xv Xx Xy Xz Yg Yh Yi Yj Yk Yl Ym Yn Yo Yp Yq Yr Ys Yt Yu Yv Yw Yx Yy Yz Ua Ub Uc Ud Ue Uf Ug Uh Ui Uj Uk Ul Um Un Uo Up Uq Ur Us Ut Uu Uv Uw Ux Uy Uz Wc Wd We Wf Wg Wh Wi Wj Wk Wl Wm Wn Wo Wp Wq Wt Wu Ww Wx Wy Wz Ka Kb Kc Kd Ke Kf Kg Kh Kj Kl Km Kn Ko Kp Kq Kr Kt Ku Kv Kw Kx Ky Kz Rg Rh Ri Rj Rk Rl Rm Rp Rq Rt Ru Rx Ry Rz Gc Ge Gf Gg Gh Gi Gj Gm Gn Gp Gq Gt Gu Gv Gx Gy Gz Fe Ff Fg Fh Fi Fj Fk Fm Fo Fp Fq Fs Ft Fu Fv Fw Fx Fy Fz Ec Ee Ef Eg Eh Ei Ej Ek Em En Eo Ep Eu Ev Ex Ey Ez Da Db Dc Dd Dg Dh Di Dj Dk Dl Dm Dn Do Dp Dq Dt Du Dv Dw Dx Dy Dz Pa Pb Pc Pe Pf Pg Ph Pi Pj Pk Pm Pn Po Pq Ps Pt Pu Pv Pw Px Py Pz Na : Value} (h : ZR w O B V H T Z) (hz : ZI H nu ol T Z loc) (hTl : T.length ≤ 1000) (what : Int) (hwh : what ≠ 2) (hmj : H.majors < big)
    {zx sx lv mb gT cT gE cE gW cW gK cK gH cA cB nB : Nat} {oT oW oE oK oA oB : Option Addr} {L M : List Nat} {s : List Int} (hS : Slots V T.length w.heap.size oT oW oE oK gT cT gE cE gW cW gK cK) (hX : CX w w4 V.zb what T zx sx gH gW L M oA cA oB cB nB)
    (hl : w4.cell? ⟨lv, 0, none⟩ = some (.map (some mb))) (hm : Sh w4 mb s) (hLed : Led T (numsOf (L ++ M)) [] s) (nl : w.heap.size ≤ lv) (nm : w.heap.size ≤ mb)
    (hQ1 : ∀ (z13 zCN zCO zCP zCQ zCR zCS zCT zCU zCV zCW zCX zCY zCZ zDa zDb zDc zDd zDe zDf zDg zDh zDi zDj zDk zDl : Value) (w6 : World), Mid w B V H T L s zx lv mb gT cT gE cE gW cW gK cK gH w6 → Q .normal ⟨#[u0, u1, (.pointer (some ⟨zx, 0, none⟩)), u3, u4, (.slice oA L.length cA), u6, u7, u8, (.func (Fn.func 91) #[] #[.pointer (some ⟨zx, 0, none⟩)]), Ja, (.pointer (some ⟨lv, 0, none⟩)), Jc, z13, Je, Jf, Jg, Jh, Ji, Jj, Jk, Jl, Jm, Jn, Jo, Jp, Jq, Jr, Js, Jt, Ju, Jv, Jw, Jx, Jy, Jz, Qa, Qb, Qc, Qd, Qe, Qf, Qg, Qh, Qi, Qj, Qk, Ql, Qm, Qn, Qo, Qp, Qq, Qr, Qs, Qt, Qu, Qv, Qw, Qx, Qy, Qz, Xe, Xg, Xh, Xi, Xj, Xk, Xn, Xo, Xp, Xq, Xt, Xu, Xv, Xx, Xy, Xz, Yg, Yh, Yi, Yj, Yk, Yl, Ym, Yn, Yo, Yp, Yq, Yr, Ys, Yt, Yu, Yv, Yw, Yx, Yy, Yz, Ua, Ub, Uc, Ud, Ue, Uf, Ug, Uh, Ui, Uj, Uk, Ul, Um, Un, Uo, Up, Uq, Ur, Us, Ut, Uu, Uv, Uw, Ux, Uy, Uz, Wc, Wd, We, Wf, Wg, Wh, Wi, Wj, Wk, Wl, Wm, Wn, Wo, Wp, Wq, Wt, Wu, Ww, Wx, zCN, zCO, zCP, zCQ, zCR, zCS, zCT, zCU, zCV, zCW, zCX, zCY, zCZ, zDa, zDb, zDc, zDd, zDe, zDf, zDg, zDh, zDi, zDj, zDk, zDl, Rg, Rh, Ri, Rj, Rk, Rl, Rm, Rp, Rq, Rt, Ru, Rx, Ry, Rz, Gc, Ge, Gf, Gg, Gh, Gi, Gj, Gm, Gn, Gp, Gq, Gt, Gu, Gv, Gx, Gy, Gz, Fe, Ff, Fg, Fh, Fi, Fj, Fk, Fm, Fo, Fp, Fq, Fs, Ft, Fu, Fv, Fw, Fx, Fy, Fz, Ec, Ee, Ef, Eg, Eh, Ei, Ej, Ek, Em, En, Eo, Ep, Eu, Ev, Ex, Ey, Ez, Da, Db, Dc, Dd, Dg, Dh, Di, Dj, Dk, Dl, Dm, Dn, Do, Dp, Dq, Dt, Du, Dv, Dw, Dx, Dy, Dz, Pa, Pb, Pc, Pe, Pf, Pg, Ph, Pi, Pj, Pk, Pm, Pn, Po, Pq, Ps, Pt, Pu, Pv, Pw, Px, Py, Pz, Na], []⟩ w6)
    (hQ2 : ∀ (a' : Act) (w' : World), a'.tmps.getD 4 undef = .bool true → a'.defers = [] → ColDone w B (V.zb, V.hb) H T w' → Q .ret a' w') :
    Code.wp Tryd.prog (Cut.piece Tryd.f73 (Cut.tail 24)) Q ⟨#[u0, u1, (.pointer (some ⟨zx, 0, none⟩)), u3, u4, (.slice oA L.length cA), u6, u7, u8, (.func (Fn.func 91) #[] #[.pointer (some ⟨zx, 0, none⟩)]), Ja, (.pointer (some ⟨lv, 0, none⟩)), Jc, Jd, Je, Jf, Jg, Jh, Ji, Jj, Jk, Jl, Jm, Jn, Jo, Jp, Jq, Jr, Js, Jt, Ju, Jv, Jw, Jx, Jy, Jz, Qa, Qb, Qc, Qd, Qe, Qf, Qg, Qh, Qi, Qj, Qk, Ql, Qm, Qn, Qo, Qp, Qq, Qr, Qs, Qt, Qu, Qv, Qw, Qx, Qy, Qz, Xe, Xg, Xh, Xi, Xj, Xk, Xn, Xo, Xp, Xq, Xt, Xu, Xv, Xx, Xy, Xz, Yg, Yh, Yi, Yj, Yk, Yl, Ym, Yn, Yo, Yp, Yq, Yr, Ys, Yt, Yu, Yv, Yw, Yx, Yy, Yz, Ua, Ub, Uc, Ud, Ue, Uf, Ug, Uh, Ui, Uj, Uk, Ul, Um, Un, Uo, Up, Uq, Ur, Us, Ut, Uu, Uv, Uw, Ux, Uy, Uz, Wc, Wd, We, Wf, Wg, Wh, Wi, Wj, Wk, Wl, Wm, Wn, Wo, Wp, Wq, Wt, Wu, Ww, Wx, Wy, Wz, Ka, Kb, Kc, Kd, Ke, Kf, Kg, Kh, Kj, Kl, Km, Kn, Ko, Kp, Kq, Kr, Kt, Ku, Kv, Kw, Kx, Ky, Kz, Rg, Rh, Ri, Rj, Rk, Rl, Rm, Rp, Rq, Rt, Ru, Rx, Ry, Rz, Gc, Ge, Gf, Gg, Gh, Gi, Gj, Gm, Gn, Gp, Gq, Gt, Gu, Gv, Gx, Gy, Gz, Fe, Ff, Fg, Fh, Fi, Fj, Fk, Fm, Fo, Fp, Fq, Fs, Ft, Fu, Fv, Fw, Fx, Fy, Fz, Ec, Ee, Ef, Eg, Eh, Ei, Ej, Ek, Em, En, Eo, Ep, Eu, Ev, Ex, Ey, Ez, Da, Db, Dc, Dd, Dg, Dh, Di, Dj, Dk, Dl, Dm, Dn, Do, Dp, Dq, Dt, Du, Dv, Dw, Dx, Dy, Dz, Pa, Pb, Pc, Pe, Pf, Pg, Ph, Pi, Pj, Pk, Pm, Pn, Po, Pq, Ps, Pt, Pu, Pv, Pw, Px, Py, Pz, Na], []⟩ w4 := by
  conv => arg 2; whnf
  have hZ4 := h.below hX.bel
  have hlt := PlV.ZR.allLt h
  have hsz := hX.bel.size
  have hvW : 0 < T.length → V.wv = .slice (some ⟨gW, 0, none⟩) T.length cW := fun h0 => by rw [hS.v2, hS.o2 h0]
  have hroots : RootsAt w4 (Owns V.hb V.nb V.mb V.ov V.rv) (.slice oA L.length cA) (rsOf gW L) (fOf T) := zoo_roots hZ4 hvW (fun j hj => by obtain ⟨t, ht, _⟩ := hX.hL j hj; exact ⟨t, ht⟩) (by have := hX.ll; unfold big; omega) hX.rowA (fun k hk => by
    have h1 := (own_lt hX.rowA hk).1
    exact ⟨fun h2 => by have := hlt.heap k h2; omega, fun _ e => by have := hS.nW; omega⟩)
  have hroot : ∀ a ∈ rsOf gW L, (fOf T a).k = 4 → ∃ x ∈ nu ++ ol, (fOf T a).n = (x.addr : Int) := fun a ha _ => by
    obtain ⟨j, hj, rfl⟩ := rs_mem.1 ha
    obtain ⟨t, ht, hk⟩ := hX.hL j hj
    obtain ⟨h1, h2⟩ := hz.known j t ht hk
    rw [fOf_at ht, h2]
    exact ⟨loc j, (hz.obj j t ht h1).1, rfl⟩
  have hnx : H.next ≤ big := by
    rw [hz.next]
    have := List.countP_le_length (p := ided) (l := T)
    unfold big
    omega
  have x1 := hX.x
  have z0 : w4.cell? ⟨V.zb, 0, none⟩ = some (.pointer (some ⟨V.hb, 0, none⟩)) := hZ4.cz rfl
  have hMn := hX.hM.2 hwh
  subst hMn
  rw [List.append_nil] at hLed
  have hmost := hz.most
  have hmajor := major_any hZ4.hr hz.hi hroots hroot hnx hmj
  have A0 := Lib.hid h
  have A1 := Lib.hid hz
  have A2 := Lib.hid hS
  have A3 := Lib.hid hX
  have A4 := Lib.hid hl
  have A5 := Lib.hid hm
  have A6 := Lib.hid hLed
  have A7 := Lib.hid hQ1
  have A8 := Lib.hid hQ2
  have A9 := Lib.hid hZ4
  have A10 := Lib.hid hlt
  have A11 := Lib.hid hroots
  have A12 := Lib.hid hroot
  have A13 := Lib.hid hsz
  have A14 := Lib.hid hvW
  clear h hz hS hX hl hm hLed hQ1 hQ2 hZ4 hlt hroots hroot hsz hvW
  refine wp_seq_k (fun K1 hK1 => ?_)
  have E1 := Lib.hid hK1
  clear hK1
  go_wp2_with fail
  refine hmajor.mono ?_
  rintro e w5 ⟨S, hSn, hSr, hcase⟩
  clear hmajor z0
  have hcel := major_cells A1.out (fun j hj => A3.out.hL j hj) A6.out hSn hSr
  have hil : ∀ t ∈ T, t.is.length ≤ 1000 := A1.out.len
  rcases hcase with ⟨hf, rfl, hb5⟩ | ⟨hf, rfl, mb', tv, H', K, hM⟩
  · have g1 : decide (Z.most < (total S : Int)) = true := by
      simp
      omega
    have hb05 := A3.out.bel.trans (hb5.mono A13.out)
    have hZ5 := A0.out.below hb05
    have x5 : w5.cell? ⟨zx, 0, none⟩ = some (.pointer (some ⟨V.zb, 0, none⟩)) := (hb5.cell (World.block_lt_of_cell? w4 _ x1)).trans x1
    have c5 : w5.cell? ⟨V.zb, 5, none⟩ = some (.int .i64 Z.most) := hZ5.cz rfl
    have l5 : w5.drew.cell? ⟨lv, 0, none⟩ = some (.map (some mb)) := (hb5.cell (World.block_lt_of_cell? w4 _ A4.out)).trans A4.out
    have m5 : Sh w5.drew mb s := A5.out.same (hb5.block mb A5.out.lt)
    have hzs := zs_of hZ5.drew (w := w5.drew) x5 A2.out.v1 A2.out.o1 A2.out.v3 A2.out.o3
    have hcells := cells_two_ok w5.drew zx V.zb oT oE cT cE T (fun i => decide ((i : Int) ∈ s)) lv hzs hTl hil (fun i hi => in_two lv mb i s _ (by omega) l5 m5)
    rw [hcel] at hcells
    have hbare := bare_errno 12 12 w5.drew hZ5.drew.et
    have B1 := Lib.hid hb05
    clear hb05 hZ5 hb5 x1 hzs l5 m5 hcel hil hSn hSr hf hmost
    go_wp2_with fail
    refine E1.out _ _ ?_
    clear E1 K1
    go_wp2_with fail
    refine wp_region_noPanic ?_
    refine RegU.begin (S := fun wz => wz.cell? ⟨zx, 0, none⟩ = some (.pointer (some ⟨V.zb, 0, none⟩)) ∧ wz.cell? ⟨V.zb, 5, none⟩ = some (.int .i64 Z.most)) (N := [1, 2, 3, 4, 5, 6]) (by kernel_rfl) ?_ (fun hHeld => ?_)
    · (try dsimp only); first | assumption | go_keep
    refine RegU.tk [2, 7] 0 ?_
    refine RegU.tk [2, 7] 1 ?_
    refine RegU.tk [4, 5, 6, 7] 3 ?_
    refine RegU.tk [5, 6, 7] 4 ?_
    refine RegU.tk [6, 7] 5 ?_
    refine RegU.tk [7] 6 ?_
    refine RegU.one (i := 2) (by kernel_rfl) rfl (fun K hK => ?_)
    go_simp
    refine hcells.mono ?_
    rintro e w6 ⟨rfl, rfl⟩
    refine hK.out _ _ ⟨x5, c5⟩ (fun hHeld => ?_)
    clear hK K
    try simp only [Act.put, List.setIfInBounds_toArray, List.set_cons_zero, List.set_cons_succ]
    refine RegU.tk [] 7 ?_
    refine RegU.rest [] [] (by kernel_rfl) rfl ?_
    clear hHeld x5 c5 hcells
    go_wp2_with fail
    refine NoPanic.normal ?_
    go_wp2_with fail
    refine hbare.mono ?_
    rintro e w7 ⟨rfl, hb7⟩
    clear hbare
    go_wp2_with fail
    have hb07 := B1.out.drew.trans (hb7.mono (by have := B1.out.size; exact this))
    exact A8.out _ _ rfl rfl ⟨O, V, H, nu, ol, T, Z, loc, A0.out.below hb07, A1.out, rfl, rfl, Nat.le_refl _, Nat.le_succ _, Nat.le_succ _, rfl, Turned.of_below _ hb07⟩
  · obtain ⟨hC, hiff⟩ := major_iff A1.out (fun j hj => A3.out.hL j hj) A6.out hM
    have hT5 := hM.turned
    have keep : ∀ k, w.heap.size ≤ k → k < w4.heap.size → w5.heap[k]? = w4.heap[k]? := fun k h1 h2 => hT5.block k h2 (fun h3 => by
      rcases h3 with h3 | ⟨a, ha, e⟩
      · have := A10.out.heap k h3
        omega
      · obtain ⟨j, _, rfl⟩ := rs_mem.1 ha
        have e' : gW = k := e
        have := A2.out.nW
        omega)
    have hZ5 := zr_moved A9.out A14.out (L := L) (fun j hj => by obtain ⟨t, ht, _⟩ := A3.out.hL j hj; exact ⟨t, ht⟩) (mvV majFrom K H.room) hM.hr hT5 (fun k hk => hM.own k hk) (fun j hj t ht r hr => by
      have h2 := hM.cells (gW, j * 3) (rs_mem.2 ⟨j, hj, rfl⟩)
      rw [fOf_at ht] at h2
      match r, hr with
      | 0, _ => exact h2.1.trans (by rw [← mvV_k (from_ := majFrom) (L := K) (z := H.room)]; rfl)
      | 1, _ => exact h2.2.1
      | 2, _ => exact h2.2.2.1.trans (by rw [← mvV_s (from_ := majFrom) (L := K) (z := H.room)]; rfl)) hM.sizes
    have x5 : w5.cell? ⟨zx, 0, none⟩ = some (.pointer (some ⟨V.zb, 0, none⟩)) := (World.cell?_of_block (a := ⟨zx, 0, none⟩) (keep zx A3.out.nx (World.block_lt_of_cell? w4 _ x1))).trans x1
    have l5 : w5.drew.cell? ⟨lv, 0, none⟩ = some (.map (some mb)) := (World.cell?_of_block (a := ⟨lv, 0, none⟩) (keep lv nl (World.block_lt_of_cell? w4 _ A4.out))).trans A4.out
    have m5 : Sh w5.drew mb s := A5.out.same (keep mb nm A5.out.lt)
    have hcells := cells_two_ok w5.drew zx V.zb oT oE cT cE (movedT L (mvV majFrom K H.room) T) (fun i => decide ((i : Int) ∈ s)) lv (zs_of hZ5.drew (w := w5.drew) x5 (by rw [movedT_length]; exact A2.out.v1) (by rw [movedT_length]; exact A2.out.o1) (by rw [movedT_length]; exact A2.out.v3) (by rw [movedT_length]; exact A2.out.o3)) (by rw [movedT_length]; exact hTl) (fun t' ht' => by
      obtain ⟨i, hi⟩ := List.getElem?_of_mem ht'
      obtain ⟨t, ht, rfl⟩ := movedT_of hi
      have := hil t (List.mem_of_getElem? ht)
      by_cases e : i ∈ L
      · rw [if_pos e]
        exact this
      · rw [if_neg e]
        exact this) (fun i hi => in_two lv mb i s _ (by rw [movedT_length] at hi; omega) l5 m5)
    rw [cells_moved, movedT_length, hcel] at hcells
    have g1 : decide (Z.most < (total S : Int)) = false := by
      simp
      omega
    have c5 : w5.cell? ⟨V.zb, 5, none⟩ = some (.int .i64 Z.most) := hZ5.cz rfl
    have c9 : w5.drew.cell? ⟨V.zb, 10, none⟩ = some (.int .i64 Z.majors) := hZ5.cz rfl
    have f9 : w5.drew.frozen? ⟨V.zb, 10, none⟩ = false := hZ5.fz 10
    have x6 : w5.drew.cell? ⟨zx, 0, none⟩ = some (.pointer (some ⟨V.zb, 0, none⟩)) := x5
    have hmin := A1.out.majors
    have hw9 : IntKind.i64.wrap (Z.majors + 1) = Z.majors + 1 := IntWalk.i64_in _ (by unfold big at hmj; omega)
    have hZ6 := zr_num hZ5.drew 10 (Z.majors + 1) (Z' := { Z with majors := Z.majors + 1 }) rfl
    have nzz : w.heap.size ≤ V.zb → False := fun e => by have := A10.out.zb; omega
    have keep6 : ∀ k, w.heap.size ≤ k → k < w4.heap.size → (w5.drew.setCell ⟨V.zb, 10, none⟩ (.int .i64 (Z.majors + 1))).heap[k]? = w4.heap[k]? := fun k h1 h2 => (blk_ne (w := w5.drew) (p := ⟨V.zb, 10, none⟩) (fun e => nzz (by
      have e' : k = V.zb := e
      omega))).trans (keep k h1 h2)
    have hT6 : Turned (fun k => B ≤ k) w (w5.drew.setCell ⟨V.zb, 10, none⟩ (.int .i64 (Z.majors + 1))) := by
      have hBW : ∀ a ∈ rsOf gW L, B ≤ a.1 := fun a ha => by
        obtain ⟨j, hj, rfl⟩ := rs_mem.1 ha
        obtain ⟨t, ht, _⟩ := A3.out.hL j hj
        have := (List.getElem?_eq_some_iff.1 ht).1
        exact (wblk A9.out (A14.out (by omega))).2.choose_spec.2.1
      have h1 : Turned (fun k => B ≤ k) w w4 := Turned.of_below _ A3.out.bel
      have h2 : Turned (fun k => B ≤ k) w4 w5 := hT5.mono fun k hk => by
        rcases hk with hk | ⟨a, ha, e⟩
        · exact A0.out.hr.ge hk
        · rw [← e]
          exact hBW a ha
      exact ((h1.trans h2).drew).setCell (.inl A0.out.low) _
    have hrem : H'.rem.length = 0 := by
      have h2 := hM.hr.rem
      rcases h2.2 with ⟨_, e⟩ | ⟨_, _, _, e, _⟩
      · exact e
      · cases e
    have hM1 : H'.minors = H.minors := hM.minors
    have hM2 : H'.majors = H.majors + 1 := hM.majors
    have hmaj := A1.out.minors
    have hMid : Mid w B V H T L s zx lv mb gT cT gE cE gW cW gK cK gH (w5.drew.setCell ⟨V.zb, 10, none⟩ (.int .i64 (Z.majors + 1))) := by
      refine ⟨_, _, H', _, _, _, _, lx_of (Z6 := { Z with majors := Z.majors + 1 }) (V6 := { V with mb := mb', ov := tv, rv := .slice none 0 0 }) A1.out hC hiff A6.out A3.out.hL (fun j hj => nums_mem.2 hj) hTl (fun t ht => (A10.out.th t ht).1) ?_ ?_ ?_ ?_ A2.out.v1 A2.out.o1 A2.out.v2 A2.out.o2 A2.out.v3 A2.out.o3 A2.out.v4 A2.out.o4 A3.out.nx nl nm A3.out.nh A2.out.nE A2.out.nW A2.out.nK A10.out.zb, hC.hi, hZ6, movedT_length, fun w' O'' T' h1 h2 h3 h4 => ?_⟩
      · exact (World.cell?_of_block (a := ⟨zx, 0, none⟩) (keep6 zx A3.out.nx (World.block_lt_of_cell? w4 _ x1))).trans x1
      · exact (World.cell?_of_block (a := ⟨lv, 0, none⟩) (keep6 lv nl (World.block_lt_of_cell? w4 _ A4.out))).trans A4.out
      · exact A5.out.same (keep6 mb nm A5.out.lt)
      · exact (keep6 gH A3.out.nh (lt_of_block A3.out.held)).trans A3.out.held
      · exact col_done A1.out hC hiff A6.out h1 h2 h3 h4 rfl rfl rfl (by show Z.minors = _; omega) (by show Z.majors + 1 = _; omega) (by omega) (by omega) (by omega) hT6
    have B1 := Lib.hid hMid
    clear hMid hT6 keep6 hZ6 hZ5 keep hC hiff hT5 hM hrem hM1 hM2 hmin hmaj x1 hf hmost hcel hil hSn hSr l5 m5
    go_wp2_with fail
    refine E1.out _ _ ?_
    clear E1 K1
    go_wp2_with fail
    refine wp_region_noPanic ?_
    refine RegU.begin (S := fun wz => wz.cell? ⟨zx, 0, none⟩ = some (.pointer (some ⟨V.zb, 0, none⟩)) ∧ wz.cell? ⟨V.zb, 5, none⟩ = some (.int .i64 Z.most)) (N := [1, 2, 3, 4, 5, 6]) (by kernel_rfl) ?_ (fun hHeld => ?_)
    · (try dsimp only); first | assumption | go_keep
    refine RegU.tk [2, 7] 0 ?_
    refine RegU.tk [2, 7] 1 ?_
    refine RegU.tk [4, 5, 6, 7] 3 ?_
    refine RegU.tk [5, 6, 7] 4 ?_
    refine RegU.tk [6, 7] 5 ?_
    refine RegU.tk [7] 6 ?_
    refine RegU.one (i := 2) (by kernel_rfl) rfl (fun K hK => ?_)
    go_simp
    refine hcells.mono ?_
    rintro e w6 ⟨rfl, rfl⟩
    refine hK.out _ _ ⟨x5, c5⟩ (fun hHeld => ?_)
    clear hK K
    try simp only [Act.put, List.setIfInBounds_toArray, List.set_cons_zero, List.set_cons_succ]
    refine RegU.tk [] 7 ?_
    refine RegU.rest [] [] (by kernel_rfl) rfl ?_
    clear hHeld x5 c5 hcells
    go_wp2_with fail
    refine NoPanic.normal ?_
    go_wp2
    exact A7.out _ _ _ _ _ _ _ _ _ _ _ _ _ _ _ _ _ _ _ _ _ _ _ _ _ _ _ B1.out
end Go.Proofs.YthbkklnahhdgcaaDoor.PlRd

namespace Go.Proofs.YthbkklnahhdgcaaDoor.PlRe
open Go Go.Proofs Go.RowKit Go.Maps Go.Proofs.YthbkklnahhdgcaaDoor.Lib HeapR HeapB HeapC HeapD HeapG HeapH ErrC ChA ChT ChCa ChCc ChE ChH ChI ChJ ChK ChL ChN ChO ChP ChQ ChR ChU ChV ChW ChX ChYf ChZ PlA PlM PlT PlZ PlX PlYa PlU PlQ PlL PlLa PlLb PlLc PlLd PlE PlEa PlEb PlF PlFa PlFb PlFc PlFd PlG PlGa PlGb PlV PlO PlK PlP PlR PlRa PlRb PlRc PlRd

variable {w : World} {O : Nat → Nat} {B : Nat} {V : Zv} {H : HS} {nu ol : List Ob} {T : List Th} {Z : Zn} {loc : Nat → Ob}
theorem infoBool : (Tryd.prog.info? 4).map (fun i => (i.zero, i.size, i.bytes)) = some (some (.bool false), 1, 1) := by kernel_rfl
theorem bool_made (s : Nat) : madeCells (Value.bool false).cells s = (List.replicate s (Value.bool false)).toArray := by
  apply Array.ext
  · simp [size_madeCells]
  · intro i h1 h2
    simp [madeCells, Value.cells, Nat.mod_one]

theorem col_tail {Q : Exit → Act → World → Prop} {u0 u1 u4 u8 Ja Jb Jc Jd Je Jf Jg Jh Ji Jj Jk Jl Jm Jn Jo Jp Jq Jr Js Jt Ju Jv Jw Jx Jy Jz Qa Qb Qc Qd Qe Qf Qg Qh Qi Qj Qk Ql Qm Qn Qo Qp Qq Qr Qs Qt Qu Qv Qw Qx Qy Qz Xe Xg Xh Xi Xj Xk Xn Xo Xp Xq Xt Xu Xv Xx Xy Xz Yg Yh Yi Yj Yk Yl Ym Yn Yo Yp Yq Yr Ys Yt Yu Yv Yw Yx Yy Yz Ua Ub Uc Ud Ue Uf Ug Uh Ui Uj Uk Ul Um Un Uo Up Uq Ur Us Ut Uu Uv Uw Ux Uy Uz Wc Wd We Wf Wg Wh Wi Wj Wk Wl Wm Wn Wo Wp Wq Wt Wu Ww Wx Wy Wz Ka Kb Kc Kd Ke Kf Kg Kh Kj Kl Km Kn Ko Kp Kq Kr Kt Ku Kv Kw Kx Ky Kz Rg Rh Ri Rj Rk Rl Rm Rp Rq Rt Ru Rx Ry Rz Gc Ge Gf Gg Gh Gi Gj Gm Gn Gp Gq Gt Gu Gv Gx Gy Gz Fe Ff Fg Fh Fi Fj Fk Fm Fo Fp Fq Fs Ft Fu Fv Fw Fx Fy Fz Ec Ee Ef Eg Eh Ei Ej Ek Em En Eo Ep Eu Ev Ex Ey Ez Da Db Dc Dd Dg Dh Di Dj Dk Dl Dm Dn Do Dp Dq Dt Du Dv Dw Dx Dy Dz Pa Pb Pc Pe Pf Pg Ph Pi Pj Pk Pm Pn Po Pq Ps Pt Pu Pv Pw Px Py Pz Na : Value} {w2 : World} (h : ZR w O B V H T Z) (hz : ZI H nu ol T Z loc) (what : Int) (hTl : T.length ≤ 1000) (hrl : H.rem.length ≤ big) (hmi : H.minors < big) (hmj : H.majors < big)
    {zx sx gT cT gE cE gW cW gK cK gH cH cA cB nB : Nat} {oT oW oE oK oA oB : Option Addr} {L M : List Nat} (hS : Slots V T.length w.heap.size oT oW oE oK gT cT gE cE gW cW gK cK) (hX : CX w w2 V.zb what T zx sx gH gW L M oA cA oB cB nB)
    (hQ2 : ∀ (a' : Act) (w' : World), a'.tmps.getD 4 undef = .bool true → a'.defers = [] → ColDone w B (V.zb, V.hb) H T w' → Q .ret a' w') :
    Code.wp Tryd.prog (Cut.piece Tryd.f73 (Cut.tail 16)) Q ⟨#[u0, u1, (.pointer (some ⟨zx, 0, none⟩)), (.pointer (some ⟨sx, 0, none⟩)), u4, (.slice oA L.length cA), (.slice oB nB cB), (.slice (some ⟨gH, 0, none⟩) T.length cH), u8, (.func (Fn.func 91) #[] #[.pointer (some ⟨zx, 0, none⟩)]), Ja, Jb, Jc, Jd, Je, Jf, Jg, Jh, Ji, Jj, Jk, Jl, Jm, Jn, Jo, Jp, Jq, Jr, Js, Jt, Ju, Jv, Jw, Jx, Jy, Jz, Qa, Qb, Qc, Qd, Qe, Qf, Qg, Qh, Qi, Qj, Qk, Ql, Qm, Qn, Qo, Qp, Qq, Qr, Qs, Qt, Qu, Qv, Qw, Qx, Qy, Qz, Xe, Xg, Xh, Xi, Xj, Xk, Xn, Xo, Xp, Xq, Xt, Xu, Xv, Xx, Xy, Xz, Yg, Yh, Yi, Yj, Yk, Yl, Ym, Yn, Yo, Yp, Yq, Yr, Ys, Yt, Yu, Yv, Yw, Yx, Yy, Yz, Ua, Ub, Uc, Ud, Ue, Uf, Ug, Uh, Ui, Uj, Uk, Ul, Um, Un, Uo, Up, Uq, Ur, Us, Ut, Uu, Uv, Uw, Ux, Uy, Uz, Wc, Wd, We, Wf, Wg, Wh, Wi, Wj, Wk, Wl, Wm, Wn, Wo, Wp, Wq, Wt, Wu, Ww, Wx, Wy, Wz, Ka, Kb, Kc, Kd, Ke, Kf, Kg, Kh, Kj, Kl, Km, Kn, Ko, Kp, Kq, Kr, Kt, Ku, Kv, Kw, Kx, Ky, Kz, Rg, Rh, Ri, Rj, Rk, Rl, Rm, Rp, Rq, Rt, Ru, Rx, Ry, Rz, Gc, Ge, Gf, Gg, Gh, Gi, Gj, Gm, Gn, Gp, Gq, Gt, Gu, Gv, Gx, Gy, Gz, Fe, Ff, Fg, Fh, Fi, Fj, Fk, Fm, Fo, Fp, Fq, Fs, Ft, Fu, Fv, Fw, Fx, Fy, Fz, Ec, Ee, Ef, Eg, Eh, Ei, Ej, Ek, Em, En, Eo, Ep, Eu, Ev, Ex, Ey, Ez, Da, Db, Dc, Dd, Dg, Dh, Di, Dj, Dk, Dl, Dm, Dn, Do, Dp, Dq, Dt, Du, Dv, Dw, Dx, Dy, Dz, Pa, Pb, Pc, Pe, Pf, Pg, Ph, Pi, Pj, Pk, Pm, Pn, Po, Pq, Ps, Pt, Pu, Pv, Pw, Px, Py, Pz, Na], []⟩ w2 := by
  conv => arg 2; whnf
  have hZ2 := h.below hX.bel
  have hfitL : ∀ j ∈ L ++ M, ∃ t, T[j]? = some t ∧ t.here = true := fun j hj => by
    rcases List.mem_append.mp hj with hj | hj
    · obtain ⟨t, ht, hk⟩ := hX.hL j hj
      exact ⟨t, ht, (hz.known j t ht hk).1⟩
    · by_cases hw : what = 2
      · obtain ⟨_, t, ht, h1, _⟩ := (hX.hM.1 hw j).1 hj
        exact ⟨t, ht, h1⟩
      · rw [hX.hM.2 hw] at hj
        cases hj
  have hnl : (numsOf (L ++ M)).length = nB := by rw [hX.ln]; simp [numsOf]
  have hlead := Lead_ok (w := w2) oT oB cT cB (numsOf (L ++ M)) (zi_shut hz) hTl hz.len (by
    rw [hnl, hX.ln, List.length_append]
    have := hX.ll
    have := hX.ml
    unfold big
    omega) (nums_fit hfitL) (lead_of hZ2 hS.v1 hS.o1) (fun i y hy => by
    have hi := (List.getElem?_eq_some_iff.1 hy).1
    have h2 := hX.rowB
    obtain ⟨g, o, c, e1, e2, _⟩ := slot h2 (Nat.lt_of_le_of_lt (Nat.zero_le _) hZ2.zlt)
    injection e1 with e3 e4 e5
    have e6 := e2 (by omega)
    rw [← e3] at e6
    rw [e6] at h2
    refine ⟨g, e6, ?_⟩
    rw [h2.cellAt i (by omega)]
    show ((L ++ M).map fun j : Nat => Value.int .i64 ((j : Int) + 1))[i]? = _
    unfold numsOf at hy
    rw [List.getElem?_map] at hy ⊢
    obtain ⟨j, hj, e⟩ := Option.map_eq_some_iff.1 hy
    rw [hj, ← e]
    rfl)
  rw [hnl] at hlead
  have x1 := hX.x
  have s0 := hX.s0
  have z1 : w2.cell? ⟨V.zb, 1, none⟩ = some (.slice oT T.length cT) := (hZ2.cz rfl).trans (congrArg some hS.v1)
  have A0 := Lib.hid h
  have A1 := Lib.hid hz
  have A2 := Lib.hid hS
  have A3 := Lib.hid hX
  have A8 := Lib.hid hQ2
  clear h hz hS hX hQ2 hZ2 hfitL hnl
  refine wp_seq_k (fun K1 hK1 => ?_)
  have E1 := Lib.hid hK1
  clear hK1
  go_wp2_with fail
  refine hlead.mono ?_
  rintro e w3 ⟨mb, s, rfl, nm, hm, hb3, hLed⟩
  clear hlead z1
  have hb4 : Below w2.heap.size w2 (w3.alloc (.cells #[.map (some mb)] 210 (0, 0))) := hb3.alloc hb3.size _
  have hlv : (w3.alloc (.cells #[.map (some mb)] 210 (0, 0))).cell? ⟨w3.heap.size, 0, none⟩ = some (.map (some mb)) := cell_of_block (heap_alloc_last w3 _) rfl
  have hm4 : Sh (w3.alloc (.cells #[.map (some mb)] 210 (0, 0))) mb s := hm.same (Below.heap_alloc w3 _ mb hm.lt)
  have hX4 := A3.out.below hb4
  have s4 := hX4.s0
  have nl4 : w.heap.size ≤ w3.heap.size := Nat.le_trans A3.out.bel.size hb3.size
  have nm4 : w.heap.size ≤ mb := Nat.le_trans A3.out.bel.size nm
  have B1 := Lib.hid hX4
  have B2 := Lib.hid hlv
  have B3 := Lib.hid hm4
  have B4 := Lib.hid hLed
  clear hX4 hlv hm4 hLed hb4 hm hb3 A3
  go_wp2_with fail
  refine E1.out _ _ ?_
  clear E1 K1
  clear x1 s0
  generalize w3.alloc (.cells #[.map (some mb)] 210 (0, 0)) = w4 at *
  refine wp_seq_k (fun K17 hK17 => ?_)
  have E17 := Lib.hid hK17
  clear hK17
  refine wp_seq_k (fun K2 hK2 => ?_)
  have E2 := Lib.hid hK2
  clear hK2
  go_wp2_with fail
  refine E2.out _ _ ?_
  clear E2 K2
  refine wp_cond_split rfl (fun hc => ?_) (fun hc => ?_)
  · have hw : what = 2 := by simpa using hc
    subst hw
    refine col_minor A0.out A1.out hTl hrl hmi (lv := w3.heap.size) (mb := mb) (cB := cB) (nB := nB) (oB := oB) (sx := sx) (s := s) A2.out B1.out B2.out B3.out B4.out nl4 nm4 ?_ (fun a' w' h1 h2 h3 => A8.out a' w' h1 h2 h3)
    intro _ _ _ _ _ _ _ _ _ _ _ _ _ _ _ _ _ _ _ _ _ _ _ _ _ _ _ _ _ _ _ _ w6 hMid
    refine E17.out _ _ ?_
    clear E17 K17
    obtain ⟨O', V6, H', T1, Z6, loc', ol', m1, m2, m3, m4, m5⟩ := hMid
    have hil : ∀ t ∈ T, t.is.length ≤ 1000 := A1.out.len
    have C1 := Lib.hid m1
    have C2 := Lib.hid m2
    have C3 := Lib.hid m3
    have C4 := Lib.hid m4
    have C5 := Lib.hid m5
    have C6 := Lib.hid hil
    clear m1 m2 m3 m4 m5 hil
    refine wp_seq_k (fun K18 hK18 => ?_)
    have E18 := Lib.hid hK18
    clear hK18
    refine col_for w6 O' B w.heap.size V6 H' T T1 Z6 loc' s L zx w3.heap.size mb gT cT gE cE gW cW gK cK gH cH ol' C1.out C2.out C3.out C4.out ?_
    intro _ _ _ _ _ _ _ _ _ _ _ _ _ _ _ _ _ _ _ _ _ _ _ _ _ _ _ _ _ _ _ _ _ _ _ _ _ _ _ _ _ _ _ _ _ _ _ _ _ _ _ _ _ _ _ _ _ _ _ _ _ _ _ _ _ _ _ _ _ _ _ _ _ _ _ _ _ _ _ _ _ _ _ _ _ _ _ _ _ _ _ _ _ _ _ _ _ _ _ _ _ _ _ _ _ _ _ w7 hRZ
    refine E18.out _ _ ?_
    clear E18 K18
    refine col_end w6 O' B w.heap.size V6 H' T T1 Z6 loc' s L zx w3.heap.size mb gT cT gE cE gW cW gK cK gH cH ol' w7 C1.out hRZ C6.out ?_
    intro a' w' O'' T' h1 h2 h3 h4 h5 h6
    exact A8.out a' w' h1 h2 (C5.out w' O'' T' h3 h4 h5 h6)
  · have hw : what ≠ 2 := by simpa using hc
    refine col_major A0.out A1.out hTl what hw hmj (mb := mb) (cB := cB) (nB := nB) (oB := oB) (sx := sx) (s := s) A2.out B1.out B2.out B3.out B4.out nl4 nm4 ?_ (fun a' w' h1 h2 h3 => A8.out a' w' h1 h2 h3)
    intro _ _ _ _ _ _ _ _ _ _ _ _ _ _ _ _ _ _ _ _ _ _ _ _ _ _ w6 hMid
    refine E17.out _ _ ?_
    clear E17 K17
    obtain ⟨O', V6, H', T1, Z6, loc', ol', m1, m2, m3, m4, m5⟩ := hMid
    have hil : ∀ t ∈ T, t.is.length ≤ 1000 := A1.out.len
    have C1 := Lib.hid m1
    have C2 := Lib.hid m2
    have C3 := Lib.hid m3
    have C4 := Lib.hid m4
    have C5 := Lib.hid m5
    have C6 := Lib.hid hil
    clear m1 m2 m3 m4 m5 hil
    refine wp_seq_k (fun K18 hK18 => ?_)
    have E18 := Lib.hid hK18
    clear hK18
    refine col_for w6 O' B w.heap.size V6 H' T T1 Z6 loc' s L zx w3.heap.size mb gT cT gE cE gW cW gK cK gH cH ol' C1.out C2.out C3.out C4.out ?_
    intro _ _ _ _ _ _ _ _ _ _ _ _ _ _ _ _ _ _ _ _ _ _ _ _ _ _ _ _ _ _ _ _ _ _ _ _ _ _ _ _ _ _ _ _ _ _ _ _ _ _ _ _ _ _ _ _ _ _ _ _ _ _ _ _ _ _ _ _ _ _ _ _ _ _ _ _ _ _ _ _ _ _ _ _ _ _ _ _ _ _ _ _ _ _ _ _ _ _ _ _ _ _ _ _ _ _ _ w7 hRZ
    refine E18.out _ _ ?_
    clear E18 K18
    refine col_end w6 O' B w.heap.size V6 H' T T1 Z6 loc' s L zx w3.heap.size mb gT cT gE cE gW cW gK cK gH cH ol' w7 C1.out hRZ C6.out ?_
    intro a' w' O'' T' h1 h2 h3 h4 h5 h6
    exact A8.out a' w' h1 h2 (C5.out w' O'' T' h3 h4 h5 h6)

end Go.Proofs.YthbkklnahhdgcaaDoor.PlRe

namespace Go.Proofs.YthbkklnahhdgcaaDoor.PlRf
open Go Go.Proofs Go.RowKit Go.Maps Go.Proofs.YthbkklnahhdgcaaDoor.Lib HeapR HeapB HeapC HeapD HeapG HeapH ErrC ChA ChT ChCa ChCc ChE ChH ChI ChJ ChK ChL ChN ChO ChP ChQ ChR ChU ChV ChW ChX ChYf ChZ PlA PlM PlT PlZ PlX PlYa PlU PlQ PlL PlLa PlLb PlLc PlLd PlE PlEa PlEb PlF PlFa PlFb PlFc PlFd PlG PlGa PlGb PlV PlO PlK PlP PlR PlRa PlRb PlRc PlRd PlRe

variable {w : World} {O : Nat → Nat} {B : Nat} {V : Zv} {H : HS} {nu ol : List Ob} {T : List Th} {Z : Zn} {loc : Nat → Ob}

theorem collects_ok (h : ZR w O B V H T Z) (hz : ZI H nu ol T Z loc) (what a b c bits : Int) (hTl : T.length ≤ 1000) (hrl : H.rem.length ≤ big) (hmi : H.minors < big) (hmj : H.majors < big) :
    Calls Tryd.prog 73 #[.pointer (some ⟨V.zb, 0, none⟩), stepV what a b c bits] w fun e w' => e = .returned (.bool true) ∧ ColDone w B (V.zb, V.hb) H T w' := by
  obtain ⟨oT, oW, oE, oK, gT, cT, gE, cE, gW, cW, gK, cK, hS⟩ := slots_of h
  obtain ⟨iI, hiI, hI0, hI1, hI2⟩ := info_parts infoBool
  have hmk : ∀ u : World, (Instr.makeSlice 78 (.int .i64 (T.length : Int)) (.int .i64 (T.length : Int))).run Tryd.prog u = .ok (.slice (some ⟨u.heap.size, 0, none⟩) T.length T.length) (u.alloc (.cells (List.replicate T.length (Value.bool false)).toArray 4)) := fun u => by
    have h := run_make (P := Tryd.prog) u 78 4 iI _ Tryd.underlying78 hiI hI0 .i64 .i64 (T.length : Int) (T.length : Int) (by omega) (Int.le_refl _) (by rw [hI2]; omega) (by omega)
    rw [Int.toNat_natCast, hI1, Nat.mul_one, bool_made] at h
    exact h
  have q1 : ∀ (o1 o2 : Obj), ((w.alloc o1).alloc o2).cell? ⟨V.zb, 1, none⟩ = some (.slice oT T.length cT) := fun o1 o2 => alloc_cell (alloc_cell ((h.cz rfl).trans (congrArg some hS.v1)) o1) o2
  have p1 : ((w.alloc (.cells #[.pointer (some ⟨V.zb, 0, none⟩)] 75 (0, 0))).alloc (stepCells what a b c bits)).cell? ⟨w.heap.size, 0, none⟩ = some (.pointer (some ⟨V.zb, 0, none⟩)) := alloc_cell (cell_of_block (heap_alloc_last w _) rfl) _
  have bW : Below w.heap.size w (((w.alloc (.cells #[.pointer (some ⟨V.zb, 0, none⟩)] 75 (0, 0))).alloc (.cells #[.int .i64 what, .int .i64 a, .int .i64 b, .int .i64 c, .int .u64 bits] 84 (0, 0))).alloc (.cells (Array.replicate T.length (Value.bool false)) 4 (0, 0))) := (((Below.refl _ w).alloc (Nat.le_refl _) _).alloc (by simp) _).alloc (by simp; omega) _
  have xW : (((w.alloc (.cells #[.pointer (some ⟨V.zb, 0, none⟩)] 75 (0, 0))).alloc (.cells #[.int .i64 what, .int .i64 a, .int .i64 b, .int .i64 c, .int .u64 bits] 84 (0, 0))).alloc (.cells (Array.replicate T.length (Value.bool false)) 4 (0, 0))).cell? ⟨w.heap.size, 0, none⟩ = some (.pointer (some ⟨V.zb, 0, none⟩)) := alloc_cell (alloc_cell (cell_of_block (heap_alloc_last w _) rfl) _) _
  have sW : ∀ (i : Nat) (v : Value), (#[.int .i64 what, .int .i64 a, .int .i64 b, .int .i64 c, .int .u64 bits] : Array Value)[i]? = some v → (((w.alloc (.cells #[.pointer (some ⟨V.zb, 0, none⟩)] 75 (0, 0))).alloc (.cells #[.int .i64 what, .int .i64 a, .int .i64 b, .int .i64 c, .int .u64 bits] 84 (0, 0))).alloc (.cells (Array.replicate T.length (Value.bool false)) 4 (0, 0))).cell? ⟨w.heap.size + 1, i, none⟩ = some v := fun i v hv => by
    refine alloc_cell ?_ _
    have h5 := heap_alloc_last (w.alloc (.cells #[.pointer (some ⟨V.zb, 0, none⟩)] 75 (0, 0))) (.cells #[.int .i64 what, .int .i64 a, .int .i64 b, .int .i64 c, .int .u64 bits] 84 (0, 0))
    have h6 : (w.alloc (.cells #[.pointer (some ⟨V.zb, 0, none⟩)] 75 (0, 0))).heap.size = w.heap.size + 1 := by simp
    rw [h6] at h5
    exact cell_of_block h5 hv
  have hW : (((w.alloc (.cells #[.pointer (some ⟨V.zb, 0, none⟩)] 75 (0, 0))).alloc (.cells #[.int .i64 what, .int .i64 a, .int .i64 b, .int .i64 c, .int .u64 bits] 84 (0, 0))).alloc (.cells (Array.replicate T.length (Value.bool false)) 4 (0, 0))).heap[w.heap.size + 1 + 1]? = some (.cells (heldRow T.length []).toArray 4 (0, 0)) := by
    rw [held_nil, List.toArray_replicate]
    exact heap_alloc_at (by simp) _
  have lW : w.heap.size + 1 + 1 < (((w.alloc (.cells #[.pointer (some ⟨V.zb, 0, none⟩)] 75 (0, 0))).alloc (.cells #[.int .i64 what, .int .i64 a, .int .i64 b, .int .i64 c, .int .u64 bits] 84 (0, 0))).alloc (.cells (Array.replicate T.length (Value.bool false)) 4 (0, 0))).heap.size := by simp
  have hZb := h.below bW
  have A0 := Lib.hid h
  have A1 := Lib.hid hz
  have A2 := Lib.hid hS
  have A3 := Lib.hid bW
  have A4 := Lib.hid xW
  have A5 := Lib.hid sW
  have A6 := Lib.hid hW
  have A7 := Lib.hid lW
  have A8 := Lib.hid hZb
  clear h hz hS bW xW sW hW lW hZb
  unfold stepV
  unfold stepCells at p1
  go_enter Tryd.func73, Tryd.ntmps73
  refine wp_seq_k (fun K1 hK1 => ?_)
  have E1 := Lib.hid hK1
  clear hK1
  go_wp2_with fail
  refine E1.out _ _ ?_
  clear E1 K1
  refine wp_seq_k (fun K2 hK2 => ?_)
  have E2 := Lib.hid hK2
  clear hK2
  go_wp2_with fail
  refine E2.out _ _ ?_
  clear E2 K2
  refine wp_seq_k (fun K3 hK3 => ?_)
  have E3 := Lib.hid hK3
  clear hK3
  go_wp2_with fail
  refine E3.out _ _ ?_
  clear E3 K3
  refine wp_seq_k (fun K4 hK4 => ?_)
  have E4 := Lib.hid hK4
  clear hK4
  go_wp2_with fail
  refine E4.out _ _ ?_
  clear E4 K4
  refine wp_seq_k (fun K5 hK5 => ?_)
  have E5 := Lib.hid hK5
  clear hK5
  go_wp2_with fail
  generalize ((w.alloc (.cells #[.pointer (some ⟨V.zb, 0, none⟩)] 75 (0, 0))).alloc (.cells #[.int .i64 what, .int .i64 a, .int .i64 b, .int .i64 c, .int .u64 bits] 84 (0, 0))).alloc (.cells (Array.replicate T.length (Value.bool false)) 4 (0, 0)) = wb at *
  clear hmk q1 p1
  have hzl := A0.out.zlt
  refine sel_loop wb w.heap.size V.zb (w.heap.size + 1) gT cT gW cW gK cK (w.heap.size + 1 + 1) T.length bits T wb oT oW oK (fun h0 => ⟨A2.out.o1 h0, A2.out.o2 h0, A2.out.o4 h0⟩) hTl A4.out ((A8.out.cz rfl).trans (congrArg some A2.out.v1)) ((A8.out.cz rfl).trans (congrArg some A2.out.v2)) ((A8.out.cz rfl).trans (congrArg some A2.out.v4)) (A5.out 4 _ rfl)
    (fun i t ht => (zr_known A8.out A2.out.v4 A2.out.o4 ht).2) A7.out (by omega) (by omega) (by omega) (by have := A2.out.nK; omega) ⟨[], none, none, 0, 0, (by simp), List.nodup_nil, Nat.zero_le _, rfl, rfl, World.ownsRow_nil _ _ _ _, World.ownsRow_nil _ _ _ _, (fun k hk => by cases hk), A6.out, Turned.refl _ _⟩ ?_
  intro _ _ _ _ _ _ _ _ _ _ _ _ _ _ _ _ _ _ _ _ _ _ _ _ _ _ _ _ _ _ _ _ _ _ _ _ _ _ _ _ _ _ _ _ w1 hR
  obtain ⟨L, oA, oB, cA, cB, hL, hnd, hLl, rfl, rfl, hrA, hrB, hAB, hH1, hT1⟩ := hR
  refine E5.out _ _ ?_
  clear E5
  have hsz1 := hT1.size
  have hszb := A3.out.size
  have bel1 : Below w.heap.size w w1 := A3.out.trans (hT1.below hszb (fun k hk => by omega))
  have x1 : w1.cell? ⟨w.heap.size, 0, none⟩ = some (.pointer (some ⟨V.zb, 0, none⟩)) := (hT1.cell (p := ⟨w.heap.size, 0, none⟩) (World.block_lt_of_cell? wb _ A4.out) (by show ¬ w.heap.size = _; omega)).trans A4.out
  have s1 : w1.cell? ⟨w.heap.size + 1, 0, none⟩ = some (.int .i64 what) := (hT1.cell (p := ⟨w.heap.size + 1, 0, none⟩) (World.block_lt_of_cell? wb _ (A5.out 0 _ rfl)) (by show ¬ w.heap.size + 1 = _; omega)).trans (A5.out 0 _ rfl)
  have rA : w1.ownsRow w.heap.size 208 1 (.slice oA L.length cA) L.length (L.map fun j => .pointer (some ⟨gW, j * 3, none⟩)) := PlC.row_low hrA hszb
  have rB : w1.ownsRow w.heap.size 3 1 (.slice oB L.length cB) L.length (numOf L) := PlC.row_low hrB hszb
  have hZ1 := A0.out.below bel1
  have oBl : ∀ k, (Value.slice oB L.length cB).ownBlock = some k → wb.heap.size ≤ k := fun k hk => (own_lt hrB hk).1
  have lwb := A7.out
  have B1 := Lib.hid bel1
  have B2 := Lib.hid rA
  have B3 := Lib.hid rB
  have B4 := Lib.hid hZ1
  have B5 := Lib.hid oBl
  have B6 := Lib.hid hL
  have B7 := Lib.hid hLl
  have B8 := Lib.hid hAB
  have B9 := Lib.hid hH1
  clear bel1 rA rB hZ1 oBl hL hLl hAB hH1 hrA hrB hT1 hnd A3 A4 A5 A6 A7 A8
  refine wp_seq_k (fun K7 hK7 => ?_)
  have E7 := Lib.hid hK7
  clear hK7
  go_wp2_with fail
  refine E7.out _ _ ?_
  clear E7 K7
  refine wp_seq_k (fun K8 hK8 => ?_)
  have E8 := Lib.hid hK8
  clear hK8
  refine wp_seq_k (fun K9 hK9 => ?_)
  have E9 := Lib.hid hK9
  clear hK9
  go_wp2_with fail
  refine E9.out _ _ ?_
  clear E9 K9
  refine wp_cond_split rfl (fun hc => ?_) (fun hc => ?_)
  · have hw : what = 2 := by simpa using hc
    subst hw
    go_wp2_with fail
    have z1 : w1.cell? ⟨V.zb, 1, none⟩ = some (.slice oT T.length cT) := (B4.out.cz rfl).trans (congrArg some A2.out.v1)
    have z3 : w1.cell? ⟨V.zb, 3, none⟩ = some (.slice oE T.length cE) := (B4.out.cz rfl).trans (congrArg some A2.out.v3)
    have hlt := PlV.ZR.allLt A0.out
    refine old_loop w1 w.heap.size w.heap.size V.zb gT cT gE cE (.slice oB L.length cB) L T w1 oT oE (fun h0 => ⟨A2.out.o1 h0, A2.out.o3 h0⟩) hTl (by have := B7.out; omega) x1 z1 z3 (fun i t ht => ?_) (fun e => by have := B5.out _ e; omega) (fun e => by have := B5.out _ e; omega) (fun e => by have := B5.out _ e; have := A2.out.nT; omega) (fun e => by have := B5.out _ e; have := A2.out.nE; omega) B1.out.size ⟨[], oB, cB, L.length, (fun j => ⟨fun h => (by cases h), fun h => absurd h.1 (Nat.not_lt_zero _)⟩), Nat.le_refl _, by simp, rfl, by rw [List.append_nil]; exact B3.out, Turned.refl _ _, fun k hk => .inl hk⟩ ?_
    · obtain ⟨_, e2, e3, _, _⟩ := zr_thing B4.out A2.out.v1 A2.out.o1 ht
      exact ⟨e2, e3 3 _ rfl, (zr_here B4.out A2.out.v3 A2.out.o3 ht).2, fun e => by
        have := B5.out _ e
        have := (hlt.th t (List.mem_of_getElem? ht)).1
        omega⟩
    intro _ _ _ _ _ _ _ _ _ _ _ _ _ _ _ _ _ _ _ _ _ _ _ _ _ _ _ _ _ _ _ _ _ _ w2 hRO
    obtain ⟨M, oB', cB', n, hM, hMl, hn, rfl, hrow, hT2, _⟩ := hRO
    refine E8.out _ _ ?_
    clear E8
    have hsz2 := hT2.size
    have bel2 : Below w.heap.size w1 w2 := hT2.below B1.out.size (fun k hk => by have := B5.out k hk; omega)
    have hX : CX w w2 V.zb 2 T w.heap.size (w.heap.size + 1) (w.heap.size + 1 + 1) gW L M oA cA oB' cB' n := {
      ln := hn
      bel := B1.out.trans bel2
      x := (hT2.cell (p := ⟨w.heap.size, 0, none⟩) (World.block_lt_of_cell? w1 _ x1) (fun e => by have := B5.out _ e; simp only at this; omega)).trans x1
      s0 := (hT2.cell (p := ⟨w.heap.size + 1, 0, none⟩) (World.block_lt_of_cell? w1 _ s1) (fun e => by have := B5.out _ e; simp only at this; omega)).trans s1
      held := (hT2.block _ (lt_of_block B9.out) (fun e => by have := B5.out _ e; omega)).trans B9.out
      rowA := ownsRow_same B2.out fun k hk => hT2.block k (own_lt B2.out hk).2 (B8.out k hk)
      rowB := hrow
      nx := Nat.le_refl _
      nsx := Nat.le_succ _
      nh := by omega
      hL := fun j hj => (B6.out j hj).2
      ll := B7.out
      hM := ⟨fun _ => hM, fun h => absurd rfl h⟩
      ml := hMl }
    exact col_tail A0.out A1.out 2 hTl hrl hmi hmj (cH := T.length) A2.out hX (fun a' w' h1 h2 h3 => bodyPost_ret (results_tmp rfl _ _ _) h2 ⟨by rw [h1], h3⟩)
  · have hw : what ≠ 2 := by simpa using hc
    go_wp2_with fail
    refine E8.out _ _ ?_
    clear E8 K8
    have hX : CX w w1 V.zb what T w.heap.size (w.heap.size + 1) (w.heap.size + 1 + 1) gW L [] oA cA oB cB L.length := {
      ln := by rw [List.append_nil]
      bel := B1.out
      x := x1
      s0 := s1
      held := B9.out
      rowA := B2.out
      rowB := by
        rw [List.append_nil]
        exact B3.out
      nx := Nat.le_refl _
      nsx := Nat.le_succ _
      nh := by omega
      hL := fun j hj => (B6.out j hj).2
      ll := B7.out
      hM := ⟨fun h => absurd h hw, fun _ => rfl⟩
      ml := Nat.zero_le _ }
    exact col_tail A0.out A1.out what hTl hrl hmi hmj (cH := T.length) A2.out hX (fun a' w' h1 h2 h3 => bodyPost_ret (results_tmp rfl _ _ _) h2 ⟨by rw [h1], h3⟩)
end Go.Proofs.YthbkklnahhdgcaaDoor.PlRf

namespace Go.Proofs.YthbkklnahhdgcaaDoor.PlTb
open Go Go.Proofs Go.RowKit Go.Maps Go.Proofs.YthbkklnahhdgcaaDoor.Lib HeapR HeapB HeapC HeapD HeapG HeapH ErrC ChA ChT ChCa ChCc ChE ChH ChI ChL ChN ChO ChW ChZ PlA PlM PlT PlZ PlX PlYa PlU PlO PlW PlWb PlG PlGa PlP PlRf

variable {w : World} {O : Nat → Nat} {B : Nat} {V : Zv} {H : HS} {nu ol : List Ob} {T : List Th} {Z : Zn} {loc : Nat → Ob}
/-- Behind a step. -/
def StepDone (w : World) (B : Nat) (zb : Nat × Nat) (H : HS) (T : List Th) (w' : World) : Prop :=
  ∃ (O' : Nat → Nat) (V' : Zv) (H' : HS) (nu' ol' : List Ob) (T' : List Th) (Z' : Zn) (loc' : Nat → Ob), ZR w' O' B V' H' T' Z' ∧ ZI H' nu' ol' T' Z' loc' ∧ (V'.zb, V'.hb) = zb ∧ T'.length ≤ T.length + 1 ∧ H'.rem.length ≤ H.rem.length + 1 ∧ H'.minors ≤ H.minors + 1 ∧ H'.majors ≤ H.majors + 1 ∧ H'.room = H.room ∧ Turned (fun k => B ≤ k) w w'
theorem StepDone.pre {w1 w' : World} {zb : Nat × Nat} (h : StepDone w1 B zb H T w') (hT : Turned (fun k => B ≤ k) w w1) : StepDone w B zb H T w' := by
  obtain ⟨O', V', H', nu', ol', T', Z', loc', h1, h2, h3, h4, h5, h6, h7, h8, h9⟩ := h
  exact ⟨O', V', H', nu', ol', T', Z', loc', h1, h2, h3, h4, h5, h6, h7, h8, hT.trans h9⟩
theorem step_stay {w' : World} (h : ZR w O B V H T Z) (hz : ZI H nu ol T Z loc) (hb : Below w.heap.size w w') : StepDone w B (V.zb, V.hb) H T w' :=
  ⟨O, V, H, nu, ol, T, Z, loc, h.below hb, hz, rfl, Nat.le_succ _, Nat.le_succ _, Nat.le_succ _, Nat.le_succ _, rfl, Turned.of_below _ hb⟩

theorem makes_any (h : ZR w O B V H T Z) (hz : ZI H nu ol T Z loc) (what a b c bits : Int) (hTl : T.length ≤ 1000) :
    Calls Tryd.prog 71 #[.pointer (some ⟨V.zb, 0, none⟩), stepV what a b c bits] w fun e w' => e = .returned (.bool true) ∧ StepDone w B (V.zb, V.hb) H T w' := by
  by_cases hbad : a < 1 ∨ 4 < a ∨ c < 0 ∨ 1000 < c
  · exact (makes_arg h what a b c bits hbad).mono fun e w' ⟨h1, h2⟩ => ⟨h1, step_stay h hz h2⟩
  obtain ⟨s, rfl⟩ : ∃ s : Nat, c = (s : Int) := ⟨c.toNat, by omega⟩
  by_cases hf : total nu + (1 + s) ≤ H.room
  · refine (makes_ok h hz what a b bits s (by omega) (by omega) (by omega) hf hTl).mono fun e w' ⟨h1, O', V', b0, bI, h2, h3, h4, h5⟩ => ⟨h1, ?_⟩
    exact ⟨O', V', _, _, _, _, _, _, h2, zi_make hz h4 (by omega) (by omega) (by omega), h3, by simp, Nat.le_succ _, Nat.le_succ _, Nat.le_succ _, rfl, h5⟩
  · exact (makes_full h what a b bits s (by omega) (by omega) (by omega) (by rw [hz.top, hz.hi.top]) hz.room (by rw [hz.hi.top]; omega)).mono fun e w' ⟨h1, h2⟩ => ⟨h1, step_stay h hz h2⟩
theorem sets_any (h : ZR w O B V H T Z) (hz : ZI H nu ol T Z loc) (what a b c bits : Int) (hT0 : 0 < T.length) (hTl : T.length ≤ 1000) (hrl : H.rem.length ≤ big) :
    Calls Tryd.prog 72 #[.pointer (some ⟨V.zb, 0, none⟩), stepV what a b c bits] w fun e w' => e = .returned (.bool true) ∧ StepDone w B (V.zb, V.hb) H T w' :=
  (sets_ok h hz what a b c bits hT0 hTl hrl).mono fun e w' ⟨h1, O', V', H', nu', ol', T', loc', h2, h3, h4, h5, h6, h7⟩ => ⟨h1, O', V', H', nu', ol', T', Z, loc', h2, h3, h4, by omega, h6, by
    have e1 := hz.minors
    have e2 := h3.minors
    omega, by
    have e1 := hz.majors
    have e2 := h3.majors
    omega, by
    have e1 := hz.room
    have e2 := h3.room
    omega, h7⟩
theorem collects_any (h : ZR w O B V H T Z) (hz : ZI H nu ol T Z loc) (what a b c bits : Int) (hTl : T.length ≤ 1000) (hrl : H.rem.length ≤ big) (hmi : H.minors < big) (hmj : H.majors < big) :
    Calls Tryd.prog 73 #[.pointer (some ⟨V.zb, 0, none⟩), stepV what a b c bits] w fun e w' => e = .returned (.bool true) ∧ StepDone w B (V.zb, V.hb) H T w' :=
  (collects_ok h hz what a b c bits hTl hrl hmi hmj).mono fun e w' ⟨h1, O', V', H', nu', ol', T', Z', loc', h2, h3, h4, h5, h6, h7, h8, h9, h10⟩ => ⟨h1, O', V', H', nu', ol', T', Z', loc', h2, h3, h4, by omega, by omega, h7, h8, h9, h10⟩

theorem step_ok (h : ZR w O B V H T Z) (hz : ZI H nu ol T Z loc) (what a b c bits : Int) (hTl : T.length ≤ 1000) (hrl : H.rem.length ≤ big) (hmi : H.minors < big) (hmj : H.majors < big) :
    Calls Tryd.prog 30 #[.pointer (some ⟨V.zb, 0, none⟩), stepV what a b c bits] w fun e w' => e = .returned (.bool true) ∧ StepDone w B (V.zb, V.hb) H T w' := by
  have hb1 : Below w.heap.size w (w.alloc (stepCells what a b c bits)) := (Below.refl _ w).alloc (Nat.le_refl _) _
  have hZ1 := h.below hb1
  have hlast := heap_alloc_last w (stepCells what a b c bits)
  have s0 : (w.alloc (stepCells what a b c bits)).cell? ⟨w.heap.size, 0, none⟩ = some (.int .i64 what) := cell_of_block hlast rfl
  have s1 : (w.alloc (stepCells what a b c bits)).cell? ⟨w.heap.size, 1, none⟩ = some (.int .i64 a) := cell_of_block hlast rfl
  have s2 : (w.alloc (stepCells what a b c bits)).cell? ⟨w.heap.size, 2, none⟩ = some (.int .i64 b) := cell_of_block hlast rfl
  have s3 : (w.alloc (stepCells what a b c bits)).cell? ⟨w.heap.size, 3, none⟩ = some (.int .i64 c) := cell_of_block hlast rfl
  have s4 : (w.alloc (stepCells what a b c bits)).cell? ⟨w.heap.size, 4, none⟩ = some (.int .u64 bits) := cell_of_block hlast rfl
  obtain ⟨oT, cT, hvT⟩ := row_form hZ1.things
  have z1 : (w.alloc (stepCells what a b c bits)).cell? ⟨V.zb, 1, none⟩ = some (.slice oT T.length cT) := (hZ1.cz rfl).trans (congrArg some hvT)
  have hmk := makes_any hZ1 hz what a b c bits hTl
  have hco := collects_any hZ1 hz what a b c bits hTl hrl hmi hmj
  have hse := fun hT0 => sets_any hZ1 hz what a b c bits hT0 hTl hrl
  have hst : StepDone w B (V.zb, V.hb) H T (w.alloc (stepCells what a b c bits)) := step_stay h hz hb1
  have A0 := Lib.hid hst
  have A0' := Lib.hid hst
  have A1 := Lib.hid hb1
  have A2 := Lib.hid hmk
  have A3 := Lib.hid hco
  have A4 := Lib.hid hse
  unfold stepV at A2 A3 A4 ⊢
  unfold stepCells at s0 s1 s2 s3 s4 z1 A0 A0' A1 A2 A3 A4
  clear h hz hb1 hZ1 hlast hmk hco hse hst
  go_enter Tryd.func30, Tryd.ntmps30
  refine wp_seq_k (fun K0 hK0 => ?_)
  have E0 := Lib.hid hK0
  clear hK0
  go_wp2_with fail
  refine E0.out _ _ ?_
  clear E0 K0
  generalize w.alloc (.cells #[.int .i64 what, .int .i64 a, .int .i64 b, .int .i64 c, .int .u64 bits] 84 (0, 0)) = w1 at *
  by_cases h0 : what = 0
  · subst h0
    go_wp2_with fail
    refine A2.out.mono ?_
    rintro e w2 ⟨rfl, hd⟩
    dsimp only
    go_wp2_with fail
    exact bodyPost_ret (results_tmp rfl _ _ _) rfl ⟨rfl, hd.pre (Turned.of_below _ A1.out)⟩
  have g0 : decide (what = 0) = false := by simpa using h0
  by_cases h1 : what = 1
  · subst h1
    have A4' := A4
    clear A4
    obtain ⟨n, hn⟩ : ∃ n, n = T.length := ⟨_, rfl⟩
    rw [← hn] at z1
    have A5 := Lib.hid hn
    clear hn hTl A0 A2 A3
    have A0 := A0'
    rcases Nat.eq_zero_or_pos n with hT | hT
    · subst hT
      go_wp2_with fail
      exact bodyPost_ret (results_tmp rfl _ _ _) rfl ⟨rfl, A0.out⟩
    · have gT : decide ((n : Int) = 0) = false := decide_eq_false (by omega)
      go_wp2_with fail
      refine (A4'.out (by rw [← A5.out]; exact hT)).mono ?_
      rintro e w2 ⟨rfl, hd⟩
      dsimp only
      go_wp2_with fail
      exact bodyPost_ret (results_tmp rfl _ _ _) rfl ⟨rfl, hd.pre (Turned.of_below _ A1.out)⟩
  have g1 : decide (what = 1) = false := by simpa using h1
  by_cases h2 : what = 2
  · subst h2
    go_wp2_with fail
    refine A3.out.mono ?_
    rintro e w2 ⟨rfl, hd⟩
    dsimp only
    go_wp2_with fail
    exact bodyPost_ret (results_tmp rfl _ _ _) rfl ⟨rfl, hd.pre (Turned.of_below _ A1.out)⟩
  have g2 : decide (what = 2) = false := by simpa using h2
  by_cases h3 : what = 3
  · subst h3
    go_wp2_with fail
    refine A3.out.mono ?_
    rintro e w2 ⟨rfl, hd⟩
    dsimp only
    go_wp2_with fail
    exact bodyPost_ret (results_tmp rfl _ _ _) rfl ⟨rfl, hd.pre (Turned.of_below _ A1.out)⟩
  have g3 : decide (what = 3) = false := by simpa using h3
  go_wp2_with fail
  exact bodyPost_ret (results_tmp rfl _ _ _) rfl ⟨rfl, A0.out⟩
end Go.Proofs.YthbkklnahhdgcaaDoor.PlTb

namespace Go.Proofs.YthbkklnahhdgcaaDoor.PlJ
open Go Go.Proofs Go.RowKit Go.Maps Go.Proofs.YthbkklnahhdgcaaDoor.Lib HeapR HeapG ErrC ChA ChT ChCa ChCc ChE ChH ChL ChN ChO ChZ PlT PlZ PlX PlYa PlG

variable {H : HS} {nu ol : List Ob} {T : List Th} {Z : Zn} {loc : Nat → Ob}
theorem sorted_same : ∀ {l k : List Int}, l.Pairwise (· < ·) → k.Pairwise (· < ·) → (∀ a, a ∈ l ↔ a ∈ k) → l = k
  | [], [], _, _, _ => rfl
  | [], b :: k, _, _, h => absurd ((h b).2 (List.mem_cons_self ..)) (by simp)
  | a :: l, [], _, _, h => absurd ((h a).1 (List.mem_cons_self ..)) (by simp)
  | a :: l, b :: k, h1, h2, h => by
    rw [List.pairwise_cons] at h1 h2
    have e : a = b := by
      rcases List.mem_cons.mp ((h a).1 (List.mem_cons_self ..)) with e | e
      · exact e
      · rcases List.mem_cons.mp ((h b).2 (List.mem_cons_self ..)) with e' | e'
        · exact e'.symm
        · have := h1.1 b e'
          have := h2.1 a e
          omega
    subst e
    rw [sorted_same h1.2 h2.2 (fun x => ⟨fun hx => ?_, fun hx => ?_⟩)]
    · have h3 := h1.1 x hx
      rcases List.mem_cons.mp ((h x).1 (List.mem_cons_of_mem _ hx)) with e | e
      · omega
      · exact e
    · have h3 := h2.1 x hx
      rcases List.mem_cons.mp ((h x).2 (List.mem_cons_of_mem _ hx)) with e | e
      · omega
      · exact e
/-- The identities of what is there, of the first i. -/
def told (t : Th) : Option Int := if 0 < t.id ∧ t.here = true then some t.id else none
def idsTo (T : List Th) (i : Nat) : List Int := (T.take i).filterMap told
/-- The last identity, of the first i. -/
def lastTo (T : List Th) (i : Nat) : Int := ((T.take i).countP ided : Nat)
theorem idsTo_zero : idsTo T 0 = [] := by simp [idsTo]
theorem lastTo_zero : lastTo T 0 = 0 := by simp [lastTo]
theorem idsTo_yes {i : Nat} {t : Th} (h : T[i]? = some t) (h0 : 0 < t.id) (hh : t.here = true) : idsTo T (i + 1) = idsTo T i ++ [t.id] := by
  unfold idsTo
  rw [List.take_add_one, h, List.filterMap_append]
  simp [told, h0, hh]
theorem idsTo_no {i : Nat} {t : Th} (h : T[i]? = some t) (hn : ¬ (0 < t.id ∧ t.here = true)) : idsTo T (i + 1) = idsTo T i := by
  unfold idsTo
  rw [List.take_add_one, h, List.filterMap_append]
  simp only [Option.toList_some, List.filterMap_cons, told, if_neg hn, List.filterMap_nil, List.append_nil]
theorem idsTo_length (T : List Th) (i : Nat) : (idsTo T i).length ≤ i := by
  unfold idsTo
  refine Nat.le_trans (List.length_filterMap_le _ _) ?_
  rw [List.length_take]
  omega
theorem lastTo_succ (hz : ZI H nu ol T Z loc) {i : Nat} {t : Th} (h : T[i]? = some t) : lastTo T (i + 1) = max (lastTo T i) t.id := by
  have e := hz.ids i t h
  unfold lastTo
  rw [List.take_add_one, h, List.countP_append]
  by_cases hk : t.kind = 4
  · rw [if_pos hk] at e
    simp [ided, hk]
    omega
  · rw [if_neg hk] at e
    simp [ided, hk]
    omega
theorem lastTo_le (T : List Th) (i : Nat) : 0 ≤ lastTo T i ∧ lastTo T i ≤ i := by
  unfold lastTo
  have h1 := List.countP_le_length (p := ided) (l := T.take i)
  rw [List.length_take] at h1
  omega
theorem lastTo_all (hz : ZI H nu ol T Z loc) : lastTo T T.length = (H.next : Int) := by
  unfold lastTo
  rw [List.take_length, hz.next]
theorem idsTo_mem (hz : ZI H nu ol T Z loc) (a : Int) : a ∈ idsTo T T.length ↔ a ≠ 0 ∧ ∃ o ∈ nu ++ ol, o.id = a := by
  unfold idsTo
  rw [List.take_length, List.mem_filterMap]
  constructor
  · rintro ⟨t, ht, e⟩
    obtain ⟨i, hi⟩ := List.getElem?_of_mem ht
    unfold told at e
    by_cases hc : 0 < t.id ∧ t.here = true
    · rw [if_pos hc] at e
      have e' := Option.some.inj e
      have ho := hz.obj i t hi hc.2
      exact ⟨by omega, loc i, ho.1, ho.2.2.id.trans e'⟩
    · rw [if_neg hc] at e
      cases e
  · rintro ⟨h0, o, ho, e⟩
    obtain ⟨i, t, ht, hh, rfl⟩ := hz.all o ho
    have h1 := (hz.obj i t ht hh).2.2.id
    have h2 := (hz.hi.ids _ ho).1
    refine ⟨t, List.mem_of_getElem? ht, ?_⟩
    unfold told
    rw [if_pos ⟨by omega, hh⟩]
    congr 1
    omega
theorem idsTo_sorted (hz : ZI H nu ol T Z loc) (n : Nat) : (idsTo T n).Pairwise (· < ·) := by
  have key : ∀ n, n ≤ T.length → (idsTo T n).Pairwise (· < ·) ∧ ∀ a ∈ idsTo T n, ∃ j u, j < n ∧ T[j]? = some u ∧ 0 < u.id ∧ u.id = a := by
    intro n
    induction n with
    | zero =>
      intro _
      rw [idsTo_zero]
      exact ⟨List.Pairwise.nil, fun a h => by cases h⟩
    | succ n ih =>
      intro hn
      obtain ⟨h1, h2⟩ := ih (by omega)
      obtain ⟨t, ht⟩ : ∃ t, T[n]? = some t := ⟨_, List.getElem?_eq_getElem (by omega)⟩
      by_cases hc : 0 < t.id ∧ t.here = true
      · rw [idsTo_yes ht hc.1 hc.2]
        refine ⟨List.pairwise_append.2 ⟨h1, List.pairwise_singleton _ _, fun a ha b hb => ?_⟩, fun a ha => ?_⟩
        · rw [List.mem_singleton.mp hb]
          obtain ⟨j, u, hj, hu, h0, rfl⟩ := h2 a ha
          exact ids_lt hz hj hu ht h0 hc.1
        · rcases List.mem_append.mp ha with ha | ha
          · obtain ⟨j, u, hj, hh⟩ := h2 a ha
            exact ⟨j, u, by omega, hh⟩
          · exact ⟨n, t, by omega, ht, hc.1, (List.mem_singleton.mp ha).symm⟩
      · rw [idsTo_no ht hc]
        refine ⟨h1, fun a ha => ?_⟩
        obtain ⟨j, u, hj, hh⟩ := h2 a ha
        exact ⟨j, u, by omega, hh⟩
  by_cases hn : n ≤ T.length
  · exact (key n hn).1
  · have e : idsTo T n = idsTo T T.length := by
      unfold idsTo
      rw [List.take_of_length_le (by omega), List.take_length]
    rw [e]
    exact (key T.length (Nat.le_refl _)).1
/-- What Ids tells is what is there. -/
theorem ids_same (hz : ZI H nu ol T Z loc) {xs : List Int} (h1 : xs.Nodup) (h2 : xs.Pairwise (· ≤ ·)) (h3 : ∀ id, id ∈ xs ↔ has H.wh (.int .i64 id) = true) : xs = idsTo T T.length := by
  obtain ⟨g, hg, hgi⟩ := hz.hi.wh
  refine sorted_same ?_ (idsTo_sorted hz _) (fun a => ?_)
  · have h4 := List.pairwise_iff_getElem.1 h2
    have h5 := List.pairwise_iff_getElem.1 h1
    refine List.pairwise_iff_getElem.2 fun i j hi hj hij => ?_
    have h6 := h4 i j hi hj hij
    have h7 := h5 i j hi hj hij
    omega
  · rw [h3, idsTo_mem hz]
    have h4 := hg.has_ a
    have h5 := hgi a
    rw [h4]
    cases hga : g a with
    | none =>
      constructor
      · intro h
        cases h
      · rintro ⟨h0, o, ho, e⟩
        have h6 := (h5 (o.addr : Int)).2 ⟨h0, o, ho, e, rfl⟩
        rw [hga] at h6
        cases h6
    | some c =>
      have h6 := (h5 c).1 hga
      obtain ⟨h0, o, ho, e, _⟩ := h6
      exact ⟨fun _ => ⟨h0, o, ho, e⟩, fun _ => rfl⟩
end Go.Proofs.YthbkklnahhdgcaaDoor.PlJ

namespace Go.Proofs.YthbkklnahhdgcaaDoor.PlSa
open Go Go.Proofs Go.RowKit Go.Maps Go.Proofs.YthbkklnahhdgcaaDoor.Lib HeapR HeapC HeapD HeapG ErrC ChA ChT ChCa ChCc ChE ChH ChL ChN ChO ChW ChZ PlT PlZ PlX PlYa PlG

variable {w : World} {hb nb mb : Nat} {ov rv : Value} {B : Nat} {H : HS} {nu ol : List Ob}
theorem addr_in (h : HR w hb nb mb ov rv B H) (hi : HI H nu ol) {o : Ob} (ho : o ∈ nu ++ ol) : o.addr + 1 + o.fs.length ≤ 1200000 := by
  have h1 := h.om
  have h2 := h.mm
  have h3 := h.rr
  have h4 := hi.fit
  have h5 := hi.olen
  have hl : o.len = 1 + o.fs.length := rfl
  rcases List.mem_append.mp ho with ho | ho
  · have := laid_in hi.na ho
    omega
  · have := laid_in hi.oa ho
    omega
theorem field_raw (h : HR w hb nb mb ov rv B H) (hi : HI H nu ol) {o : Ob} (ho : o ∈ nu ++ ol) {i : Nat} {v : Vl} (hv : o.fs[i]? = some v) : H.raw ((o.addr : Int) + 1 + (i : Int)) = some v.cell := by
  have hcell : (o.cells 0)[1 + i]? = some v.cell := by
    rw [show 1 + i = i + 1 by omega]
    show (o.fs.map Vl.cell)[i]? = _
    rw [List.getElem?_map, hv]
    rfl
  have hraw := raw_obj h hi ho hcell
  rw [show (o.addr : Int) + 1 + (i : Int) = (o.addr : Int) + ((1 + i : Nat) : Int) by omega]
  exact hraw
theorem kind_ob (h : HR w hb nb mb ov rv B H) (hi : HI H nu ol) {o : Ob} (ho : o ∈ nu ++ ol) :
    Calls Tryd.prog 15 #[.pointer (some ⟨hb, 0, none⟩), .int .i64 (o.addr : Int)] w fun e w' => e = .returned (.int .i64 o.kind) ∧ Below w.heap.size w w' := Kind_yes h _ (by have := addr_in h hi ho; omega) (o.head 0) (head_obj h hi ho)
theorem tag_ob (h : HR w hb nb mb ov rv B H) (hi : HI H nu ol) {o : Ob} (ho : o ∈ nu ++ ol) :
    Calls Tryd.prog 16 #[.pointer (some ⟨hb, 0, none⟩), .int .i64 (o.addr : Int)] w fun e w' => e = .returned (.int .i64 o.tag) ∧ Below w.heap.size w w' := Tag_yes h _ (by have := addr_in h hi ho; omega) (o.head 0) (head_obj h hi ho)
theorem id_ob (h : HR w hb nb mb ov rv B H) (hi : HI H nu ol) {o : Ob} (ho : o ∈ nu ++ ol) :
    Calls Tryd.prog 17 #[.pointer (some ⟨hb, 0, none⟩), .int .i64 (o.addr : Int)] w fun e w' => e = .returned (.int .i64 o.id) ∧ Below w.heap.size w w' := Id_yes h _ (by have := addr_in h hi ho; omega) (o.head 0) (head_obj h hi ho)
theorem size_ob (h : HR w hb nb mb ov rv B H) (hi : HI H nu ol) {o : Ob} (ho : o ∈ nu ++ ol) :
    Calls Tryd.prog 75 #[.pointer (some ⟨hb, 0, none⟩), .int .i64 (o.addr : Int)] w fun e w' => e = .returned (.int .i64 (o.fs.length : Int)) ∧ Below w.heap.size w w' := Size_yes h _ (by have := addr_in h hi ho; omega) (o.head 0) (head_obj h hi ho)
theorem get_ob (h : HR w hb nb mb ov rv B H) (hi : HI H nu ol) {o : Ob} (ho : o ∈ nu ++ ol) {i : Nat} {v : Vl} (hv : o.fs[i]? = some v) :
    Calls Tryd.prog 11 #[.pointer (some ⟨hb, 0, none⟩), .int .i64 (o.addr : Int), .int .i64 (i : Int)] w fun e w' => e = .returned (.tuple #[.agg #[.int .i64 v.k, .int .i64 v.n, .string v.s], .nilIface]) ∧ Below w.heap.size w w' := by
  have hl := addr_in h hi ho
  have hi' := (List.getElem?_eq_some_iff.1 hv).1
  exact get_ok h (o.addr : Int) (i : Int) (by omega) (by omega) (o.head 0) v.cell (head_obj h hi ho) (by omega) (by show (i : Int) < (o.fs.length : Int); omega) (field_raw h hi ho hv)
theorem get_out (h : HR w hb nb mb ov rv B H) (hi : HI H nu ol) {o : Ob} (ho : o ∈ nu ++ ol) :
    Calls Tryd.prog 11 #[.pointer (some ⟨hb, 0, none⟩), .int .i64 (o.addr : Int), .int .i64 (o.fs.length : Int)] w fun e w' => e = .returned (.tuple #[.agg #[.int .i64 0, .int .i64 0, .string ByteArray.empty], .iface 35 (.int .i64 2)]) ∧ Below w.heap.size w w' := get_range h (o.addr : Int) (o.fs.length : Int) (by have := addr_in h hi ho; omega) (o.head 0) (head_obj h hi ho) (.inr (by show (o.fs.length : Int) ≤ (o.fs.length : Int); omega))
end Go.Proofs.YthbkklnahhdgcaaDoor.PlSa
