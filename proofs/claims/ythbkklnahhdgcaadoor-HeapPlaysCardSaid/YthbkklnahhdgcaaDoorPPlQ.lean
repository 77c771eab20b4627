/-
  HeapPlays' makes: the appends.
-/
import Derived.Test.YthbkklnahhdgcaaDoorPG00
import Derived.Test.YthbkklnahhdgcaaDoorPG14
import Derived.Test.YthbkklnahhdgcaaDoorPG02
import Derived.Deep.AppendLies
set_option maxRecDepth 100000
set_option maxHeartbeats 4000000
namespace Go.Proofs.YthbkklnahhdgcaaDoor.PlQ
open Go Go.Proofs Go.RowKit Go.Maps Go.Proofs.YthbkklnahhdgcaaDoor.Lib HeapR HeapB HeapC HeapD HeapG HeapH ErrC ChA ChT ChCa ChCc ChE ChH ChI ChL ChN ChO ChZ PlC PlH PlS PlT PlZ PlU PlM

/-- What two appends, and their stores, leave. -/
structure Two (w0 : World) (B0 zb iA iB : Nat) (eA sA eB sB : Nat) (vA vB : Value) (n m : Nat) (xsA xsB : List Value) (gA cA gB cB : Nat) (w' : World) : Prop where
  rowA : w'.ownsRow B0 eA sA (.slice (some ⟨gA, 0, none⟩) (n + 1) cA) (n + 1) xsA
  rowB : w'.ownsRow B0 eB sB (.slice (some ⟨gB, 0, none⟩) (m + 1) cB) (m + 1) xsB
  wk : ∃ wk, Turned (fun k => vA.ownBlock = some k ∨ vB.ownBlock = some k) w0 wk ∧ w' = (wk.setCell ⟨zb, iA, none⟩ (.slice (some ⟨gA, 0, none⟩) (n + 1) cA)).setCell ⟨zb, iB, none⟩ (.slice (some ⟨gB, 0, none⟩) (m + 1) cB)
  atA : vA.ownBlock = some gA ∨ w0.heap.size ≤ gA
  atB : vB.ownBlock = some gB ∨ w0.heap.size ≤ gB
  ne : gA ≠ gB
theorem two_fin {w0 wk : World} {B0 zb iA iB eA sA eB sB : Nat} {vA vB : Value} {n m : Nat} {xsA xsB : List Value} {gA cA gB cB : Nat} (hT : Turned (fun k => vA.ownBlock = some k ∨ vB.ownBlock = some k) w0 wk)
    (hA : wk.ownsRow B0 eA sA (.slice (some ⟨gA, 0, none⟩) (n + 1) cA) (n + 1) xsA) (hB : wk.ownsRow B0 eB sB (.slice (some ⟨gB, 0, none⟩) (m + 1) cB) (m + 1) xsB) (aA : vA.ownBlock = some gA ∨ w0.heap.size ≤ gA) (aB : vB.ownBlock = some gB ∨ w0.heap.size ≤ gB) (hne : gA ≠ gB)
    (hz : zb < w0.heap.size) (zA : vA.ownBlock ≠ some zb) (zB : vB.ownBlock ≠ some zb) :
    Two w0 B0 zb iA iB eA sA eB sB vA vB n m xsA xsB gA cA gB cB ((wk.setCell ⟨zb, iA, none⟩ (.slice (some ⟨gA, 0, none⟩) (n + 1) cA)).setCell ⟨zb, iB, none⟩ (.slice (some ⟨gB, 0, none⟩) (m + 1) cB)) := by
  have h1 : zb ≠ gA := fun e => by
    rcases aA with h | h
    · exact zA (by rw [h, e])
    · omega
  have h2 : zb ≠ gB := fun e => by
    rcases aB with h | h
    · exact zB (by rw [h, e])
    · omega
  exact ⟨ownsRow_same hA (fun k hk => by
      have e : gA = k := Option.some.inj hk
      subst e
      exact (blk_ne (Ne.symm h1)).trans (blk_ne (Ne.symm h1))), ownsRow_same hB (fun k hk => by
      have e : gB = k := Option.some.inj hk
      subst e
      exact (blk_ne (Ne.symm h2)).trans (blk_ne (Ne.symm h2))), ⟨wk, hT, rfl⟩, aA, aB, hne⟩
theorem app_block {w wk : World} {v : Value} {o : Obj} (hg : (w.alloc o).grownBy wk v.ownBlock) {k : Nat} (hk : k < w.heap.size) (hn : v.ownBlock ≠ some k) : wk.heap[k]? = w.heap[k]? :=
  (hg.block k (by simp; omega) (fun e => hn e.symm)).trans (Below.heap_alloc w o k hk)

theorem makes_app1 {Q : Exit → Act → World → Prop} {u1 u2 u3 u4 u6 u8 u9 Ja Jb Jc Jd Je Jf Jg Jh Ji Jj Jk Jl Jm Jn Jo Jp Jq Jr Js Jt Ju Jv Jw Jx Jy Jz Qa Qb Qc Qd Qe Qf Qg Qh Qi Qj Qk Ql Qm Qn Qo Qp Qq Qr Qs Qt Qu Qv Qw Qx Qy Qz Xe Xg Xh Xi Xj Xk Xn Xo Xp Xq Xt Xu Xv Xx Xy Xz Yg Yh Yi Yj Yk Yl Ym Yn Yo Yp Yq Yr Ys Yt Yu Yv Yw Yx Yy Yz Ua Ub Uc Ud Ue Uf Ug Uh Ui Uj Uk Ul Um Un Uo Up Uq Ur Us Ut Uu Uv Uw Ux Uy Uz Wc Wd We Wf Wg Wh Wi Wj Wk Wl Wm Wn Wo Wp Wq Wt Wu Ww Wx Wy Wz Ka Kb Kc Kd Ke Kf Kg Kh Kj Kl Km Kn Ko Kp Kq Kr Kt : Value} (w0 : World) (B0 : Nat) (zb tb n : Nat) (a : Int) (cA cB : Nat) (oaA oaB : Option Addr) (xsA xsB : List Value)
    (hrA : w0.ownsRow B0 184 1 (Value.slice oaA n cA) n xsA) (hrB : w0.ownsRow B0 28 3 (Value.slice oaB n cB) n xsB) (zA : w0.cell? ⟨zb, 1, none⟩ = some (Value.slice oaA n cA)) (zB : w0.cell? ⟨zb, 2, none⟩ = some (Value.slice oaB n cB))
    (fz : ∀ i, w0.frozen? ⟨zb, i, none⟩ = false) (hBz : B0 ≤ w0.heap.size) (hzA : (Value.slice oaA n cA).ownBlock ≠ some zb) (hzB : (Value.slice oaB n cB).ownBlock ≠ some zb) (hAB : ∀ k, (Value.slice oaA n cA).ownBlock = some k → (Value.slice oaB n cB).ownBlock ≠ some k) (hnA : n ≤ big) (hnB : n ≤ big) 
    (hQ : ∀ (sCt sCu sCv sCw sCx sCy sCz sCA sCB sCC sCD sCE sCF sCG sCH sCI sCJ sCK sCL sCM sCN : Value) (gA kA gB kB : Nat) (w' : World), Two w0 B0 zb 1 2 184 1 28 3 (Value.slice oaA n cA) (Value.slice oaB n cB) n n (xsA ++ [.pointer (some ⟨tb, 0, none⟩)]) (xsB ++ [.int .i64 4, .int .i64 a, .string ⟨#[]⟩]) gA kA gB kB w' → Q .normal ⟨#[(.pointer (some ⟨zb,0,none⟩)),u1,u2,u3,u4,(.int .i64 a),u6,(.pointer (some ⟨tb,0,none⟩)),u8,u9,Ja,Jb,Jc,Jd,Je,Jf,Jg,Jh,Ji,Jj,Jk,Jl,Jm,Jn,Jo,Jp,Jq,Jr,Js,Jt,Ju,Jv,Jw,Jx,Jy,Jz,Qa,Qb,Qc,Qd,Qe,Qf,Qg,Qh,Qi,Qj,Qk,Ql,Qm,Qn,Qo,Qp,Qq,Qr,Qs,Qt,Qu,Qv,Qw,Qx,Qy,Qz,Xe,Xg,Xh,Xi,Xj,Xk,Xn,Xo,Xp,Xq,Xt,Xu,Xv,Xx,Xy,Xz,Yg,Yh,Yi,Yj,Yk,Yl,Ym,Yn,Yo,Yp,Yq,Yr,Ys,Yt,Yu,Yv,Yw,Yx,Yy,Yz,Ua,Ub,Uc,Ud,Ue,Uf,Ug,Uh,Ui,Uj,Uk,Ul,Um,Un,Uo,Up,Uq,Ur,Us,Ut,Uu,Uv,Uw,Ux,Uy,sCt,sCu,sCv,sCw,sCx,sCy,sCz,sCA,sCB,sCC,sCD,sCE,sCF,sCG,sCH,sCI,sCJ,sCK,sCL,sCM,sCN,Wz,Ka,Kb,Kc,Kd,Ke,Kf,Kg,Kh,Kj,Kl,Km,Kn,Ko,Kp,Kq,Kr,Kt], []⟩ w') :
    Code.wp Tryd.prog (Cut.piece Tryd.f71 (Cut.region 17)) Q ⟨#[(.pointer (some ⟨zb,0,none⟩)),u1,u2,u3,u4,(.int .i64 a),u6,(.pointer (some ⟨tb,0,none⟩)),u8,u9,Ja,Jb,Jc,Jd,Je,Jf,Jg,Jh,Ji,Jj,Jk,Jl,Jm,Jn,Jo,Jp,Jq,Jr,Js,Jt,Ju,Jv,Jw,Jx,Jy,Jz,Qa,Qb,Qc,Qd,Qe,Qf,Qg,Qh,Qi,Qj,Qk,Ql,Qm,Qn,Qo,Qp,Qq,Qr,Qs,Qt,Qu,Qv,Qw,Qx,Qy,Qz,Xe,Xg,Xh,Xi,Xj,Xk,Xn,Xo,Xp,Xq,Xt,Xu,Xv,Xx,Xy,Xz,Yg,Yh,Yi,Yj,Yk,Yl,Ym,Yn,Yo,Yp,Yq,Yr,Ys,Yt,Yu,Yv,Yw,Yx,Yy,Yz,Ua,Ub,Uc,Ud,Ue,Uf,Ug,Uh,Ui,Uj,Uk,Ul,Um,Un,Uo,Up,Uq,Ur,Us,Ut,Uu,Uv,Uw,Ux,Uy,Uz,Wc,Wd,We,Wf,Wg,Wh,Wi,Wj,Wk,Wl,Wm,Wn,Wo,Wp,Wq,Wt,Wu,Ww,Wx,Wy,Wz,Ka,Kb,Kc,Kd,Ke,Kf,Kg,Kh,Kj,Kl,Km,Kn,Ko,Kp,Kq,Kr,Kt], []⟩ w0 := by
  conv => arg 2; whnf
  obtain ⟨iA, hiA, hA0, hA1, hA2⟩ := info_parts (P := Tryd.prog) (e := 184) (by kernel_rfl : (Tryd.prog.info? 184).map (fun i => (i.zero, i.size, i.bytes)) = some (some (.pointer none), 1, 8))
  obtain ⟨iB, hiB, hB0, hB1, hB2⟩ := info_parts (P := Tryd.prog) (e := 28) (by kernel_rfl : (Tryd.prog.info? 28).map (fun i => (i.zero, i.size, i.bytes)) = some (some (.agg #[.int .i64 0, .int .i64 0, .string ByteArray.empty]), 3, 32))
  have hzl : zb < w0.heap.size := World.block_lt_of_cell? w0 _ zA
  have mA : n + 1 ≤ maxLen := by unfold big at hnA; unfold maxLen; omega
  have mB : n + 1 ≤ maxLen := by unfold big at hnB; unfold maxLen; omega
  have nA : (n + 1) * 8 ≤ 140737488355328 := by unfold big at hnA; omega
  have nB : (n + 1) * 32 ≤ 140737488355328 := by unfold big at hnB; omega
  have lA : ∀ k, (Value.slice oaA n cA).ownBlock = some k → k < w0.heap.size := fun k hk => (own_lt hrA hk).2
  have lB : ∀ k, (Value.slice oaB n cB).ownBlock = some k → k < w0.heap.size := fun k hk => (own_lt hrB hk).2
  have HQ := Lib.hid hQ
  clear hQ
  refine wp_region_noPanic ?_
  refine RegU.beginA (by kernel_rfl) ?_
  refine RegU.takeA (i := 0) (v := ?_) rfl (by kernel_rfl) (by kernel_rfl) (by kernel_rfl) (fun _ _ _ h => h) (Or.inl ⟨by rfl, ?_⟩) ?_
  rotate_left
  · intro w; go_simp; first | done | with_reducible rfl
  try simp only [Act.put, List.setIfInBounds_toArray, List.set_cons_zero, List.set_cons_succ]
  refine RegU.takeA (i := 1) (v := ?_) rfl (by kernel_rfl) (by kernel_rfl) (by kernel_rfl) (fun _ _ _ h => h) (Or.inl ⟨by rfl, ?_⟩) ?_
  rotate_left
  · intro w; go_simp; first | done | with_reducible rfl
  try simp only [Act.put, List.setIfInBounds_toArray, List.set_cons_zero, List.set_cons_succ]
  refine RegU.takeA (i := 2) (v := ?_) rfl (by kernel_rfl) (by kernel_rfl) (by kernel_rfl) (fun _ _ _ h => h) (Or.inl ⟨by rfl, ?_⟩) ?_
  rotate_left
  · intro w; go_simp; first | done | with_reducible rfl
  try simp only [Act.put, List.setIfInBounds_toArray, List.set_cons_zero, List.set_cons_succ]
  refine RegU.takeA (i := 3) (v := ?_) rfl (by kernel_rfl) (by kernel_rfl) (by kernel_rfl) (fun _ _ _ h => h) (Or.inl ⟨by rfl, ?_⟩) ?_
  rotate_left
  · intro w; go_simp; first | done | with_reducible rfl
  try simp only [Act.put, List.setIfInBounds_toArray, List.set_cons_zero, List.set_cons_succ]
  refine RegU.takeA (i := 4) (v := ?_) rfl (by kernel_rfl) (by kernel_rfl) (by kernel_rfl) (fun _ _ _ h => h) (Or.inl ⟨by rfl, ?_⟩) ?_
  rotate_left
  · intro w; go_simp; first | done | with_reducible rfl
  try simp only [Act.put, List.setIfInBounds_toArray, List.set_cons_zero, List.set_cons_succ]
  refine RegU.takeA (i := 6) (v := ?_) rfl (by kernel_rfl) (by kernel_rfl) (by kernel_rfl) (fun _ _ _ h => h) (Or.inl ⟨by rfl, ?_⟩) ?_
  rotate_left
  · intro w; go_simp; first | done | with_reducible rfl
  try simp only [Act.put, List.setIfInBounds_toArray, List.set_cons_zero, List.set_cons_succ]
  refine RegU.takeA (i := 9) (v := ?_) rfl (by kernel_rfl) (by kernel_rfl) (by kernel_rfl) (fun _ _ _ h => h) (Or.inl ⟨by rfl, ?_⟩) ?_
  rotate_left
  · intro w; go_simp; first | done | with_reducible rfl
  try simp only [Act.put, List.setIfInBounds_toArray, List.set_cons_zero, List.set_cons_succ]
  refine RegU.takeA (i := 10) (v := ?_) rfl (by kernel_rfl) (by kernel_rfl) (by kernel_rfl) (fun _ _ _ h => h) (Or.inl ⟨by rfl, ?_⟩) ?_
  rotate_left
  · intro w; go_simp; first | done | with_reducible rfl
  try simp only [Act.put, List.setIfInBounds_toArray, List.set_cons_zero, List.set_cons_succ]
  refine RegU.takeA (i := 11) (v := ?_) rfl (by kernel_rfl) (by kernel_rfl) (by kernel_rfl) (fun _ _ _ h => h) (Or.inl ⟨by rfl, ?_⟩) ?_
  rotate_left
  · intro w; go_simp; first | done | with_reducible rfl
  try simp only [Act.put, List.setIfInBounds_toArray, List.set_cons_zero, List.set_cons_succ]
  refine RegU.takeA (i := 13) (v := ?_) rfl (by kernel_rfl) (by kernel_rfl) (by kernel_rfl) (fun _ _ _ h => h) (Or.inl ⟨by rfl, ?_⟩) ?_
  rotate_left
  · intro w; go_simp; first | done | with_reducible rfl
  try simp only [Act.put, List.setIfInBounds_toArray, List.set_cons_zero, List.set_cons_succ]
  refine RegU.takeA (i := 14) (v := ?_) rfl (by kernel_rfl) (by kernel_rfl) (by kernel_rfl) (fun _ _ _ h => h) (Or.inl ⟨by rfl, ?_⟩) ?_
  rotate_left
  · intro w; go_simp; first | done | with_reducible rfl
  try simp only [Act.put, List.setIfInBounds_toArray, List.set_cons_zero, List.set_cons_succ]
  refine RegU.toU (S := fun wz => wz.cell? ⟨zb, 1, none⟩ = some (Value.slice oaA n cA) ∧ wz.cell? ⟨zb, 2, none⟩ = some (Value.slice oaB n cB)) (N := [7, 8, 12, 15]) ⟨zA, zB⟩ (fun hHeld => ?_)
  try simp only [Act.put, List.setIfInBounds_toArray, List.set_cons_zero, List.set_cons_succ]
  refine RegU.tk [8, 16, 17, 18, 19, 20, 21, 22] 5 ?_
  refine RegU.tk [16, 17, 18, 19, 20, 21, 22] 12 ?_
  generalize hwd : w0.drew = w1 at *
  have hT1 : Turned (fun k => (Value.slice oaA n cA).ownBlock = some k ∨ (Value.slice oaB n cB).ownBlock = some k) w0 w1 := by rw [← hwd]; exact (Turned.refl _ w0).drew
  have hrA1 : w1.ownsRow B0 184 1 (Value.slice oaA n cA) n xsA := by rw [← hwd]; exact ownsRow_same hrA (fun _ _ => rfl)
  have hrB1 : w1.ownsRow B0 28 3 (Value.slice oaB n cB) n xsB := by rw [← hwd]; exact ownsRow_same hrB (fun _ _ => rfl)
  clear hwd hrA hrB
  refine RegU.two (i := 7) (j := 15) (by kernel_rfl) rfl rfl (fun K hK => ?_) (fun K hK => ?_)
  · go_simp
    have hT2 := hT1.alloc (.cells #[.pointer (some ⟨tb, 0, none⟩)] 184 (0, 0))
    have hrA2 := hrA1.alloc (.cells #[.pointer (some ⟨tb, 0, none⟩)] 184 (0, 0))
    have hrB2 := hrB1.alloc (.cells #[.pointer (some ⟨tb, 0, none⟩)] 184 (0, 0))
    have hNA := heap_alloc_last w1 (.cells #[.pointer (some ⟨tb, 0, none⟩)] 184 (0, 0))
    have hlA : w0.heap.size ≤ w1.heap.size := hT1.size
    refine hK.out _ _ ⟨(hT2.cell (p := ⟨zb, 1, none⟩) hzl (fun h => h.elim hzA hzB)).trans zA, (hT2.cell (p := ⟨zb, 2, none⟩) hzl (fun h => h.elim hzA hzB)).trans zB⟩ (fun hHeld => ?_)
    clear hK K
    try simp only [Act.put, List.setIfInBounds_toArray, List.set_cons_zero, List.set_cons_succ]
    generalize w1.alloc (.cells #[.pointer (some ⟨tb, 0, none⟩)] 184 (0, 0)) = w2 at *
    generalize w1.heap.size = bA at *
    refine RegU.two (i := 8) (j := 15) (by kernel_rfl) rfl rfl (fun K hK => ?_) (fun K hK => ?_)
    · refine step_append_lies _ rfl _ _ 76 rfl B0 184 iA (.pointer none) 1 8 Tryd.underlying76 hiA hA0 hA1 hA2 rfl (by decide) (Value.slice oaA n cA) n xsA rfl hrA2 ⟨bA, 0, none⟩ 1 1 [.pointer (some ⟨tb, 0, none⟩)] rfl rfl ?c1 ?c2 (by decide) mA nA ?c5 _ rfl ?_
      case c1 => exact World.news_of_block (cs := #[.pointer (some ⟨tb, 0, none⟩)]) (t := 184) (fr := (0, 0)) hNA
      case c2 =>
        intro u hu
        simp only [List.mem_cons, List.not_mem_nil, or_false] at hu
        subst hu; rfl
      case c5 => have := hT2.size; omega
      intro gA kA w3 hrn hg hat hlt
      have hz2 := hT2.size
      have hT3 := hT2.grown hg (fun j hj => .inl (.inl hj))
      have hrB3 := ownsRow_same hrB2 (fun j hj => hg.block j (by have := (own_lt hrB2 hj).2; omega) (fun e => hAB j e.symm hj))
      have hrA3 := hrn
      have atA : (Value.slice oaA n cA).ownBlock = some gA ∨ w0.heap.size ≤ gA := hat.imp id (fun e => by omega)
      have hgA := (own_lt hrA3 (k := gA) rfl).2
      clear hrn hg hat hlt
      refine hK.out _ _ ⟨(hT3.cell (p := ⟨zb, 1, none⟩) hzl (fun h => h.elim hzA hzB)).trans zA, (hT3.cell (p := ⟨zb, 2, none⟩) hzl (fun h => h.elim hzA hzB)).trans zB⟩ (fun hHeld => ?_)
      clear hK K
      try simp only [Act.put, List.setIfInBounds_toArray, List.set_cons_zero, List.set_cons_succ]
      clear hNA
      refine RegU.one (i := 15) (by kernel_rfl) rfl (fun K hK => ?_)
      go_simp
      have hT4 := hT3.alloc (.cells #[.int .i64 4, .int .i64 a, .string ⟨#[]⟩] 28 (0, 0))
      have hrA4 := hrA3.alloc (.cells #[.int .i64 4, .int .i64 a, .string ⟨#[]⟩] 28 (0, 0))
      have hrB4 := hrB3.alloc (.cells #[.int .i64 4, .int .i64 a, .string ⟨#[]⟩] 28 (0, 0))
      have hNB := heap_alloc_last w3 (.cells #[.int .i64 4, .int .i64 a, .string ⟨#[]⟩] 28 (0, 0))
      have hlB : w0.heap.size ≤ w3.heap.size := hT3.size
      refine hK.out _ _ ⟨(hT4.cell (p := ⟨zb, 1, none⟩) hzl (fun h => h.elim hzA hzB)).trans zA, (hT4.cell (p := ⟨zb, 2, none⟩) hzl (fun h => h.elim hzA hzB)).trans zB⟩ (fun hHeld => ?_)
      clear hK K
      try simp only [Act.put, List.setIfInBounds_toArray, List.set_cons_zero, List.set_cons_succ]
      generalize w3.alloc (.cells #[.int .i64 4, .int .i64 a, .string ⟨#[]⟩] 28 (0, 0)) = w4 at *
      generalize w3.heap.size = bB at *
      refine RegU.one (i := 16) (by kernel_rfl) rfl (fun K hK => ?_)
      refine step_append_lies _ rfl _ _ 77 rfl B0 28 iB (.agg #[.int .i64 0, .int .i64 0, .string ByteArray.empty]) 3 32 Tryd.underlying77 hiB hB0 hB1 hB2 rfl (by decide) (Value.slice oaB n cB) n xsB rfl hrB4 ⟨bB, 0, none⟩ 1 1 [.int .i64 4, .int .i64 a, .string ⟨#[]⟩] rfl rfl ?c1 ?c2 (by decide) mB nB ?c5 _ rfl ?_
      case c1 => exact World.news_of_block (cs := #[.int .i64 4, .int .i64 a, .string ⟨#[]⟩]) (t := 28) (fr := (0, 0)) hNB
      case c2 =>
        intro u hu
        simp only [List.mem_cons, List.not_mem_nil, or_false] at hu
        rcases hu with rfl | rfl | rfl <;> rfl
      case c5 => have := hT4.size; omega
      intro gB kB w5 hrn hg hat hlt
      have hz4 := hT4.size
      have hT5 := hT4.grown hg (fun j hj => .inl (.inr hj))
      have hrA5 := ownsRow_same hrA4 (fun j hj => hg.block j (own_lt hrA4 hj).2 (fun e => by
          have e1 : gA = j := Option.some.inj hj
          rcases atA with h | h
          · exact hAB gA h (by rw [e1]; exact e.symm)
          · have := lB j e.symm
            omega))
      have hrB5 := hrn
      have atB : (Value.slice oaB n cB).ownBlock = some gB ∨ w0.heap.size ≤ gB := hat.imp id (fun e => by omega)
      have hne : gA ≠ gB := fun e => by
        rcases hat with h | h
        · rcases atA with h2 | h2
          · exact hAB gA h2 (by rw [e]; exact h)
          · have := lB gB h
            omega
        · have h3 := (own_lt hrA4 (k := gA) rfl).2
          omega
      clear hrn hg hat hlt
      refine hK.out _ _ ⟨(hT5.cell (p := ⟨zb, 1, none⟩) hzl (fun h => h.elim hzA hzB)).trans zA, (hT5.cell (p := ⟨zb, 2, none⟩) hzl (fun h => h.elim hzA hzB)).trans zB⟩ (fun hHeld => ?_)
      clear hK K
      try simp only [Act.put, List.setIfInBounds_toArray, List.set_cons_zero, List.set_cons_succ]
      clear hNB
      refine RegU.rest [17, 18, 19, 20, 21, 22] [_, _, _, _, _, _] (by kernel_rfl) rfl ?_
      have q1 : w5.cell? ⟨zb, 1, none⟩ = some (Value.slice oaA n cA) := (hT5.cell (p := ⟨zb, 1, none⟩) hzl (fun h => h.elim hzA hzB)).trans zA
      have q2 : w5.cell? ⟨zb, 2, none⟩ = some (Value.slice oaB n cB) := (hT5.cell (p := ⟨zb, 2, none⟩) hzl (fun h => h.elim hzA hzB)).trans zB
      have q3 : ∀ i, w5.frozen? ⟨zb, i, none⟩ = false := fun i => (World.frozen?_of_block (a := ⟨zb, i, none⟩) (hT5.block _ hzl (fun h => h.elim hzA hzB))).trans (fz i)
      have hFin := Lib.hid (two_fin (iA := 1) (iB := 2) hT5 hrA5 hrB5 atA atB hne hzl hzA hzB)
      clear hHeld hT5 hrA5 hrB5 atA atB hne zA zB fz hzA hzB hAB lA lB
      go_wp2
      exact HQ.out _ _ _ _ _ _ _ _ _ _ _ _ _ _ _ _ _ _ _ _ _ _ _ _ _ _ hFin.out
    · go_simp
      have hT3 := hT2.alloc (.cells #[.int .i64 4, .int .i64 a, .string ⟨#[]⟩] 28 (0, 0))
      have hrA3 := hrA2.alloc (.cells #[.int .i64 4, .int .i64 a, .string ⟨#[]⟩] 28 (0, 0))
      have hrB3 := hrB2.alloc (.cells #[.int .i64 4, .int .i64 a, .string ⟨#[]⟩] 28 (0, 0))
      have hNB := heap_alloc_last w2 (.cells #[.int .i64 4, .int .i64 a, .string ⟨#[]⟩] 28 (0, 0))
      have hlB : w0.heap.size ≤ w2.heap.size := hT2.size
      replace hNA := (Below.heap_alloc w2 (.cells #[.int .i64 4, .int .i64 a, .string ⟨#[]⟩] 28 (0, 0)) _ (lt_of_block hNA)).trans hNA
      refine hK.out _ _ ⟨(hT3.cell (p := ⟨zb, 1, none⟩) hzl (fun h => h.elim hzA hzB)).trans zA, (hT3.cell (p := ⟨zb, 2, none⟩) hzl (fun h => h.elim hzA hzB)).trans zB⟩ (fun hHeld => ?_)
      clear hK K
      try simp only [Act.put, List.setIfInBounds_toArray, List.set_cons_zero, List.set_cons_succ]
      generalize w2.alloc (.cells #[.int .i64 4, .int .i64 a, .string ⟨#[]⟩] 28 (0, 0)) = w3 at *
      generalize w2.heap.size = bB at *
      refine RegU.one (i := 8) (by kernel_rfl) rfl (fun K hK => ?_)
      refine step_append_lies _ rfl _ _ 76 rfl B0 184 iA (.pointer none) 1 8 Tryd.underlying76 hiA hA0 hA1 hA2 rfl (by decide) (Value.slice oaA n cA) n xsA rfl hrA3 ⟨bA, 0, none⟩ 1 1 [.pointer (some ⟨tb, 0, none⟩)] rfl rfl ?c1 ?c2 (by decide) mA nA ?c5 _ rfl ?_
      case c1 => exact World.news_of_block (cs := #[.pointer (some ⟨tb, 0, none⟩)]) (t := 184) (fr := (0, 0)) hNA
      case c2 =>
        intro u hu
        simp only [List.mem_cons, List.not_mem_nil, or_false] at hu
        subst hu; rfl
      case c5 => have := hT3.size; omega
      intro gA kA w4 hrn hg hat hlt
      have hz3 := hT3.size
      have hT4 := hT3.grown hg (fun j hj => .inl (.inl hj))
      have hrB4 := ownsRow_same hrB3 (fun j hj => hg.block j (by have := (own_lt hrB3 hj).2; omega) (fun e => hAB j e.symm hj))
      have hrA4 := hrn
      have atA : (Value.slice oaA n cA).ownBlock = some gA ∨ w0.heap.size ≤ gA := hat.imp id (fun e => by omega)
      have hgA := (own_lt hrA4 (k := gA) rfl).2
      have hNB := (hg.block bB (lt_of_block hNB) (fun e => by have := lA bB e.symm; omega)).trans hNB
      clear hrn hg hat hlt
      refine hK.out _ _ ⟨(hT4.cell (p := ⟨zb, 1, none⟩) hzl (fun h => h.elim hzA hzB)).trans zA, (hT4.cell (p := ⟨zb, 2, none⟩) hzl (fun h => h.elim hzA hzB)).trans zB⟩ (fun hHeld => ?_)
      clear hK K
      try simp only [Act.put, List.setIfInBounds_toArray, List.set_cons_zero, List.set_cons_succ]
      clear hNA
      refine RegU.one (i := 16) (by kernel_rfl) rfl (fun K hK => ?_)
      refine step_append_lies _ rfl _ _ 77 rfl B0 28 iB (.agg #[.int .i64 0, .int .i64 0, .string ByteArray.empty]) 3 32 Tryd.underlying77 hiB hB0 hB1 hB2 rfl (by decide) (Value.slice oaB n cB) n xsB rfl hrB4 ⟨bB, 0, none⟩ 1 1 [.int .i64 4, .int .i64 a, .string ⟨#[]⟩] rfl rfl ?c1 ?c2 (by decide) mB nB ?c5 _ rfl ?_
      case c1 => exact World.news_of_block (cs := #[.int .i64 4, .int .i64 a, .string ⟨#[]⟩]) (t := 28) (fr := (0, 0)) hNB
      case c2 =>
        intro u hu
        simp only [List.mem_cons, List.not_mem_nil, or_false] at hu
        rcases hu with rfl | rfl | rfl <;> rfl
      case c5 => have := hT4.size; omega
      intro gB kB w5 hrn hg hat hlt
      have hz4 := hT4.size
      have hT5 := hT4.grown hg (fun j hj => .inl (.inr hj))
      have hrA5 := ownsRow_same hrA4 (fun j hj => hg.block j (own_lt hrA4 hj).2 (fun e => by
          have e1 : gA = j := Option.some.inj hj
          rcases atA with h | h
          · exact hAB gA h (by rw [e1]; exact e.symm)
          · have := lB j e.symm
            omega))
      have hrB5 := hrn
      have atB : (Value.slice oaB n cB).ownBlock = some gB ∨ w0.heap.size ≤ gB := hat.imp id (fun e => by omega)
      have hne : gA ≠ gB := fun e => by
        rcases hat with h | h
        · rcases atA with h2 | h2
          · exact hAB gA h2 (by rw [e]; exact h)
          · have := lB gB h
            omega
        · have h3 := (own_lt hrA4 (k := gA) rfl).2
          omega
      clear hrn hg hat hlt
      refine hK.out _ _ ⟨(hT5.cell (p := ⟨zb, 1, none⟩) hzl (fun h => h.elim hzA hzB)).trans zA, (hT5.cell (p := ⟨zb, 2, none⟩) hzl (fun h => h.elim hzA hzB)).trans zB⟩ (fun hHeld => ?_)
      clear hK K
      try simp only [Act.put, List.setIfInBounds_toArray, List.set_cons_zero, List.set_cons_succ]
      clear hNB
      refine RegU.rest [17, 18, 19, 20, 21, 22] [_, _, _, _, _, _] (by kernel_rfl) rfl ?_
      have q1 : w5.cell? ⟨zb, 1, none⟩ = some (Value.slice oaA n cA) := (hT5.cell (p := ⟨zb, 1, none⟩) hzl (fun h => h.elim hzA hzB)).trans zA
      have q2 : w5.cell? ⟨zb, 2, none⟩ = some (Value.slice oaB n cB) := (hT5.cell (p := ⟨zb, 2, none⟩) hzl (fun h => h.elim hzA hzB)).trans zB
      have q3 : ∀ i, w5.frozen? ⟨zb, i, none⟩ = false := fun i => (World.frozen?_of_block (a := ⟨zb, i, none⟩) (hT5.block _ hzl (fun h => h.elim hzA hzB))).trans (fz i)
      have hFin := Lib.hid (two_fin (iA := 1) (iB := 2) hT5 hrA5 hrB5 atA atB hne hzl hzA hzB)
      clear hHeld hT5 hrA5 hrB5 atA atB hne zA zB fz hzA hzB hAB lA lB
      go_wp2
      exact HQ.out _ _ _ _ _ _ _ _ _ _ _ _ _ _ _ _ _ _ _ _ _ _ _ _ _ _ hFin.out
  · go_simp
    have hT2 := hT1.alloc (.cells #[.int .i64 4, .int .i64 a, .string ⟨#[]⟩] 28 (0, 0))
    have hrA2 := hrA1.alloc (.cells #[.int .i64 4, .int .i64 a, .string ⟨#[]⟩] 28 (0, 0))
    have hrB2 := hrB1.alloc (.cells #[.int .i64 4, .int .i64 a, .string ⟨#[]⟩] 28 (0, 0))
    have hNB := heap_alloc_last w1 (.cells #[.int .i64 4, .int .i64 a, .string ⟨#[]⟩] 28 (0, 0))
    have hlB : w0.heap.size ≤ w1.heap.size := hT1.size
    refine hK.out _ _ ⟨(hT2.cell (p := ⟨zb, 1, none⟩) hzl (fun h => h.elim hzA hzB)).trans zA, (hT2.cell (p := ⟨zb, 2, none⟩) hzl (fun h => h.elim hzA hzB)).trans zB⟩ (fun hHeld => ?_)
    clear hK K
    try simp only [Act.put, List.setIfInBounds_toArray, List.set_cons_zero, List.set_cons_succ]
    generalize w1.alloc (.cells #[.int .i64 4, .int .i64 a, .string ⟨#[]⟩] 28 (0, 0)) = w2 at *
    generalize w1.heap.size = bB at *
    refine RegU.one (i := 7) (by kernel_rfl) rfl (fun K hK => ?_)
    go_simp
    have hT3 := hT2.alloc (.cells #[.pointer (some ⟨tb, 0, none⟩)] 184 (0, 0))
    have hrA3 := hrA2.alloc (.cells #[.pointer (some ⟨tb, 0, none⟩)] 184 (0, 0))
    have hrB3 := hrB2.alloc (.cells #[.pointer (some ⟨tb, 0, none⟩)] 184 (0, 0))
    have hNA := heap_alloc_last w2 (.cells #[.pointer (some ⟨tb, 0, none⟩)] 184 (0, 0))
    have hlA : w0.heap.size ≤ w2.heap.size := hT2.size
    replace hNB := (Below.heap_alloc w2 (.cells #[.pointer (some ⟨tb, 0, none⟩)] 184 (0, 0)) _ (lt_of_block hNB)).trans hNB
    refine hK.out _ _ ⟨(hT3.cell (p := ⟨zb, 1, none⟩) hzl (fun h => h.elim hzA hzB)).trans zA, (hT3.cell (p := ⟨zb, 2, none⟩) hzl (fun h => h.elim hzA hzB)).trans zB⟩ (fun hHeld => ?_)
    clear hK K
    try simp only [Act.put, List.setIfInBounds_toArray, List.set_cons_zero, List.set_cons_succ]
    generalize w2.alloc (.cells #[.pointer (some ⟨tb, 0, none⟩)] 184 (0, 0)) = w3 at *
    generalize w2.heap.size = bA at *
    refine RegU.one (i := 8) (by kernel_rfl) rfl (fun K hK => ?_)
    refine step_append_lies _ rfl _ _ 76 rfl B0 184 iA (.pointer none) 1 8 Tryd.underlying76 hiA hA0 hA1 hA2 rfl (by decide) (Value.slice oaA n cA) n xsA rfl hrA3 ⟨bA, 0, none⟩ 1 1 [.pointer (some ⟨tb, 0, none⟩)] rfl rfl ?c1 ?c2 (by decide) mA nA ?c5 _ rfl ?_
    case c1 => exact World.news_of_block (cs := #[.pointer (some ⟨tb, 0, none⟩)]) (t := 184) (fr := (0, 0)) hNA
    case c2 =>
      intro u hu
      simp only [List.mem_cons, List.not_mem_nil, or_false] at hu
      subst hu; rfl
    case c5 => have := hT3.size; omega
    intro gA kA w4 hrn hg hat hlt
    have hz3 := hT3.size
    have hT4 := hT3.grown hg (fun j hj => .inl (.inl hj))
    have hrB4 := ownsRow_same hrB3 (fun j hj => hg.block j (by have := (own_lt hrB3 hj).2; omega) (fun e => hAB j e.symm hj))
    have hrA4 := hrn
    have atA : (Value.slice oaA n cA).ownBlock = some gA ∨ w0.heap.size ≤ gA := hat.imp id (fun e => by omega)
    have hgA := (own_lt hrA4 (k := gA) rfl).2
    have hNB := (hg.block bB (lt_of_block hNB) (fun e => by have := lA bB e.symm; omega)).trans hNB
    clear hrn hg hat hlt
    refine hK.out _ _ ⟨(hT4.cell (p := ⟨zb, 1, none⟩) hzl (fun h => h.elim hzA hzB)).trans zA, (hT4.cell (p := ⟨zb, 2, none⟩) hzl (fun h => h.elim hzA hzB)).trans zB⟩ (fun hHeld => ?_)
    clear hK K
    try simp only [Act.put, List.setIfInBounds_toArray, List.set_cons_zero, List.set_cons_succ]
    clear hNA
    refine RegU.one (i := 16) (by kernel_rfl) rfl (fun K hK => ?_)
    refine step_append_lies _ rfl _ _ 77 rfl B0 28 iB (.agg #[.int .i64 0, .int .i64 0, .string ByteArray.empty]) 3 32 Tryd.underlying77 hiB hB0 hB1 hB2 rfl (by decide) (Value.slice oaB n cB) n xsB rfl hrB4 ⟨bB, 0, none⟩ 1 1 [.int .i64 4, .int .i64 a, .string ⟨#[]⟩] rfl rfl ?c1 ?c2 (by decide) mB nB ?c5 _ rfl ?_
    case c1 => exact World.news_of_block (cs := #[.int .i64 4, .int .i64 a, .string ⟨#[]⟩]) (t := 28) (fr := (0, 0)) hNB
    case c2 =>
      intro u hu
      simp only [List.mem_cons, List.not_mem_nil, or_false] at hu
      rcases hu with rfl | rfl | rfl <;> rfl
    case c5 => have := hT4.size; omega
    intro gB kB w5 hrn hg hat hlt
    have hz4 := hT4.size
    have hT5 := hT4.grown hg (fun j hj => .inl (.inr hj))
    have hrA5 := ownsRow_same hrA4 (fun j hj => hg.block j (own_lt hrA4 hj).2 (fun e => by
        have e1 : gA = j := Option.some.inj hj
        rcases atA with h | h
        · exact hAB gA h (by rw [e1]; exact e.symm)
        · have := lB j e.symm
          omega))
    have hrB5 := hrn
    have atB : (Value.slice oaB n cB).ownBlock = some gB ∨ w0.heap.size ≤ gB := hat.imp id (fun e => by omega)
    have hne : gA ≠ gB := fun e => by
      rcases hat with h | h
      · rcases atA with h2 | h2
        · exact hAB gA h2 (by rw [e]; exact h)
        · have := lB gB h
          omega
      · have h3 := (own_lt hrA4 (k := gA) rfl).2
        omega
    clear hrn hg hat hlt
    refine hK.out _ _ ⟨(hT5.cell (p := ⟨zb, 1, none⟩) hzl (fun h => h.elim hzA hzB)).trans zA, (hT5.cell (p := ⟨zb, 2, none⟩) hzl (fun h => h.elim hzA hzB)).trans zB⟩ (fun hHeld => ?_)
    clear hK K
    try simp only [Act.put, List.setIfInBounds_toArray, List.set_cons_zero, List.set_cons_succ]
    clear hNB
    refine RegU.rest [17, 18, 19, 20, 21, 22] [_, _, _, _, _, _] (by kernel_rfl) rfl ?_
    have q1 : w5.cell? ⟨zb, 1, none⟩ = some (Value.slice oaA n cA) := (hT5.cell (p := ⟨zb, 1, none⟩) hzl (fun h => h.elim hzA hzB)).trans zA
    have q2 : w5.cell? ⟨zb, 2, none⟩ = some (Value.slice oaB n cB) := (hT5.cell (p := ⟨zb, 2, none⟩) hzl (fun h => h.elim hzA hzB)).trans zB
    have q3 : ∀ i, w5.frozen? ⟨zb, i, none⟩ = false := fun i => (World.frozen?_of_block (a := ⟨zb, i, none⟩) (hT5.block _ hzl (fun h => h.elim hzA hzB))).trans (fz i)
    have hFin := Lib.hid (two_fin (iA := 1) (iB := 2) hT5 hrA5 hrB5 atA atB hne hzl hzA hzB)
    clear hHeld hT5 hrA5 hrB5 atA atB hne zA zB fz hzA hzB hAB lA lB
    go_wp2
    exact HQ.out _ _ _ _ _ _ _ _ _ _ _ _ _ _ _ _ _ _ _ _ _ _ _ _ _ _ hFin.out
theorem makes_app2 {Q : Exit → Act → World → Prop} {u1 u2 u3 u4 u5 u6 u7 u8 u9 Ja Jb Jc Jd Je Jf Jg Jh Ji Jj Jk Jl Jm Jn Jo Jp Jq Jr Js Jt Ju Jv Jw Jx Jy Jz Qa Qb Qc Qd Qe Qf Qg Qh Qi Qj Qk Ql Qm Qn Qo Qp Qq Qr Qs Qt Qu Qv Qw Qx Qy Qz Xe Xg Xh Xi Xj Xk Xn Xo Xp Xq Xt Xu Xv Xx Xy Xz Yg Yh Yi Yj Yk Yl Ym Yn Yo Yp Yq Yr Ys Yt Yu Yv Yw Yx Yy Yz Ua Ub Uc Ud Ue Uf Ug Uh Ui Uj Uk Ul Um Un Uo Up Uq Ur Us Ut Uu Uv Uw Ux Uy Uz Wc Wd We Wf Wg Wh Wi Wj Wk Wl Wm Wn Wo Wp Wq Wt Wu Ww Wx Wy Wz Ka Kb Kc Kd Ke Kf Kg Kh Kj Kl Km Kn Ko Kp Kq Kr Kt : Value} (w0 : World) (B0 : Nat) (zb n : Nat) (cA cB : Nat) (oaA oaB : Option Addr) (xsA xsB : List Value)
    (hrA : w0.ownsRow B0 4 1 (Value.slice oaA n cA) n xsA) (hrB : w0.ownsRow B0 4 1 (Value.slice oaB n cB) n xsB) (zA : w0.cell? ⟨zb, 3, none⟩ = some (Value.slice oaA n cA)) (zB : w0.cell? ⟨zb, 4, none⟩ = some (Value.slice oaB n cB))
    (fz : ∀ i, w0.frozen? ⟨zb, i, none⟩ = false) (hBz : B0 ≤ w0.heap.size) (hzA : (Value.slice oaA n cA).ownBlock ≠ some zb) (hzB : (Value.slice oaB n cB).ownBlock ≠ some zb) (hAB : ∀ k, (Value.slice oaA n cA).ownBlock = some k → (Value.slice oaB n cB).ownBlock ≠ some k) (hnA : n ≤ big) (hnB : n ≤ big) 
    (hQ : ∀ (sCO sCP sCQ sCR sCS sCT sCU sCV sCW sCX sCY sCZ sDa sDb sDc sDd sDe sDf : Value) (gA kA gB kB : Nat) (w' : World), Two w0 B0 zb 3 4 4 1 4 1 (Value.slice oaA n cA) (Value.slice oaB n cB) n n (xsA ++ [.bool true]) (xsB ++ [.bool true]) gA kA gB kB w' → Q .normal ⟨#[(.pointer (some ⟨zb,0,none⟩)),u1,u2,u3,u4,u5,u6,u7,u8,u9,Ja,Jb,Jc,Jd,Je,Jf,Jg,Jh,Ji,Jj,Jk,Jl,Jm,Jn,Jo,Jp,Jq,Jr,Js,Jt,Ju,Jv,Jw,Jx,Jy,Jz,Qa,Qb,Qc,Qd,Qe,Qf,Qg,Qh,Qi,Qj,Qk,Ql,Qm,Qn,Qo,Qp,Qq,Qr,Qs,Qt,Qu,Qv,Qw,Qx,Qy,Qz,Xe,Xg,Xh,Xi,Xj,Xk,Xn,Xo,Xp,Xq,Xt,Xu,Xv,Xx,Xy,Xz,Yg,Yh,Yi,Yj,Yk,Yl,Ym,Yn,Yo,Yp,Yq,Yr,Ys,Yt,Yu,Yv,Yw,Yx,Yy,Yz,Ua,Ub,Uc,Ud,Ue,Uf,Ug,Uh,Ui,Uj,Uk,Ul,Um,Un,Uo,Up,Uq,Ur,Us,Ut,Uu,Uv,Uw,Ux,Uy,Uz,Wc,Wd,We,Wf,Wg,Wh,Wi,Wj,Wk,Wl,Wm,Wn,Wo,Wp,Wq,Wt,Wu,Ww,Wx,Wy,sCO,sCP,sCQ,sCR,sCS,sCT,sCU,sCV,sCW,sCX,sCY,sCZ,sDa,sDb,sDc,sDd,sDe,sDf], []⟩ w') :
    Code.wp Tryd.prog (Cut.piece Tryd.f71 (Cut.region 18)) Q ⟨#[(.pointer (some ⟨zb,0,none⟩)),u1,u2,u3,u4,u5,u6,u7,u8,u9,Ja,Jb,Jc,Jd,Je,Jf,Jg,Jh,Ji,Jj,Jk,Jl,Jm,Jn,Jo,Jp,Jq,Jr,Js,Jt,Ju,Jv,Jw,Jx,Jy,Jz,Qa,Qb,Qc,Qd,Qe,Qf,Qg,Qh,Qi,Qj,Qk,Ql,Qm,Qn,Qo,Qp,Qq,Qr,Qs,Qt,Qu,Qv,Qw,Qx,Qy,Qz,Xe,Xg,Xh,Xi,Xj,Xk,Xn,Xo,Xp,Xq,Xt,Xu,Xv,Xx,Xy,Xz,Yg,Yh,Yi,Yj,Yk,Yl,Ym,Yn,Yo,Yp,Yq,Yr,Ys,Yt,Yu,Yv,Yw,Yx,Yy,Yz,Ua,Ub,Uc,Ud,Ue,Uf,Ug,Uh,Ui,Uj,Uk,Ul,Um,Un,Uo,Up,Uq,Ur,Us,Ut,Uu,Uv,Uw,Ux,Uy,Uz,Wc,Wd,We,Wf,Wg,Wh,Wi,Wj,Wk,Wl,Wm,Wn,Wo,Wp,Wq,Wt,Wu,Ww,Wx,Wy,Wz,Ka,Kb,Kc,Kd,Ke,Kf,Kg,Kh,Kj,Kl,Km,Kn,Ko,Kp,Kq,Kr,Kt], []⟩ w0 := by
  conv => arg 2; whnf
  obtain ⟨iA, hiA, hA0, hA1, hA2⟩ := info_parts (P := Tryd.prog) (e := 4) (by kernel_rfl : (Tryd.prog.info? 4).map (fun i => (i.zero, i.size, i.bytes)) = some (some (.bool false), 1, 1))
  obtain ⟨iB, hiB, hB0, hB1, hB2⟩ := info_parts (P := Tryd.prog) (e := 4) (by kernel_rfl : (Tryd.prog.info? 4).map (fun i => (i.zero, i.size, i.bytes)) = some (some (.bool false), 1, 1))
  have hzl : zb < w0.heap.size := World.block_lt_of_cell? w0 _ zA
  have mA : n + 1 ≤ maxLen := by unfold big at hnA; unfold maxLen; omega
  have mB : n + 1 ≤ maxLen := by unfold big at hnB; unfold maxLen; omega
  have nA : (n + 1) * 1 ≤ 140737488355328 := by unfold big at hnA; omega
  have nB : (n + 1) * 1 ≤ 140737488355328 := by unfold big at hnB; omega
  have lA : ∀ k, (Value.slice oaA n cA).ownBlock = some k → k < w0.heap.size := fun k hk => (own_lt hrA hk).2
  have lB : ∀ k, (Value.slice oaB n cB).ownBlock = some k → k < w0.heap.size := fun k hk => (own_lt hrB hk).2
  have HQ := Lib.hid hQ
  clear hQ
  refine wp_region_noPanic ?_
  refine RegU.beginA (by kernel_rfl) ?_
  refine RegU.takeA (i := 0) (v := ?_) rfl (by kernel_rfl) (by kernel_rfl) (by kernel_rfl) (fun _ _ _ h => h) (Or.inl ⟨by rfl, ?_⟩) ?_
  rotate_left
  · intro w; go_simp; first | done | with_reducible rfl
  try simp only [Act.put, List.setIfInBounds_toArray, List.set_cons_zero, List.set_cons_succ]
  refine RegU.takeA (i := 1) (v := ?_) rfl (by kernel_rfl) (by kernel_rfl) (by kernel_rfl) (fun _ _ _ h => h) (Or.inl ⟨by rfl, ?_⟩) ?_
  rotate_left
  · intro w; go_simp; first | done | with_reducible rfl
  try simp only [Act.put, List.setIfInBounds_toArray, List.set_cons_zero, List.set_cons_succ]
  refine RegU.takeA (i := 2) (v := ?_) rfl (by kernel_rfl) (by kernel_rfl) (by kernel_rfl) (fun _ _ _ h => h) (Or.inl ⟨by rfl, ?_⟩) ?_
  rotate_left
  · intro w; go_simp; first | done | with_reducible rfl
  try simp only [Act.put, List.setIfInBounds_toArray, List.set_cons_zero, List.set_cons_succ]
  refine RegU.takeA (i := 3) (v := ?_) rfl (by kernel_rfl) (by kernel_rfl) (by kernel_rfl) (fun _ _ _ h => h) (Or.inl ⟨by rfl, ?_⟩) ?_
  rotate_left
  · intro w; go_simp; first | done | with_reducible rfl
  try simp only [Act.put, List.setIfInBounds_toArray, List.set_cons_zero, List.set_cons_succ]
  refine RegU.takeA (i := 4) (v := ?_) rfl (by kernel_rfl) (by kernel_rfl) (by kernel_rfl) (fun _ _ _ h => h) (Or.inl ⟨by rfl, ?_⟩) ?_
  rotate_left
  · intro w; go_simp; first | done | with_reducible rfl
  try simp only [Act.put, List.setIfInBounds_toArray, List.set_cons_zero, List.set_cons_succ]
  refine RegU.takeA (i := 8) (v := ?_) rfl (by kernel_rfl) (by kernel_rfl) (by kernel_rfl) (fun _ _ _ h => h) (Or.inl ⟨by rfl, ?_⟩) ?_
  rotate_left
  · intro w; go_simp; first | done | with_reducible rfl
  try simp only [Act.put, List.setIfInBounds_toArray, List.set_cons_zero, List.set_cons_succ]
  refine RegU.takeA (i := 9) (v := ?_) rfl (by kernel_rfl) (by kernel_rfl) (by kernel_rfl) (fun _ _ _ h => h) (Or.inl ⟨by rfl, ?_⟩) ?_
  rotate_left
  · intro w; go_simp; first | done | with_reducible rfl
  try simp only [Act.put, List.setIfInBounds_toArray, List.set_cons_zero, List.set_cons_succ]
  refine RegU.takeA (i := 10) (v := ?_) rfl (by kernel_rfl) (by kernel_rfl) (by kernel_rfl) (fun _ _ _ h => h) (Or.inl ⟨by rfl, ?_⟩) ?_
  rotate_left
  · intro w; go_simp; first | done | with_reducible rfl
  try simp only [Act.put, List.setIfInBounds_toArray, List.set_cons_zero, List.set_cons_succ]
  refine RegU.toU (S := fun wz => wz.cell? ⟨zb, 3, none⟩ = some (Value.slice oaA n cA) ∧ wz.cell? ⟨zb, 4, none⟩ = some (Value.slice oaB n cB)) (N := [6, 7, 11, 12]) ⟨zA, zB⟩ (fun hHeld => ?_)
  try simp only [Act.put, List.setIfInBounds_toArray, List.set_cons_zero, List.set_cons_succ]
  refine RegU.tk [7, 13, 14, 15, 16, 17, 18, 19] 5 ?_
  refine RegU.tk [13, 14, 15, 16, 17, 18, 19] 11 ?_
  generalize hwd : w0.drew = w1 at *
  have hT1 : Turned (fun k => (Value.slice oaA n cA).ownBlock = some k ∨ (Value.slice oaB n cB).ownBlock = some k) w0 w1 := by rw [← hwd]; exact (Turned.refl _ w0).drew
  have hrA1 : w1.ownsRow B0 4 1 (Value.slice oaA n cA) n xsA := by rw [← hwd]; exact ownsRow_same hrA (fun _ _ => rfl)
  have hrB1 : w1.ownsRow B0 4 1 (Value.slice oaB n cB) n xsB := by rw [← hwd]; exact ownsRow_same hrB (fun _ _ => rfl)
  clear hwd hrA hrB
  refine RegU.two (i := 6) (j := 12) (by kernel_rfl) rfl rfl (fun K hK => ?_) (fun K hK => ?_)
  · go_simp
    have hT2 := hT1.alloc (.cells #[.bool true] 4 (0, 0))
    have hrA2 := hrA1.alloc (.cells #[.bool true] 4 (0, 0))
    have hrB2 := hrB1.alloc (.cells #[.bool true] 4 (0, 0))
    have hNA := heap_alloc_last w1 (.cells #[.bool true] 4 (0, 0))
    have hlA : w0.heap.size ≤ w1.heap.size := hT1.size
    refine hK.out _ _ ⟨(hT2.cell (p := ⟨zb, 3, none⟩) hzl (fun h => h.elim hzA hzB)).trans zA, (hT2.cell (p := ⟨zb, 4, none⟩) hzl (fun h => h.elim hzA hzB)).trans zB⟩ (fun hHeld => ?_)
    clear hK K
    try simp only [Act.put, List.setIfInBounds_toArray, List.set_cons_zero, List.set_cons_succ]
    generalize w1.alloc (.cells #[.bool true] 4 (0, 0)) = w2 at *
    generalize w1.heap.size = bA at *
    refine RegU.two (i := 7) (j := 12) (by kernel_rfl) rfl rfl (fun K hK => ?_) (fun K hK => ?_)
    · refine step_append_lies _ rfl _ _ 78 rfl B0 4 iA (.bool false) 1 1 Tryd.underlying78 hiA hA0 hA1 hA2 rfl (by decide) (Value.slice oaA n cA) n xsA rfl hrA2 ⟨bA, 0, none⟩ 1 1 [.bool true] rfl rfl ?c1 ?c2 (by decide) mA nA ?c5 _ rfl ?_
      case c1 => exact World.news_of_block (cs := #[.bool true]) (t := 4) (fr := (0, 0)) hNA
      case c2 =>
        intro u hu
        simp only [List.mem_cons, List.not_mem_nil, or_false] at hu
        subst hu; rfl
      case c5 => have := hT2.size; omega
      intro gA kA w3 hrn hg hat hlt
      have hz2 := hT2.size
      have hT3 := hT2.grown hg (fun j hj => .inl (.inl hj))
      have hrB3 := ownsRow_same hrB2 (fun j hj => hg.block j (by have := (own_lt hrB2 hj).2; omega) (fun e => hAB j e.symm hj))
      have hrA3 := hrn
      have atA : (Value.slice oaA n cA).ownBlock = some gA ∨ w0.heap.size ≤ gA := hat.imp id (fun e => by omega)
      have hgA := (own_lt hrA3 (k := gA) rfl).2
      clear hrn hg hat hlt
      refine hK.out _ _ ⟨(hT3.cell (p := ⟨zb, 3, none⟩) hzl (fun h => h.elim hzA hzB)).trans zA, (hT3.cell (p := ⟨zb, 4, none⟩) hzl (fun h => h.elim hzA hzB)).trans zB⟩ (fun hHeld => ?_)
      clear hK K
      try simp only [Act.put, List.setIfInBounds_toArray, List.set_cons_zero, List.set_cons_succ]
      clear hNA
      refine RegU.one (i := 12) (by kernel_rfl) rfl (fun K hK => ?_)
      go_simp
      have hT4 := hT3.alloc (.cells #[.bool true] 4 (0, 0))
      have hrA4 := hrA3.alloc (.cells #[.bool true] 4 (0, 0))
      have hrB4 := hrB3.alloc (.cells #[.bool true] 4 (0, 0))
      have hNB := heap_alloc_last w3 (.cells #[.bool true] 4 (0, 0))
      have hlB : w0.heap.size ≤ w3.heap.size := hT3.size
      refine hK.out _ _ ⟨(hT4.cell (p := ⟨zb, 3, none⟩) hzl (fun h => h.elim hzA hzB)).trans zA, (hT4.cell (p := ⟨zb, 4, none⟩) hzl (fun h => h.elim hzA hzB)).trans zB⟩ (fun hHeld => ?_)
      clear hK K
      try simp only [Act.put, List.setIfInBounds_toArray, List.set_cons_zero, List.set_cons_succ]
      generalize w3.alloc (.cells #[.bool true] 4 (0, 0)) = w4 at *
      generalize w3.heap.size = bB at *
      refine RegU.one (i := 13) (by kernel_rfl) rfl (fun K hK => ?_)
      refine step_append_lies _ rfl _ _ 78 rfl B0 4 iB (.bool false) 1 1 Tryd.underlying78 hiB hB0 hB1 hB2 rfl (by decide) (Value.slice oaB n cB) n xsB rfl hrB4 ⟨bB, 0, none⟩ 1 1 [.bool true] rfl rfl ?c1 ?c2 (by decide) mB nB ?c5 _ rfl ?_
      case c1 => exact World.news_of_block (cs := #[.bool true]) (t := 4) (fr := (0, 0)) hNB
      case c2 =>
        intro u hu
        simp only [List.mem_cons, List.not_mem_nil, or_false] at hu
        subst hu; rfl
      case c5 => have := hT4.size; omega
      intro gB kB w5 hrn hg hat hlt
      have hz4 := hT4.size
      have hT5 := hT4.grown hg (fun j hj => .inl (.inr hj))
      have hrA5 := ownsRow_same hrA4 (fun j hj => hg.block j (own_lt hrA4 hj).2 (fun e => by
          have e1 : gA = j := Option.some.inj hj
          rcases atA with h | h
          · exact hAB gA h (by rw [e1]; exact e.symm)
          · have := lB j e.symm
            omega))
      have hrB5 := hrn
      have atB : (Value.slice oaB n cB).ownBlock = some gB ∨ w0.heap.size ≤ gB := hat.imp id (fun e => by omega)
      have hne : gA ≠ gB := fun e => by
        rcases hat with h | h
        · rcases atA with h2 | h2
          · exact hAB gA h2 (by rw [e]; exact h)
          · have := lB gB h
            omega
        · have h3 := (own_lt hrA4 (k := gA) rfl).2
          omega
      clear hrn hg hat hlt
      refine hK.out _ _ ⟨(hT5.cell (p := ⟨zb, 3, none⟩) hzl (fun h => h.elim hzA hzB)).trans zA, (hT5.cell (p := ⟨zb, 4, none⟩) hzl (fun h => h.elim hzA hzB)).trans zB⟩ (fun hHeld => ?_)
      clear hK K
      try simp only [Act.put, List.setIfInBounds_toArray, List.set_cons_zero, List.set_cons_succ]
      clear hNB
      refine RegU.rest [14, 15, 16, 17, 18, 19] [_, _, _, _, _, _] (by kernel_rfl) rfl ?_
      have q1 : w5.cell? ⟨zb, 3, none⟩ = some (Value.slice oaA n cA) := (hT5.cell (p := ⟨zb, 3, none⟩) hzl (fun h => h.elim hzA hzB)).trans zA
      have q2 : w5.cell? ⟨zb, 4, none⟩ = some (Value.slice oaB n cB) := (hT5.cell (p := ⟨zb, 4, none⟩) hzl (fun h => h.elim hzA hzB)).trans zB
      have q3 : ∀ i, w5.frozen? ⟨zb, i, none⟩ = false := fun i => (World.frozen?_of_block (a := ⟨zb, i, none⟩) (hT5.block _ hzl (fun h => h.elim hzA hzB))).trans (fz i)
      have hFin := Lib.hid (two_fin (iA := 3) (iB := 4) hT5 hrA5 hrB5 atA atB hne hzl hzA hzB)
      clear hHeld hT5 hrA5 hrB5 atA atB hne zA zB fz hzA hzB hAB lA lB
      go_wp2
      exact HQ.out _ _ _ _ _ _ _ _ _ _ _ _ _ _ _ _ _ _ _ _ _ _ _ hFin.out
    · go_simp
      have hT3 := hT2.alloc (.cells #[.bool true] 4 (0, 0))
      have hrA3 := hrA2.alloc (.cells #[.bool true] 4 (0, 0))
      have hrB3 := hrB2.alloc (.cells #[.bool true] 4 (0, 0))
      have hNB := heap_alloc_last w2 (.cells #[.bool true] 4 (0, 0))
      have hlB : w0.heap.size ≤ w2.heap.size := hT2.size
      replace hNA := (Below.heap_alloc w2 (.cells #[.bool true] 4 (0, 0)) _ (lt_of_block hNA)).trans hNA
      refine hK.out _ _ ⟨(hT3.cell (p := ⟨zb, 3, none⟩) hzl (fun h => h.elim hzA hzB)).trans zA, (hT3.cell (p := ⟨zb, 4, none⟩) hzl (fun h => h.elim hzA hzB)).trans zB⟩ (fun hHeld => ?_)
      clear hK K
      try simp only [Act.put, List.setIfInBounds_toArray, List.set_cons_zero, List.set_cons_succ]
      generalize w2.alloc (.cells #[.bool true] 4 (0, 0)) = w3 at *
      generalize w2.heap.size = bB at *
      refine RegU.one (i := 7) (by kernel_rfl) rfl (fun K hK => ?_)
      refine step_append_lies _ rfl _ _ 78 rfl B0 4 iA (.bool false) 1 1 Tryd.underlying78 hiA hA0 hA1 hA2 rfl (by decide) (Value.slice oaA n cA) n xsA rfl hrA3 ⟨bA, 0, none⟩ 1 1 [.bool true] rfl rfl ?c1 ?c2 (by decide) mA nA ?c5 _ rfl ?_
      case c1 => exact World.news_of_block (cs := #[.bool true]) (t := 4) (fr := (0, 0)) hNA
      case c2 =>
        intro u hu
        simp only [List.mem_cons, List.not_mem_nil, or_false] at hu
        subst hu; rfl
      case c5 => have := hT3.size; omega
      intro gA kA w4 hrn hg hat hlt
      have hz3 := hT3.size
      have hT4 := hT3.grown hg (fun j hj => .inl (.inl hj))
      have hrB4 := ownsRow_same hrB3 (fun j hj => hg.block j (by have := (own_lt hrB3 hj).2; omega) (fun e => hAB j e.symm hj))
      have hrA4 := hrn
      have atA : (Value.slice oaA n cA).ownBlock = some gA ∨ w0.heap.size ≤ gA := hat.imp id (fun e => by omega)
      have hgA := (own_lt hrA4 (k := gA) rfl).2
      have hNB := (hg.block bB (lt_of_block hNB) (fun e => by have := lA bB e.symm; omega)).trans hNB
      clear hrn hg hat hlt
      refine hK.out _ _ ⟨(hT4.cell (p := ⟨zb, 3, none⟩) hzl (fun h => h.elim hzA hzB)).trans zA, (hT4.cell (p := ⟨zb, 4, none⟩) hzl (fun h => h.elim hzA hzB)).trans zB⟩ (fun hHeld => ?_)
      clear hK K
      try simp only [Act.put, List.setIfInBounds_toArray, List.set_cons_zero, List.set_cons_succ]
      clear hNA
      refine RegU.one (i := 13) (by kernel_rfl) rfl (fun K hK => ?_)
      refine step_append_lies _ rfl _ _ 78 rfl B0 4 iB (.bool false) 1 1 Tryd.underlying78 hiB hB0 hB1 hB2 rfl (by decide) (Value.slice oaB n cB) n xsB rfl hrB4 ⟨bB, 0, none⟩ 1 1 [.bool true] rfl rfl ?c1 ?c2 (by decide) mB nB ?c5 _ rfl ?_
      case c1 => exact World.news_of_block (cs := #[.bool true]) (t := 4) (fr := (0, 0)) hNB
      case c2 =>
        intro u hu
        simp only [List.mem_cons, List.not_mem_nil, or_false] at hu
        subst hu; rfl
      case c5 => have := hT4.size; omega
      intro gB kB w5 hrn hg hat hlt
      have hz4 := hT4.size
      have hT5 := hT4.grown hg (fun j hj => .inl (.inr hj))
      have hrA5 := ownsRow_same hrA4 (fun j hj => hg.block j (own_lt hrA4 hj).2 (fun e => by
          have e1 : gA = j := Option.some.inj hj
          rcases atA with h | h
          · exact hAB gA h (by rw [e1]; exact e.symm)
          · have := lB j e.symm
            omega))
      have hrB5 := hrn
      have atB : (Value.slice oaB n cB).ownBlock = some gB ∨ w0.heap.size ≤ gB := hat.imp id (fun e => by omega)
      have hne : gA ≠ gB := fun e => by
        rcases hat with h | h
        · rcases atA with h2 | h2
          · exact hAB gA h2 (by rw [e]; exact h)
          · have := lB gB h
            omega
        · have h3 := (own_lt hrA4 (k := gA) rfl).2
          omega
      clear hrn hg hat hlt
      refine hK.out _ _ ⟨(hT5.cell (p := ⟨zb, 3, none⟩) hzl (fun h => h.elim hzA hzB)).trans zA, (hT5.cell (p := ⟨zb, 4, none⟩) hzl (fun h => h.elim hzA hzB)).trans zB⟩ (fun hHeld => ?_)
      clear hK K
      try simp only [Act.put, List.setIfInBounds_toArray, List.set_cons_zero, List.set_cons_succ]
      clear hNB
      refine RegU.rest [14, 15, 16, 17, 18, 19] [_, _, _, _, _, _] (by kernel_rfl) rfl ?_
      have q1 : w5.cell? ⟨zb, 3, none⟩ = some (Value.slice oaA n cA) := (hT5.cell (p := ⟨zb, 3, none⟩) hzl (fun h => h.elim hzA hzB)).trans zA
      have q2 : w5.cell? ⟨zb, 4, none⟩ = some (Value.slice oaB n cB) := (hT5.cell (p := ⟨zb, 4, none⟩) hzl (fun h => h.elim hzA hzB)).trans zB
      have q3 : ∀ i, w5.frozen? ⟨zb, i, none⟩ = false := fun i => (World.frozen?_of_block (a := ⟨zb, i, none⟩) (hT5.block _ hzl (fun h => h.elim hzA hzB))).trans (fz i)
      have hFin := Lib.hid (two_fin (iA := 3) (iB := 4) hT5 hrA5 hrB5 atA atB hne hzl hzA hzB)
      clear hHeld hT5 hrA5 hrB5 atA atB hne zA zB fz hzA hzB hAB lA lB
      go_wp2
      exact HQ.out _ _ _ _ _ _ _ _ _ _ _ _ _ _ _ _ _ _ _ _ _ _ _ hFin.out
  · go_simp
    have hT2 := hT1.alloc (.cells #[.bool true] 4 (0, 0))
    have hrA2 := hrA1.alloc (.cells #[.bool true] 4 (0, 0))
    have hrB2 := hrB1.alloc (.cells #[.bool true] 4 (0, 0))
    have hNB := heap_alloc_last w1 (.cells #[.bool true] 4 (0, 0))
    have hlB : w0.heap.size ≤ w1.heap.size := hT1.size
    refine hK.out _ _ ⟨(hT2.cell (p := ⟨zb, 3, none⟩) hzl (fun h => h.elim hzA hzB)).trans zA, (hT2.cell (p := ⟨zb, 4, none⟩) hzl (fun h => h.elim hzA hzB)).trans zB⟩ (fun hHeld => ?_)
    clear hK K
    try simp only [Act.put, List.setIfInBounds_toArray, List.set_cons_zero, List.set_cons_succ]
    generalize w1.alloc (.cells #[.bool true] 4 (0, 0)) = w2 at *
    generalize w1.heap.size = bB at *
    refine RegU.one (i := 6) (by kernel_rfl) rfl (fun K hK => ?_)
    go_simp
    have hT3 := hT2.alloc (.cells #[.bool true] 4 (0, 0))
    have hrA3 := hrA2.alloc (.cells #[.bool true] 4 (0, 0))
    have hrB3 := hrB2.alloc (.cells #[.bool true] 4 (0, 0))
    have hNA := heap_alloc_last w2 (.cells #[.bool true] 4 (0, 0))
    have hlA : w0.heap.size ≤ w2.heap.size := hT2.size
    replace hNB := (Below.heap_alloc w2 (.cells #[.bool true] 4 (0, 0)) _ (lt_of_block hNB)).trans hNB
    refine hK.out _ _ ⟨(hT3.cell (p := ⟨zb, 3, none⟩) hzl (fun h => h.elim hzA hzB)).trans zA, (hT3.cell (p := ⟨zb, 4, none⟩) hzl (fun h => h.elim hzA hzB)).trans zB⟩ (fun hHeld => ?_)
    clear hK K
    try simp only [Act.put, List.setIfInBounds_toArray, List.set_cons_zero, List.set_cons_succ]
    generalize w2.alloc (.cells #[.bool true] 4 (0, 0)) = w3 at *
    generalize w2.heap.size = bA at *
    refine RegU.one (i := 7) (by kernel_rfl) rfl (fun K hK => ?_)
    refine step_append_lies _ rfl _ _ 78 rfl B0 4 iA (.bool false) 1 1 Tryd.underlying78 hiA hA0 hA1 hA2 rfl (by decide) (Value.slice oaA n cA) n xsA rfl hrA3 ⟨bA, 0, none⟩ 1 1 [.bool true] rfl rfl ?c1 ?c2 (by decide) mA nA ?c5 _ rfl ?_
    case c1 => exact World.news_of_block (cs := #[.bool true]) (t := 4) (fr := (0, 0)) hNA
    case c2 =>
      intro u hu
      simp only [List.mem_cons, List.not_mem_nil, or_false] at hu
      subst hu; rfl
    case c5 => have := hT3.size; omega
    intro gA kA w4 hrn hg hat hlt
    have hz3 := hT3.size
    have hT4 := hT3.grown hg (fun j hj => .inl (.inl hj))
    have hrB4 := ownsRow_same hrB3 (fun j hj => hg.block j (by have := (own_lt hrB3 hj).2; omega) (fun e => hAB j e.symm hj))
    have hrA4 := hrn
    have atA : (Value.slice oaA n cA).ownBlock = some gA ∨ w0.heap.size ≤ gA := hat.imp id (fun e => by omega)
    have hgA := (own_lt hrA4 (k := gA) rfl).2
    have hNB := (hg.block bB (lt_of_block hNB) (fun e => by have := lA bB e.symm; omega)).trans hNB
    clear hrn hg hat hlt
    refine hK.out _ _ ⟨(hT4.cell (p := ⟨zb, 3, none⟩) hzl (fun h => h.elim hzA hzB)).trans zA, (hT4.cell (p := ⟨zb, 4, none⟩) hzl (fun h => h.elim hzA hzB)).trans zB⟩ (fun hHeld => ?_)
    clear hK K
    try simp only [Act.put, List.setIfInBounds_toArray, List.set_cons_zero, List.set_cons_succ]
    clear hNA
    refine RegU.one (i := 13) (by kernel_rfl) rfl (fun K hK => ?_)
    refine step_append_lies _ rfl _ _ 78 rfl B0 4 iB (.bool false) 1 1 Tryd.underlying78 hiB hB0 hB1 hB2 rfl (by decide) (Value.slice oaB n cB) n xsB rfl hrB4 ⟨bB, 0, none⟩ 1 1 [.bool true] rfl rfl ?c1 ?c2 (by decide) mB nB ?c5 _ rfl ?_
    case c1 => exact World.news_of_block (cs := #[.bool true]) (t := 4) (fr := (0, 0)) hNB
    case c2 =>
      intro u hu
      simp only [List.mem_cons, List.not_mem_nil, or_false] at hu
      subst hu; rfl
    case c5 => have := hT4.size; omega
    intro gB kB w5 hrn hg hat hlt
    have hz4 := hT4.size
    have hT5 := hT4.grown hg (fun j hj => .inl (.inr hj))
    have hrA5 := ownsRow_same hrA4 (fun j hj => hg.block j (own_lt hrA4 hj).2 (fun e => by
        have e1 : gA = j := Option.some.inj hj
        rcases atA with h | h
        · exact hAB gA h (by rw [e1]; exact e.symm)
        · have := lB j e.symm
          omega))
    have hrB5 := hrn
    have atB : (Value.slice oaB n cB).ownBlock = some gB ∨ w0.heap.size ≤ gB := hat.imp id (fun e => by omega)
    have hne : gA ≠ gB := fun e => by
      rcases hat with h | h
      · rcases atA with h2 | h2
        · exact hAB gA h2 (by rw [e]; exact h)
        · have := lB gB h
          omega
      · have h3 := (own_lt hrA4 (k := gA) rfl).2
        omega
    clear hrn hg hat hlt
    refine hK.out _ _ ⟨(hT5.cell (p := ⟨zb, 3, none⟩) hzl (fun h => h.elim hzA hzB)).trans zA, (hT5.cell (p := ⟨zb, 4, none⟩) hzl (fun h => h.elim hzA hzB)).trans zB⟩ (fun hHeld => ?_)
    clear hK K
    try simp only [Act.put, List.setIfInBounds_toArray, List.set_cons_zero, List.set_cons_succ]
    clear hNB
    refine RegU.rest [14, 15, 16, 17, 18, 19] [_, _, _, _, _, _] (by kernel_rfl) rfl ?_
    have q1 : w5.cell? ⟨zb, 3, none⟩ = some (Value.slice oaA n cA) := (hT5.cell (p := ⟨zb, 3, none⟩) hzl (fun h => h.elim hzA hzB)).trans zA
    have q2 : w5.cell? ⟨zb, 4, none⟩ = some (Value.slice oaB n cB) := (hT5.cell (p := ⟨zb, 4, none⟩) hzl (fun h => h.elim hzA hzB)).trans zB
    have q3 : ∀ i, w5.frozen? ⟨zb, i, none⟩ = false := fun i => (World.frozen?_of_block (a := ⟨zb, i, none⟩) (hT5.block _ hzl (fun h => h.elim hzA hzB))).trans (fz i)
    have hFin := Lib.hid (two_fin (iA := 3) (iB := 4) hT5 hrA5 hrB5 atA atB hne hzl hzA hzB)
    clear hHeld hT5 hrA5 hrB5 atA atB hne zA zB fz hzA hzB hAB lA lB
    go_wp2
    exact HQ.out _ _ _ _ _ _ _ _ _ _ _ _ _ _ _ _ _ _ _ _ _ _ _ hFin.out
end Go.Proofs.YthbkklnahhdgcaaDoor.PlQ
