/-
  Package heap's Major: what the memory holds behind it.
-/
import Derived.Test.YthbkklnahhdgcaaDoorPG10
import Derived.Deep.RegionHeld3
import Derived.Shelf.Slices.In.SortNone
import Derived.Shelf.Sort.Plain
import Derived.Ground.NamesProg
import Derived.Sort.OwnSortedInts
set_option maxRecDepth 100000
set_option maxHeartbeats 4000000
namespace Go.Proofs.YthbkklnahhdgcaaDoor.ChYd
open Go Go.Proofs Go.RowKit Go.Maps Go.Proofs.YthbkklnahhdgcaaDoor.Lib HeapR HeapA ChA ChB ChT ChCa ChCc ChCd ChD ChE ChF ChG ChH ChI ChJ ChK ChL ChM ChN ChO ChP ChQ ChR ChU ChV ChX ChYa ChYb ChYc

theorem major_write {Q : Exit → Act → World → Prop} {u1 u2 u3 u4 u6 u7 u8 u9 Ja Jb Jc Jd Je Jf Jg Jh Ji Jj Jk Jl Jm Jn Jo Jp Jq Jr Js Jt Ju Jv Jw Jx Jy Jz Qa Qb Qc Qd Qe Qf Qg Qh Qi Qj Qk Ql Qm Qn Qo Qp Qq Qr Qs Qt Qu Qv Qw Qx Qy Qz Xe Xg Xh Xi Xj Xk : Value} (hb kb wb : Nat) (HB : Array Value) (tv fv : Value) (w : World)
    (hB : w.heap[hb]? = some (.cells HB 98 (0, 0))) (hsz : HB.size = 10) (hk : w.heap[kb]? = some (kblk hb tv fv (.map (some wb)))) (htv : ∃ o n c, tv = .slice o n c) (d2 : kb ≠ hb)
    (hQ : ∀ (s41 s42 s43 s44 s45 s46 s47 s48 s49 s50 s51 s52 s53 s54 s55 s56 s57 s58 s59 s60 : Value) (w' : World), w'.heap[hb]? = some (.cells ((((HB.setIfInBounds 6 (.map (some wb))).setIfInBounds 1 tv).setIfInBounds 2 (.int .i64 0)).setIfInBounds 5 (.slice none 0 0)) 98 (0, 0)) → Turned (fun k => k = hb) w w' → Q .normal ⟨#[(.pointer (some ⟨hb,0,none⟩)),u1,u2,u3,u4,(.pointer (some ⟨kb,0,none⟩)),u6,u7,u8,u9,Ja,Jb,Jc,Jd,Je,Jf,Jg,Jh,Ji,Jj,Jk,Jl,Jm,Jn,Jo,Jp,Jq,Jr,Js,Jt,Ju,Jv,Jw,Jx,Jy,Jz,Qa,Qb,Qc,Qd,Qe,s41,s42,s43,s44,s45,s46,s47,s48,s49,s50,s51,s52,s53,s54,s55,s56,s57,s58,s59,s60,Qz,Xe,Xg,Xh,Xi,Xj,Xk], []⟩ w') :
    Code.wp Tryd.prog (Cut.piece Tryd.f94 (Cut.region 13)) Q ⟨#[(.pointer (some ⟨hb,0,none⟩)),u1,u2,u3,u4,(.pointer (some ⟨kb,0,none⟩)),u6,u7,u8,u9,Ja,Jb,Jc,Jd,Je,Jf,Jg,Jh,Ji,Jj,Jk,Jl,Jm,Jn,Jo,Jp,Jq,Jr,Js,Jt,Ju,Jv,Jw,Jx,Jy,Jz,Qa,Qb,Qc,Qd,Qe,Qf,Qg,Qh,Qi,Qj,Qk,Ql,Qm,Qn,Qo,Qp,Qq,Qr,Qs,Qt,Qu,Qv,Qw,Qx,Qy,Qz,Xe,Xg,Xh,Xi,Xj,Xk], []⟩ w := by
  obtain ⟨oo, nn, cc, rfl⟩ := htv
  have k1 : w.cell? ⟨kb, 1, none⟩ = some (.slice oo nn cc) := cell_of_block hk rfl
  have k3 : w.cell? ⟨kb, 3, none⟩ = some (.map (some wb)) := cell_of_block hk rfl
  obtain ⟨v1, hv1⟩ : ∃ v, HB[1]? = some v := ⟨_, Array.getElem?_eq_getElem (by omega)⟩
  obtain ⟨v2, hv2⟩ : ∃ v, HB[2]? = some v := ⟨_, Array.getElem?_eq_getElem (by omega)⟩
  obtain ⟨v5, hv5⟩ : ∃ v, HB[5]? = some v := ⟨_, Array.getElem?_eq_getElem (by omega)⟩
  obtain ⟨v6, hv6⟩ : ∃ v, HB[6]? = some v := ⟨_, Array.getElem?_eq_getElem (by omega)⟩
  have c1 : w.cell? ⟨hb, 1, none⟩ = some v1 := cell_of_block hB hv1
  have c2 : w.cell? ⟨hb, 2, none⟩ = some v2 := cell_of_block hB hv2
  have c5 : w.cell? ⟨hb, 5, none⟩ = some v5 := cell_of_block hB hv5
  have c6 : w.cell? ⟨hb, 6, none⟩ = some v6 := cell_of_block hB hv6
  have f1 : w.frozen? ⟨hb, 1, none⟩ = false := frozen_of_block hB
  have f2 : w.frozen? ⟨hb, 2, none⟩ = false := frozen_of_block hB
  have f5 : w.frozen? ⟨hb, 5, none⟩ = false := frozen_of_block hB
  have f6 : w.frozen? ⟨hb, 6, none⟩ = false := frozen_of_block hB
  have hw1 := blk_set (i := 5) (blk_set (i := 2) (blk_set (i := 1) (blk_set (i := 6) hB (.map (some wb))) (.slice oo nn cc)) (.int .i64 0)) (.slice none 0 0)
  have hT : Turned (fun k => k = hb) w ((((w.setCell ⟨hb, 6, none⟩ (.map (some wb))).setCell ⟨hb, 1, none⟩ (.slice oo nn cc)).setCell ⟨hb, 2, none⟩ (.int .i64 0)).setCell ⟨hb, 5, none⟩ (.slice none 0 0)) := ((((Turned.refl (fun k => k = hb) w).setCell (p := ⟨hb, 6, none⟩) (Or.inl rfl) _).setCell (p := ⟨hb, 1, none⟩) (Or.inl rfl) _).setCell (p := ⟨hb, 2, none⟩) (Or.inl rfl) _).setCell (p := ⟨hb, 5, none⟩) (Or.inl rfl) _
  clear hv1 hv2 hv5 hv6 hB hk hsz
  have n2 : (⟨kb, 1, none⟩ : Addr).block ≠ hb := d2
  have n3 : (⟨kb, 3, none⟩ : Addr).block ≠ hb := d2
  conv => arg 2; whnf
  refine wp_region_noPanic ?_
  refine RegT.begin (S := fun wz => wz.cell? ⟨kb, 1, none⟩ = some (.slice oo nn cc) ∧ wz.cell? ⟨kb, 3, none⟩ = some (.map (some wb))) (L := 23) (by kernel_rfl) ⟨k1, k3⟩ (fun hHeld => ?_)
  refine RegT.take (i := 0) (v := ?_) rfl (by kernel_rfl) (by kernel_rfl) (by kernel_rfl) (by kernel_rfl) (fun _ _ _ h => h) (Or.inl ⟨by rfl, ?_⟩) (by assumption) ?_
  rotate_left
  · intro w hSw; (try dsimp only at hSw); go_simp; first | done | with_reducible rfl
  try simp only [Act.put, List.setIfInBounds_toArray, List.set_cons_zero, List.set_cons_succ]
  refine RegT.take (i := 1) (v := ?_) rfl (by kernel_rfl) (by kernel_rfl) (by kernel_rfl) (by kernel_rfl) (fun _ _ _ h => h) (Or.inl ⟨by rfl, ?_⟩) (by assumption) ?_
  rotate_left
  · intro w hSw; (try dsimp only at hSw); go_simp; first | done | with_reducible rfl
  try simp only [Act.put, List.setIfInBounds_toArray, List.set_cons_zero, List.set_cons_succ]
  refine RegT.take (i := 2) (v := ?_) rfl (by kernel_rfl) (by kernel_rfl) (by kernel_rfl) (by kernel_rfl) (fun _ _ _ h => h) (Or.inl ⟨by rfl, ?_⟩) (by assumption) ?_
  rotate_left
  · intro w hSw; (try dsimp only at hSw); go_simp; first | done | with_reducible rfl
  try simp only [Act.put, List.setIfInBounds_toArray, List.set_cons_zero, List.set_cons_succ]
  refine RegT.take (i := 3) (v := ?_) rfl (by kernel_rfl) (by kernel_rfl) (by kernel_rfl) (by kernel_rfl) (fun _ _ _ h => h) (Or.inl ⟨by rfl, ?_⟩) (by assumption) ?_
  rotate_left
  · intro w hSw; (try dsimp only at hSw); go_simp; first | done | with_reducible rfl
  try simp only [Act.put, List.setIfInBounds_toArray, List.set_cons_zero, List.set_cons_succ]
  refine RegT.take (i := 4) (v := ?_) rfl (by kernel_rfl) (by kernel_rfl) (by kernel_rfl) (by kernel_rfl) (fun _ _ _ h => h) (Or.inl ⟨by rfl, ?_⟩) (by assumption) ?_
  rotate_left
  · intro w hSw; (try dsimp only at hSw); go_simp; first | done | with_reducible rfl
  try simp only [Act.put, List.setIfInBounds_toArray, List.set_cons_zero, List.set_cons_succ]
  refine RegT.take (i := 5) (v := ?_) rfl (by kernel_rfl) (by kernel_rfl) (by kernel_rfl) (by kernel_rfl) (fun _ _ _ h => h) (Or.inl ⟨by rfl, ?_⟩) (by assumption) ?_
  rotate_left
  · intro w hSw; (try dsimp only at hSw); go_simp; first | done | with_reducible rfl
  try simp only [Act.put, List.setIfInBounds_toArray, List.set_cons_zero, List.set_cons_succ]
  refine RegT.take (i := 6) (v := ?_) rfl (by kernel_rfl) (by kernel_rfl) (by kernel_rfl) (by kernel_rfl) (fun _ _ _ h => h) (Or.inl ⟨by rfl, ?_⟩) (by assumption) ?_
  rotate_left
  · intro w hSw; (try dsimp only at hSw); go_simp; first | done | with_reducible rfl
  try simp only [Act.put, List.setIfInBounds_toArray, List.set_cons_zero, List.set_cons_succ]
  refine RegT.take (i := 7) (v := ?_) rfl (by kernel_rfl) (by kernel_rfl) (by kernel_rfl) (by kernel_rfl) (fun _ _ _ h => h) (Or.inl ⟨by rfl, ?_⟩) (by assumption) ?_
  rotate_left
  · intro w hSw; (try dsimp only at hSw); go_simp; first | done | with_reducible rfl
  try simp only [Act.put, List.setIfInBounds_toArray, List.set_cons_zero, List.set_cons_succ]
  refine RegT.take (i := 8) (v := ?_) rfl (by kernel_rfl) (by kernel_rfl) (by kernel_rfl) (by kernel_rfl) (fun _ _ _ h => h) (Or.inl ⟨by rfl, ?_⟩) (by assumption) ?_
  rotate_left
  · intro w hSw; (try dsimp only at hSw); go_simp; first | done | with_reducible rfl
  try simp only [Act.put, List.setIfInBounds_toArray, List.set_cons_zero, List.set_cons_succ]
  refine RegT.take (i := 9) (v := ?_) rfl (by kernel_rfl) (by kernel_rfl) (by kernel_rfl) (by kernel_rfl) (fun _ _ _ h => h) (Or.inl ⟨by rfl, ?_⟩) (by assumption) ?_
  rotate_left
  · intro w hSw; (try dsimp only at hSw); go_simp; first | done | with_reducible rfl
  try simp only [Act.put, List.setIfInBounds_toArray, List.set_cons_zero, List.set_cons_succ]
  refine RegT.take (i := 10) (v := ?_) rfl (by kernel_rfl) (by kernel_rfl) (by kernel_rfl) (by kernel_rfl) (fun _ _ _ h => h) (Or.inl ⟨by rfl, ?_⟩) (by assumption) ?_
  rotate_left
  · intro w hSw; (try dsimp only at hSw); go_simp; first | done | with_reducible rfl
  try simp only [Act.put, List.setIfInBounds_toArray, List.set_cons_zero, List.set_cons_succ]
  refine RegT.take (i := 11) (v := ?_) rfl (by kernel_rfl) (by kernel_rfl) (by kernel_rfl) (by kernel_rfl) (fun _ _ _ h => h) (Or.inl ⟨by rfl, ?_⟩) (by assumption) ?_
  rotate_left
  · intro w hSw; (try dsimp only at hSw); go_simp; first | done | with_reducible rfl
  try simp only [Act.put, List.setIfInBounds_toArray, List.set_cons_zero, List.set_cons_succ]
  refine RegT.take (i := 12) (v := ?_) rfl (by kernel_rfl) (by kernel_rfl) (by kernel_rfl) (by kernel_rfl) (fun _ _ _ h => h) (Or.inl ⟨by rfl, ?_⟩) (by assumption) ?_
  rotate_left
  · intro w hSw; (try dsimp only at hSw); go_simp; first | done | with_reducible rfl
  try simp only [Act.put, List.setIfInBounds_toArray, List.set_cons_zero, List.set_cons_succ]
  refine RegT.take (i := 13) (v := ?_) rfl (by kernel_rfl) (by kernel_rfl) (by kernel_rfl) (by kernel_rfl) (fun _ _ _ h => h) (Or.inl ⟨by rfl, ?_⟩) (by assumption) ?_
  rotate_left
  · intro w hSw; (try dsimp only at hSw); go_simp; first | done | with_reducible rfl
  try simp only [Act.put, List.setIfInBounds_toArray, List.set_cons_zero, List.set_cons_succ]
  refine RegT.one (i := 14) (by kernel_rfl) rfl (fun K hK => ?_)
  go_simp
  refine hK.out _ _ ?_ (fun hHeld => ?_)
  · exact ⟨(cell_set_out n2).trans hHeld.1, (cell_set_out n3).trans hHeld.2⟩
  clear hK K
  try simp only [Act.put, List.setIfInBounds_toArray, List.set_cons_zero, List.set_cons_succ]
  refine RegT.one (i := 15) (by kernel_rfl) rfl (fun K hK => ?_)
  go_simp
  refine hK.out _ _ (by assumption) (fun hHeld => ?_)
  clear hK K
  try simp only [Act.put, List.setIfInBounds_toArray, List.set_cons_zero, List.set_cons_succ]
  refine RegT.one (i := 16) (by kernel_rfl) rfl (fun K hK => ?_)
  go_simp
  refine hK.out _ _ (by assumption) (fun hHeld => ?_)
  clear hK K
  try simp only [Act.put, List.setIfInBounds_toArray, List.set_cons_zero, List.set_cons_succ]
  refine RegT.one (i := 17) (by kernel_rfl) rfl (fun K hK => ?_)
  go_simp
  refine hK.out _ _ ?_ (fun hHeld => ?_)
  · exact ⟨(cell_set_out n2).trans hHeld.1, (cell_set_out n3).trans hHeld.2⟩
  clear hK K
  try simp only [Act.put, List.setIfInBounds_toArray, List.set_cons_zero, List.set_cons_succ]
  refine RegT.one (i := 18) (by kernel_rfl) rfl (fun K hK => ?_)
  go_simp
  refine hK.out _ _ (by assumption) (fun hHeld => ?_)
  clear hK K
  try simp only [Act.put, List.setIfInBounds_toArray, List.set_cons_zero, List.set_cons_succ]
  refine RegT.one (i := 19) (by kernel_rfl) rfl (fun K hK => ?_)
  go_simp
  refine hK.out _ _ (by assumption) (fun hHeld => ?_)
  clear hK K
  try simp only [Act.put, List.setIfInBounds_toArray, List.set_cons_zero, List.set_cons_succ]
  refine RegT.one (i := 20) (by kernel_rfl) rfl (fun K hK => ?_)
  go_simp
  refine hK.out _ _ ?_ (fun hHeld => ?_)
  · exact ⟨(cell_set_out n2).trans hHeld.1, (cell_set_out n3).trans hHeld.2⟩
  clear hK K
  try simp only [Act.put, List.setIfInBounds_toArray, List.set_cons_zero, List.set_cons_succ]
  refine RegT.one (i := 21) (by kernel_rfl) rfl (fun K hK => ?_)
  go_simp
  refine hK.out _ _ (by assumption) (fun hHeld => ?_)
  clear hK K
  try simp only [Act.put, List.setIfInBounds_toArray, List.set_cons_zero, List.set_cons_succ]
  refine RegT.one (i := 22) (by kernel_rfl) rfl (fun K hK => ?_)
  go_simp
  refine hK.out _ _ (by assumption) (fun hHeld => ?_)
  clear hK K
  try simp only [Act.put, List.setIfInBounds_toArray, List.set_cons_zero, List.set_cons_succ]
  refine RegT.last (by kernel_rfl) rfl (by kernel_rfl) (fun K hK => ?_)
  go_simp
  refine hK.out _ _ ?_
  clear hK K
  try simp only [Act.put, List.setIfInBounds_toArray, List.set_cons_zero, List.set_cons_succ]
  exact hQ _ _ _ _ _ _ _ _ _ _ _ _ _ _ _ _ _ _ _ _ _ hw1 hT.drew
end Go.Proofs.YthbkklnahhdgcaaDoor.ChYd

namespace Go.Proofs.YthbkklnahhdgcaaDoor.ChYe
open Go Go.Proofs Go.RowKit Go.Maps Go.Proofs.YthbkklnahhdgcaaDoor.Lib HeapR HeapA ChA ChB ChT ChCa ChCc ChCd ChD ChE ChF ChG ChH ChI ChJ ChK ChL ChM ChN ChO ChP ChQ ChR ChU ChV ChX ChYa ChYb ChYc ChYd

/-- What the memory holds behind Major. -/
def MajorRaw (w : World) (hb nb mb : Nat) (ov rv : Value) (B : Nat) (H : HS) (nu ol : List Ob) (rs : List (Nat × Nat)) (f : Nat × Nat → Vl) (w' : World) : Prop :=
  ∃ (z : Nat) (p : Par) (tv : Value) (K : List Ob) (P : Nat → Bool) (wS : World), w.heap.size ≤ z ∧ p = majPar z hb nb mb ov rv B H nu ol (rootSrc rs f) (rowDesc w) ∧ CR p wS tv K P ∧ Done p P K (total K) ∧
    (∀ a ∈ rs, (f a).k = 4 → has K (f a).n.toNat) ∧ Roots p wS tv rs (fun a => fixV p K (f a)) ∧ Turned (fun k => k = nb ∨ ov.ownBlock = some k ∨ ∃ a ∈ rs, a.1 = k) w wS ∧ (∀ k, tv.ownBlock = some k → w.heap.size ≤ k) ∧
    Turned (fun k => k = hb) wS w' ∧ w'.heap[hb]? = some (.cells (((((hblock nb mb ov rv H).setIfInBounds 6 (.map (some z))).setIfInBounds 1 tv).setIfInBounds 2 (.int .i64 0)).setIfInBounds 5 (.slice none 0 0) |>.setIfInBounds 9 (.int .i64 ((H.majors : Int) + 1))) 98 (0, 0))

theorem major_raw {w : World} {hb nb mb : Nat} {ov rv : Value} {B : Nat} {H : HS} {nu ol : List Ob} (h : HR w hb nb mb ov rv B H) (hi : HI H nu ol) {v : Value} {rs : List (Nat × Nat)} {f : Nat × Nat → Vl} (hr : RootsAt w (Owns hb nb mb ov rv) v rs f) (hroot : ∀ a ∈ rs, (f a).k = 4 → ∃ x ∈ nu ++ ol, (f a).n = (x.addr : Int))
    (hnx : H.next ≤ big) (hmj : H.majors < big) :
    Calls Tryd.prog 94 #[.pointer (some ⟨hb, 0, none⟩), v] w fun e w' => ∃ S, S.Nodup ∧ (∀ o, o ∈ S ↔ Reached (nu ++ ol) (rootSrc rs f) o) ∧
      ((H.most < total S ∧ e = .returned (.iface 35 (.int .i64 12)) ∧ Below w.heap.size w w') ∨ (total S ≤ H.most ∧ e = .returned .nilIface ∧ MajorRaw w hb nb mb ov rv B H nu ol rs f w')) := by
  have hbl := h.lt (.inl rfl)
  have c4 := h.c4
  have hrd : RootsAt w.drew (Owns hb nb mb ov rv) v rs f := ⟨hr.cell, hr.out, hr.blk, hr.apart, hr.len, hr.list⟩
  obtain ⟨oa, rb, ro, c, hvv, hre⟩ := hr.list
  subst hvv
  have hlive := live_any (w := w.drew) (h.same (fun _ _ => rfl)) hi hrd hroot
  go_enter Tryd.func94, Tryd.ntmps94
  go_wp2_with fail
  go_region_held3 (fun wz => wz.cell? ⟨hb, 4, none⟩ = some (.int .i64 (H.most : Int))) (go_keep) ((go_at_call 113; refine hlive.mono ?_; rintro e w2 ⟨S, rfl, hb2, hS1, hS2⟩; have k2 : w2.cell? ⟨hb, 4, none⟩ = some (.int .i64 (H.most : Int)) := (hb2.cell (p := ⟨hb, 4, none⟩) hbl).trans c4))
  have hbw : Below w.heap.size w w2 := ⟨hb2.os, hb2.tape, hb2.output, hb2.size, hb2.block⟩
  clear hlive hrd hb2 k2
  by_cases hS : total S ≤ H.most
  · have hSd : decide (H.most < total S) = false := by
      simp only [decide_eq_false_iff_not]
      omega
    have hmm := @run_makeMap Tryd.prog
    have hzw := hbw.size
    have hbwa : Below w.heap.size w (((w2.alloc (.map #[] 0)).alloc (kblk hb (.slice none 0 0) (.func (Fn.func 114) #[] #[]) (.map (some w2.heap.size)))).alloc (.map #[] 0)) := ((hbw.alloc hzw _).alloc (by simp; omega) _).alloc (by simp; omega) _
    have hka : (((w2.alloc (.map #[] 0)).alloc (kblk hb (.slice none 0 0) (.func (Fn.func 114) #[] #[]) (.map (some w2.heap.size)))).alloc (.map #[] 0)).heap[w2.heap.size + 1]? = some (kblk hb (.slice none 0 0) (.func (Fn.func 114) #[] #[]) (.map (some w2.heap.size))) := by
      rw [Below.heap_alloc _ _ _ (by simp)]
      exact heap_alloc_at (by simp) _
    have hma : (((w2.alloc (.map #[] 0)).alloc (kblk hb (.slice none 0 0) (.func (Fn.func 114) #[] #[]) (.map (some w2.heap.size)))).alloc (.map #[] 0)).ownsMap Tryd.prog 3 (plainElem Tryd.prog 3) w2.heap.size 0 (.map [] : DataW Unit) := ((World.ownsMap_made w2 Tryd.prog 3 (plainElem Tryd.prog 3)).alloc _).alloc _
    have hsa : PSet (((w2.alloc (.map #[] 0)).alloc (kblk hb (.slice none 0 0) (.func (Fn.func 114) #[] #[]) (.map (some w2.heap.size)))).alloc (.map #[] 0)) (w2.heap.size + 2) [] := by
      have h1 := pset_made ((w2.alloc (.map #[] 0)).alloc (kblk hb (.slice none 0 0) (.func (Fn.func 114) #[] #[]) (.map (some w2.heap.size))))
      have e : ((w2.alloc (.map #[] 0)).alloc (kblk hb (.slice none 0 0) (.func (Fn.func 114) #[] #[]) (.map (some w2.heap.size)))).heap.size = w2.heap.size + 2 := by simp
      rw [e] at h1
      exact h1
    have HBW := Lib.hid hbw
    have HS2 := Lib.hid hS2
    have HRE := Lib.hid hre
    have HROOT := Lib.hid hroot
    clear hS2 hre hroot hbw
    go_wp2
    generalize hw3 : ((w2.alloc (.map #[] 0)).alloc (Obj.cells #[.pointer (some ⟨hb, 0, none⟩), .slice none 0 0, .func (Fn.func 114) #[] #[], .map (some w2.heap.size)] 238 (0, 0))).alloc (.map #[] 0) = w3
    have hbwa' : Below w.heap.size w w3 := by rw [← hw3]; exact hbwa
    have hka' : w3.heap[w2.heap.size + 1]? = some (kblk hb (.slice none 0 0) (.func (Fn.func 114) #[] #[]) (.map (some w2.heap.size))) := by rw [← hw3]; exact hka
    have hma' : w3.ownsMap Tryd.prog 3 (plainElem Tryd.prog 3) w2.heap.size 0 (.map [] : DataW Unit) := by rw [← hw3]; exact hma
    have hsa' : PSet w3 (w2.heap.size + 1 + 1) [] := by rw [← hw3]; exact hsa
    clear hw3 hbwa hka hma hsa hmm
    obtain ⟨z, hz⟩ : ∃ z, z = w2.heap.size := ⟨_, rfl⟩
    rw [← hz] at hka' hma' hsa' hzw ⊢
    obtain ⟨sb, hsbz⟩ : ∃ sb, sb = z + 1 + 1 := ⟨_, rfl⟩
    rw [← hsbz] at hsa' ⊢
    have hp := majPar_ok (src := rootSrc rs f) (ro := rowDesc w) h hi (by have := big_lt; omega) hzw
    have hC := majPar_start (src := rootSrc rs f) (ro := rowDesc w) h hi hzw hka' hma' hbwa'
    have hbw3 := hbwa'.size
    have hH0 : Half (majPar z hb nb mb ov rv B H nu ol (rootSrc rs f) (rowDesc w)) (.slice none 0 0) w3 [] (fun _ => false) rs f 0 w3 (.slice none 0 0) [] := by
      refine ⟨Nat.zero_le _, hC, ⟨fun a ha => ?_, fun a ha => maj_own hzw h hi (World.block_lt_of_cell? w _ (hr.cell a ha).1) (hr.out a ha), fun a ha => ?_, fun a ha c t e => by
        obtain ⟨c', t', e'⟩ := hr.blk a ha
        exact ⟨_, rowDesc_of ((hbwa'.block a.1 (lt_of_block e')).symm.trans e), rfl, fun _ _ => rfl⟩⟩, fun a ha => (by rw [List.take_zero] at ha; cases ha), GrewR.refl _ _ _ _⟩
      · rw [List.take_zero, if_neg List.not_mem_nil]
        obtain ⟨q0, q1, q2, q3⟩ := hr.cell a ha
        have hbb := hbwa'.block a.1 (World.block_lt_of_cell? w _ q0)
        exact ⟨(World.cell?_of_block (a := ⟨a.1, a.2, none⟩) hbb).trans q0, (World.cell?_of_block (a := ⟨a.1, a.2 + 1, none⟩) hbb).trans q1, (World.cell?_of_block (a := ⟨a.1, a.2 + 2, none⟩) hbb).trans q2, (World.frozen?_of_block (a := ⟨a.1, a.2 + 1, none⟩) hbb).trans q3⟩
      · obtain ⟨c', t', e⟩ := hr.blk a ha
        exact ⟨c', t', (hbwa'.block a.1 (lt_of_block e)).trans e⟩
    have hre3 : ∀ (i : Nat) (a : Nat × Nat), rs[i]? = some a → oa = some ⟨rb, ro, none⟩ ∧ w3.cell? ⟨rb, ro + i, none⟩ = some (.pointer (some ⟨a.1, a.2, none⟩)) ∧ ¬ Tset (majPar z hb nb mb ov rv B H nu ol (rootSrc rs f) (rowDesc w)) (.slice none 0 0) rb ∧ (∀ b ∈ rs, b.1 ≠ rb) ∧ rb ≠ sb := fun i a hia => by
      obtain ⟨q1, q2, q3, q4⟩ := HRE.out i a hia
      have hl : rb < w.heap.size := World.block_lt_of_cell? w _ q2
      exact ⟨q1, (hbwa'.cell (p := ⟨rb, ro + i, none⟩) hl).trans q2, fun h' => maj_own hzw h hi hl q3 (tset_own h'), q4, by omega⟩
    have hlead : ∀ a ∈ rs, (f a).k = 4 → (majPar z hb nb mb ov rv B H nu ol (rootSrc rs f) (rowDesc w)).from_ (f a).n = true → ∃ o, Leads (majPar z hb nb mb ov rv B H nu ol (rootSrc rs f) (rowDesc w)) o ∧ (f a).n = (o.addr : Int) := fun a ha h1 _ => by
      obtain ⟨x, hx, e⟩ := HROOT.out a ha h1
      exact ⟨x, Leads.src hx ⟨a, ha, h1, e⟩, e⟩
    have hsbs : sb ≠ (majPar z hb nb mb ov rv B H nu ol (rootSrc rs f) (rowDesc w)).kb ∧ sb ≠ (majPar z hb nb mb ov rv B H nu ol (rootSrc rs f) (rowDesc w)).hb ∧ sb ≠ (majPar z hb nb mb ov rv B H nu ol (rootSrc rs f) (rowDesc w)).hv ∧ sb ≠ (majPar z hb nb mb ov rv B H nu ol (rootSrc rs f) (rowDesc w)).wb ∧ sb ≠ (majPar z hb nb mb ov rv B H nu ol (rootSrc rs f) (rowDesc w)).nb ∧ (∀ o ∈ (majPar z hb nb mb ov rv B H nu ol (rootSrc rs f) (rowDesc w)).O, ((majPar z hb nb mb ov rv B H nu ol (rootSrc rs f) (rowDesc w)).pl o.addr).1 ≠ sb) := by
      have hnl := h.lt (.inr (.inl rfl))
      refine ⟨(by show sb ≠ z + 1; omega), (by show sb ≠ hb; omega), (by show sb ≠ hb; omega), (by show sb ≠ z; omega), (by show sb ≠ nb; omega), fun o ho => ?_⟩
      rcases List.mem_append.mp (show o ∈ nu ++ ol from ho) with ho | ho
      · rw [pl_nu hi ho]
        show nb ≠ sb
        omega
      · rw [pl_ol hi ho]
        have h1 := h.lt (.inr (.inr (.inr (.inl (own_old h hi ho)))))
        show ov.ownBlock.getD 0 ≠ sb
        omega
    have hrsb : ∀ b ∈ rs, b.1 ≠ sb := fun b hb => by
      have h1 : b.1 < w.heap.size := World.block_lt_of_cell? w _ (hr.cell b hb).1
      omega
    have h0 : RelRM (majPar z hb nb mb ov rv B H nu ol (rootSrc rs f) (rowDesc w)) (.slice none 0 0) w3 (sb) (fun _ => false) rs f 0 w3 := ⟨.slice none 0 0, [], [], hH0, hsa', fun b => by rw [List.take_zero], GrewR.refl _ _ _ _⟩
    have E1 : (majPar z hb nb mb ov rv B H nu ol (rootSrc rs f) (rowDesc w)).kb = z + 1 := rfl
    rw [← E1]
    have Hz := Lib.hid hz
    have Hsbz := Lib.hid hsbz
    clear E1 hz hsbz hka' hma' hsa' hC hH0
    obtain ⟨p, hpp⟩ : ∃ p, p = majPar z hb nb mb ov rv B H nu ol (rootSrc rs f) (rowDesc w) := ⟨_, rfl⟩
    rw [← hpp] at hp hre3 hlead hsbs h0 ⊢
    have HP := Lib.hid hpp
    clear hpp
    refine major_roots hp _ _ _ _ _ _ _ _ _ _ _ _ _ _ _ _ _ _ _ _ _ _ _ _ _ _ _ _ _ _ _ _ _ _ _ _ _ _ _ _ _ _ _ _ _ _ _ _ _ _ _ _ _ _ _ _ _ _ _ _ _ _ _ oa rb ro c (.slice none 0 0) w3 (sb) (fun _ => false) rs f h0 hr.apart hr.len hre3 hlead hsbs hrsb ?_
    intro s8 s26 s27 s28 s29 s30 s31 s32 s33 s34 s35 s36 s37 s38 w4 hR4
    obtain ⟨tv4, K4, l4, hH4, hS4, hl4, hG4⟩ := hR4
    have hC4 := hH4.cr
    rw [List.nil_append] at hC4
    have e3 : p.hb = hb := by rw [HP.out]; rfl
    have e4 : p.base = [] := by rw [HP.out]; rfl
    have hscan := scan_any hp hC4 (fun j _ => rfl)
    rw [e4] at hscan
    have hscan' : Calls Tryd.prog 111 #[.pointer (some ⟨p.kb, 0, none⟩), .int .i64 0] w4 fun e w' => e = .returned (.tuple #[]) ∧ Scanned p tv4 w4 K4 (fun _ => false) w' := hscan
    have HE3 := Lib.hid e3
    have HE4 := Lib.hid e4
    clear hscan e3 e4
    go_wp2_with fail
    refine hscan'.mono ?_
    rintro e w6 ⟨rfl, tv6, K6, P6, hC6, hD6, hB6, hG6⟩
    clear hscan'
    have hTS : Turned (fun k => k = nb ∨ ov.ownBlock = some k ∨ ∃ a ∈ rs, a.1 = k) w w6 := by
      have h1 : GrewR p (extra rs sb) tv4 w4 tv6 w6 := GrewR.of _ hG6
      have h2 := hG4.trans h1
      have hz1 : z ≤ w3.heap.size := by
        rw [Hz.out]
        have := hbw3
        have h5 := hH4.cr
        exact Nat.le_of_lt (by
          have h6 := h0.choose_spec.choose_spec.choose_spec.1.cr.map.lt
          rw [HP.out] at h6
          have h7 : z < w3.heap.size := h6
          rw [← Hz.out]
          exact h7)
      refine ⟨h2.1.os.trans hbwa'.os, h2.1.tape.trans hbwa'.tape, h2.1.output.trans hbwa'.output, Nat.le_trans hbw3 h2.1.size, fun k hk hs => (h2.1.block k (by omega) (fun h' => ?_)).trans (hbwa'.block k hk)⟩
      rw [HP.out] at h'
      rcases h' with (h' | h' | h' | ⟨o, ho, h'⟩) | h' | h'
      · have h3 : k = z + 1 := h'
        omega
      · have h3 : k = z := h'
        omega
      · simp [Value.ownBlock] at h'
      · rcases List.mem_append.mp (show o ∈ nu ++ ol from ho) with ho | ho
        · rw [pl_nu hi ho] at h'
          exact hs (Or.inl h'.symm)
        · rw [pl_ol hi ho] at h'
          exact hs (Or.inr (Or.inl ((own_old h hi ho).trans (congrArg some h'))))
      · exact hs (Or.inr (Or.inr h'))
      · have h3 := Hsbz.out
        omega
    have hown6 : ∀ k, tv6.ownBlock = some k → w.heap.size ≤ k := fun k hk => by
      have h1 : GrewR p (extra rs sb) tv4 w4 tv6 w6 := GrewR.of _ hG6
      rcases (hG4.trans h1).2 k hk with h2 | h2
      · simp [Value.ownBlock] at h2
      · exact Nat.le_trans hbw3 h2
    have hhas6 : ∀ a ∈ rs, (f a).k = 4 → has (K4 ++ K6) (f a).n.toNat := fun a ha g1 => by
      have := hH4.has_ a (by rw [List.take_length]; exact ha) g1 (by rw [HP.out]; rfl)
      rw [List.nil_append] at this
      exact has_append.mpr (Or.inl this)
    have hRo6 : Roots p w6 tv6 rs (fun a => fixV p (K4 ++ K6) (f a)) := by
      have hRo4 : Roots p w4 tv4 rs (fun a => fixV p K4 (f a)) := hH4.roots.congr (fun a ha => by
        rw [List.take_length, if_pos ha, List.nil_append])
      refine ⟨fun a ha => ?_, fun a ha h' => ?_, fun a ha => ?_, fun a ha c t e => hRo4.kept a ha c t ((hG6.1.block a.1 (World.block_lt_of_cell? w4 _ (hRo4.cell a ha).1) (fun h' => hRo4.out a ha (tset_own h'))).symm.trans e)⟩
      · have hb6 := hG6.1.block a.1 (World.block_lt_of_cell? w4 _ (hRo4.cell a ha).1) (fun h' => hRo4.out a ha (tset_own h'))
        have hfx : fixV p (K4 ++ K6) (f a) = fixV p K4 (f a) := fixV_grow (fun g1 g2 => by
          have := hH4.has_ a (by rw [List.take_length]; exact ha) g1 g2
          rwa [List.nil_append] at this)
        rw [hfx]
        obtain ⟨q0, q1, q2, q3⟩ := hRo4.cell a ha
        exact ⟨(World.cell?_of_block (a := ⟨a.1, a.2, none⟩) hb6).trans q0, (World.cell?_of_block (a := ⟨a.1, a.2 + 1, none⟩) hb6).trans q1, (World.cell?_of_block (a := ⟨a.1, a.2 + 2, none⟩) hb6).trans q2, (World.frozen?_of_block (a := ⟨a.1, a.2 + 1, none⟩) hb6).trans q3⟩
      · have hnb := hRo4.out a ha
        have hal := World.block_lt_of_cell? w4 _ (hRo4.cell a ha).1
        rcases h' with h' | h' | h' | h' | h' | h' | h'
        · exact hnb (.inl h')
        · exact hnb (.inr (.inl h'))
        · exact hnb (.inr (.inr (.inl h')))
        · exact hnb (.inr (.inr (.inr (.inl h'))))
        · rcases hG6.2 _ h' with h2 | h2
          · exact hnb (.inr (.inr (.inr (.inr (.inl h2)))))
          · exact absurd hal (Nat.not_lt.mpr h2)
        · exact hnb (.inr (.inr (.inr (.inr (.inr (.inl h'))))))
        · exact hnb (.inr (.inr (.inr (.inr (.inr (.inr h'))))))
      · obtain ⟨c', t', e⟩ := hRo4.blk a ha
        exact ⟨c', t', (hG6.1.block a.1 (lt_of_block e) (fun h' => hRo4.out a ha (tset_own h'))).trans e⟩
    have hb6 : w6.heap[hb]? = some (.cells (hblock nb mb ov rv H) 98 (0, 0)) := by
      have h1 := hC6.hblk
      rw [HP.out] at h1
      exact h1
    have hkk : w6.heap[p.kb]? = some (kblk hb tv6 p.fn (.map (some z))) := by
      have h1 := hC6.kblk
      rw [HE3.out] at h1
      have e7 : p.wb = z := by rw [HP.out]; rfl
      rw [e7] at h1
      exact h1
    have hkh : p.kb ≠ hb := by rw [← HE3.out]; exact hp.kh
    have hTv := own_slice hC6.row
    have A1 := Lib.hid hown6
    have A2 := Lib.hid hhas6
    have A3 := Lib.hid hD6
    have A4 := Lib.hid hB6
    clear hown6 hhas6 hD6 hB6
    go_wp2_with fail
    refine major_write hb p.kb z (hblock nb mb ov rv H) tv6 p.fn w6 hb6 rfl hkk ⟨hTv.choose, _, hTv.choose_spec.choose, hTv.choose_spec.choose_spec⟩ hkh ?_
    intro s41 s42 s43 s44 s45 s46 s47 s48 s49 s50 s51 s52 s53 s54 s55 s56 s57 s58 s59 s60 w10 hb10 hT10
    have c910 : w10.cell? ⟨hb, 9, none⟩ = some (.int .i64 (H.majors : Int)) := cell_of_block hb10 rfl
    have f910 : w10.frozen? ⟨hb, 9, none⟩ = false := frozen_of_block hb10
    have hms : wrap64 ((H.majors : Int) + 1) = (H.majors : Int) + 1 := wrap_two H.majors 1 hmj
    have hms' : IntKind.i64.wrap ((H.majors : Int) + 1) = (H.majors : Int) + 1 := wrapk_two H.majors 1 hmj
    have hb11 := blk_set (i := 9) hb10 (.int .i64 ((H.majors : Int) + 1))
    have hTf : Turned (fun k => k = hb) w6 (w10.setCell ⟨hb, 9, none⟩ (.int .i64 ((H.majors : Int) + 1))) := hT10.setCell (Or.inl rfl) _
    have H11 := Lib.hid hb11
    have HTf := Lib.hid hTf
    clear hb11 hTf hb10 hT10 hb6 hkk
    go_wp2
    go_ret
    refine ⟨S, hS1, HS2.out, Or.inr ⟨hS, rfl, z, p, tv6, K4 ++ K6, P6, w6, hzw, HP.out, hC6, ?_, A2.out, hRo6, hTS, A1.out, HTf.out, H11.out⟩⟩
    have h1 := A3.out
    rw [HE4.out] at h1
    intro j c h2 h3
    exact h1 j c h2 (by simpa using h3)
  · have hSd : decide (H.most < total S) = true := by
      simp only [decide_eq_true_eq]
      omega
    go_wp2
    go_ret
    exact ⟨S, hS1, hS2, Or.inl ⟨by omega, rfl, hbw⟩⟩

end Go.Proofs.YthbkklnahhdgcaaDoor.ChYe

namespace Go.Proofs.YthbkklnahhdgcaaDoor.ChYf
open Go Go.Proofs Go.RowKit Go.Maps Go.Proofs.YthbkklnahhdgcaaDoor.Lib HeapR HeapA ChA ChB ChT ChCa ChCc ChCd ChD ChE ChF ChG ChH ChI ChJ ChK ChL ChM ChN ChO ChP ChQ ChR ChU ChV ChW ChX ChYa ChYb ChYc ChYd ChYe

/-- What Major moves. -/
def majFrom (_ : Int) : Bool := true
theorem total_perm {l k : List Ob} (h : l.Perm k) : total l = total k := by
  induction h with
  | nil => rfl
  | cons x _ ih => rw [total_cons, total_cons, ih]
  | swap x y l =>
    rw [total_cons, total_cons, total_cons, total_cons]
    omega
  | trans _ _ h1 h2 => exact h1.trans h2
/-- What Major leaves: L was moved. -/
structure MajorDone (w : World) (hb nb mb : Nat) (ov rv : Value) (B : Nat) (H : HS) (nu ol : List Ob) (rs : List (Nat × Nat)) (f : Nat × Nat → Vl) (w' : World) (mb' : Nat) (tv : Value) (H' : HS) (L : List Ob) : Prop where
  hr : HR w' hb nb mb' tv (.slice none 0 0) B H'
  kept : Kept H nu ol majFrom L [] H.room
  hi : HI H' [] (([] ++ L).map (mvO majFrom L H.room))
  led : ∀ o, o ∈ L ↔ Reached (nu ++ ol) (rootSrc rs f) o
  roots : ∀ a ∈ rs, (f a).k = 4 → has L (f a).n.toNat
  cells : ∀ a ∈ rs, w'.cell? ⟨a.1, a.2, none⟩ = some (.int .i64 (f a).k) ∧ w'.cell? ⟨a.1, a.2 + 1, none⟩ = some (.int .i64 (mvV majFrom L H.room (f a)).n) ∧ w'.cell? ⟨a.1, a.2 + 2, none⟩ = some (.string (f a).s) ∧ w'.frozen? ⟨a.1, a.2 + 1, none⟩ = false ∧ ∃ c t, w'.heap[a.1]? = some (.cells c t (0, 0))
  room : H'.room = H.room
  most : H'.most = H.most
  next : H'.next = H.next
  minors : H'.minors = H.minors
  majors : H'.majors = H.majors + 1
  turned : Turned (fun k => Owns hb nb mb ov rv k ∨ ∃ a ∈ rs, a.1 = k) w w'
  own : ∀ k, Owns hb nb mb' tv (.slice none 0 0) k → Owns hb nb mb ov rv k ∨ w.heap.size ≤ k
  sizes : ∀ a ∈ rs, ∃ c c' t, w.heap[a.1]? = some (.cells c t (0, 0)) ∧ w'.heap[a.1]? = some (.cells c' t (0, 0)) ∧ SameBut rs a.1 c' c

theorem major_done {w : World} {hb nb mb : Nat} {ov rv : Value} {B : Nat} {H : HS} {nu ol : List Ob} (h : HR w hb nb mb ov rv B H) (hi : HI H nu ol) {v : Value} {rs : List (Nat × Nat)} {f : Nat × Nat → Vl} (hr : RootsAt w (Owns hb nb mb ov rv) v rs f) {S : List Ob} (hSn : S.Nodup) (hS : ∀ o, o ∈ S ↔ Reached (nu ++ ol) (rootSrc rs f) o) (hf : total S ≤ H.most) {w' : World}
    (hM : MajorRaw w hb nb mb ov rv B H nu ol rs f w') : ∃ mb' tv H' L, MajorDone w hb nb mb ov rv B H nu ol rs f w' mb' tv H' L := by
  obtain ⟨z, p, tv, K, P, wS, hz, hp, hC, hD, hhas, hRo, hT1, hown, hT2, hblk⟩ := hM
  have e4 : p.base = [] := by rw [hp]; rfl
  have e8 : p.O = nu ++ ol := by rw [hp]; rfl
  have e3 : p.hb = hb := by rw [hp]; rfl
  have e11 : p.nb = nb := by rw [hp]; rfl
  have eB : p.B = B := by rw [hp]; rfl
  have ez : p.z = H.room := by rw [hp]; rfl
  have ef : p.from_ = majFrom := by rw [hp]; rfl
  have es : p.src = rootSrc rs f := by rw [hp]; rfl
  have ewb : p.wb = z := by rw [hp]; rfl
  have e5 : p.room = H.room := by rw [hp]; rfl
  have hbl := h.lt (.inl rfl)
  have hnl := h.lt (.inr (.inl rfl))
  have hinK : ∀ o ∈ K, o ∈ nu ++ ol := fun o ho => by have := hC.inO o ho; rwa [e8] at this
  have hall : ∀ (i : Nat) (c : HCell), (([] : List HCell) ++ flat K)[i]? = some c → c.vk = 4 → majFrom c.vn = true → P i = true := fun i c hc h1 h2 => by
    have hlt := (List.getElem?_eq_some_iff.1 hc).1
    rw [List.length_append, flat_length, List.length_nil, Nat.zero_add] at hlt
    exact hD i c (by rw [e4]; exact Nat.zero_le _) hlt (by rw [e4]; exact hc) h1 (by rw [ef]; exact h2)
  have hled : ∀ (i : Nat) (c : HCell), (([] : List HCell) ++ flat K)[i]? = some c → c.vk = 4 → majFrom c.vn = true → has K c.vn.toNat := fun i c hc h1 h2 => hC.led i c (hall i c hc h1 h2) (by rw [e4]; exact hc) h1 (by rw [ef]; exact h2)
  have hK : Kept H nu ol majFrom K [] H.room := {
    hi := hi
    inO := hinK
    nd := hC.nd
    inK := fun o ho => by cases ho
    laid := trivial
    hz := by simp [total]
    fL := fun _ _ => rfl
    fK := fun o ho => by cases ho
    rest := fun _ _ hfr => by cases hfr
    closed := fun o ho v hv hk hfr => by
      rw [List.nil_append] at ho
      have hm : v.cell ∈ ([] : List HCell) ++ flat K := by
        rw [List.nil_append]
        exact List.mem_flatMap.mpr ⟨o, ho, List.mem_cons_of_mem _ (List.mem_map.mpr ⟨v, hv, rfl⟩)⟩
      obtain ⟨i, hi'⟩ := List.mem_iff_getElem?.mp hm
      exact hled i v.cell hi' hk hfr }
  have hreach : ∀ o, o ∈ K ↔ Reached (nu ++ ol) (rootSrc rs f) o := fun o => by
    constructor
    · intro ho
      have h1 := reached_of (hC.come o ho)
      rwa [e8, es] at h1
    · intro ho
      induction ho with
      | src ho hsrc =>
        obtain ⟨r, hr', hk, hn⟩ := hsrc
        have h1 := hhas r hr' hk
        rw [hn, Int.toNat_natCast] at h1
        exact hK.of_has ho h1
      | step _ hv' hk hn ho ih =>
        have h1 := hK.closed _ (by rw [List.nil_append]; exact ih) _ hv' hk rfl
        rw [hn, Int.toNat_natCast] at h1
        exact hK.of_has ho h1
  have htot : total K = total S := total_perm ((List.perm_ext_iff_of_nodup hC.nd hSn).mpr fun o => (hreach o).trans (hS o).symm)
  obtain ⟨N, hN, hNb⟩ := hC.nurs
  rw [e11] at hNb
  rw [e5] at hN
  let H' : HS := { nur := N, old := tcells p.from_ p.base K p.z P, top := 0, room := H.room, cap := H.cap, most := H.most, rem := [], wh := whereOf p.z K (.map []) 0, next := H.next, minors := H.minors, majors := H.majors + 1 }
  have hold : H'.old = flat (([] ++ K).map (mvO majFrom K H.room)) := by
    show tcells p.from_ p.base K p.z P = _
    rw [ef, e4, ez, tcells_all hall, List.nil_append, flat_fix, List.nil_append]
  have hRd : Reads H'.wh (fun id => idAt p.z K 0 id) := (reads_where p.z K (.map []) (fun _ => none) 0 reads_empty).congr (fun id => by cases idAt p.z K 0 id <;> rfl)
  have hw : ∀ id c, idAt p.z K 0 id = some c ↔ id ≠ 0 ∧ ∃ o ∈ [] ++ K, o.id = id ∧ c = ((mvO majFrom K H.room o).addr : Int) := by
    intro id c
    rw [ez, List.nil_append]
    exact hK.idL id c
  have hHI : HI H' [] (([] ++ K).map (mvO majFrom K H.room)) := hK.after hold rfl rfl rfl rfl ⟨_, hRd, hw⟩
  have hsz1 := hT1.size
  have hTw : Turned (fun k => Owns hb nb mb ov rv k ∨ ∃ a ∈ rs, a.1 = k) w w' := by
    refine (hT1.mono fun k hk => ?_).trans (hT2.mono fun k hk => Or.inl (.inl hk))
    rcases hk with hk | hk | hk
    · exact Or.inl (.inr (.inl hk))
    · exact Or.inl (.inr (.inr (.inr (.inl hk))))
    · exact Or.inr hk
  have hmapw := hC.map
  rw [ewb] at hmapw
  have hzh : z ≠ hb := by omega
  refine ⟨z, tv, H', K, ?_, hK, hHI, hreach, hhas, fun a ha => ?_, rfl, rfl, rfl, rfl, rfl, hTw, fun k hk => ?_, fun a ha => ?_⟩
  · exact {
      blk := by
        rw [hblk]
        have e : hblock nb z tv (.slice none 0 0) H' = (((((hblock nb mb ov rv H).setIfInBounds 6 (.map (some z))).setIfInBounds 1 tv).setIfInBounds 2 (.int .i64 0)).setIfInBounds 5 (.slice none 0 0)).setIfInBounds 9 (.int .i64 ((H.majors : Int) + 1)) := by
          simp [hblock, H']
        rw [e]
      nur := (hT2.block nb (by omega) (fun e => h.hn e.symm)).trans hNb
      len := hN
      old := by
        have h1 := hC.row
        rw [eB] at h1
        have h2 : H'.old.length = p.base.length + total K := tcells_length
        rw [h2]
        refine ownsRow_same h1 fun k hk => hT2.block k (own_lt h1 hk).2 (fun h' => ?_)
        subst h'
        have := hC.th
        rw [e3] at this
        exact this hk
      rem := World.ownsRow_nil _ _ _ _
      map := shrink (HeapF.ownsMap_same hmapw (hT2.block z hmapw.lt hzh)) hRd (fun id his => by
        obtain ⟨c, hc⟩ := Option.isSome_iff_exists.1 his
        obtain ⟨h0, o, ho, e1, _⟩ := (hw id c).1 hc
        have := hi.ids o (hK.mem ho)
        show 1 ≤ id ∧ id ≤ (H.next : Int)
        omega)
      hn := h.hn
      oh := by have := hC.th; rwa [e3] at this
      on := by have := hC.tn; rwa [e11] at this
      rh := by simp [Value.ownBlock]
      rn := by simp [Value.ownBlock]
      ro := by
        cases htv : tv.ownBlock with
        | none => exact Or.inl rfl
        | some k => exact Or.inr (by simp [Value.ownBlock])
      lo := ⟨h.lo.1, h.lo.2.1, by have := h.lo.1; omega⟩
      tr := Nat.zero_le _
      rr := h.rr
      mm := h.mm
      om := by
        rw [hold, flat_length, total_mv, List.nil_append, htot]
        exact hf }
  · obtain ⟨q0, q1, q2, q3⟩ := hRo.cell a ha
    have hal := World.block_lt_of_cell? wS _ q0
    have hb := hT2.block a.1 hal (fun h' => hr.out a ha (.inl h'))
    have hblkA : ∃ c t, w'.heap[a.1]? = some (.cells c t (0, 0)) := by
      obtain ⟨c, t, e3⟩ := hRo.blk a ha
      exact ⟨c, t, hb.trans e3⟩
    have e : (fixV p K (f a)) = mvV majFrom K H.room (f a) := by rw [fixV_eq, ef, ez]
    refine ⟨(World.cell?_of_block (a := ⟨a.1, a.2, none⟩) hb).trans q0, ?_, (World.cell?_of_block (a := ⟨a.1, a.2 + 2, none⟩) hb).trans q2, (World.frozen?_of_block (a := ⟨a.1, a.2 + 1, none⟩) hb).trans q3, hblkA⟩
    rw [← e]
    exact (World.cell?_of_block (a := ⟨a.1, a.2 + 1, none⟩) hb).trans q1
  · rcases hk with hk | hk | hk | hk | hk
    · exact Or.inl (.inl hk)
    · exact Or.inl (.inr (.inl hk))
    · exact Or.inr (by omega)
    · exact Or.inr (hown k hk)
    · simp [Value.ownBlock] at hk
  · obtain ⟨c, t, e3⟩ := hRo.blk a ha
    obtain ⟨c0, t0, e0⟩ := hr.blk a ha
    have hb := hT2.block a.1 (lt_of_block e3) (fun h' => hr.out a ha (.inl h'))
    obtain ⟨cc, h1, h5⟩ := hRo.kept a ha c t e3
    rw [hp] at h1
    have h2 : rowDesc w a.1 = some (t, cc) := h1
    rw [rowDesc_of e0] at h2
    have h3 : t0 = t ∧ c0 = cc := by
      have h4 := Option.some.inj h2
      exact ⟨congrArg Prod.fst h4, congrArg Prod.snd h4⟩
    obtain ⟨rfl, rfl⟩ := h3
    exact ⟨c0, c, t0, e0, hb.trans e3, h5⟩

/-- Major. -/
theorem major_any {w : World} {hb nb mb : Nat} {ov rv : Value} {B : Nat} {H : HS} {nu ol : List Ob} (h : HR w hb nb mb ov rv B H) (hi : HI H nu ol) {v : Value} {rs : List (Nat × Nat)} {f : Nat × Nat → Vl} (hr : RootsAt w (Owns hb nb mb ov rv) v rs f) (hroot : ∀ a ∈ rs, (f a).k = 4 → ∃ x ∈ nu ++ ol, (f a).n = (x.addr : Int))
    (hnx : H.next ≤ big) (hmj : H.majors < big) :
    Calls Tryd.prog 94 #[.pointer (some ⟨hb, 0, none⟩), v] w fun e w' => ∃ S, S.Nodup ∧ (∀ o, o ∈ S ↔ Reached (nu ++ ol) (rootSrc rs f) o) ∧
      ((H.most < total S ∧ e = .returned (.iface 35 (.int .i64 12)) ∧ Below w.heap.size w w') ∨ (total S ≤ H.most ∧ e = .returned .nilIface ∧ ∃ mb' tv H' L, MajorDone w hb nb mb ov rv B H nu ol rs f w' mb' tv H' L)) :=
  (major_raw h hi hr hroot hnx hmj).mono fun _ _ ⟨S, h1, h2, h3⟩ => ⟨S, h1, h2, h3.imp id fun ⟨a, b, c⟩ => ⟨a, b, major_done h hi hr h1 h2 a c⟩⟩
end Go.Proofs.YthbkklnahhdgcaaDoor.ChYf

namespace Go.Proofs
open Go.Shelf
def Tryd.lays189_ren : Go.Shelf.Ren := ⟨fun | 189 => 97 | 125 => 116 | 257 => 115 | 128 => 138 | 129 => 139 | 294 => 129 | 295 => 130 | 296 => 131 | 297 => 132 | 298 => 133 | 299 => 134 | 216 => 135 | 300 => 136 | 301 => 137 | 328 => 155 | 329 => 156 | 330 => 157 | 331 => 158 | 332 => 159 | 215 => 160 | 343 => 167 | n => n, fun | 28 => 52 | 3 => 3 | 46 => 53 | 0 => 0 | 51 => 250 | 53 => 202 | 4 => 4 | 183 => 270 | 182 => 269 | 131 => 187 | 5 => 5 | 9 => 9 | 218 => 287 | 222 => 291 | 228 => 296 | 229 => 198 | n => n, fun | n => n⟩
theorem Tryd.lays189 : Go.Proofs.Lays.n189 Tryd.prog Tryd.lays189_ren := {
  mixed := by kernel_rfl
  f125 := Tryd.func116.trans (congrArg some (by kernel_rfl))
  f128 := Tryd.func138.trans (congrArg some (by kernel_rfl))
  f129 := Tryd.func139.trans (congrArg some (by kernel_rfl))
  f189 := Tryd.func97.trans (congrArg some (by kernel_rfl))
  f215 := Tryd.func160.trans (congrArg some (by kernel_rfl))
  f216 := Tryd.func135.trans (congrArg some (by kernel_rfl))
  f257 := Tryd.func115.trans (congrArg some (by kernel_rfl))
  f294 := Tryd.func129.trans (congrArg some (by kernel_rfl))
  f295 := Tryd.func130.trans (congrArg some (by kernel_rfl))
  f296 := Tryd.func131.trans (congrArg some (by kernel_rfl))
  f297 := Tryd.func132.trans (congrArg some (by kernel_rfl))
  f298 := Tryd.func133.trans (congrArg some (by kernel_rfl))
  f299 := Tryd.func134.trans (congrArg some (by kernel_rfl))
  f300 := Tryd.func136.trans (congrArg some (by kernel_rfl))
  f301 := Tryd.func137.trans (congrArg some (by kernel_rfl))
  f328 := Tryd.func155.trans (congrArg some (by kernel_rfl))
  f329 := Tryd.func156.trans (congrArg some (by kernel_rfl))
  f330 := Tryd.func157.trans (congrArg some (by kernel_rfl))
  f331 := Tryd.func158.trans (congrArg some (by kernel_rfl))
  f332 := Tryd.func159.trans (congrArg some (by kernel_rfl))
  f343 := Tryd.func167.trans (congrArg some (by kernel_rfl))
  t0 := Tryd.underlying0
  a0 := Tryd.isAgg0
  z0 := Tryd.sizeOf0
  v0 := Tryd.zeroValue0
  t3 := Tryd.underlying3
  a3 := Tryd.isAgg3
  z3 := Tryd.sizeOf3
  v3 := Tryd.zeroValue3
  t4 := Tryd.underlying4
  a4 := Tryd.isAgg4
  z4 := Tryd.sizeOf4
  v4 := Tryd.zeroValue4
  t5 := Tryd.underlying5
  a5 := Tryd.isAgg5
  z5 := Tryd.sizeOf5
  v5 := Tryd.zeroValue5
  t9 := Tryd.underlying9
  a9 := Tryd.isAgg9
  z9 := Tryd.sizeOf9
  v9 := Tryd.zeroValue9
  t28 := Tryd.underlying52
  a28 := Tryd.isAgg52
  z28 := Tryd.sizeOf52
  v28 := Tryd.zeroValue52
  t46 := Tryd.underlying53
  a46 := Tryd.isAgg53
  z46 := Tryd.sizeOf53
  v46 := Tryd.zeroValue53
  t51 := Tryd.underlying250
  a51 := Tryd.isAgg250
  z51 := Tryd.sizeOf250
  v51 := Tryd.zeroValue250
  t53 := Tryd.underlying202
  a53 := Tryd.isAgg202
  z53 := Tryd.sizeOf202
  v53 := Tryd.zeroValue202
  t131 := Tryd.underlying187
  a131 := Tryd.isAgg187
  z131 := Tryd.sizeOf187
  v131 := Tryd.zeroValue187
  t182 := Tryd.underlying269
  a182 := Tryd.isAgg269
  z182 := Tryd.sizeOf269
  v182 := Tryd.zeroValue269
  t183 := Tryd.underlying270
  a183 := Tryd.isAgg270
  z183 := Tryd.sizeOf270
  v183 := Tryd.zeroValue270
  t218 := Tryd.underlying287
  a218 := Tryd.isAgg287
  z218 := Tryd.sizeOf287
  v218 := Tryd.zeroValue287
  t222 := Tryd.underlying291
  a222 := Tryd.isAgg291
  z222 := Tryd.sizeOf291
  v222 := Tryd.zeroValue291
  t228 := Tryd.underlying296
  a228 := Tryd.isAgg296
  z228 := Tryd.sizeOf296
  v228 := Tryd.zeroValue296
  t229 := Tryd.underlying198
  a229 := Tryd.isAgg198
  z229 := Tryd.sizeOf198
  v229 := Tryd.zeroValue198 }
end Go.Proofs
namespace Go.Proofs.YthbkklnahhdgcaaDoor.PlI
open Go Go.Proofs Go.RowKit Go.Maps Go.Sort Go.Shelf Go.Proofs.YthbkklnahhdgcaaDoor.Lib HeapR ChCa ChCc ChE ChH ChL ChV

theorem sort_ints (g cap base : Nat) (xs : List Int) (w : World) (h : w.ownsRow base 3 1 (.slice (some ⟨g, 0, none⟩) xs.length cap) xs.length (xs.map (Value.int .i64))) (hl : xs.length ≤ big) :
    Calls Tryd.prog 97 #[.slice (some ⟨g, 0, none⟩) xs.length cap] w fun e w' => e = .returned (.tuple #[]) ∧ w.grownBy w' (some g) ∧ w'.ownsRow base 3 1 (.slice (some ⟨g, 0, none⟩) xs.length cap) xs.length ((xs.mergeSort fun x y => decide (x ≤ y)).map (Value.int .i64)) := by
  rcases h.2 with ⟨h0, _⟩ | ⟨g', cap', cur, hv, hbg, hb, hnc, hcm, hcs, htake⟩
  · cases h0
  cases hv
  have hH : Holds (Value.int .i64) w g 0 xs.toArray := holds_of_blockI hb (by rw [Nat.mul_one] at htake; exact htake)
  have hc := Any.slices_Sort_int Tryd.lays189 g 0 cap xs w hH (lt_of_block hb) (by unfold big at hl; omega)
  refine hc.mono ?_
  rintro e w' ⟨rfl, n, os, rfl⟩
  exact ⟨rfl, grownBy_sortedI _, ownsRow_sortedI (List.length_mergeSort _) hbg hb hnc hcm (by rw [hcs])⟩

/-- What holds at each round. -/
def RelJ (mb r n : Nat) (D : DataW Unit) (w0 : World) (xs : List Int) (ov : Value) (wr : World) : Prop :=
  ∃ left cnt, wr.ranges Tryd.prog 3 (plainElem Tryd.prog 3) mb r n D left cnt ∧ wr.ownsRow w0.heap.size 3 1 ov xs.length (xs.map (Value.int .i64)) ∧ xs.Nodup ∧ (∀ id, id ∈ xs ↔ (has D (.int .i64 id) = true ∧ left (.int .i64 id) = false)) ∧ xs.length + cnt ≤ Maps.size D ∧ Below w0.heap.size w0 wr
/-- What holds behind it. -/
def DoneJ (D : DataW Unit) (w0 : World) (xs : List Int) (ov : Value) (wr : World) : Prop :=
  wr.ownsRow w0.heap.size 3 1 ov xs.length (xs.map (Value.int .i64)) ∧ xs.Nodup ∧ (∀ id, id ∈ xs ↔ has D (.int .i64 id) = true) ∧ xs.length ≤ Maps.size D ∧ Below w0.heap.size w0 wr

def InvJ (mb r n : Nat) (D : DataW Unit) (w0 : World) (u0 u1 u2 u5 u6 u7 u8 Ji Jj Jk : Value) (a : Act) (wr : World) : Prop :=
  ∃ (xs : List Int) (oo : Option Addr) (cc : Nat) (s4 s10 s11 s12 s13 s14 s15 s16 s17 : Value), RelJ mb r n D w0 xs (.slice oo xs.length cc) wr ∧ a = ⟨#[u0, u1, u2, (.slice oo xs.length cc), s4, u5, u6, u7, u8, (.pointer (some ⟨r, 0, none⟩)), s10, s11, s12, s13, s14, s15, s16, s17, Ji, Jj, Jk], []⟩

theorem ids_loop {Q : Exit → Act → World → Prop} {u0 u1 u2 u4 u5 u6 u7 u8 Ja Jb Jc Jd Je Jf Jg Jh Ji Jj Jk : Value} (mb r n : Nat) (D : DataW Unit) (w0 w : World) (hr : w0.heap.size ≤ r) (hD : Maps.size D ≤ big) (h0 : RelJ mb r n D w0 [] (.slice none 0 0) w) (hmr : mb < w0.heap.size)
    (hQ : ∀ (xs : List Int) (oo : Option Addr) (cc : Nat) (s4 s10 s11 s12 s13 s14 s15 s16 s17 : Value) (w' : World), DoneJ D w0 xs (.slice oo xs.length cc) w' → Q (.exit 0) ⟨#[u0, u1, u2, (.slice oo xs.length cc), s4, u5, u6, u7, u8, (.pointer (some ⟨r, 0, none⟩)), s10, s11, s12, s13, s14, s15, s16, s17, Ji, Jj, Jk], []⟩ w') :
    Code.wp Tryd.prog (Cut.piece Tryd.f77 (Cut.loop 3)) Q ⟨#[u0, u1, u2, (.slice none 0 0), u4, u5, u6, u7, u8, (.pointer (some ⟨r, 0, none⟩)), Ja, Jb, Jc, Jd, Je, Jf, Jg, Jh, Ji, Jj, Jk], []⟩ w := by
  conv => arg 2; whnf
  refine wp_loop (InvJ mb r n D w0 u0 u1 u2 u5 u6 u7 u8 Ji Jj Jk) (fun _ wr => wr.rangeLeft mb r) ?_ (fun a' wr hI => ?_)
  · exact ⟨[], none, 0, u4, Ja, Jb, Jc, Jd, Je, Jf, Jg, Jh, h0, rfl⟩
  obtain ⟨xs, oo, cc, s4, s10, s11, s12, s13, s14, s15, s16, s17, hI⟩ := hI
  obtain ⟨⟨left, cnt, hrg, hrow, hnd, hmem, hle, hB⟩, rfl⟩ := hI
  have hmu := hrg.left_eq
  clear h0
  go_wp2_with (at_next; refine wpList_next_ranges_ii _ rfl _ rfl 3 3 .i64 .i64 (int_keyed Tryd.underlying3) Tryd.underlying3 Tryd.underlying3 mb r n _ _ _ rfl hrg ?_ ?_)
  · intro hc0 hl0
    have hfin : DoneJ D w0 xs (.slice oo xs.length cc) wr := ⟨hrow, hnd, fun id => (hmem id).trans ⟨fun h => h.1, fun h => ⟨h, hl0 _⟩⟩, by omega, hB⟩
    have A1 := Lib.hid hfin
    clear hmu hl0 hle hc0 hrow hnd hmem hB hfin
    go_wp2
    exact A1.out
  · intro x c w1 cnt1 hwx hwc hlx hat hrg1 hlt hg1 hs1 hen
    have hnr : (Value.slice oo xs.length cc).ownBlock ≠ some r := by
      obtain ⟨_, _, _, _, _, _, _, _, _, hit, _⟩ := hrg
      exact own_ne hrow hit (by intro cur e; cases e)
    have hrow1 : w1.ownsRow w0.heap.size 3 1 (.slice oo xs.length cc) xs.length (xs.map (Value.int .i64)) := ownsRow_same hrow (fun k hk => hg1.block k (own_lt hrow hk).2 (fun e => hnr (hk.trans e)))
    have hnm : (Value.slice oo xs.length cc).ownBlock ≠ some mb := fun e => by have := (own_lt hrow e).1; omega
    have hB1 : Below w0.heap.size w0 w1 := hB.trans ⟨hg1.os, hg1.tape, hg1.output, hg1.size, fun k hk => hg1.block k (Nat.lt_of_lt_of_le hk hB.size) (fun e => by have := Option.some.inj e; omega)⟩
    have hnew : x ∉ xs := fun h => by
      have h1 := ((hmem x).1 h).2
      rw [hlx] at h1
      cases h1
    have hhx : has D (.int .i64 x) = true := has_true_of_atKey hat
    have hnd1 : (xs ++ [x]).Nodup := List.nodup_append.2 ⟨hnd, by simp, fun a ha b hb => by
      rw [List.mem_singleton] at hb
      subst hb
      exact fun e => hnew (e ▸ ha)⟩
    have hmem1 : ∀ id, id ∈ xs ++ [x] ↔ (has D (.int .i64 id) = true ∧ (left (.int .i64 id) && !(Lit.int .i64 id).sameKey (.int .i64 x)) = false) := fun id => by
      rw [List.mem_append, List.mem_singleton, hmem id, sameKey_int]
      by_cases e : id = x
      · subst e
        simp [hhx]
      · simp [e]
    have hxb : xs.length < big := by omega
    obtain ⟨i0, hi1, hq0, hq1, hq2⟩ := info_parts infoInt
    have bm : xs.length + 1 ≤ maxLen := max_of _ (by omega)
    have bb : (xs.length + 1) * 8 ≤ 140737488355328 := by unfold big at hxb; omega
    have hle1 : (xs ++ [x]).length + cnt1 ≤ Maps.size D := by
      rw [List.length_append]
      simp only [List.length_cons, List.length_nil]
      omega
    have hrlt := hrg1.lt
    have hs1' := hB1.size
    have A1 := Lib.hid hnd1
    have A2 := Lib.hid hmem1
    have A3 := Lib.hid hle1
    have A4 := Lib.hid hmu
    have A5 := Lib.hid hrg1
    clear hnd1 hmem1 hle1 hmu hrg1 hnd hmem hle hhx hat hnew hlx hrg hrow hxb
    go_wp2_with (at_builtin; go_loud (refine wpList_append_own _ rfl _ _ 52 rfl w0.heap.size 3 i0 (.int .i64 0) 1 8 Tryd.underlying52 hi1 hq0 hq1 hq2 rfl (by decide) (.slice oo xs.length cc) xs.length (xs.map (Value.int .i64)) rfl (hrow1.alloc _) ⟨wr.heap.size, 0, none⟩ 1 1 [.int .i64 x] rfl rfl ?c1 ?c2 ?c3 ?c4 ?c5 ?grow))
    case c1 => exact World.news_of_block (cs := #[.int .i64 x]) (t := 3) (fr := (0, 0)) (by rw [← hs1]; exact heap_alloc_last w1 _)
    case c2 => intro u hu; simp at hu; subst hu; rfl
    case c3 => exact bm
    case c4 => exact bb
    case c5 => simp; omega
    case grow =>
      intro v' w3 hown' hgrow _
      have e1 : xs.map (Value.int .i64) ++ [.int .i64 x] = (xs ++ [x]).map (Value.int .i64) := by simp
      have e2 : xs.length + 1 = (xs ++ [x]).length := by simp
      rw [e1, e2] at hown'
      obtain ⟨g, cap, rfl⟩ := row_slice hown' (by rw [← e2]; omega)
      have hB2 := hB1.alloc hs1' (.cells #[.int .i64 x] 3 (0, 0))
      have hB3 : Below w0.heap.size w0 w3 := hB2.trans ⟨hgrow.os, hgrow.tape, hgrow.output, hgrow.size, fun k hk => hgrow.block k (Nat.lt_of_lt_of_le hk hB2.size) (fun e => by have := (own_lt hrow1 e.symm).1; omega)⟩
      have hrg3 := (A5.out.alloc (.cells #[.int .i64 x] 3 (0, 0))).kept hgrow (fun e => hnm e.symm) (fun e => hnr e.symm)
      have hmu3 := hrg3.left_eq
      have hfin : RelJ mb r n D w0 (xs ++ [x]) (.slice (some ⟨g, 0, none⟩) (xs ++ [x]).length cap) w3 := ⟨_, cnt1, hrg3, hown', A1.out, A2.out, A3.out, hB3⟩
      have A6 := Lib.hid hfin
      have A7 := Lib.hid hmu3
      clear hfin hrg3 hmu3 hB3 hB2 hgrow hrow1 hown' hB1 hB
      go_wp2
      refine ⟨⟨xs ++ [x], some ⟨g, 0, none⟩, cap, _, _, _, _, _, _, _, _, _, A6.out, rfl⟩, ?_⟩
      rw [A7.out, A4.out]
      exact hlt

theorem ids_any {w : World} {hb nb mb : Nat} {ov rv : Value} {B : Nat} {H : HS} (h : HR w hb nb mb ov rv B H) (hnx : H.next ≤ big) :
    Calls Tryd.prog 77 #[.pointer (some ⟨hb, 0, none⟩)] w fun e w' => (∃ (xs : List Int) (v : Value), e = .returned v ∧ xs.Nodup ∧ xs.Pairwise (· ≤ ·) ∧ (∀ id, id ∈ xs ↔ has H.wh (.int .i64 id) = true) ∧ xs.length ≤ big ∧ w'.ownsRow w.heap.size 3 1 v xs.length (xs.map (Value.int .i64))) ∧ Below w.heap.size w w' := by
  have c6 : w.cell? ⟨hb, 6, none⟩ = some (.map (some mb)) := cell_of_block h.blk rfl
  have hsz := h.map.size_le
  have hmb := h.map
  have hml := h.map.lt
  go_enter Tryd.func77, Tryd.ntmps77
  go_wp2_with (at_range; refine wpList_range_own _ rfl _ 96 rfl 3 3 (int_keyed Tryd.underlying3) Tryd.underlying96 _ mb H.next H.wh rfl hmb ?_; intro w0 hrg0 hg0 hs0)
  have hB0 : Below w.heap.size w w0 := ⟨hg0.os, hg0.tape, hg0.output, hg0.size, fun k hk => hg0.block k hk (by simp)⟩
  have h0 : RelJ mb w.heap.size H.next H.wh w [] (.slice none 0 0) w0 := ⟨_, _, hrg0, World.ownsRow_nil _ _ _ _, List.nodup_nil, fun id => by cases has H.wh (.int .i64 id) <;> simp, by simp, hB0⟩
  refine ids_loop mb w.heap.size H.next H.wh w w0 (Nat.le_refl _) (by omega) h0 hml ?_
  intro xs oo cc z4 z10 z11 z12 z13 z14 z15 z16 z17 w1 hD
  obtain ⟨d1, d2, d3, d4, d5⟩ := hD
  clear h0 hB0 hg0 hrg0 hs0
  have A1 := Lib.hid d2
  have A2 := Lib.hid d3
  have A3 := Lib.hid d5
  have A4 := Lib.hid d4
  by_cases hne : 0 < xs.length
  · obtain ⟨g, cap, hv⟩ := row_slice d1 hne
    injection hv with e1 _ e3
    subst e1 e3
    have hs := sort_ints g cc w.heap.size xs w1 d1 (by omega)
    have hgl := (own_lt d1 rfl).1
    clear d1 d2 d3 d5 d4 hne
    go_wp2_with fail
    refine hs.mono ?_
    rintro e w2 ⟨rfl, hg2, hrow⟩
    have hB2 : Below w.heap.size w w2 := A3.out.trans ⟨hg2.os, hg2.tape, hg2.output, hg2.size, fun k hk => hg2.block k (Nat.lt_of_lt_of_le hk A3.out.size) (fun e => by have := Option.some.inj e; omega)⟩
    have hrow' := Lib.hid hrow
    clear hs hrow
    go_wp2
    go_ret
    have hp : (xs.mergeSort fun x y => decide (x ≤ y)).Perm xs := List.mergeSort_perm _ _
    refine ⟨⟨xs.mergeSort fun x y => decide (x ≤ y), _, rfl, hp.nodup_iff.2 A1.out, ?_, fun id => hp.mem_iff.trans (A2.out id), ?_, ?_⟩, hB2⟩
    · refine (List.pairwise_mergeSort (le := fun x y : Int => decide (x ≤ y)) (fun a b c h1 h2 => ?_) (fun a b => ?_) xs).imp ?_
      · simp only [decide_eq_true_eq] at h1 h2 ⊢
        omega
      · simp only [Bool.or_eq_true, decide_eq_true_eq]
        omega
      · intro a b h
        simpa using h
    · rw [List.length_mergeSort]
      have := A4.out
      omega
    · rw [List.length_mergeSort]
      exact hrow'.out
  · have hx : xs = [] := List.length_eq_zero_iff.1 (by omega)
    subst hx
    have hs := Any.slices_Sort_int_none Tryd.lays189 oo cc w1
    have d1' := Lib.hid d1
    clear d1 d2 d3 d5 d4 hne
    go_wp2_with fail
    refine Calls.mono hs ?_
    rintro e w2 ⟨rfl, rfl⟩
    clear hs
    go_wp2
    go_ret
    exact ⟨⟨[], _, rfl, List.nodup_nil, List.Pairwise.nil, A2.out, Nat.zero_le _, d1'.out⟩, A3.out⟩

end Go.Proofs.YthbkklnahhdgcaaDoor.PlI
