/-
  Package heap's Minor: the region that makes the collector, and the one that writes the heap anew, by themselves.
-/
import Derived.Test.YthbkklnahhdgcaaMChB
import Derived.Test.YthbkklnahhdgcaaMRegT
import Derived.Test.YthbkklnahhdgcaaMCut
import Derived.Test.YthbkklnahhdgcaaMChCa
import Derived.Carry
import Derived.BigRegion
import Derived.Maps.Own
import Derived.Test.YthbkklnahhdgcaaMChK
import Derived.Test.YthbkklnahhdgcaaMChM
import Derived.Test.YthbkklnahhdgcaaMChO
import Derived.Deep.Cut
namespace Go.Proofs.Ythbkklnahhdgcaa.ChP
open Go Go.Proofs Go.RowKit Go.Proofs.Ythbkklnahhdgcaa.Lib Go.Proofs.Ythbkklnahhdgcaa.HeapR Go.Proofs.Ythbkklnahhdgcaa.ChCa

theorem cell_set_out {w : World} {a : Addr} {k j : Nat} (h : a.block ≠ k) {u : Value} : (w.setCell ⟨k, j, none⟩ u).cell? a = w.cell? a := by
  rw [World.cell?_setCell_other]
  rintro rfl
  exact h rfl

set_option maxRecDepth 100000 in
set_option maxHeartbeats 1000000 in
theorem make_region {Q : Exit → Act → World → Prop} (u0 u1 u3 u4 u5 u6 u7 u8 u9 u10 u11 u12 u13 u14 u15 u16 u17 u18 u19 u20 u21 u22 u23 u24 u25 u26 u27 u28 u29 u30 u31 u32 u33 u34 u35 u36 u37 u38 u39 u40 u41 u42 u43 u44 u45 u46 u47 u48 u49 u50 u51 u52 u53 u54 u55 u56 u57 u58 u59 u60 u61 u62 u63 u64 u65 u66 u67 u68 u69 u70 u71 u72 u73 u74 u75 u76 u77 u78 u79 u80 u81 u82 u83 u84 u85 u86 u87 u88 u89 u90 u91 u92 u93 u94 u95 u96 u97 u98 u99 u100 u101 u102 u103 u104 u105 u106 u107 u108 u109 u110 u111 u112 u113 u114 u115 u116 u117 u118 u119 : Value) (hv hb S : Nat) (ov : Value) (w : World) (hS : w.heap.size = S)
    (hv0 : w.cell? ⟨hv, 0, none⟩ = some (.pointer (some ⟨hb, 0, none⟩))) (c1 : w.cell? ⟨hb, 1, none⟩ = some ov) (hov : ∃ o n c, ov = .slice o n c)
    (hp : ∀ (c : List PanicEntry) (a : Act) (d : Tmp) (v : Value) (w : World), Q (.panic c) (a.put (some d) v) w → Q (.panic c) a w)
    (hQ : ∀ (s30 s31 s32 s33 s34 s35 s36 s37 s38 : Value) (w' : World), w'.heap[S + 1]? = some (kblk hb ov (.func (Fn.func 22) #[] #[.pointer (some ⟨hv, 0, none⟩)]) (.map (some S))) → w'.ownsMap Try.prog 3 (plainElem Try.prog 3) S 0 (.map [] : DataW Unit) → Turned (fun _ => False) w w' → Q .normal ⟨#[u0, u1, (.pointer (some ⟨hv, 0, none⟩)), u3, u4, u5, (.pointer (some ⟨S + 1, 0, none⟩)), u7, u8, u9, u10, u11, u12, u13, u14, u15, u16, u17, u18, u19, u20, u21, u22, u23, u24, u25, u26, u27, u28, u29, s30, s31, s32, s33, s34, s35, s36, s37, s38, u39, u40, u41, u42, u43, u44, u45, u46, u47, u48, u49, u50, u51, u52, u53, u54, u55, u56, u57, u58, u59, u60, u61, u62, u63, u64, u65, u66, u67, u68, u69, u70, u71, u72, u73, u74, u75, u76, u77, u78, u79, u80, u81, u82, u83, u84, u85, u86, u87, u88, u89, u90, u91, u92, u93, u94, u95, u96, u97, u98, u99, u100, u101, u102, u103, u104, u105, u106, u107, u108, u109, u110, u111, u112, u113, u114, u115, u116, u117, u118, u119], []⟩ w') :
    Code.wp Try.prog (Cut.piece Try.f11 (Cut.region 4)) Q ⟨#[u0, u1, (.pointer (some ⟨hv, 0, none⟩)), u3, u4, u5, u6, u7, u8, u9, u10, u11, u12, u13, u14, u15, u16, u17, u18, u19, u20, u21, u22, u23, u24, u25, u26, u27, u28, u29, u30, u31, u32, u33, u34, u35, u36, u37, u38, u39, u40, u41, u42, u43, u44, u45, u46, u47, u48, u49, u50, u51, u52, u53, u54, u55, u56, u57, u58, u59, u60, u61, u62, u63, u64, u65, u66, u67, u68, u69, u70, u71, u72, u73, u74, u75, u76, u77, u78, u79, u80, u81, u82, u83, u84, u85, u86, u87, u88, u89, u90, u91, u92, u93, u94, u95, u96, u97, u98, u99, u100, u101, u102, u103, u104, u105, u106, u107, u108, u109, u110, u111, u112, u113, u114, u115, u116, u117, u118, u119], []⟩ w := by
  subst hS
  have hmm := @run_makeMap Try.prog
  obtain ⟨oo, nn, cc, rfl⟩ := hov
  conv => arg 2; whnf
  refine RegT.begin (S := fun wz => wz.cell? ⟨hv, 0, none⟩ = some (.pointer (some ⟨hb, 0, none⟩)) ∧ wz.cell? ⟨hb, 1, none⟩ = some (.slice oo nn cc)) (L := 9) (by kernel_rfl) ⟨hv0, c1⟩ (fun hHeld => ?_)
  refine RegT.take (i := 0) (v := ?_) rfl (by kernel_rfl) (by kernel_rfl) (by kernel_rfl) (by kernel_rfl) (fun c a w h => hp c a _ _ w h) (Or.inl ⟨by rfl, ?_⟩) (by assumption) ?_
  rotate_left
  · intro w hSw; (try dsimp only at hSw); go_simp; first | done | with_reducible rfl
  try simp only [Act.put, List.setIfInBounds_toArray, List.set_cons_zero, List.set_cons_succ]
  refine RegT.take (i := 1) (v := ?_) rfl (by kernel_rfl) (by kernel_rfl) (by kernel_rfl) (by kernel_rfl) (fun c a w h => hp c a _ _ w h) (Or.inl ⟨by rfl, ?_⟩) (by assumption) ?_
  rotate_left
  · intro w hSw; (try dsimp only at hSw); go_simp; first | done | with_reducible rfl
  try simp only [Act.put, List.setIfInBounds_toArray, List.set_cons_zero, List.set_cons_succ]
  refine RegT.take (i := 2) (v := ?_) rfl (by kernel_rfl) (by kernel_rfl) (by kernel_rfl) (by kernel_rfl) (fun c a w h => hp c a _ _ w h) (Or.inl ⟨by rfl, ?_⟩) (by assumption) ?_
  rotate_left
  · intro w hSw; (try dsimp only at hSw); go_simp; first | done | with_reducible rfl
  try simp only [Act.put, List.setIfInBounds_toArray, List.set_cons_zero, List.set_cons_succ]
  refine RegT.take (i := 3) (v := ?_) rfl (by kernel_rfl) (by kernel_rfl) (by kernel_rfl) (by kernel_rfl) (fun c a w h => hp c a _ _ w h) (Or.inl ⟨by rfl, ?_⟩) (by assumption) ?_
  rotate_left
  · intro w hSw; (try dsimp only at hSw); go_simp; first | done | with_reducible rfl
  try simp only [Act.put, List.setIfInBounds_toArray, List.set_cons_zero, List.set_cons_succ]
  refine RegT.take (i := 4) (v := ?_) rfl (by kernel_rfl) (by kernel_rfl) (by kernel_rfl) (by kernel_rfl) (fun c a w h => hp c a _ _ w h) (Or.inl ⟨by rfl, ?_⟩) (by assumption) ?_
  rotate_left
  · intro w hSw; (try dsimp only at hSw); go_simp; first | done | with_reducible rfl
  try simp only [Act.put, List.setIfInBounds_toArray, List.set_cons_zero, List.set_cons_succ]
  refine RegT.take (i := 5) (v := ?_) rfl (by kernel_rfl) (by kernel_rfl) (by kernel_rfl) (by kernel_rfl) (fun c a w h => hp c a _ _ w h) (Or.inl ⟨by rfl, ?_⟩) (by assumption) ?_
  rotate_left
  · intro w hSw; (try dsimp only at hSw); go_simp; first | done | with_reducible rfl
  try simp only [Act.put, List.setIfInBounds_toArray, List.set_cons_zero, List.set_cons_succ]
  refine RegT.one (i := 6) (by kernel_rfl) rfl (fun K hK => ?_)
  go_simp
  refine hK.out _ _ ⟨alloc_cell hHeld.1 _, alloc_cell hHeld.2 _⟩ (fun hHeld => ?_)
  clear hK K
  try simp only [Act.put, List.setIfInBounds_toArray, List.set_cons_zero, List.set_cons_succ]
  refine RegT.one (i := 7) (by kernel_rfl) rfl (fun K hK => ?_)
  go_simp
  refine hK.out _ _ (by assumption) (fun hHeld => ?_)
  clear hK K
  try simp only [Act.put, List.setIfInBounds_toArray, List.set_cons_zero, List.set_cons_succ]
  refine RegT.one (i := 8) (by kernel_rfl) rfl (fun K hK => ?_)
  go_simp
  refine hK.out _ _ ⟨alloc_cell hHeld.1 _, alloc_cell hHeld.2 _⟩ (fun hHeld => ?_)
  clear hK K
  try simp only [Act.put, List.setIfInBounds_toArray, List.set_cons_zero, List.set_cons_succ]
  refine RegT.last (by kernel_rfl) rfl (by kernel_rfl) (fun K hK => ?_)
  go_simp
  refine hK.out _ _ ?_
  clear hK K
  try simp only [Act.put, List.setIfInBounds_toArray, List.set_cons_zero, List.set_cons_succ]
  exact hQ _ _ _ _ _ _ _ _ _ _ (heap_alloc_at (by simp) _) ((World.ownsMap_made w.drew Try.prog 3 (plainElem Try.prog 3)).alloc _) (((Turned.refl _ w).drew.alloc _).alloc _)
set_option maxRecDepth 100000 in
set_option maxHeartbeats 1000000 in
theorem write_region {Q : Exit → Act → World → Prop} (u0 u1 u3 u4 u5 u7 u8 u9 u10 u11 u12 u13 u14 u15 u16 u17 u18 u19 u20 u21 u22 u23 u24 u25 u26 u27 u28 u29 u30 u31 u32 u33 u34 u35 u36 u37 u38 u39 u40 u41 u42 u43 u44 u45 u46 u47 u48 u49 u50 u51 u52 u53 u54 u55 u56 u57 u58 u59 u60 u61 u62 u63 u64 u65 u66 u67 u68 u69 u70 u71 u72 u73 u74 u75 u76 u77 u78 u79 u80 u81 u82 u83 u84 u85 u86 u87 u88 u89 u90 u91 u92 u93 u94 u95 u96 u97 u98 u99 u100 u101 u102 u103 u104 u105 u106 u107 u108 u109 u110 u111 u112 u113 u114 u115 u116 u117 u118 u119 : Value) (hv hb kb : Nat) (HB : Array Value) (tv fv mv : Value) (w : World)
    (hv0 : w.cell? ⟨hv, 0, none⟩ = some (.pointer (some ⟨hb, 0, none⟩))) (hB : w.heap[hb]? = some (.cells HB 49 (0, 0))) (hsz : HB.size = 10) (hk : w.heap[kb]? = some (kblk hb tv fv mv)) (htv : ∃ o n c, tv = .slice o n c) (d1 : hv ≠ hb) (d2 : kb ≠ hb)
    (hQ : ∀ (s100 s101 s102 s103 s104 s105 s106 s107 s108 s109 s110 s111 s112 : Value) (w' : World), w'.heap[hb]? = some (.cells (((HB.setIfInBounds 1 tv).setIfInBounds 2 (.int .i64 0)).setIfInBounds 5 (.slice none 0 0)) 49 (0, 0)) → Turned (fun k => k = hb) w w' → Q .normal ⟨#[u0, u1, (.pointer (some ⟨hv, 0, none⟩)), u3, u4, u5, (.pointer (some ⟨kb, 0, none⟩)), u7, u8, u9, u10, u11, u12, u13, u14, u15, u16, u17, u18, u19, u20, u21, u22, u23, u24, u25, u26, u27, u28, u29, u30, u31, u32, u33, u34, u35, u36, u37, u38, u39, u40, u41, u42, u43, u44, u45, u46, u47, u48, u49, u50, u51, u52, u53, u54, u55, u56, u57, u58, u59, u60, u61, u62, u63, u64, u65, u66, u67, u68, u69, u70, u71, u72, u73, u74, u75, u76, u77, u78, u79, u80, u81, u82, u83, u84, u85, u86, u87, u88, u89, u90, u91, u92, u93, u94, u95, u96, u97, u98, u99, s100, s101, s102, s103, s104, s105, s106, s107, s108, s109, s110, s111, s112, u113, u114, u115, u116, u117, u118, u119], []⟩ w') :
    Code.wp Try.prog (Cut.piece Try.f11 (Cut.region 22)) Q ⟨#[u0, u1, (.pointer (some ⟨hv, 0, none⟩)), u3, u4, u5, (.pointer (some ⟨kb, 0, none⟩)), u7, u8, u9, u10, u11, u12, u13, u14, u15, u16, u17, u18, u19, u20, u21, u22, u23, u24, u25, u26, u27, u28, u29, u30, u31, u32, u33, u34, u35, u36, u37, u38, u39, u40, u41, u42, u43, u44, u45, u46, u47, u48, u49, u50, u51, u52, u53, u54, u55, u56, u57, u58, u59, u60, u61, u62, u63, u64, u65, u66, u67, u68, u69, u70, u71, u72, u73, u74, u75, u76, u77, u78, u79, u80, u81, u82, u83, u84, u85, u86, u87, u88, u89, u90, u91, u92, u93, u94, u95, u96, u97, u98, u99, u100, u101, u102, u103, u104, u105, u106, u107, u108, u109, u110, u111, u112, u113, u114, u115, u116, u117, u118, u119], []⟩ w := by
  obtain ⟨oo, nn, cc, rfl⟩ := htv
  have k1 : w.cell? ⟨kb, 1, none⟩ = some (.slice oo nn cc) := cell_of_block hk rfl
  obtain ⟨v1, hv1⟩ : ∃ v, HB[1]? = some v := ⟨_, Array.getElem?_eq_getElem (by omega)⟩
  obtain ⟨v2, hv2⟩ : ∃ v, HB[2]? = some v := ⟨_, Array.getElem?_eq_getElem (by omega)⟩
  obtain ⟨v5, hv5⟩ : ∃ v, HB[5]? = some v := ⟨_, Array.getElem?_eq_getElem (by omega)⟩
  have c1 : w.cell? ⟨hb, 1, none⟩ = some v1 := cell_of_block hB hv1
  have c2 : w.cell? ⟨hb, 2, none⟩ = some v2 := cell_of_block hB hv2
  have c5 : w.cell? ⟨hb, 5, none⟩ = some v5 := cell_of_block hB hv5
  have f1 : w.frozen? ⟨hb, 1, none⟩ = false := frozen_of_block hB
  have f2 : w.frozen? ⟨hb, 2, none⟩ = false := frozen_of_block hB
  have f5 : w.frozen? ⟨hb, 5, none⟩ = false := frozen_of_block hB
  have hw1 := blk_set (i := 5) (blk_set (i := 2) (blk_set (i := 1) hB (.slice oo nn cc)) (.int .i64 0)) (.slice none 0 0)
  have hT : Turned (fun k => k = hb) w (((w.setCell ⟨hb, 1, none⟩ (.slice oo nn cc)).setCell ⟨hb, 2, none⟩ (.int .i64 0)).setCell ⟨hb, 5, none⟩ (.slice none 0 0)) := (((Turned.refl (fun k => k = hb) w).setCell (p := ⟨hb, 1, none⟩) (Or.inl rfl) _).setCell (p := ⟨hb, 2, none⟩) (Or.inl rfl) _).setCell (p := ⟨hb, 5, none⟩) (Or.inl rfl) _
  clear hv1 hv2 hv5 hB hk hsz
  conv => arg 2; whnf
  refine wp_region_noPanic ?_
  refine RegT.begin (S := fun wz => wz.cell? ⟨hv, 0, none⟩ = some (.pointer (some ⟨hb, 0, none⟩)) ∧ wz.cell? ⟨kb, 1, none⟩ = some (.slice oo nn cc)) (L := 15) (by kernel_rfl) ⟨hv0, k1⟩ (fun hHeld => ?_)
  refine RegT.take (i := 0) (v := ?_) rfl (by kernel_rfl) (by kernel_rfl) (by kernel_rfl) (by kernel_rfl) (fun _ _ _ h => h) (Or.inl ⟨by rfl, ?_⟩) (by assumption) ?_
  rotate_left
  · intro w hSw; (try dsimp only at hSw); go_simp; first | done | with_reducible rfl
  try simp only [Act.put, List.setIfInBounds_toArray, List.set_cons_zero, List.set_cons_succ]
  refine RegT.take (i := 1) (v := ?_) rfl (by kernel_rfl) (by kernel_rfl) (by kernel_rfl) (by kernel_rfl) (fun _ _ _ h => h) (Or.inl ⟨by rfl, ?_⟩) (by assumption) ?_
  rotate_left
  · intro w hSw; (try dsimp only at hSw); go_simp; first | done | with_reducible rfl
  try simp only [Act.put, List.setIfInBounds_toArray, List.set_cons_zero, List.set_cons_succ]
  refine RegT.take (i := 2) (v := ?_) rfl (by kernel_rfl) (by kernel_rfl) (by kernel_rfl) (by kernel_rfl) (fun _ _ _ h => h) (Or.inl ⟨by rfl, ?_⟩) (by assumption) ?_
  rotate_left
  · intro w hSw; (try dsimp only at hSw); go_simp; first | done | with_reducible rfl
  try simp only [Act.put, List.setIfInBounds_toArray, List.set_cons_zero, List.set_cons_succ]
  refine RegT.take (i := 3) (v := ?_) rfl (by kernel_rfl) (by kernel_rfl) (by kernel_rfl) (by kernel_rfl) (fun _ _ _ h => h) (Or.inl ⟨by rfl, ?_⟩) (by assumption) ?_
  rotate_left
  · intro w hSw; (try dsimp only at hSw); go_simp; first | done | with_reducible rfl
  try simp only [Act.put, List.setIfInBounds_toArray, List.set_cons_zero, List.set_cons_succ]
  refine RegT.take (i := 4) (v := ?_) rfl (by kernel_rfl) (by kernel_rfl) (by kernel_rfl) (by kernel_rfl) (fun _ _ _ h => h) (Or.inl ⟨by rfl, ?_⟩) (by assumption) ?_
  rotate_left
  · intro w hSw; (try dsimp only at hSw); go_simp; first | done | with_reducible rfl
  try simp only [Act.put, List.setIfInBounds_toArray, List.set_cons_zero, List.set_cons_succ]
  refine RegT.take (i := 5) (v := ?_) rfl (by kernel_rfl) (by kernel_rfl) (by kernel_rfl) (by kernel_rfl) (fun _ _ _ h => h) (Or.inl ⟨by rfl, ?_⟩) (by assumption) ?_
  rotate_left
  · intro w hSw; (try dsimp only at hSw); go_simp; first | done | with_reducible rfl
  try simp only [Act.put, List.setIfInBounds_toArray, List.set_cons_zero, List.set_cons_succ]
  refine RegT.take (i := 6) (v := ?_) rfl (by kernel_rfl) (by kernel_rfl) (by kernel_rfl) (by kernel_rfl) (fun _ _ _ h => h) (Or.inl ⟨by rfl, ?_⟩) (by assumption) ?_
  rotate_left
  · intro w hSw; (try dsimp only at hSw); go_simp; first | done | with_reducible rfl
  try simp only [Act.put, List.setIfInBounds_toArray, List.set_cons_zero, List.set_cons_succ]
  refine RegT.take (i := 7) (v := ?_) rfl (by kernel_rfl) (by kernel_rfl) (by kernel_rfl) (by kernel_rfl) (fun _ _ _ h => h) (Or.inl ⟨by rfl, ?_⟩) (by assumption) ?_
  rotate_left
  · intro w hSw; (try dsimp only at hSw); go_simp; first | done | with_reducible rfl
  try simp only [Act.put, List.setIfInBounds_toArray, List.set_cons_zero, List.set_cons_succ]
  refine RegT.take (i := 8) (v := ?_) rfl (by kernel_rfl) (by kernel_rfl) (by kernel_rfl) (by kernel_rfl) (fun _ _ _ h => h) (Or.inl ⟨by rfl, ?_⟩) (by assumption) ?_
  rotate_left
  · intro w hSw; (try dsimp only at hSw); go_simp; first | done | with_reducible rfl
  try simp only [Act.put, List.setIfInBounds_toArray, List.set_cons_zero, List.set_cons_succ]
  have n1 : (⟨hv, 0, none⟩ : Addr).block ≠ hb := d1
  have n2 : (⟨kb, 1, none⟩ : Addr).block ≠ hb := d2
  refine RegT.one (i := 9) (by kernel_rfl) rfl (fun K hK => ?_)
  go_simp
  refine hK.out _ _ ?_ (fun hHeld => ?_)
  · exact ⟨(cell_set_out n1).trans hHeld.1, (cell_set_out n2).trans hHeld.2⟩
  clear hK K
  try simp only [Act.put, List.setIfInBounds_toArray, List.set_cons_zero, List.set_cons_succ]
  refine RegT.one (i := 10) (by kernel_rfl) rfl (fun K hK => ?_)
  go_simp
  refine hK.out _ _ (by assumption) (fun hHeld => ?_)
  clear hK K
  try simp only [Act.put, List.setIfInBounds_toArray, List.set_cons_zero, List.set_cons_succ]
  refine RegT.one (i := 11) (by kernel_rfl) rfl (fun K hK => ?_)
  go_simp
  refine hK.out _ _ (by assumption) (fun hHeld => ?_)
  clear hK K
  try simp only [Act.put, List.setIfInBounds_toArray, List.set_cons_zero, List.set_cons_succ]
  refine RegT.one (i := 12) (by kernel_rfl) rfl (fun K hK => ?_)
  go_simp
  refine hK.out _ _ ?_ (fun hHeld => ?_)
  · exact ⟨(cell_set_out n1).trans hHeld.1, (cell_set_out n2).trans hHeld.2⟩
  clear hK K
  try simp only [Act.put, List.setIfInBounds_toArray, List.set_cons_zero, List.set_cons_succ]
  refine RegT.one (i := 13) (by kernel_rfl) rfl (fun K hK => ?_)
  go_simp
  refine hK.out _ _ (by assumption) (fun hHeld => ?_)
  clear hK K
  try simp only [Act.put, List.setIfInBounds_toArray, List.set_cons_zero, List.set_cons_succ]
  refine RegT.one (i := 14) (by kernel_rfl) rfl (fun K hK => ?_)
  go_simp
  refine hK.out _ _ (by assumption) (fun hHeld => ?_)
  clear hK K
  try simp only [Act.put, List.setIfInBounds_toArray, List.set_cons_zero, List.set_cons_succ]
  refine RegT.last (by kernel_rfl) rfl (by kernel_rfl) (fun K hK => ?_)
  go_simp
  refine hK.out _ _ ?_
  clear hK K
  try simp only [Act.put, List.setIfInBounds_toArray, List.set_cons_zero, List.set_cons_succ]
  exact hQ _ _ _ _ _ _ _ _ _ _ _ _ _ _ hw1 hT.drew
end Go.Proofs.Ythbkklnahhdgcaa.ChP

/-
  Package heap's Minor.
-/
namespace Go.Proofs.Ythbkklnahhdgcaa.ChQ
open Go Go.Proofs Go.RowKit Go.Maps Go.Proofs.Ythbkklnahhdgcaa.Lib Go.Proofs.Ythbkklnahhdgcaa.HeapR Go.Proofs.Ythbkklnahhdgcaa.HeapA Go.Proofs.Ythbkklnahhdgcaa.ChA Go.Proofs.Ythbkklnahhdgcaa.ChB Go.Proofs.Ythbkklnahhdgcaa.ChT Go.Proofs.Ythbkklnahhdgcaa.ChCa Go.Proofs.Ythbkklnahhdgcaa.ChCc Go.Proofs.Ythbkklnahhdgcaa.ChCd Go.Proofs.Ythbkklnahhdgcaa.ChD Go.Proofs.Ythbkklnahhdgcaa.ChE Go.Proofs.Ythbkklnahhdgcaa.ChF Go.Proofs.Ythbkklnahhdgcaa.ChG Go.Proofs.Ythbkklnahhdgcaa.ChH Go.Proofs.Ythbkklnahhdgcaa.ChI Go.Proofs.Ythbkklnahhdgcaa.ChJ Go.Proofs.Ythbkklnahhdgcaa.ChK Go.Proofs.Ythbkklnahhdgcaa.ChL Go.Proofs.Ythbkklnahhdgcaa.ChM Go.Proofs.Ythbkklnahhdgcaa.ChN Go.Proofs.Ythbkklnahhdgcaa.ChO Go.Proofs.Ythbkklnahhdgcaa.ChP

/-- Roots that lie outside of a heap. -/
structure RootsAt (w : World) (own : Nat → Prop) (v : Value) (rs : List (Nat × Nat)) (f : Nat × Nat → Vl) : Prop where
  cell : ∀ a ∈ rs, w.cell? ⟨a.1, a.2, none⟩ = some (.int .i64 (f a).k) ∧ w.cell? ⟨a.1, a.2 + 1, none⟩ = some (.int .i64 (f a).n) ∧ w.cell? ⟨a.1, a.2 + 2, none⟩ = some (.string (f a).s) ∧ w.frozen? ⟨a.1, a.2 + 1, none⟩ = false
  out : ∀ a ∈ rs, ¬ own a.1
  blk : ∀ a ∈ rs, ∃ c t, w.heap[a.1]? = some (.cells c t (0, 0))
  apart : RootsApart rs
  len : rs.length ≤ big
  list : ∃ (oa : Option Addr) (rb ro c : Nat), v = .slice oa rs.length c ∧ ∀ (i : Nat) (a : Nat × Nat), rs[i]? = some a → oa = some ⟨rb, ro, none⟩ ∧ w.cell? ⟨rb, ro + i, none⟩ = some (.pointer (some ⟨a.1, a.2, none⟩)) ∧ ¬ own rb ∧ (∀ b ∈ rs, b.1 ≠ rb)

set_option maxRecDepth 100000 in
set_option maxHeartbeats 1000000 in
theorem minor_full {w : World} {hb nb mb : Nat} {ov rv : Value} {B : Nat} {H : HS} {nu ol : List Ob} (h : HR w hb nb mb ov rv B H) (hi : HI H nu ol) (v : Value) (hf : H.most < total ol + total nu) :
    Calls Try.prog 11 #[.pointer (some ⟨hb, 0, none⟩), v] w fun e w' => e = .returned (.iface 45 (.int .i64 12)) ∧ Below w.heap.size w w' := by
  have hlt : w.heap.size ≠ hb := fun e => by have := h.lt (.inl rfl); omega
  have c1 := alloc_cell h.c1 (.cells #[.pointer (some ⟨hb, 0, none⟩)] 23 (0, 0))
  have c2 := alloc_cell h.c2 (.cells #[.pointer (some ⟨hb, 0, none⟩)] 23 (0, 0))
  have c4 := alloc_cell h.c4 (.cells #[.pointer (some ⟨hb, 0, none⟩)] 23 (0, 0))
  obtain ⟨oa, n, c, hov, hn⟩ := HeapC.old_slice h
  rw [hi.olen] at hn
  subst hn
  subst hov
  rw [hi.top] at c2
  have hb1 : total ol + total nu ≤ big := by
    have h1 := h.om
    have h2 := h.mm
    have h3 := h.rr
    have h4 := hi.fit
    rw [hi.olen] at h1
    unfold big
    omega
  have hs : wrap64 ((total ol : Int) + (total nu : Int)) = (total ol : Int) + (total nu : Int) := wrap_two _ _ hb1
  have hs' : IntKind.i64.wrap ((total ol : Int) + (total nu : Int)) = (total ol : Int) + (total nu : Int) := wrapk_two _ _ hb1
  have hd : decide ((H.most : Int) < (total ol : Int) + (total nu : Int)) = true := by
    simp only [decide_eq_true_eq]
    clear hs hs'
    omega
  clear h hi hf hb1
  go_enter Try.func11, Try.ntmps11
  go_wp2_with fail
  go_quiet (fail)
  go_wp2
  go_ret
  exact ⟨rfl, below_drewN ((Below.refl _ _).alloc (Nat.le_refl _) _) _⟩

end Go.Proofs.Ythbkklnahhdgcaa.ChQ

/-
  Minor's collector at its beginning. No walk in sight.
-/
namespace Go.Proofs.Ythbkklnahhdgcaa.ChR
open Go Go.Proofs Go.RowKit Go.Maps Go.Proofs.Ythbkklnahhdgcaa.Lib Go.Proofs.Ythbkklnahhdgcaa.HeapR Go.Proofs.Ythbkklnahhdgcaa.HeapA Go.Proofs.Ythbkklnahhdgcaa.ChA Go.Proofs.Ythbkklnahhdgcaa.ChB Go.Proofs.Ythbkklnahhdgcaa.ChT Go.Proofs.Ythbkklnahhdgcaa.ChCa Go.Proofs.Ythbkklnahhdgcaa.ChCc Go.Proofs.Ythbkklnahhdgcaa.ChCd Go.Proofs.Ythbkklnahhdgcaa.ChD Go.Proofs.Ythbkklnahhdgcaa.ChE Go.Proofs.Ythbkklnahhdgcaa.ChF Go.Proofs.Ythbkklnahhdgcaa.ChG Go.Proofs.Ythbkklnahhdgcaa.ChH Go.Proofs.Ythbkklnahhdgcaa.ChI Go.Proofs.Ythbkklnahhdgcaa.ChJ Go.Proofs.Ythbkklnahhdgcaa.ChK Go.Proofs.Ythbkklnahhdgcaa.ChL Go.Proofs.Ythbkklnahhdgcaa.ChM Go.Proofs.Ythbkklnahhdgcaa.ChN Go.Proofs.Ythbkklnahhdgcaa.ChO Go.Proofs.Ythbkklnahhdgcaa.ChP Go.Proofs.Ythbkklnahhdgcaa.ChQ

theorem laid_cells {a : Nat} {l : List Ob} (h : Laid a l) {o : Ob} (ho : o ∈ l) {i : Nat} {c : HCell} (hc : (o.cells 0)[i]? = some c) : (flat l)[o.addr - a + i]? = some c := by
  induction l generalizing a with
  | nil => cases ho
  | cons x l ih =>
    obtain ⟨h1, h2⟩ := h
    have hi : i < o.len := by
      have := (List.getElem?_eq_some_iff.1 hc).1
      rwa [Ob.length_cells] at this
    show (x.cells 0 ++ flat l)[o.addr - a + i]? = some c
    rcases List.mem_cons.mp ho with rfl | ho
    · rw [h1, Nat.sub_self, Nat.zero_add, List.getElem?_append_left (by rw [Ob.length_cells]; exact hi)]
      exact hc
    · have h3 := laid_in h2 ho
      rw [List.getElem?_append_right (by rw [Ob.length_cells]; omega), Ob.length_cells, show o.addr - a + i - x.len = o.addr - (a + x.len) + i by omega]
      exact ih h2 ho

/-- Minor's collector. -/
def minPar (w : World) (hb nb mb : Nat) (ov rv : Value) (B : Nat) (H : HS) (nu : List Ob) (src : Nat → Prop) : Par :=
  { kb := w.heap.size + 2, hb := hb, hv := w.heap.size, wb := w.heap.size + 1, nb := nb, B := B, room := H.room, HB := hblock nb mb ov rv H, maj := false, O := nu, base := H.old, pl := fun a => (nb, a * 8), src := src }
theorem minPar_from (w : World) (hb nb mb : Nat) (ov rv : Value) (B : Nat) (H : HS) (nu : List Ob) (src : Nat → Prop) (n : Int) : (minPar w hb nb mb ov rv B H nu src).from_ n = decide (n < (H.room : Int)) := rfl
theorem minPar_z (w : World) (hb nb mb : Nat) (ov rv : Value) (B : Nat) (H : HS) (nu : List Ob) (src : Nat → Prop) : (minPar w hb nb mb ov rv B H nu src).z = H.room + H.old.length := rfl
variable {w : World} {hb nb mb : Nat} {ov rv : Value} {B : Nat} {H : HS} {nu ol : List Ob} {src : Nat → Prop}
theorem min_addr (hi : HI H nu ol) {o : Ob} (ho : o ∈ nu) : o.addr + o.len ≤ H.room := by
  have h1 := laid_in hi.na ho
  have h2 := hi.fit
  omega
theorem minPar_ok (h : HR w hb nb mb ov rv B H) (hi : HI H nu ol) (hn : H.next ≤ 4611686018427387904) : (minPar w hb nb mb ov rv B H nu src).OK := by
  have hl := fun {k : Nat} (hk : Owns hb nb mb ov rv k) => h.lt hk
  have hbl := hl (.inl rfl)
  have hnl := hl (.inr (.inl rfl))
  exact {
    h0 := rfl
    h3 := rfl
    place := fun o ho => Or.inl ⟨min_addr hi ho, rfl⟩
    apart := fun x hx y hy => by
      rcases laid_two hi.na hx hy with h1 | h1 | h1
      · exact Or.inl (by rw [h1])
      · exact Or.inr (Or.inr (Or.inl (by show x.addr * 8 + x.len * 8 ≤ y.addr * 8; omega)))
      · exact Or.inr (Or.inr (Or.inr (by show y.addr * 8 + y.len * 8 ≤ x.addr * 8; omega)))
    sole := laid_apart hi.na
    nd := laid_nodup hi.na
    closed := fun o ho v hv hk hf => by
      obtain ⟨x, hx, e⟩ := hi.refs o (List.mem_append.mpr (Or.inl ho)) v hv hk
      rcases List.mem_append.mp hx with hx | hx
      · exact ⟨x, hx, e⟩
      · exfalso
        rw [minPar_from, e] at hf
        have h1 := laid_in hi.oa hx
        have h2 : (x.addr : Int) < (H.room : Int) := by simpa using hf
        omega
    size := by
      show H.room + H.old.length + total nu + 1 ≤ big
      have h1 := h.om
      have h2 := h.mm
      have h3 := h.rr
      have h4 := hi.fit
      unfold big
      omega
    addr := fun o ho => by
      have h1 := min_addr hi ho
      have h3 := h.rr
      unfold big
      omega
    ids := fun o ho => by
      have h1 := hi.ids o (List.mem_append.mpr (Or.inl ho))
      omega
    from_ := fun o ho => by
      rw [minPar_from]
      have h1 := min_addr hi ho
      have h2 := len_pos o
      simp only [decide_eq_true_eq]
      omega
    kh := by show w.heap.size + 2 ≠ hb; omega
    kv := by show w.heap.size + 2 ≠ w.heap.size; omega
    wk := by show w.heap.size + 1 ≠ w.heap.size + 2; omega
    pk := fun o _ => by
      show nb ≠ w.heap.size + 2 ∧ nb ≠ hb ∧ nb ≠ w.heap.size ∧ nb ≠ w.heap.size + 1
      have := h.hn
      omega
    wh := by show w.heap.size + 1 ≠ hb; omega
    wv := by show w.heap.size + 1 ≠ w.heap.size; omega
    nk := by show nb ≠ w.heap.size + 2; omega
    nh := by show nb ≠ hb; exact fun e => h.hn e.symm
    nv := by show nb ≠ w.heap.size; omega
    nw := by show nb ≠ w.heap.size + 1; omega }

theorem minPar_start (h : HR w hb nb mb ov rv B H) (hi : HI H nu ol) {w3 : World} (hk : w3.heap[w.heap.size + 2]? = some (kblk hb ov (.func (Fn.func 22) #[] #[.pointer (some ⟨w.heap.size, 0, none⟩)]) (.map (some (w.heap.size + 1)))))
    (hv : w3.cell? ⟨w.heap.size, 0, none⟩ = some (.pointer (some ⟨hb, 0, none⟩))) (hm : w3.ownsMap Try.prog 3 (plainElem Try.prog 3) (w.heap.size + 1) 0 (.map [] : DataW Unit)) (hT : Turned (fun _ => False) w w3) :
    CR (minPar w hb nb mb ov rv B H nu src) w3 ov [] (fun _ => false) := by
  have hl := fun {k : Nat} (hk : Owns hb nb mb ov rv k) => h.lt hk
  have h3 : HR w3 hb nb mb ov rv B H := h.turned hT (fun _ _ => id)
  have hbl := hl (.inl rfl)
  have hnl := hl (.inr (.inl rfl))
  have hov : ∀ k, ov.ownBlock = some k → k < w.heap.size := fun k hk => hl (.inr (.inr (.inr (.inl hk))))
  have hz := hT.size
  exact {
    kblk := hk
    hblk := h3.blk
    hvar := fun _ => hv
    row := by
      have e : tcells (minPar w hb nb mb ov rv B H nu src).from_ H.old [] (minPar w hb nb mb ov rv B H nu src).z (fun _ => false) = H.old := by
        refine List.ext_getElem? fun i => ?_
        rw [tcells_get]
        show ((H.old ++ [])[i]?).map _ = _
        rw [List.append_nil]
        cases H.old[i]? <;> simp
      show w3.ownsRow B 55 8 ov (H.old.length + total []) (hvals (tcells _ H.old [] _ _))
      rw [e]
      exact h3.old
    map := hm
    src := fun o ho => by
      refine ⟨hcells H.nur, h3.nur, fun i c hc j v hv' => ?_⟩
      rw [mark_out _ _ _ has_nil] at hc
      have h1 := laid_cells hi.na ho hc
      rw [← hi.nur, Nat.sub_zero] at h1
      have h2 : H.nur[o.addr + i]? = some c := by
        rw [List.getElem?_take] at h1
        split at h1
        · exact h1
        · cases h1
      have h4 := hcells_get H.nur (o.addr + i) j c h2 (vals_lt hv')
      show (hcells H.nur)[o.addr * 8 + i * 8 + j]? = some v
      rw [show o.addr * 8 + i * 8 + j = (o.addr + i) * 8 + j by omega, h4]
      exact hv'
    led := fun i c hp => by cases hp
    lt := fun i hp => by cases hp
    inO := fun o ho => by cases ho
    nd := List.nodup_nil
    come := fun o ho => by cases ho
    nurs := ⟨H.nur, h.len, h3.nur⟩
    low := by
      show B ≤ w3.heap.size
      have := h.ge (.inl rfl)
      omega
    hvl := World.block_lt_of_cell? w3 _ hv
    tk := fun e => by have h1 : w.heap.size + 2 < w.heap.size := hov _ e; omega
    th := h.oh
    tw := fun e => by have h1 : w.heap.size + 1 < w.heap.size := hov _ e; omega
    ts := fun o _ => h.on
    tn := h.on
    tvv := fun e => by have h1 : w.heap.size < w.heap.size := hov _ e; omega }

/-- What the roots, and the old cells that are remembered, lead to. -/
def minSrc (H : HS) (rs : List (Nat × Nat)) (f : Nat × Nat → Vl) (a : Nat) : Prop := (∃ r ∈ rs, (f r).k = 4 ∧ (f r).n = (a : Int)) ∨ ∃ (j : Nat) (c : HCell), ((H.room + j : Nat) : Int) ∈ H.rem ∧ H.old[j]? = some c ∧ c.vk = 4 ∧ c.vn = (a : Int)

theorem min_own {k : Nat} (hl : k < w.heap.size) (ho : ¬ Owns hb nb mb ov rv k) : ¬ Own (minPar w hb nb mb ov rv B H nu src) ov k := by
  intro h'
  rcases h' with h' | h' | h' | h' | h' | h' | ⟨o, _, h'⟩
  · have h2 : k = w.heap.size + 2 := h'
    omega
  · exact ho (.inl h')
  · have h2 : k = w.heap.size := h'
    omega
  · have h2 : k = w.heap.size + 1 := h'
    omega
  · exact ho (.inr (.inr (.inr (.inl h'))))
  · exact ho (.inr (.inl h'))
  · exact ho (.inr (.inl h'.symm))

theorem min_half {v : Value} {rs : List (Nat × Nat)} {f : Nat × Nat → Vl} (hr : RootsAt w (Owns hb nb mb ov rv) v rs f) {w3 : World} (hT : Turned (fun _ => False) w w3)
    (hC : CR (minPar w hb nb mb ov rv B H nu src) w3 ov [] (fun _ => false)) : Half (minPar w hb nb mb ov rv B H nu src) ov w3 [] (fun _ => false) rs f 0 w3 ov [] := by
  refine ⟨Nat.zero_le _, hC, ⟨fun a ha => ?_, fun a ha => min_own (World.block_lt_of_cell? w _ (hr.cell a ha).1) (hr.out a ha), fun a ha => by
    obtain ⟨c, t, e⟩ := hr.blk a ha
    exact ⟨c, t, (hT.block a.1 (lt_of_block e) id).trans e⟩⟩, fun a ha => (by rw [List.take_zero] at ha; cases ha), GrewR.refl _ _ _ _⟩
  rw [List.take_zero, if_neg List.not_mem_nil]
  obtain ⟨q0, q1, q2, q3⟩ := hr.cell a ha
  have hb := hT.block a.1 (World.block_lt_of_cell? w _ q0) id
  exact ⟨(World.cell?_of_block (a := ⟨a.1, a.2, none⟩) hb).trans q0, (World.cell?_of_block (a := ⟨a.1, a.2 + 1, none⟩) hb).trans q1, (World.cell?_of_block (a := ⟨a.1, a.2 + 2, none⟩) hb).trans q2, (World.frozen?_of_block (a := ⟨a.1, a.2 + 1, none⟩) hb).trans q3⟩

theorem min_leads (hi : HI H nu ol) {n : Int} (hf : (minPar w hb nb mb ov rv B H nu src).from_ n = true) (hx : ∃ x ∈ nu ++ ol, n = (x.addr : Int)) : ∃ x ∈ nu, n = (x.addr : Int) := by
  obtain ⟨x, hx, e⟩ := hx
  rcases List.mem_append.mp hx with hx | hx
  · exact ⟨x, hx, e⟩
  · exfalso
    rw [minPar_from, e] at hf
    have h1 := laid_in hi.oa hx
    have h2 : (x.addr : Int) < (H.room : Int) := by simpa using hf
    omega
/-- A cell of the old part that is a Ref leads to an object. -/
theorem old_ref (hi : HI H nu ol) {j : Nat} {c : HCell} (hj : H.old[j]? = some c) (hk : c.vk = 4) : ∃ x ∈ nu ++ ol, c.vn = (x.addr : Int) := by
  rw [hi.old] at hj
  obtain ⟨o, ho, hc⟩ := List.mem_flatMap.mp (List.mem_of_getElem? hj)
  rcases List.mem_cons.mp (show c ∈ o.head 0 :: o.fs.map Vl.cell from hc) with rfl | hc
  · exact absurd hk (show ¬ (0 : Int) = 4 by decide)
  · obtain ⟨v, hv, rfl⟩ := List.mem_map.mp hc
    exact hi.refs o (List.mem_append.mpr (Or.inr ho)) v hv hk
theorem min_rem (hi : HI H nu ol) {rs : List (Nat × Nat)} {f : Nat × Nat → Vl} {r : Int} (hr : r ∈ H.rem) : ∃ (j : Nat) (x : HCell), r = ((H.room + j : Nat) : Int) ∧ H.old[j]? = some x ∧ (x.vk = 4 → (minPar w hb nb mb ov rv B H nu (minSrc H rs f)).from_ x.vn = true → ∃ o, Leads (minPar w hb nb mb ov rv B H nu (minSrc H rs f)) o ∧ x.vn = (o.addr : Int)) := by
  obtain ⟨j, e, hj⟩ := hi.rem1 r hr
  refine ⟨j, H.old[j], e, List.getElem?_eq_getElem hj, fun h1 h2 => ?_⟩
  obtain ⟨y, hy, e2⟩ := min_leads hi h2 (old_ref hi (List.getElem?_eq_getElem hj) h1)
  exact ⟨y, Leads.src hy (Or.inr ⟨j, _, by rw [← e]; exact hr, List.getElem?_eq_getElem hj, h1, e2⟩), e2⟩
theorem min_root (hi : HI H nu ol) {rs : List (Nat × Nat)} {f : Nat × Nat → Vl} (hroot : ∀ a ∈ rs, (f a).k = 4 → ∃ x ∈ nu ++ ol, (f a).n = (x.addr : Int)) : ∀ a ∈ rs, (f a).k = 4 → (minPar w hb nb mb ov rv B H nu (minSrc H rs f)).from_ (f a).n = true → ∃ o, Leads (minPar w hb nb mb ov rv B H nu (minSrc H rs f)) o ∧ (f a).n = (o.addr : Int) := by
  intro a ha h1 h2
  obtain ⟨y, hy, e⟩ := min_leads hi h2 (hroot a ha h1)
  exact ⟨y, Leads.src hy (Or.inl ⟨a, ha, h1, e⟩), e⟩
end Go.Proofs.Ythbkklnahhdgcaa.ChR
