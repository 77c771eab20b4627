/-
  Package heap's collector: what move does behind its loop: the mark, and the identity's new place.
-/
import Derived.Test.YthbkklnahhdgcaaMChCb
import Derived.Maps.OwnOps
import Derived.StillTailTactics
namespace Go.Proofs.Ythbkklnahhdgcaa.ChCc
open Go Go.Proofs Go.RowKit Go.Maps Lib HeapR HeapA HeapB HeapF ChA ChB ChCa

theorem lit_wf (n : Int) (h0 : 0 ≤ n) (h1 : n ≤ 4611686018427387904) : (Lit.int .i64 n).wf = true := by
  have e1 : IntKind.i64.min = -9223372036854775808 := by decide
  have e2 : IntKind.i64.max = 9223372036854775807 := by decide
  show (decide (IntKind.i64.min ≤ n) && decide (n ≤ IntKind.i64.max)) = true
  rw [e1, e2, decide_eq_true (by omega), decide_eq_true (by omega)]
  rfl
theorem big_lt : big < 4611686018427387904 := by unfold big; omega
theorem lt_max (m : Nat) (h : m < big) : m < maxLen := by
  unfold big at h
  unfold maxLen
  omega
/-- The map with an object's identity, if it has one. -/
def putId (id : Int) (at_ : Nat) (D : DataW Unit) : DataW Unit := if id = 0 then D else D.put (.int .i64 id) (.lit (.int .i64 (at_ : Int)))

set_option maxRecDepth 100000 in
set_option maxHeartbeats 1000000 in
theorem mark_zero {Q : Exit → Act → World → Prop} (u2 u3 u6 u7 u8 u9 u10 u11 u12 u13 u14 u15 u16 u17 u18 u19 u20 u21 u22 u23 u24 u25 u26 u27 u28 u29 u30 u31 u32 u33 u34 u35 u36 u37 u38 u39 u40 u41 u42 u43 u44 u45 u46 u47 u48 u49 u50 u51 u52 u53 u54 u55 u56 u57 u58 u59 u60 u61 u62 u63 u64 u65 u66 u67 u68 u69 u70 u71 u72 u73 u74 u75 u76 u77 u78 u79 u80 u81 u82 u83 u84 u85 u86 u87 u88 u89 u90 u91 u92 u93 u94 u95 u96 u97 u98 u99 u100 u101 u102 u103 u104 u105 u106 u107 u108 u109 u110 u111 : Value) (kb hb xb xo vb vo wb m : Nat) (at_ : Nat) (ai id : Int) (hai : ai = (at_ : Int)) (tv fv : Value) (X : Array Value) (D : DataW Unit) (w : World) (hid : id = 0) (hi0 : 0 ≤ id) (hi1 : id ≤ 4611686018427387904) (ha : at_ + 1 ≤ big)
    (hkb : w.heap[kb]? = some (kblk hb tv fv (.map (some wb)))) (hX : w.heap[xb]? = some (.cells X 55 (0, 0))) (x2 : X[xo + 2]? = some (.int .i64 id)) (x7 : ∃ v, X[xo + 7]? = some v)
    (hm : w.ownsMap Try.prog 3 (plainElem Try.prog 3) wb m D) (hml : m < big) (d1 : xb ≠ kb) (d2 : xb ≠ wb)
    (hQ : ∀ (s83 s84 s85 s86 s87 s88 s89 s90 s91 s92 s93 s94 s95 s96 s97 s98 s99 s100 s101 s102 s103 : Value) (w' : World), w'.heap[xb]? = some (.cells (X.setIfInBounds (xo + 7) (.int .i64 ((at_ : Int) + 1))) 55 (0, 0)) → w'.ownsMap Try.prog 3 (plainElem Try.prog 3) wb (m + 1) (putId id at_ D) → Turned (fun k => k = xb ∨ k = wb) w w' → Q .normal ⟨#[(.pointer (some ⟨kb, 0, none⟩)), (.pointer (some ⟨vb, vo, none⟩)), u2, u3, (.pointer (some ⟨xb, xo, none⟩)), (.int .i64 ai), u6, u7, u8, u9, u10, u11, u12, u13, u14, u15, u16, u17, u18, u19, u20, u21, u22, u23, u24, u25, u26, u27, u28, u29, u30, u31, u32, u33, u34, u35, u36, u37, u38, u39, u40, u41, u42, u43, u44, u45, u46, u47, u48, u49, u50, u51, u52, u53, u54, u55, u56, u57, u58, u59, u60, u61, u62, u63, u64, u65, u66, u67, u68, u69, u70, u71, u72, u73, u74, u75, u76, u77, u78, u79, u80, u81, u82, s83, s84, s85, s86, s87, s88, s89, s90, s91, s92, s93, s94, s95, s96, s97, s98, s99, s100, s101, s102, s103, u104, u105, u106, u107, u108, u109, u110, u111], []⟩ w') :
    Code.wp Try.prog (Cut.piece Try.f23 (Cut.tail 9)) Q ⟨#[(.pointer (some ⟨kb, 0, none⟩)), (.pointer (some ⟨vb, vo, none⟩)), u2, u3, (.pointer (some ⟨xb, xo, none⟩)), (.int .i64 ai), u6, u7, u8, u9, u10, u11, u12, u13, u14, u15, u16, u17, u18, u19, u20, u21, u22, u23, u24, u25, u26, u27, u28, u29, u30, u31, u32, u33, u34, u35, u36, u37, u38, u39, u40, u41, u42, u43, u44, u45, u46, u47, u48, u49, u50, u51, u52, u53, u54, u55, u56, u57, u58, u59, u60, u61, u62, u63, u64, u65, u66, u67, u68, u69, u70, u71, u72, u73, u74, u75, u76, u77, u78, u79, u80, u81, u82, u83, u84, u85, u86, u87, u88, u89, u90, u91, u92, u93, u94, u95, u96, u97, u98, u99, u100, u101, u102, u103, u104, u105, u106, u107, u108, u109, u110, u111], []⟩ w := by
  subst hai
  have hsum : wrap64 ((at_ : Int) + 1) = (at_ : Int) + 1 := wrap_two at_ 1 ha
  have hsum' : IntKind.i64.wrap ((at_ : Int) + 1) = (at_ : Int) + 1 := wrapk_two at_ 1 ha
  have hat : (Lit.int .i64 (at_ : Int)).wf = true := lit_wf _ (by omega) (by have := big_lt; omega)
  have hidw : (Lit.int .i64 id).wf = true := lit_wf _ hi0 hi1
  have hmm : m < maxLen := lt_max m hml
  obtain ⟨v7, x7⟩ := x7
  have hX7 : w.cell? ⟨xb, xo + 7, none⟩ = some v7 := cell_of_block hX x7
  have hXf : w.frozen? ⟨xb, xo + 7, none⟩ = false := frozen_of_block hX
  have hX1 := blk_set (i := xo + 7) hX (.int .i64 ((at_ : Int) + 1))
  have hk1 : (w.setCell ⟨xb, xo + 7, none⟩ (.int .i64 ((at_ : Int) + 1))).heap[kb]? = some (kblk hb tv fv (.map (some wb))) := (blk_ne (Ne.symm d1)).trans hkb
  have hm1 := ownsMap_same hm (w' := w.setCell ⟨xb, xo + 7, none⟩ (.int .i64 ((at_ : Int) + 1))) (blk_ne (Ne.symm d2))
  have hT1 : Turned (fun k => k = xb ∨ k = wb) w (w.setCell ⟨xb, xo + 7, none⟩ (.int .i64 ((at_ : Int) + 1))) := (Turned.refl _ w).setCell (Or.inl (Or.inl rfl)) _
  have hX2 : (w.setCell ⟨xb, xo + 7, none⟩ (.int .i64 ((at_ : Int) + 1))).cell? ⟨xb, xo + 2, none⟩ = some (.int .i64 id) := cell_of_block hX1 (by rw [Array.getElem?_setIfInBounds_ne (by omega)]; exact x2)
  have k3 : (w.setCell ⟨xb, xo + 7, none⟩ (.int .i64 ((at_ : Int) + 1))).cell? ⟨kb, 3, none⟩ = some (.map (some wb)) := cell_of_block hk1 rfl
  clear hkb hX x7 hm hk1 x2
  have hidb : (id != 0) = false := by simpa using hid
  have hp : putId id at_ D = D := by unfold putId; rw [if_pos hid]
  clear hid
  conv => arg 2; whnf
  go_wp2
  exact hQ _ _ _ _ _ _ _ _ _ _ _ _ _ _ _ _ _ _ _ _ _ _ hX1 (by rw [hp]; exact hm1.mono (Nat.le_succ m)) hT1
set_option maxRecDepth 100000 in
set_option maxHeartbeats 1000000 in
theorem mark_some {Q : Exit → Act → World → Prop} (u2 u3 u6 u7 u8 u9 u10 u11 u12 u13 u14 u15 u16 u17 u18 u19 u20 u21 u22 u23 u24 u25 u26 u27 u28 u29 u30 u31 u32 u33 u34 u35 u36 u37 u38 u39 u40 u41 u42 u43 u44 u45 u46 u47 u48 u49 u50 u51 u52 u53 u54 u55 u56 u57 u58 u59 u60 u61 u62 u63 u64 u65 u66 u67 u68 u69 u70 u71 u72 u73 u74 u75 u76 u77 u78 u79 u80 u81 u82 u83 u84 u85 u86 u87 u88 u89 u90 u91 u92 u93 u94 u95 u96 u97 u98 u99 u100 u101 u102 u103 u104 u105 u106 u107 u108 u109 u110 u111 : Value) (kb hb xb xo vb vo wb m : Nat) (at_ : Nat) (ai id : Int) (hai : ai = (at_ : Int)) (tv fv : Value) (X : Array Value) (D : DataW Unit) (w : World) (hid : id ≠ 0) (hi0 : 0 ≤ id) (hi1 : id ≤ 4611686018427387904) (ha : at_ + 1 ≤ big)
    (hkb : w.heap[kb]? = some (kblk hb tv fv (.map (some wb)))) (hX : w.heap[xb]? = some (.cells X 55 (0, 0))) (x2 : X[xo + 2]? = some (.int .i64 id)) (x7 : ∃ v, X[xo + 7]? = some v)
    (hm : w.ownsMap Try.prog 3 (plainElem Try.prog 3) wb m D) (hml : m < big) (d1 : xb ≠ kb) (d2 : xb ≠ wb)
    (hQ : ∀ (s83 s84 s85 s86 s87 s88 s89 s90 s91 s92 s93 s94 s95 s96 s97 s98 s99 s100 s101 s102 s103 : Value) (w' : World), w'.heap[xb]? = some (.cells (X.setIfInBounds (xo + 7) (.int .i64 ((at_ : Int) + 1))) 55 (0, 0)) → w'.ownsMap Try.prog 3 (plainElem Try.prog 3) wb (m + 1) (putId id at_ D) → Turned (fun k => k = xb ∨ k = wb) w w' → Q .normal ⟨#[(.pointer (some ⟨kb, 0, none⟩)), (.pointer (some ⟨vb, vo, none⟩)), u2, u3, (.pointer (some ⟨xb, xo, none⟩)), (.int .i64 ai), u6, u7, u8, u9, u10, u11, u12, u13, u14, u15, u16, u17, u18, u19, u20, u21, u22, u23, u24, u25, u26, u27, u28, u29, u30, u31, u32, u33, u34, u35, u36, u37, u38, u39, u40, u41, u42, u43, u44, u45, u46, u47, u48, u49, u50, u51, u52, u53, u54, u55, u56, u57, u58, u59, u60, u61, u62, u63, u64, u65, u66, u67, u68, u69, u70, u71, u72, u73, u74, u75, u76, u77, u78, u79, u80, u81, u82, s83, s84, s85, s86, s87, s88, s89, s90, s91, s92, s93, s94, s95, s96, s97, s98, s99, s100, s101, s102, s103, u104, u105, u106, u107, u108, u109, u110, u111], []⟩ w') :
    Code.wp Try.prog (Cut.piece Try.f23 (Cut.tail 9)) Q ⟨#[(.pointer (some ⟨kb, 0, none⟩)), (.pointer (some ⟨vb, vo, none⟩)), u2, u3, (.pointer (some ⟨xb, xo, none⟩)), (.int .i64 ai), u6, u7, u8, u9, u10, u11, u12, u13, u14, u15, u16, u17, u18, u19, u20, u21, u22, u23, u24, u25, u26, u27, u28, u29, u30, u31, u32, u33, u34, u35, u36, u37, u38, u39, u40, u41, u42, u43, u44, u45, u46, u47, u48, u49, u50, u51, u52, u53, u54, u55, u56, u57, u58, u59, u60, u61, u62, u63, u64, u65, u66, u67, u68, u69, u70, u71, u72, u73, u74, u75, u76, u77, u78, u79, u80, u81, u82, u83, u84, u85, u86, u87, u88, u89, u90, u91, u92, u93, u94, u95, u96, u97, u98, u99, u100, u101, u102, u103, u104, u105, u106, u107, u108, u109, u110, u111], []⟩ w := by
  subst hai
  have hsum : wrap64 ((at_ : Int) + 1) = (at_ : Int) + 1 := wrap_two at_ 1 ha
  have hsum' : IntKind.i64.wrap ((at_ : Int) + 1) = (at_ : Int) + 1 := wrapk_two at_ 1 ha
  have hat : (Lit.int .i64 (at_ : Int)).wf = true := lit_wf _ (by omega) (by have := big_lt; omega)
  have hidw : (Lit.int .i64 id).wf = true := lit_wf _ hi0 hi1
  have hmm : m < maxLen := lt_max m hml
  obtain ⟨v7, x7⟩ := x7
  have hX7 : w.cell? ⟨xb, xo + 7, none⟩ = some v7 := cell_of_block hX x7
  have hXf : w.frozen? ⟨xb, xo + 7, none⟩ = false := frozen_of_block hX
  have hX1 := blk_set (i := xo + 7) hX (.int .i64 ((at_ : Int) + 1))
  have hk1 : (w.setCell ⟨xb, xo + 7, none⟩ (.int .i64 ((at_ : Int) + 1))).heap[kb]? = some (kblk hb tv fv (.map (some wb))) := (blk_ne (Ne.symm d1)).trans hkb
  have hm1 := ownsMap_same hm (w' := w.setCell ⟨xb, xo + 7, none⟩ (.int .i64 ((at_ : Int) + 1))) (blk_ne (Ne.symm d2))
  have hT1 : Turned (fun k => k = xb ∨ k = wb) w (w.setCell ⟨xb, xo + 7, none⟩ (.int .i64 ((at_ : Int) + 1))) := (Turned.refl _ w).setCell (Or.inl (Or.inl rfl)) _
  have hX2 : (w.setCell ⟨xb, xo + 7, none⟩ (.int .i64 ((at_ : Int) + 1))).cell? ⟨xb, xo + 2, none⟩ = some (.int .i64 id) := cell_of_block hX1 (by rw [Array.getElem?_setIfInBounds_ne (by omega)]; exact x2)
  have k3 : (w.setCell ⟨xb, xo + 7, none⟩ (.int .i64 ((at_ : Int) + 1))).cell? ⟨kb, 3, none⟩ = some (.map (some wb)) := cell_of_block hk1 rfl
  clear hkb hX x7 hm hk1 x2
  have hidb : (id != 0) = true := by simpa using hid
  have hp : putId id at_ D = D.put (.int .i64 id) (.lit (.int .i64 (at_ : Int))) := by unfold putId; rw [if_neg hid]
  clear hid
  conv => arg 2; whnf
  go_wp2
  generalize hw1 : w.setCell ⟨xb, xo + 7, none⟩ (.int .i64 ((at_ : Int) + 1)) = w1 at *
  go_still_tail 10, (by kernel_rfl)
  refine wpList_mapUpdate_own _ rfl _ _ _ 47 rfl 3 3 (int_keyed Try.underlying3) Try.underlying47 _ wb m D rfl hm1 hmm _ _ (.int .i64 id) rfl rfl (keyOf_int_mk Try.underlying3 hidw) _ [] (plainElem_int Try.underlying3 hat) ?_
  intro w2 hm2 hg2
  have hX2' : w2.heap[xb]? = _ := (hg2.block xb (lt_of_block hX1) (fun h => d2 (Option.some.inj h))).trans hX1
  have hT2 : Turned (fun k => k = xb ∨ k = wb) w w2 := hT1.drew.grown hg2 (fun k hk => Or.inl (Or.inr (Option.some.inj hk).symm))
  go_wp2
  exact hQ _ _ _ _ _ _ _ _ _ _ _ _ _ _ _ _ _ _ _ _ _ _ hX2' (by rw [hp]; exact hm2) hT2
set_option maxRecDepth 100000 in
theorem mark_any {Q : Exit → Act → World → Prop} (u2 u3 u6 u7 u8 u9 u10 u11 u12 u13 u14 u15 u16 u17 u18 u19 u20 u21 u22 u23 u24 u25 u26 u27 u28 u29 u30 u31 u32 u33 u34 u35 u36 u37 u38 u39 u40 u41 u42 u43 u44 u45 u46 u47 u48 u49 u50 u51 u52 u53 u54 u55 u56 u57 u58 u59 u60 u61 u62 u63 u64 u65 u66 u67 u68 u69 u70 u71 u72 u73 u74 u75 u76 u77 u78 u79 u80 u81 u82 u83 u84 u85 u86 u87 u88 u89 u90 u91 u92 u93 u94 u95 u96 u97 u98 u99 u100 u101 u102 u103 u104 u105 u106 u107 u108 u109 u110 u111 : Value) (kb hb xb xo vb vo wb m : Nat) (at_ : Nat) (ai id : Int) (hai : ai = (at_ : Int)) (tv fv : Value) (X : Array Value) (D : DataW Unit) (w : World) (hi0 : 0 ≤ id) (hi1 : id ≤ 4611686018427387904) (ha : at_ + 1 ≤ big)
    (hkb : w.heap[kb]? = some (kblk hb tv fv (.map (some wb)))) (hX : w.heap[xb]? = some (.cells X 55 (0, 0))) (x2 : X[xo + 2]? = some (.int .i64 id)) (x7 : ∃ v, X[xo + 7]? = some v)
    (hm : w.ownsMap Try.prog 3 (plainElem Try.prog 3) wb m D) (hml : m < big) (d1 : xb ≠ kb) (d2 : xb ≠ wb)
    (hQ : ∀ (s83 s84 s85 s86 s87 s88 s89 s90 s91 s92 s93 s94 s95 s96 s97 s98 s99 s100 s101 s102 s103 : Value) (w' : World), w'.heap[xb]? = some (.cells (X.setIfInBounds (xo + 7) (.int .i64 ((at_ : Int) + 1))) 55 (0, 0)) → w'.ownsMap Try.prog 3 (plainElem Try.prog 3) wb (m + 1) (putId id at_ D) → Turned (fun k => k = xb ∨ k = wb) w w' → Q .normal ⟨#[(.pointer (some ⟨kb, 0, none⟩)), (.pointer (some ⟨vb, vo, none⟩)), u2, u3, (.pointer (some ⟨xb, xo, none⟩)), (.int .i64 ai), u6, u7, u8, u9, u10, u11, u12, u13, u14, u15, u16, u17, u18, u19, u20, u21, u22, u23, u24, u25, u26, u27, u28, u29, u30, u31, u32, u33, u34, u35, u36, u37, u38, u39, u40, u41, u42, u43, u44, u45, u46, u47, u48, u49, u50, u51, u52, u53, u54, u55, u56, u57, u58, u59, u60, u61, u62, u63, u64, u65, u66, u67, u68, u69, u70, u71, u72, u73, u74, u75, u76, u77, u78, u79, u80, u81, u82, s83, s84, s85, s86, s87, s88, s89, s90, s91, s92, s93, s94, s95, s96, s97, s98, s99, s100, s101, s102, s103, u104, u105, u106, u107, u108, u109, u110, u111], []⟩ w') :
    Code.wp Try.prog (Cut.piece Try.f23 (Cut.tail 9)) Q ⟨#[(.pointer (some ⟨kb, 0, none⟩)), (.pointer (some ⟨vb, vo, none⟩)), u2, u3, (.pointer (some ⟨xb, xo, none⟩)), (.int .i64 ai), u6, u7, u8, u9, u10, u11, u12, u13, u14, u15, u16, u17, u18, u19, u20, u21, u22, u23, u24, u25, u26, u27, u28, u29, u30, u31, u32, u33, u34, u35, u36, u37, u38, u39, u40, u41, u42, u43, u44, u45, u46, u47, u48, u49, u50, u51, u52, u53, u54, u55, u56, u57, u58, u59, u60, u61, u62, u63, u64, u65, u66, u67, u68, u69, u70, u71, u72, u73, u74, u75, u76, u77, u78, u79, u80, u81, u82, u83, u84, u85, u86, u87, u88, u89, u90, u91, u92, u93, u94, u95, u96, u97, u98, u99, u100, u101, u102, u103, u104, u105, u106, u107, u108, u109, u110, u111], []⟩ w := by
  by_cases hid : id = 0
  · exact mark_zero _ _ _ _ _ _ _ _ _ _ _ _ _ _ _ _ _ _ _ _ _ _ _ _ _ _ _ _ _ _ _ _ _ _ _ _ _ _ _ _ _ _ _ _ _ _ _ _ _ _ _ _ _ _ _ _ _ _ _ _ _ _ _ _ _ _ _ _ _ _ _ _ _ _ _ _ _ _ _ _ _ _ _ _ _ _ _ _ _ _ _ _ _ _ _ _ _ _ _ _ _ _ _ _ _ _ _ _ kb hb xb xo vb vo wb m at_ ai id hai tv fv X D w hid hi0 hi1 ha hkb hX x2 x7 hm hml d1 d2 hQ
  · exact mark_some _ _ _ _ _ _ _ _ _ _ _ _ _ _ _ _ _ _ _ _ _ _ _ _ _ _ _ _ _ _ _ _ _ _ _ _ _ _ _ _ _ _ _ _ _ _ _ _ _ _ _ _ _ _ _ _ _ _ _ _ _ _ _ _ _ _ _ _ _ _ _ _ _ _ _ _ _ _ _ _ _ _ _ _ _ _ _ _ _ _ _ _ _ _ _ _ _ _ _ _ _ _ _ _ _ _ _ _ kb hb xb xo vb vo wb m at_ ai id hai tv fv X D w hid hi0 hi1 ha hkb hX x2 x7 hm hml d1 d2 hQ
end Go.Proofs.Ythbkklnahhdgcaa.ChCc
