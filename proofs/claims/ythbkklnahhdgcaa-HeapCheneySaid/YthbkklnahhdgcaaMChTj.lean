/-
  HeapCheney's second loop: the links.
-/
import Derived.Test.YthbkklnahhdgcaaMChTja
namespace Go.Proofs.Ythbkklnahhdgcaa.ChTj
open Go Go.Proofs Go.RowKit Go.Maps Go.Proofs.Ythbkklnahhdgcaa.Lib Go.Proofs.Ythbkklnahhdgcaa.HeapR Go.Proofs.Ythbkklnahhdgcaa.HeapB Go.Proofs.Ythbkklnahhdgcaa.HeapC Go.Proofs.Ythbkklnahhdgcaa.HeapD Go.Proofs.Ythbkklnahhdgcaa.HeapG Go.Proofs.Ythbkklnahhdgcaa.HeapH Go.Proofs.Ythbkklnahhdgcaa.ChA Go.Proofs.Ythbkklnahhdgcaa.ChT Go.Proofs.Ythbkklnahhdgcaa.ChCa Go.Proofs.Ythbkklnahhdgcaa.ChCc Go.Proofs.Ythbkklnahhdgcaa.ChE Go.Proofs.Ythbkklnahhdgcaa.ChH Go.Proofs.Ythbkklnahhdgcaa.ChL Go.Proofs.Ythbkklnahhdgcaa.ChM Go.Proofs.Ythbkklnahhdgcaa.ChN Go.Proofs.Ythbkklnahhdgcaa.ChO Go.Proofs.Ythbkklnahhdgcaa.ChR Go.Proofs.Ythbkklnahhdgcaa.ChU Go.Proofs.Ythbkklnahhdgcaa.ChV Go.Proofs.Ythbkklnahhdgcaa.ChW Go.Proofs.Ythbkklnahhdgcaa.ChZ Go.Proofs.Ythbkklnahhdgcaa.ChTe Go.Proofs.Ythbkklnahhdgcaa.ChTh Go.Proofs.Ythbkklnahhdgcaa.ChTi Go.Proofs.Ythbkklnahhdgcaa.ChTja

theorem refVals_get : ∀ {l : List Ob} {j : Nat} {x : Ob}, l[j]? = some x → (refVals l)[j * 3]? = some (.int .i64 4) ∧ (refVals l)[j * 3 + 1]? = some (.int .i64 (x.addr : Int)) ∧ (refVals l)[j * 3 + 2]? = some (.string ByteArray.empty)
  | [], j, x, h => by cases h
  | y :: l, 0, x, h => by
    simp only [List.getElem?_cons_zero, Option.some.injEq] at h
    subst h
    exact ⟨rfl, rfl, rfl⟩
  | y :: l, j + 1, x, h => by
    rw [List.getElem?_cons_succ] at h
    have ih := refVals_get h
    have h1 : ∀ q, (refVals (y :: l))[(j + 1) * 3 + q]? = (refVals l)[j * 3 + q]? := fun q => by
      rw [show (j + 1) * 3 + q = (j * 3 + q) + 1 + 1 + 1 by omega]
      rfl
    exact ⟨(h1 0).trans ih.1, (h1 1).trans ih.2.1, (h1 2).trans ih.2.2⟩
/-- A row of values that lead to objects: what lies there. -/
theorem row_ref {w : World} {base g cap n : Nat} {nu : List Ob} (h : w.ownsRow base 34 3 (.slice (some ⟨g, 0, none⟩) n cap) n (refVals nu)) {j : Nat} {x : Ob} (hx : nu[j]? = some x) (hj : j < n) :
    w.cell? ⟨g, j * 3, none⟩ = some (.int .i64 4) ∧ w.cell? ⟨g, j * 3 + 1, none⟩ = some (.int .i64 (x.addr : Int)) ∧ w.cell? ⟨g, j * 3 + 2, none⟩ = some (.string ByteArray.empty) := by
  obtain ⟨h1, h2, h3⟩ := refVals_get hx
  exact ⟨(h.cellAt _ (by omega)).trans h1, (h.cellAt _ (by omega)).trans h2, (h.cellAt _ (by omega)).trans h3⟩
theorem refVals_set (l : List Ob) (a i : Nat) (v : Vl) : refVals (setOb l a i v) = refVals l := by
  induction l with
  | nil => rfl
  | cons x l ih =>
    show refVals ((if x.addr = a then { x with fs := x.fs.set i v } else x) :: setOb l a i v) = _
    unfold refVals at ih ⊢
    rw [List.flatMap_cons, List.flatMap_cons, ih, setOb_addr]
/-- What holds at each round. -/
def RelB (w0 : World) (hb nb mb B n g cap : Nat) (wr : World) : Prop :=
  ∃ H nu, Young wr hb nb mb B n H nu ∧ wr.ownsRow w0.heap.size 34 3 (.slice (some ⟨g, 0, none⟩) n cap) n (refVals nu) ∧ Turned (fun k => k = hb ∨ k = nb ∨ k = mb) w0 wr

def InvB (oa1 : Option Addr) (c1 : Nat) (links : List Int) (w0 : World) (hb nb mb B n g cap : Nat) (u0 u2 u3 u4 u5 u6 u8 u10 u11 u12 u17 u18 u19 u20 u21 u22 u23 u24 u25 u26 u27 u28 u29 u30 u31 u32 u33 u34 u35 u36 u37 u38 u39 u40 u41 u42 u43 u44 u45 u46 u47 u48 u49 u50 u51 u52 u53 u54 u55 u56 u57 u58 u59 u60 u61 u62 u63 u64 u65 u66 u67 u68 u69 u70 u71 u72 u73 u74 u75 u76 u77 u140 u141 u142 u143 u144 u145 u146 u147 u148 u149 u150 u151 u152 u153 u154 u155 u156 u157 u158 u159 u160 u161 u162 u163 u164 u165 u166 u167 u168 u169 u170 u171 u172 u173 u174 u175 u176 u177 u178 u179 u180 u181 u182 u183 u184 u185 u186 u187 u188 u189 u190 : Value) (a : Act) (wr : World) : Prop :=
  ∃ (i : Nat) (s14 s15 s16 s78 s79 s80 s81 s82 s83 s84 s85 s86 s87 s88 s89 s90 s91 s92 s93 s94 s95 s96 s97 s98 s99 s100 s101 s102 s103 s104 s105 s106 s107 s108 s109 s110 s111 s112 s113 s114 s115 s116 s117 s118 s119 s120 s121 s122 s123 s124 s125 s126 s127 s128 s129 s130 s131 s132 s133 s134 s135 s136 s137 s138 s139 : Value), i ≤ links.length + 2 ∧ RelB w0 hb nb mb B n g cap wr ∧ a = ⟨#[u0, (.slice oa1 links.length c1), u2, u3, u4, u5, u6, (.pointer (some ⟨hb, 0, none⟩)), u8, (.slice (some ⟨g, 0, none⟩) n cap), u10, u11, u12, (.int .i64 (i : Int)), s14, s15, s16, u17, u18, u19, u20, u21, u22, u23, u24, u25, u26, u27, u28, u29, u30, u31, u32, u33, u34, u35, u36, u37, u38, u39, u40, u41, u42, u43, u44, u45, u46, u47, u48, u49, u50, u51, u52, u53, u54, u55, u56, u57, u58, u59, u60, u61, u62, u63, u64, u65, u66, u67, u68, u69, u70, u71, u72, u73, u74, u75, u76, u77, s78, s79, s80, s81, s82, s83, s84, s85, s86, s87, s88, s89, s90, s91, s92, s93, s94, s95, s96, s97, s98, s99, s100, s101, s102, s103, s104, s105, s106, s107, s108, s109, s110, s111, s112, s113, s114, s115, s116, s117, s118, s119, s120, s121, s122, s123, s124, s125, s126, s127, s128, s129, s130, s131, s132, s133, s134, s135, s136, s137, s138, s139, u140, u141, u142, u143, u144, u145, u146, u147, u148, u149, u150, u151, u152, u153, u154, u155, u156, u157, u158, u159, u160, u161, u162, u163, u164, u165, u166, u167, u168, u169, u170, u171, u172, u173, u174, u175, u176, u177, u178, u179, u180, u181, u182, u183, u184, u185, u186, u187, u188, u189, u190], []⟩
def muB (n : Nat) (a : Act) (_ : World) : Nat := n - (intOf (a.tmps.getD 13 undef)).toNat

set_option maxRecDepth 100000 in
set_option maxHeartbeats 4000000 in
theorem link_loop {Q : Exit → Act → World → Prop} (u0 u2 u3 u4 u5 u6 u8 u10 u11 u12 u14 u15 u16 u17 u18 u19 u20 u21 u22 u23 u24 u25 u26 u27 u28 u29 u30 u31 u32 u33 u34 u35 u36 u37 u38 u39 u40 u41 u42 u43 u44 u45 u46 u47 u48 u49 u50 u51 u52 u53 u54 u55 u56 u57 u58 u59 u60 u61 u62 u63 u64 u65 u66 u67 u68 u69 u70 u71 u72 u73 u74 u75 u76 u77 u78 u79 u80 u81 u82 u83 u84 u85 u86 u87 u88 u89 u90 u91 u92 u93 u94 u95 u96 u97 u98 u99 u100 u101 u102 u103 u104 u105 u106 u107 u108 u109 u110 u111 u112 u113 u114 u115 u116 u117 u118 u119 u120 u121 u122 u123 u124 u125 u126 u127 u128 u129 u130 u131 u132 u133 u134 u135 u136 u137 u138 u139 u140 u141 u142 u143 u144 u145 u146 u147 u148 u149 u150 u151 u152 u153 u154 u155 u156 u157 u158 u159 u160 u161 u162 u163 u164 u165 u166 u167 u168 u169 u170 u171 u172 u173 u174 u175 u176 u177 u178 u179 u180 u181 u182 u183 u184 u185 u186 u187 u188 u189 u190 : Value) (oa1 : Option Addr) (a1 o1 c1 : Nat) (links : List Int) (hoa : 0 < links.length → oa1 = some ⟨a1, o1, none⟩) (w0 w : World) (hb nb mb B n g cap : Nat) (hn : 0 < n) (hn30 : n ≤ 30) (hl90 : links.length ≤ 90)
    (hcell : ∀ (i : Nat) (v : Int), links[i]? = some v → w0.cell? ⟨a1, o1 + i, none⟩ = some (.int .i64 v)) (ha : ¬ (a1 = hb ∨ a1 = nb ∨ a1 = mb)) (hw0 : hb < w0.heap.size ∧ nb < w0.heap.size ∧ mb < w0.heap.size)
    (h0 : RelB w0 hb nb mb B n g cap w)
    (hQ : ∀ (i : Nat) (s14 s15 s16 s78 s79 s80 s81 s82 s83 s84 s85 s86 s87 s88 s89 s90 s91 s92 s93 s94 s95 s96 s97 s98 s99 s100 s101 s102 s103 s104 s105 s106 s107 s108 s109 s110 s111 s112 s113 s114 s115 s116 s117 s118 s119 s120 s121 s122 s123 s124 s125 s126 s127 s128 s129 s130 s131 s132 s133 s134 s135 s136 s137 s138 s139 : Value) (w' : World), RelB w0 hb nb mb B n g cap w' → Q (.exit 2) ⟨#[u0, (.slice oa1 links.length c1), u2, u3, u4, u5, u6, (.pointer (some ⟨hb, 0, none⟩)), u8, (.slice (some ⟨g, 0, none⟩) n cap), u10, u11, u12, (.int .i64 (i : Int)), s14, s15, s16, u17, u18, u19, u20, u21, u22, u23, u24, u25, u26, u27, u28, u29, u30, u31, u32, u33, u34, u35, u36, u37, u38, u39, u40, u41, u42, u43, u44, u45, u46, u47, u48, u49, u50, u51, u52, u53, u54, u55, u56, u57, u58, u59, u60, u61, u62, u63, u64, u65, u66, u67, u68, u69, u70, u71, u72, u73, u74, u75, u76, u77, s78, s79, s80, s81, s82, s83, s84, s85, s86, s87, s88, s89, s90, s91, s92, s93, s94, s95, s96, s97, s98, s99, s100, s101, s102, s103, s104, s105, s106, s107, s108, s109, s110, s111, s112, s113, s114, s115, s116, s117, s118, s119, s120, s121, s122, s123, s124, s125, s126, s127, s128, s129, s130, s131, s132, s133, s134, s135, s136, s137, s138, s139, u140, u141, u142, u143, u144, u145, u146, u147, u148, u149, u150, u151, u152, u153, u154, u155, u156, u157, u158, u159, u160, u161, u162, u163, u164, u165, u166, u167, u168, u169, u170, u171, u172, u173, u174, u175, u176, u177, u178, u179, u180, u181, u182, u183, u184, u185, u186, u187, u188, u189, u190], []⟩ w') :
    Code.wp Try.prog (Cut.piece Try.f3 (Cut.loop 15)) Q ⟨#[u0, (.slice oa1 links.length c1), u2, u3, u4, u5, u6, (.pointer (some ⟨hb, 0, none⟩)), u8, (.slice (some ⟨g, 0, none⟩) n cap), u10, u11, u12, (.int .i64 (0 : Int)), u14, u15, u16, u17, u18, u19, u20, u21, u22, u23, u24, u25, u26, u27, u28, u29, u30, u31, u32, u33, u34, u35, u36, u37, u38, u39, u40, u41, u42, u43, u44, u45, u46, u47, u48, u49, u50, u51, u52, u53, u54, u55, u56, u57, u58, u59, u60, u61, u62, u63, u64, u65, u66, u67, u68, u69, u70, u71, u72, u73, u74, u75, u76, u77, u78, u79, u80, u81, u82, u83, u84, u85, u86, u87, u88, u89, u90, u91, u92, u93, u94, u95, u96, u97, u98, u99, u100, u101, u102, u103, u104, u105, u106, u107, u108, u109, u110, u111, u112, u113, u114, u115, u116, u117, u118, u119, u120, u121, u122, u123, u124, u125, u126, u127, u128, u129, u130, u131, u132, u133, u134, u135, u136, u137, u138, u139, u140, u141, u142, u143, u144, u145, u146, u147, u148, u149, u150, u151, u152, u153, u154, u155, u156, u157, u158, u159, u160, u161, u162, u163, u164, u165, u166, u167, u168, u169, u170, u171, u172, u173, u174, u175, u176, u177, u178, u179, u180, u181, u182, u183, u184, u185, u186, u187, u188, u189, u190], []⟩ w := by
  conv => arg 2; whnf
  refine wp_loop (InvB oa1 c1 links w0 hb nb mb B n g cap u0 u2 u3 u4 u5 u6 u8 u10 u11 u12 u17 u18 u19 u20 u21 u22 u23 u24 u25 u26 u27 u28 u29 u30 u31 u32 u33 u34 u35 u36 u37 u38 u39 u40 u41 u42 u43 u44 u45 u46 u47 u48 u49 u50 u51 u52 u53 u54 u55 u56 u57 u58 u59 u60 u61 u62 u63 u64 u65 u66 u67 u68 u69 u70 u71 u72 u73 u74 u75 u76 u77 u140 u141 u142 u143 u144 u145 u146 u147 u148 u149 u150 u151 u152 u153 u154 u155 u156 u157 u158 u159 u160 u161 u162 u163 u164 u165 u166 u167 u168 u169 u170 u171 u172 u173 u174 u175 u176 u177 u178 u179 u180 u181 u182 u183 u184 u185 u186 u187 u188 u189 u190) (muB (links.length + 3)) ?_ (fun a' wr hI => ?_)
  · exact ⟨0, u14, u15, u16, u78, u79, u80, u81, u82, u83, u84, u85, u86, u87, u88, u89, u90, u91, u92, u93, u94, u95, u96, u97, u98, u99, u100, u101, u102, u103, u104, u105, u106, u107, u108, u109, u110, u111, u112, u113, u114, u115, u116, u117, u118, u119, u120, u121, u122, u123, u124, u125, u126, u127, u128, u129, u130, u131, u132, u133, u134, u135, u136, u137, u138, u139, Nat.zero_le _, h0, rfl⟩
  obtain ⟨i, hI⟩ := hI
  obtain ⟨s14, hI⟩ := hI
  obtain ⟨s15, hI⟩ := hI
  obtain ⟨s16, hI⟩ := hI
  obtain ⟨s78, hI⟩ := hI
  obtain ⟨s79, hI⟩ := hI
  obtain ⟨s80, hI⟩ := hI
  obtain ⟨s81, hI⟩ := hI
  obtain ⟨s82, hI⟩ := hI
  obtain ⟨s83, hI⟩ := hI
  obtain ⟨s84, hI⟩ := hI
  obtain ⟨s85, hI⟩ := hI
  obtain ⟨s86, hI⟩ := hI
  obtain ⟨s87, hI⟩ := hI
  obtain ⟨s88, hI⟩ := hI
  obtain ⟨s89, hI⟩ := hI
  obtain ⟨s90, hI⟩ := hI
  obtain ⟨s91, hI⟩ := hI
  obtain ⟨s92, hI⟩ := hI
  obtain ⟨s93, hI⟩ := hI
  obtain ⟨s94, hI⟩ := hI
  obtain ⟨s95, hI⟩ := hI
  obtain ⟨s96, hI⟩ := hI
  obtain ⟨s97, hI⟩ := hI
  obtain ⟨s98, hI⟩ := hI
  obtain ⟨s99, hI⟩ := hI
  obtain ⟨s100, hI⟩ := hI
  obtain ⟨s101, hI⟩ := hI
  obtain ⟨s102, hI⟩ := hI
  obtain ⟨s103, hI⟩ := hI
  obtain ⟨s104, hI⟩ := hI
  obtain ⟨s105, hI⟩ := hI
  obtain ⟨s106, hI⟩ := hI
  obtain ⟨s107, hI⟩ := hI
  obtain ⟨s108, hI⟩ := hI
  obtain ⟨s109, hI⟩ := hI
  obtain ⟨s110, hI⟩ := hI
  obtain ⟨s111, hI⟩ := hI
  obtain ⟨s112, hI⟩ := hI
  obtain ⟨s113, hI⟩ := hI
  obtain ⟨s114, hI⟩ := hI
  obtain ⟨s115, hI⟩ := hI
  obtain ⟨s116, hI⟩ := hI
  obtain ⟨s117, hI⟩ := hI
  obtain ⟨s118, hI⟩ := hI
  obtain ⟨s119, hI⟩ := hI
  obtain ⟨s120, hI⟩ := hI
  obtain ⟨s121, hI⟩ := hI
  obtain ⟨s122, hI⟩ := hI
  obtain ⟨s123, hI⟩ := hI
  obtain ⟨s124, hI⟩ := hI
  obtain ⟨s125, hI⟩ := hI
  obtain ⟨s126, hI⟩ := hI
  obtain ⟨s127, hI⟩ := hI
  obtain ⟨s128, hI⟩ := hI
  obtain ⟨s129, hI⟩ := hI
  obtain ⟨s130, hI⟩ := hI
  obtain ⟨s131, hI⟩ := hI
  obtain ⟨s132, hI⟩ := hI
  obtain ⟨s133, hI⟩ := hI
  obtain ⟨s134, hI⟩ := hI
  obtain ⟨s135, hI⟩ := hI
  obtain ⟨s136, hI⟩ := hI
  obtain ⟨s137, hI⟩ := hI
  obtain ⟨s138, hI⟩ := hI
  obtain ⟨s139, hI⟩ := hI
  obtain ⟨hib, ⟨H, nu, hY, hrow, hT⟩, rfl⟩ := hI
  have b3 : i + 3 ≤ big := by unfold big; omega
  have b2 : i + 2 ≤ big := by unfold big; omega
  have d3 : IntKind.i64.wrap ((i : Int) + 2) = (i : Int) + 2 := wrapk_two i 2 b2
  have d6 : wrap64 ((i : Int) + 2) = (i : Int) + 2 := wrap_two i 2 b2
  clear h0
  by_cases hil : i + 2 < links.length
  · obtain rfl := hoa (by omega)
    have hil' : decide ((i : Int) + 2 < (links.length : Int)) = true := by
      simp only [decide_eq_true_eq]
      omega
    have hil2 : (i : Int) < (links.length : Int) := by omega
    have hi0 : (0 : Int) ≤ (i : Int) := by omega
    obtain ⟨v0, hv0⟩ : ∃ v, links[i]? = some v := ⟨_, List.getElem?_eq_getElem (by omega)⟩
    obtain ⟨v1, hv1⟩ : ∃ v, links[i + 1]? = some v := ⟨_, List.getElem?_eq_getElem (by omega)⟩
    obtain ⟨v2, hv2⟩ : ∃ v, links[i + 2]? = some v := ⟨_, List.getElem?_eq_getElem hil⟩
    have k0 := hcell i v0 hv0
    have k1 := hcell (i + 1) v1 hv1
    have k2 := hcell (i + 2) v2 hv2
    have hal := World.block_lt_of_cell? w0 _ k0
    have q0 : wr.cell? ⟨a1, o1 + i, none⟩ = some (.int .i64 v0) := (hT.cell (p := ⟨a1, o1 + i, none⟩) hal ha).trans k0
    have hpick := pick_any v0 n wr hn (by unfold big; omega)
    clear hcell
    go_wp2_with fail
    refine hpick.mono ?_
    rintro e w2 ⟨⟨j, hj, rfl⟩, hb2⟩
    clear hpick
    obtain ⟨x, hx⟩ : ∃ x, nu[j]? = some x := ⟨_, List.getElem?_eq_getElem (by have := hY.len; omega)⟩
    have hrow2 := ownsRow_same hrow (fun k hk => hb2.block k (own_lt hrow hk).2)
    obtain ⟨r0, r1, r2⟩ := row_ref hrow2 hx hj
    have hj2 : (j : Int) < (n : Int) := by omega
    have hj0 : (0 : Int) ≤ (j : Int) := by omega
    have hb3 := hb2.alloc hb2.size (.cells #[.int .i64 4, .int .i64 (x.addr : Int), .string ByteArray.empty] 34 (0, 0))
    have x3 := heap_alloc_last w2 (.cells #[.int .i64 4, .int .i64 (x.addr : Int), .string ByteArray.empty] 34 (0, 0))
    generalize hw3 : w2.alloc (.cells #[.int .i64 4, .int .i64 (x.addr : Int), .string ByteArray.empty] 34 (0, 0)) = w3 at hb3 x3
    have hT3 := hT.trans (Turned.of_below (fun k => k = hb ∨ k = nb ∨ k = mb) hb3)
    have q2 : w3.cell? ⟨a1, o1 + (i + 2), none⟩ = some (.int .i64 v2) := (hT3.cell (p := ⟨a1, o1 + (i + 2), none⟩) hal ha).trans k2
    have e2 : ((i : Int) + 2).toNat = i + 2 := by omega
    have hi2 : (0 : Int) ≤ (i : Int) + 2 := by omega
    have hl2 : (i : Int) + 2 < (links.length : Int) := by omega
    have x4 := heap_alloc_last w3 (.cells #[.int .i64 2, .int .i64 v2, .string ⟨#[]⟩] 34 (0, 0))
    have x34 : (w3.alloc (.cells #[.int .i64 2, .int .i64 v2, .string ⟨#[]⟩] 34 (0, 0))).heap[w2.heap.size]? = _ := (Below.heap_alloc w3 _ _ (lt_of_block x3)).trans x3
    have hb4 := hb3.alloc hb3.size (.cells #[.int .i64 2, .int .i64 v2, .string ⟨#[]⟩] 34 (0, 0))
    have hT4 := hT.trans (Turned.of_below (fun k => k = hb ∨ k = nb ∨ k = mb) hb4)
    have q24 : (w3.alloc (.cells #[.int .i64 2, .int .i64 v2, .string ⟨#[]⟩] 34 (0, 0))).cell? ⟨a1, o1 + (i + 2), none⟩ = some (.int .i64 v2) := (hT4.cell (p := ⟨a1, o1 + (i + 2), none⟩) hal ha).trans k2
    have hsz3 := hb3.size
    have hsz2 := hb2.size
    have A9 := Lib.hid hw3
    have A10 := Lib.hid hv0
    have h23 := lt_of_block x3
    clear hv0 hv1 hv2
    cases hm3 : (v2.tmod 3 != 0) with
    | true =>
      have hpick := pick_any v2 n (w3.alloc (.cells #[.int .i64 2, .int .i64 v2, .string ⟨#[]⟩] 34 (0, 0))) hn (by unfold big; omega)
      go_wp2_with fail
      refine hpick.mono ?_
      rintro e w5 ⟨⟨j2, hj2', rfl⟩, hb5⟩
      clear hpick
      have hz4 := hb4.size
      have hb25 := hb4.trans (hb5.mono hz4)
      have x514 := (hb5.block _ (lt_of_block x34)).trans x34
      have x515 := (hb5.block _ (lt_of_block x4)).trans x4
      obtain ⟨y, hy⟩ : ∃ y, nu[j2]? = some y := ⟨_, List.getElem?_eq_getElem (by have := hY.len; omega)⟩
      have hrow5 := ownsRow_same hrow (fun k hk => hb25.block k (own_lt hrow hk).2)
      obtain ⟨t0, t1, t2⟩ := row_ref hrow5 hy hj2'
      have hj3 : (j2 : Int) < (n : Int) := by omega
      have hj4 : (0 : Int) ≤ (j2 : Int) := by omega
      have p0 := cell_of_block x515 (i := 0) rfl
      have p1 := cell_of_block x515 (i := 1) rfl
      have p2 := cell_of_block x515 (i := 2) rfl
      have f0 := frozen_of_block x515 (i := 0)
      have f1 := frozen_of_block x515 (i := 1)
      have f2 := frozen_of_block x515 (i := 2)
      have y14 := cell_of_block x514 (i := 1) rfl
      go_wp2_with fail
      have w6B := ((hb25.setCell (p := ⟨w3.heap.size, 0, none⟩) hsz3 (.int .i64 4)).setCell (p := ⟨w3.heap.size, 1, none⟩) hsz3 (.int .i64 (y.addr : Int))).setCell (p := ⟨w3.heap.size, 2, none⟩) hsz3 (.string ByteArray.empty)
      have w615 := blk_set (i := 2) (blk_set (i := 1) (blk_set (i := 0) x515 (.int .i64 4)) (.int .i64 (y.addr : Int))) (.string ByteArray.empty)
      have hne23 : w2.heap.size ≠ w3.heap.size := by omega
      have w614 : (((w5.setCell ⟨w3.heap.size, 0, none⟩ (.int .i64 4)).setCell ⟨w3.heap.size, 1, none⟩ (.int .i64 (y.addr : Int))).setCell ⟨w3.heap.size, 2, none⟩ (.string ByteArray.empty)).heap[w2.heap.size]? = _ := (blk_ne hne23).trans ((blk_ne hne23).trans ((blk_ne hne23).trans x514))
      generalize hw6 : (((w5.setCell ⟨w3.heap.size, 0, none⟩ (.int .i64 4)).setCell ⟨w3.heap.size, 1, none⟩ (.int .i64 (y.addr : Int))).setCell ⟨w3.heap.size, 2, none⟩ (.string ByteArray.empty)) = w6 at *
      have hY6 := hY.below w6B
      have hr6 := hY6.hr
      have hxm : x ∈ nu := List.mem_of_getElem? hx
      have hsize : Calls Try.prog 8 #[.pointer (some ⟨hb, 0, none⟩), .int .i64 (x.addr : Int)] w6 fun e w' => e = .returned (.int .i64 (x.fs.length : Int)) ∧ Below w6.heap.size w6 w' := Size_yes hr6 (x.addr : Int) (by have := young_sz hY hn30 x (by simpa using hxm); have := big_lt; omega) (x.head 0) (head_obj hr6 hY6.hi (by simpa using hxm))
      have y14 : w6.cell? ⟨w2.heap.size, 1, none⟩ = some (.int .i64 (x.addr : Int)) := cell_of_block w614 rfl
      go_wp2_with fail
      refine hsize.mono ?_
      rintro e w7 ⟨rfl, hb7⟩
      clear hsize
      have hz6 := w6B.size
      have hb27 := w6B.trans (hb7.mono hz6)
      have z14 : w7.cell? ⟨w2.heap.size, 1, none⟩ = some (.int .i64 (x.addr : Int)) := cell_of_block ((hb7.block _ (lt_of_block w614)).trans w614) rfl
      have z15 := (hb7.block _ (lt_of_block w615)).trans w615
      have hT7 := hT.trans (Turned.of_below (fun k => k = hb ∨ k = nb ∨ k = mb) hb27)
      have z1 : w7.cell? ⟨a1, o1 + (i + 1), none⟩ = some (.int .i64 v1) := (hT7.cell (p := ⟨a1, o1 + (i + 1), none⟩) hal ha).trans k1
      have hlo2 := hT.size
      have n14 : ¬ (w2.heap.size = hb ∨ w2.heap.size = nb ∨ w2.heap.size = mb) := by
        rintro (e | e | e) <;> omega
      have n15 : ¬ (w3.heap.size = hb ∨ w3.heap.size = nb ∨ w3.heap.size = mb) := by
        rintro (e | e | e) <;> omega
      have hY7 := hY.below hb27
      have hfin : ∀ w8, SB w7 hb nb mb B n nu w8 → RelB w0 hb nb mb B n g cap w8 := fun w8 h8 => by
        obtain ⟨t1, H', nu', t2, t3⟩ := h8
        refine ⟨H', nu', t2, ?_, hT7.trans t1⟩
        rw [refVals_lens t3]
        refine ownsRow_same hrow fun k hk => ?_
        have h1 := own_lt hrow hk
        exact (t1.block k (by have := hb27.size; omega) (fun h => by rcases h with h | h | h <;> omega)).trans (hb27.block k h1.2)
      have A0 := Lib.hid hfin
      have A1 := Lib.hid z14
      have A2 := Lib.hid hT7
      have c3 : IntKind.i64.wrap ((i : Int) + 3) = (i : Int) + 3 := wrapk_two i 3 b3
      have c6 : wrap64 ((i : Int) + 3) = (i : Int) + 3 := wrap_two i 3 b3
      clear hfin hT7
      by_cases hx0 : 0 < x.fs.length
      · go_wp2_with fail
        refine link_region _ _ _ _ _ _ _ _ _ _ _ _ _ _ _ _ _ _ _ _ _ _ _ _ _ _ _ _ _ _ _ _ _ _ _ _ _ _ _ _ _ _ _ _ _ _ _ _ _ _ _ _ _ _ _ _ _ _ _ _ _ _ _ _ _ _ _ _ _ _ _ _ _ _ _ _ _ _ _ _ _ _ _ _ _ _ _ _ _ _ _ _ _ _ _ _ _ _ _ _ _ _ _ _ _ _ _ _ _ _ _ _ _ _ _ _ _ _ _ _ _ _ _ _ _ _ _ _ _ _ _ _ _ _ _ _ _ _ _ _ _ _ _ _ _ _ _ _ _ _ _ _ _ _ _ _ _ _ _ _ _ _ _ _ _ _ _ _ _ _ _ _ _ _ _ _ _ _ _ _ _ _ _ _ _ a1 o1 c1 links.length i w2.heap.size w3.heap.size hb nb mb B n nu x ⟨4, (y.addr : Int), ByteArray.empty⟩ v1 w7 H hY7 hn30 hxm (fun _ => ⟨y, List.mem_of_getElem? hy, rfl⟩) hil hl90 hx0 z14 z1 (cell_of_block z15 rfl) (cell_of_block z15 rfl) (cell_of_block z15 rfl) n14 n15 ha ?_
        intro y123 y124 y125 y126 y127 y128 y129 y130 y131 y132 y133 y134 y135 y136 y137 y138 w8 h8
        have A5 := Lib.hid (A0.out w8 h8)
        clear h8
        go_wp2
        clear c3 c6
        refine ⟨⟨i + 3, _, _, _, _, _, _, _, _, _, _, _, _, _, _, _, _, _, _, _, _, _, _, _, _, _, _, _, _, _, _, _, _, _, _, _, _, _, _, _, _, _, _, _, _, _, _, _, _, _, _, _, _, _, _, _, _, _, _, _, _, _, _, _, _, _, by omega, A5.out, rfl⟩, ?_⟩
        simp [muB, intOf]
        omega
      · have hg : decide ((0 : Int) < (x.fs.length : Int)) = false := by
          simp only [decide_eq_false_iff_not]
          omega
        have A5 := Lib.hid (fun q => A0.out (w7.drewN q) (SB.below (w := w7) (wz := w7) ⟨Turned.refl _ _, H, nu, hY7, rfl⟩ (Lib.below_drewN (Below.refl _ _) q)))
        go_wp2_with fail
        go_quiet (fail)
        go_wp2
        clear c3 c6
        refine ⟨⟨i + 3, _, _, _, _, _, _, _, _, _, _, _, _, _, _, _, _, _, _, _, _, _, _, _, _, _, _, _, _, _, _, _, _, _, _, _, _, _, _, _, _, _, _, _, _, _, _, _, _, _, _, _, _, _, _, _, _, _, _, _, _, _, _, _, _, _, by omega, A5.out _, rfl⟩, ?_⟩
        simp [muB, intOf]
        omega
    | false =>
      have y34 := cell_of_block x34 (i := 1) rfl
      go_wp2_with fail
      generalize hw4 : (w3.alloc (.cells #[.int .i64 2, .int .i64 v2, .string ⟨#[]⟩] 34 (0, 0))) = w4 at *
      have w4B := hb4
      have w414 := x34
      have w415 := x4
      have hY6 := hY.below w4B
      have hr6 := hY6.hr
      have hxm : x ∈ nu := List.mem_of_getElem? hx
      have hsize : Calls Try.prog 8 #[.pointer (some ⟨hb, 0, none⟩), .int .i64 (x.addr : Int)] w4 fun e w' => e = .returned (.int .i64 (x.fs.length : Int)) ∧ Below w4.heap.size w4 w' := Size_yes hr6 (x.addr : Int) (by have := young_sz hY hn30 x (by simpa using hxm); have := big_lt; omega) (x.head 0) (head_obj hr6 hY6.hi (by simpa using hxm))
      have y14 : w4.cell? ⟨w2.heap.size, 1, none⟩ = some (.int .i64 (x.addr : Int)) := cell_of_block w414 rfl
      go_wp2_with fail
      refine hsize.mono ?_
      rintro e w7 ⟨rfl, hb7⟩
      clear hsize
      have hz6 := w4B.size
      have hb27 := w4B.trans (hb7.mono hz6)
      have z14 : w7.cell? ⟨w2.heap.size, 1, none⟩ = some (.int .i64 (x.addr : Int)) := cell_of_block ((hb7.block _ (lt_of_block w414)).trans w414) rfl
      have z15 := (hb7.block _ (lt_of_block w415)).trans w415
      have hT7 := hT.trans (Turned.of_below (fun k => k = hb ∨ k = nb ∨ k = mb) hb27)
      have z1 : w7.cell? ⟨a1, o1 + (i + 1), none⟩ = some (.int .i64 v1) := (hT7.cell (p := ⟨a1, o1 + (i + 1), none⟩) hal ha).trans k1
      have hlo2 := hT.size
      have n14 : ¬ (w2.heap.size = hb ∨ w2.heap.size = nb ∨ w2.heap.size = mb) := by
        rintro (e | e | e) <;> omega
      have n15 : ¬ (w3.heap.size = hb ∨ w3.heap.size = nb ∨ w3.heap.size = mb) := by
        rintro (e | e | e) <;> omega
      have hY7 := hY.below hb27
      have hfin : ∀ w8, SB w7 hb nb mb B n nu w8 → RelB w0 hb nb mb B n g cap w8 := fun w8 h8 => by
        obtain ⟨t1, H', nu', t2, t3⟩ := h8
        refine ⟨H', nu', t2, ?_, hT7.trans t1⟩
        rw [refVals_lens t3]
        refine ownsRow_same hrow fun k hk => ?_
        have h1 := own_lt hrow hk
        exact (t1.block k (by have := hb27.size; omega) (fun h => by rcases h with h | h | h <;> omega)).trans (hb27.block k h1.2)
      have A0 := Lib.hid hfin
      have A1 := Lib.hid z14
      have A2 := Lib.hid hT7
      have c3 : IntKind.i64.wrap ((i : Int) + 3) = (i : Int) + 3 := wrapk_two i 3 b3
      have c6 : wrap64 ((i : Int) + 3) = (i : Int) + 3 := wrap_two i 3 b3
      clear hfin hT7
      by_cases hx0 : 0 < x.fs.length
      · go_wp2_with fail
        refine link_region _ _ _ _ _ _ _ _ _ _ _ _ _ _ _ _ _ _ _ _ _ _ _ _ _ _ _ _ _ _ _ _ _ _ _ _ _ _ _ _ _ _ _ _ _ _ _ _ _ _ _ _ _ _ _ _ _ _ _ _ _ _ _ _ _ _ _ _ _ _ _ _ _ _ _ _ _ _ _ _ _ _ _ _ _ _ _ _ _ _ _ _ _ _ _ _ _ _ _ _ _ _ _ _ _ _ _ _ _ _ _ _ _ _ _ _ _ _ _ _ _ _ _ _ _ _ _ _ _ _ _ _ _ _ _ _ _ _ _ _ _ _ _ _ _ _ _ _ _ _ _ _ _ _ _ _ _ _ _ _ _ _ _ _ _ _ _ _ _ _ _ _ _ _ _ _ _ _ _ _ _ _ _ _ _ a1 o1 c1 links.length i w2.heap.size w3.heap.size hb nb mb B n nu x ⟨2, v2, ⟨#[]⟩⟩ v1 w7 H hY7 hn30 hxm (fun h => by cases h) hil hl90 hx0 z14 z1 (cell_of_block z15 rfl) (cell_of_block z15 rfl) (cell_of_block z15 rfl) n14 n15 ha ?_
        intro y123 y124 y125 y126 y127 y128 y129 y130 y131 y132 y133 y134 y135 y136 y137 y138 w8 h8
        have A5 := Lib.hid (A0.out w8 h8)
        clear h8
        go_wp2
        clear c3 c6
        refine ⟨⟨i + 3, _, _, _, _, _, _, _, _, _, _, _, _, _, _, _, _, _, _, _, _, _, _, _, _, _, _, _, _, _, _, _, _, _, _, _, _, _, _, _, _, _, _, _, _, _, _, _, _, _, _, _, _, _, _, _, _, _, _, _, _, _, _, _, _, _, by omega, A5.out, rfl⟩, ?_⟩
        simp [muB, intOf]
        omega
      · have hg : decide ((0 : Int) < (x.fs.length : Int)) = false := by
          simp only [decide_eq_false_iff_not]
          omega
        have A5 := Lib.hid (fun q => A0.out (w7.drewN q) (SB.below (w := w7) (wz := w7) ⟨Turned.refl _ _, H, nu, hY7, rfl⟩ (Lib.below_drewN (Below.refl _ _) q)))
        go_wp2_with fail
        go_quiet (fail)
        go_wp2
        clear c3 c6
        refine ⟨⟨i + 3, _, _, _, _, _, _, _, _, _, _, _, _, _, _, _, _, _, _, _, _, _, _, _, _, _, _, _, _, _, _, _, _, _, _, _, _, _, _, _, _, _, _, _, _, _, _, _, _, _, _, _, _, _, _, _, _, _, _, _, _, _, _, _, _, _, by omega, A5.out _, rfl⟩, ?_⟩
        simp [muB, intOf]
        omega
  · have hil' : decide ((i : Int) + 2 < (links.length : Int)) = false := by
      simp only [decide_eq_false_iff_not]
      omega
    have A1 := Lib.hid (show RelB w0 hb nb mb B n g cap wr from ⟨H, nu, hY, hrow, hT⟩)
    clear hcell hY hrow hT
    go_wp2
    exact A1.out

end Go.Proofs.Ythbkklnahhdgcaa.ChTj
