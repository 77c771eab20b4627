/-
  HeapCheney's third loop: the collections.
-/
import Derived.Test.YthbkklnahhdgcaaMChTk
namespace Go.Proofs.Ythbkklnahhdgcaa.ChTl
open Go Go.Proofs Go.RowKit Go.Maps Go.Proofs.Ythbkklnahhdgcaa.Lib Go.Proofs.Ythbkklnahhdgcaa.HeapR Go.Proofs.Ythbkklnahhdgcaa.HeapB Go.Proofs.Ythbkklnahhdgcaa.HeapC Go.Proofs.Ythbkklnahhdgcaa.HeapD Go.Proofs.Ythbkklnahhdgcaa.ChA Go.Proofs.Ythbkklnahhdgcaa.ChT Go.Proofs.Ythbkklnahhdgcaa.ChCa Go.Proofs.Ythbkklnahhdgcaa.ChCc Go.Proofs.Ythbkklnahhdgcaa.ChE Go.Proofs.Ythbkklnahhdgcaa.ChH Go.Proofs.Ythbkklnahhdgcaa.ChL Go.Proofs.Ythbkklnahhdgcaa.ChN Go.Proofs.Ythbkklnahhdgcaa.ChO Go.Proofs.Ythbkklnahhdgcaa.ChV Go.Proofs.Ythbkklnahhdgcaa.ChW Go.Proofs.Ythbkklnahhdgcaa.ChTb Go.Proofs.Ythbkklnahhdgcaa.ChTd Go.Proofs.Ythbkklnahhdgcaa.ChTe Go.Proofs.Ythbkklnahhdgcaa.ChTf Go.Proofs.Ythbkklnahhdgcaa.ChTg Go.Proofs.Ythbkklnahhdgcaa.ChTh Go.Proofs.Ythbkklnahhdgcaa.ChTi Go.Proofs.Ythbkklnahhdgcaa.ChTja Go.Proofs.Ythbkklnahhdgcaa.ChTj Go.Proofs.Ythbkklnahhdgcaa.ChTk

/-- What holds at each round: E: the blocks outside. -/
def RelK (w0 : World) (hb B rb F : Nat) (was S : List Int) (E : Nat → Prop) (i : Nat) (wr : World) : Prop :=
  ∃ nb mb ov rv H nu ol x, Col wr hb nb mb ov rv B H nu ol rb x F was S i ∧ (∀ k, E k → ¬ Owns hb nb mb ov rv k ∧ wr.heap[k]? = w0.heap[k]?) ∧ w0.heap.size ≤ wr.heap.size ∧ Below B w0 wr
end Go.Proofs.Ythbkklnahhdgcaa.ChTl
namespace Go.Proofs.Ythbkklnahhdgcaa.ChTk
open Go Go.Proofs Go.RowKit Go.Maps Go.Proofs.Ythbkklnahhdgcaa.Lib Go.Proofs.Ythbkklnahhdgcaa.HeapR Go.Proofs.Ythbkklnahhdgcaa.HeapB Go.Proofs.Ythbkklnahhdgcaa.HeapC Go.Proofs.Ythbkklnahhdgcaa.HeapD Go.Proofs.Ythbkklnahhdgcaa.ChA Go.Proofs.Ythbkklnahhdgcaa.ChT Go.Proofs.Ythbkklnahhdgcaa.ChCa Go.Proofs.Ythbkklnahhdgcaa.ChCc Go.Proofs.Ythbkklnahhdgcaa.ChE Go.Proofs.Ythbkklnahhdgcaa.ChH Go.Proofs.Ythbkklnahhdgcaa.ChL Go.Proofs.Ythbkklnahhdgcaa.ChN Go.Proofs.Ythbkklnahhdgcaa.ChO Go.Proofs.Ythbkklnahhdgcaa.ChV Go.Proofs.Ythbkklnahhdgcaa.ChW Go.Proofs.Ythbkklnahhdgcaa.ChTb Go.Proofs.Ythbkklnahhdgcaa.ChTd Go.Proofs.Ythbkklnahhdgcaa.ChTe Go.Proofs.Ythbkklnahhdgcaa.ChTf Go.Proofs.Ythbkklnahhdgcaa.ChTg Go.Proofs.Ythbkklnahhdgcaa.ChTh Go.Proofs.Ythbkklnahhdgcaa.ChTi Go.Proofs.Ythbkklnahhdgcaa.ChTja Go.Proofs.Ythbkklnahhdgcaa.ChTj Go.Proofs.Ythbkklnahhdgcaa.ChTk

open Go.Proofs.Ythbkklnahhdgcaa.ChTl
theorem Col.below {w w' : World} {hb nb mb : Nat} {ov rv : Value} {B : Nat} {H : HS} {nu ol : List Ob} {rb : Nat} {x : Ob} {F : Nat} {was S : List Int} {i : Nat} (h : Col w hb nb mb ov rv B H nu ol rb x F was S i) (hw : Below w.heap.size w w') : Col w' hb nb mb ov rv B H nu ol rb x F was S i := by
  have hl : rb < w.heap.size := World.block_lt_of_cell? w _ h.root.1
  have he := hw.block rb hl
  obtain ⟨r0, r1, r2, r3, c, t, r4⟩ := h.root
  exact { h with
    hr := h.hr.below hw
    root := ⟨(World.cell?_of_block (a := ⟨rb, 0, none⟩) he).trans r0, (World.cell?_of_block (a := ⟨rb, 1, none⟩) he).trans r1, (World.cell?_of_block (a := ⟨rb, 2, none⟩) he).trans r2, (World.frozen?_of_block (a := ⟨rb, 1, none⟩) he).trans r3, c, t, he.trans r4⟩ }
end Go.Proofs.Ythbkklnahhdgcaa.ChTk
namespace Go.Proofs.Ythbkklnahhdgcaa.ChTl
open Go Go.Proofs Go.RowKit Go.Maps Go.Proofs.Ythbkklnahhdgcaa.Lib Go.Proofs.Ythbkklnahhdgcaa.HeapR Go.Proofs.Ythbkklnahhdgcaa.HeapB Go.Proofs.Ythbkklnahhdgcaa.HeapC Go.Proofs.Ythbkklnahhdgcaa.HeapD Go.Proofs.Ythbkklnahhdgcaa.ChA Go.Proofs.Ythbkklnahhdgcaa.ChT Go.Proofs.Ythbkklnahhdgcaa.ChCa Go.Proofs.Ythbkklnahhdgcaa.ChCc Go.Proofs.Ythbkklnahhdgcaa.ChE Go.Proofs.Ythbkklnahhdgcaa.ChH Go.Proofs.Ythbkklnahhdgcaa.ChL Go.Proofs.Ythbkklnahhdgcaa.ChN Go.Proofs.Ythbkklnahhdgcaa.ChO Go.Proofs.Ythbkklnahhdgcaa.ChV Go.Proofs.Ythbkklnahhdgcaa.ChW Go.Proofs.Ythbkklnahhdgcaa.ChTb Go.Proofs.Ythbkklnahhdgcaa.ChTd Go.Proofs.Ythbkklnahhdgcaa.ChTe Go.Proofs.Ythbkklnahhdgcaa.ChTf Go.Proofs.Ythbkklnahhdgcaa.ChTg Go.Proofs.Ythbkklnahhdgcaa.ChTh Go.Proofs.Ythbkklnahhdgcaa.ChTi Go.Proofs.Ythbkklnahhdgcaa.ChTja Go.Proofs.Ythbkklnahhdgcaa.ChTj Go.Proofs.Ythbkklnahhdgcaa.ChTk

theorem sh_new (w : World) : Sh (w.alloc (.map #[] 0)) w.heap.size [] := ⟨_, World.ownsMap_made w _ _ _, by
  have e : (fun a => decide (a ∈ ([] : List Int))) = fun _ => false := by
    funext a
    simp
  rw [e]
  exact readsB_empty⟩
end Go.Proofs.Ythbkklnahhdgcaa.ChTl
namespace Go.Proofs.Ythbkklnahhdgcaa.HeapR
open Go Go.Proofs Go.RowKit Go.Maps Go.Proofs.Ythbkklnahhdgcaa.Lib Go.Proofs.Ythbkklnahhdgcaa.HeapR Go.Proofs.Ythbkklnahhdgcaa.HeapB Go.Proofs.Ythbkklnahhdgcaa.HeapC Go.Proofs.Ythbkklnahhdgcaa.HeapD Go.Proofs.Ythbkklnahhdgcaa.ChA Go.Proofs.Ythbkklnahhdgcaa.ChT Go.Proofs.Ythbkklnahhdgcaa.ChCa Go.Proofs.Ythbkklnahhdgcaa.ChCc Go.Proofs.Ythbkklnahhdgcaa.ChE Go.Proofs.Ythbkklnahhdgcaa.ChH Go.Proofs.Ythbkklnahhdgcaa.ChL Go.Proofs.Ythbkklnahhdgcaa.ChN Go.Proofs.Ythbkklnahhdgcaa.ChO Go.Proofs.Ythbkklnahhdgcaa.ChV Go.Proofs.Ythbkklnahhdgcaa.ChW Go.Proofs.Ythbkklnahhdgcaa.ChTb Go.Proofs.Ythbkklnahhdgcaa.ChTd Go.Proofs.Ythbkklnahhdgcaa.ChTe Go.Proofs.Ythbkklnahhdgcaa.ChTf Go.Proofs.Ythbkklnahhdgcaa.ChTg Go.Proofs.Ythbkklnahhdgcaa.ChTh Go.Proofs.Ythbkklnahhdgcaa.ChTi Go.Proofs.Ythbkklnahhdgcaa.ChTja Go.Proofs.Ythbkklnahhdgcaa.ChTj Go.Proofs.Ythbkklnahhdgcaa.ChTk

open Go.Proofs.Ythbkklnahhdgcaa.ChTl
theorem HR.size_lo {w : World} {hb nb mb : Nat} {ov rv : Value} {B : Nat} {H : HS} (h : HR w hb nb mb ov rv B H) : B ≤ w.heap.size := by
  have h1 := h.lt (.inl rfl)
  have h2 := h.lo.1
  omega
end Go.Proofs.Ythbkklnahhdgcaa.HeapR
namespace Go.Proofs.Ythbkklnahhdgcaa.ChTl
open Go Go.Proofs Go.RowKit Go.Maps Go.Proofs.Ythbkklnahhdgcaa.Lib Go.Proofs.Ythbkklnahhdgcaa.HeapR Go.Proofs.Ythbkklnahhdgcaa.HeapB Go.Proofs.Ythbkklnahhdgcaa.HeapC Go.Proofs.Ythbkklnahhdgcaa.HeapD Go.Proofs.Ythbkklnahhdgcaa.ChA Go.Proofs.Ythbkklnahhdgcaa.ChT Go.Proofs.Ythbkklnahhdgcaa.ChCa Go.Proofs.Ythbkklnahhdgcaa.ChCc Go.Proofs.Ythbkklnahhdgcaa.ChE Go.Proofs.Ythbkklnahhdgcaa.ChH Go.Proofs.Ythbkklnahhdgcaa.ChL Go.Proofs.Ythbkklnahhdgcaa.ChN Go.Proofs.Ythbkklnahhdgcaa.ChO Go.Proofs.Ythbkklnahhdgcaa.ChV Go.Proofs.Ythbkklnahhdgcaa.ChW Go.Proofs.Ythbkklnahhdgcaa.ChTb Go.Proofs.Ythbkklnahhdgcaa.ChTd Go.Proofs.Ythbkklnahhdgcaa.ChTe Go.Proofs.Ythbkklnahhdgcaa.ChTf Go.Proofs.Ythbkklnahhdgcaa.ChTg Go.Proofs.Ythbkklnahhdgcaa.ChTh Go.Proofs.Ythbkklnahhdgcaa.ChTi Go.Proofs.Ythbkklnahhdgcaa.ChTja Go.Proofs.Ythbkklnahhdgcaa.ChTj Go.Proofs.Ythbkklnahhdgcaa.ChTk

end Go.Proofs.Ythbkklnahhdgcaa.ChTl
namespace Go.Proofs.Ythbkklnahhdgcaa.HeapR
open Go Go.Proofs Go.RowKit Go.Maps Go.Proofs.Ythbkklnahhdgcaa.Lib Go.Proofs.Ythbkklnahhdgcaa.HeapR Go.Proofs.Ythbkklnahhdgcaa.HeapB Go.Proofs.Ythbkklnahhdgcaa.HeapC Go.Proofs.Ythbkklnahhdgcaa.HeapD Go.Proofs.Ythbkklnahhdgcaa.ChA Go.Proofs.Ythbkklnahhdgcaa.ChT Go.Proofs.Ythbkklnahhdgcaa.ChCa Go.Proofs.Ythbkklnahhdgcaa.ChCc Go.Proofs.Ythbkklnahhdgcaa.ChE Go.Proofs.Ythbkklnahhdgcaa.ChH Go.Proofs.Ythbkklnahhdgcaa.ChL Go.Proofs.Ythbkklnahhdgcaa.ChN Go.Proofs.Ythbkklnahhdgcaa.ChO Go.Proofs.Ythbkklnahhdgcaa.ChV Go.Proofs.Ythbkklnahhdgcaa.ChW Go.Proofs.Ythbkklnahhdgcaa.ChTb Go.Proofs.Ythbkklnahhdgcaa.ChTd Go.Proofs.Ythbkklnahhdgcaa.ChTe Go.Proofs.Ythbkklnahhdgcaa.ChTf Go.Proofs.Ythbkklnahhdgcaa.ChTg Go.Proofs.Ythbkklnahhdgcaa.ChTh Go.Proofs.Ythbkklnahhdgcaa.ChTi Go.Proofs.Ythbkklnahhdgcaa.ChTja Go.Proofs.Ythbkklnahhdgcaa.ChTj Go.Proofs.Ythbkklnahhdgcaa.ChTk

open Go.Proofs.Ythbkklnahhdgcaa.ChTl
theorem HR.own_lo {w : World} {hb nb mb : Nat} {ov rv : Value} {B : Nat} {H : HS} (h : HR w hb nb mb ov rv B H) {k : Nat} (hk : Owns hb nb mb ov rv k) : B ≤ k := by
  rcases hk with e | e | e | e | e
  · rw [e]; exact h.lo.1
  · rw [e]; exact h.lo.2.1
  · rw [e]; exact h.lo.2.2
  · exact (own_lt h.old e).1
  · exact (own_lt h.rem e).1
end Go.Proofs.Ythbkklnahhdgcaa.HeapR
namespace Go.Proofs.Ythbkklnahhdgcaa.ChTl
open Go Go.Proofs Go.RowKit Go.Maps Go.Proofs.Ythbkklnahhdgcaa.Lib Go.Proofs.Ythbkklnahhdgcaa.HeapR Go.Proofs.Ythbkklnahhdgcaa.HeapB Go.Proofs.Ythbkklnahhdgcaa.HeapC Go.Proofs.Ythbkklnahhdgcaa.HeapD Go.Proofs.Ythbkklnahhdgcaa.ChA Go.Proofs.Ythbkklnahhdgcaa.ChT Go.Proofs.Ythbkklnahhdgcaa.ChCa Go.Proofs.Ythbkklnahhdgcaa.ChCc Go.Proofs.Ythbkklnahhdgcaa.ChE Go.Proofs.Ythbkklnahhdgcaa.ChH Go.Proofs.Ythbkklnahhdgcaa.ChL Go.Proofs.Ythbkklnahhdgcaa.ChN Go.Proofs.Ythbkklnahhdgcaa.ChO Go.Proofs.Ythbkklnahhdgcaa.ChV Go.Proofs.Ythbkklnahhdgcaa.ChW Go.Proofs.Ythbkklnahhdgcaa.ChTb Go.Proofs.Ythbkklnahhdgcaa.ChTd Go.Proofs.Ythbkklnahhdgcaa.ChTe Go.Proofs.Ythbkklnahhdgcaa.ChTf Go.Proofs.Ythbkklnahhdgcaa.ChTg Go.Proofs.Ythbkklnahhdgcaa.ChTh Go.Proofs.Ythbkklnahhdgcaa.ChTi Go.Proofs.Ythbkklnahhdgcaa.ChTja Go.Proofs.Ythbkklnahhdgcaa.ChTj Go.Proofs.Ythbkklnahhdgcaa.ChTk

/-- shape of the root, anew. -/
theorem shape_root {w : World} {hb nb mb : Nat} {ov rv : Value} {B : Nat} {H : HS} {nu ol : List Ob} {rb : Nat} {x : Ob} {F : Nat} {was S : List Int} {i sb : Nat} (h : Col w hb nb mb ov rv B H nu ol rb x F was S i) (hS : Sh w sb []) (hso : ¬ Owns hb nb mb ov rv sb) (hw : was.length ≤ big) :
    Calls Try.prog 10 #[.pointer (some ⟨hb, 0, none⟩), .agg #[.int .i64 4, .int .i64 (x.addr : Int), .string ByteArray.empty], .map (some sb)] w fun e w' => ∃ g c, e = .returned (.slice (some ⟨g, 0, none⟩) was.length c) ∧ w.heap.size ≤ g ∧ (∀ (i : Nat) (v : Int), was[i]? = some v → w'.cell? ⟨g, i, none⟩ = some (.int .i64 v)) ∧ Turned (fun k => k = sb) w w' ∧ Sh w' sb S := by
  have hfit := h.hi.fit
  have htot := h.tot
  have hsz : ∀ y ∈ nu ++ ol, y.addr + y.len ≤ big := fun y hy => by
    unfold big
    have hroom := h.room
    rcases List.mem_append.1 hy with hy | hy
    · have := laid_in h.hi.na hy
      omega
    · have := laid_in h.hi.oa hy
      omega
  have hun : ([] : List Int).length + ChTa.unseen (nu ++ ol) [] ≤ big := by
    have h1 : ChTa.unseen (nu ++ ol) [] ≤ (nu ++ ol).length := List.length_filter_le _ _
    have h2 := length_le_total (nu ++ ol)
    rw [total_append] at h2
    unfold big
    simp only [List.length_nil]
    omega
  refine (shape_any sb h.hi hsz (by have := h.next; unfold big; omega) hso F (refV x) [] was S w h.hr hS hun h.shp hw (fun _ => ⟨x, h.xin, rfl⟩)).mono ?_
  rintro e w' ⟨o, c, rfl, hrow, hS', hT, _⟩
  obtain ⟨g, c', hg⟩ := row_slice hrow (ChTa.shp_ne h.shp)
  injection hg with e1 _ e3
  subst e1 e3
  refine ⟨g, c, rfl, (own_lt hrow rfl).1, fun j v hv => ?_, hT, hS'⟩
  have hj := (List.getElem?_eq_some_iff.1 hv).1
  rw [hrow.cellAt j (by omega), List.getElem?_map, hv]
  rfl

def InvK (oa2 : Option Addr) (c2 : Nat) (l : List Int) (sb wg wc : Nat) (w0 : World) (hb B rb F : Nat) (was S : List Int) (E : Nat → Prop) (u0 u1 u3 u4 u5 u6 u8 u9 u10 u11 u12 u13 u14 u15 u16 u22 u23 u24 u25 u26 u27 u28 u29 u30 u31 u32 u33 u34 u35 u36 u37 u38 u39 u40 u41 u42 u43 u44 u45 u46 u47 u48 u49 u50 u51 u52 u53 u54 u55 u56 u57 u58 u59 u60 u61 u62 u63 u64 u65 u66 u67 u68 u69 u70 u71 u72 u73 u74 u75 u76 u77 u78 u79 u80 u81 u82 u83 u84 u85 u86 u87 u88 u89 u90 u91 u92 u93 u94 u95 u96 u97 u98 u99 u100 u101 u102 u103 u104 u105 u106 u107 u108 u109 u110 u111 u112 u113 u114 u115 u116 u117 u118 u119 u120 u121 u122 u123 u124 u125 u126 u127 u128 u129 u130 u131 u132 u133 u134 u135 u136 u137 u138 u139 u140 u141 u142 u143 u144 u145 u146 u147 : Value) (a : Act) (wr : World) : Prop :=
  ∃ (i : Nat) (s21 s148 s149 s150 s151 s152 s153 s154 s155 s156 s157 s158 s159 s160 s161 s162 s163 s164 s165 s166 s167 s168 s169 s170 s171 s172 s173 s174 s175 s176 s177 s178 s179 s180 s181 s182 s183 s184 s185 s186 s187 s188 s189 s190 : Value), i ≤ l.length ∧ RelK w0 hb B rb F was S E i wr ∧ a = ⟨#[u0, u1, (.slice oa2 l.length c2), u3, u4, u5, u6, (.pointer (some ⟨hb, 0, none⟩)), u8, u9, u10, u11, u12, u13, u14, u15, u16, (.pointer (some ⟨rb, 0, none⟩)), (.map (some sb)), (.slice (some ⟨wg, 0, none⟩) was.length wc), (.int .i64 (i : Int)), s21, u22, u23, u24, u25, u26, u27, u28, u29, u30, u31, u32, u33, u34, u35, u36, u37, u38, u39, u40, u41, u42, u43, u44, u45, u46, u47, u48, u49, u50, u51, u52, u53, u54, u55, u56, u57, u58, u59, u60, u61, u62, u63, u64, u65, u66, u67, u68, u69, u70, u71, u72, u73, u74, u75, u76, u77, u78, u79, u80, u81, u82, u83, u84, u85, u86, u87, u88, u89, u90, u91, u92, u93, u94, u95, u96, u97, u98, u99, u100, u101, u102, u103, u104, u105, u106, u107, u108, u109, u110, u111, u112, u113, u114, u115, u116, u117, u118, u119, u120, u121, u122, u123, u124, u125, u126, u127, u128, u129, u130, u131, u132, u133, u134, u135, u136, u137, u138, u139, u140, u141, u142, u143, u144, u145, u146, u147, s148, s149, s150, s151, s152, s153, s154, s155, s156, s157, s158, s159, s160, s161, s162, s163, s164, s165, s166, s167, s168, s169, s170, s171, s172, s173, s174, s175, s176, s177, s178, s179, s180, s181, s182, s183, s184, s185, s186, s187, s188, s189, s190], []⟩
def muK (n : Nat) (a : Act) (_ : World) : Nat := n - (intOf (a.tmps.getD 20 undef)).toNat

set_option maxRecDepth 100000 in
set_option maxHeartbeats 4000000 in
theorem col_loop {Q : Exit → Act → World → Prop} (u0 u1 u3 u4 u5 u6 u8 u9 u10 u11 u12 u13 u14 u15 u16 u21 u22 u23 u24 u25 u26 u27 u28 u29 u30 u31 u32 u33 u34 u35 u36 u37 u38 u39 u40 u41 u42 u43 u44 u45 u46 u47 u48 u49 u50 u51 u52 u53 u54 u55 u56 u57 u58 u59 u60 u61 u62 u63 u64 u65 u66 u67 u68 u69 u70 u71 u72 u73 u74 u75 u76 u77 u78 u79 u80 u81 u82 u83 u84 u85 u86 u87 u88 u89 u90 u91 u92 u93 u94 u95 u96 u97 u98 u99 u100 u101 u102 u103 u104 u105 u106 u107 u108 u109 u110 u111 u112 u113 u114 u115 u116 u117 u118 u119 u120 u121 u122 u123 u124 u125 u126 u127 u128 u129 u130 u131 u132 u133 u134 u135 u136 u137 u138 u139 u140 u141 u142 u143 u144 u145 u146 u147 u148 u149 u150 u151 u152 u153 u154 u155 u156 u157 u158 u159 u160 u161 u162 u163 u164 u165 u166 u167 u168 u169 u170 u171 u172 u173 u174 u175 u176 u177 u178 u179 u180 u181 u182 u183 u184 u185 u186 u187 u188 u189 u190 : Value) (oa2 : Option Addr) (a2 o2 c2 : Nat) (l : List Int) (hoa : 0 < l.length → oa2 = some ⟨a2, o2, none⟩) (sb wg wc : Nat) (w0 w : World) (hb B rb F : Nat) (was S : List Int) (E : Nat → Prop) (hl12 : l.length ≤ 12) (hwl : was.length ≤ big) (hSn : S.Nodup)
    (hcell : ∀ (i : Nat) (v : Int), l[i]? = some v → w0.cell? ⟨a2, o2 + i, none⟩ = some (.int .i64 v)) (hwas : ∀ (i : Nat) (v : Int), was[i]? = some v → w0.cell? ⟨wg, i, none⟩ = some (.int .i64 v)) (hSh : Sh w0 sb S)
    (hEa : E a2) (hEs : E sb) (hEw : E wg) (hEr : ¬ E rb) (hBr : B ≤ rb) (hEl : ∀ k, E k → k < w0.heap.size)
    (h0 : RelK w0 hb B rb F was S E 0 w)
    (hQ : ∀ (s21 s148 s149 s150 s151 s152 s153 s154 s155 s156 s157 s158 s159 s160 s161 s162 s163 s164 s165 s166 s167 s168 s169 s170 s171 s172 s173 s174 s175 s176 s177 s178 s179 s180 s181 s182 s183 s184 s185 s186 s187 s188 s189 s190 : Value) (w' : World), RelK w0 hb B rb F was S E l.length w' → Q (.exit 4) ⟨#[u0, u1, (.slice oa2 l.length c2), u3, u4, u5, u6, (.pointer (some ⟨hb, 0, none⟩)), u8, u9, u10, u11, u12, u13, u14, u15, u16, (.pointer (some ⟨rb, 0, none⟩)), (.map (some sb)), (.slice (some ⟨wg, 0, none⟩) was.length wc), (.int .i64 (l.length : Int)), s21, u22, u23, u24, u25, u26, u27, u28, u29, u30, u31, u32, u33, u34, u35, u36, u37, u38, u39, u40, u41, u42, u43, u44, u45, u46, u47, u48, u49, u50, u51, u52, u53, u54, u55, u56, u57, u58, u59, u60, u61, u62, u63, u64, u65, u66, u67, u68, u69, u70, u71, u72, u73, u74, u75, u76, u77, u78, u79, u80, u81, u82, u83, u84, u85, u86, u87, u88, u89, u90, u91, u92, u93, u94, u95, u96, u97, u98, u99, u100, u101, u102, u103, u104, u105, u106, u107, u108, u109, u110, u111, u112, u113, u114, u115, u116, u117, u118, u119, u120, u121, u122, u123, u124, u125, u126, u127, u128, u129, u130, u131, u132, u133, u134, u135, u136, u137, u138, u139, u140, u141, u142, u143, u144, u145, u146, u147, s148, s149, s150, s151, s152, s153, s154, s155, s156, s157, s158, s159, s160, s161, s162, s163, s164, s165, s166, s167, s168, s169, s170, s171, s172, s173, s174, s175, s176, s177, s178, s179, s180, s181, s182, s183, s184, s185, s186, s187, s188, s189, s190], []⟩ w') :
    Code.wp Try.prog (Cut.piece Try.f3 (Cut.loop 28)) Q ⟨#[u0, u1, (.slice oa2 l.length c2), u3, u4, u5, u6, (.pointer (some ⟨hb, 0, none⟩)), u8, u9, u10, u11, u12, u13, u14, u15, u16, (.pointer (some ⟨rb, 0, none⟩)), (.map (some sb)), (.slice (some ⟨wg, 0, none⟩) was.length wc), (.int .i64 (0 : Int)), u21, u22, u23, u24, u25, u26, u27, u28, u29, u30, u31, u32, u33, u34, u35, u36, u37, u38, u39, u40, u41, u42, u43, u44, u45, u46, u47, u48, u49, u50, u51, u52, u53, u54, u55, u56, u57, u58, u59, u60, u61, u62, u63, u64, u65, u66, u67, u68, u69, u70, u71, u72, u73, u74, u75, u76, u77, u78, u79, u80, u81, u82, u83, u84, u85, u86, u87, u88, u89, u90, u91, u92, u93, u94, u95, u96, u97, u98, u99, u100, u101, u102, u103, u104, u105, u106, u107, u108, u109, u110, u111, u112, u113, u114, u115, u116, u117, u118, u119, u120, u121, u122, u123, u124, u125, u126, u127, u128, u129, u130, u131, u132, u133, u134, u135, u136, u137, u138, u139, u140, u141, u142, u143, u144, u145, u146, u147, u148, u149, u150, u151, u152, u153, u154, u155, u156, u157, u158, u159, u160, u161, u162, u163, u164, u165, u166, u167, u168, u169, u170, u171, u172, u173, u174, u175, u176, u177, u178, u179, u180, u181, u182, u183, u184, u185, u186, u187, u188, u189, u190], []⟩ w := by
  conv => arg 2; whnf
  refine wp_loop (InvK oa2 c2 l sb wg wc w0 hb B rb F was S E u0 u1 u3 u4 u5 u6 u8 u9 u10 u11 u12 u13 u14 u15 u16 u22 u23 u24 u25 u26 u27 u28 u29 u30 u31 u32 u33 u34 u35 u36 u37 u38 u39 u40 u41 u42 u43 u44 u45 u46 u47 u48 u49 u50 u51 u52 u53 u54 u55 u56 u57 u58 u59 u60 u61 u62 u63 u64 u65 u66 u67 u68 u69 u70 u71 u72 u73 u74 u75 u76 u77 u78 u79 u80 u81 u82 u83 u84 u85 u86 u87 u88 u89 u90 u91 u92 u93 u94 u95 u96 u97 u98 u99 u100 u101 u102 u103 u104 u105 u106 u107 u108 u109 u110 u111 u112 u113 u114 u115 u116 u117 u118 u119 u120 u121 u122 u123 u124 u125 u126 u127 u128 u129 u130 u131 u132 u133 u134 u135 u136 u137 u138 u139 u140 u141 u142 u143 u144 u145 u146 u147) (muK l.length) ?_ (fun a' wr hI => ?_)
  · exact ⟨0, u21, u148, u149, u150, u151, u152, u153, u154, u155, u156, u157, u158, u159, u160, u161, u162, u163, u164, u165, u166, u167, u168, u169, u170, u171, u172, u173, u174, u175, u176, u177, u178, u179, u180, u181, u182, u183, u184, u185, u186, u187, u188, u189, u190, Nat.zero_le _, h0, rfl⟩
  obtain ⟨i, hI⟩ := hI
  obtain ⟨s21, hI⟩ := hI
  obtain ⟨s148, hI⟩ := hI
  obtain ⟨s149, hI⟩ := hI
  obtain ⟨s150, hI⟩ := hI
  obtain ⟨s151, hI⟩ := hI
  obtain ⟨s152, hI⟩ := hI
  obtain ⟨s153, hI⟩ := hI
  obtain ⟨s154, hI⟩ := hI
  obtain ⟨s155, hI⟩ := hI
  obtain ⟨s156, hI⟩ := hI
  obtain ⟨s157, hI⟩ := hI
  obtain ⟨s158, hI⟩ := hI
  obtain ⟨s159, hI⟩ := hI
  obtain ⟨s160, hI⟩ := hI
  obtain ⟨s161, hI⟩ := hI
  obtain ⟨s162, hI⟩ := hI
  obtain ⟨s163, hI⟩ := hI
  obtain ⟨s164, hI⟩ := hI
  obtain ⟨s165, hI⟩ := hI
  obtain ⟨s166, hI⟩ := hI
  obtain ⟨s167, hI⟩ := hI
  obtain ⟨s168, hI⟩ := hI
  obtain ⟨s169, hI⟩ := hI
  obtain ⟨s170, hI⟩ := hI
  obtain ⟨s171, hI⟩ := hI
  obtain ⟨s172, hI⟩ := hI
  obtain ⟨s173, hI⟩ := hI
  obtain ⟨s174, hI⟩ := hI
  obtain ⟨s175, hI⟩ := hI
  obtain ⟨s176, hI⟩ := hI
  obtain ⟨s177, hI⟩ := hI
  obtain ⟨s178, hI⟩ := hI
  obtain ⟨s179, hI⟩ := hI
  obtain ⟨s180, hI⟩ := hI
  obtain ⟨s181, hI⟩ := hI
  obtain ⟨s182, hI⟩ := hI
  obtain ⟨s183, hI⟩ := hI
  obtain ⟨s184, hI⟩ := hI
  obtain ⟨s185, hI⟩ := hI
  obtain ⟨s186, hI⟩ := hI
  obtain ⟨s187, hI⟩ := hI
  obtain ⟨s188, hI⟩ := hI
  obtain ⟨s189, hI⟩ := hI
  obtain ⟨s190, hI⟩ := hI
  obtain ⟨hib, ⟨nb, mb, ov, rv, H, nu, ol, x, hC, hE, hsz, hB⟩, rfl⟩ := hI
  clear h0
  have b1 : i + 1 ≤ big := by unfold big; omega
  by_cases hil : i < l.length
  · obtain rfl := hoa (by omega)
    have hil' : decide ((i : Int) < (l.length : Int)) = true := by simpa using hil
    have hil2 : (i : Int) < (l.length : Int) := by omega
    have hi0 : (0 : Int) ≤ (i : Int) := by omega
    obtain ⟨v, hv⟩ : ∃ v, l[i]? = some v := ⟨_, List.getElem?_eq_getElem hil⟩
    have q0 : wr.cell? ⟨a2, o2 + i, none⟩ = some (.int .i64 v) := (World.cell?_of_block (a := ⟨a2, o2 + i, none⟩) (hE a2 hEa).2).trans (hcell i v hv)
    cases hm : (v.tmod 2 == 0) with
    | true =>
      have hba := (Below.refl wr.heap.size wr).alloc (Nat.le_refl _) (.cells #[.pointer (some ⟨rb, 0, none⟩)] 40 (0, 0))
      have hrl : rb < wr.heap.size := World.block_lt_of_cell? wr _ hC.root.1
      have hcol := minor_col (c := 1) (hC.below hba) (by omega) (cell_of_block (heap_alloc_last wr (.cells #[.pointer (some ⟨rb, 0, none⟩)] 40 (0, 0))) (i := 0) rfl) (fun h => absurd (hC.hr.lt h) (Nat.lt_irrefl _)) (by omega)
      have hza := hba.size
      go_wp2_with fail
      refine hcol.mono ?_
      rintro e w2 ⟨rfl, tv, H2, ol2, x2, hC2, hT2, hO2⟩
      clear hcol
      have hE2 : ∀ k, E k → ¬ Owns hb nb mb tv (.slice none 0 0) k ∧ w2.heap[k]? = w0.heap[k]? := fun k hk => by
        have h1 := hEl k hk
        obtain ⟨h2, h3⟩ := hE k hk
        refine ⟨fun ho => (hO2 k ho).elim h2 (fun h => by omega), (hT2.block k (by omega) (fun h => h.elim h2 (fun e => hEr (e ▸ hk)))).trans ((hba.block k (by omega)).trans h3)⟩
      obtain ⟨r0, r1, r2, r3, _⟩ := hC2.root
      have hb3 := (Below.refl w2.heap.size w2).alloc (Nat.le_refl _) (.map #[] 0)
      have hmm := @run_makeMap Try.prog
      have hshape := shape_root (hC2.below hb3) (sh_new w2) (fun h => absurd (hC2.hr.lt h) (Nat.lt_irrefl _)) hwl
      have A1 := Lib.hid hcell
      have A2 := Lib.hid hwas
      clear hcell hwas
      have hm' : (v.tmod 2 != 0) = false := by rw [bne, hm]; rfl
      have hz3 := hb3.size
      have q2 : ∀ w9, Below w2.heap.size w2 w9 → ∀ k, E k → w9.heap[k]? = w0.heap[k]? := fun w9 h9 k hk => (h9.block k (by have := hEl k hk; have := hT2.size; omega)).trans (hE2 k hk).2
      have hB2 : Below B w0 w2 := (hB.trans (hba.mono hC.hr.size_lo)).trans (hT2.below (by have := hC.hr.size_lo; omega) (fun k hk => hk.elim hC.hr.own_lo (fun e => e ▸ hBr)))
      go_wp2_with fail
      refine hshape.mono ?_
      rintro e w4 ⟨g, c4, rfl, hg4, hcl, hT4, hS4⟩
      clear hshape
      have hb4 : Below w2.heap.size w2 w4 := hb3.trans (hT4.below hz3 (fun k hk => by omega))
      have hsame := same_ints g wg c4 wc was w4 hwl hcl (fun j u hu => (World.cell?_of_block (a := ⟨wg, j, none⟩) (q2 w4 hb4 wg hEw)).trans (A2.out j u hu))
      clear hcl
      go_wp2_with fail
      refine hsame.mono ?_
      rintro e w5 ⟨rfl, hb5⟩
      clear hsame
      have hb25 : Below w2.heap.size w2 w5 := hb4.trans (hb5.mono hb4.size)
      have q5 : w5.cell? ⟨a2, o2 + i, none⟩ = some (.int .i64 v) := (World.cell?_of_block (a := ⟨a2, o2 + i, none⟩) (q2 w5 hb25 a2 hEa)).trans (A1.out i v hv)
      have hfin : RelK w0 hb B rb F was S E (i + 1) w5 := ⟨nb, mb, tv, _, H2, [], ol2, x2, hC2.below hb25, fun k hk => ⟨(hE2 k hk).1, q2 w5 hb25 k hk⟩, by have := hb25.size; have := hT2.size; omega, hB2.trans (hb25.mono (by have := hB2.size; have := hC.hr.size_lo; have := hT2.size; omega))⟩
      have A3 := Lib.hid hfin
      have c3 : IntKind.i64.wrap ((i : Int) + 1) = (i : Int) + 1 := wrapk_two i 1 b1
      have c6 : wrap64 ((i : Int) + 1) = (i : Int) + 1 := wrap_two i 1 b1
      clear hfin q2 hB2 hE2 hb25 hb4 hb5 hT4 hS4 hT2 hO2 hE
      go_wp2
      clear c3 c6
      refine ⟨⟨i + 1, _, _, _, _, _, _, _, _, _, _, _, _, _, _, _, _, _, _, _, _, _, _, _, _, _, _, _, _, _, _, _, _, _, _, _, _, _, _, _, _, _, _, _, _, by omega, A3.out, rfl⟩, ?_⟩
      simp [muK, intOf]
      omega
    | false =>
      have hba := (Below.refl wr.heap.size wr).alloc (Nat.le_refl _) (.cells #[.pointer (some ⟨rb, 0, none⟩), .pointer (some ⟨rb, 0, none⟩)] 40 (0, 0))
      have hrl : rb < wr.heap.size := World.block_lt_of_cell? wr _ hC.root.1
      have hla := heap_alloc_last wr (.cells #[.pointer (some ⟨rb, 0, none⟩), .pointer (some ⟨rb, 0, none⟩)] 40 (0, 0))
      have hcol := major_col (c := 2) (hC.below hba) (by omega) (cell_of_block hla (i := 0) rfl) (cell_of_block hla (i := 1) rfl) (fun h => absurd (hC.hr.lt h) (Nat.lt_irrefl _)) (by omega)
      clear hla
      have hza := hba.size
      go_wp2_with fail
      refine hcol.mono ?_
      rintro e w2 ⟨rfl, mb2, tv, H2, ol2, x2, hC2, hT2, hO2, hsome, hcount⟩
      clear hcol
      have hE2 : ∀ k, E k → ¬ Owns hb nb mb2 tv (.slice none 0 0) k ∧ w2.heap[k]? = w0.heap[k]? := fun k hk => by
        have h1 := hEl k hk
        obtain ⟨h2, h3⟩ := hE k hk
        refine ⟨fun ho => (hO2 k ho).elim h2 (fun h => by omega), (hT2.block k (by omega) (fun h => h.elim h2 (fun e => hEr (e ▸ hk)))).trans ((hba.block k (by omega)).trans h3)⟩
      obtain ⟨r0, r1, r2, r3, _⟩ := hC2.root
      have hb3 := (Below.refl w2.heap.size w2).alloc (Nat.le_refl _) (.map #[] 0)
      have hmm := @run_makeMap Try.prog
      have hshape := shape_root (hC2.below hb3) (sh_new w2) (fun h => absurd (hC2.hr.lt h) (Nat.lt_irrefl _)) hwl
      have A1 := Lib.hid hcell
      have A2 := Lib.hid hwas
      clear hcell hwas
      have hm' : (v.tmod 2 != 0) = true := by rw [bne, hm]; rfl
      have hz3 := hb3.size
      have q2 : ∀ w9, Below w2.heap.size w2 w9 → ∀ k, E k → w9.heap[k]? = w0.heap[k]? := fun w9 h9 k hk => (h9.block k (by have := hEl k hk; have := hT2.size; omega)).trans (hE2 k hk).2
      have hB2 : Below B w0 w2 := (hB.trans (hba.mono hC.hr.size_lo)).trans (hT2.below (by have := hC.hr.size_lo; omega) (fun k hk => hk.elim hC.hr.own_lo (fun e => e ▸ hBr)))
      go_wp2_with fail
      refine hshape.mono ?_
      rintro e w4 ⟨g, c4, rfl, hg4, hcl, hT4, hS4⟩
      clear hshape
      have hb4 : Below w2.heap.size w2 w4 := hb3.trans (hT4.below hz3 (fun k hk => by omega))
      have hsame := same_ints g wg c4 wc was w4 hwl hcl (fun j u hu => (World.cell?_of_block (a := ⟨wg, j, none⟩) (q2 w4 hb4 wg hEw)).trans (A2.out j u hu))
      clear hcl
      go_wp2_with fail
      refine hsame.mono ?_
      rintro e w5 ⟨rfl, hb5⟩
      clear hsame
      have hb25 : Below w2.heap.size w2 w5 := hb4.trans (hb5.mono hb4.size)
      have q5 : w5.cell? ⟨a2, o2 + i, none⟩ = some (.int .i64 v) := (World.cell?_of_block (a := ⟨a2, o2 + i, none⟩) (q2 w5 hb25 a2 hEa)).trans (A1.out i v hv)
      have hids := ids_any (hC2.below hb25).hr (by have := hC2.next; unfold big; omega) hsome
      obtain ⟨es, clock, hes, hel⟩ := sh_size hSh hSn
      have A4 := Lib.hid hel
      have A5 := Lib.hid hcount
      clear hel hcount hsome
      go_wp2_with fail
      refine hids.mono ?_
      rintro e w6 ⟨⟨xs, oo, cc, rfl, hnd, hmem⟩, hb6⟩
      clear hids
      have hz5 := hb25.size
      have hb26 := hb25.trans (hb6.mono hz5)
      have hes6 : w6.heap[sb]? = some (.map es clock) := (q2 w6 hb26 sb hEs).trans hes
      have hxe : xs.length = es.size := (A5.out xs hnd hmem).trans A4.out.symm
      have hnn : ((xs.length : Int) != (es.size : Int)) = false := by
        rw [hxe]
        simp
      have hfin : RelK w0 hb B rb F was S E (i + 1) w6 := ⟨nb, mb2, tv, _, H2, [], ol2, x2, hC2.below hb26, fun k hk => ⟨(hE2 k hk).1, q2 w6 hb26 k hk⟩, by have := hb26.size; have := hT2.size; omega, hB2.trans (hb26.mono (by have := hB2.size; have := hC.hr.size_lo; have := hT2.size; omega))⟩
      have hlenm : (Builtin.len_ #[37] 3 #[.map (some sb)]).run Try.prog w6 = .ok (.int .i64 (es.size : Int)) w6 := run_len_map w6 _ _ sb es clock (by kernel_rfl) hes6
      clear hxe hnd hmem hes hb6 hb26
      have A3 := Lib.hid hfin
      have c3 : IntKind.i64.wrap ((i : Int) + 1) = (i : Int) + 1 := wrapk_two i 1 b1
      have c6 : wrap64 ((i : Int) + 1) = (i : Int) + 1 := wrap_two i 1 b1
      clear hfin q2 hB2 hE2 hb25 hb4 hb5 hT4 hS4 hT2 hO2 hE
      go_wp2
      clear c3 c6
      refine ⟨⟨i + 1, _, _, _, _, _, _, _, _, _, _, _, _, _, _, _, _, _, _, _, _, _, _, _, _, _, _, _, _, _, _, _, _, _, _, _, _, _, _, _, _, _, _, _, _, by omega, A3.out, rfl⟩, ?_⟩
      simp [muK, intOf]
      omega
  · have hie : i = l.length := by omega
    subst hie
    have hil' : decide ((l.length : Int) < (l.length : Int)) = false := by simp
    have A1 := Lib.hid (show RelK w0 hb B rb F was S E l.length wr from ⟨nb, mb, ov, rv, H, nu, ol, x, hC, hE, hsz, hB⟩)
    clear hcell hwas hC hE hB
    go_wp2
    exact A1.out

end Go.Proofs.Ythbkklnahhdgcaa.ChTl
