/-
  HeapCheney's first loop: the objects.
-/
import Derived.Test.YthbkklnahhdgcaaMMD
namespace Go.Proofs.Ythbkklnahhdgcaa.ChTi
open Go Go.Proofs Go.RowKit Go.Maps Go.Proofs.Ythbkklnahhdgcaa.Lib Go.Proofs.Ythbkklnahhdgcaa.HeapR Go.Proofs.Ythbkklnahhdgcaa.HeapB Go.Proofs.Ythbkklnahhdgcaa.HeapC Go.Proofs.Ythbkklnahhdgcaa.HeapD Go.Proofs.Ythbkklnahhdgcaa.HeapG Go.Proofs.Ythbkklnahhdgcaa.HeapH Go.Proofs.Ythbkklnahhdgcaa.ChA Go.Proofs.Ythbkklnahhdgcaa.ChT Go.Proofs.Ythbkklnahhdgcaa.ChCa Go.Proofs.Ythbkklnahhdgcaa.ChCc Go.Proofs.Ythbkklnahhdgcaa.ChE Go.Proofs.Ythbkklnahhdgcaa.ChH Go.Proofs.Ythbkklnahhdgcaa.ChL Go.Proofs.Ythbkklnahhdgcaa.ChM Go.Proofs.Ythbkklnahhdgcaa.ChN Go.Proofs.Ythbkklnahhdgcaa.ChO Go.Proofs.Ythbkklnahhdgcaa.ChR Go.Proofs.Ythbkklnahhdgcaa.ChU Go.Proofs.Ythbkklnahhdgcaa.ChV Go.Proofs.Ythbkklnahhdgcaa.ChW Go.Proofs.Ythbkklnahhdgcaa.ChZ Go.Proofs.Ythbkklnahhdgcaa.ChTe Go.Proofs.Ythbkklnahhdgcaa.ChTh

theorem infoVal : (Try.prog.info? 34).map (fun i => (i.zero, i.size, i.bytes)) = some (some (.agg #[.int .i64 0, .int .i64 0, .string ByteArray.empty]), 3, 32) := by kernel_rfl
/-- The values that lead to objects. -/
def refVals (l : List Ob) : List Value := l.flatMap fun o => [.int .i64 4, .int .i64 (o.addr : Int), .string ByteArray.empty]
theorem refVals_length (l : List Ob) : (refVals l).length = l.length * 3 := by
  induction l with
  | nil => rfl
  | cons x l ih =>
    have h1 : (refVals (x :: l)).length = 3 + (refVals l).length := by
      unfold refVals
      rw [List.flatMap_cons, List.length_append]
      rfl
    rw [h1, List.length_cons]
    omega
theorem refVals_snoc (l : List Ob) (x : Ob) : refVals l ++ [.int .i64 4, .int .i64 (x.addr : Int), .string ByteArray.empty] = refVals (l ++ [x]) := by
  unfold refVals
  rw [List.flatMap_append]
  rfl
/-- What the heap is, ahead of the first collection. -/
structure Young (w : World) (hb nb mb B n : Nat) (H : HS) (nu : List Ob) : Prop where
  hr : HR w hb nb mb (.slice none 0 0) (.slice none 0 0) B H
  hi : HI H nu []
  len : nu.length = n
  next : H.next = n
  room : H.room = 400
  most : H.most = 2000
  mins : H.minors = 0
  majs : H.majors = 0
  tot : total nu ≤ 8 * n
  ids : ∀ o ∈ nu, o.id ≠ 0
/-- What holds at each round. -/
def RelA (w0 : World) (hb nb mb B n : Nat) (i : Nat) (ov : Value) (wr : World) : Prop :=
  i ≤ n ∧ ∃ H nu, Young wr hb nb mb B i H nu ∧ wr.ownsRow w0.heap.size 34 3 ov i (refVals nu) ∧ Turned (fun k => k = hb ∨ k = nb ∨ k = mb) w0 wr

def InvA (a0 o0 c0 : Nat) (sizes : List Int) (w0 : World) (hb nb mb B : Nat) (u1 u2 u3 u4 u5 u6 u8 u13 u14 u15 u16 u17 u18 u19 u20 u21 u22 u23 u24 u25 u26 u27 u28 u29 u30 u31 u32 u33 u34 u35 u36 u37 u38 u39 u40 u41 u42 u43 u44 u45 u46 u47 u48 u49 u50 u51 u52 u53 u78 u79 u80 u81 u82 u83 u84 u85 u86 u87 u88 u89 u90 u91 u92 u93 u94 u95 u96 u97 u98 u99 u100 u101 u102 u103 u104 u105 u106 u107 u108 u109 u110 u111 u112 u113 u114 u115 u116 u117 u118 u119 u120 u121 u122 u123 u124 u125 u126 u127 u128 u129 u130 u131 u132 u133 u134 u135 u136 u137 u138 u139 u140 u141 u142 u143 u144 u145 u146 u147 u148 u149 u150 u151 u152 u153 u154 u155 u156 u157 u158 u159 u160 u161 u162 u163 u164 u165 u166 u167 u168 u169 u170 u171 u172 u173 u174 u175 u176 u177 u178 u179 u180 u181 u182 u183 u184 u185 u186 u187 u188 u189 u190 : Value) (a : Act) (wr : World) : Prop :=
  ∃ (i : Nat) (oo : Option Addr) (cc : Nat) (s11 s12 s54 s55 s56 s57 s58 s59 s60 s61 s62 s63 s64 s65 s66 s67 s68 s69 s70 s71 s72 s73 s74 s75 s76 s77 : Value), RelA w0 hb nb mb B sizes.length i (.slice oo i cc) wr ∧ a = ⟨#[(.slice (some ⟨a0, o0, none⟩) sizes.length c0), u1, u2, u3, u4, u5, u6, (.pointer (some ⟨hb, 0, none⟩)), u8, (.slice oo i cc), (.int .i64 (i : Int)), s11, s12, u13, u14, u15, u16, u17, u18, u19, u20, u21, u22, u23, u24, u25, u26, u27, u28, u29, u30, u31, u32, u33, u34, u35, u36, u37, u38, u39, u40, u41, u42, u43, u44, u45, u46, u47, u48, u49, u50, u51, u52, u53, s54, s55, s56, s57, s58, s59, s60, s61, s62, s63, s64, s65, s66, s67, s68, s69, s70, s71, s72, s73, s74, s75, s76, s77, u78, u79, u80, u81, u82, u83, u84, u85, u86, u87, u88, u89, u90, u91, u92, u93, u94, u95, u96, u97, u98, u99, u100, u101, u102, u103, u104, u105, u106, u107, u108, u109, u110, u111, u112, u113, u114, u115, u116, u117, u118, u119, u120, u121, u122, u123, u124, u125, u126, u127, u128, u129, u130, u131, u132, u133, u134, u135, u136, u137, u138, u139, u140, u141, u142, u143, u144, u145, u146, u147, u148, u149, u150, u151, u152, u153, u154, u155, u156, u157, u158, u159, u160, u161, u162, u163, u164, u165, u166, u167, u168, u169, u170, u171, u172, u173, u174, u175, u176, u177, u178, u179, u180, u181, u182, u183, u184, u185, u186, u187, u188, u189, u190], []⟩
def muA (n : Nat) (a : Act) (_ : World) : Nat := n - (intOf (a.tmps.getD 10 undef)).toNat

set_option maxRecDepth 100000 in
set_option maxHeartbeats 4000000 in
theorem alloc_loop {Q : Exit → Act → World → Prop} (u1 u2 u3 u4 u5 u6 u8 u11 u12 u13 u14 u15 u16 u17 u18 u19 u20 u21 u22 u23 u24 u25 u26 u27 u28 u29 u30 u31 u32 u33 u34 u35 u36 u37 u38 u39 u40 u41 u42 u43 u44 u45 u46 u47 u48 u49 u50 u51 u52 u53 u54 u55 u56 u57 u58 u59 u60 u61 u62 u63 u64 u65 u66 u67 u68 u69 u70 u71 u72 u73 u74 u75 u76 u77 u78 u79 u80 u81 u82 u83 u84 u85 u86 u87 u88 u89 u90 u91 u92 u93 u94 u95 u96 u97 u98 u99 u100 u101 u102 u103 u104 u105 u106 u107 u108 u109 u110 u111 u112 u113 u114 u115 u116 u117 u118 u119 u120 u121 u122 u123 u124 u125 u126 u127 u128 u129 u130 u131 u132 u133 u134 u135 u136 u137 u138 u139 u140 u141 u142 u143 u144 u145 u146 u147 u148 u149 u150 u151 u152 u153 u154 u155 u156 u157 u158 u159 u160 u161 u162 u163 u164 u165 u166 u167 u168 u169 u170 u171 u172 u173 u174 u175 u176 u177 u178 u179 u180 u181 u182 u183 u184 u185 u186 u187 u188 u189 u190 : Value) (a0 o0 c0 : Nat) (sizes : List Int) (w0 w : World) (hb nb mb B : Nat) (hn : sizes.length ≤ 30)
    (hcell : ∀ (i : Nat) (v : Int), sizes[i]? = some v → w0.cell? ⟨a0, o0 + i, none⟩ = some (.int .i64 v)) (ha : ¬ (a0 = hb ∨ a0 = nb ∨ a0 = mb))
    (hw0 : hb < w0.heap.size ∧ nb < w0.heap.size ∧ mb < w0.heap.size) (h0 : RelA w0 hb nb mb B sizes.length 0 (.slice none 0 0) w)
    (hQ : ∀ (oo : Option Addr) (cc : Nat) (s11 s12 s54 s55 s56 s57 s58 s59 s60 s61 s62 s63 s64 s65 s66 s67 s68 s69 s70 s71 s72 s73 s74 s75 s76 s77 : Value) (w' : World), RelA w0 hb nb mb B sizes.length sizes.length (.slice oo sizes.length cc) w' → Q (.exit 0) ⟨#[(.slice (some ⟨a0, o0, none⟩) sizes.length c0), u1, u2, u3, u4, u5, u6, (.pointer (some ⟨hb, 0, none⟩)), u8, (.slice oo sizes.length cc), (.int .i64 (sizes.length : Int)), s11, s12, u13, u14, u15, u16, u17, u18, u19, u20, u21, u22, u23, u24, u25, u26, u27, u28, u29, u30, u31, u32, u33, u34, u35, u36, u37, u38, u39, u40, u41, u42, u43, u44, u45, u46, u47, u48, u49, u50, u51, u52, u53, s54, s55, s56, s57, s58, s59, s60, s61, s62, s63, s64, s65, s66, s67, s68, s69, s70, s71, s72, s73, s74, s75, s76, s77, u78, u79, u80, u81, u82, u83, u84, u85, u86, u87, u88, u89, u90, u91, u92, u93, u94, u95, u96, u97, u98, u99, u100, u101, u102, u103, u104, u105, u106, u107, u108, u109, u110, u111, u112, u113, u114, u115, u116, u117, u118, u119, u120, u121, u122, u123, u124, u125, u126, u127, u128, u129, u130, u131, u132, u133, u134, u135, u136, u137, u138, u139, u140, u141, u142, u143, u144, u145, u146, u147, u148, u149, u150, u151, u152, u153, u154, u155, u156, u157, u158, u159, u160, u161, u162, u163, u164, u165, u166, u167, u168, u169, u170, u171, u172, u173, u174, u175, u176, u177, u178, u179, u180, u181, u182, u183, u184, u185, u186, u187, u188, u189, u190], []⟩ w') :
    Code.wp Try.prog (Cut.piece Try.f3 (Cut.loop 8)) Q ⟨#[(.slice (some ⟨a0, o0, none⟩) sizes.length c0), u1, u2, u3, u4, u5, u6, (.pointer (some ⟨hb, 0, none⟩)), u8, (.slice none 0 0), (.int .i64 (0 : Int)), u11, u12, u13, u14, u15, u16, u17, u18, u19, u20, u21, u22, u23, u24, u25, u26, u27, u28, u29, u30, u31, u32, u33, u34, u35, u36, u37, u38, u39, u40, u41, u42, u43, u44, u45, u46, u47, u48, u49, u50, u51, u52, u53, u54, u55, u56, u57, u58, u59, u60, u61, u62, u63, u64, u65, u66, u67, u68, u69, u70, u71, u72, u73, u74, u75, u76, u77, u78, u79, u80, u81, u82, u83, u84, u85, u86, u87, u88, u89, u90, u91, u92, u93, u94, u95, u96, u97, u98, u99, u100, u101, u102, u103, u104, u105, u106, u107, u108, u109, u110, u111, u112, u113, u114, u115, u116, u117, u118, u119, u120, u121, u122, u123, u124, u125, u126, u127, u128, u129, u130, u131, u132, u133, u134, u135, u136, u137, u138, u139, u140, u141, u142, u143, u144, u145, u146, u147, u148, u149, u150, u151, u152, u153, u154, u155, u156, u157, u158, u159, u160, u161, u162, u163, u164, u165, u166, u167, u168, u169, u170, u171, u172, u173, u174, u175, u176, u177, u178, u179, u180, u181, u182, u183, u184, u185, u186, u187, u188, u189, u190], []⟩ w := by
  conv => arg 2; whnf
  refine wp_loop (InvA a0 o0 c0 sizes w0 hb nb mb B u1 u2 u3 u4 u5 u6 u8 u13 u14 u15 u16 u17 u18 u19 u20 u21 u22 u23 u24 u25 u26 u27 u28 u29 u30 u31 u32 u33 u34 u35 u36 u37 u38 u39 u40 u41 u42 u43 u44 u45 u46 u47 u48 u49 u50 u51 u52 u53 u78 u79 u80 u81 u82 u83 u84 u85 u86 u87 u88 u89 u90 u91 u92 u93 u94 u95 u96 u97 u98 u99 u100 u101 u102 u103 u104 u105 u106 u107 u108 u109 u110 u111 u112 u113 u114 u115 u116 u117 u118 u119 u120 u121 u122 u123 u124 u125 u126 u127 u128 u129 u130 u131 u132 u133 u134 u135 u136 u137 u138 u139 u140 u141 u142 u143 u144 u145 u146 u147 u148 u149 u150 u151 u152 u153 u154 u155 u156 u157 u158 u159 u160 u161 u162 u163 u164 u165 u166 u167 u168 u169 u170 u171 u172 u173 u174 u175 u176 u177 u178 u179 u180 u181 u182 u183 u184 u185 u186 u187 u188 u189 u190) (muA sizes.length) ?_ (fun a' wr hI => ?_)
  · exact ⟨0, none, 0, u11, u12, u54, u55, u56, u57, u58, u59, u60, u61, u62, u63, u64, u65, u66, u67, u68, u69, u70, u71, u72, u73, u74, u75, u76, u77, h0, rfl⟩
  obtain ⟨i, hI⟩ := hI
  obtain ⟨oo, hI⟩ := hI
  obtain ⟨cc, hI⟩ := hI
  obtain ⟨s11, hI⟩ := hI
  obtain ⟨s12, hI⟩ := hI
  obtain ⟨s54, hI⟩ := hI
  obtain ⟨s55, hI⟩ := hI
  obtain ⟨s56, hI⟩ := hI
  obtain ⟨s57, hI⟩ := hI
  obtain ⟨s58, hI⟩ := hI
  obtain ⟨s59, hI⟩ := hI
  obtain ⟨s60, hI⟩ := hI
  obtain ⟨s61, hI⟩ := hI
  obtain ⟨s62, hI⟩ := hI
  obtain ⟨s63, hI⟩ := hI
  obtain ⟨s64, hI⟩ := hI
  obtain ⟨s65, hI⟩ := hI
  obtain ⟨s66, hI⟩ := hI
  obtain ⟨s67, hI⟩ := hI
  obtain ⟨s68, hI⟩ := hI
  obtain ⟨s69, hI⟩ := hI
  obtain ⟨s70, hI⟩ := hI
  obtain ⟨s71, hI⟩ := hI
  obtain ⟨s72, hI⟩ := hI
  obtain ⟨s73, hI⟩ := hI
  obtain ⟨s74, hI⟩ := hI
  obtain ⟨s75, hI⟩ := hI
  obtain ⟨s76, hI⟩ := hI
  obtain ⟨s77, hI⟩ := hI
  obtain ⟨⟨hi', H, nu, hY, hrow, hT⟩, rfl⟩ := hI
  have hbig := big_lt
  clear h0
  by_cases hil : i < sizes.length
  · have hil' : decide ((i : Int) < (sizes.length : Int)) = true := by simpa using hil
    have hil2 : (i : Int) < (sizes.length : Int) := by omega
    have hi0 : (0 : Int) ≤ (i : Int) := by omega
    obtain ⟨v, hv⟩ : ∃ v, sizes[i]? = some v := ⟨_, List.getElem?_eq_getElem hil⟩
    have hcw : wr.cell? ⟨a0, o0 + i, none⟩ = some (.int .i64 v) := (hT.cell (p := ⟨a0, o0 + i, none⟩) (World.block_lt_of_cell? w0 _ (hcell i v hv)) ha).trans (hcell i v hv)
    have hpick := pick_any v 8 wr (by decide) (by decide)
    have b3 : i + 1 ≤ big := by unfold big; omega
    have c3 : IntKind.i64.wrap ((i : Int) + 1) = (i : Int) + 1 := wrapk_two i 1 b3
    have c6 : wrap64 ((i : Int) + 1) = (i : Int) + 1 := wrap_two i 1 b3
    clear hcell hbig
    go_wp2_with fail
    refine hpick.mono ?_
    rintro e w2 ⟨⟨j, hj, rfl⟩, hb2⟩
    clear hpick
    have htot := hY.tot
    have hroom := hY.room
    have halloc := alloc_ob (hY.hr.below hb2) hY.hi (i : Int) j (by omega) (by omega) (by have := hY.next; omega)
    go_wp2_with fail
    refine halloc.mono ?_
    rintro e w3 ⟨rfl, hr3, hi3, hT3⟩
    clear halloc
    obtain ⟨i0, hi1, hq0, hq1, hq2⟩ := info_parts infoVal
    have bm : i + 1 ≤ maxLen := max_of _ b3
    have bb : (i + 1) * 32 ≤ 140737488355328 := by omega
    have hT3' : Turned (fun k => k = hb ∨ k = nb ∨ k = mb) w0 w3 := (hT.trans (Turned.of_below _ hb2)).trans hT3
    have hlo := hY.hr.lo
    have hz3 := hT3'.size
    have hne : ∀ k, (Value.slice oo i cc).ownBlock = some k → ¬ (k = hb ∨ k = nb ∨ k = mb) := fun k hk h => by
      have h1 := own_lt hrow hk
      have h2 := hw0
      rcases h with rfl | rfl | rfl <;> omega
    have hrow3 : w3.ownsRow w0.heap.size 34 3 (.slice oo i cc) i (refVals nu) := ownsRow_same hrow (fun k hk => (hT3.block k (by have := (own_lt hrow hk).2; have := hb2.size; omega) (hne k hk)).trans (hb2.block k (own_lt hrow hk).2))
    have A1 := Lib.hid hr3
    have A2 := Lib.hid hi3
    have A3 := Lib.hid hT3'
    have A4 := Lib.hid hY
    clear hr3 hi3 hT3 hT3' hY hT hrow hb2 hcw hv
    go_wp2_with (at_builtin; go_loud (refine wpList_append_own _ rfl _ _ 29 rfl w0.heap.size 34 i0 (.agg #[.int .i64 0, .int .i64 0, .string ByteArray.empty]) 3 32 Try.underlying29 hi1 hq0 hq1 hq2 rfl (by decide) (.slice oo i cc) i (refVals nu) rfl (hrow3.alloc _) ⟨w3.heap.size, 0, none⟩ 1 1 [.int .i64 4, .int .i64 ((newOb H 2 (i : Int) j).addr : Int), .string ByteArray.empty] rfl rfl ?c1 ?c2 ?c3 ?c4 ?c5 ?grow))
    case c1 => exact World.news_of_block (cs := #[.int .i64 4, .int .i64 ((newOb H 2 (i : Int) j).addr : Int), .string ByteArray.empty]) (t := 34) (fr := (0, 0)) (heap_alloc_last w3 _)
    case c2 =>
      intro u hu
      simp only [List.mem_cons, List.not_mem_nil, or_false] at hu
      rcases hu with rfl | rfl | rfl <;> rfl
    case c3 => exact bm
    case c4 => exact bb
    case c5 => simp; omega
    case grow =>
      intro v' w4 hown' hgrow _
      rw [refVals_snoc] at hown'
      obtain ⟨g, cap, rfl⟩ := row_slice hown' (by omega)
      have hT4 : Turned (fun k => k = hb ∨ k = nb ∨ k = mb) w0 w4 := (A3.out.alloc _).grown hgrow (fun k hk => .inr (own_lt hrow3 hk).1)
      have hr4 : HR w4 hb nb mb (.slice none 0 0) (.slice none 0 0) B (H.alloc 2 (i : Int) j) := (A1.out.below ((Below.refl _ w3).alloc (Nat.le_refl _) (.cells #[.int .i64 4, .int .i64 ((newOb H 2 (i : Int) j).addr : Int), .string ByteArray.empty] 34 (0, 0)))).turned ((Turned.refl (fun k => (Value.slice oo i cc).ownBlock = some k) _).grown hgrow (fun k hk => .inl hk)) (fun k hO hk => by
        have hn : (Value.slice none 0 0).ownBlock = some k → False := fun h => by cases h
        exact hO.elim (fun h => hne k hk (.inl h)) (fun h => h.elim (fun h => hne k hk (.inr (.inl h))) (fun h => h.elim (fun h => hne k hk (.inr (.inr h))) (fun h => h.elim hn hn))))
      have hY4 : Young w4 hb nb mb B (i + 1) (H.alloc 2 (i : Int) j) (nu ++ [newOb H 2 (i : Int) j]) := {
        hr := hr4
        hi := A2.out
        len := by rw [List.length_append, A4.out.len]; rfl
        next := by show (if (2 : Int) = 4 then H.next else H.next + 1) = _; rw [if_neg (by decide), A4.out.next]
        room := A4.out.room
        most := A4.out.most
        mins := A4.out.mins
        majs := A4.out.majs
        tot := by
          have h1 := A4.out.tot
          have h2 : total (nu ++ [newOb H 2 (i : Int) j]) = total nu + (1 + j) := by
            rw [total_append]
            simp [total, newOb, Ob.len]
          omega
        ids := fun o ho => by
          rcases List.mem_append.mp ho with ho | ho
          · exact A4.out.ids o ho
          · rw [List.mem_singleton] at ho
            subst ho
            show (if (2 : Int) = 4 then 0 else (H.next : Int) + 1) ≠ 0
            rw [if_neg (by decide)]
            omega }
      have A5 := Lib.hid (show RelA w0 hb nb mb B sizes.length (i + 1) (.slice (some ⟨g, 0, none⟩) (i + 1) cap) w4 from ⟨by omega, _, _, hY4, hown', hT4⟩)
      clear hY4 hr4 hT4 hgrow hown' hrow3
      go_wp2
      clear c3 c6
      refine ⟨⟨i + 1, some ⟨g, 0, none⟩, cap, _, _, _, _, _, _, _, _, _, _, _, _, _, _, _, _, _, _, _, _, _, _, _, _, _, _, A5.out, rfl⟩, ?_⟩
      simp [muA, intOf]
      omega
  · have hie : i = sizes.length := by omega
    subst hie
    have hil' : decide ((sizes.length : Int) < (sizes.length : Int)) = false := by simp
    have A1 := Lib.hid (show RelA w0 hb nb mb B sizes.length sizes.length (.slice oo sizes.length cc) wr from ⟨hi', H, nu, hY, hrow, hT⟩)
    clear hcell hY hrow hT
    go_wp2
    exact A1.out

end Go.Proofs.Ythbkklnahhdgcaa.ChTi
