/-
  HeapCheney's links: one link, and the region that draws.
-/
import Derived.Test.YthbkklnahhdgcaaMChTi
import Derived.Deep.RegionHeld3
namespace Go.Proofs.Ythbkklnahhdgcaa.ChTja
open Go Go.Proofs Go.RowKit Go.Maps Go.Proofs.Ythbkklnahhdgcaa.Lib Go.Proofs.Ythbkklnahhdgcaa.HeapR Go.Proofs.Ythbkklnahhdgcaa.HeapB Go.Proofs.Ythbkklnahhdgcaa.HeapC Go.Proofs.Ythbkklnahhdgcaa.HeapD Go.Proofs.Ythbkklnahhdgcaa.HeapG Go.Proofs.Ythbkklnahhdgcaa.HeapH Go.Proofs.Ythbkklnahhdgcaa.ChA Go.Proofs.Ythbkklnahhdgcaa.ChT Go.Proofs.Ythbkklnahhdgcaa.ChCa Go.Proofs.Ythbkklnahhdgcaa.ChCc Go.Proofs.Ythbkklnahhdgcaa.ChE Go.Proofs.Ythbkklnahhdgcaa.ChH Go.Proofs.Ythbkklnahhdgcaa.ChL Go.Proofs.Ythbkklnahhdgcaa.ChM Go.Proofs.Ythbkklnahhdgcaa.ChN Go.Proofs.Ythbkklnahhdgcaa.ChO Go.Proofs.Ythbkklnahhdgcaa.ChR Go.Proofs.Ythbkklnahhdgcaa.ChU Go.Proofs.Ythbkklnahhdgcaa.ChV Go.Proofs.Ythbkklnahhdgcaa.ChW Go.Proofs.Ythbkklnahhdgcaa.ChZ Go.Proofs.Ythbkklnahhdgcaa.ChTe Go.Proofs.Ythbkklnahhdgcaa.ChTh Go.Proofs.Ythbkklnahhdgcaa.ChTi

/-- Where objects lie, and how many fields they have. -/
def lens (l : List Ob) : List (Nat × Nat) := l.map fun o => (o.addr, o.fs.length)
theorem lens_set (l : List Ob) (a i : Nat) (v : Vl) : lens (setOb l a i v) = lens l := by
  unfold lens setOb
  rw [List.map_map]
  refine List.map_congr_left fun x _ => ?_
  simp only [Function.comp]
  split <;> simp
theorem refVals_lens {l k : List Ob} (h : lens l = lens k) : refVals l = refVals k := by
  have h1 : ∀ l : List Ob, refVals l = (lens l).flatMap fun o => [.int .i64 4, .int .i64 (o.1 : Int), .string ByteArray.empty] := fun l => by
    unfold refVals lens
    rw [List.flatMap_map]
  rw [h1, h1, h]
theorem lens_mem {l k : List Ob} (h : lens l = lens k) {x : Ob} (hx : x ∈ k) : ∃ y ∈ l, y.addr = x.addr ∧ y.fs.length = x.fs.length := by
  have h1 : (x.addr, x.fs.length) ∈ lens l := h ▸ List.mem_map.2 ⟨x, hx, rfl⟩
  obtain ⟨y, hy, e⟩ := List.mem_map.1 h1
  injection e with e1 e2
  exact ⟨y, hy, e1, e2⟩
end Go.Proofs.Ythbkklnahhdgcaa.ChTja
namespace Go.Proofs.Ythbkklnahhdgcaa.ChTi
open Go Go.Proofs Go.RowKit Go.Maps Go.Proofs.Ythbkklnahhdgcaa.Lib Go.Proofs.Ythbkklnahhdgcaa.HeapR Go.Proofs.Ythbkklnahhdgcaa.HeapB Go.Proofs.Ythbkklnahhdgcaa.HeapC Go.Proofs.Ythbkklnahhdgcaa.HeapD Go.Proofs.Ythbkklnahhdgcaa.HeapG Go.Proofs.Ythbkklnahhdgcaa.HeapH Go.Proofs.Ythbkklnahhdgcaa.ChA Go.Proofs.Ythbkklnahhdgcaa.ChT Go.Proofs.Ythbkklnahhdgcaa.ChCa Go.Proofs.Ythbkklnahhdgcaa.ChCc Go.Proofs.Ythbkklnahhdgcaa.ChE Go.Proofs.Ythbkklnahhdgcaa.ChH Go.Proofs.Ythbkklnahhdgcaa.ChL Go.Proofs.Ythbkklnahhdgcaa.ChM Go.Proofs.Ythbkklnahhdgcaa.ChN Go.Proofs.Ythbkklnahhdgcaa.ChO Go.Proofs.Ythbkklnahhdgcaa.ChR Go.Proofs.Ythbkklnahhdgcaa.ChU Go.Proofs.Ythbkklnahhdgcaa.ChV Go.Proofs.Ythbkklnahhdgcaa.ChW Go.Proofs.Ythbkklnahhdgcaa.ChZ Go.Proofs.Ythbkklnahhdgcaa.ChTe Go.Proofs.Ythbkklnahhdgcaa.ChTh Go.Proofs.Ythbkklnahhdgcaa.ChTi

open Go.Proofs.Ythbkklnahhdgcaa.ChTja
theorem Young.below {w w' : World} {hb nb mb B n : Nat} {H : HS} {nu : List Ob} (h : Young w hb nb mb B n H nu) (hw : Below w.heap.size w w') : Young w' hb nb mb B n H nu := { h with hr := h.hr.below hw }
end Go.Proofs.Ythbkklnahhdgcaa.ChTi
namespace Go.Proofs.Ythbkklnahhdgcaa.ChTja
open Go Go.Proofs Go.RowKit Go.Maps Go.Proofs.Ythbkklnahhdgcaa.Lib Go.Proofs.Ythbkklnahhdgcaa.HeapR Go.Proofs.Ythbkklnahhdgcaa.HeapB Go.Proofs.Ythbkklnahhdgcaa.HeapC Go.Proofs.Ythbkklnahhdgcaa.HeapD Go.Proofs.Ythbkklnahhdgcaa.HeapG Go.Proofs.Ythbkklnahhdgcaa.HeapH Go.Proofs.Ythbkklnahhdgcaa.ChA Go.Proofs.Ythbkklnahhdgcaa.ChT Go.Proofs.Ythbkklnahhdgcaa.ChCa Go.Proofs.Ythbkklnahhdgcaa.ChCc Go.Proofs.Ythbkklnahhdgcaa.ChE Go.Proofs.Ythbkklnahhdgcaa.ChH Go.Proofs.Ythbkklnahhdgcaa.ChL Go.Proofs.Ythbkklnahhdgcaa.ChM Go.Proofs.Ythbkklnahhdgcaa.ChN Go.Proofs.Ythbkklnahhdgcaa.ChO Go.Proofs.Ythbkklnahhdgcaa.ChR Go.Proofs.Ythbkklnahhdgcaa.ChU Go.Proofs.Ythbkklnahhdgcaa.ChV Go.Proofs.Ythbkklnahhdgcaa.ChW Go.Proofs.Ythbkklnahhdgcaa.ChZ Go.Proofs.Ythbkklnahhdgcaa.ChTe Go.Proofs.Ythbkklnahhdgcaa.ChTh Go.Proofs.Ythbkklnahhdgcaa.ChTi

/-- What holds inside the region. -/
def SB (w : World) (hb nb mb B n : Nat) (nu : List Ob) (wz : World) : Prop :=
  Turned (fun k => k = hb ∨ k = nb ∨ k = mb) w wz ∧ ∃ H' nu', Young wz hb nb mb B n H' nu' ∧ lens nu' = lens nu
theorem SB.below {w wz w2 : World} {hb nb mb B n : Nat} {nu : List Ob} (h : SB w hb nb mb B n nu wz) (hw : Below wz.heap.size wz w2) : SB w hb nb mb B n nu w2 := by
  obtain ⟨h1, H', nu', h2, h3⟩ := h
  exact ⟨h1.trans (Turned.of_below _ hw), H', nu', h2.below hw, h3⟩

theorem young_sz {w : World} {hb nb mb B n : Nat} {H : HS} {nu : List Ob} (h : Young w hb nb mb B n H nu) (hn : n ≤ 30) : ∀ x ∈ nu ++ [], x.addr + x.len ≤ big := fun x hx => by
  have hx' : x ∈ nu := by simpa using hx
  have h1 := laid_in h.hi.na hx'
  have h2 := h.tot
  unfold big
  omega

theorem link_set {w wz : World} {hb nb mb B n : Nat} {nu : List Ob} (hS : SB w hb nb mb B n nu wz) (hn : n ≤ 30) {x : Ob} (hx : x ∈ nu) {j : Nat} (hj : j < x.fs.length) (v : Vl) (hv : v.k = 4 → ∃ y ∈ nu, v.n = (y.addr : Int)) :
    Calls Try.prog 9 #[.pointer (some ⟨hb, 0, none⟩), .int .i64 (x.addr : Int), .int .i64 (j : Int), .agg #[.int .i64 v.k, .int .i64 v.n, .string v.s]] wz fun e w' => e = .returned .nilIface ∧ SB w hb nb mb B n nu w' := by
  obtain ⟨h1, H', nu', h2, h3⟩ := hS
  obtain ⟨x', hx', e1, e2⟩ := lens_mem h3 hx
  have hc := set_ob h2.hr h2.hi hx' (i := j) (by omega) v (fun hk => by
    obtain ⟨y, hy, e⟩ := hv hk
    obtain ⟨y', hy', e3, _⟩ := lens_mem h3 hy
    exact ⟨y', by simpa using hy', by rw [e, e3]⟩) (young_sz h2 hn)
  rw [e1] at hc
  refine hc.mono ?_
  rintro e w' ⟨rfl, r1, r2, r3⟩
  refine ⟨rfl, h1.trans (r3.mono fun k hk => .inr (.inl hk)), _, _, { hr := r1, hi := r2, len := ?_, next := h2.next, room := h2.room, most := h2.most, mins := h2.mins, majs := h2.majs, tot := ?_, ids := ?_ }, (lens_set ..).trans h3⟩
  · unfold setOb
    rw [List.length_map]
    exact h2.len
  · rw [total_setOb]
    exact h2.tot
  · intro o ho
    obtain ⟨y, hy, _, e, _⟩ := mem_setOb ho
    rw [e]
    exact h2.ids y hy

theorem keepS {w : World} {hb nb mb B n : Nat} {nu : List Ob} {b14 b15 a1 p : Nat} {x : Ob} {v : Vl} {v1 : Int} (h14 : w.cell? ⟨b14, 1, none⟩ = some (.int .i64 (x.addr : Int))) (h1 : w.cell? ⟨a1, p, none⟩ = some (.int .i64 v1)) (hv0 : w.cell? ⟨b15, 0, none⟩ = some (.int .i64 v.k)) (hv1 : w.cell? ⟨b15, 1, none⟩ = some (.int .i64 v.n)) (hv2 : w.cell? ⟨b15, 2, none⟩ = some (.string v.s))
    (n14 : ¬ (b14 = hb ∨ b14 = nb ∨ b14 = mb)) (n15 : ¬ (b15 = hb ∨ b15 = nb ∨ b15 = mb)) (n1 : ¬ (a1 = hb ∨ a1 = nb ∨ a1 = mb)) : ∀ wz, SB w hb nb mb B n nu wz →
    (wz.cell? ⟨b14, 1, none⟩ = some (.int .i64 (x.addr : Int)) ∧ wz.cell? ⟨a1, p, none⟩ = some (.int .i64 v1) ∧ wz.cell? ⟨b15, 0, none⟩ = some (.int .i64 v.k) ∧ wz.cell? ⟨b15, 1, none⟩ = some (.int .i64 v.n) ∧ wz.cell? ⟨b15, 2, none⟩ = some (.string v.s)) ∧ SB w hb nb mb B n nu wz := fun _wz hz =>
  ⟨⟨(hz.1.cell (p := ⟨b14, 1, none⟩) (World.block_lt_of_cell? w _ h14) n14).trans h14, (hz.1.cell (p := ⟨a1, p, none⟩) (World.block_lt_of_cell? w _ h1) n1).trans h1, (hz.1.cell (p := ⟨b15, 0, none⟩) (World.block_lt_of_cell? w _ hv0) n15).trans hv0, (hz.1.cell (p := ⟨b15, 1, none⟩) (World.block_lt_of_cell? w _ hv1) n15).trans hv1, (hz.1.cell (p := ⟨b15, 2, none⟩) (World.block_lt_of_cell? w _ hv2) n15).trans hv2⟩, hz⟩

theorem fromS {w wz : World} {hb nb mb B n : Nat} {nu : List Ob} (b14 b15 a1 p : Nat) (x : Ob) (v : Vl) (v1 : Int) (h : (wz.cell? ⟨b14, 1, none⟩ = some (.int .i64 (x.addr : Int)) ∧ wz.cell? ⟨a1, p, none⟩ = some (.int .i64 v1) ∧ wz.cell? ⟨b15, 0, none⟩ = some (.int .i64 v.k) ∧ wz.cell? ⟨b15, 1, none⟩ = some (.int .i64 v.n) ∧ wz.cell? ⟨b15, 2, none⟩ = some (.string v.s)) ∧ SB w hb nb mb B n nu wz) : SB w hb nb mb B n nu wz := h.2

set_option maxRecDepth 100000 in
set_option maxHeartbeats 4000000 in
theorem link_region {Q : Exit → Act → World → Prop} (u0 u2 u3 u4 u5 u6 u8 u9 u10 u11 u12 u17 u18 u19 u20 u21 u22 u23 u24 u25 u26 u27 u28 u29 u30 u31 u32 u33 u34 u35 u36 u37 u38 u39 u40 u41 u42 u43 u44 u45 u46 u47 u48 u49 u50 u51 u52 u53 u54 u55 u56 u57 u58 u59 u60 u61 u62 u63 u64 u65 u66 u67 u68 u69 u70 u71 u72 u73 u74 u75 u76 u77 u78 u79 u80 u81 u82 u83 u84 u85 u86 u87 u88 u89 u90 u91 u92 u93 u94 u95 u96 u97 u98 u99 u100 u101 u102 u103 u104 u105 u106 u107 u108 u109 u110 u111 u112 u113 u114 u115 u116 u117 u118 u119 u120 u121 u122 u123 u124 u125 u126 u127 u128 u129 u130 u131 u132 u133 u134 u135 u136 u137 u138 u139 u140 u141 u142 u143 u144 u145 u146 u147 u148 u149 u150 u151 u152 u153 u154 u155 u156 u157 u158 u159 u160 u161 u162 u163 u164 u165 u166 u167 u168 u169 u170 u171 u172 u173 u174 u175 u176 u177 u178 u179 u180 u181 u182 u183 u184 u185 u186 u187 u188 u189 u190 : Value) (a1 o1 c1 m i b14 b15 : Nat) (hb nb mb B n : Nat) (nu : List Ob) (x : Ob) (v : Vl) (v1 : Int) (w : World) (H : HS) (hY : Young w hb nb mb B n H nu) (hn : n ≤ 30) (hx : x ∈ nu) (hv : v.k = 4 → ∃ y ∈ nu, v.n = (y.addr : Int)) (hm : i + 2 < m) (hm90 : m ≤ 90) (hx0 : 0 < x.fs.length)
    (h14 : w.cell? ⟨b14, 1, none⟩ = some (.int .i64 (x.addr : Int))) (h1 : w.cell? ⟨a1, o1 + (i + 1), none⟩ = some (.int .i64 v1)) (hv0 : w.cell? ⟨b15, 0, none⟩ = some (.int .i64 v.k)) (hv1 : w.cell? ⟨b15, 1, none⟩ = some (.int .i64 v.n)) (hv2 : w.cell? ⟨b15, 2, none⟩ = some (.string v.s))
    (n14 : ¬ (b14 = hb ∨ b14 = nb ∨ b14 = mb)) (n15 : ¬ (b15 = hb ∨ b15 = nb ∨ b15 = mb)) (n1 : ¬ (a1 = hb ∨ a1 = nb ∨ a1 = mb))
    (hQ : ∀ (s123 s124 s125 s126 s127 s128 s129 s130 s131 s132 s133 s134 s135 s136 s137 s138 : Value) (w' : World), SB w hb nb mb B n nu w' → Q .normal ⟨#[u0, (.slice (some ⟨a1, o1, none⟩) m c1), u2, u3, u4, u5, u6, (.pointer (some ⟨hb, 0, none⟩)), u8, u9, u10, u11, u12, (.int .i64 (i : Int)), (.pointer (some ⟨b14, 0, none⟩)), (.pointer (some ⟨b15, 0, none⟩)), (.int .i64 (x.fs.length : Int)), u17, u18, u19, u20, u21, u22, u23, u24, u25, u26, u27, u28, u29, u30, u31, u32, u33, u34, u35, u36, u37, u38, u39, u40, u41, u42, u43, u44, u45, u46, u47, u48, u49, u50, u51, u52, u53, u54, u55, u56, u57, u58, u59, u60, u61, u62, u63, u64, u65, u66, u67, u68, u69, u70, u71, u72, u73, u74, u75, u76, u77, u78, u79, u80, u81, u82, u83, u84, u85, u86, u87, u88, u89, u90, u91, u92, u93, u94, u95, u96, u97, u98, u99, u100, u101, u102, u103, u104, u105, u106, u107, u108, u109, u110, u111, u112, u113, u114, u115, u116, u117, u118, u119, u120, u121, u122, s123, s124, s125, s126, s127, s128, s129, s130, s131, s132, s133, s134, s135, s136, s137, s138, (.bool false), u140, u141, u142, u143, u144, u145, u146, u147, u148, u149, u150, u151, u152, u153, u154, u155, u156, u157, u158, u159, u160, u161, u162, u163, u164, u165, u166, u167, u168, u169, u170, u171, u172, u173, u174, u175, u176, u177, u178, u179, u180, u181, u182, u183, u184, u185, u186, u187, u188, u189, u190], []⟩ w') :
    Code.wp Try.prog (Cut.piece Try.f3 (Cut.region 22)) Q ⟨#[u0, (.slice (some ⟨a1, o1, none⟩) m c1), u2, u3, u4, u5, u6, (.pointer (some ⟨hb, 0, none⟩)), u8, u9, u10, u11, u12, (.int .i64 (i : Int)), (.pointer (some ⟨b14, 0, none⟩)), (.pointer (some ⟨b15, 0, none⟩)), (.int .i64 (x.fs.length : Int)), u17, u18, u19, u20, u21, u22, u23, u24, u25, u26, u27, u28, u29, u30, u31, u32, u33, u34, u35, u36, u37, u38, u39, u40, u41, u42, u43, u44, u45, u46, u47, u48, u49, u50, u51, u52, u53, u54, u55, u56, u57, u58, u59, u60, u61, u62, u63, u64, u65, u66, u67, u68, u69, u70, u71, u72, u73, u74, u75, u76, u77, u78, u79, u80, u81, u82, u83, u84, u85, u86, u87, u88, u89, u90, u91, u92, u93, u94, u95, u96, u97, u98, u99, u100, u101, u102, u103, u104, u105, u106, u107, u108, u109, u110, u111, u112, u113, u114, u115, u116, u117, u118, u119, u120, u121, u122, u123, u124, u125, u126, u127, u128, u129, u130, u131, u132, u133, u134, u135, u136, u137, u138, u139, u140, u141, u142, u143, u144, u145, u146, u147, u148, u149, u150, u151, u152, u153, u154, u155, u156, u157, u158, u159, u160, u161, u162, u163, u164, u165, u166, u167, u168, u169, u170, u171, u172, u173, u174, u175, u176, u177, u178, u179, u180, u181, u182, u183, u184, u185, u186, u187, u188, u189, u190], []⟩ w := by
  have hk := keepS (hb := hb) (nb := nb) (mb := mb) (B := B) (n := n) (nu := nu) h14 h1 hv0 hv1 hv2 n14 n15 n1
  have hS0 : SB w hb nb mb B n nu w := ⟨Turned.refl _ _, H, nu, hY, rfl⟩
  have hsz := young_sz hY hn
  have hxl : x.fs.length ≤ big := by
    have h1 := hsz x (by simpa using hx)
    have h2 : x.len = 1 + x.fs.length := rfl
    omega
  have b3 : i + 1 ≤ big := by unfold big; omega
  have c3 : IntKind.i64.wrap ((i : Int) + 1) = (i : Int) + 1 := wrapk_two i 1 b3
  have c6 : wrap64 ((i : Int) + 1) = (i : Int) + 1 := wrap_two i 1 b3
  have e2 : ((i : Int) + 1).toNat = i + 1 := by omega
  have hi2 : (0 : Int) ≤ (i : Int) + 1 := by omega
  have hl2 : (i : Int) + 1 < (m : Int) := by omega
  have hg : decide ((0 : Int) < (x.fs.length : Int)) = true := by simpa using hx0
  have hset := fun {wz : World} (hz : SB w hb nb mb B n nu wz) {j : Nat} (hj : j < x.fs.length) => link_set hz hn hx hj v hv
  have hD : SB w hb nb mb B n nu w.drew := hS0.below (Below.refl _ w).drew
  have kD := hk _ hD
  clear h14 h1 hv0 hv1 hv2 hY hsz
  conv => arg 2; whnf
  go_region_held3 (fun wz => (wz.cell? ⟨b14, 1, none⟩ = some (.int .i64 (x.addr : Int)) ∧ wz.cell? ⟨a1, o1 + (i + 1), none⟩ = some (.int .i64 v1) ∧ wz.cell? ⟨b15, 0, none⟩ = some (.int .i64 v.k) ∧ wz.cell? ⟨b15, 1, none⟩ = some (.int .i64 v.n) ∧ wz.cell? ⟨b15, 2, none⟩ = some (.string v.s)) ∧ SB w hb nb mb B n nu wz) (first | exact kD | exact kS2 | exact kS) ((first | (go_at_call 7; go_loud (refine (pick_any v1 x.fs.length _ hx0 hxl).mono ?_; rintro e w2 ⟨⟨j, hj, rfl⟩, hb2⟩; have kS := hk _ ((fromS (w := w) (hb := hb) (nb := nb) (mb := mb) (B := B) (n := n) (nu := nu) b14 b15 a1 (o1 + (i + 1)) x v v1 (by assumption)).below hb2))) | (go_at_call 9; go_loud (refine (hset (fromS (w := w) (hb := hb) (nb := nb) (mb := mb) (B := B) (n := n) (nu := nu) b14 b15 a1 (o1 + (i + 1)) x v v1 (by assumption)) hj).mono ?_; rintro e w3 ⟨rfl, hz3⟩; have kS2 := hk _ hz3))))
  exact hQ _ _ _ _ _ _ _ _ _ _ _ _ _ _ _ _ _ hz3

end Go.Proofs.Ythbkklnahhdgcaa.ChTja
