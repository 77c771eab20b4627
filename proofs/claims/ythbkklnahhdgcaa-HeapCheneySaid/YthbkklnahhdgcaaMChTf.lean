/-
  Package heap's Ids: how many it gives.
-/
import Derived.Test.YthbkklnahhdgcaaMChTe
import Derived.Shelf.Sort.Plain
import Derived.Ground.NamesProg
import Derived.Sort.OwnSortedInts
namespace Go.Proofs
open Go.Shelf
def Try.lays189_ren : Go.Shelf.Ren := ⟨fun | 189 => 29 | 125 => 32 | 257 => 31 | 128 => 42 | 129 => 43 | 294 => 33 | 295 => 34 | 296 => 35 | 297 => 36 | 298 => 37 | 299 => 38 | 216 => 39 | 300 => 40 | 301 => 41 | 328 => 44 | 329 => 45 | 330 => 46 | 331 => 47 | 332 => 48 | 215 => 49 | 343 => 50 | n => n, fun | 28 => 22 | 3 => 3 | 46 => 56 | 0 => 0 | 51 => 85 | 53 => 87 | 4 => 4 | 183 => 77 | 182 => 76 | 131 => 82 | 5 => 5 | 9 => 9 | 218 => 88 | 222 => 92 | 228 => 94 | 229 => 95 | n => n, fun | n => n⟩
theorem Try.lays189 : Go.Proofs.Lays.n189 Try.prog Try.lays189_ren := {
  mixed := by kernel_rfl
  f125 := Try.func32.trans (congrArg some (by kernel_rfl))
  f128 := Try.func42.trans (congrArg some (by kernel_rfl))
  f129 := Try.func43.trans (congrArg some (by kernel_rfl))
  f189 := Try.func29.trans (congrArg some (by kernel_rfl))
  f215 := Try.func49.trans (congrArg some (by kernel_rfl))
  f216 := Try.func39.trans (congrArg some (by kernel_rfl))
  f257 := Try.func31.trans (congrArg some (by kernel_rfl))
  f294 := Try.func33.trans (congrArg some (by kernel_rfl))
  f295 := Try.func34.trans (congrArg some (by kernel_rfl))
  f296 := Try.func35.trans (congrArg some (by kernel_rfl))
  f297 := Try.func36.trans (congrArg some (by kernel_rfl))
  f298 := Try.func37.trans (congrArg some (by kernel_rfl))
  f299 := Try.func38.trans (congrArg some (by kernel_rfl))
  f300 := Try.func40.trans (congrArg some (by kernel_rfl))
  f301 := Try.func41.trans (congrArg some (by kernel_rfl))
  f328 := Try.func44.trans (congrArg some (by kernel_rfl))
  f329 := Try.func45.trans (congrArg some (by kernel_rfl))
  f330 := Try.func46.trans (congrArg some (by kernel_rfl))
  f331 := Try.func47.trans (congrArg some (by kernel_rfl))
  f332 := Try.func48.trans (congrArg some (by kernel_rfl))
  f343 := Try.func50.trans (congrArg some (by kernel_rfl))
  t0 := Try.underlying0
  a0 := Try.isAgg0
  z0 := Try.sizeOf0
  v0 := Try.zeroValue0
  t3 := Try.underlying3
  a3 := Try.isAgg3
  z3 := Try.sizeOf3
  v3 := Try.zeroValue3
  t4 := Try.underlying4
  a4 := Try.isAgg4
  z4 := Try.sizeOf4
  v4 := Try.zeroValue4
  t5 := Try.underlying5
  a5 := Try.isAgg5
  z5 := Try.sizeOf5
  v5 := Try.zeroValue5
  t9 := Try.underlying9
  a9 := Try.isAgg9
  z9 := Try.sizeOf9
  v9 := Try.zeroValue9
  t28 := Try.underlying22
  a28 := Try.isAgg22
  z28 := Try.sizeOf22
  v28 := Try.zeroValue22
  t46 := Try.underlying56
  a46 := Try.isAgg56
  z46 := Try.sizeOf56
  v46 := Try.zeroValue56
  t51 := Try.underlying85
  a51 := Try.isAgg85
  z51 := Try.sizeOf85
  v51 := Try.zeroValue85
  t53 := Try.underlying87
  a53 := Try.isAgg87
  z53 := Try.sizeOf87
  v53 := Try.zeroValue87
  t131 := Try.underlying82
  a131 := Try.isAgg82
  z131 := Try.sizeOf82
  v131 := Try.zeroValue82
  t182 := Try.underlying76
  a182 := Try.isAgg76
  z182 := Try.sizeOf76
  v182 := Try.zeroValue76
  t183 := Try.underlying77
  a183 := Try.isAgg77
  z183 := Try.sizeOf77
  v183 := Try.zeroValue77
  t218 := Try.underlying88
  a218 := Try.isAgg88
  z218 := Try.sizeOf88
  v218 := Try.zeroValue88
  t222 := Try.underlying92
  a222 := Try.isAgg92
  z222 := Try.sizeOf92
  v222 := Try.zeroValue92
  t228 := Try.underlying94
  a228 := Try.isAgg94
  z228 := Try.sizeOf94
  v228 := Try.zeroValue94
  t229 := Try.underlying95
  a229 := Try.isAgg95
  z229 := Try.sizeOf95
  v229 := Try.zeroValue95 }
end Go.Proofs
namespace Go.Proofs.Ythbkklnahhdgcaa.ChTf
open Go Go.Proofs Go.RowKit Go.Maps Go.Sort Go.Shelf Go.Proofs.Ythbkklnahhdgcaa.Lib Go.Proofs.Ythbkklnahhdgcaa.HeapR Go.Proofs.Ythbkklnahhdgcaa.ChCa Go.Proofs.Ythbkklnahhdgcaa.ChCc Go.Proofs.Ythbkklnahhdgcaa.ChE Go.Proofs.Ythbkklnahhdgcaa.ChH Go.Proofs.Ythbkklnahhdgcaa.ChL Go.Proofs.Ythbkklnahhdgcaa.ChV Go.Proofs.Ythbkklnahhdgcaa.ChTb Go.Proofs.Ythbkklnahhdgcaa.ChTc Go.Proofs.Ythbkklnahhdgcaa.ChTd Go.Proofs.Ythbkklnahhdgcaa.ChTe

theorem sort_ints (g cap base : Nat) (xs : List Int) (w : World) (h : w.ownsRow base 3 1 (.slice (some ⟨g, 0, none⟩) xs.length cap) xs.length (xs.map (Value.int .i64))) (hl : xs.length ≤ big) :
    Calls Try.prog 29 #[.slice (some ⟨g, 0, none⟩) xs.length cap] w fun e w' => e = .returned (.tuple #[]) ∧ w.grownBy w' (some g) := by
  rcases h.2 with ⟨h0, _⟩ | ⟨g', cap', cur, hv, hbg, hb, hnc, hcm, hcs, htake⟩
  · cases h0
  cases hv
  have hH : Holds (Value.int .i64) w g 0 xs.toArray := holds_of_blockI hb (by rw [Nat.mul_one] at htake; exact htake)
  have hc := Any.slices_Sort_int Try.lays189 g 0 cap xs w hH (lt_of_block hb) (by unfold big at hl; omega)
  refine hc.mono ?_
  rintro e w' ⟨rfl, n, os, rfl⟩
  exact ⟨rfl, grownBy_sortedI _⟩

/-- What holds at each round. -/
def RelJ (mb r n : Nat) (D : DataW Unit) (w0 : World) (xs : List Int) (ov : Value) (wr : World) : Prop :=
  ∃ left cnt, wr.ranges Try.prog 3 (plainElem Try.prog 3) mb r n D left cnt ∧ wr.ownsRow w0.heap.size 3 1 ov xs.length (xs.map (Value.int .i64)) ∧ xs.Nodup ∧ (∀ id, id ∈ xs ↔ (has D (.int .i64 id) = true ∧ left (.int .i64 id) = false)) ∧ xs.length + cnt ≤ Maps.size D ∧ Below w0.heap.size w0 wr
/-- What holds behind it. -/
def DoneJ (D : DataW Unit) (w0 : World) (xs : List Int) (ov : Value) (wr : World) : Prop :=
  wr.ownsRow w0.heap.size 3 1 ov xs.length (xs.map (Value.int .i64)) ∧ xs.Nodup ∧ (∀ id, id ∈ xs ↔ has D (.int .i64 id) = true) ∧ xs.length ≤ Maps.size D ∧ Below w0.heap.size w0 wr

def InvJ (mb r n : Nat) (D : DataW Unit) (w0 : World) (u0 u1 u2 u5 u6 u7 u8 u18 u19 u20 : Value) (a : Act) (wr : World) : Prop :=
  ∃ (xs : List Int) (oo : Option Addr) (cc : Nat) (s4 s10 s11 s12 s13 s14 s15 s16 s17 : Value), RelJ mb r n D w0 xs (.slice oo xs.length cc) wr ∧ a = ⟨#[u0, u1, u2, (.slice oo xs.length cc), s4, u5, u6, u7, u8, (.pointer (some ⟨r, 0, none⟩)), s10, s11, s12, s13, s14, s15, s16, s17, u18, u19, u20], []⟩

set_option maxRecDepth 100000 in
set_option maxHeartbeats 2000000 in
theorem ids_loop {Q : Exit → Act → World → Prop} (u0 u1 u2 u4 u5 u6 u7 u8 u10 u11 u12 u13 u14 u15 u16 u17 u18 u19 u20 : Value) (mb r n : Nat) (D : DataW Unit) (w0 w : World) (hr : w0.heap.size ≤ r) (hD : Maps.size D ≤ big) (h0 : RelJ mb r n D w0 [] (.slice none 0 0) w) (hmr : mb < w0.heap.size)
    (hQ : ∀ (xs : List Int) (oo : Option Addr) (cc : Nat) (s4 s10 s11 s12 s13 s14 s15 s16 s17 : Value) (w' : World), DoneJ D w0 xs (.slice oo xs.length cc) w' → Q (.exit 0) ⟨#[u0, u1, u2, (.slice oo xs.length cc), s4, u5, u6, u7, u8, (.pointer (some ⟨r, 0, none⟩)), s10, s11, s12, s13, s14, s15, s16, s17, u18, u19, u20], []⟩ w') :
    Code.wp Try.prog (Cut.piece Try.f14 (Cut.loop 3)) Q ⟨#[u0, u1, u2, (.slice none 0 0), u4, u5, u6, u7, u8, (.pointer (some ⟨r, 0, none⟩)), u10, u11, u12, u13, u14, u15, u16, u17, u18, u19, u20], []⟩ w := by
  conv => arg 2; whnf
  refine wp_loop (InvJ mb r n D w0 u0 u1 u2 u5 u6 u7 u8 u18 u19 u20) (fun _ wr => wr.rangeLeft mb r) ?_ (fun a' wr hI => ?_)
  · exact ⟨[], none, 0, u4, u10, u11, u12, u13, u14, u15, u16, u17, h0, rfl⟩
  obtain ⟨xs, hI⟩ := hI
  obtain ⟨oo, hI⟩ := hI
  obtain ⟨cc, hI⟩ := hI
  obtain ⟨s4, hI⟩ := hI
  obtain ⟨s10, hI⟩ := hI
  obtain ⟨s11, hI⟩ := hI
  obtain ⟨s12, hI⟩ := hI
  obtain ⟨s13, hI⟩ := hI
  obtain ⟨s14, hI⟩ := hI
  obtain ⟨s15, hI⟩ := hI
  obtain ⟨s16, hI⟩ := hI
  obtain ⟨s17, hI⟩ := hI
  obtain ⟨⟨left, cnt, hrg, hrow, hnd, hmem, hle, hB⟩, rfl⟩ := hI
  have hmu := hrg.left_eq
  clear h0
  go_wp2_with (at_next; refine wpList_next_ranges_ii _ rfl _ rfl 3 3 .i64 .i64 (int_keyed Try.underlying3) Try.underlying3 Try.underlying3 mb r n _ _ _ rfl hrg ?_ ?_)
  · intro hc0 hl0
    have hfin : DoneJ D w0 xs (.slice oo xs.length cc) wr := ⟨hrow, hnd, fun id => (hmem id).trans ⟨fun h => h.1, fun h => ⟨h, hl0 _⟩⟩, by omega, hB⟩
    have A1 := Lib.hid hfin
    clear hmu hl0 hle hc0 hrow hnd hmem hB hfin
    go_wp2
    exact A1.out
  · intro x c w1 cnt1 hwx hwc hlx hat hrg1 hlt hg1 hs1 hen
    have hnr : (Value.slice oo xs.length cc).ownBlock ≠ some r := by
      obtain ⟨_, _, _, _, _, _, _, _, _, hit, _⟩ := hrg
      exact own_ne hrow hit (by intro cur e; cases e)
    have hrow1 : w1.ownsRow w0.heap.size 3 1 (.slice oo xs.length cc) xs.length (xs.map (Value.int .i64)) := ownsRow_same hrow (fun k hk => hg1.block k (own_lt hrow hk).2 (fun e => hnr (hk.trans e)))
    have hnm : (Value.slice oo xs.length cc).ownBlock ≠ some mb := fun e => by have := (own_lt hrow e).1; omega
    have hB1 : Below w0.heap.size w0 w1 := hB.trans ⟨hg1.os, hg1.tape, hg1.output, hg1.size, fun k hk => hg1.block k (Nat.lt_of_lt_of_le hk hB.size) (fun e => by have := Option.some.inj e; omega)⟩
    have hnew : x ∉ xs := fun h => by
      have h1 := ((hmem x).1 h).2
      rw [hlx] at h1
      cases h1
    have hhx : has D (.int .i64 x) = true := has_true_of_atKey hat
    have hnd1 : (xs ++ [x]).Nodup := List.nodup_append.2 ⟨hnd, by simp, fun a ha b hb => by
      rw [List.mem_singleton] at hb
      subst hb
      exact fun e => hnew (e ▸ ha)⟩
    have hmem1 : ∀ id, id ∈ xs ++ [x] ↔ (has D (.int .i64 id) = true ∧ (left (.int .i64 id) && !(Lit.int .i64 id).sameKey (.int .i64 x)) = false) := fun id => by
      rw [List.mem_append, List.mem_singleton, hmem id, sameKey_int]
      by_cases e : id = x
      · subst e
        simp [hhx]
      · simp [e]
    have hxb : xs.length < big := by omega
    obtain ⟨i0, hi1, hq0, hq1, hq2⟩ := info_parts infoInt
    have bm : xs.length + 1 ≤ maxLen := max_of _ (by omega)
    have bb : (xs.length + 1) * 8 ≤ 140737488355328 := by unfold big at hxb; omega
    have hle1 : (xs ++ [x]).length + cnt1 ≤ Maps.size D := by
      rw [List.length_append]
      simp only [List.length_cons, List.length_nil]
      omega
    have hrlt := hrg1.lt
    have hs1' := hB1.size
    have A1 := Lib.hid hnd1
    have A2 := Lib.hid hmem1
    have A3 := Lib.hid hle1
    have A4 := Lib.hid hmu
    have A5 := Lib.hid hrg1
    clear hnd1 hmem1 hle1 hmu hrg1 hnd hmem hle hhx hat hnew hlx hrg hrow hxb
    go_wp2_with (at_builtin; go_loud (refine wpList_append_own _ rfl _ _ 22 rfl w0.heap.size 3 i0 (.int .i64 0) 1 8 Try.underlying22 hi1 hq0 hq1 hq2 rfl (by decide) (.slice oo xs.length cc) xs.length (xs.map (Value.int .i64)) rfl (hrow1.alloc _) ⟨wr.heap.size, 0, none⟩ 1 1 [.int .i64 x] rfl rfl ?c1 ?c2 ?c3 ?c4 ?c5 ?grow))
    case c1 => exact World.news_of_block (cs := #[.int .i64 x]) (t := 3) (fr := (0, 0)) (by rw [← hs1]; exact heap_alloc_last w1 _)
    case c2 => intro u hu; simp at hu; subst hu; rfl
    case c3 => exact bm
    case c4 => exact bb
    case c5 => simp; omega
    case grow =>
      intro v' w3 hown' hgrow _
      have e1 : xs.map (Value.int .i64) ++ [.int .i64 x] = (xs ++ [x]).map (Value.int .i64) := by simp
      have e2 : xs.length + 1 = (xs ++ [x]).length := by simp
      rw [e1, e2] at hown'
      obtain ⟨g, cap, rfl⟩ := row_slice hown' (by rw [← e2]; omega)
      have hB2 := hB1.alloc hs1' (.cells #[.int .i64 x] 3 (0, 0))
      have hB3 : Below w0.heap.size w0 w3 := hB2.trans ⟨hgrow.os, hgrow.tape, hgrow.output, hgrow.size, fun k hk => hgrow.block k (Nat.lt_of_lt_of_le hk hB2.size) (fun e => by have := (own_lt hrow1 e.symm).1; omega)⟩
      have hrg3 := (A5.out.alloc (.cells #[.int .i64 x] 3 (0, 0))).kept hgrow (fun e => hnm e.symm) (fun e => hnr e.symm)
      have hmu3 := hrg3.left_eq
      have hfin : RelJ mb r n D w0 (xs ++ [x]) (.slice (some ⟨g, 0, none⟩) (xs ++ [x]).length cap) w3 := ⟨_, cnt1, hrg3, hown', A1.out, A2.out, A3.out, hB3⟩
      have A6 := Lib.hid hfin
      have A7 := Lib.hid hmu3
      clear hfin hrg3 hmu3 hB3 hB2 hgrow hrow1 hown' hB1 hB
      go_wp2
      refine ⟨⟨xs ++ [x], some ⟨g, 0, none⟩, cap, _, _, _, _, _, _, _, _, _, A6.out, rfl⟩, ?_⟩
      rw [A7.out, A4.out]
      exact hlt

set_option maxRecDepth 100000 in
set_option maxHeartbeats 1000000 in
theorem ids_any {w : World} {hb nb mb : Nat} {ov rv : Value} {B : Nat} {H : HS} (h : HR w hb nb mb ov rv B H) (hnx : H.next ≤ big) (hsome : ∃ id, has H.wh (.int .i64 id) = true) :
    Calls Try.prog 14 #[.pointer (some ⟨hb, 0, none⟩)] w fun e w' => (∃ (xs : List Int) (oo : Option Addr) (cc : Nat), e = .returned (.slice oo xs.length cc) ∧ xs.Nodup ∧ ∀ id, id ∈ xs ↔ has H.wh (.int .i64 id) = true) ∧ Below w.heap.size w w' := by
  have c6 : w.cell? ⟨hb, 6, none⟩ = some (.map (some mb)) := cell_of_block h.blk rfl
  have hsz := h.map.size_le
  have hmb := h.map
  have hml := h.map.lt
  go_enter Try.func14, Try.ntmps14
  go_wp2_with (at_range; refine wpList_range_own _ rfl _ 47 rfl 3 3 (int_keyed Try.underlying3) Try.underlying47 _ mb H.next H.wh rfl hmb ?_; intro w0 hrg0 hg0 hs0)
  have hB0 : Below w.heap.size w w0 := ⟨hg0.os, hg0.tape, hg0.output, hg0.size, fun k hk => hg0.block k hk (by simp)⟩
  have h0 : RelJ mb w.heap.size H.next H.wh w [] (.slice none 0 0) w0 := ⟨_, _, hrg0, World.ownsRow_nil _ _ _ _, List.nodup_nil, fun id => by cases has H.wh (.int .i64 id) <;> simp, by simp, hB0⟩
  refine ids_loop _ _ _ _ _ _ _ _ _ _ _ _ _ _ _ _ _ _ _ mb w.heap.size H.next H.wh w w0 (Nat.le_refl _) (by omega) h0 hml ?_
  intro xs oo cc z4 z10 z11 z12 z13 z14 z15 z16 z17 w1 hD
  obtain ⟨d1, d2, d3, d4, d5⟩ := hD
  have hne : 0 < xs.length := by
    obtain ⟨id, hid⟩ := hsome
    exact List.length_pos_of_mem ((d3 id).2 hid)
  obtain ⟨g, cap, hv⟩ := row_slice d1 hne
  injection hv with e1 _ e3
  subst e1 e3
  have hs := sort_ints g cc w.heap.size xs w1 d1 (by omega)
  have hgl := (own_lt d1 rfl).1
  clear h0 hB0 hg0 hrg0 hs0
  have A1 := Lib.hid d2
  have A2 := Lib.hid d3
  have A3 := Lib.hid d5
  clear d1 d2 d3 d5
  go_wp2_with fail
  refine hs.mono ?_
  rintro e w2 ⟨rfl, hg2⟩
  have hB2 : Below w.heap.size w w2 := A3.out.trans ⟨hg2.os, hg2.tape, hg2.output, hg2.size, fun k hk => hg2.block k (Nat.lt_of_lt_of_le hk A3.out.size) (fun e => by have := Option.some.inj e; omega)⟩
  clear hs
  go_wp2
  go_ret
  exact ⟨⟨xs, _, _, rfl, A1.out, A2.out⟩, hB2⟩

end Go.Proofs.Ythbkklnahhdgcaa.ChTf
