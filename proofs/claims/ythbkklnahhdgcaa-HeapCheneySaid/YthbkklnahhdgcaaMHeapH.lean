/-
  Package heap's Set over a heap as plain data.
-/
import Derived.Test.YthbkklnahhdgcaaMHeapD
import Derived.Test.YthbkklnahhdgcaaMMB
import Derived.Deep.RegionWith
import Derived.StillTailTactics
import Derived.Lib.Hide
namespace Go.Proofs.Ythbkklnahhdgcaa.HeapH
open Go Go.RowKit Go.Proofs.Ythbkklnahhdgcaa.Lib Go.Proofs.Ythbkklnahhdgcaa.HeapR Go.Proofs.Ythbkklnahhdgcaa.HeapC Go.Proofs.Ythbkklnahhdgcaa.HeapD

variable {w : World} {hb nb mb : Nat} {ov rv : Value} {B : Nat} {H : HS}

/-- The world behind the boxing of Set's value. -/
def sw (w : World) (vk vn : Int) (vs : ByteArray) : World := w.alloc (.cells #[.int .i64 vk, .int .i64 vn, .string vs] 34)

set_option maxRecDepth 100000 in
set_option maxHeartbeats 1000000 in
theorem set_missing (h : HR w hb nb mb ov rv B H) (a i : Int) (ha : a ≤ 9223372036854775807) (vk vn : Int) (vs : ByteArray) (hd : H.head a = none) :
    Calls Try.prog 9 #[.pointer (some ⟨hb, 0, none⟩), .int .i64 a, .int .i64 i, .agg #[.int .i64 vk, .int .i64 vn, .string vs]] w fun e w' => e = .returned (.iface 45 (.int .i64 7)) ∧ Below w.heap.size w w' := by
  have h' : HR (sw w vk vn vs) hb nb mb ov rv B H := h.below ((Below.refl w.heap.size w).alloc (Nat.le_refl _) _)
  have hG := get_missing h' a i ha hd
  clear h'
  unfold sw at hG
  go_enter Try.func9, Try.ntmps9
  go_wp2_with (go_at_call 15; refine hG.mono ?_; rintro e w1 ⟨rfl, hbw⟩)
  go_ret
  refine ⟨rfl, ?_⟩
  have hb1 : Below w.heap.size w w1 := ((Below.refl _ _).alloc (Nat.le_refl _) _).trans (hbw.mono (by simp))
  have hz := hb1.size
  (repeat (first | exact Below.refl _ _ | assumption | refine below_drewN ?_ _ | refine Below.setCell ?_ (by first | exact Nat.le_refl _ | assumption | omega | (simp; done) | (simp; omega)) _ | refine Below.alloc ?_ (by first | exact Nat.le_refl _ | assumption | omega | (simp; done) | (simp; omega)) _))

set_option maxRecDepth 100000 in
set_option maxHeartbeats 1000000 in
theorem set_range (h : HR w hb nb mb ov rv B H) (a i : Int) (ha : a ≤ 9223372036854775807) (vk vn : Int) (vs : ByteArray) (c : HCell) (hd : H.head a = some c) (hi : i < 0 ∨ c.size ≤ i) :
    Calls Try.prog 9 #[.pointer (some ⟨hb, 0, none⟩), .int .i64 a, .int .i64 i, .agg #[.int .i64 vk, .int .i64 vn, .string vs]] w fun e w' => e = .returned (.iface 45 (.int .i64 2)) ∧ Below w.heap.size w w' := by
  have h' : HR (sw w vk vn vs) hb nb mb ov rv B H := h.below ((Below.refl w.heap.size w).alloc (Nat.le_refl _) _)
  have hG := get_range h' a i ha c hd hi
  clear h' hi
  unfold sw at hG
  go_enter Try.func9, Try.ntmps9
  go_wp2_with (go_at_call 15; refine hG.mono ?_; rintro e w1 ⟨rfl, hbw⟩)
  go_ret
  refine ⟨rfl, ?_⟩
  have hb1 : Below w.heap.size w w1 := ((Below.refl _ _).alloc (Nat.le_refl _) _).trans (hbw.mono (by simp))
  have hz := hb1.size
  (repeat (first | exact Below.refl _ _ | assumption | refine below_drewN ?_ _ | refine Below.setCell ?_ (by first | exact Nat.le_refl _ | assumption | omega | (simp; done) | (simp; omega)) _ | refine Below.alloc ?_ (by first | exact Nat.le_refl _ | assumption | omega | (simp; done) | (simp; omega)) _))

set_option maxRecDepth 100000 in
set_option maxHeartbeats 1000000 in
theorem set_dangling (h : HR w hb nb mb ov rv B H) (a i : Int) (ha0 : 0 ≤ a) (ha : a + 1 + i ≤ 9223372036854775807) (vn : Int) (vs : ByteArray) (c d : HCell) (hd : H.head a = some c) (hi0 : 0 ≤ i) (hi : i < c.size) (hr : H.raw (a + 1 + i) = some d)
    (hv : vn ≤ 9223372036854775807) (hn : H.head vn = none) :
    Calls Try.prog 9 #[.pointer (some ⟨hb, 0, none⟩), .int .i64 a, .int .i64 i, .agg #[.int .i64 4, .int .i64 vn, .string vs]] w fun e w' => e = .returned (.iface 45 (.int .i64 7)) ∧ Below w.heap.size w w' := by
  have h' : HR (sw w 4 vn vs) hb nb mb ov rv B H := h.below ((Below.refl w.heap.size w).alloc (Nat.le_refl _) _)
  have hG := get_ok h' a i ha0 ha c d hd hi0 hi hr
  have hN : ∀ w2, Below (sw w 4 vn vs).heap.size (sw w 4 vn vs) w2 → Calls Try.prog 18 #[.pointer (some ⟨hb, 0, none⟩), .int .i64 vn] w2 fun e w' => (∃ p, e = .returned (.tuple #[.pointer p, .bool false])) ∧ ∃ n, w' = w2.drewN n := fun w2 h2 => head_no (h'.below h2) vn hv hn
  clear h'
  unfold sw at hG hN
  go_enter Try.func9, Try.ntmps9
  go_wp2_with (first | (go_at_call 15; refine hG.mono ?_; rintro e w1 ⟨rfl, hbw⟩; have q0 : w1.cell? ⟨w.heap.size, 0, none⟩ = some (.int .i64 4) := (by rw [hbw.cell (by simp)]; simp); have q1 : w1.cell? ⟨w.heap.size, 1, none⟩ = some (.int .i64 vn) := (by rw [hbw.cell (by simp)]; simp); have hz : w.heap.size < w1.heap.size := (by have := hbw.size; simp at this; omega)) | (go_at_call 18; refine (hN _ ?_).mono ?_; exact hbw.alloc (by simp; omega) _; rintro e w' ⟨⟨p, rfl⟩, n, rfl⟩))
  go_ret
  refine ⟨rfl, ?_⟩
  have hb1 : Below w.heap.size w w1 := ((Below.refl _ _).alloc (Nat.le_refl _) _).trans (hbw.mono (by simp))
  have hz := hb1.size
  (repeat (first | exact Below.refl _ _ | assumption | refine below_drewN ?_ _ | refine Below.setCell ?_ (by first | exact Nat.le_refl _ | assumption | omega | (simp; done) | (simp; omega)) _ | refine Below.alloc ?_ (by first | exact Nat.le_refl _ | assumption | omega | (simp; done) | (simp; omega)) _))

end Go.Proofs.Ythbkklnahhdgcaa.HeapH
namespace Go.Proofs.Ythbkklnahhdgcaa.HeapR
open Go Go.RowKit Go.Proofs.Ythbkklnahhdgcaa.Lib Go.Proofs.Ythbkklnahhdgcaa.HeapR Go.Proofs.Ythbkklnahhdgcaa.HeapC Go.Proofs.Ythbkklnahhdgcaa.HeapD

open Go.Proofs.Ythbkklnahhdgcaa.HeapH
variable {w : World} {hb nb mb : Nat} {ov rv : Value} {B : Nat} {H : HS}

/-- The heap behind a Set of a cell in the nursery. -/
def HS.setN (H : HS) (m : Nat) (vk vn : Int) (vs : ByteArray) : HS :=
  { H with nur := H.nur.modify m fun d => { d with vk := vk, vn := vn, vs := vs } }

end Go.Proofs.Ythbkklnahhdgcaa.HeapR
namespace Go.Proofs.Ythbkklnahhdgcaa.HeapH
open Go Go.RowKit Go.Proofs.Ythbkklnahhdgcaa.Lib Go.Proofs.Ythbkklnahhdgcaa.HeapR Go.Proofs.Ythbkklnahhdgcaa.HeapC Go.Proofs.Ythbkklnahhdgcaa.HeapD

variable {w : World} {hb nb mb : Nat} {ov rv : Value} {B : Nat} {H : HS}

set_option maxRecDepth 100000 in
set_option maxHeartbeats 1000000 in
theorem set_nur_val (h : HR w hb nb mb ov rv B H) (a i : Int) (ha0 : 0 ≤ a) (har : a < H.room) (ha : a + 1 + i ≤ 9223372036854775807) (vk vn : Int) (vs : ByteArray) (c d : HCell) (hd : H.head a = some c) (hi0 : 0 ≤ i) (hi : i < c.size) (hr : H.raw (a + 1 + i) = some d)
    (hin : a + 1 + i < H.room) (hvk : vk ≠ 4) :
    Calls Try.prog 9 #[.pointer (some ⟨hb, 0, none⟩), .int .i64 a, .int .i64 i, .agg #[.int .i64 vk, .int .i64 vn, .string vs]] w fun e w' => e = .returned .nilIface ∧ HR w' hb nb mb ov rv B (H.setN (a + 1 + i).toNat vk vn vs) ∧ Turned (fun k => k = nb) w w' := by
  have h' : HR (sw w vk vn vs) hb nb mb ov rv B H := h.below ((Below.refl w.heap.size w).alloc (Nat.le_refl _) _)
  have hG := get_ok h' a i ha0 ha c d hd hi0 hi hr
  have hpb : H.pb nb ov (a + 1 + i) = nb := by simp [HS.pb, hin]
  have hpo : H.po (a + 1 + i) = (a + 1 + i).toNat * 8 := by simp [HS.po, hin]
  unfold sw at hG
  have g1 : (vk == 4) = false := by simpa using hvk
  go_enter Try.func9, Try.ntmps9
  go_wp2_with (go_at_call 15; refine hG.mono ?_; rintro e w1 ⟨rfl, hbw⟩; have q0 : w1.cell? ⟨w.heap.size, 0, none⟩ = some (.int .i64 vk) := (by rw [hbw.cell (by simp)]; simp); have q1 : w1.cell? ⟨w.heap.size, 1, none⟩ = some (.int .i64 vn) := (by rw [hbw.cell (by simp)]; simp); have q2 : w1.cell? ⟨w.heap.size, 2, none⟩ = some (.string vs) := (by rw [hbw.cell (by simp)]; simp); have hz : w.heap.size < w1.heap.size := (by have := hbw.size; simp at this; omega))
  have hb2 : Below (w.alloc (.cells #[.int .i64 vk, .int .i64 vn, .string vs] 34)).heap.size (w.alloc (.cells #[.int .i64 vk, .int .i64 vn, .string vs] 34)) (w1.alloc (.cells #[.int .i64 d.vk, .int .i64 d.vn, .string d.vs] 34)) := hbw.alloc hbw.size _
  have p0 : (w1.alloc (.cells #[.int .i64 d.vk, .int .i64 d.vn, .string d.vs] 34)).cell? ⟨w.heap.size, 0, none⟩ = some (.int .i64 vk) := by rw [World.cell?_alloc_lt _ _ ⟨w.heap.size, 0, none⟩ hz]; exact q0
  have p1 : (w1.alloc (.cells #[.int .i64 d.vk, .int .i64 d.vn, .string d.vs] 34)).cell? ⟨w.heap.size, 1, none⟩ = some (.int .i64 vn) := by rw [World.cell?_alloc_lt _ _ ⟨w.heap.size, 1, none⟩ hz]; exact q1
  have p2 : (w1.alloc (.cells #[.int .i64 d.vk, .int .i64 d.vn, .string d.vs] 34)).cell? ⟨w.heap.size, 2, none⟩ = some (.string vs) := by rw [World.cell?_alloc_lt _ _ ⟨w.heap.size, 2, none⟩ hz]; exact q2
  generalize w1.alloc (.cells #[.int .i64 d.vk, .int .i64 d.vn, .string d.vs] 34) = w2 at *
  have h2 : HR w2 hb nb mb ov rv B H := h'.below hb2
  obtain ⟨_, _, _, _, k4, k5, k6, _⟩ := raw_cells h2 _ d hr
  rw [hpb] at k4 k5 k6
  have f4 : ∀ j, w2.frozen? ⟨nb, j, none⟩ = false := fun j => h2.fn j
  have hA : Calls Try.prog 19 #[.pointer (some ⟨hb, 0, none⟩), .int .i64 (a + 1 + i)] w2.drew fun e w' => e = .returned (.pointer (some ⟨nb, H.po (a + 1 + i), none⟩)) ∧ w' = w2.drew := by
    obtain ⟨m, hm⟩ := Int.eq_ofNat_of_zero_le (show 0 ≤ a + 1 + i by omega)
    rw [hpo, hm]
    exact (HeapA.at_lo hb m nb H.room H.room H.room w2.drew h2.c0 h2.c3 (by omega) (by omega)).mono fun e w' ⟨x, y⟩ => ⟨by rw [x]; rfl, y.symm⟩
  generalize hpx : H.po (a + 1 + i) = po at *
  have hHpo := Lib.hid hpo
  clear q0 q1 q2 hz hbw hG h' hr hd hi hpx
  have hHid := Lib.hid hb2
  clear hb2 hpo h
  have hs1 : IntKind.i64.wrap (a + 1) = a + 1 := IntWalk.i64_in _ (by omega)
  have hs2 : IntKind.i64.wrap (a + 1 + i) = a + 1 + i := IntWalk.i64_in _ (by omega)
  go_still_tail 9, (by kernel_rfl)
  still_call hA
  repeat still_step
  refine wpStill_nil ?_
  clear hs1 hs2
  change wpList _ _ _ _ _ w2.drew
  have g3 : decide ((H.room : Int) ≤ a) = false := by simpa using har
  have hpo' : po = (a + 1 + i).toNat * 8 := hHpo.out
  have hw3 : ((((w2.setCell ⟨nb, po + 4, none⟩ (.int .i64 vk)).setCell ⟨nb, po + 4 + 1, none⟩ (.int .i64 vn)).setCell ⟨nb, po + 4 + 2, none⟩ (.string vs)).drew).heap[nb]? = some (.cells (hcells (H.setN (a + 1 + i).toNat vk vn vs).nur) 55 (0, 0)) := by
    show (((w2.setCell ⟨nb, po + 4, none⟩ (.int .i64 vk)).setCell ⟨nb, po + 4 + 1, none⟩ (.int .i64 vn)).setCell ⟨nb, po + 4 + 2, none⟩ (.string vs)).heap[nb]? = _
    rw [blk_set (blk_set (blk_set h2.nur _) _) _, hpo']
    rw [hcells_set3 _ _ _ _ _ (by rw [h2.len]; omega)]
    rfl
  have hO : Turned (fun k => k = nb) w2 ((((w2.setCell ⟨nb, po + 4, none⟩ (.int .i64 vk)).setCell ⟨nb, po + 4 + 1, none⟩ (.int .i64 vn)).setCell ⟨nb, po + 4 + 2, none⟩ (.string vs)).drew) := by
    refine Turned.drew (Turned.setCell (Turned.setCell (Turned.setCell (Turned.refl _ w2) ?_ _) ?_ _) ?_ _) <;> exact .inl rfl
  have hT2 : Turned (fun k => k = nb) w w2 := ((Turned.refl _ w).alloc _).trans (Turned.of_below _ hHid.out)
  have C3 := h2.c3
  have hne := h2.hn
  have H2 := Lib.hid h2
  have HW3 := Lib.hid hw3
  have HO := Lib.hid hO
  clear h2 hw3 hO hpo' hA hHid
  go_wp2_with fail
  clear k4 k5 k6 f4
  go_quiet (fail)
  go_wp2
  go_ret
  refine ⟨rfl, ?_, hT2.trans (HO.out.drewN _)⟩
  have hh := H2.out
  exact {
    blk := (HO.out.block hb (hh.lt (.inl rfl)) hne).trans hh.blk
    nur := HW3.out
    len := by simp only [HS.setN, List.length_modify]; exact hh.len
    old := ownsRow_same hh.old fun k hk => HO.out.block k (hh.lt (.inr (.inr (.inr (.inl hk))))) (fun e => hh.on (e ▸ hk))
    rem := ownsRow_same hh.rem fun k hk => HO.out.block k (hh.lt (.inr (.inr (.inr (.inr hk))))) (fun e => hh.rn (e ▸ hk))
    map := HeapF.ownsMap_same hh.map (HO.out.block mb (hh.lt (.inr (.inr (.inl rfl)))) hh.nm.symm)
    hn := hh.hn
    oh := hh.oh
    on := hh.on
    rh := hh.rh
    rn := hh.rn
    ro := hh.ro
    lo := hh.lo
    tr := hh.tr
    rr := hh.rr
    mm := hh.mm
    om := hh.om }
set_option maxRecDepth 100000 in
set_option maxHeartbeats 1000000 in
theorem set_nur_ref (h : HR w hb nb mb ov rv B H) (a i : Int) (ha0 : 0 ≤ a) (har : a < H.room) (ha : a + 1 + i ≤ 9223372036854775807) (vn : Int) (vs : ByteArray) (c d : HCell) (hd : H.head a = some c) (hi0 : 0 ≤ i) (hi : i < c.size) (hr : H.raw (a + 1 + i) = some d)
    (hin : a + 1 + i < H.room) (t : HCell) (hv : vn ≤ 9223372036854775807) (hn : H.head vn = some t) :
    Calls Try.prog 9 #[.pointer (some ⟨hb, 0, none⟩), .int .i64 a, .int .i64 i, .agg #[.int .i64 4, .int .i64 vn, .string vs]] w fun e w' => e = .returned .nilIface ∧ HR w' hb nb mb ov rv B (H.setN (a + 1 + i).toNat 4 vn vs) ∧ Turned (fun k => k = nb) w w' := by
  have h' : HR (sw w 4 vn vs) hb nb mb ov rv B H := h.below ((Below.refl w.heap.size w).alloc (Nat.le_refl _) _)
  have hG := get_ok h' a i ha0 ha c d hd hi0 hi hr
  have hpb : H.pb nb ov (a + 1 + i) = nb := by simp [HS.pb, hin]
  have hpo : H.po (a + 1 + i) = (a + 1 + i).toNat * 8 := by simp [HS.po, hin]
  unfold sw at hG
  have hN : ∀ w2, Below (w.alloc (.cells #[.int .i64 4, .int .i64 vn, .string vs] 34)).heap.size (w.alloc (.cells #[.int .i64 4, .int .i64 vn, .string vs] 34)) w2 → Calls Try.prog 18 #[.pointer (some ⟨hb, 0, none⟩), .int .i64 vn] w2 fun e w' => e = .returned (.tuple #[.pointer (some ⟨H.pb nb ov vn, H.po vn, none⟩), .bool true]) ∧ ∃ n, w' = w2.drewN n := fun w2 h2 => head_yes (h'.below h2) vn hv t hn
  go_enter Try.func9, Try.ntmps9
  go_wp2_with (first | (go_at_call 15; refine hG.mono ?_; rintro e w1 ⟨rfl, hbw⟩; have q0 : w1.cell? ⟨w.heap.size, 0, none⟩ = some (.int .i64 4) := (by rw [hbw.cell (by simp)]; simp); have q1 : w1.cell? ⟨w.heap.size, 1, none⟩ = some (.int .i64 vn) := (by rw [hbw.cell (by simp)]; simp); have q2 : w1.cell? ⟨w.heap.size, 2, none⟩ = some (.string vs) := (by rw [hbw.cell (by simp)]; simp); have hz : w.heap.size < w1.heap.size := (by have := hbw.size; simp at this; omega)) | (go_at_call 18; refine (hN _ ?_).mono ?_; exact hbw.alloc (by simp; omega) _; rintro e w' ⟨rfl, n, rfl⟩))
  have hb2 : Below (w.alloc (.cells #[.int .i64 4, .int .i64 vn, .string vs] 34)).heap.size (w.alloc (.cells #[.int .i64 4, .int .i64 vn, .string vs] 34)) ((w1.alloc (.cells #[.int .i64 d.vk, .int .i64 d.vn, .string d.vs] 34)).drewN n) := below_drewN (hbw.alloc hbw.size _) _
  have p0 : ((w1.alloc (.cells #[.int .i64 d.vk, .int .i64 d.vn, .string d.vs] 34)).drewN n).cell? ⟨w.heap.size, 0, none⟩ = some (.int .i64 4) := by show (w1.alloc (.cells #[.int .i64 d.vk, .int .i64 d.vn, .string d.vs] 34)).cell? ⟨w.heap.size, 0, none⟩ = _; rw [World.cell?_alloc_lt _ _ ⟨w.heap.size, 0, none⟩ hz]; exact q0
  have p1 : ((w1.alloc (.cells #[.int .i64 d.vk, .int .i64 d.vn, .string d.vs] 34)).drewN n).cell? ⟨w.heap.size, 1, none⟩ = some (.int .i64 vn) := by show (w1.alloc (.cells #[.int .i64 d.vk, .int .i64 d.vn, .string d.vs] 34)).cell? ⟨w.heap.size, 1, none⟩ = _; rw [World.cell?_alloc_lt _ _ ⟨w.heap.size, 1, none⟩ hz]; exact q1
  have p2 : ((w1.alloc (.cells #[.int .i64 d.vk, .int .i64 d.vn, .string d.vs] 34)).drewN n).cell? ⟨w.heap.size, 2, none⟩ = some (.string vs) := by show (w1.alloc (.cells #[.int .i64 d.vk, .int .i64 d.vn, .string d.vs] 34)).cell? ⟨w.heap.size, 2, none⟩ = _; rw [World.cell?_alloc_lt _ _ ⟨w.heap.size, 2, none⟩ hz]; exact q2
  generalize ((w1.alloc (.cells #[.int .i64 d.vk, .int .i64 d.vn, .string d.vs] 34)).drewN n) = w2 at *
  have h2 : HR w2 hb nb mb ov rv B H := h'.below hb2
  obtain ⟨_, _, _, _, k4, k5, k6, _⟩ := raw_cells h2 _ d hr
  rw [hpb] at k4 k5 k6
  have f4 : ∀ j, w2.frozen? ⟨nb, j, none⟩ = false := fun j => h2.fn j
  have hA : Calls Try.prog 19 #[.pointer (some ⟨hb, 0, none⟩), .int .i64 (a + 1 + i)] w2.drew fun e w' => e = .returned (.pointer (some ⟨nb, H.po (a + 1 + i), none⟩)) ∧ w' = w2.drew := by
    obtain ⟨m, hm⟩ := Int.eq_ofNat_of_zero_le (show 0 ≤ a + 1 + i by omega)
    rw [hpo, hm]
    exact (HeapA.at_lo hb m nb H.room H.room H.room w2.drew h2.c0 h2.c3 (by omega) (by omega)).mono fun e w' ⟨x, y⟩ => ⟨by rw [x]; rfl, y.symm⟩
  generalize hpx : H.po (a + 1 + i) = po at *
  have hHpo := Lib.hid hpo
  clear q0 q1 q2 hz hbw hG h' hr hd hi hpx hN hn
  have hHid := Lib.hid hb2
  clear hb2 hpo h
  have hs1 : IntKind.i64.wrap (a + 1) = a + 1 := IntWalk.i64_in _ (by omega)
  have hs2 : IntKind.i64.wrap (a + 1 + i) = a + 1 + i := IntWalk.i64_in _ (by omega)
  go_still_tail 9, (by kernel_rfl)
  still_call hA
  repeat still_step
  refine wpStill_nil ?_
  clear hs1 hs2
  change wpList _ _ _ _ _ w2.drew
  have g3 : decide ((H.room : Int) ≤ a) = false := by simpa using har
  have hpo' : po = (a + 1 + i).toNat * 8 := hHpo.out
  have hw3 : ((((w2.setCell ⟨nb, po + 4, none⟩ (.int .i64 4)).setCell ⟨nb, po + 4 + 1, none⟩ (.int .i64 vn)).setCell ⟨nb, po + 4 + 2, none⟩ (.string vs)).drew).heap[nb]? = some (.cells (hcells (H.setN (a + 1 + i).toNat 4 vn vs).nur) 55 (0, 0)) := by
    show (((w2.setCell ⟨nb, po + 4, none⟩ (.int .i64 4)).setCell ⟨nb, po + 4 + 1, none⟩ (.int .i64 vn)).setCell ⟨nb, po + 4 + 2, none⟩ (.string vs)).heap[nb]? = _
    rw [blk_set (blk_set (blk_set h2.nur _) _) _, hpo']
    rw [hcells_set3 _ _ _ _ _ (by rw [h2.len]; omega)]
    rfl
  have hO : Turned (fun k => k = nb) w2 ((((w2.setCell ⟨nb, po + 4, none⟩ (.int .i64 4)).setCell ⟨nb, po + 4 + 1, none⟩ (.int .i64 vn)).setCell ⟨nb, po + 4 + 2, none⟩ (.string vs)).drew) := by
    refine Turned.drew (Turned.setCell (Turned.setCell (Turned.setCell (Turned.refl _ w2) ?_ _) ?_ _) ?_ _) <;> exact .inl rfl
  have hT2 : Turned (fun k => k = nb) w w2 := ((Turned.refl _ w).alloc _).trans (Turned.of_below _ hHid.out)
  have C3 := h2.c3
  have hne := h2.hn
  have H2 := Lib.hid h2
  have HW3 := Lib.hid hw3
  have HO := Lib.hid hO
  clear h2 hw3 hO hpo' hA hHid
  go_wp2_with fail
  clear k4 k5 k6 f4
  go_quiet (fail)
  go_wp2
  go_ret
  refine ⟨rfl, ?_, hT2.trans (HO.out.drewN _)⟩
  have hh := H2.out
  exact {
    blk := (HO.out.block hb (hh.lt (.inl rfl)) hne).trans hh.blk
    nur := HW3.out
    len := by simp only [HS.setN, List.length_modify]; exact hh.len
    old := ownsRow_same hh.old fun k hk => HO.out.block k (hh.lt (.inr (.inr (.inr (.inl hk))))) (fun e => hh.on (e ▸ hk))
    rem := ownsRow_same hh.rem fun k hk => HO.out.block k (hh.lt (.inr (.inr (.inr (.inr hk))))) (fun e => hh.rn (e ▸ hk))
    map := HeapF.ownsMap_same hh.map (HO.out.block mb (hh.lt (.inr (.inr (.inl rfl)))) hh.nm.symm)
    hn := hh.hn
    oh := hh.oh
    on := hh.on
    rh := hh.rh
    rn := hh.rn
    ro := hh.ro
    lo := hh.lo
    tr := hh.tr
    rr := hh.rr
    mm := hh.mm
    om := hh.om }
end Go.Proofs.Ythbkklnahhdgcaa.HeapH
