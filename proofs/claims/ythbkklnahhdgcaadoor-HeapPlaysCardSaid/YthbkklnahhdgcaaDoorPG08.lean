/-
  Package heap's Set over a heap as plain data.
-/
import Derived.Test.YthbkklnahhdgcaaDoorPG01
import Derived.Test.YthbkklnahhdgcaaDoorPG02
import Derived.Deep.RegionWith
import Derived.StillTailTactics
import Derived.Lib.Hide
import Derived.Test.YthbkklnahhdgcaaDoorPG07
import Derived.Shelf.SlMaps.Clone
import Derived.LoopTactic
import Derived.Lib.SliceRun
import Derived.Deep.LoopGhost
set_option maxRecDepth 100000
set_option maxHeartbeats 4000000
namespace Go.Proofs.YthbkklnahhdgcaaDoor.HeapH
open Go Go.RowKit Go.Proofs.YthbkklnahhdgcaaDoor.Lib HeapR HeapC HeapD

variable {w : World} {hb nb mb : Nat} {ov rv : Value} {B : Nat} {H : HS}

/-- The world behind the boxing of Set's value. -/
def sw (w : World) (vk vn : Int) (vs : ByteArray) : World := w.alloc (.cells #[.int .i64 vk, .int .i64 vn, .string vs] 28)

theorem set_missing (h : HR w hb nb mb ov rv B H) (a i : Int) (ha : a ≤ 9223372036854775807) (vk vn : Int) (vs : ByteArray) (hd : H.head a = none) :
    Calls Tryd.prog 12 #[.pointer (some ⟨hb, 0, none⟩), .int .i64 a, .int .i64 i, .agg #[.int .i64 vk, .int .i64 vn, .string vs]] w fun e w' => e = .returned (.iface 35 (.int .i64 7)) ∧ Below w.heap.size w w' := by
  have h' : HR (sw w vk vn vs) hb nb mb ov rv B H := h.below ((Below.refl w.heap.size w).alloc (Nat.le_refl _) _)
  have hG := get_missing h' a i ha hd
  clear h'
  unfold sw at hG
  go_enter Tryd.func12, Tryd.ntmps12
  go_wp2_with (go_at_call 11; refine hG.mono ?_; rintro e w1 ⟨rfl, hbw⟩)
  go_ret
  refine ⟨rfl, ?_⟩
  have hb1 : Below w.heap.size w w1 := ((Below.refl _ _).alloc (Nat.le_refl _) _).trans (hbw.mono (by simp))
  have hz := hb1.size
  (repeat (first | exact Below.refl _ _ | assumption | refine below_drewN ?_ _ | refine Below.setCell ?_ (by first | exact Nat.le_refl _ | assumption | omega | (simp; done) | (simp; omega)) _ | refine Below.alloc ?_ (by first | exact Nat.le_refl _ | assumption | omega | (simp; done) | (simp; omega)) _))

theorem set_range (h : HR w hb nb mb ov rv B H) (a i : Int) (ha : a ≤ 9223372036854775807) (vk vn : Int) (vs : ByteArray) (c : HCell) (hd : H.head a = some c) (hi : i < 0 ∨ c.size ≤ i) :
    Calls Tryd.prog 12 #[.pointer (some ⟨hb, 0, none⟩), .int .i64 a, .int .i64 i, .agg #[.int .i64 vk, .int .i64 vn, .string vs]] w fun e w' => e = .returned (.iface 35 (.int .i64 2)) ∧ Below w.heap.size w w' := by
  have h' : HR (sw w vk vn vs) hb nb mb ov rv B H := h.below ((Below.refl w.heap.size w).alloc (Nat.le_refl _) _)
  have hG := get_range h' a i ha c hd hi
  clear h' hi
  unfold sw at hG
  go_enter Tryd.func12, Tryd.ntmps12
  go_wp2_with (go_at_call 11; refine hG.mono ?_; rintro e w1 ⟨rfl, hbw⟩)
  go_ret
  refine ⟨rfl, ?_⟩
  have hb1 : Below w.heap.size w w1 := ((Below.refl _ _).alloc (Nat.le_refl _) _).trans (hbw.mono (by simp))
  have hz := hb1.size
  (repeat (first | exact Below.refl _ _ | assumption | refine below_drewN ?_ _ | refine Below.setCell ?_ (by first | exact Nat.le_refl _ | assumption | omega | (simp; done) | (simp; omega)) _ | refine Below.alloc ?_ (by first | exact Nat.le_refl _ | assumption | omega | (simp; done) | (simp; omega)) _))

theorem set_dangling (h : HR w hb nb mb ov rv B H) (a i : Int) (ha0 : 0 ≤ a) (ha : a + 1 + i ≤ 9223372036854775807) (vn : Int) (vs : ByteArray) (c d : HCell) (hd : H.head a = some c) (hi0 : 0 ≤ i) (hi : i < c.size) (hr : H.raw (a + 1 + i) = some d)
    (hv : vn ≤ 9223372036854775807) (hn : H.head vn = none) :
    Calls Tryd.prog 12 #[.pointer (some ⟨hb, 0, none⟩), .int .i64 a, .int .i64 i, .agg #[.int .i64 4, .int .i64 vn, .string vs]] w fun e w' => e = .returned (.iface 35 (.int .i64 7)) ∧ Below w.heap.size w w' := by
  have h' : HR (sw w 4 vn vs) hb nb mb ov rv B H := h.below ((Below.refl w.heap.size w).alloc (Nat.le_refl _) _)
  have hG := get_ok h' a i ha0 ha c d hd hi0 hi hr
  have hN : ∀ w2, Below (sw w 4 vn vs).heap.size (sw w 4 vn vs) w2 → Calls Tryd.prog 35 #[.pointer (some ⟨hb, 0, none⟩), .int .i64 vn] w2 fun e w' => (∃ p, e = .returned (.tuple #[.pointer p, .bool false])) ∧ ∃ n, w' = w2.drewN n := fun w2 h2 => head_no (h'.below h2) vn hv hn
  clear h'
  unfold sw at hG hN
  go_enter Tryd.func12, Tryd.ntmps12
  go_wp2_with (first | (go_at_call 11; refine hG.mono ?_; rintro e w1 ⟨rfl, hbw⟩; have q0 : w1.cell? ⟨w.heap.size, 0, none⟩ = some (.int .i64 4) := (by rw [hbw.cell (by simp)]; simp); have q1 : w1.cell? ⟨w.heap.size, 1, none⟩ = some (.int .i64 vn) := (by rw [hbw.cell (by simp)]; simp); have hz : w.heap.size < w1.heap.size := (by have := hbw.size; simp at this; omega)) | (go_at_call 35; refine (hN _ ?_).mono ?_; exact hbw.alloc (by simp; omega) _; rintro e w' ⟨⟨p, rfl⟩, n, rfl⟩))
  go_ret
  refine ⟨rfl, ?_⟩
  have hb1 : Below w.heap.size w w1 := ((Below.refl _ _).alloc (Nat.le_refl _) _).trans (hbw.mono (by simp))
  have hz := hb1.size
  (repeat (first | exact Below.refl _ _ | assumption | refine below_drewN ?_ _ | refine Below.setCell ?_ (by first | exact Nat.le_refl _ | assumption | omega | (simp; done) | (simp; omega)) _ | refine Below.alloc ?_ (by first | exact Nat.le_refl _ | assumption | omega | (simp; done) | (simp; omega)) _))

end Go.Proofs.YthbkklnahhdgcaaDoor.HeapH
namespace Go.Proofs.YthbkklnahhdgcaaDoor.HeapR
open Go Go.RowKit Go.Proofs.YthbkklnahhdgcaaDoor.Lib HeapR HeapC HeapD

open Go.Proofs.YthbkklnahhdgcaaDoor.HeapH
variable {w : World} {hb nb mb : Nat} {ov rv : Value} {B : Nat} {H : HS}

/-- The heap behind a Set of a cell in the nursery. -/
def HS.setN (H : HS) (m : Nat) (vk vn : Int) (vs : ByteArray) : HS :=
  { H with nur := H.nur.modify m fun d => { d with vk := vk, vn := vn, vs := vs } }

end Go.Proofs.YthbkklnahhdgcaaDoor.HeapR
namespace Go.Proofs.YthbkklnahhdgcaaDoor.HeapH
open Go Go.RowKit Go.Proofs.YthbkklnahhdgcaaDoor.Lib HeapR HeapC HeapD

variable {w : World} {hb nb mb : Nat} {ov rv : Value} {B : Nat} {H : HS}

theorem set_nur_val (h : HR w hb nb mb ov rv B H) (a i : Int) (ha0 : 0 ≤ a) (har : a < H.room) (ha : a + 1 + i ≤ 9223372036854775807) (vk vn : Int) (vs : ByteArray) (c d : HCell) (hd : H.head a = some c) (hi0 : 0 ≤ i) (hi : i < c.size) (hr : H.raw (a + 1 + i) = some d)
    (hin : a + 1 + i < H.room) (hvk : vk ≠ 4) :
    Calls Tryd.prog 12 #[.pointer (some ⟨hb, 0, none⟩), .int .i64 a, .int .i64 i, .agg #[.int .i64 vk, .int .i64 vn, .string vs]] w fun e w' => e = .returned .nilIface ∧ HR w' hb nb mb ov rv B (H.setN (a + 1 + i).toNat vk vn vs) ∧ Turned (fun k => k = nb) w w' := by
  have h' : HR (sw w vk vn vs) hb nb mb ov rv B H := h.below ((Below.refl w.heap.size w).alloc (Nat.le_refl _) _)
  have hG := get_ok h' a i ha0 ha c d hd hi0 hi hr
  have hpb : H.pb nb ov (a + 1 + i) = nb := by simp [HS.pb, hin]
  have hpo : H.po (a + 1 + i) = (a + 1 + i).toNat * 8 := by simp [HS.po, hin]
  unfold sw at hG
  have g1 : (vk == 4) = false := by simpa using hvk
  go_enter Tryd.func12, Tryd.ntmps12
  go_wp2_with (go_at_call 11; refine hG.mono ?_; rintro e w1 ⟨rfl, hbw⟩; have q0 : w1.cell? ⟨w.heap.size, 0, none⟩ = some (.int .i64 vk) := (by rw [hbw.cell (by simp)]; simp); have q1 : w1.cell? ⟨w.heap.size, 1, none⟩ = some (.int .i64 vn) := (by rw [hbw.cell (by simp)]; simp); have q2 : w1.cell? ⟨w.heap.size, 2, none⟩ = some (.string vs) := (by rw [hbw.cell (by simp)]; simp); have hz : w.heap.size < w1.heap.size := (by have := hbw.size; simp at this; omega))
  have hb2 : Below (w.alloc (.cells #[.int .i64 vk, .int .i64 vn, .string vs] 28)).heap.size (w.alloc (.cells #[.int .i64 vk, .int .i64 vn, .string vs] 28)) (w1.alloc (.cells #[.int .i64 d.vk, .int .i64 d.vn, .string d.vs] 28)) := hbw.alloc hbw.size _
  have p0 : (w1.alloc (.cells #[.int .i64 d.vk, .int .i64 d.vn, .string d.vs] 28)).cell? ⟨w.heap.size, 0, none⟩ = some (.int .i64 vk) := by rw [World.cell?_alloc_lt _ _ ⟨w.heap.size, 0, none⟩ hz]; exact q0
  have p1 : (w1.alloc (.cells #[.int .i64 d.vk, .int .i64 d.vn, .string d.vs] 28)).cell? ⟨w.heap.size, 1, none⟩ = some (.int .i64 vn) := by rw [World.cell?_alloc_lt _ _ ⟨w.heap.size, 1, none⟩ hz]; exact q1
  have p2 : (w1.alloc (.cells #[.int .i64 d.vk, .int .i64 d.vn, .string d.vs] 28)).cell? ⟨w.heap.size, 2, none⟩ = some (.string vs) := by rw [World.cell?_alloc_lt _ _ ⟨w.heap.size, 2, none⟩ hz]; exact q2
  generalize w1.alloc (.cells #[.int .i64 d.vk, .int .i64 d.vn, .string d.vs] 28) = w2 at *
  have h2 : HR w2 hb nb mb ov rv B H := h'.below hb2
  obtain ⟨_, _, _, _, k4, k5, k6, _⟩ := raw_cells h2 _ d hr
  rw [hpb] at k4 k5 k6
  have f4 : ∀ j, w2.frozen? ⟨nb, j, none⟩ = false := fun j => h2.fn j
  have hA : Calls Tryd.prog 36 #[.pointer (some ⟨hb, 0, none⟩), .int .i64 (a + 1 + i)] w2.drew fun e w' => e = .returned (.pointer (some ⟨nb, H.po (a + 1 + i), none⟩)) ∧ w' = w2.drew := by
    obtain ⟨m, hm⟩ := Int.eq_ofNat_of_zero_le (show 0 ≤ a + 1 + i by omega)
    rw [hpo, hm]
    exact (HeapA.at_lo hb m nb H.room H.cap H.room w2.drew h2.c0 h2.c3 (by omega) (by omega)).mono fun e w' ⟨x, y⟩ => ⟨by rw [x]; rfl, y.symm⟩
  generalize hpx : H.po (a + 1 + i) = po at *
  have hHpo := Lib.hid hpo
  clear q0 q1 q2 hz hbw hG h' hr hd hi hpx
  have hHid := Lib.hid hb2
  clear hb2 hpo h
  have hs1 : IntKind.i64.wrap (a + 1) = a + 1 := IntWalk.i64_in _ (by omega)
  have hs2 : IntKind.i64.wrap (a + 1 + i) = a + 1 + i := IntWalk.i64_in _ (by omega)
  go_still_tail 9, (by kernel_rfl)
  still_call hA
  repeat still_step
  refine wpStill_nil ?_
  clear hs1 hs2
  change wpList _ _ _ _ _ w2.drew
  have g3 : decide ((H.room : Int) ≤ a) = false := by simpa using har
  have hpo' : po = (a + 1 + i).toNat * 8 := hHpo.out
  have hw3 : ((((w2.setCell ⟨nb, po + 4, none⟩ (.int .i64 vk)).setCell ⟨nb, po + 4 + 1, none⟩ (.int .i64 vn)).setCell ⟨nb, po + 4 + 2, none⟩ (.string vs)).drew).heap[nb]? = some (.cells (hcells (H.setN (a + 1 + i).toNat vk vn vs).nur) 105 (0, 0)) := by
    show (((w2.setCell ⟨nb, po + 4, none⟩ (.int .i64 vk)).setCell ⟨nb, po + 4 + 1, none⟩ (.int .i64 vn)).setCell ⟨nb, po + 4 + 2, none⟩ (.string vs)).heap[nb]? = _
    rw [blk_set (blk_set (blk_set h2.nur _) _) _, hpo']
    rw [hcells_set3 _ _ _ _ _ (by have := h2.len; omega)]
    rfl
  have hO : Turned (fun k => k = nb) w2 ((((w2.setCell ⟨nb, po + 4, none⟩ (.int .i64 vk)).setCell ⟨nb, po + 4 + 1, none⟩ (.int .i64 vn)).setCell ⟨nb, po + 4 + 2, none⟩ (.string vs)).drew) := by
    refine Turned.drew (Turned.setCell (Turned.setCell (Turned.setCell (Turned.refl _ w2) ?_ _) ?_ _) ?_ _) <;> exact .inl rfl
  have hT2 : Turned (fun k => k = nb) w w2 := ((Turned.refl _ w).alloc _).trans (Turned.of_below _ hHid.out)
  have C3 := h2.c3
  have hne := h2.hn
  have H2 := Lib.hid h2
  have HW3 := Lib.hid hw3
  have HO := Lib.hid hO
  clear h2 hw3 hO hpo' hA hHid
  go_wp2_with fail
  clear k4 k5 k6 f4
  go_quiet (fail)
  go_wp2
  go_ret
  refine ⟨rfl, ?_, hT2.trans (HO.out.drewN _)⟩
  have hh := H2.out
  exact {
    blk := (HO.out.block hb (hh.lt (.inl rfl)) hne).trans hh.blk
    nur := HW3.out
    len := by simp only [HS.setN, List.length_modify]; exact hh.len
    old := ownsRow_same hh.old fun k hk => HO.out.block k (hh.lt (.inr (.inr (.inr (.inl hk))))) (fun e => hh.on (e ▸ hk))
    rem := ownsRow_same hh.rem fun k hk => HO.out.block k (hh.lt (.inr (.inr (.inr (.inr hk))))) (fun e => hh.rn (e ▸ hk))
    map := HeapF.ownsMap_same hh.map (HO.out.block mb (hh.lt (.inr (.inr (.inl rfl)))) hh.nm.symm)
    hn := hh.hn
    oh := hh.oh
    on := hh.on
    rh := hh.rh
    rn := hh.rn
    ro := hh.ro
    lo := hh.lo
    tr := hh.tr
    rr := hh.rr
    mm := hh.mm
    om := hh.om }
theorem set_nur_ref (h : HR w hb nb mb ov rv B H) (a i : Int) (ha0 : 0 ≤ a) (har : a < H.room) (ha : a + 1 + i ≤ 9223372036854775807) (vn : Int) (vs : ByteArray) (c d : HCell) (hd : H.head a = some c) (hi0 : 0 ≤ i) (hi : i < c.size) (hr : H.raw (a + 1 + i) = some d)
    (hin : a + 1 + i < H.room) (t : HCell) (hv : vn ≤ 9223372036854775807) (hn : H.head vn = some t) :
    Calls Tryd.prog 12 #[.pointer (some ⟨hb, 0, none⟩), .int .i64 a, .int .i64 i, .agg #[.int .i64 4, .int .i64 vn, .string vs]] w fun e w' => e = .returned .nilIface ∧ HR w' hb nb mb ov rv B (H.setN (a + 1 + i).toNat 4 vn vs) ∧ Turned (fun k => k = nb) w w' := by
  have h' : HR (sw w 4 vn vs) hb nb mb ov rv B H := h.below ((Below.refl w.heap.size w).alloc (Nat.le_refl _) _)
  have hG := get_ok h' a i ha0 ha c d hd hi0 hi hr
  have hpb : H.pb nb ov (a + 1 + i) = nb := by simp [HS.pb, hin]
  have hpo : H.po (a + 1 + i) = (a + 1 + i).toNat * 8 := by simp [HS.po, hin]
  unfold sw at hG
  have hN : ∀ w2, Below (w.alloc (.cells #[.int .i64 4, .int .i64 vn, .string vs] 28)).heap.size (w.alloc (.cells #[.int .i64 4, .int .i64 vn, .string vs] 28)) w2 → Calls Tryd.prog 35 #[.pointer (some ⟨hb, 0, none⟩), .int .i64 vn] w2 fun e w' => e = .returned (.tuple #[.pointer (some ⟨H.pb nb ov vn, H.po vn, none⟩), .bool true]) ∧ ∃ n, w' = w2.drewN n := fun w2 h2 => head_yes (h'.below h2) vn hv t hn
  go_enter Tryd.func12, Tryd.ntmps12
  go_wp2_with (first | (go_at_call 11; refine hG.mono ?_; rintro e w1 ⟨rfl, hbw⟩; have q0 : w1.cell? ⟨w.heap.size, 0, none⟩ = some (.int .i64 4) := (by rw [hbw.cell (by simp)]; simp); have q1 : w1.cell? ⟨w.heap.size, 1, none⟩ = some (.int .i64 vn) := (by rw [hbw.cell (by simp)]; simp); have q2 : w1.cell? ⟨w.heap.size, 2, none⟩ = some (.string vs) := (by rw [hbw.cell (by simp)]; simp); have hz : w.heap.size < w1.heap.size := (by have := hbw.size; simp at this; omega)) | (go_at_call 35; refine (hN _ ?_).mono ?_; exact hbw.alloc (by simp; omega) _; rintro e w' ⟨rfl, n, rfl⟩))
  have hb2 : Below (w.alloc (.cells #[.int .i64 4, .int .i64 vn, .string vs] 28)).heap.size (w.alloc (.cells #[.int .i64 4, .int .i64 vn, .string vs] 28)) ((w1.alloc (.cells #[.int .i64 d.vk, .int .i64 d.vn, .string d.vs] 28)).drewN n) := below_drewN (hbw.alloc hbw.size _) _
  have p0 : ((w1.alloc (.cells #[.int .i64 d.vk, .int .i64 d.vn, .string d.vs] 28)).drewN n).cell? ⟨w.heap.size, 0, none⟩ = some (.int .i64 4) := by show (w1.alloc (.cells #[.int .i64 d.vk, .int .i64 d.vn, .string d.vs] 28)).cell? ⟨w.heap.size, 0, none⟩ = _; rw [World.cell?_alloc_lt _ _ ⟨w.heap.size, 0, none⟩ hz]; exact q0
  have p1 : ((w1.alloc (.cells #[.int .i64 d.vk, .int .i64 d.vn, .string d.vs] 28)).drewN n).cell? ⟨w.heap.size, 1, none⟩ = some (.int .i64 vn) := by show (w1.alloc (.cells #[.int .i64 d.vk, .int .i64 d.vn, .string d.vs] 28)).cell? ⟨w.heap.size, 1, none⟩ = _; rw [World.cell?_alloc_lt _ _ ⟨w.heap.size, 1, none⟩ hz]; exact q1
  have p2 : ((w1.alloc (.cells #[.int .i64 d.vk, .int .i64 d.vn, .string d.vs] 28)).drewN n).cell? ⟨w.heap.size, 2, none⟩ = some (.string vs) := by show (w1.alloc (.cells #[.int .i64 d.vk, .int .i64 d.vn, .string d.vs] 28)).cell? ⟨w.heap.size, 2, none⟩ = _; rw [World.cell?_alloc_lt _ _ ⟨w.heap.size, 2, none⟩ hz]; exact q2
  generalize ((w1.alloc (.cells #[.int .i64 d.vk, .int .i64 d.vn, .string d.vs] 28)).drewN n) = w2 at *
  have h2 : HR w2 hb nb mb ov rv B H := h'.below hb2
  obtain ⟨_, _, _, _, k4, k5, k6, _⟩ := raw_cells h2 _ d hr
  rw [hpb] at k4 k5 k6
  have f4 : ∀ j, w2.frozen? ⟨nb, j, none⟩ = false := fun j => h2.fn j
  have hA : Calls Tryd.prog 36 #[.pointer (some ⟨hb, 0, none⟩), .int .i64 (a + 1 + i)] w2.drew fun e w' => e = .returned (.pointer (some ⟨nb, H.po (a + 1 + i), none⟩)) ∧ w' = w2.drew := by
    obtain ⟨m, hm⟩ := Int.eq_ofNat_of_zero_le (show 0 ≤ a + 1 + i by omega)
    rw [hpo, hm]
    exact (HeapA.at_lo hb m nb H.room H.cap H.room w2.drew h2.c0 h2.c3 (by omega) (by omega)).mono fun e w' ⟨x, y⟩ => ⟨by rw [x]; rfl, y.symm⟩
  generalize hpx : H.po (a + 1 + i) = po at *
  have hHpo := Lib.hid hpo
  clear q0 q1 q2 hz hbw hG h' hr hd hi hpx hN hn
  have hHid := Lib.hid hb2
  clear hb2 hpo h
  have hs1 : IntKind.i64.wrap (a + 1) = a + 1 := IntWalk.i64_in _ (by omega)
  have hs2 : IntKind.i64.wrap (a + 1 + i) = a + 1 + i := IntWalk.i64_in _ (by omega)
  go_still_tail 9, (by kernel_rfl)
  still_call hA
  repeat still_step
  refine wpStill_nil ?_
  clear hs1 hs2
  change wpList _ _ _ _ _ w2.drew
  have g3 : decide ((H.room : Int) ≤ a) = false := by simpa using har
  have hpo' : po = (a + 1 + i).toNat * 8 := hHpo.out
  have hw3 : ((((w2.setCell ⟨nb, po + 4, none⟩ (.int .i64 4)).setCell ⟨nb, po + 4 + 1, none⟩ (.int .i64 vn)).setCell ⟨nb, po + 4 + 2, none⟩ (.string vs)).drew).heap[nb]? = some (.cells (hcells (H.setN (a + 1 + i).toNat 4 vn vs).nur) 105 (0, 0)) := by
    show (((w2.setCell ⟨nb, po + 4, none⟩ (.int .i64 4)).setCell ⟨nb, po + 4 + 1, none⟩ (.int .i64 vn)).setCell ⟨nb, po + 4 + 2, none⟩ (.string vs)).heap[nb]? = _
    rw [blk_set (blk_set (blk_set h2.nur _) _) _, hpo']
    rw [hcells_set3 _ _ _ _ _ (by have := h2.len; omega)]
    rfl
  have hO : Turned (fun k => k = nb) w2 ((((w2.setCell ⟨nb, po + 4, none⟩ (.int .i64 4)).setCell ⟨nb, po + 4 + 1, none⟩ (.int .i64 vn)).setCell ⟨nb, po + 4 + 2, none⟩ (.string vs)).drew) := by
    refine Turned.drew (Turned.setCell (Turned.setCell (Turned.setCell (Turned.refl _ w2) ?_ _) ?_ _) ?_ _) <;> exact .inl rfl
  have hT2 : Turned (fun k => k = nb) w w2 := ((Turned.refl _ w).alloc _).trans (Turned.of_below _ hHid.out)
  have C3 := h2.c3
  have hne := h2.hn
  have H2 := Lib.hid h2
  have HW3 := Lib.hid hw3
  have HO := Lib.hid hO
  clear h2 hw3 hO hpo' hA hHid
  go_wp2_with fail
  clear k4 k5 k6 f4
  go_quiet (fail)
  go_wp2
  go_ret
  refine ⟨rfl, ?_, hT2.trans (HO.out.drewN _)⟩
  have hh := H2.out
  exact {
    blk := (HO.out.block hb (hh.lt (.inl rfl)) hne).trans hh.blk
    nur := HW3.out
    len := by simp only [HS.setN, List.length_modify]; exact hh.len
    old := ownsRow_same hh.old fun k hk => HO.out.block k (hh.lt (.inr (.inr (.inr (.inl hk))))) (fun e => hh.on (e ▸ hk))
    rem := ownsRow_same hh.rem fun k hk => HO.out.block k (hh.lt (.inr (.inr (.inr (.inr hk))))) (fun e => hh.rn (e ▸ hk))
    map := HeapF.ownsMap_same hh.map (HO.out.block mb (hh.lt (.inr (.inr (.inl rfl)))) hh.nm.symm)
    hn := hh.hn
    oh := hh.oh
    on := hh.on
    rh := hh.rh
    rn := hh.rn
    ro := hh.ro
    lo := hh.lo
    tr := hh.tr
    rr := hh.rr
    mm := hh.mm
    om := hh.om }
end Go.Proofs.YthbkklnahhdgcaaDoor.HeapH

namespace Go.Proofs.YthbkklnahhdgcaaDoor.ChZ
open Go Go.Proofs Go.RowKit Go.Maps Go.Proofs.YthbkklnahhdgcaaDoor.Lib HeapR HeapC HeapD HeapF HeapG HeapH ChA ChT ChCa ChCc ChE ChL ChN ChO ChR ChW

def nilV : Vl := ⟨0, 0, ByteArray.empty⟩
/-- A new object. -/
def newOb (H : HS) (kind tag : Int) (s : Nat) : Ob := ⟨H.top, kind, tag, if kind = 4 then 0 else (H.next : Int) + 1, List.replicate s nilV⟩
theorem zeros_get (l : List HCell) (a n i : Nat) : (zeros l a n)[i]? = if a ≤ i ∧ i < a + n ∧ i < l.length then some HCell.zero else l[i]? := by
  induction n with
  | zero =>
    rw [if_neg (by omega)]
    rfl
  | succ n ih =>
    show ((zeros l a n).set (a + n) HCell.zero)[i]? = _
    rw [List.getElem?_set, length_zeros, ih]
    by_cases h1 : a + n = i
    · rw [if_pos h1]
      by_cases h2 : a + n < l.length
      · rw [if_pos h2, if_pos (by omega)]
      · rw [if_neg h2, if_neg (by omega), List.getElem?_eq_none (by omega)]
    · rw [if_neg h1]
      by_cases h3 : a ≤ i ∧ i < a + n ∧ i < l.length
      · rw [if_pos h3, if_pos (by omega)]
      · rw [if_neg h3, if_neg (by omega)]
variable {w : World} {hb nb mb : Nat} {ov rv : Value} {B : Nat} {H : HS} {nu ol : List Ob}
theorem hi_alloc (h : HR w hb nb mb ov rv B H) (hi : HI H nu ol) {kind tag : Int} {s : Nat} (hk : 1 ≤ kind) (hf : H.top + 1 + s ≤ H.room) : HI (H.alloc kind tag s) (nu ++ [newOb H kind tag s]) ol := by
  have hlen := h.len
  have htop := hi.top
  have hol : (newOb H kind tag s).len = 1 + s := by simp [newOb, Ob.len]
  have htot : total [newOb H kind tag s] = 1 + s := by simp [total, hol]
  have hmem : ∀ {o : Ob}, o ∈ (nu ++ [newOb H kind tag s]) ++ ol → o ∈ nu ++ ol ∨ o = newOb H kind tag s := fun {o} ho => by
    rcases List.mem_append.mp ho with ho | ho
    · rcases List.mem_append.mp ho with ho | ho
      · exact Or.inl (List.mem_append.mpr (Or.inl ho))
      · exact Or.inr (by simpa using ho)
    · exact Or.inl (List.mem_append.mpr (Or.inr ho))
  have hmem' : ∀ {o : Ob}, o ∈ nu ++ ol → o ∈ (nu ++ [newOb H kind tag s]) ++ ol := fun {o} ho => by
    rcases List.mem_append.mp ho with ho | ho
    · exact List.mem_append.mpr (Or.inl (List.mem_append.mpr (Or.inl ho)))
    · exact List.mem_append.mpr (Or.inr ho)
  have hnewm : newOb H kind tag s ∈ (nu ++ [newOb H kind tag s]) ++ ol := List.mem_append.mpr (Or.inl (List.mem_append.mpr (Or.inr (by simp))))
  have hidn : ∀ {o : Ob}, o ∈ nu ++ ol → (newOb H kind tag s).id ≠ 0 → o.id ≠ (newOb H kind tag s).id := fun {o} ho h0 e => by
    have h1 := (hi.ids o ho).2
    have h2 : (newOb H kind tag s).id = if kind = 4 then 0 else (H.next : Int) + 1 := rfl
    rw [h2] at h0 e
    split at h0
    · exact h0 rfl
    · rename_i h4
      rw [if_neg h4] at e
      omega
  exact {
    nur := by
      rw [flat_append]
      show (zeros (H.nur.set H.top _) (H.top + 1) s).take (H.top + 1 + s) = _
      refine List.ext_getElem? fun i => ?_
      rw [List.getElem?_take, zeros_get, List.length_set]
      have hfl : (flat nu).length = H.top := by rw [flat_length, htop]
      by_cases hi1 : i < H.top
      · rw [if_pos (by omega), if_neg (by omega), List.getElem?_set, if_neg (by omega), List.getElem?_append_left (by omega), ← hi.nur, List.getElem?_take, if_pos hi1]
      · rw [List.getElem?_append_right (by omega), hfl]
        have hcells : flat [newOb H kind tag s] = (newOb H kind tag s).head 0 :: List.replicate s HCell.zero := by
          simp [flat, Ob.cells, newOb, nilV, Vl.cell, HCell.zero]
        rw [hcells]
        by_cases hi2 : i = H.top
        · subst hi2
          rw [if_pos (by omega), if_neg (by omega), List.getElem?_set, if_pos rfl, if_pos (by omega), Nat.sub_self]
          simp [newOb, Ob.head]
          rfl
        · obtain ⟨j, hj⟩ : ∃ j, i - H.top = j + 1 := ⟨i - H.top - 1, by omega⟩
          rw [hj, List.getElem?_cons_succ, List.getElem?_replicate]
          by_cases hi3 : i < H.top + 1 + s
          · rw [if_pos hi3, if_pos (by omega), if_pos (by omega)]
          · rw [if_neg hi3, if_neg (by omega)]
    old := hi.old
    tlen := by
      show H.top + 1 + s ≤ (zeros _ _ _).length
      rw [length_zeros, List.length_set]
      omega
    na := laid_append.mpr ⟨hi.na, by rw [Nat.zero_add, ← htop]; exact ⟨rfl, trivial⟩⟩
    oa := hi.oa
    fit := by
      show total (nu ++ [newOb H kind tag s]) ≤ H.room
      rw [total_append, htot]
      omega
    refs := fun o ho v hv hk4 => by
      rcases hmem ho with ho | rfl
      · obtain ⟨x, hx, e⟩ := hi.refs o ho v hv hk4
        exact ⟨x, hmem' hx, e⟩
      · have : v = nilV := (List.mem_replicate.mp (show v ∈ List.replicate s nilV from hv)).2
        subst this
        exact absurd hk4 (show ¬ (0 : Int) = 4 by decide)
    rem1 := hi.rem1
    rem2 := hi.rem2
    wh := by
      obtain ⟨g, hg1, hg2⟩ := hi.wh
      by_cases h4 : kind = 4
      · refine ⟨g, by show Reads (if kind = 4 then H.wh else _) g; rw [if_pos h4]; exact hg1, fun id c => (hg2 id c).trans ⟨?_, ?_⟩⟩
        · rintro ⟨h0, o, ho, e1, e2⟩
          exact ⟨h0, o, hmem' ho, e1, e2⟩
        · rintro ⟨h0, o, ho, e1, e2⟩
          rcases hmem ho with ho | rfl
          · exact ⟨h0, o, ho, e1, e2⟩
          · exact absurd (show (if kind = 4 then (0 : Int) else (H.next : Int) + 1) = id from e1) (by rw [if_pos h4]; exact fun e => h0 e.symm)
      · refine ⟨_, by show Reads (if kind = 4 then H.wh else _) _; rw [if_neg h4]; exact reads_put hg1 _ _, fun id c => ?_⟩
        have hnid : (newOb H kind tag s).id = (H.next : Int) + 1 := by show (if kind = 4 then (0 : Int) else (H.next : Int) + 1) = _; rw [if_neg h4]
        by_cases hid : id = (H.next : Int) + 1
        · rw [if_pos hid]
          constructor
          · intro e
            have e' : ((H.top : Nat) : Int) = c := by simpa using e
            exact ⟨by omega, _, hnewm, by rw [hnid, hid], e'.symm⟩
          · rintro ⟨h0, o, ho, e1, e2⟩
            rcases hmem ho with ho | rfl
            · have := (hi.ids o ho).2
              omega
            · rw [e2]
              rfl
        · rw [if_neg hid]
          refine (hg2 id c).trans ⟨?_, ?_⟩
          · rintro ⟨h0, o, ho, e1, e2⟩
            exact ⟨h0, o, hmem' ho, e1, e2⟩
          · rintro ⟨h0, o, ho, e1, e2⟩
            rcases hmem ho with ho | rfl
            · exact ⟨h0, o, ho, e1, e2⟩
            · rw [hnid] at e1
              exact absurd e1.symm hid
    ids := fun o ho => by
      show 0 ≤ o.id ∧ o.id ≤ ((if kind = 4 then H.next else H.next + 1 : Nat) : Int)
      rcases hmem ho with ho | rfl
      · have := hi.ids o ho
        split <;> omega
      · show 0 ≤ (if kind = 4 then (0 : Int) else (H.next : Int) + 1) ∧ (if kind = 4 then (0 : Int) else (H.next : Int) + 1) ≤ _
        split <;> omega
    named := fun x hx y hy e h0 => by
      rcases hmem hx with hx | rfl <;> rcases hmem hy with hy | rfl
      · exact hi.named x hx y hy e h0
      · exact absurd e (hidn hx (by rw [← e]; exact h0))
      · exact absurd e.symm (hidn hy h0)
      · rfl
    kinds := fun o ho => by
      rcases hmem ho with ho | rfl
      · exact hi.kinds o ho
      · show kind ≠ 0
        omega }

theorem modify_left {α : Type} (f : α → α) (l k : List α) (i : Nat) (h : i < l.length) : (l ++ k).modify i f = l.modify i f ++ k := by
  induction l generalizing i with
  | nil => simp at h
  | cons x l ih =>
    cases i with
    | zero => rfl
    | succ i =>
      rw [List.cons_append, List.modify_succ_cons, List.modify_succ_cons, ih i (by simpa using h)]
      rfl
theorem modify_right {α : Type} (f : α → α) (l k : List α) (i : Nat) (h : l.length ≤ i) : (l ++ k).modify i f = l ++ k.modify (i - l.length) f := by
  induction l generalizing i with
  | nil => simp
  | cons x l ih =>
    cases i with
    | zero => simp at h
    | succ i =>
      rw [List.cons_append, List.modify_succ_cons, ih i (by simpa using h), List.length_cons, Nat.add_sub_add_right]
      rfl
/-- A field of the object at an address is set. -/
def setOb (l : List Ob) (a i : Nat) (v : Vl) : List Ob := l.map fun x => if x.addr = a then { x with fs := x.fs.set i v } else x
theorem setOb_len (x : Ob) (a i : Nat) (v : Vl) : (if x.addr = a then { x with fs := x.fs.set i v } else x : Ob).len = x.len := by
  split
  · simp [Ob.len]
  · rfl
theorem setOb_addr (x : Ob) (a i : Nat) (v : Vl) : (if x.addr = a then { x with fs := x.fs.set i v } else x : Ob).addr = x.addr := by
  split <;> rfl
theorem setOb_rest (x : Ob) (a i : Nat) (v : Vl) : (if x.addr = a then { x with fs := x.fs.set i v } else x : Ob).id = x.id ∧ (if x.addr = a then { x with fs := x.fs.set i v } else x : Ob).kind = x.kind := by
  split <;> exact ⟨rfl, rfl⟩
theorem total_setOb (l : List Ob) (a i : Nat) (v : Vl) : total (setOb l a i v) = total l := by
  induction l with
  | nil => rfl
  | cons x l ih =>
    show total ((if x.addr = a then { x with fs := x.fs.set i v } else x) :: setOb l a i v) = _
    rw [total_cons, total_cons, ih, setOb_len]
theorem laid_setOb {b : Nat} {l : List Ob} (h : Laid b l) (a i : Nat) (v : Vl) : Laid b (setOb l a i v) := by
  induction l generalizing b with
  | nil => exact trivial
  | cons x l ih =>
    obtain ⟨h1, h2⟩ := h
    refine ⟨(setOb_addr x a i v).trans h1, ?_⟩
    rw [setOb_len]
    exact ih h2
theorem setOb_out {b : Nat} {l : List Ob} (h : Laid b l) {a i : Nat} {v : Vl} (ha : a < b) : setOb l a i v = l := by
  unfold setOb
  conv => rhs; rw [← List.map_id l]
  refine List.map_congr_left fun x hx => ?_
  have := laid_in h hx
  rw [if_neg (by omega)]
  rfl
theorem flat_set {b : Nat} {l : List Ob} (h : Laid b l) {o : Ob} (ho : o ∈ l) {i : Nat} (hi : i < o.fs.length) (v : Vl) : (flat l).modify (o.addr - b + 1 + i) (fun d => { d with vk := v.k, vn := v.n, vs := v.s }) = flat (setOb l o.addr i v) := by
  induction l generalizing b with
  | nil => cases ho
  | cons x l ih =>
    obtain ⟨h1, h2⟩ := h
    show (x.cells 0 ++ flat l).modify _ _ = (if x.addr = o.addr then { x with fs := x.fs.set i v } else x : Ob).cells 0 ++ flat (setOb l o.addr i v)
    rcases List.mem_cons.mp ho with rfl | ho
    · have hlo : setOb l o.addr i v = l := setOb_out h2 (by have := len_pos o; omega)
      rw [if_pos rfl, hlo, h1, Nat.sub_self, Nat.zero_add]
      rw [modify_left _ _ _ _ (by rw [Ob.length_cells]; unfold Ob.len; omega)]
      congr 1
      show (o.head 0 :: o.fs.map Vl.cell).modify (1 + i) _ = _
      rw [Nat.add_comm 1 i, List.modify_succ_cons]
      show _ = (⟨o.kind, o.tag, o.id, ((o.fs.set i v).length : Int), 0, 0, ByteArray.empty, 0⟩ : HCell) :: (o.fs.set i v).map Vl.cell
      rw [List.length_set]
      congr 1
      refine List.ext_getElem? fun j => ?_
      rw [List.getElem?_modify, List.getElem?_map, List.getElem?_map, List.getElem?_set]
      by_cases hj : i = j
      · subst hj
        rw [if_pos rfl, if_pos hi, List.getElem?_eq_getElem hi]
        simp [Vl.cell]
      · rw [if_neg hj]
        cases o.fs[j]? <;> simp [hj]
    · have h3 := laid_in h2 ho
      have hne : x.addr ≠ o.addr := by have := len_pos x; omega
      rw [if_neg hne]
      rw [modify_right _ _ _ _ (by rw [Ob.length_cells]; omega)]
      congr 1
      rw [Ob.length_cells, show o.addr - b + 1 + i - x.len = o.addr - (b + x.len) + 1 + i by omega]
      exact ih h2 ho

theorem take_modify {α : Type} (f : α → α) (l : List α) (n i : Nat) : (l.modify i f).take n = (l.take n).modify i f := by
  refine List.ext_getElem? fun j => ?_
  rw [List.getElem?_take, List.getElem?_modify, List.getElem?_modify, List.getElem?_take]
  by_cases h : j < n
  · rw [if_pos h, if_pos h]
  · rw [if_neg h, if_neg h]
    rfl
theorem mem_setOb {l : List Ob} {a i : Nat} {v : Vl} {y : Ob} (h : y ∈ setOb l a i v) : ∃ x ∈ l, y.addr = x.addr ∧ y.id = x.id ∧ y.kind = x.kind ∧ y = (if x.addr = a then { x with fs := x.fs.set i v } else x : Ob) := by
  obtain ⟨x, hx, e⟩ := List.mem_map.mp h
  refine ⟨x, hx, ?_, ?_, ?_, e.symm⟩
  · rw [← e, setOb_addr]
  · rw [← e, (setOb_rest x a i v).1]
  · rw [← e, (setOb_rest x a i v).2]
theorem setOb_mem {l : List Ob} (a i : Nat) (v : Vl) {x : Ob} (h : x ∈ l) : ∃ y ∈ setOb l a i v, y.addr = x.addr ∧ y.id = x.id :=
  ⟨_, List.mem_map.mpr ⟨x, h, rfl⟩, setOb_addr x a i v, (setOb_rest x a i v).1⟩
theorem hi_set (hi : HI H nu ol) {o : Ob} (ho : o ∈ nu) {i : Nat} (hil : i < o.fs.length) (v : Vl) (hv : v.k = 4 → ∃ x ∈ nu ++ ol, v.n = (x.addr : Int)) : HI (H.setN (o.addr + 1 + i) v.k v.n v.s) (setOb nu o.addr i v) ol := by
  have hto : ∀ {y : Ob}, y ∈ setOb nu o.addr i v ++ ol → ∃ x ∈ nu ++ ol, y.addr = x.addr ∧ y.id = x.id ∧ y.kind = x.kind ∧ (y = x ∨ (x.addr = o.addr ∧ y.fs = x.fs.set i v)) := fun {y} hy => by
    rcases List.mem_append.mp hy with hy | hy
    · obtain ⟨x, hx, e1, e2, e3, e4⟩ := mem_setOb hy
      refine ⟨x, List.mem_append.mpr (Or.inl hx), e1, e2, e3, ?_⟩
      by_cases ha : x.addr = o.addr
      · rw [if_pos ha] at e4
        exact Or.inr ⟨ha, by rw [e4]⟩
      · rw [if_neg ha] at e4
        exact Or.inl e4
    · exact ⟨y, List.mem_append.mpr (Or.inr hy), rfl, rfl, rfl, Or.inl rfl⟩
  have hfrom : ∀ {x : Ob}, x ∈ nu ++ ol → ∃ y ∈ setOb nu o.addr i v ++ ol, y.addr = x.addr ∧ y.id = x.id := fun {x} hx => by
    rcases List.mem_append.mp hx with hx | hx
    · obtain ⟨y, hy, e⟩ := setOb_mem o.addr i v hx
      exact ⟨y, List.mem_append.mpr (Or.inl hy), e⟩
    · exact ⟨x, List.mem_append.mpr (Or.inr hx), rfl, rfl⟩
  exact {
    nur := by
      show (H.nur.modify _ _).take H.top = _
      rw [take_modify, hi.nur, ← flat_set hi.na ho hil v, Nat.sub_zero]
    old := hi.old
    tlen := by
      show H.top ≤ (H.nur.modify _ _).length
      rw [List.length_modify]
      exact hi.tlen
    na := laid_setOb hi.na _ _ _
    oa := hi.oa
    fit := by
      rw [total_setOb]
      exact hi.fit
    refs := fun y hy u hu hk => by
      obtain ⟨x, hx, _, _, _, hh⟩ := hto hy
      have hres : ∃ t ∈ nu ++ ol, u.n = (t.addr : Int) := by
        rcases hh with rfl | ⟨_, e⟩
        · exact hi.refs y hx u hu hk
        · rw [e] at hu
          rcases List.mem_or_eq_of_mem_set hu with hu | rfl
          · exact hi.refs x hx u hu hk
          · exact hv hk
      obtain ⟨t, ht, e⟩ := hres
      obtain ⟨t', ht', e1, _⟩ := hfrom ht
      exact ⟨t', ht', by rw [e1]; exact e⟩
    rem1 := hi.rem1
    rem2 := hi.rem2
    wh := by
      obtain ⟨g, hg1, hg2⟩ := hi.wh
      refine ⟨g, hg1, fun id c => (hg2 id c).trans ⟨?_, ?_⟩⟩
      · rintro ⟨h0, x, hx, e1, e2⟩
        obtain ⟨y, hy, f1, f2⟩ := hfrom hx
        exact ⟨h0, y, hy, f2.trans e1, by rw [f1]; exact e2⟩
      · rintro ⟨h0, y, hy, e1, e2⟩
        obtain ⟨x, hx, f1, f2, _⟩ := hto hy
        exact ⟨h0, x, hx, f2.symm.trans e1, by rw [← f1]; exact e2⟩
    ids := fun y hy => by
      obtain ⟨x, hx, _, f2, _⟩ := hto hy
      rw [f2]
      exact hi.ids x hx
    named := fun a ha b hb e h0 => by
      have hA : Apart (setOb nu o.addr i v ++ ol) := fun a ha b hb e => by
        rcases List.mem_append.mp ha with ha | ha <;> rcases List.mem_append.mp hb with hb | hb
        · exact laid_apart (laid_setOb hi.na _ _ _) a ha b hb e
        · have h1 := laid_in (laid_setOb hi.na o.addr i v) ha
          have h2 := laid_in hi.oa hb
          rw [total_setOb] at h1
          have := hi.fit
          have := len_pos a
          omega
        · have h1 := laid_in (laid_setOb hi.na o.addr i v) hb
          have h2 := laid_in hi.oa ha
          rw [total_setOb] at h1
          have := hi.fit
          have := len_pos b
          omega
        · exact laid_apart hi.oa a ha b hb e
      obtain ⟨x, hx, f1, f2, _⟩ := hto ha
      obtain ⟨y, hy, g1, g2, _⟩ := hto hb
      have := hi.named x hx y hy (f2.symm.trans (e.trans g2)) (by rw [← f2]; exact h0)
      subst this
      exact hA a ha b hb (f1.trans g1.symm)
    kinds := fun y hy => by
      obtain ⟨x, hx, _, _, f3, _⟩ := hto hy
      rw [f3]
      exact hi.kinds x hx }
end Go.Proofs.YthbkklnahhdgcaaDoor.ChZ

namespace Go.Proofs.YthbkklnahhdgcaaDoor.PlH
open Go Go.Proofs Go.RowKit Go.Maps Go.Proofs.YthbkklnahhdgcaaDoor.Lib HeapR HeapB HeapC HeapD HeapG HeapH ChA ChT ChCa ChCc ChL ChM ChN ChO ChR ChU ChW ChZ

theorem hi_fresh (n o : Nat) : HI (fresh n o) [] [] := {
  nur := rfl
  old := rfl
  tlen := Nat.zero_le _
  na := trivial
  oa := trivial
  fit := Nat.zero_le _
  refs := fun o ho => by cases ho
  rem1 := fun r hr => by cases hr
  rem2 := fun j c hj => by cases hj
  wh := ⟨_, reads_empty, fun id c => ⟨fun h => (by cases h), fun ⟨_, o, ho, _⟩ => (by cases ho)⟩⟩
  ids := fun o ho => by cases ho
  named := fun x hx => by cases hx
  kinds := fun o ho => by cases ho }

theorem alloc_ob {w : World} {hb nb mb : Nat} {ov rv : Value} {B : Nat} {H : HS} {nu ol : List Ob} (h : HR w hb nb mb ov rv B H) (hi : HI H nu ol) (kind tag : Int) (s : Nat) (hk1 : 1 ≤ kind) (hk4 : kind ≤ 4) (hs : s ≤ 1000) (hf : total nu + (1 + s) ≤ H.room) (hx : H.next ≤ big) :
    Calls Tryd.prog 13 #[.pointer (some ⟨hb, 0, none⟩), .int .i64 kind, .int .i64 tag, .int .i64 (s : Int)] w fun e w' => e = .returned (.tuple #[.int .i64 ((newOb H kind tag s).addr : Int), .nilIface]) ∧
      HR w' hb nb mb ov rv B (H.alloc kind tag s) ∧ HI (H.alloc kind tag s) (nu ++ [newOb H kind tag s]) ol ∧ Turned (fun k => k = hb ∨ k = nb ∨ k = mb) w w' := by
  have ht := hi.top
  have hbig := big_lt
  by_cases hk : kind = 4
  · refine (alloc_box h kind tag s hk1 hk4 hs (by omega) hk (by omega)).mono ?_
    rintro e w' ⟨rfl, h1, h2⟩
    exact ⟨rfl, h1, hi_alloc h hi hk1 (by omega), h2⟩
  · refine (alloc_id h kind tag s hk1 hk4 hs (by omega) hk (by omega)).mono ?_
    rintro e w' ⟨rfl, h1, h2⟩
    exact ⟨rfl, h1, hi_alloc h hi hk1 (by omega), h2⟩

theorem set_ob {w : World} {hb nb mb : Nat} {ov rv : Value} {B : Nat} {H : HS} {nu ol : List Ob} (h : HR w hb nb mb ov rv B H) (hi : HI H nu ol) {o : Ob} (ho : o ∈ nu) {i : Nat} (hil : i < o.fs.length) (v : Vl) (hv : v.k = 4 → ∃ x ∈ nu ++ ol, v.n = (x.addr : Int)) (hsz : ∀ x ∈ nu ++ ol, x.addr + x.len ≤ big) :
    Calls Tryd.prog 12 #[.pointer (some ⟨hb, 0, none⟩), .int .i64 (o.addr : Int), .int .i64 (i : Int), .agg #[.int .i64 v.k, .int .i64 v.n, .string v.s]] w fun e w' => e = .returned .nilIface ∧
      HR w' hb nb mb ov rv B (H.setN (o.addr + 1 + i) v.k v.n v.s) ∧ HI (H.setN (o.addr + 1 + i) v.k v.n v.s) (setOb nu o.addr i v) ol ∧ Turned (fun k => k = nb) w w' := by
  have hoO : o ∈ nu ++ ol := List.mem_append.mpr (Or.inl ho)
  have hbig := big_lt
  have hoa := hsz o hoO
  have hol : o.len = 1 + o.fs.length := rfl
  obtain ⟨c, hc⟩ : ∃ c, o.fs[i]? = some c := ⟨_, List.getElem?_eq_getElem hil⟩
  have hcell : (o.cells 0)[1 + i]? = some c.cell := by
    rw [show 1 + i = i + 1 by omega]
    show (o.fs.map Vl.cell)[i]? = _
    rw [List.getElem?_map, hc]
    rfl
  have hraw := raw_obj h hi hoO hcell
  have hin := laid_in hi.na ho
  have hfit := hi.fit
  have hraw' : H.raw ((o.addr : Int) + 1 + (i : Int)) = some c.cell := by
    rw [show (o.addr : Int) + 1 + (i : Int) = (o.addr : Int) + ((1 + i : Nat) : Int) by omega]
    exact hraw
  have e1 : ((o.addr : Int) + 1 + (i : Int)).toNat = o.addr + 1 + i := by omega
  have hgoal := hi_set hi ho hil v hv
  by_cases hk : v.k = 4
  · obtain ⟨x, hx, en⟩ := hv hk
    have hxa := hsz x hx
    have h1 := set_nur_ref h (o.addr : Int) (i : Int) (by omega) (by omega) (by omega) v.n v.s (o.head 0) c.cell (head_obj h hi hoO) (by omega) (by show (i : Int) < (o.fs.length : Int); omega) hraw' (by omega) (x.head 0) (by omega) (by rw [en]; exact head_obj h hi hx)
    rw [e1] at h1
    rw [hk] at hgoal ⊢
    refine h1.mono ?_
    rintro e w' ⟨rfl, h2, h3⟩
    exact ⟨rfl, h2, hgoal, h3⟩
  · have h1 := set_nur_val h (o.addr : Int) (i : Int) (by omega) (by omega) (by omega) v.k v.n v.s (o.head 0) c.cell (head_obj h hi hoO) (by omega) (by show (i : Int) < (o.fs.length : Int); omega) hraw' (by omega) hk
    rw [e1] at h1
    refine h1.mono ?_
    rintro e w' ⟨rfl, h2, h3⟩
    exact ⟨rfl, h2, hgoal, h3⟩
end Go.Proofs.YthbkklnahhdgcaaDoor.PlH

namespace Go.Proofs.YthbkklnahhdgcaaDoor.PlA
open Go Go.Proofs Go.RowKit Go.Maps Go.Proofs.YthbkklnahhdgcaaDoor.Lib HeapR HeapB HeapC HeapD ChA ChT ChCa ChCc ChL ChN ChO

variable {w : World} {hb nb mb : Nat} {ov rv : Value} {B : Nat} {H : HS} {nu ol : List Ob}
theorem zeroI (w : World) : (zeroValue 3).run Tryd.prog w = .ok (.int .i64 0) w := by kernel_rfl

/-- At: where the object of an identity lies. -/
theorem at_any (h : HR w hb nb mb ov rv B H) (hi : HI H nu ol) (id : Int) (hw : (Lit.int .i64 id).wf = true) :
    Calls Tryd.prog 74 #[.pointer (some ⟨hb, 0, none⟩), .int .i64 id] w fun e w' => w' = w ∧ ∃ (c : Int) (b : Bool), e = .returned (.tuple #[.int .i64 c, .bool b]) ∧
      (b = true ↔ id ≠ 0 ∧ ∃ o ∈ nu ++ ol, o.id = id) ∧ (b = true → ∃ o ∈ nu ++ ol, o.id = id ∧ c = (o.addr : Int)) := by
  obtain ⟨g, hg, hgi⟩ := hi.wh
  have hown := h.map
  have c6 := h.c6
  have hh := hg.has_ id
  have hat := hg.at_ id
  have hspec := hgi id
  clear h hi hg hgi
  go_enter Tryd.func74, Tryd.ntmps74
  go_wp2_with (at_lookup; refine wpList_lookup_own_ok_int _ rfl _ _ 96 rfl 3 3 .i64 (int_keyed Tryd.underlying3) Tryd.underlying96 Tryd.underlying3 (zeroI _) mb H.next H.wh rfl hown _ (.int .i64 id) rfl (keyOf_int_mk Tryd.underlying3 hw) ?_; intro c hc _)
  go_ret2
  refine ⟨rfl, c, _, rfl, ?_, ?_⟩
  · rw [Option.isSome_iff_exists]
    constructor
    · rintro ⟨d, hd⟩
      obtain ⟨h0, o, ho, e, _⟩ := (hspec d).1 hd
      exact ⟨h0, o, ho, e⟩
    · rintro ⟨h0, o, ho, e⟩
      exact ⟨_, (hspec _).2 ⟨h0, o, ho, e, rfl⟩⟩
  · intro hb
    rw [Option.isSome_iff_exists] at hb
    obtain ⟨d, hd⟩ := hb
    obtain ⟨h0, o, ho, e, e2⟩ := (hspec d).1 hd
    refine ⟨o, ho, e, ?_⟩
    have h1 := hat d hd (.lit (.int .i64 0))
    rw [h1] at hc
    have h2 : d = c := by
      injection hc with hc
      injection hc
    rw [← h2, e2]

/-- Last. -/
theorem last_any (h : HR w hb nb mb ov rv B H) :
    Calls Tryd.prog 78 #[.pointer (some ⟨hb, 0, none⟩)] w fun e w' => e = .returned (.int .i64 (H.next : Int)) ∧ w' = w := by
  have c7 := h.c7
  clear h
  go_enter Tryd.func78, Tryd.ntmps78
  go_wp2
  go_ret
  exact ⟨rfl, rfl⟩

/-- Use. -/
theorem use_any (h : HR w hb nb mb ov rv B H) :
    Calls Tryd.prog 76 #[.pointer (some ⟨hb, 0, none⟩)] w fun e w' => e = .returned (.tuple #[.int .i64 (H.top : Int), .int .i64 (H.old.length : Int), .int .i64 (H.minors : Int), .int .i64 (H.majors : Int)]) ∧ ∃ n, w' = w.drewN n := by
  have c2 := h.c2
  have c1 := h.c1
  have c8 := h.c8
  have c9 := h.c9
  obtain ⟨oa, oc, hov⟩ : ∃ oa oc, ov = .slice oa H.old.length oc := by
    rcases h.old.2 with ⟨h1, h2⟩ | ⟨g, cap, cur, h1, _⟩
    · exact ⟨none, 0, by rw [h1, h2]⟩
    · exact ⟨_, _, h1⟩
  subst hov
  clear h
  go_enter Tryd.func76, Tryd.ntmps76
  go_wp2_with fail
  go_quiet (fail)
  go_wp2
  refine bodyPost_ret (v := .tuple #[.int .i64 (H.top : Int), .int .i64 (H.old.length : Int), .int .i64 (H.minors : Int), .int .i64 (H.majors : Int)]) (by simp [results, Tryd.results76, go_sem] <;> rfl) rfl ⟨rfl, _, rfl⟩
end Go.Proofs.YthbkklnahhdgcaaDoor.PlA

namespace Go.Proofs.YthbkklnahhdgcaaDoor.PlB
open Go Go.Proofs Go.RowKit Go.Maps Go.Proofs.YthbkklnahhdgcaaDoor.Lib HeapR HeapB HeapC HeapD ChA ChT ChCa ChCc ChL ChN ChO

theorem infoInt : (Tryd.prog.info? 3).map (fun i => (i.zero, i.size, i.bytes)) = some (some (.int .i64 0), 1, 8) := by kernel_rfl

/-! ### maps.Clone -/
theorem mclone (b n : Nat) (D : DataW Unit) (w : World) (hown : w.ownsMap Tryd.prog 3 (plainElem Tryd.prog 3) b n D) :
    Calls Tryd.prog 70 #[.map (some b)] w fun e w' => e = .returned (.map (some w.heap.size)) ∧ w'.ownsMap Tryd.prog 3 (plainElem Tryd.prog 3) w.heap.size n D ∧ Below w.heap.size w w' := by
  obtain ⟨es, clock, hb, F, hs, hD⟩ := hown
  have hq := fun w => run_eql_map_nil_sl (P := Tryd.prog) w 96 _ _ (some b) Tryd.underlying96
  go_enter Tryd.func70, Tryd.ntmps70
  go_wp2
  rw [run_callFunc_extern Tryd.func89 (by kernel_rfl) (by kernel_rfl) (by kernel_rfl) (e := Extern.MapsClone.clone) (by kernel_rfl), run_maps_clone_sl w 96 hb]
  simp only [Result.andThen]
  rw [Oper.upon_value]
  go_wp2
  rw [run_typeAssert_map_sl _ 96 20 _ _ _ Tryd.underlying96]
  simp only [Result.andThen]
  rw [Oper.upon_value]
  go_wp2
  go_ret
  have hB : Below w.heap.size w (w.alloc (.map es clock)) := (Below.refl _ w).alloc (Nat.le_refl _) _
  exact ⟨rfl, ⟨es, clock, (MapKept.heap_alloc w _).1, F, hs, hD⟩, hB⟩

/-! ### slices.Clone -/
/-- An append whose run is known. -/
theorem wpList_append_run {P : Program} {ops : Array Oper} {Q : Exit → Act → World → Prop} {o : Oper} {rest : List Oper} {a : Act} {w : World} (hg : o.guard = none) (m x : Operand) (t t2 : TypeId) (hop : o.op = Op.call { callee := Callee.builtin Builtin.append, args := #[m, x], argTypes := #[t, t2] })
    (vm vx v : Value) (w' : World) (hm : a.eval m = vm) (hx : a.eval x = vx) (hrun : (Builtin.append_ #[t, t2] o.type #[vm, vx]).run P w = .ok v w') (hK : wpList P ops Q rest (a.put o.dst v) w') : wpList P ops Q (o :: rest) a w := by
  refine wpList_plain hg fun K' hK' => ?_
  unfold Oper.wp
  simp [execOp, hop, resolve, invoke, builtin, hm, hx, hrun, Result.andThen]
  exact hK' _ _ hK
theorem zero_cells (k : Nat) : Builtin.zeroCells (Value.agg #[.int .i64 0, .int .i64 0, .int .i64 0, .int .i64 0, .int .i64 0, .int .i64 0, .string ByteArray.empty, .int .i64 0]).cells k = hcells (List.replicate k HCell.zero) := made_cells k
theorem take_vals (L : List HCell) (n j : Nat) (v : Value) (h : (hvals (L.take n))[j]? = some v) : (hvals L)[j]? = some v := by
  have e : hvals L = hvals (L.take n) ++ hvals (L.drop n) := by rw [← hvals_append, List.take_append_drop]
  rw [e, List.getElem?_append_left (List.getElem?_eq_some_iff.1 h).1]
  exact h
theorem nclone (nb n c : Nat) (L : List HCell) (w : World) (h : w.heap[nb]? = some (.cells (hcells L) 105 (0, 0))) (hn : n ≤ L.length) (h0 : 0 < n) (hr : n ≤ 65536) :
    Calls Tryd.prog 69 #[.slice (some ⟨nb, 0, none⟩) n c] w fun e w' => ∃ g c' L', e = .returned (.slice (some ⟨g, 0, none⟩) n c') ∧ w.heap.size ≤ g ∧ w'.heap[g]? = some (.cells (hcells L') 105 (0, 0)) ∧
      n ≤ L'.length ∧ L'.take n = L.take n ∧ Below w.heap.size w w' := by
  obtain ⟨i0, hi, hz0, hz1, hz2⟩ := info_parts infoCell
  have qT : ∀ (w : World) (a : Option Addr) (n c n' c' : Nat), (binOp .eql 95 (.slice a n c) (.slice none n' c')).run Tryd.prog w = .ok (.bool a.isNone) w := fun w a n c n' c' => Lib.run_eql_slice_nil w _ _ a n c n' c' Tryd.underlying95
  have hcs : ∀ (j : Nat) (v : Value), (hvals (L.take n))[j]? = some v → (w.alloc (.cells #[] 105 (0, 0))).cell? ((⟨nb, 0, none⟩ : Addr).add j) = some v := by
    intro j v hj
    have h1 : w.cell? ⟨nb, j, none⟩ = some v := cell_of_block h (by
      show (hvals L).toArray[j]? = _
      rw [List.getElem?_toArray]
      exact take_vals L n j v hj)
    rw [Addr.add_lit, Nat.zero_add]
    exact alloc_cell h1 _
  have hlt : (L.take n).length = n := by rw [List.length_take]; omega
  have happ := run_append_grow (P := Tryd.prog) (w := w.alloc (.cells #[] 105 (0, 0))) 95 95 105 i0 _ Tryd.underlying95 hi hz0 ⟨w.heap.size, 0, none⟩ 0 0 [] (by simp) (fun j v hj => by simp at hj) ⟨nb, 0, none⟩ n c (hvals (L.take n)) (by rw [length_hvals, hz1, hlt]) hcs (by omega) (by omega) (by
    rw [hz2, Nat.zero_add, nextslicecap_zero h0]
    omega)
  rw [Nat.zero_add, zero_cells] at happ
  have hX : (([] : List Value).toArray ++ (hvals (L.take n)).toArray ++ hcells (List.replicate (grownCap (w.alloc (.cells #[] 105 (0, 0))) n 0 105 - n) HCell.zero)) = hcells (L.take n ++ List.replicate (grownCap (w.alloc (.cells #[] 105 (0, 0))) n 0 105 - n) HCell.zero) := by
    unfold hcells
    rw [hvals_append]
    simp
  rw [hX] at happ
  clear hcs
  generalize grownCap (w.alloc (.cells #[] 105 (0, 0))) n 0 105 = cap at *
  have hL' : (L.take n ++ List.replicate (cap - n) HCell.zero).take n = L.take n := by
    rw [List.take_append_of_le_length (by omega), List.take_of_length_le (by omega)]
  have hl' : n ≤ (L.take n ++ List.replicate (cap - n) HCell.zero).length := by rw [List.length_append]; omega
  clear hX
  generalize L.take n ++ List.replicate (cap - n) HCell.zero = L' at *

  go_enter Tryd.func69, Tryd.ntmps69
  have happ' := Lib.hid happ
  clear happ
  go_wp2_with (at_builtin; refine wpList_append_run rfl _ _ 95 95 rfl _ _ _ _ rfl rfl happ'.out ?_)
  go_ret
  have hb1 : Below w.heap.size w (w.alloc (.cells #[] 105 (0, 0))) := (Below.refl _ w).alloc (Nat.le_refl _) _
  exact ⟨_, cap, L', rfl, Nat.le_succ _, heap_alloc_at (w := w.alloc (.cells #[] 105 (0, 0))) (by simp) (.cells (hcells L') 105 (0, 0)), hl', hL', (hb1.alloc hb1.size _).drew⟩

theorem oclone (v : Value) (base n : Nat) (L : List HCell) (w : World) (h : w.ownsRow base 105 8 v n (hvals L)) (hr : n ≤ 1048576) :
    Calls Tryd.prog 69 #[v] w fun e w' => ∃ v', e = .returned v' ∧ w'.ownsRow w.heap.size 105 8 v' n (hvals L) ∧ Below w.heap.size w w' := by
  obtain ⟨i0, hi, hz0, hz1, hz2⟩ := info_parts infoCell
  have qT : ∀ (w : World) (a : Option Addr) (n c n' c' : Nat), (binOp .eql 95 (.slice a n c) (.slice none n' c')).run Tryd.prog w = .ok (.bool a.isNone) w := fun w a n c n' c' => Lib.run_eql_slice_nil w _ _ a n c n' c' Tryd.underlying95
  have hlen := h.1
  rcases h.2 with ⟨h1, h2⟩ | ⟨g, cap, cur, h1, hbg, hb, hnc, hcm, hcs, htake⟩
  · subst h1
    subst h2
    have hL : hvals L = [] := List.length_eq_zero_iff.1 (by omega)
    rw [hL]
    clear h hL
    go_enter Tryd.func69, Tryd.ntmps69
    go_wp2
    go_ret
    exact ⟨_, rfl, World.ownsRow_nil _ _ _ _, Below.refl _ _⟩
  · subst h1
    have hA : Aside (∀ (j : Nat) (u : Value), (hvals L)[j]? = some u → w.cell? ((⟨g, 0, none⟩ : Addr).add j) = some u) := fun j u hj => by
      have hj2 := (List.getElem?_eq_some_iff.1 hj).1
      rw [Addr.add_lit, Nat.zero_add, h.cellAt j (by omega)]
      exact hj
    clear h hb htake
    go_enter Tryd.func69, Tryd.ntmps69
    go_wp2_with (at_builtin; refine wpList_append_own _ rfl _ _ 95 rfl w.heap.size 105 i0 (.agg #[.int .i64 0, .int .i64 0, .int .i64 0, .int .i64 0, .int .i64 0, .int .i64 0, .string ByteArray.empty, .int .i64 0]) 8 72 Tryd.underlying95 hi hz0 hz1 hz2 rfl (by decide) _ _ _ rfl (World.ownsRow_made w #[] 0 (Nat.le_refl _) (Nat.zero_le _) rfl) ⟨g, 0, none⟩ n cap (hvals L) rfl ?qc1 ?qc2 ?qc3 ?qc4 ?qc5 ?qc6 ?_)
    case qc1 => exact hlen
    case qc2 =>
      intro j u hj
      exact Lib.cell?_alloc_some _ (hA.out j u hj)
    case qc3 =>
      intro u hu
      obtain ⟨x, _, hx⟩ := List.mem_flatMap.1 hu
      simp only [HCell.vals, List.mem_cons, List.not_mem_nil, or_false] at hx
      rcases hx with rfl | rfl | rfl | rfl | rfl | rfl | rfl | rfl <;> rfl
    case qc4 => unfold maxLen; omega
    case qc5 => omega
    case qc6 => simp
    intro v' w1 hown hgrow hnil
    go_wp2
    go_ret
    have hown' : w1.ownsRow w.heap.size 105 8 v' n (hvals L) := by simpa using hown
    refine ⟨v', rfl, hown', ?_⟩
    exact ((Below.refl _ w).alloc (Nat.le_refl _) _).grown hgrow (by simp) (by intro k hk; simp [Value.ownBlock] at hk; omega)

theorem iclone (v : Value) (base n : Nat) (L : List Int) (w : World) (h : w.ownsRow base 3 1 v n (L.map (Value.int .i64))) (hr : n ≤ 17592186044416) :
    Calls Tryd.prog 45 #[v] w fun e w' => ∃ v', e = .returned v' ∧ w'.ownsRow w.heap.size 3 1 v' n (L.map (Value.int .i64)) ∧ Below w.heap.size w w' := by
  obtain ⟨i0, hi, hz0, hz1, hz2⟩ := info_parts infoInt
  have qT : ∀ (w : World) (a : Option Addr) (n c n' c' : Nat), (binOp .eql 52 (.slice a n c) (.slice none n' c')).run Tryd.prog w = .ok (.bool a.isNone) w := fun w a n c n' c' => Lib.run_eql_slice_nil w _ _ a n c n' c' Tryd.underlying52
  have hlen := h.1
  rcases h.2 with ⟨h1, h2⟩ | ⟨g, cap, cur, h1, hbg, hb, hnc, hcm, hcs, htake⟩
  · subst h1
    subst h2
    have hL : L.map (Value.int .i64) = [] := List.length_eq_zero_iff.1 (by omega)
    rw [hL]
    clear h hL
    go_enter Tryd.func45, Tryd.ntmps45
    go_wp2
    go_ret
    exact ⟨_, rfl, World.ownsRow_nil _ _ _ _, Below.refl _ _⟩
  · subst h1
    have hA : Aside (∀ (j : Nat) (u : Value), (L.map (Value.int .i64))[j]? = some u → w.cell? ((⟨g, 0, none⟩ : Addr).add j) = some u) := fun j u hj => by
      have hj2 := (List.getElem?_eq_some_iff.1 hj).1
      rw [Addr.add_lit, Nat.zero_add, h.cellAt j (by omega)]
      exact hj
    clear h hb htake
    go_enter Tryd.func45, Tryd.ntmps45
    go_wp2_with (at_builtin; refine wpList_append_own _ rfl _ _ 52 rfl w.heap.size 3 i0 (.int .i64 0) 1 8 Tryd.underlying52 hi hz0 hz1 hz2 rfl (by decide) _ _ _ rfl (World.ownsRow_made w #[] 0 (Nat.le_refl _) (Nat.zero_le _) rfl) ⟨g, 0, none⟩ n cap (L.map (Value.int .i64)) rfl ?qc1 ?qc2 ?qc3 ?qc4 ?qc5 ?qc6 ?_)
    case qc1 => exact hlen
    case qc2 =>
      intro j u hj
      exact Lib.cell?_alloc_some _ (hA.out j u hj)
    case qc3 => intro u hu; obtain ⟨x, _, rfl⟩ := List.mem_map.1 hu; rfl
    case qc4 => unfold maxLen; omega
    case qc5 => omega
    case qc6 => simp
    intro v' w1 hown hgrow hnil
    go_wp2
    go_ret
    have hown' : w1.ownsRow w.heap.size 3 1 v' n (L.map (Value.int .i64)) := by simpa using hown
    refine ⟨v', rfl, hown', ?_⟩
    exact ((Below.refl _ w).alloc (Nat.le_refl _) _).grown hgrow (by simp) (by intro k hk; simp [Value.ownBlock] at hk; omega)
end Go.Proofs.YthbkklnahhdgcaaDoor.PlB
