/-
  Package heap's Alloc over a heap as plain data: the walk where there is room.
-/
import Derived.Test.YthbkklnahhdgcaaDoorHeapF
import Derived.Deep.DeepCutAuto
import Derived.Deep.CutBlock
namespace Go.Proofs.YthbkklnahhdgcaaDoor.HeapG
open Go Go.RowKit Go.Maps Go.Proofs.YthbkklnahhdgcaaDoor.Lib Go.Proofs.YthbkklnahhdgcaaDoor.HeapR Go.Proofs.YthbkklnahhdgcaaDoor.HeapC Go.Proofs.YthbkklnahhdgcaaDoor.HeapF

variable {w : World} {hb nb mb : Nat} {ov rv : Value} {B : Nat} {H : HS}

end Go.Proofs.YthbkklnahhdgcaaDoor.HeapG
namespace Go.Proofs.YthbkklnahhdgcaaDoor.HeapR
open Go Go.RowKit Go.Maps Go.Proofs.YthbkklnahhdgcaaDoor.Lib Go.Proofs.YthbkklnahhdgcaaDoor.HeapR Go.Proofs.YthbkklnahhdgcaaDoor.HeapC Go.Proofs.YthbkklnahhdgcaaDoor.HeapF

open Go.Proofs.YthbkklnahhdgcaaDoor.HeapG
variable {w : World} {hb nb mb : Nat} {ov rv : Value} {B : Nat} {H : HS}

/-- The heap behind Alloc. -/
def HS.alloc (H : HS) (kind tag : Int) (s : Nat) : HS :=
  { H with
    nur := zeros (H.nur.set H.top ⟨kind, tag, if kind = 4 then 0 else H.next + 1, s, 0, 0, ⟨#[]⟩, 0⟩) (H.top + 1) s
    top := H.top + 1 + s
    next := if kind = 4 then H.next else H.next + 1
    wh := if kind = 4 then H.wh else H.wh.put (.int .i64 ((H.next : Int) + 1)) (.lit (.int .i64 H.top)) }

end Go.Proofs.YthbkklnahhdgcaaDoor.HeapR
namespace Go.Proofs.YthbkklnahhdgcaaDoor.HeapG
open Go Go.RowKit Go.Maps Go.Proofs.YthbkklnahhdgcaaDoor.Lib Go.Proofs.YthbkklnahhdgcaaDoor.HeapR Go.Proofs.YthbkklnahhdgcaaDoor.HeapC Go.Proofs.YthbkklnahhdgcaaDoor.HeapF

variable {w : World} {hb nb mb : Nat} {ov rv : Value} {B : Nat} {H : HS}

set_option maxRecDepth 100000 in
set_option maxHeartbeats 2000000 in
theorem alloc_id (h : HR w hb nb mb ov rv B H) (kind tag : Int) (s : Nat) (h1 : 1 ≤ kind) (h2 : kind ≤ 4) (h4 : s ≤ 1000) (hf : H.top + 1 + s ≤ H.room) (hk : kind ≠ 4) (hx : (H.next : Int) < 4611686018427387904) :
    Calls Tryd.prog 13 #[.pointer (some ⟨hb, 0, none⟩), .int .i64 kind, .int .i64 tag, .int .i64 (s : Int)] w fun e w' => e = .returned (.tuple #[.int .i64 H.top, .nilIface]) ∧
      HR w' hb nb mb ov rv B (H.alloc kind tag s) ∧ Turned (fun k => k = hb ∨ k = nb ∨ k = mb) w w' := by
  have hr := h.rr
  have hlen := h.len
  have c0 := h.c0
  have c2 := h.c2
  have c3 := h.c3
  have c6 := h.c6
  have c7 := h.c7
  have f2 := h.fz 2
  have f7 := h.fz 7
  have hn := h.hn
  have hm := h.hm
  have nm := h.nm
  have hown := h.map
  have hblk := h.blk
  have hnur := h.nur
  obtain ⟨nur, old, top, room, most, rem, wh, next, minors, majors⟩ := H
  simp only at *
  have g1 : decide (kind < 1) = false := by simpa using h1
  have g2 : decide (4 < kind) = false := by simpa using h2
  have g3 : decide ((s : Int) < 0) = false := by simp
  have g4 : decide (1000 < (s : Int)) = false := by simp; omega
  have g5 : decide ((room : Int) < top + 1 + s) = false := by simp; omega
  have hf' : (top : Int) + 1 + s ≤ room := by omega
  have g6 : (kind != 4) = true := by simpa using hk
  skip
  go_enter Tryd.func13, Tryd.ntmps13
  go_wp2_with fail
  go_quiet (fail)
  go_wp2_with (at_mapUpdate; refine wpList_mapUpdate_own _ rfl _ _ _ 96 rfl 3 3 (int_keyed Tryd.underlying3) Tryd.underlying96 _ mb next wh rfl (ownsMap_same hown ?q1) ?q2 _ _ (.int .i64 ((next : Int) + 1)) rfl rfl (keyOf_int_mk Tryd.underlying3 ?q3) _ [] (plainElem_int Tryd.underlying3 ?q4) ?q5)
  case q1 => rw [blk_ne (by simpa using hm.symm), blk_ne (by simpa using hm.symm)]; rfl
  case q2 => unfold maxLen; omega
  case q3 => exact WalkArith.wf_i64 (by omega)
  case q4 => exact WalkArith.wf_i64 (by omega)
  case q5 =>
  intro w2 hown2 hgrow2
  have hW : (((w.drewN nq).setCell ⟨hb, 2, none⟩ (.int .i64 ((top : Int) + (1 + (s : Int))))).setCell ⟨hb, 7, none⟩ (.int .i64 ((next : Int) + 1))).heap[hb]? = some (.cells (hblock nb mb ov rv { nur := nur, old := old, top := top + 1 + s, room := room, most := most, rem := rem, wh := wh, next := next + 1, minors := minors, majors := majors }) 98 (0, 0)) := by
    rw [blk_set (blk_set (show (w.drewN nq).heap[hb]? = _ from hblk) _) _]
    simp [hblock]
    omega
  have hN : (((w.drewN nq).setCell ⟨hb, 2, none⟩ (.int .i64 ((top : Int) + (1 + (s : Int))))).setCell ⟨hb, 7, none⟩ (.int .i64 ((next : Int) + 1))).heap[nb]? = some (.cells (hcells nur) 105 (0, 0)) := by
    rw [blk_ne (by simpa using hn.symm), blk_ne (by simpa using hn.symm)]
    exact hnur
  have hT : Turned (fun k => k = hb ∨ k = nb ∨ k = mb) w w2 := by
    refine Turned.grown ?_ hgrow2 (fun k hk => .inl (.inr (.inr (Option.some.inj hk).symm)))
    exact (((Turned.refl _ w).drewN nq).setCell (.inl (.inl rfl)) _).setCell (.inl (.inl rfl)) _
  have hH2 := grown_some hgrow2 (by simpa using hm) hW
  have hN2 := grown_some hgrow2 (by simpa using nm) hN
  clear hW hN hgrow2 hnur hblk hown c0 c2 c3 c6 c7 f2 f7
  have C0 : w2.cell? ⟨hb, 0, none⟩ = some (.slice (some ⟨nb, 0, none⟩) room room) := cell_of_block hH2 rfl
  obtain ⟨v0, v1, v2, v3, v4, v5, v6, v7, k0, k1, k2, k3, k4, k5, k6, k7⟩ := cells8 hN2 top (by omega)
  have F : ∀ i, w2.frozen? ⟨nb, i, none⟩ = false := fun i => frozen_of_block hN2
  have htr : (top : Int) < (room : Int) := by omega
  go_wp2_with fail
  clear k0 k1 k2 k3 k4 k5 k6 k7 C0
  go_loopw [88] (fun i wr => ∃ k : Nat, k ≤ s ∧ i = .int .i64 k ∧ wr.heap[nb]? = some (.cells (hcells (zeros (nur.set top ⟨kind, tag, (next : Int) + 1, s, 0, 0, ⟨#[]⟩, 0⟩) (top + 1) k)) 105 (0, 0)) ∧ Only nb w2 wr) (fun i _ => s - (intOf i).toNat)
  case atStart => exact ⟨0, Nat.zero_le _, rfl, store8 hN2 (by omega) ⟨kind, tag, (next : Int) + 1, s, 0, 0, ⟨#[]⟩, 0⟩, only8 _ _ _ _ _ _ _ _⟩
  case round =>
    obtain ⟨k, hk', rfl, hNr, hOr⟩ := hrel
    have C0r : wr.cell? ⟨hb, 0, none⟩ = some (.slice (some ⟨nb, 0, none⟩) room room) := by
      rw [World.cell?_of_block (w := w2) (hOr.block hb hn)]; exact cell_of_block hH2 rfl
    by_cases hlt : k < s
    · obtain ⟨v0, v1, v2, v3, v4, v5, v6, v7, k0, k1, k2, k3, k4, k5, k6, k7⟩ := cells8 hNr (top + 1 + k) (by rw [length_zeros, List.length_set]; omega)
      have Fr : ∀ i, wr.frozen? ⟨nb, i, none⟩ = false := fun i => frozen_of_block hNr
      have hin : (top : Int) + 1 + k < (room : Int) := by omega
      go_wp2
      go_roundw
      case rel => exact ⟨k + 1, by omega, by go_num, store8 hNr (by rw [length_zeros, List.length_set]; omega) ⟨0, 0, 0, 0, 0, 0, ⟨#[]⟩, 0⟩, hOr.trans (only8 _ _ _ _ _ _ _ _)⟩
      case measure => simp [intOf]; omega
    · go_wp2
      go_ret2
      obtain rfl : k = s := by omega
      refine ⟨rfl, ?_, ?_⟩
      · have e : HS.alloc { nur := nur, old := old, top := top, room := room, most := most, rem := rem, wh := wh, next := next, minors := minors, majors := majors } kind tag k = { nur := zeros (nur.set top ⟨kind, tag, (next : Int) + 1, k, 0, 0, ⟨#[]⟩, 0⟩) (top + 1) k, old := old, top := top + 1 + k, room := room, most := most, rem := rem, wh := wh.put (.int .i64 ((next : Int) + 1)) (.lit (.int .i64 top)), next := next + 1, minors := minors, majors := majors } := by
          simp only [HS.alloc, if_neg hk]
        rw [e]
        have hsame : ∀ j, (ov.ownBlock = some j ∨ rv.ownBlock = some j) → wr.heap[j]? = w.heap[j]? := fun j hj => by
          have hjb : j ≠ hb := by rintro rfl; rcases hj with hj | hj; exact h.oh hj; exact h.rh hj
          have hjn : j ≠ nb := by rintro rfl; rcases hj with hj | hj; exact h.on hj; exact h.rn hj
          have hjm : j ≠ mb := by rintro rfl; rcases hj with hj | hj; exact h.om' hj; exact h.rm hj
          have hjl : j < w.heap.size := by rcases hj with hj | hj; exact (h.old.lt j hj).2; exact (h.rem.lt j hj).2
          exact (hOr.block j hjn).trans (hT.block j hjl (by rintro (h1 | h1 | h1); exact hjb h1; exact hjn h1; exact hjm h1))
        exact {
          blk := (hOr.block hb hn).trans hH2
          nur := hNr
          len := by simp only [length_zeros, List.length_set]; exact hlen
          old := ownsRow_same h.old fun j hj => hsame j (.inl hj)
          rem := ownsRow_same h.rem fun j hj => hsame j (.inr hj)
          map := ownsMap_same hown2 (hOr.block mb nm.symm)
          hn := hn
          oh := h.oh
          on := h.on
          rh := h.rh
          rn := h.rn
          ro := h.ro
          lo := h.lo
          tr := hf
          rr := h.rr
          mm := h.mm
          om := h.om }
      · exact hT.trans ⟨hOr.os, hOr.tape, hOr.output, by rw [hOr.size]; exact Nat.le_refl _, fun j _ hj => hOr.block j (fun e => hj (.inr (.inl e)))⟩

set_option maxRecDepth 100000 in
set_option maxHeartbeats 2000000 in
theorem alloc_box (h : HR w hb nb mb ov rv B H) (kind tag : Int) (s : Nat) (h1 : 1 ≤ kind) (h2 : kind ≤ 4) (h4 : s ≤ 1000) (hf : H.top + 1 + s ≤ H.room) (hk : kind = 4) (hx : (H.next : Int) < 4611686018427387904) :
    Calls Tryd.prog 13 #[.pointer (some ⟨hb, 0, none⟩), .int .i64 kind, .int .i64 tag, .int .i64 (s : Int)] w fun e w' => e = .returned (.tuple #[.int .i64 H.top, .nilIface]) ∧
      HR w' hb nb mb ov rv B (H.alloc kind tag s) ∧ Turned (fun k => k = hb ∨ k = nb ∨ k = mb) w w' := by
  subst hk
  have hr := h.rr
  have hlen := h.len
  have c0 := h.c0
  have c2 := h.c2
  have c3 := h.c3
  have c6 := h.c6
  have c7 := h.c7
  have f2 := h.fz 2
  have f7 := h.fz 7
  have hn := h.hn
  have hm := h.hm
  have nm := h.nm
  have hown := h.map
  have hblk := h.blk
  have hnur := h.nur
  obtain ⟨nur, old, top, room, most, rem, wh, next, minors, majors⟩ := H
  simp only at *
  have g3 : decide ((s : Int) < 0) = false := by simp
  have g4 : decide (1000 < (s : Int)) = false := by simp; omega
  have g5 : decide ((room : Int) < top + 1 + s) = false := by simp; omega
  have hf' : (top : Int) + 1 + s ≤ room := by omega
  skip
  go_enter Tryd.func13, Tryd.ntmps13
  go_wp2_with fail
  go_quiet (fail)
  obtain ⟨w2, hw2⟩ : ∃ w2 : World, w2 = ((w.drewN nq).setCell ⟨hb, 2, none⟩ (.int .i64 ((top : Int) + (1 + (s : Int))))) := ⟨_, rfl⟩
  have hH2 : w2.heap[hb]? = some (.cells (hblock nb mb ov rv { nur := nur, old := old, top := top + 1 + s, room := room, most := most, rem := rem, wh := wh, next := next, minors := minors, majors := majors }) 98 (0, 0)) := by
    rw [hw2, blk_set (show (w.drewN nq).heap[hb]? = _ from hblk) _]
    simp [hblock]
    omega
  have hN2 : w2.heap[nb]? = some (.cells (hcells nur) 105 (0, 0)) := by
    rw [hw2, blk_ne (by simpa using hn.symm)]
    exact hnur
  have hown2 : w2.ownsMap Tryd.prog 3 (plainElem Tryd.prog 3) mb next wh := ownsMap_same hown (by rw [hw2, blk_ne (by simpa using hm.symm)]; rfl)
  have hT : Turned (fun k => k = hb ∨ k = nb ∨ k = mb) w w2 := by
    rw [hw2]
    exact ((Turned.refl _ w).drewN nq).setCell (.inl (.inl rfl)) _
  go_upto_region 12 with (fail)
  rw [← hw2]
  clear hw2 hnur hblk hown c0 c2 c3 c6 c7 f2 f7
  have C0 : w2.cell? ⟨hb, 0, none⟩ = some (.slice (some ⟨nb, 0, none⟩) room room) := cell_of_block hH2 rfl
  obtain ⟨v0, v1, v2, v3, v4, v5, v6, v7, k0, k1, k2, k3, k4, k5, k6, k7⟩ := cells8 hN2 top (by omega)
  have F : ∀ i, w2.frozen? ⟨nb, i, none⟩ = false := fun i => frozen_of_block hN2
  have htr : (top : Int) < (room : Int) := by omega
  go_wp2_with fail
  clear k0 k1 k2 k3 k4 k5 k6 k7 C0
  go_loopw [88] (fun i wr => ∃ k : Nat, k ≤ s ∧ i = .int .i64 k ∧ wr.heap[nb]? = some (.cells (hcells (zeros (nur.set top ⟨4, tag, 0, s, 0, 0, ⟨#[]⟩, 0⟩) (top + 1) k)) 105 (0, 0)) ∧ Only nb w2 wr) (fun i _ => s - (intOf i).toNat)
  case atStart => exact ⟨0, Nat.zero_le _, rfl, store8 hN2 (by omega) ⟨4, tag, 0, s, 0, 0, ⟨#[]⟩, 0⟩, only8 _ _ _ _ _ _ _ _⟩
  case round =>
    obtain ⟨k, hk', rfl, hNr, hOr⟩ := hrel
    have C0r : wr.cell? ⟨hb, 0, none⟩ = some (.slice (some ⟨nb, 0, none⟩) room room) := by
      rw [World.cell?_of_block (w := w2) (hOr.block hb hn)]; exact cell_of_block hH2 rfl
    by_cases hlt : k < s
    · obtain ⟨v0, v1, v2, v3, v4, v5, v6, v7, k0, k1, k2, k3, k4, k5, k6, k7⟩ := cells8 hNr (top + 1 + k) (by rw [length_zeros, List.length_set]; omega)
      have Fr : ∀ i, wr.frozen? ⟨nb, i, none⟩ = false := fun i => frozen_of_block hNr
      have hin : (top : Int) + 1 + k < (room : Int) := by omega
      go_wp2
      go_roundw
      case rel => exact ⟨k + 1, by omega, by go_num, store8 hNr (by rw [length_zeros, List.length_set]; omega) ⟨0, 0, 0, 0, 0, 0, ⟨#[]⟩, 0⟩, hOr.trans (only8 _ _ _ _ _ _ _ _)⟩
      case measure => simp [intOf]; omega
    · go_wp2
      go_ret2
      obtain rfl : k = s := by omega
      refine ⟨rfl, ?_, ?_⟩
      · have e : HS.alloc { nur := nur, old := old, top := top, room := room, most := most, rem := rem, wh := wh, next := next, minors := minors, majors := majors } 4 tag k = { nur := zeros (nur.set top ⟨4, tag, 0, k, 0, 0, ⟨#[]⟩, 0⟩) (top + 1) k, old := old, top := top + 1 + k, room := room, most := most, rem := rem, wh := wh, next := next, minors := minors, majors := majors } := by
          rfl
        rw [e]
        have hsame : ∀ j, (ov.ownBlock = some j ∨ rv.ownBlock = some j) → wr.heap[j]? = w.heap[j]? := fun j hj => by
          have hjb : j ≠ hb := by rintro rfl; rcases hj with hj | hj; exact h.oh hj; exact h.rh hj
          have hjn : j ≠ nb := by rintro rfl; rcases hj with hj | hj; exact h.on hj; exact h.rn hj
          have hjm : j ≠ mb := by rintro rfl; rcases hj with hj | hj; exact h.om' hj; exact h.rm hj
          have hjl : j < w.heap.size := by rcases hj with hj | hj; exact (h.old.lt j hj).2; exact (h.rem.lt j hj).2
          exact (hOr.block j hjn).trans (hT.block j hjl (by rintro (h1 | h1 | h1); exact hjb h1; exact hjn h1; exact hjm h1))
        exact {
          blk := (hOr.block hb hn).trans hH2
          nur := hNr
          len := by simp only [length_zeros, List.length_set]; exact hlen
          old := ownsRow_same h.old fun j hj => hsame j (.inl hj)
          rem := ownsRow_same h.rem fun j hj => hsame j (.inr hj)
          map := ownsMap_same hown2 (hOr.block mb nm.symm)
          hn := hn
          oh := h.oh
          on := h.on
          rh := h.rh
          rn := h.rn
          ro := h.ro
          lo := h.lo
          tr := hf
          rr := h.rr
          mm := h.mm
          om := h.om }
      · exact hT.trans ⟨hOr.os, hOr.tape, hOr.output, by rw [hOr.size]; exact Nat.le_refl _, fun j _ hj => hOr.block j (fun e => hj (.inr (.inl e)))⟩
end Go.Proofs.YthbkklnahhdgcaaDoor.HeapG
