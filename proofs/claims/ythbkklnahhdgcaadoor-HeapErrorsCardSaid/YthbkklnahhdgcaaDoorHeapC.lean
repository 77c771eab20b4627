/-
  Package heap's head, at, headOf, Kind, Tag, Id, Size, Get over a heap as plain data.
-/
import Derived.Test.YthbkklnahhdgcaaDoorHeapR
import Derived.Test.YthbkklnahhdgcaaDoorHeapA
import Derived.Laws.ResultCell
namespace Go.Proofs.YthbkklnahhdgcaaDoor.HeapC
open Go Go.RowKit Go.Proofs.YthbkklnahhdgcaaDoor.Lib Go.Proofs.YthbkklnahhdgcaaDoor.HeapR

end Go.Proofs.YthbkklnahhdgcaaDoor.HeapC
namespace Go.Proofs.YthbkklnahhdgcaaDoor.HeapR
open Go Go.RowKit Go.Proofs.YthbkklnahhdgcaaDoor.Lib Go.Proofs.YthbkklnahhdgcaaDoor.HeapR

open Go.Proofs.YthbkklnahhdgcaaDoor.HeapC
/-- The cell at an address, whatever it is. -/
def HS.raw (H : HS) (a : Int) : Option HCell :=
  if a < 0 then none else if a < H.room then (if a < H.top then H.nur[a.toNat]? else none) else H.old[(a - H.room).toNat]?
end Go.Proofs.YthbkklnahhdgcaaDoor.HeapR
namespace Go.Proofs.YthbkklnahhdgcaaDoor.HeapC
open Go Go.RowKit Go.Proofs.YthbkklnahhdgcaaDoor.Lib Go.Proofs.YthbkklnahhdgcaaDoor.HeapR

end Go.Proofs.YthbkklnahhdgcaaDoor.HeapC
namespace Go.Proofs.YthbkklnahhdgcaaDoor.HeapR
open Go Go.RowKit Go.Proofs.YthbkklnahhdgcaaDoor.Lib Go.Proofs.YthbkklnahhdgcaaDoor.HeapR

open Go.Proofs.YthbkklnahhdgcaaDoor.HeapC
/-- The head of the object at an address. -/
def HS.head (H : HS) (a : Int) : Option HCell :=
  match H.raw a with
  | some c => if c.kind = 0 then none else some c
  | none => none
end Go.Proofs.YthbkklnahhdgcaaDoor.HeapR
namespace Go.Proofs.YthbkklnahhdgcaaDoor.HeapC
open Go Go.RowKit Go.Proofs.YthbkklnahhdgcaaDoor.Lib Go.Proofs.YthbkklnahhdgcaaDoor.HeapR

end Go.Proofs.YthbkklnahhdgcaaDoor.HeapC
namespace Go.Proofs.YthbkklnahhdgcaaDoor.HeapR
open Go Go.RowKit Go.Proofs.YthbkklnahhdgcaaDoor.Lib Go.Proofs.YthbkklnahhdgcaaDoor.HeapR

open Go.Proofs.YthbkklnahhdgcaaDoor.HeapC
/-- Where a cell lies. -/
def HS.pb (H : HS) (nb : Nat) (ov : Value) (a : Int) : Nat := if a < H.room then nb else ov.ownBlock.getD 0
end Go.Proofs.YthbkklnahhdgcaaDoor.HeapR
namespace Go.Proofs.YthbkklnahhdgcaaDoor.HeapC
open Go Go.RowKit Go.Proofs.YthbkklnahhdgcaaDoor.Lib Go.Proofs.YthbkklnahhdgcaaDoor.HeapR

end Go.Proofs.YthbkklnahhdgcaaDoor.HeapC
namespace Go.Proofs.YthbkklnahhdgcaaDoor.HeapR
open Go Go.RowKit Go.Proofs.YthbkklnahhdgcaaDoor.Lib Go.Proofs.YthbkklnahhdgcaaDoor.HeapR

open Go.Proofs.YthbkklnahhdgcaaDoor.HeapC
def HS.po (H : HS) (a : Int) : Nat := if a < H.room then a.toNat * 8 else (a - H.room).toNat * 8

end Go.Proofs.YthbkklnahhdgcaaDoor.HeapR
namespace Go.Proofs.YthbkklnahhdgcaaDoor.HeapC
open Go Go.RowKit Go.Proofs.YthbkklnahhdgcaaDoor.Lib Go.Proofs.YthbkklnahhdgcaaDoor.HeapR

variable {w : World} {hb nb mb : Nat} {ov rv : Value} {B : Nat} {H : HS}

theorem old_form (h : HR w hb nb mb ov rv B H) (k : Nat) (c : HCell) (hk : H.old[k]? = some c) :
    ∃ g cap, ov = .slice (some ⟨g, 0, none⟩) H.old.length cap ∧ ov.ownBlock = some g ∧ ∀ j, j < 8 → w.cell? ⟨g, k * 8 + j, none⟩ = c.vals[j]? ∧ w.frozen? ⟨g, k * 8 + j, none⟩ = false := by
  have hlt : k < H.old.length := (List.getElem?_eq_some_iff.1 hk).1
  rcases h.old.2 with ⟨_, h2⟩ | ⟨g, cap, cur, h1, _, h3, hle, _, hs, ht⟩
  · omega
  · refine ⟨g, cap, h1, by rw [h1]; rfl, fun j hj => ?_⟩
    have e := hvals_get H.old k j c hk hj
    have hjl : k * 8 + j < H.old.length * 8 := by omega
    have e2 : cur[k * 8 + j]? = c.vals[j]? := by
      rw [← e, ← ht, List.getElem?_take_of_lt hjl, Array.getElem?_toList]
    refine ⟨?_, by simp [World.frozen?, h3]⟩
    rw [World.cell?, h3]
    simpa using e2

theorem old_slice (h : HR w hb nb mb ov rv B H) : ∃ oa n c, ov = .slice oa n c ∧ n = H.old.length := by
  rcases h.old.2 with ⟨h1, h2⟩ | ⟨g, cap, cur, h1, _⟩
  · exact ⟨_, _, _, h1, h2.symm⟩
  · exact ⟨_, _, _, h1, rfl⟩

theorem raw_cell (h : HR w hb nb mb ov rv B H) (a : Int) (c : HCell) (hr : H.raw a = some c) (j : Nat) (hj : j < 8) :
    w.cell? ⟨H.pb nb ov a, H.po a + j, none⟩ = c.vals[j]? ∧ w.frozen? ⟨H.pb nb ov a, H.po a + j, none⟩ = false := by
  unfold HS.raw at hr
  by_cases h0 : a < 0
  · simp [h0] at hr
  by_cases h1 : a < H.room
  · by_cases h2 : a < H.top
    · simp only [h0, h1, h2, if_true, if_false] at hr
      simp only [HS.pb, HS.po, h1, if_true]
      exact ⟨h.ncell _ _ _ hr hj, h.fn _⟩
    · simp [h0, h1, h2] at hr
  · simp only [h0, h1, if_false] at hr
    obtain ⟨g, cap, e1, e2, e3⟩ := old_form h _ _ hr
    simp only [HS.pb, HS.po, h1, if_false, e2, Option.getD_some]
    exact e3 j hj

/-- The eight parts of a cell that is there. -/
theorem raw_cells (h : HR w hb nb mb ov rv B H) (a : Int) (c : HCell) (hr : H.raw a = some c) :
    w.cell? ⟨H.pb nb ov a, H.po a, none⟩ = some (.int .i64 c.kind) ∧ w.cell? ⟨H.pb nb ov a, H.po a + 1, none⟩ = some (.int .i64 c.tag) ∧ w.cell? ⟨H.pb nb ov a, H.po a + 2, none⟩ = some (.int .i64 c.id) ∧ w.cell? ⟨H.pb nb ov a, H.po a + 3, none⟩ = some (.int .i64 c.size) ∧
    w.cell? ⟨H.pb nb ov a, H.po a + 4, none⟩ = some (.int .i64 c.vk) ∧ w.cell? ⟨H.pb nb ov a, H.po a + 5, none⟩ = some (.int .i64 c.vn) ∧ w.cell? ⟨H.pb nb ov a, H.po a + 6, none⟩ = some (.string c.vs) ∧ w.cell? ⟨H.pb nb ov a, H.po a + 7, none⟩ = some (.int .i64 c.moved) :=
  ⟨(raw_cell h a c hr 0 (by omega)).1, (raw_cell h a c hr 1 (by omega)).1, (raw_cell h a c hr 2 (by omega)).1, (raw_cell h a c hr 3 (by omega)).1, (raw_cell h a c hr 4 (by omega)).1, (raw_cell h a c hr 5 (by omega)).1, (raw_cell h a c hr 6 (by omega)).1, (raw_cell h a c hr 7 (by omega)).1⟩

/-- head at a cell that is there. -/
theorem head_at (h : HR w hb nb mb ov rv B H) (a : Int) (ha : a ≤ 9223372036854775807) (c : HCell) (hr : H.raw a = some c) :
    Calls Tryd.prog 35 #[.pointer (some ⟨hb, 0, none⟩), .int .i64 a] w fun e w' => e = .returned (.tuple #[.pointer (some ⟨H.pb nb ov a, H.po a, none⟩), .bool (c.kind != 0)]) ∧ ∃ n, w' = w.drewN n := by
  have hc := (raw_cell h a c hr 0 (by omega)).1
  unfold HS.raw at hr
  by_cases h0 : a < 0
  · simp [h0] at hr
  obtain ⟨m, rfl⟩ := Int.eq_ofNat_of_zero_le (Int.not_lt.1 h0)
  by_cases h1 : (m : Int) < H.room
  · by_cases h2 : (m : Int) < H.top
    · have e : H.pb nb ov (m : Int) = nb := by simp [HS.pb, h1]
      have e' : H.po (m : Int) = m * 8 := by simp [HS.po, h1]
      rw [Nat.add_zero, e, e'] at hc; rw [e, e']
      exact HeapA.head_lo hb m nb H.room H.room H.room H.top c.kind w h.c0 h.c2 h.c3 hc h1 h1 h2
    · simp [h0, h1, h2] at hr
  · simp only [h0, h1, if_false] at hr
    obtain ⟨g, cap, e1, e2, e3⟩ := old_form h _ _ hr
    have hlt : ((m : Int) - H.room).toNat < H.old.length := (List.getElem?_eq_some_iff.1 hr).1
    have e : H.pb nb ov (m : Int) = g := by simp [HS.pb, h1, e2]
    have e' : H.po (m : Int) = ((m : Int) - H.room).toNat * 8 := by simp [HS.po, h1]
    rw [Nat.add_zero, e, e'] at hc; rw [e, e']
    exact HeapA.head_hi hb g H.old.length cap m H.room c.kind w (by rw [h.c1, e1]) h.c3 hc (by omega) (by omega) ha (by omega)

/-- head where no cell is. -/
theorem head_out (h : HR w hb nb mb ov rv B H) (a : Int) (ha : a ≤ 9223372036854775807) (hr : H.raw a = none) :
    Calls Tryd.prog 35 #[.pointer (some ⟨hb, 0, none⟩), .int .i64 a] w fun e w' => e = .returned (.tuple #[.pointer none, .bool false]) ∧ ∃ n, w' = w.drewN n := by
  unfold HS.raw at hr
  by_cases h0 : a < 0
  · exact HeapA.head_neg hb a w h0
  by_cases h1 : a < H.room
  · by_cases h2 : a < H.top
    · simp only [h0, h1, h2, if_true, if_false] at hr
      have := List.getElem?_eq_none_iff.1 hr
      have := h.tr
      have := h.len
      omega
    · exact HeapA.head_out_lo hb a H.room H.top w h.c2 h.c3 (by omega) h1 (by omega)
  · simp only [h0, h1, if_false] at hr
    have := List.getElem?_eq_none_iff.1 hr
    obtain ⟨oa, n, c, e, rfl⟩ := old_slice h
    exact HeapA.head_out_hi hb a H.room oa H.old.length c w (by rw [h.c1, e]) h.c3 (by omega) ha (by omega) (by omega) (by omega)

theorem head_no (h : HR w hb nb mb ov rv B H) (a : Int) (ha : a ≤ 9223372036854775807) (hd : H.head a = none) :
    Calls Tryd.prog 35 #[.pointer (some ⟨hb, 0, none⟩), .int .i64 a] w fun e w' => (∃ p, e = .returned (.tuple #[.pointer p, .bool false])) ∧ ∃ n, w' = w.drewN n := by
  cases hr : H.raw a with
  | none => exact (head_out h a ha hr).mono fun e w' ⟨h1, h2⟩ => ⟨⟨_, h1⟩, h2⟩
  | some c =>
    have hk : c.kind = 0 := by
      unfold HS.head at hd
      rw [hr] at hd
      simpa using hd
    refine (head_at h a ha c hr).mono fun e w' ⟨h1, h2⟩ => ⟨⟨some ⟨H.pb nb ov a, H.po a, none⟩, ?_⟩, h2⟩
    rw [h1, hk]; rfl

theorem head_raw {H : HS} {a : Int} {c : HCell} (hd : H.head a = some c) : H.raw a = some c ∧ c.kind ≠ 0 := by
  unfold HS.head at hd
  split at hd
  · rename_i c' hc'
    split at hd
    · cases hd
    · cases hd; exact ⟨hc', by assumption⟩
  · cases hd

theorem head_yes (h : HR w hb nb mb ov rv B H) (a : Int) (ha : a ≤ 9223372036854775807) (c : HCell) (hd : H.head a = some c) :
    Calls Tryd.prog 35 #[.pointer (some ⟨hb, 0, none⟩), .int .i64 a] w fun e w' => e = .returned (.tuple #[.pointer (some ⟨H.pb nb ov a, H.po a, none⟩), .bool true]) ∧ ∃ n, w' = w.drewN n := by
  obtain ⟨hr, hk⟩ := head_raw hd
  refine (head_at h a ha c hr).mono fun e w' ⟨h1, h2⟩ => ⟨?_, h2⟩
  rw [h1, show (c.kind != 0) = true by simpa using hk]

/-! ### headOf, Kind, Tag, Id, Size -/
set_option maxHeartbeats 1000000 in
theorem headOf_no (h : HR w hb nb mb ov rv B H) (a : Int) (ha : a ≤ 9223372036854775807) (hd : H.head a = none) :
    Calls Tryd.prog 37 #[.pointer (some ⟨hb, 0, none⟩), .int .i64 a] w fun e w' => e = .returned (.agg #[.int .i64 0, .int .i64 0, .int .i64 0, .int .i64 0]) ∧ Below w.heap.size w w' := by
  have h' := h.below ((Below.refl w.heap.size w).alloc (Nat.le_refl _) (.cells #[.int .i64 0, .int .i64 0, .int .i64 0, .int .i64 0] 103))
  go_enter Tryd.func37, Tryd.ntmps37
  go_wp2_with (go_at_call 35; refine (head_no h' a ha hd).mono ?_; rintro e w' ⟨⟨p, rfl⟩, n, rfl⟩)
  refine bodyPost_ret (v := .agg #[.int .i64 0, .int .i64 0, .int .i64 0, .int .i64 0]) (by simp [results, Tryd.results37, go_sem]) rfl ⟨rfl, ?_⟩
  (repeat (first | exact Below.refl _ _ | refine below_drewN ?_ _ | refine Below.setCell ?_ (by first | exact Nat.le_refl _ | (simp; done) | (simp; omega)) _ | refine Below.alloc ?_ (by first | exact Nat.le_refl _ | (simp; done) | (simp; omega)) _))

set_option maxHeartbeats 1000000 in
theorem headOf_yes (h : HR w hb nb mb ov rv B H) (a : Int) (ha : a ≤ 9223372036854775807) (c : HCell) (hd : H.head a = some c) :
    Calls Tryd.prog 37 #[.pointer (some ⟨hb, 0, none⟩), .int .i64 a] w fun e w' => e = .returned (.agg #[.int .i64 c.kind, .int .i64 c.tag, .int .i64 c.id, .int .i64 c.size]) ∧ Below w.heap.size w w' := by
  have h' := h.below ((Below.refl w.heap.size w).alloc (Nat.le_refl _) (.cells #[.int .i64 0, .int .i64 0, .int .i64 0, .int .i64 0] 103))
  have hr := (head_raw hd).1
  obtain ⟨k0, k1, k2, k3, _⟩ := raw_cells h' a c hr
  have hc := head_yes h' a ha c hd
  clear hd hr
  generalize H.pb nb ov a = pb at *
  generalize H.po a = po at *
  go_enter Tryd.func37, Tryd.ntmps37
  go_wp2_with (go_at_call 35; refine hc.mono ?_; rintro e w' ⟨rfl, n, rfl⟩)
  refine bodyPost_ret (v := .agg #[.int .i64 c.kind, .int .i64 c.tag, .int .i64 c.id, .int .i64 c.size]) (by simp [results, Tryd.results37, go_sem]) rfl ⟨rfl, ?_⟩
  (repeat (first | exact Below.refl _ _ | refine below_drewN ?_ _ | refine Below.setCell ?_ (by first | exact Nat.le_refl _ | (simp; done) | (simp; omega)) _ | refine Below.alloc ?_ (by first | exact Nat.le_refl _ | (simp; done) | (simp; omega)) _))
end Go.Proofs.YthbkklnahhdgcaaDoor.HeapC
