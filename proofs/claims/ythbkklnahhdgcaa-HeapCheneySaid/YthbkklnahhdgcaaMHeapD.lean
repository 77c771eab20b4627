/-
  Package heap's Kind, Tag, Id, Size, at, Get over a heap as plain data.
-/
import Derived.Test.YthbkklnahhdgcaaMHeapC
namespace Go.Proofs.Ythbkklnahhdgcaa.HeapD
open Go Go.RowKit Go.Proofs.Ythbkklnahhdgcaa.Lib Go.Proofs.Ythbkklnahhdgcaa.HeapR Go.Proofs.Ythbkklnahhdgcaa.HeapC

variable {w : World} {hb nb mb : Nat} {ov rv : Value} {B : Nat} {H : HS}

set_option maxRecDepth 100000 in
theorem Kind_no (h : HR w hb nb mb ov rv B H) (a : Int) (ha : a ≤ 9223372036854775807) (hd : H.head a = none) :
    Calls Try.prog 20 #[.pointer (some ⟨hb, 0, none⟩), .int .i64 a] w fun e w' => e = .returned (.int .i64 0) ∧ Below w.heap.size w w' := by
  have hf : ∀ (a b c d : Int) (w : World), (Instr.field 53 (.agg #[.int .i64 a, .int .i64 b, .int .i64 c, .int .i64 d]) 0).run Try.prog w = .ok (.int .i64 a) w := fun a b c d w => by kernel_rfl
  go_enter Try.func20, Try.ntmps20
  go_wp2_with (go_at_call 17; refine (headOf_no h a ha hd).mono ?_; rintro e w' ⟨rfl, hbw⟩)
  go_ret
  exact ⟨rfl, hbw⟩
set_option maxRecDepth 100000 in
theorem Kind_yes (h : HR w hb nb mb ov rv B H) (a : Int) (ha : a ≤ 9223372036854775807) (c : HCell) (hd : H.head a = some c) :
    Calls Try.prog 20 #[.pointer (some ⟨hb, 0, none⟩), .int .i64 a] w fun e w' => e = .returned (.int .i64 c.kind) ∧ Below w.heap.size w w' := by
  have hf : ∀ (a b c d : Int) (w : World), (Instr.field 53 (.agg #[.int .i64 a, .int .i64 b, .int .i64 c, .int .i64 d]) 0).run Try.prog w = .ok (.int .i64 a) w := fun a b c d w => by kernel_rfl
  go_enter Try.func20, Try.ntmps20
  go_wp2_with (go_at_call 17; refine (headOf_yes h a ha c hd).mono ?_; rintro e w' ⟨rfl, hbw⟩)
  go_ret
  exact ⟨rfl, hbw⟩

set_option maxRecDepth 100000 in
theorem Tag_no (h : HR w hb nb mb ov rv B H) (a : Int) (ha : a ≤ 9223372036854775807) (hd : H.head a = none) :
    Calls Try.prog 21 #[.pointer (some ⟨hb, 0, none⟩), .int .i64 a] w fun e w' => e = .returned (.int .i64 0) ∧ Below w.heap.size w w' := by
  have hf : ∀ (a b c d : Int) (w : World), (Instr.field 53 (.agg #[.int .i64 a, .int .i64 b, .int .i64 c, .int .i64 d]) 1).run Try.prog w = .ok (.int .i64 b) w := fun a b c d w => by kernel_rfl
  go_enter Try.func21, Try.ntmps21
  go_wp2_with (go_at_call 17; refine (headOf_no h a ha hd).mono ?_; rintro e w' ⟨rfl, hbw⟩)
  go_ret
  exact ⟨rfl, hbw⟩
set_option maxRecDepth 100000 in
theorem Tag_yes (h : HR w hb nb mb ov rv B H) (a : Int) (ha : a ≤ 9223372036854775807) (c : HCell) (hd : H.head a = some c) :
    Calls Try.prog 21 #[.pointer (some ⟨hb, 0, none⟩), .int .i64 a] w fun e w' => e = .returned (.int .i64 c.tag) ∧ Below w.heap.size w w' := by
  have hf : ∀ (a b c d : Int) (w : World), (Instr.field 53 (.agg #[.int .i64 a, .int .i64 b, .int .i64 c, .int .i64 d]) 1).run Try.prog w = .ok (.int .i64 b) w := fun a b c d w => by kernel_rfl
  go_enter Try.func21, Try.ntmps21
  go_wp2_with (go_at_call 17; refine (headOf_yes h a ha c hd).mono ?_; rintro e w' ⟨rfl, hbw⟩)
  go_ret
  exact ⟨rfl, hbw⟩

set_option maxRecDepth 100000 in
theorem Id_no (h : HR w hb nb mb ov rv B H) (a : Int) (ha : a ≤ 9223372036854775807) (hd : H.head a = none) :
    Calls Try.prog 16 #[.pointer (some ⟨hb, 0, none⟩), .int .i64 a] w fun e w' => e = .returned (.int .i64 0) ∧ Below w.heap.size w w' := by
  have hf : ∀ (a b c d : Int) (w : World), (Instr.field 53 (.agg #[.int .i64 a, .int .i64 b, .int .i64 c, .int .i64 d]) 2).run Try.prog w = .ok (.int .i64 c) w := fun a b c d w => by kernel_rfl
  go_enter Try.func16, Try.ntmps16
  go_wp2_with (go_at_call 17; refine (headOf_no h a ha hd).mono ?_; rintro e w' ⟨rfl, hbw⟩)
  go_ret
  exact ⟨rfl, hbw⟩
set_option maxRecDepth 100000 in
theorem Id_yes (h : HR w hb nb mb ov rv B H) (a : Int) (ha : a ≤ 9223372036854775807) (c : HCell) (hd : H.head a = some c) :
    Calls Try.prog 16 #[.pointer (some ⟨hb, 0, none⟩), .int .i64 a] w fun e w' => e = .returned (.int .i64 c.id) ∧ Below w.heap.size w w' := by
  have hf : ∀ (a b c d : Int) (w : World), (Instr.field 53 (.agg #[.int .i64 a, .int .i64 b, .int .i64 c, .int .i64 d]) 2).run Try.prog w = .ok (.int .i64 c) w := fun a b c d w => by kernel_rfl
  go_enter Try.func16, Try.ntmps16
  go_wp2_with (go_at_call 17; refine (headOf_yes h a ha c hd).mono ?_; rintro e w' ⟨rfl, hbw⟩)
  go_ret
  exact ⟨rfl, hbw⟩

set_option maxRecDepth 100000 in
theorem Size_no (h : HR w hb nb mb ov rv B H) (a : Int) (ha : a ≤ 9223372036854775807) (hd : H.head a = none) :
    Calls Try.prog 8 #[.pointer (some ⟨hb, 0, none⟩), .int .i64 a] w fun e w' => e = .returned (.int .i64 0) ∧ Below w.heap.size w w' := by
  have hf : ∀ (a b c d : Int) (w : World), (Instr.field 53 (.agg #[.int .i64 a, .int .i64 b, .int .i64 c, .int .i64 d]) 3).run Try.prog w = .ok (.int .i64 d) w := fun a b c d w => by kernel_rfl
  go_enter Try.func8, Try.ntmps8
  go_wp2_with (go_at_call 17; refine (headOf_no h a ha hd).mono ?_; rintro e w' ⟨rfl, hbw⟩)
  go_ret
  exact ⟨rfl, hbw⟩
set_option maxRecDepth 100000 in
theorem Size_yes (h : HR w hb nb mb ov rv B H) (a : Int) (ha : a ≤ 9223372036854775807) (c : HCell) (hd : H.head a = some c) :
    Calls Try.prog 8 #[.pointer (some ⟨hb, 0, none⟩), .int .i64 a] w fun e w' => e = .returned (.int .i64 c.size) ∧ Below w.heap.size w w' := by
  have hf : ∀ (a b c d : Int) (w : World), (Instr.field 53 (.agg #[.int .i64 a, .int .i64 b, .int .i64 c, .int .i64 d]) 3).run Try.prog w = .ok (.int .i64 d) w := fun a b c d w => by kernel_rfl
  go_enter Try.func8, Try.ntmps8
  go_wp2_with (go_at_call 17; refine (headOf_yes h a ha c hd).mono ?_; rintro e w' ⟨rfl, hbw⟩)
  go_ret
  exact ⟨rfl, hbw⟩

/-! ### at -/
theorem at_raw (h : HR w hb nb mb ov rv B H) (a : Int) (ha : a ≤ 9223372036854775807) (c : HCell) (hr : H.raw a = some c) :
    Calls Try.prog 19 #[.pointer (some ⟨hb, 0, none⟩), .int .i64 a] w fun e w' => e = .returned (.pointer (some ⟨H.pb nb ov a, H.po a, none⟩)) ∧ ∃ n, w' = w.drewN n := by
  unfold HS.raw at hr
  by_cases h0 : a < 0
  · simp [h0] at hr
  obtain ⟨m, rfl⟩ := Int.eq_ofNat_of_zero_le (Int.not_lt.1 h0)
  by_cases h1 : (m : Int) < H.room
  · have e : H.pb nb ov (m : Int) = nb := by simp [HS.pb, h1]
    have e' : H.po (m : Int) = m * 8 := by simp [HS.po, h1]
    rw [e, e']
    exact (HeapA.at_lo hb m nb H.room H.room H.room w h.c0 h.c3 h1 h1).mono fun e w' ⟨h1, h2⟩ => ⟨h1, 0, h2.symm⟩
  · simp only [h0, h1, if_false] at hr
    obtain ⟨g, cap, e1, e2, e3⟩ := old_form h _ _ hr
    have hlt : ((m : Int) - H.room).toNat < H.old.length := (List.getElem?_eq_some_iff.1 hr).1
    have e : H.pb nb ov (m : Int) = g := by simp [HS.pb, h1, e2]
    have e' : H.po (m : Int) = ((m : Int) - H.room).toNat * 8 := by simp [HS.po, h1]
    rw [e, e']
    exact HeapA.at_hi hb g H.old.length cap m H.room w (by rw [h.c1, e1]) h.c3 (by omega) (by omega) ha (by omega)

/-! ### Get -/
/-- The world behind Get's own variable. -/
def gw (w : World) : World := w.alloc (.cells #[.int .i64 0, .int .i64 0, .string ByteArray.empty] 34)

set_option maxHeartbeats 1000000 in
theorem get_missing (h : HR w hb nb mb ov rv B H) (a i : Int) (ha : a ≤ 9223372036854775807) (hd : H.head a = none) :
    Calls Try.prog 15 #[.pointer (some ⟨hb, 0, none⟩), .int .i64 a, .int .i64 i] w fun e w' => e = .returned (.tuple #[.agg #[.int .i64 0, .int .i64 0, .string ByteArray.empty], .iface 45 (.int .i64 7)]) ∧ Below w.heap.size w w' := by
  have h' : HR (gw w) hb nb mb ov rv B H := h.below ((Below.refl w.heap.size w).alloc (Nat.le_refl _) _)
  unfold gw at h'
  go_enter Try.func15, Try.ntmps15
  go_wp2_with (go_at_call 18; refine (head_no h' a ha hd).mono ?_; rintro e w' ⟨⟨p, rfl⟩, n, rfl⟩)
  refine bodyPost_ret (v := .tuple #[.agg #[.int .i64 0, .int .i64 0, .string ByteArray.empty], .iface 45 (.int .i64 7)]) (by simp [results, Try.results15, go_sem] <;> rfl) rfl ⟨rfl, ?_⟩
  (repeat (first | exact Below.refl _ _ | refine below_drewN ?_ _ | refine Below.setCell ?_ (by first | exact Nat.le_refl _ | (simp; done) | (simp; omega)) _ | refine Below.alloc ?_ (by first | exact Nat.le_refl _ | (simp; done) | (simp; omega)) _))

set_option maxHeartbeats 1000000 in
theorem get_range (h : HR w hb nb mb ov rv B H) (a i : Int) (ha : a ≤ 9223372036854775807) (c : HCell) (hd : H.head a = some c) (hi : i < 0 ∨ c.size ≤ i) :
    Calls Try.prog 15 #[.pointer (some ⟨hb, 0, none⟩), .int .i64 a, .int .i64 i] w fun e w' => e = .returned (.tuple #[.agg #[.int .i64 0, .int .i64 0, .string ByteArray.empty], .iface 45 (.int .i64 2)]) ∧ Below w.heap.size w w' := by
  have h' : HR (gw w) hb nb mb ov rv B H := h.below ((Below.refl w.heap.size w).alloc (Nat.le_refl _) _)
  obtain ⟨k0, k1, k2, k3, _⟩ := raw_cells h' a c (head_raw hd).1
  have hc := head_yes h' a ha c hd
  clear hd h'
  unfold gw at k0 k1 k2 k3 hc
  generalize H.pb nb ov a = pb at *
  generalize H.po a = po at *
  rcases Int.lt_or_le i 0 with h1 | h1
  · have g1 : decide (i < 0) = true := by simpa using h1
    go_enter Try.func15, Try.ntmps15
    go_wp2_with (go_at_call 18; refine hc.mono ?_; rintro e w' ⟨rfl, n, rfl⟩)
    refine bodyPost_ret (v := .tuple #[.agg #[.int .i64 0, .int .i64 0, .string ByteArray.empty], .iface 45 (.int .i64 2)]) (by simp [results, Try.results15, go_sem] <;> rfl) rfl ⟨rfl, ?_⟩
    (repeat (first | exact Below.refl _ _ | refine below_drewN ?_ _ | refine Below.setCell ?_ (by first | exact Nat.le_refl _ | (simp; done) | (simp; omega)) _ | refine Below.alloc ?_ (by first | exact Nat.le_refl _ | (simp; done) | (simp; omega)) _))
  · have g1 : decide (i < 0) = false := by simpa using h1
    have h2 : c.size ≤ i := by omega
    have g2 : decide (c.size ≤ i) = true := by simpa using h2
    go_enter Try.func15, Try.ntmps15
    go_wp2_with (go_at_call 18; refine hc.mono ?_; rintro e w' ⟨rfl, n, rfl⟩)
    refine bodyPost_ret (v := .tuple #[.agg #[.int .i64 0, .int .i64 0, .string ByteArray.empty], .iface 45 (.int .i64 2)]) (by simp [results, Try.results15, go_sem] <;> rfl) rfl ⟨rfl, ?_⟩
    (repeat (first | exact Below.refl _ _ | refine below_drewN ?_ _ | refine Below.setCell ?_ (by first | exact Nat.le_refl _ | (simp; done) | (simp; omega)) _ | refine Below.alloc ?_ (by first | exact Nat.le_refl _ | (simp; done) | (simp; omega)) _))

set_option maxHeartbeats 1000000 in
theorem get_ok (h : HR w hb nb mb ov rv B H) (a i : Int) (ha0 : 0 ≤ a) (ha : a + 1 + i ≤ 9223372036854775807) (c d : HCell) (hd : H.head a = some c) (hi0 : 0 ≤ i) (hi : i < c.size) (hr : H.raw (a + 1 + i) = some d) :
    Calls Try.prog 15 #[.pointer (some ⟨hb, 0, none⟩), .int .i64 a, .int .i64 i] w fun e w' => e = .returned (.tuple #[.agg #[.int .i64 d.vk, .int .i64 d.vn, .string d.vs], .nilIface]) ∧ Below w.heap.size w w' := by
  have h' : HR (gw w) hb nb mb ov rv B H := h.below ((Below.refl w.heap.size w).alloc (Nat.le_refl _) _)
  obtain ⟨k0, k1, k2, k3, _⟩ := raw_cells h' a c (head_raw hd).1
  obtain ⟨_, _, _, _, l4, l5, l6, _⟩ := raw_cells h' _ d hr
  have hc := head_yes h' a (by omega) c hd
  have hA : ∀ n : Nat, Calls Try.prog 19 #[.pointer (some ⟨hb, 0, none⟩), .int .i64 (a + 1 + i)] ((gw w).drewN n) fun e w' => e = .returned (.pointer (some ⟨H.pb nb ov (a + 1 + i), H.po (a + 1 + i), none⟩)) ∧ ∃ m, w' = ((gw w).drewN n).drewN m := fun n => at_raw (h'.drewN n) _ ha d hr
  have g1 : decide (i < 0) = false := by simpa using hi0
  have g2 : decide (c.size ≤ i) = false := by simpa using hi
  clear hd h' hr
  unfold gw at k0 k1 k2 k3 l4 l5 l6 hc hA
  generalize H.pb nb ov a = pb at *
  generalize H.po a = po at *
  generalize H.pb nb ov (a + 1 + i) = qb at *
  generalize H.po (a + 1 + i) = qo at *
  go_enter Try.func15, Try.ntmps15
  go_wp2_with (first | (go_at_call 18; refine hc.mono ?_; rintro e w' ⟨rfl, n, rfl⟩) | (go_at_call 19; refine (hA _).mono ?_; rintro e w' ⟨rfl, m, rfl⟩))
  refine bodyPost_ret (v := .tuple #[.agg #[.int .i64 d.vk, .int .i64 d.vn, .string d.vs], .nilIface]) (by simp [results, Try.results15, go_sem] <;> rfl) rfl ⟨rfl, ?_⟩
  (repeat (first | exact Below.refl _ _ | refine below_drewN ?_ _ | refine Below.setCell ?_ (by first | exact Nat.le_refl _ | (simp; done) | (simp; omega)) _ | refine Below.alloc ?_ (by first | exact Nat.le_refl _ | (simp; done) | (simp; omega)) _))
end Go.Proofs.Ythbkklnahhdgcaa.HeapD
