/-
  What a heap of package heap is in memory: the block that the pointer leads to, the nursery, the old part, what is remembered, the map.
-/
import Derived.Test.YthbkklnahhdgcaaDoorProg
import Derived.Test.YthbkklnahhdgcaaDoorLib
namespace Go.Proofs.YthbkklnahhdgcaaDoor.HeapR
open Go Go.RowKit Go.Proofs.YthbkklnahhdgcaaDoor.Lib

/-- A heap as plain data. -/
structure HS where
  nur : List HCell
  old : List HCell
  top : Nat
  room : Nat
  most : Nat
  rem : List Int
  wh : DataW Unit
  next : Nat
  minors : Nat
  majors : Nat

/-- The ten cells of the struct. -/
def hblock (nb mb : Nat) (ov rv : Value) (H : HS) : Array Value :=
  #[.slice (some ⟨nb, 0, none⟩) H.room H.room, ov, .int .i64 H.top, .int .i64 H.room, .int .i64 H.most, rv, .map (some mb), .int .i64 H.next, .int .i64 H.minors, .int .i64 H.majors]

/-- The heap at hb is H; nothing of it lies below B. -/
structure HR (w : World) (hb nb mb : Nat) (ov rv : Value) (B : Nat) (H : HS) : Prop where
  blk : w.heap[hb]? = some (.cells (hblock nb mb ov rv H) 98 (0, 0))
  nur : w.heap[nb]? = some (.cells (hcells H.nur) 105 (0, 0))
  len : H.nur.length = H.room
  old : w.ownsRow B 105 8 ov H.old.length (hvals H.old)
  rem : w.ownsRow B 3 1 rv H.rem.length (H.rem.map (Value.int .i64))
  map : w.ownsMap Tryd.prog 3 (plainElem Tryd.prog 3) mb H.next H.wh
  hn : hb ≠ nb
  oh : ov.ownBlock ≠ some hb
  on : ov.ownBlock ≠ some nb
  rh : rv.ownBlock ≠ some hb
  rn : rv.ownBlock ≠ some nb
  ro : ov.ownBlock = none ∨ ov.ownBlock ≠ rv.ownBlock
  lo : B ≤ hb ∧ B ≤ nb ∧ B ≤ mb
  tr : H.top ≤ H.room
  rr : H.room ≤ 65536
  mm : H.most ≤ 1048576
  om : H.old.length ≤ H.most

/-- The blocks of a heap. -/
def Owns (hb nb mb : Nat) (ov rv : Value) (k : Nat) : Prop := k = hb ∨ k = nb ∨ k = mb ∨ ov.ownBlock = some k ∨ rv.ownBlock = some k

variable {w w' : World} {hb nb mb : Nat} {ov rv : Value} {B : Nat} {H : HS}

theorem HR.hm (h : HR w hb nb mb ov rv B H) : hb ≠ mb := by
  rintro rfl
  obtain ⟨es, clock, h1, _⟩ := h.map
  rw [h.blk] at h1; cases h1
theorem HR.nm (h : HR w hb nb mb ov rv B H) : nb ≠ mb := by
  rintro rfl
  obtain ⟨es, clock, h1, _⟩ := h.map
  rw [h.nur] at h1; cases h1
theorem HR.om' (h : HR w hb nb mb ov rv B H) : ov.ownBlock ≠ some mb := by
  intro e
  obtain ⟨es, clock, h1, _⟩ := h.map
  rcases h.old.2 with ⟨h2, _⟩ | ⟨g, cap, cur, h2, _, h3, _⟩
  · subst h2; simp [Value.ownBlock] at e
  · subst h2
    simp [Value.ownBlock] at e
    subst e
    rw [h3] at h1; cases h1
theorem HR.rm (h : HR w hb nb mb ov rv B H) : rv.ownBlock ≠ some mb := by
  intro e
  obtain ⟨es, clock, h1, _⟩ := h.map
  rcases h.rem.2 with ⟨h2, _⟩ | ⟨g, cap, cur, h2, _, h3, _⟩
  · subst h2; simp [Value.ownBlock] at e
  · subst h2
    simp [Value.ownBlock] at e
    subst e
    rw [h3] at h1; cases h1
theorem ownsRow_same {w w' : World} {base e size n : Nat} {v : Value} {xs : List Value} (h : w.ownsRow base e size v n xs) (hs : ∀ k, v.ownBlock = some k → w'.heap[k]? = w.heap[k]?) : w'.ownsRow base e size v n xs := by
  refine ⟨h.1, ?_⟩
  rcases h.2 with hn | ⟨g, cap, cur, rfl, hb, hg, rest⟩
  · exact .inl hn
  · exact .inr ⟨g, cap, cur, rfl, hb, by rw [hs g rfl]; exact hg, rest⟩
theorem HR.lt (h : HR w hb nb mb ov rv B H) {k : Nat} (hk : Owns hb nb mb ov rv k) : k < w.heap.size := by
  rcases hk with rfl | rfl | rfl | hk | hk
  · exact lt_of_block h.blk
  · exact lt_of_block h.nur
  · exact h.map.lt
  · exact (h.old.lt k hk).2
  · exact (h.rem.lt k hk).2
theorem HR.ge (h : HR w hb nb mb ov rv B H) {k : Nat} (hk : Owns hb nb mb ov rv k) : B ≤ k := by
  rcases hk with rfl | rfl | rfl | hk | hk
  · exact h.lo.1
  · exact h.lo.2.1
  · exact h.lo.2.2
  · exact (h.old.lt k hk).1
  · exact (h.rem.lt k hk).1
theorem HR.same (h : HR w hb nb mb ov rv B H) (hs : ∀ k, Owns hb nb mb ov rv k → w'.heap[k]? = w.heap[k]?) : HR w' hb nb mb ov rv B H := by
  refine { h with blk := ?_, nur := ?_, old := ?_, rem := ?_, map := ?_ }
  · rw [hs _ (.inl rfl)]; exact h.blk
  · rw [hs _ (.inr (.inl rfl))]; exact h.nur
  · exact ownsRow_same h.old fun k hk => hs k (.inr (.inr (.inr (.inl hk))))
  · exact ownsRow_same h.rem fun k hk => hs k (.inr (.inr (.inr (.inr hk))))
  · obtain ⟨es, clock, h1, r⟩ := h.map
    exact ⟨es, clock, by rw [hs mb (.inr (.inr (.inl rfl)))]; exact h1, r⟩
theorem HR.turned {S : Nat → Prop} (h : HR w hb nb mb ov rv B H) (ht : Turned S w w') (hs : ∀ k, Owns hb nb mb ov rv k → ¬ S k) : HR w' hb nb mb ov rv B H :=
  h.same fun k hk => ht.block k (h.lt hk) (hs k hk)
theorem HR.below (h : HR w hb nb mb ov rv B H) (ht : Below w.heap.size w w') : HR w' hb nb mb ov rv B H :=
  h.same fun k hk => ht.block k (h.lt hk)
theorem HR.drewN (h : HR w hb nb mb ov rv B H) (n : Nat) : HR (w.drewN n) hb nb mb ov rv B H := h.same fun _ _ => rfl

/-! ### the struct's cells -/
theorem HR.c0 (h : HR w hb nb mb ov rv B H) : w.cell? ⟨hb, 0, none⟩ = some (.slice (some ⟨nb, 0, none⟩) H.room H.room) := cell_of_block h.blk rfl
theorem HR.c1 (h : HR w hb nb mb ov rv B H) : w.cell? ⟨hb, 1, none⟩ = some ov := cell_of_block h.blk rfl
theorem HR.c2 (h : HR w hb nb mb ov rv B H) : w.cell? ⟨hb, 2, none⟩ = some (.int .i64 H.top) := cell_of_block h.blk rfl
theorem HR.c3 (h : HR w hb nb mb ov rv B H) : w.cell? ⟨hb, 3, none⟩ = some (.int .i64 H.room) := cell_of_block h.blk rfl
theorem HR.c4 (h : HR w hb nb mb ov rv B H) : w.cell? ⟨hb, 4, none⟩ = some (.int .i64 H.most) := cell_of_block h.blk rfl
theorem HR.c5 (h : HR w hb nb mb ov rv B H) : w.cell? ⟨hb, 5, none⟩ = some rv := cell_of_block h.blk rfl
theorem HR.c6 (h : HR w hb nb mb ov rv B H) : w.cell? ⟨hb, 6, none⟩ = some (.map (some mb)) := cell_of_block h.blk rfl
theorem HR.c7 (h : HR w hb nb mb ov rv B H) : w.cell? ⟨hb, 7, none⟩ = some (.int .i64 H.next) := cell_of_block h.blk rfl
theorem HR.c8 (h : HR w hb nb mb ov rv B H) : w.cell? ⟨hb, 8, none⟩ = some (.int .i64 H.minors) := cell_of_block h.blk rfl
theorem HR.c9 (h : HR w hb nb mb ov rv B H) : w.cell? ⟨hb, 9, none⟩ = some (.int .i64 H.majors) := cell_of_block h.blk rfl
theorem HR.fz (h : HR w hb nb mb ov rv B H) (i : Nat) : w.frozen? ⟨hb, i, none⟩ = false := frozen_of_block h.blk
theorem HR.fn (h : HR w hb nb mb ov rv B H) (i : Nat) : w.frozen? ⟨nb, i, none⟩ = false := frozen_of_block h.nur
theorem HR.ncell (h : HR w hb nb mb ov rv B H) (i j : Nat) (c : HCell) (hc : H.nur[i]? = some c) (hj : j < 8) : w.cell? ⟨nb, i * 8 + j, none⟩ = c.vals[j]? := by
  have e := hcells_get H.nur i j c hc hj
  rw [World.cell?, h.nur]
  simpa using e

end Go.Proofs.YthbkklnahhdgcaaDoor.HeapR
