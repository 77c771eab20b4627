/-
  Package heap's collector: roots, one moved behind the other.
-/
import Derived.Test.YthbkklnahhdgcaaMChI
namespace Go.Proofs.Ythbkklnahhdgcaa.ChJ
open Go Go.Proofs Go.RowKit Go.Proofs.Ythbkklnahhdgcaa.Lib Go.Proofs.Ythbkklnahhdgcaa.HeapR Go.Proofs.Ythbkklnahhdgcaa.HeapA Go.Proofs.Ythbkklnahhdgcaa.ChA Go.Proofs.Ythbkklnahhdgcaa.ChB Go.Proofs.Ythbkklnahhdgcaa.ChT Go.Proofs.Ythbkklnahhdgcaa.ChCa Go.Proofs.Ythbkklnahhdgcaa.ChCc Go.Proofs.Ythbkklnahhdgcaa.ChCd Go.Proofs.Ythbkklnahhdgcaa.ChD Go.Proofs.Ythbkklnahhdgcaa.ChE Go.Proofs.Ythbkklnahhdgcaa.ChF Go.Proofs.Ythbkklnahhdgcaa.ChG Go.Proofs.Ythbkklnahhdgcaa.ChH Go.Proofs.Ythbkklnahhdgcaa.ChI

/-- What a collector's steps leave of the world; R: blocks of roots. -/
def GrewR (p : Par) (R : Nat → Prop) (tv0 : Value) (w0 : World) (tv : Value) (w : World) : Prop := Turned (fun j => Tset p tv0 j ∨ R j) w0 w ∧ ∀ j, tv.ownBlock = some j → tv0.ownBlock = some j ∨ w0.heap.size ≤ j
theorem GrewR.refl (p : Par) (R : Nat → Prop) (tv : Value) (w : World) : GrewR p R tv w tv w := ⟨Turned.refl _ _, fun _ h => Or.inl h⟩
theorem GrewR.of {p : Par} (R : Nat → Prop) {a b : Value} {u v : World} (h : Grew p a u b v) : GrewR p R a u b v := ⟨h.1.mono fun _ h => Or.inl h, h.2⟩
theorem GrewR.trans {p : Par} {R : Nat → Prop} {a b c : Value} {u v w : World} (h : GrewR p R a u b v) (k : GrewR p R b v c w) : GrewR p R a u c w := by
  have hz := h.1.size
  refine ⟨⟨k.1.os.trans h.1.os, k.1.tape.trans h.1.tape, k.1.output.trans h.1.output, Nat.le_trans h.1.size k.1.size, fun j hj hs => (k.1.block j (by omega) (fun h' => ?_)).trans (h.1.block j hj hs)⟩, fun j hj => ?_⟩
  · rcases h' with (h' | h' | h' | h') | h'
    · exact hs (Or.inl (Or.inl h'))
    · exact hs (Or.inl (Or.inr (Or.inl h')))
    · rcases h.2 j h' with h2 | h2
      · exact hs (Or.inl (Or.inr (Or.inr (Or.inl h2))))
      · omega
    · exact hs (Or.inl (Or.inr (Or.inr (Or.inr h'))))
    · exact hs (Or.inr h')
  · rcases k.2 j hj with h2 | h2
    · exact h.2 j h2
    · exact Or.inr (by omega)

/-- A value behind the copy of L. -/
def fixV (p : Par) (L : List Ob) (v : Vl) : Vl := { v with n := newN p L v.k v.n }
theorem newN_grow {p : Par} {L K : List Ob} {k n : Int} (h : k = 4 → p.from_ n = true → has L n.toNat) : newN p (L ++ K) k n = newN p L k n := by
  unfold newN
  by_cases hc : k = 4 ∧ p.from_ n = true
  · rw [if_pos hc, if_pos hc, fwd_in (h hc.1 hc.2)]
  · rw [if_neg hc, if_neg hc]
theorem fixV_grow {p : Par} {L K : List Ob} {v : Vl} (h : v.k = 4 → p.from_ v.n = true → has L v.n.toNat) : fixV p (L ++ K) v = fixV p L v := by
  unfold fixV
  rw [newN_grow h]
/-- In Minor what was moved is not moved again. -/
theorem newN_id {p : Par} {L : List Ob} {k n : Int} (h : ¬ (k = 4 ∧ p.from_ n = true)) : newN p L k n = n := by
  unfold newN
  rw [if_neg h]
theorem newN_again {p : Par} (hm : p.maj = false) (L : List Ob) (k n : Int) : ¬ (k = 4 ∧ p.from_ (newN p L k n) = true) := by
  rintro ⟨h1, h2⟩
  unfold newN at h2
  by_cases hc : k = 4 ∧ p.from_ n = true
  · rw [if_pos hc] at h2
    unfold Par.from_ at h2
    rw [hm] at h2
    have h3 : ((fwd L p.z n.toNat : Nat) : Int) < (p.room : Int) := by simpa using h2
    unfold fwd Par.z at h3
    omega
  · rw [if_neg hc] at h2
    exact hc ⟨h1, h2⟩

/-- The roots in memory. -/
structure Roots (p : Par) (w : World) (tv : Value) (rs : List (Nat × Nat)) (f : Nat × Nat → Vl) : Prop where
  cell : ∀ a ∈ rs, w.cell? ⟨a.1, a.2, none⟩ = some (.int .i64 (f a).k) ∧ w.cell? ⟨a.1, a.2 + 1, none⟩ = some (.int .i64 (f a).n) ∧ w.cell? ⟨a.1, a.2 + 2, none⟩ = some (.string (f a).s) ∧ w.frozen? ⟨a.1, a.2 + 1, none⟩ = false
  out : ∀ a ∈ rs, ¬ Own p tv a.1
  blk : ∀ a ∈ rs, ∃ c t, w.heap[a.1]? = some (.cells c t (0, 0))
def RootsApart (rs : List (Nat × Nat)) : Prop := ∀ a ∈ rs, ∀ b ∈ rs, a = b ∨ a.1 ≠ b.1 ∨ a.2 + 3 ≤ b.2 ∨ b.2 + 3 ≤ a.2
theorem frozen_set {w : World} {q a : Addr} {u : Value} : (w.setCell q u).frozen? a = w.frozen? a := by
  go_simp
theorem tset_own {p : Par} {tv : Value} {j : Nat} (h : Tset p tv j) : Own p tv j := by
  rcases h with h | h | h | h
  · exact .inl h
  · exact .inr (.inr (.inr (.inl h)))
  · exact .inr (.inr (.inr (.inr (.inl h))))
  · exact .inr (.inr (.inr (.inr (.inr (.inr h)))))

/-- A root was moved. -/
theorem roots_move {p : Par} {w w' : World} {tv : Value} {rs : List (Nat × Nat)} {f : Nat × Nat → Vl} {L : List Ob} {P : Nat → Bool} (hR : Roots p w tv rs f) (hA : RootsApart rs) {a : Nat × Nat} (ha : a ∈ rs) (hM : Moved p w tv L P a.1 a.2 (f a).k (f a).n w') :
    ∃ tv' K, CR p w' tv' (L ++ K) P ∧ ((f a).k = 4 → p.from_ (f a).n = true → has (L ++ K) (f a).n.toNat) ∧ Roots p w' tv' rs (fun b => if b = a then fixV p (L ++ K) (f a) else f b) ∧ GrewR p (fun j => ∃ b ∈ rs, b.1 = j) tv w tv' w' := by
  obtain ⟨c0, c1, c2, cf⟩ := hR.cell a ha
  obtain ⟨tv', K, hC, hh, d0, d1, d2, ⟨w9, hT, hw⟩, ho, hv⟩ := moved_var hM (hR.out a ha) c0 c1 c2
  have hout : ∀ b ∈ rs, ¬ Own p tv' b.1 := fun b hb h' => by
    have hbl : b.1 < w.heap.size := World.block_lt_of_cell? w _ (hR.cell b hb).1
    have hnb := hR.out b hb
    rcases h' with h' | h' | h' | h' | h' | h' | h'
    · exact hnb (.inl h')
    · exact hnb (.inr (.inl h'))
    · exact hnb (.inr (.inr (.inl h')))
    · exact hnb (.inr (.inr (.inr (.inl h'))))
    · rcases ho _ h' with h2 | h2
      · exact hnb (.inr (.inr (.inr (.inr (.inl h2)))))
      · omega
    · exact hnb (.inr (.inr (.inr (.inr (.inr (.inl h'))))))
    · exact hnb (.inr (.inr (.inr (.inr (.inr (.inr h'))))))
  have h9 : ∀ b ∈ rs, w9.heap[b.1]? = w.heap[b.1]? := fun b hb => hT.block b.1 (World.block_lt_of_cell? w _ (hR.cell b hb).1) (fun h' => hR.out b hb (tset_own h'))
  have hfz : ∀ b ∈ rs, w'.frozen? ⟨b.1, b.2 + 1, none⟩ = false := fun b hb => by
    have h1 : w9.frozen? ⟨b.1, b.2 + 1, none⟩ = false := (World.frozen?_of_block (a := ⟨b.1, b.2 + 1, none⟩) (h9 b hb)).trans (hR.cell b hb).2.2.2
    rcases hw with rfl | rfl
    · exact h1
    · rw [frozen_set]
      exact h1
  have hblk : ∀ b ∈ rs, ∃ c t, w'.heap[b.1]? = some (.cells c t (0, 0)) := fun b hb => by
    obtain ⟨c, t, e⟩ := hR.blk b hb
    have e9 := (h9 b hb).trans e
    rcases hw with rfl | rfl
    · exact ⟨c, t, e9⟩
    · by_cases hab : b.1 = a.1
      · rw [hab] at e9 ⊢
        exact ⟨_, t, blk_set e9 _⟩
      · exact ⟨c, t, (blk_ne hab).trans e9⟩
  refine ⟨tv', K, hC, hh, ⟨fun b hb => ?_, hout, hblk⟩, ?_, ho⟩
  · by_cases hba : b = a
    · subst hba
      rw [if_pos rfl]
      exact ⟨d0, d1, d2, hfz b hb⟩
    · rw [if_neg hba]
      have key : ∀ j, j < 3 → w'.cell? ⟨b.1, b.2 + j, none⟩ = w.cell? ⟨b.1, b.2 + j, none⟩ := fun j hj => by
        have h1 : w9.cell? ⟨b.1, b.2 + j, none⟩ = w.cell? ⟨b.1, b.2 + j, none⟩ := World.cell?_of_block (a := ⟨b.1, b.2 + j, none⟩) (h9 b hb)
        rcases hw with rfl | rfl
        · exact h1
        · rw [cell_set_ne]
          · exact h1
          · intro e
            simp only [Addr.mk.injEq] at e
            rcases hA b hb a ha with h | h | h | h
            · exact hba h
            · exact h e.1
            · omega
            · omega
      obtain ⟨q0, q1, q2, q3⟩ := hR.cell b hb
      exact ⟨(key 0 (by omega)).trans q0, (key 1 (by omega)).trans q1, (key 2 (by omega)).trans q2, hfz b hb⟩
  · have h1 : Turned (fun j => Tset p tv j ∨ ∃ b ∈ rs, b.1 = j) w w9 := hT.mono fun _ h => Or.inl h
    rcases hw with rfl | rfl
    · exact h1
    · exact h1.setCell (Or.inl (Or.inr ⟨a, ha, rfl⟩)) _
theorem Roots.drewN {p : Par} {w : World} {tv : Value} {rs : List (Nat × Nat)} {f : Nat × Nat → Vl} (h : Roots p w tv rs f) (n : Nat) : Roots p (w.drewN n) tv rs f := ⟨h.cell, h.out, h.blk⟩
theorem Roots.congr {p : Par} {w : World} {tv : Value} {rs : List (Nat × Nat)} {f g : Nat × Nat → Vl} (h : Roots p w tv rs f) (e : ∀ a ∈ rs, g a = f a) : Roots p w tv rs g := ⟨fun a ha => by rw [e a ha]; exact h.cell a ha, h.out, h.blk⟩

/-- The first i roots are moved. -/
structure Half (p : Par) (tv0 : Value) (w0 : World) (L0 : List Ob) (P : Nat → Bool) (rs : List (Nat × Nat)) (f : Nat × Nat → Vl) (i : Nat) (wr : World) (tv : Value) (K : List Ob) : Prop where
  le : i ≤ rs.length
  cr : CR p wr tv (L0 ++ K) P
  roots : Roots p wr tv rs (fun a => if a ∈ rs.take i then fixV p (L0 ++ K) (f a) else f a)
  has_ : ∀ a ∈ rs.take i, (f a).k = 4 → p.from_ (f a).n = true → has (L0 ++ K) (f a).n.toNat
  grew : GrewR p (fun j => ∃ b ∈ rs, b.1 = j) tv0 w0 tv wr
theorem mem_take_succ {rs : List (Nat × Nat)} {i : Nat} {a b : Nat × Nat} (h : rs[i]? = some a) : b ∈ rs.take (i + 1) ↔ b ∈ rs.take i ∨ b = a := by
  rw [List.take_add_one, h]
  simp
theorem half_skip {p : Par} {tv0 : Value} {w0 : World} {L0 : List Ob} {P : Nat → Bool} {rs : List (Nat × Nat)} {f : Nat × Nat → Vl} {i : Nat} {wr : World} {tv : Value} {K : List Ob} (h : Half p tv0 w0 L0 P rs f i wr tv K) {a : Nat × Nat} (ha : rs[i]? = some a) (hin : a ∈ rs.take i) : Half p tv0 w0 L0 P rs f (i + 1) wr tv K := by
  have hm : ∀ b, b ∈ rs.take (i + 1) ↔ b ∈ rs.take i := fun b => (mem_take_succ ha).trans ⟨fun h' => h'.elim id (fun e => e ▸ hin), Or.inl⟩
  refine ⟨by have := (List.getElem?_eq_some_iff.1 ha).1; omega, h.cr, h.roots.congr (fun b _ => ?_), fun b hb => h.has_ b ((hm b).1 hb), h.grew⟩
  by_cases hbt : b ∈ rs.take i
  · rw [if_pos hbt, if_pos ((hm b).2 hbt)]
  · rw [if_neg hbt, if_neg (fun h' => hbt ((hm b).1 h'))]
/-- One root more that was not moved yet. -/
theorem half_new {p : Par} {tv0 : Value} {w0 : World} {L0 : List Ob} {P : Nat → Bool} {rs : List (Nat × Nat)} {f : Nat × Nat → Vl} {i : Nat} {wr : World} {tv : Value} {K : List Ob} (h : Half p tv0 w0 L0 P rs f i wr tv K) (hA : RootsApart rs) {a : Nat × Nat} (ha : rs[i]? = some a) (hin : a ∉ rs.take i) {w' : World}
    (hM : Moved p wr tv (L0 ++ K) P a.1 a.2 (f a).k (f a).n w') : ∃ tv' K', Half p tv0 w0 L0 P rs f (i + 1) w' tv' K' ∧ GrewR p (fun j => ∃ b ∈ rs, b.1 = j) tv wr tv' w' := by
  have har := List.mem_of_getElem? ha
  have hR := h.roots
  have hMf : Moved p wr tv (L0 ++ K) P a.1 a.2 ((fun a => if a ∈ rs.take i then fixV p (L0 ++ K) (f a) else f a) a).k ((fun a => if a ∈ rs.take i then fixV p (L0 ++ K) (f a) else f a) a).n w' := by
    simp only [if_neg hin]
    exact hM
  obtain ⟨tv', K', h1, h2, h3, h4⟩ := roots_move hR hA har hMf
  simp only [if_neg hin] at h2 h3
  rw [List.append_assoc] at h1 h2 h3
  refine ⟨tv', K ++ K', ⟨by have := (List.getElem?_eq_some_iff.1 ha).1; omega, h1, h3.congr fun b hb => ?_, fun b hb g1 g2 => ?_, h.grew.trans h4⟩, h4⟩
  · by_cases hba : b = a
    · subst hba
      rw [if_pos rfl, if_pos ((mem_take_succ ha).2 (Or.inr rfl))]
    · rw [if_neg hba]
      by_cases hbt : b ∈ rs.take i
      · rw [if_pos hbt, if_pos ((mem_take_succ ha).2 (Or.inl hbt)), ← List.append_assoc]
        exact fixV_grow (h.has_ b hbt)
      · rw [if_neg hbt, if_neg (fun h' => ((mem_take_succ ha).1 h').elim hbt hba)]
  · rcases (mem_take_succ ha).1 hb with hb | rfl
    · rw [← List.append_assoc]
      exact has_append.mpr (Or.inl (h.has_ b hb g1 g2))
    · exact h2 g1 g2
/-- One root more, in Minor. -/
theorem half_minor {p : Par} (hmj : p.maj = false) {tv0 : Value} {w0 : World} {L0 : List Ob} {P : Nat → Bool} {rs : List (Nat × Nat)} {f : Nat × Nat → Vl} {i : Nat} {wr : World} {tv : Value} {K : List Ob} (h : Half p tv0 w0 L0 P rs f i wr tv K) (hA : RootsApart rs) {a : Nat × Nat} (ha : rs[i]? = some a) {w' : World}
    (hM : Moved p wr tv (L0 ++ K) P a.1 a.2 (if a ∈ rs.take i then fixV p (L0 ++ K) (f a) else f a).k (if a ∈ rs.take i then fixV p (L0 ++ K) (f a) else f a).n w') : ∃ tv' K', Half p tv0 w0 L0 P rs f (i + 1) w' tv' K' := by
  have har := List.mem_of_getElem? ha
  obtain ⟨tv', K', h1, h2, h3, h4⟩ := roots_move h.roots hA har hM
  rw [List.append_assoc] at h1 h2 h3
  refine ⟨tv', K ++ K', ⟨by have := (List.getElem?_eq_some_iff.1 ha).1; omega, h1, h3.congr fun b hb => ?_, fun b hb g1 g2 => ?_, h.grew.trans h4⟩⟩
  · by_cases hba : b = a
    · subst hba
      rw [if_pos rfl, if_pos ((mem_take_succ ha).2 (Or.inr rfl))]
      by_cases hbt : b ∈ rs.take i
      · rw [if_pos hbt]
        have e1 : fixV p (L0 ++ (K ++ K')) (f b) = fixV p (L0 ++ K) (f b) := by
          rw [← List.append_assoc]
          exact fixV_grow (h.has_ b hbt)
        rw [e1]
        have e2 : newN p (L0 ++ (K ++ K')) (f b).k (newN p (L0 ++ K) (f b).k (f b).n) = newN p (L0 ++ K) (f b).k (f b).n := newN_id (newN_again hmj _ _ _)
        unfold fixV
        rw [e2]
      · rw [if_neg hbt]
    · rw [if_neg hba]
      by_cases hbt : b ∈ rs.take i
      · rw [if_pos hbt, if_pos ((mem_take_succ ha).2 (Or.inl hbt)), ← List.append_assoc]
        exact fixV_grow (h.has_ b hbt)
      · rw [if_neg hbt, if_neg (fun h' => ((mem_take_succ ha).1 h').elim hbt hba)]
  · rcases (mem_take_succ ha).1 hb with hb | rfl
    · rw [← List.append_assoc]
      exact has_append.mpr (Or.inl (h.has_ b hb g1 g2))
    · by_cases hbt : b ∈ rs.take i
      · rw [← List.append_assoc]
        exact has_append.mpr (Or.inl (h.has_ b hbt g1 g2))
      · rw [if_neg hbt] at h2
        exact h2 g1 g2
end Go.Proofs.Ythbkklnahhdgcaa.ChJ
