/-
  shape as a plain function: it has an answer, and how long it is at most. No program in sight.
-/
import Derived.Test.YthbkklnahhdgcaaMMA
namespace Go.Proofs.Ythbkklnahhdgcaa.ChTa
open Go Go.Proofs.Ythbkklnahhdgcaa.Lib Go.Proofs.Ythbkklnahhdgcaa.ChA Go.Proofs.Ythbkklnahhdgcaa.ChT

/-- How many objects are not seen. -/
def unseen (O : List Ob) (s : List Int) : Nat := (O.filter fun o => decide (o.id ∉ s)).length
theorem filter_le {α : Type} {p q : α → Bool} (l : List α) (h : ∀ x, p x = true → q x = true) : (l.filter p).length ≤ (l.filter q).length := by
  induction l with
  | nil => exact Nat.le_refl _
  | cons x l ih =>
    rw [List.filter_cons, List.filter_cons]
    by_cases hp : p x = true
    · rw [if_pos hp, if_pos (h x hp)]
      simpa using ih
    · rw [if_neg hp]
      split
      · simp
        omega
      · exact ih
theorem filter_lt {α : Type} {p q : α → Bool} (l : List α) (h : ∀ x, p x = true → q x = true) {y : α} (hy : y ∈ l) (h1 : p y = false) (h2 : q y = true) : (l.filter p).length < (l.filter q).length := by
  induction l with
  | nil => cases hy
  | cons x l ih =>
    rw [List.filter_cons, List.filter_cons]
    rcases List.mem_cons.mp hy with rfl | hy
    · rw [if_neg (by rw [h1]; exact Bool.false_ne_true), if_pos h2]
      have := filter_le l h
      simp
      omega
    · have := ih hy
      by_cases hp : p x = true
      · rw [if_pos hp, if_pos (h x hp)]
        simpa using this
      · rw [if_neg hp]
        split
        · simp
          omega
        · exact this
theorem unseen_le (O : List Ob) {s t : List Int} (h : ∀ i ∈ s, i ∈ t) : unseen O t ≤ unseen O s := filter_le O fun x hx => by
  simp only [decide_eq_true_eq] at hx ⊢
  exact fun hs => hx (h _ hs)
theorem unseen_lt {O : List Ob} {s : List Int} {o : Ob} (ho : o ∈ O) (hs : o.id ∉ s) : unseen O (s ++ [o.id]) < unseen O s := filter_lt O (fun x hx => by
  simp only [decide_eq_true_eq] at hx ⊢
  exact fun hs => hx (List.mem_append.mpr (Or.inl hs))) ho (by simp) (by simpa using hs)

theorem shpl_some {g : Vl → List Int → Option (List Int × List Int)} {O : List Ob} {f : Nat} : ∀ (l : List Vl) (_ : ∀ v ∈ l, ∀ s, unseen O s < f → ∃ x s', g v s = some (x, s') ∧ ∀ i ∈ s, i ∈ s') (out s : List Int), unseen O s < f → ∃ out' s', shpl g l out s = some (out', s') ∧ ∀ i ∈ s, i ∈ s'
  | [], _, out, s, _ => ⟨out, s, rfl, fun _ h => h⟩
  | v :: l, h, out, s, hs => by
    obtain ⟨x, s1, h1, h2⟩ := h v (List.mem_cons_self ..) s hs
    obtain ⟨out', s', h3, h4⟩ := shpl_some l (fun y hy => h y (List.mem_cons_of_mem _ hy)) (out ++ x) s1 (Nat.lt_of_le_of_lt (unseen_le O h2) hs)
    exact ⟨out', s', by unfold shpl; rw [h1]; exact h3, fun i hi => h4 i (h2 i hi)⟩
/-- It has an answer. -/
theorem shp_some {O : List Ob} (hc : ∀ o ∈ O, ∀ v ∈ o.fs, v.k = 4 → ∃ x, ChT.look O v.n = some x) : ∀ (f : Nat) (v : Vl) (s : List Int), unseen O s < f → (v.k = 4 → ∃ x, ChT.look O v.n = some x) → ∃ out s', shp O f v s = some (out, s') ∧ ∀ i ∈ s, i ∈ s' := by
  intro f
  induction f with
  | zero => intro v s h _; omega
  | succ f ih =>
    intro v s hs hv
    unfold shp
    by_cases h4 : v.k ≠ 4
    · exact ⟨_, s, by rw [if_pos h4], fun _ h => h⟩
    · rw [if_neg h4]
      obtain ⟨o, ho⟩ := hv (Decidable.not_not.mp h4)
      rw [ho]
      dsimp only
      by_cases hsn : o.id ∈ s
      · exact ⟨_, s, by rw [if_pos hsn], fun _ h => h⟩
      · rw [if_neg hsn]
        have hoO := (look_mem ho).1
        have hu := unseen_lt hoO hsn
        obtain ⟨out, s', h1, h2⟩ := shpl_some (g := shp O f) (O := O) (f := f) o.fs (fun y hy t ht => ih y t ht (hc o hoO y hy)) [o.id, o.kind, o.tag, (o.fs.length : Int)] (s ++ [o.id]) (by omega)
        exact ⟨out, s', h1, fun i hi => h2 i (List.mem_append.mpr (Or.inl hi))⟩

/-- How much what was seen weighs. -/
def weigh (O : List Ob) (s : List Int) : Nat := ((O.filter fun o => decide (o.id ∈ s)).map fun o => 4 + 3 * o.fs.length).sum
theorem weigh_le (O : List Ob) {s t : List Int} (h : ∀ i ∈ s, i ∈ t) : weigh O s ≤ weigh O t := by
  induction O with
  | nil => exact Nat.le_refl _
  | cons x O ih =>
    unfold weigh at ih ⊢
    rw [List.filter_cons, List.filter_cons]
    by_cases hp : x.id ∈ s
    · rw [if_pos (by simpa using hp), if_pos (by simpa using h _ hp), List.map_cons, List.map_cons, List.sum_cons, List.sum_cons]
      omega
    · rw [if_neg (by simpa using hp)]
      split
      · rw [List.map_cons, List.sum_cons]
        omega
      · exact ih
theorem weigh_add {O : List Ob} {s : List Int} {o : Ob} (ho : o ∈ O) (hs : o.id ∉ s) : weigh O s + (4 + 3 * o.fs.length) ≤ weigh O (s ++ [o.id]) := by
  induction O with
  | nil => cases ho
  | cons x O ih =>
    have hle : weigh O s ≤ weigh O (s ++ [o.id]) := weigh_le O fun i hi => List.mem_append.mpr (Or.inl hi)
    unfold weigh at ih hle ⊢
    rw [List.filter_cons, List.filter_cons]
    rcases List.mem_cons.mp ho with rfl | ho
    · rw [if_neg (by simpa using hs), if_pos (by simp), List.map_cons, List.sum_cons]
      omega
    · have := ih ho
      by_cases hp : x.id ∈ s
      · rw [if_pos (by simpa using hp), if_pos (by simp [hp]), List.map_cons, List.map_cons, List.sum_cons, List.sum_cons]
        omega
      · rw [if_neg (by simpa using hp)]
        split
        · rw [List.map_cons, List.sum_cons]
          omega
        · exact this
theorem shpl_long {g : Vl → List Int → Option (List Int × List Int)} {O : List Ob} : ∀ (l : List Vl) (_ : ∀ v ∈ l, ∀ s x s', g v s = some (x, s') → (∀ i ∈ s, i ∈ s') ∧ x.length + weigh O s ≤ 3 + weigh O s') (out s out' s' : List Int), shpl g l out s = some (out', s') → (∀ i ∈ s, i ∈ s') ∧ out'.length + weigh O s ≤ out.length + 3 * l.length + weigh O s'
  | [], _, out, s, out', s', h => by
    simp only [shpl, Option.some.injEq, Prod.mk.injEq] at h
    obtain ⟨rfl, rfl⟩ := h
    exact ⟨fun _ h => h, by simp⟩
  | v :: l, hg, out, s, out', s', h => by
    unfold shpl at h
    cases hv : g v s with
    | none => rw [hv] at h; cases h
    | some p =>
      obtain ⟨x, s1⟩ := p
      rw [hv] at h
      obtain ⟨a1, a2⟩ := hg v (List.mem_cons_self ..) s x s1 hv
      obtain ⟨b1, b2⟩ := shpl_long l (fun y hy => hg y (List.mem_cons_of_mem _ hy)) _ _ _ _ h
      rw [List.length_append] at b2
      refine ⟨fun i hi => b1 i (a1 i hi), ?_⟩
      rw [List.length_cons]
      omega
theorem shp_long {O : List Ob} : ∀ (f : Nat) (v : Vl) (s out s' : List Int), shp O f v s = some (out, s') → (∀ i ∈ s, i ∈ s') ∧ out.length + weigh O s ≤ 3 + weigh O s' := by
  intro f
  induction f with
  | zero => intro v s out s' h; cases h
  | succ f ih =>
    intro v s out s' h
    unfold shp at h
    by_cases h4 : v.k ≠ 4
    · rw [if_pos h4] at h
      cases h
      exact ⟨fun _ h => h, by simp⟩
    · rw [if_neg h4] at h
      cases ho : ChT.look O v.n with
      | none => rw [ho] at h; cases h
      | some o =>
        rw [ho] at h
        dsimp only at h
        by_cases hsn : o.id ∈ s
        · rw [if_pos hsn] at h
          cases h
          exact ⟨fun _ h => h, by simp⟩
        · rw [if_neg hsn] at h
          obtain ⟨b1, b2⟩ := shpl_long (O := O) o.fs (fun y _ t x t' ht => ih y t x t' ht) _ _ _ _ h
          have h1 := weigh_add (look_mem ho).1 hsn
          refine ⟨fun i hi => b1 i (List.mem_append.mpr (Or.inl hi)), ?_⟩
          simp only [List.length_cons, List.length_nil] at b2
          omega
theorem weigh_all (O : List Ob) (s : List Int) : weigh O s ≤ 4 * total O := by
  induction O with
  | nil => exact Nat.le_refl _
  | cons x O ih =>
    unfold weigh at ih ⊢
    rw [List.filter_cons, total_cons]
    unfold Ob.len
    split
    · rw [List.map_cons, List.sum_cons]
      omega
    · omega
/-- What a list of values gives is no shorter than what was there. -/
theorem shpl_mono {g : Vl → List Int → Option (List Int × List Int)} : ∀ (l : List Vl) (out s out' s' : List Int), shpl g l out s = some (out', s') → out.length ≤ out'.length
  | [], out, s, out', s', h => by
    simp only [shpl, Option.some.injEq, Prod.mk.injEq] at h
    rw [h.1]
    exact Nat.le_refl _
  | v :: l, out, s, out', s', h => by
    unfold shpl at h
    cases hv : g v s with
    | none => rw [hv] at h; cases h
    | some p =>
      obtain ⟨x, s1⟩ := p
      rw [hv] at h
      have := shpl_mono l _ _ _ _ h
      rw [List.length_append] at this
      omega
theorem shp_ne {O : List Ob} {f : Nat} {v : Vl} {s out s' : List Int} (h : shp O f v s = some (out, s')) : 0 < out.length := by
  cases f with
  | zero => cases h
  | succ f =>
    unfold shp at h
    by_cases h4 : v.k ≠ 4
    · rw [if_pos h4] at h
      cases h
      simp
    · rw [if_neg h4] at h
      cases ho : ChT.look O v.n with
      | none => rw [ho] at h; cases h
      | some o =>
        rw [ho] at h
        dsimp only at h
        by_cases hsn : o.id ∈ s
        · rw [if_pos hsn] at h
          cases h
          simp
        · rw [if_neg hsn] at h
          have := shpl_mono o.fs _ _ _ _ h
          simp only [List.length_cons, List.length_nil] at this
          omega
end Go.Proofs.Ythbkklnahhdgcaa.ChTa
