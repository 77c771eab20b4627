/-
  Is a class above itself: two ways to ask, one answer, in plain Lean. No program in sight.
-/
import Derived.Test.YthbkklnahhdgcaaDoorCodeP
namespace Go.Proofs.YthbkklnahhdgcaaDoor.CodeQ
open Go Go.RowKit CodeR CodeP

theorem pigeon : ∀ (n : Nat) (g : Nat → Nat), (∀ j, j ≤ n → g j < n) → ∃ a b, a < b ∧ b ≤ n ∧ g a = g b
  | 0, g, h => absurd (h 0 (Nat.le_refl _)) (by omega)
  | n + 1, g, h => by
    by_cases hj : ∃ j, j ≤ n ∧ g j = g (n + 1)
    · obtain ⟨j, h1, h2⟩ := hj
      exact ⟨j, n + 1, by omega, Nat.le_refl _, h2⟩
    · have hj' : ∀ j, j ≤ n → g j ≠ g (n + 1) := fun j h1 h2 => hj ⟨j, h1, h2⟩
      have hl := h (n + 1) (Nat.le_refl _)
      obtain ⟨a, b, h1, h2, h3⟩ := pigeon n (fun j => if g j = n then g (n + 1) else g j) (by
        intro j hjn
        have := h j (by omega)
        have := hj' j hjn
        try simp only
        split <;> omega)
      refine ⟨a, b, h1, by omega, ?_⟩
      have ha := hj' a (by omega)
      have hb := hj' b (by omega)
      try simp only at h3
      split at h3 <;> split at h3 <;> omega

/-- So many, from k on, are in range. -/
def liveN (R : Int → Bool) (ab : Int → Int) : Int → Nat → Bool
  | _, 0 => true
  | k, t + 1 => R k && liveN R ab (ab k) t
def it (ab : Int → Int) : Nat → Int → Int
  | 0, k => k
  | t + 1, k => it ab t (ab k)
def refB (R : Int → Bool) (ab : Int → Int) (i : Int) : Int → Nat → Bool
  | _, 0 => true
  | k, t + 1 => R k && (decide (k = i) || refB R ab i (ab k) t)

variable {R : Int → Bool} {ab : Int → Int}
theorem liveN_add : ∀ (a b : Nat) (k : Int), liveN R ab k (a + b) = (liveN R ab k a && liveN R ab (it ab a k) b)
  | 0, b, k => by simp [liveN, it]
  | a + 1, b, k => by
    rw [show a + 1 + b = (a + b) + 1 by omega]
    simp only [liveN, it, liveN_add a b (ab k), Bool.and_assoc]
theorem it_add : ∀ (a b : Nat) (k : Int), it ab (a + b) k = it ab b (it ab a k)
  | 0, b, k => by simp [it]
  | a + 1, b, k => by
    rw [show a + 1 + b = (a + b) + 1 by omega]
    simp only [it, it_add a b (ab k)]
theorem liveN_mono {k : Int} {a b : Nat} (h : liveN R ab k b = true) (hab : a ≤ b) : liveN R ab k a = true := by
  obtain ⟨c, rfl⟩ := Nat.exists_eq_add_of_le hab
  rw [liveN_add, Bool.and_eq_true] at h
  exact h.1
theorem ever_of_cycle {k : Int} {p : Nat} (hp : 0 < p) (hl : liveN R ab k p = true) (hc : it ab p k = k) : ∀ t, liveN R ab k t = true := by
  intro t
  induction t using Nat.strongRecOn with
  | _ t ih =>
    by_cases h : t ≤ p
    · exact liveN_mono hl h
    · rw [show t = p + (t - p) by omega, liveN_add, hl, hc, ih (t - p) (by omega)]; rfl
theorem ever_step {k : Int} (h : ∀ t, liveN R ab k t = true) : R k = true ∧ ∀ t, liveN R ab (ab k) t = true := by
  refine ⟨?_, fun t => ?_⟩
  · have := h 1; simpa [liveN] using this
  · have := h (t + 1); simp only [liveN, Bool.and_eq_true] at this; exact this.2
theorem refB_of_ever (i : Int) : ∀ (t : Nat) (k : Int), (∀ t, liveN R ab k t = true) → refB R ab i k t = true
  | 0, _, _ => rfl
  | t + 1, k, h => by
    obtain ⟨h1, h2⟩ := ever_step h
    simp only [refB, h1, refB_of_ever i t (ab k) h2, Bool.or_true, Bool.and_self]
theorem live_or_reach (i : Int) : ∀ (t : Nat) (k : Int), refB R ab i k t = true → liveN R ab k t = true ∨ ∃ j, it ab j k = i ∧ liveN R ab k j = true
  | 0, _, _ => Or.inl rfl
  | t + 1, k, h => by
    simp only [refB, Bool.and_eq_true, Bool.or_eq_true, decide_eq_true_eq] at h
    obtain ⟨h1, h2⟩ := h
    rcases h2 with h2 | h2
    · exact Or.inr ⟨0, h2, rfl⟩
    · rcases live_or_reach i t (ab k) h2 with h3 | ⟨j, h3, h4⟩
      · exact Or.inl (by simp [liveN, h1, h3])
      · exact Or.inr ⟨j + 1, h3, by simp [liveN, h1, h4]⟩
/-- The two ways find the same. -/
theorem round_eq {L : Nat} (hR : ∀ k, R k = true ↔ 0 ≤ k ∧ k < L) {i : Int} (hi : R i = true) : liveN R ab i (L + 1) = refB R ab i (ab i) (L + 2) := by
  rw [Bool.eq_iff_iff]
  constructor
  · intro h
    have hin : ∀ j, j ≤ L → R (it ab j i) = true := by
      intro j hj
      have h1 := liveN_mono h (show j + 1 ≤ L + 1 by omega)
      rw [liveN_add] at h1
      simp only [liveN, Bool.and_true, Bool.and_eq_true] at h1
      exact h1.2
    obtain ⟨a, b, h1, h2, h3⟩ := pigeon L (fun j => (it ab j i).toNat) (by
      intro j hj
      have := (hR _).mp (hin j hj)
      omega)
    have ha := (hR _).mp (hin a (by omega))
    have hb := (hR _).mp (hin b h2)
    have he : it ab b i = it ab a i := by omega
    have hev : ∀ t, liveN R ab (it ab a i) t = true := by
      refine ever_of_cycle (p := b - a) (by omega) ?_ ?_
      · have h4 := liveN_mono h (show b ≤ L + 1 by omega)
        rw [show b = a + (b - a) by omega, liveN_add, Bool.and_eq_true] at h4
        exact h4.2
      · rw [← it_add, show a + (b - a) = b by omega, he]
    have hev' : ∀ t, liveN R ab i t = true := by
      intro t
      by_cases hta : t ≤ a
      · exact liveN_mono h (by omega)
      · rw [show t = a + (t - a) by omega, liveN_add, hev, Bool.and_true]
        exact liveN_mono h (by omega)
    exact refB_of_ever i _ _ (ever_step hev').2
  · intro h
    rcases live_or_reach i _ _ h with h1 | ⟨j, h1, h2⟩
    · simp only [liveN, hi, Bool.true_and]
      exact liveN_mono h1 (by omega)
    · exact ever_of_cycle (p := j + 1) (by omega) (by simp [liveN, hi, h2]) h1 _

/-! ### what both say of the classes -/
def inB (m : Im) (k : Int) : Bool := decide (0 ≤ k) && decide (k < (m.classes.length : Int))
def aboveI (m : Im) (k : Int) : Int := ((m.classes[k.toNat]?).map (·.above)).getD 0
theorem inB_iff (m : Im) (k : Int) : inB m k = true ↔ 0 ≤ k ∧ k < m.classes.length := by simp [inB]
def methB (m : Im) (k : Int) : Bool := decide (k < 1) || decide ((m.funcs.length : Int) ≤ k)
def roundB (m : Im) (i : Int) : Bool := liveN (inB m) (aboveI m) i (m.classes.length + 1)
/-- A class of which something is wrong. -/
def classBad (m : Im) (i : Nat) (c : Cl) : Bool :=
  decide (c.above < -1) || decide ((m.classes.length : Int) ≤ c.above) || decide (c.names.length ≠ c.methods.length) || c.methods.any (methB m) || roundB m i
def limImB (m : Im) : Bool := within m.funcs.length 1 250 && (decide (m.consts.length ≤ 1000) && decide (m.classes.length ≤ 250))
/-- What is wrong with an image, and where (-1: nowhere). -/
structure ImVerdict (m : Im) (e p : Int) : Prop where
  lim : limImB m = false → e = 4 ∧ p = -1
  cls : limImB m = true → (∃ i c, m.classes[i]? = some c ∧ classBad m i c = true) → e = 2 ∧ p = -1
  fns : limImB m = true → (∀ i c, m.classes[i]? = some c → classBad m i c = false) → (e = 0 ∧ p = -1 ∧ ∀ f ∈ m.funcs, Verdict m f 0) ∨ (∃ (i : Nat) (f : Fc), m.funcs[i]? = some f ∧ p = i ∧ e ≠ 0 ∧ Verdict m f e ∧ ∀ j g, j < i → m.funcs[j]? = some g → Verdict m g 0)
theorem ImVerdict.unique {m : Im} {e p e' p' : Int} (h : ImVerdict m e p) (k : ImVerdict m e' p') : e = e' ∧ p = p' := by
  cases h1 : limImB m
  · obtain ⟨rfl, rfl⟩ := h.lim h1
    obtain ⟨rfl, rfl⟩ := k.lim h1
    exact ⟨rfl, rfl⟩
  · by_cases h2 : ∃ i c, m.classes[i]? = some c ∧ classBad m i c = true
    · obtain ⟨rfl, rfl⟩ := h.cls h1 h2
      obtain ⟨rfl, rfl⟩ := k.cls h1 h2
      exact ⟨rfl, rfl⟩
    · have h2' : ∀ i c, m.classes[i]? = some c → classBad m i c = false := by
        intro i c hc
        cases h3 : classBad m i c
        · rfl
        · exact absurd ⟨i, c, hc, h3⟩ h2
      rcases h.fns h1 h2' with ⟨rfl, rfl, ha⟩ | ⟨i, f, hi, rfl, hne, hv, hb⟩ <;> rcases k.fns h1 h2' with ⟨rfl, rfl, ha'⟩ | ⟨i', f', hi', rfl, hne', hv', hb'⟩
      · exact ⟨rfl, rfl⟩
      · exact absurd (hv'.unique (ha f' (List.mem_of_getElem? hi'))) hne'
      · exact absurd (hv.unique (ha' f (List.mem_of_getElem? hi))) hne
      · rcases Nat.lt_trichotomy i i' with hlt | rfl | hlt
        · exact absurd (hv.unique (hb' i f hlt hi)) hne
        · rw [hi] at hi'; cases hi'
          exact ⟨hv.unique hv', rfl⟩
        · exact absurd (hv'.unique (hb i' f' hlt hi')) hne'
end Go.Proofs.YthbkklnahhdgcaaDoor.CodeQ
