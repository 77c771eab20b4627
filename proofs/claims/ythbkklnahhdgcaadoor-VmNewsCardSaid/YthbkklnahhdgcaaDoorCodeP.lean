/-
  How the numbers of values are found, in plain Lean: whatever two ways spread them, what they find is the document's labelling, or there is none. No program in sight.
-/
import Derived.Test.YthbkklnahhdgcaaDoorCodeR
namespace Go.Proofs.YthbkklnahhdgcaaDoor.CodeP
open Go Go.RowKit CodeR

theorem leave_pos (x : I3) : 0 ≤ leaveI x := by unfold leaveI; split <;> decide

/-- The label at a place: -1 is none. -/
def lab (deep : List Int) (i : Nat) : Option Int := match deep[i]? with | some n => if n < 0 then none else some n | none => none
/-- One comes to a place with a number of values: the labels, the error. -/
def comeD (deep : List Int) (e : Int) (p : Nat) (n : Int) : List Int × Int :=
  if deep.length ≤ p ∨ 200 < n then (deep, 3)
  else if deep.getD p 0 < 0 then (deep.set p n, e)
  else if deep.getD p 0 = n then (deep, e) else (deep, 3)
/-- Is that place new? -/
def comeN (deep : List Int) (p : Nat) (n : Int) : Bool := !(decide (deep.length ≤ p) || decide (200 < n)) && decide (deep.getD p 0 < 0)

theorem lab_some {deep : List Int} {i : Nat} {n : Int} (h : lab deep i = some n) : deep[i]? = some n ∧ 0 ≤ n := by
  unfold lab at h
  split at h
  · rename_i k hk
    split at h
    · cases h
    · cases h; exact ⟨hk, by omega⟩
  · cases h
theorem lab_of {deep : List Int} {i : Nat} {n : Int} (h : deep[i]? = some n) (h0 : 0 ≤ n) : lab deep i = some n := by
  unfold lab; rw [h]; simp only; rw [if_neg (by omega)]
theorem lab_lt {deep : List Int} {i : Nat} {n : Int} (h : lab deep i = some n) : i < deep.length := by
  obtain ⟨h1, _⟩ := lab_some h
  exact (List.getElem?_eq_some_iff.mp h1).1
theorem lab_none {deep : List Int} {i : Nat} (hi : i < deep.length) (h : lab deep i = none) : deep.getD i 0 < 0 := by
  unfold lab at h
  rw [List.getElem?_eq_getElem hi] at h
  rw [List.getD_eq_getElem?_getD, List.getElem?_eq_getElem hi]
  simp only [Option.getD_some] at h ⊢
  split at h
  · assumption
  · cases h
theorem lab_set {deep : List Int} {p : Nat} {n : Int} (hp : p < deep.length) (h0 : 0 ≤ n) (i : Nat) : lab (deep.set p n) i = if i = p then some n else lab deep i := by
  by_cases h : i = p
  · subst h
    rw [if_pos rfl]
    exact lab_of (by rw [List.getElem?_set_self hp]) h0
  · rw [if_neg h]
    unfold lab
    rw [List.getElem?_set_ne (Ne.symm h)]

structure Inv (f : Fc) (P : Nat → Prop) (deep : List Int) (e : Int) : Prop where
  len : deep.length = f.code.length
  range : ∀ n ∈ deep, -1 ≤ n ∧ n ≤ 200
  err : e = 0 ∨ e = 3
  forced : ∀ d, Fits f d → ∀ i n, lab deep i = some n → d i = some n
  bad : e ≠ 0 → ∀ d, ¬ Fits f d
  done : e = 0 → ∀ i n x, lab deep i = some n → ¬ P i → f.code[i]? = some x → takeI x ≤ n ∧ ∀ y ∈ follows i n x, lab deep y.1.toNat = some y.2

theorem Inv.mono {f : Fc} {P Q : Nat → Prop} {deep : List Int} {e : Int} (h : Inv f P deep e) (hPQ : ∀ i, P i → Q i) : Inv f Q deep e :=
  ⟨h.len, h.range, h.err, h.forced, h.bad, fun he i n x hl hq => h.done he i n x hl (fun hp => hq (hPQ i hp))⟩

theorem Inv.top (f : Fc) (P : Nat → Prop) : Inv f P (List.replicate f.code.length (-1)) 0 := by
  have hl : ∀ i, lab (List.replicate f.code.length (-1)) i = none := by
    intro i
    unfold lab
    rw [List.getElem?_replicate]
    split <;> rename_i h
    · split at h
      · cases h; rfl
      · cases h
    · rfl
  refine ⟨by simp, ?_, Or.inl rfl, ?_, fun h => absurd rfl h, ?_⟩
  · intro n hn
    rw [List.mem_replicate] at hn
    omega
  · intro d _ i n h; rw [hl] at h; cases h
  · intro _ i n x h; rw [hl] at h; cases h

/-- What coming to a place does. -/
theorem Inv.come {f : Fc} {P : Nat → Prop} {deep : List Int} {e : Int} (h : Inv f P deep e) {p : Nat} {n : Int} (hn : 0 ≤ n) (hf : ∀ d, Fits f d → d p = some n) :
    Inv f (fun i => P i ∨ (comeN deep p n = true ∧ i = p)) (comeD deep e p n).1 (comeD deep e p n).2 ∧ (∀ i k, lab deep i = some k → lab (comeD deep e p n).1 i = some k) ∧ ((comeD deep e p n).2 = 0 → e = 0 ∧ lab (comeD deep e p n).1 p = some n)
    ∧ (comeN deep p n = true → lab deep p = none ∧ p < deep.length) ∧ (comeN deep p n = false → (comeD deep e p n).1 = deep) := by
  have he3 := h.err
  unfold comeD comeN
  by_cases h1 : deep.length ≤ p ∨ 200 < n
  · rw [if_pos h1]
    have hb : ∀ d, ¬ Fits f d := by
      intro d hd
      have := hd.within p n (hf d hd)
      have := h.len
      omega
    have hd1 : (!(decide (deep.length ≤ p) || decide (200 < n))) = false := by
      rcases h1 with h1 | h1 <;> simp [h1]
    refine ⟨⟨h.len, h.range, Or.inr rfl, h.forced, fun _ => hb, fun h => absurd (show (3 : Int) = 0 from h) (by decide)⟩, fun i k hk => hk, fun h => absurd (show (3 : Int) = 0 from h) (by decide), ?_, fun _ => rfl⟩
    rw [hd1]; intro h; cases h
  · rw [if_neg h1]
    have hp : p < deep.length := by omega
    have hg : deep.getD p 0 = deep[p] := by rw [List.getD_eq_getElem?_getD, List.getElem?_eq_getElem hp]; rfl
    have hq : deep[p]? = some (deep.getD p 0) := by rw [hg, List.getElem?_eq_getElem hp]
    have hd1 : (!(decide (deep.length ≤ p) || decide (200 < n))) = true := by simp; omega
    rw [hd1]
    by_cases h2 : deep.getD p 0 < 0
    · rw [if_pos h2]
      have hls := fun i => lab_set (deep := deep) (n := n) hp hn i
      have hlp : lab deep p = none := by unfold lab; rw [hq]; simp only; rw [if_pos h2]
      have hpers : ∀ i k, lab deep i = some k → lab (deep.set p n) i = some k := by
        intro i k hk
        rw [hls, if_neg]
        · exact hk
        · rintro rfl; rw [hlp] at hk; cases hk
      refine ⟨⟨by simpa using h.len, ?_, h.err, ?_, h.bad, ?_⟩, hpers, fun he => ⟨he, by simp only; rw [hls, if_pos rfl]⟩, fun _ => ⟨hlp, hp⟩, ?_⟩
      · intro k hk
        rcases List.mem_or_eq_of_mem_set hk with hk | rfl
        · exact h.range k hk
        · omega
      · intro d hd i k hk
        simp only [hls] at hk
        split at hk
        · rename_i hi; subst hi; cases hk; exact hf d hd
        · exact h.forced d hd i k hk
      · intro he i k x hk hP hx
        simp only [hls] at hk
        split at hk
        · rename_i hi; exact absurd (Or.inr ⟨by simp only [Bool.true_and, decide_eq_true_eq]; exact h2, hi⟩) hP
        · obtain ⟨h3, h4⟩ := h.done he i k x hk (fun hp' => hP (Or.inl hp')) hx
          exact ⟨h3, fun y hy => hpers _ _ (h4 y hy)⟩
      · intro hN; rw [decide_eq_true h2] at hN; simp at hN
    · rw [if_neg h2]
      have hlp : lab deep p = some (deep.getD p 0) := lab_of hq (by omega)
      have hN : decide (deep.getD p 0 < 0) = false := by simpa using h2
      rw [hN]
      by_cases h3 : deep.getD p 0 = n
      · rw [if_pos h3]
        rw [h3] at hlp
        exact ⟨h.mono (fun i hi => Or.inl hi), fun i k hk => hk, fun he => ⟨he, hlp⟩, fun h => by simp at h, fun _ => rfl⟩
      · rw [if_neg h3]
        refine ⟨⟨h.len, h.range, Or.inr rfl, h.forced, ?_, fun h => absurd (show (3 : Int) = 0 from h) (by decide)⟩, fun i k hk => hk, fun h => absurd (show (3 : Int) = 0 from h) (by decide), fun h => by simp at h, fun _ => rfl⟩
        intro _ d hd
        have h4 := h.forced d hd p _ hlp
        rw [hf d hd] at h4
        cases h4
        exact h3 rfl

/-- An instruction's fewest values are not there: there is no labelling. -/
theorem Inv.few {f : Fc} {P : Nat → Prop} {deep : List Int} {e : Int} (h : Inv f P deep e) {i : Nat} {n : Int} {x : I3} (hl : lab deep i = some n) (hx : f.code[i]? = some x) (ht : n < takeI x) : ∀ d, ¬ Fits f d := by
  intro d hd
  have := (hd.goes i n x (h.forced d hd i n hl) hx).1
  omega
/-- What follows is forced. -/
theorem Inv.goes {f : Fc} {P : Nat → Prop} {deep : List Int} {e : Int} (h : Inv f P deep e) {i : Nat} {n : Int} {x : I3} (hl : lab deep i = some n) (hx : f.code[i]? = some x) {y : Int × Int} (hy : y ∈ follows i n x) : ∀ d, Fits f d → d y.1.toNat = some y.2 :=
  fun d hd => (hd.goes i n x (h.forced d hd i n hl) hx).2 y hy
/-- A place that was owed is done. -/
theorem Inv.pay {f : Fc} {P Q : Nat → Prop} {deep : List Int} {e : Int} (h : Inv f P deep e) {i : Nat} {n : Int} {x : I3} (hl : e = 0 → lab deep i = some n) (hx : f.code[i]? = some x) (ht : takeI x ≤ n)
    (hy : e = 0 → ∀ y ∈ follows i n x, lab deep y.1.toNat = some y.2) (hPQ : ∀ k, P k → Q k ∨ k = i) : Inv f Q deep e := by
  refine ⟨h.len, h.range, h.err, h.forced, h.bad, ?_⟩
  intro he k m z hk hQ hz
  by_cases hki : k = i
  · subst hki
    rw [hl he] at hk; cases hk
    rw [hx] at hz; cases hz
    exact ⟨ht, hy he⟩
  · exact h.done he k m z hk (fun hp => (hPQ k hp).elim hQ hki) hz
/-- Nothing is owed: that is a labelling. -/
theorem Inv.end_ok {f : Fc} {deep : List Int} (h : Inv f (fun _ => False) deep 0) (ht : lab deep 0 = some 0) (hh : ∀ h ∈ f.hs, lab deep h.g.toNat = some 1) : Fits f (lab deep) := by
  refine ⟨ht, hh, ?_, fun i n x hl hx => h.done rfl i n x hl (fun h => h) hx⟩
  intro i n hl
  have h1 := lab_lt hl
  obtain ⟨h2, _⟩ := lab_some hl
  have h3 := h.range n (List.mem_of_getElem? h2)
  exact ⟨by rw [← h.len]; exact h1, h3.2⟩

/-- How many places have no label. -/
def unl (deep : List Int) : Nat := deep.countP (fun n => decide (n < 0))
theorem unl_come {deep : List Int} {e : Int} {p : Nat} {n : Int} (hn : 0 ≤ n) : unl (comeD deep e p n).1 + (if comeN deep p n then 1 else 0) = unl deep := by
  unfold comeD comeN
  by_cases h1 : deep.length ≤ p ∨ 200 < n
  · rw [if_pos h1]
    have hd1 : (!(decide (deep.length ≤ p) || decide (200 < n))) = false := by
      rcases h1 with h1 | h1 <;> simp [h1]
    rw [hd1]; simp
  · rw [if_neg h1]
    have hp : p < deep.length := by omega
    have hd1 : (!(decide (deep.length ≤ p) || decide (200 < n))) = true := by simp; omega
    rw [hd1]
    by_cases h2 : deep.getD p 0 < 0
    · rw [if_pos h2]
      have hg : deep.getD p 0 = deep[p] := by rw [List.getD_eq_getElem?_getD, List.getElem?_eq_getElem hp]; rfl
      simp only [unl, List.countP_set hp, decide_eq_true h2, Bool.true_and, if_true]
      rw [hg] at h2
      have hpos : 0 < deep.countP (fun n => decide (n < 0)) := List.countP_pos_iff.mpr ⟨deep[p], List.getElem_mem hp, by simpa using h2⟩
      simp only [h2, decide_true, if_true]
      rw [if_neg (by simp; omega)]
      omega
    · rw [if_neg h2]
      have hN : decide (deep.getD p 0 < 0) = false := by simpa using h2
      rw [hN]
      by_cases h3 : deep.getD p 0 = n
      · rw [if_pos h3]; simp
      · rw [if_neg h3]; simp

/-! ### what check and function find -/
def limB (f : Fc) : Bool := within f.code.length 1 5000 && (within f.params 0 8 && within f.slots f.params 200)
def handB (f : Fc) (h : H3) : Bool := decide (0 ≤ h.f) && (decide (h.f ≤ h.t) && (decide (h.t ≤ (f.code.length : Int)) && within h.g 0 ((f.code.length : Int) - 1)))
def varB (f : Fc) (v : Vr) : Bool := within v.slot 0 (f.slots - 1) && (decide (0 ≤ v.f) && (decide (v.f ≤ v.t) && decide (v.t ≤ (f.code.length : Int))))
/-- What is wrong with a function (4: too much; 2: what it names isn't there; 3: its numbers of values; 0: nothing). -/
structure Verdict (m : Im) (f : Fc) (e : Int) : Prop where
  lim : limB f = false → e = 4
  right : limB f = true → f.code.all (rightB m f) = false → e = 2
  hand : limB f = true → f.code.all (rightB m f) = true → (f.hs.all (handB f) && f.vars.all (varB f)) = false → e = 2
  fit : limB f = true → f.code.all (rightB m f) = true → (f.hs.all (handB f) && f.vars.all (varB f)) = true → (e = 0 ∧ ∃ d, Fits f d) ∨ (e = 3 ∧ ∀ d, ¬ Fits f d)
theorem Verdict.unique {m : Im} {f : Fc} {a b : Int} (h : Verdict m f a) (k : Verdict m f b) : a = b := by
  cases h1 : limB f
  · rw [h.lim h1, k.lim h1]
  · cases h2 : f.code.all (rightB m f)
    · rw [h.right h1 h2, k.right h1 h2]
    · cases h3 : (f.hs.all (handB f) && f.vars.all (varB f))
      · rw [h.hand h1 h2 h3, k.hand h1 h2 h3]
      · rcases h.fit h1 h2 h3 with ⟨rfl, d, hd⟩ | ⟨rfl, hd⟩ <;> rcases k.fit h1 h2 h3 with ⟨rfl, d', hd'⟩ | ⟨rfl, hd'⟩
        · rfl
        · exact absurd hd (hd' d)
        · exact absurd hd' (hd d')
        · rfl
end Go.Proofs.YthbkklnahhdgcaaDoor.CodeP
