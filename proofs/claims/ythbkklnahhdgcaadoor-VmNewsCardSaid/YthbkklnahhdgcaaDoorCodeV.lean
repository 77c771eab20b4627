/-
  check's loop in plain Lean: what is to be done is owed; at its end there is a labelling, or none.
-/
import Derived.Test.YthbkklnahhdgcaaDoorCodeP
namespace Go.Proofs.YthbkklnahhdgcaaDoor.CodeV
open Go Go.RowKit CodeR CodeP

def nextT (deep : List Int) (todo : List Nat) (p : Nat) (n : Int) : List Nat := if comeN deep p n then todo ++ [p] else todo
structure PS (f : Fc) (pend : Nat → Prop) (deep : List Int) (todo : List Nat) (e : Int) : Prop where
  inv : Inv f (fun i => i ∈ todo ∨ pend i) deep e
  room : todo.length + unl deep ≤ f.code.length
  tin : ∀ i ∈ todo, ∃ n, lab deep i = some n
/-- The beginning's labels, and those of k handlers. -/
def St (f : Fc) (k : Nat) (deep : List Int) (e : Int) : Prop := e = 0 → lab deep 0 = some 0 ∧ ∀ j h, j < k → f.hs[j]? = some h → lab deep h.g.toNat = some 1

theorem unl_rep (n : Nat) : unl (List.replicate n (-1)) = n := by
  simp [unl, List.countP_replicate]
theorem PS.top (f : Fc) : PS f (fun _ => False) (List.replicate f.code.length (-1)) [] 0 :=
  ⟨Inv.top f _, by rw [unl_rep]; simp, fun i hi => by cases hi⟩

theorem PS.come {f : Fc} {pend : Nat → Prop} {deep : List Int} {todo : List Nat} {e : Int} (h : PS f pend deep todo e) {p : Nat} {n : Int} (hn : 0 ≤ n) (hf : ∀ d, Fits f d → d p = some n) :
    PS f pend (comeD deep e p n).1 (nextT deep todo p n) (comeD deep e p n).2 ∧ (∀ i k, lab deep i = some k → lab (comeD deep e p n).1 i = some k) ∧ ((comeD deep e p n).2 = 0 → e = 0 ∧ lab (comeD deep e p n).1 p = some n)
    ∧ (nextT deep todo p n).length + 2 * unl (comeD deep e p n).1 ≤ todo.length + 2 * unl deep := by
  obtain ⟨h1, h2, h3, h4, _⟩ := h.inv.come hn hf
  have h6 := unl_come (deep := deep) (e := e) (p := p) hn
  have hr := h.room
  unfold nextT
  cases hN : comeN deep p n
  · rw [hN] at h1 h6
    simp only [Bool.false_eq_true, if_false] at h6 ⊢
    refine ⟨⟨h1.mono ?_, by omega, fun i hi => ?_⟩, h2, h3, by omega⟩
    · rintro i (hi | ⟨hi, _⟩)
      · exact hi
      · cases hi
    · obtain ⟨k, hk⟩ := h.tin i hi
      exact ⟨k, h2 i k hk⟩
  · rw [hN] at h1 h6
    obtain ⟨h7, h8⟩ := h4 hN
    simp only [if_true, List.length_append, List.length_singleton] at h6 ⊢
    refine ⟨⟨h1.mono ?_, by rw [List.length_append, List.length_singleton]; omega, fun i hi => ?_⟩, h2, h3, by omega⟩
    · rintro i (hi | ⟨_, hi⟩)
      · rcases hi with hi | hi
        · exact Or.inl (List.mem_append_left _ hi)
        · exact Or.inr hi
      · exact Or.inl (List.mem_append_right _ (by simp [hi]))
    · rcases List.mem_append.mp hi with hi | hi
      · obtain ⟨k, hk⟩ := h.tin i hi
        exact ⟨k, h2 i k hk⟩
      · have hip : i = p := by simpa using hi
        subst hip
        have hD : comeD deep e i n = (deep.set i n, e) := by
          unfold comeN at hN
          simp only [Bool.and_eq_true, Bool.not_eq_true', Bool.or_eq_false_iff, decide_eq_false_iff_not, decide_eq_true_eq] at hN
          unfold comeD
          rw [if_neg (by omega), if_pos hN.2]
        rw [hD]
        exact ⟨n, by rw [lab_set h8 hn, if_pos rfl]⟩

theorem St.keep {f : Fc} {k : Nat} {deep deep' : List Int} {e e' : Int} (h : St f k deep e) (he : e' = 0 → e = 0) (hl : ∀ i n, lab deep i = some n → lab deep' i = some n) : St f k deep' e' := by
  intro h0
  obtain ⟨h1, h2⟩ := h (he h0)
  exact ⟨hl _ _ h1, fun j x hj hx => hl _ _ (h2 j x hj hx)⟩
theorem St.first {f : Fc} {deep : List Int} {e : Int} (h : e = 0 → lab deep 0 = some 0) : St f 0 deep e := fun h0 => ⟨h h0, fun j x hj => by omega⟩
theorem St.more {f : Fc} {k : Nat} {deep : List Int} {e : Int} (h : St f k deep e) {x : H3} (hx : f.hs[k]? = some x) (hl : e = 0 → lab deep x.g.toNat = some 1) : St f (k + 1) deep e := by
  intro h0
  obtain ⟨h1, h2⟩ := h h0
  refine ⟨h1, fun j y hj hy => ?_⟩
  by_cases hjk : j = k
  · subst hjk; rw [hx] at hy; cases hy; exact hl h0
  · exact h2 j y (by omega) hy
theorem forced_top {f : Fc} : ∀ d, Fits f d → d 0 = some 0 := fun _ h => h.top
theorem forced_hand {f : Fc} {k : Nat} {x : H3} (hx : f.hs[k]? = some x) : ∀ d, Fits f d → d x.g.toNat = some 1 := fun _ h => h.hand x (List.mem_of_getElem? hx)

/-- The last one is taken. -/
theorem PS.pop {f : Fc} {deep : List Int} {t : List Nat} {p : Nat} (h : PS f (fun _ => False) deep (t ++ [p]) 0) : ∃ n, lab deep p = some n ∧ PS f (fun i => i = p) deep t 0 := by
  obtain ⟨n, hn⟩ := h.tin p (by simp)
  refine ⟨n, hn, ⟨h.inv.mono ?_, ?_, fun i hi => h.tin i (List.mem_append_left _ hi)⟩⟩
  · rintro i (hi | hi)
    · rcases List.mem_append.mp hi with hi | hi
      · exact Or.inl hi
      · exact Or.inr (by simpa using hi)
    · exact hi.elim
  · have := h.room
    rw [List.length_append] at this
    simp at this
    omega
/-- All that follows is labelled: that one is done. -/
theorem PS.pay {f : Fc} {deep : List Int} {todo : List Nat} {e : Int} {p : Nat} (h : PS f (fun i => i = p) deep todo e) {n : Int} {x : I3} (hl : e = 0 → lab deep p = some n) (hx : f.code[p]? = some x) (ht : takeI x ≤ n)
    (hy : e = 0 → ∀ y ∈ follows p n x, lab deep y.1.toNat = some y.2) : PS f (fun _ => False) deep todo e :=
  ⟨h.inv.pay hl hx ht hy (fun _k hk => hk.elim (fun hk => Or.inl (Or.inl hk)) Or.inr), h.room, h.tin⟩
/-- At the end. -/
theorem PS.fits {f : Fc} {deep : List Int} (h : PS f (fun _ => False) deep [] 0) (hs : St f f.hs.length deep 0) : ∃ d, Fits f d := by
  obtain ⟨h1, h2⟩ := hs rfl
  refine ⟨lab deep, (h.inv.mono ?_).end_ok h1 ?_⟩
  · rintro i (hi | hi)
    · cases hi
    · exact hi
  · intro x hx
    obtain ⟨j, hj⟩ := List.mem_iff_getElem?.mp hx
    exact h2 j x (List.getElem?_eq_some_iff.mp hj).1 hj
theorem PS.none {f : Fc} {pend : Nat → Prop} {deep : List Int} {todo : List Nat} {e : Int} (h : PS f pend deep todo e) (he : e ≠ 0) : ∀ d, ¬ Fits f d := h.inv.bad he
theorem PS.e3 {f : Fc} {pend : Nat → Prop} {deep : List Int} {todo : List Nat} {e : Int} (h : PS f pend deep todo e) : e = 0 ∨ e = 3 := h.inv.err

/-- What follows an instruction that goes elsewhere, and on, or not. -/
theorem follows_go {p : Nat} {n : Int} {x : I3} {to k : Int} (hg : goI x = some (to, k)) : (to, n - takeI x + leaveI x + k) ∈ follows p n x := by
  unfold follows; rw [hg]; simp
theorem follows_on {p : Nat} {n : Int} {x : I3} (he : endsB x.op = false) : ((p : Int) + 1, n - takeI x + leaveI x) ∈ follows p n x := by
  unfold follows; rw [he]; simp
theorem follows_cases {p : Nat} {n : Int} {x : I3} {y : Int × Int} (h : y ∈ follows p n x) : (∃ to k, goI x = some (to, k) ∧ y = (to, n - takeI x + leaveI x + k)) ∨ (endsB x.op = false ∧ y = ((p : Int) + 1, n - takeI x + leaveI x)) := by
  unfold follows at h
  rcases List.mem_append.mp h with h | h
  · left
    cases hg : goI x with
    | none => rw [hg] at h; simp at h
    | some q => rw [hg] at h; simp at h; exact ⟨q.1, q.2, rfl, h⟩
  · right
    cases he : endsB x.op
    · rw [he] at h; simp at h; exact ⟨rfl, h⟩
    · rw [he] at h; simp at h
end Go.Proofs.YthbkklnahhdgcaaDoor.CodeV
