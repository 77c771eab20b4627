/-
  A heap as objects: those of the nursery, those of the old part; what a collection leaves. No walk in sight.
-/
import Derived.Test.YthbkklnahhdgcaaMChL
import Derived.Test.YthbkklnahhdgcaaMChJ
namespace Go.Proofs.Ythbkklnahhdgcaa.ChN
open Go Go.Proofs Go.RowKit Go.Proofs.Ythbkklnahhdgcaa.Lib Go.Proofs.Ythbkklnahhdgcaa.HeapR Go.Proofs.Ythbkklnahhdgcaa.ChA Go.Proofs.Ythbkklnahhdgcaa.ChT Go.Proofs.Ythbkklnahhdgcaa.ChCa Go.Proofs.Ythbkklnahhdgcaa.ChCc Go.Proofs.Ythbkklnahhdgcaa.ChD Go.Proofs.Ythbkklnahhdgcaa.ChE Go.Proofs.Ythbkklnahhdgcaa.ChJ Go.Proofs.Ythbkklnahhdgcaa.ChL

/-- Objects lie one behind the other. -/
def Laid : Nat → List Ob → Prop
  | _, [] => True
  | a, o :: l => o.addr = a ∧ Laid (a + o.len) l
theorem laid_append {a : Nat} {l k : List Ob} : Laid a (l ++ k) ↔ Laid a l ∧ Laid (a + total l) k := by
  induction l generalizing a with
  | nil => simp [Laid, total]
  | cons o l ih =>
    show (o.addr = a ∧ Laid (a + o.len) (l ++ k)) ↔ (o.addr = a ∧ Laid (a + o.len) l) ∧ Laid (a + total (o :: l)) k
    rw [ih, total_cons, and_assoc, Nat.add_assoc]
theorem laid_in {a : Nat} {l : List Ob} (h : Laid a l) {o : Ob} (ho : o ∈ l) : a ≤ o.addr ∧ o.addr + o.len ≤ a + total l := by
  induction l generalizing a with
  | nil => cases ho
  | cons x l ih =>
    obtain ⟨h1, h2⟩ := h
    rw [total_cons]
    rcases List.mem_cons.mp ho with rfl | ho
    · omega
    · have := ih h2 ho
      omega
theorem len_pos (o : Ob) : 0 < o.len := by unfold Ob.len; omega
theorem laid_two {a : Nat} {l : List Ob} (h : Laid a l) {x y : Ob} (hx : x ∈ l) (hy : y ∈ l) : x = y ∨ x.addr + x.len ≤ y.addr ∨ y.addr + y.len ≤ x.addr := by
  induction l generalizing a with
  | nil => cases hx
  | cons o l ih =>
    obtain ⟨h1, h2⟩ := h
    rcases List.mem_cons.mp hx with rfl | hx' <;> rcases List.mem_cons.mp hy with rfl | hy'
    · exact Or.inl rfl
    · have := laid_in h2 hy'
      exact Or.inr (Or.inl (by omega))
    · have := laid_in h2 hx'
      exact Or.inr (Or.inr (by omega))
    · exact ih h2 hx' hy'
theorem laid_apart {a : Nat} {l : List Ob} (h : Laid a l) : Apart l := fun x hx y hy e => by
  rcases laid_two h hx hy with h1 | h1 | h1
  · exact h1
  · have := len_pos x
    omega
  · have := len_pos y
    omega
theorem laid_nodup {a : Nat} {l : List Ob} (h : Laid a l) : l.Nodup := by
  induction l generalizing a with
  | nil => exact List.nodup_nil
  | cons o l ih =>
    obtain ⟨h1, h2⟩ := h
    refine List.nodup_cons.mpr ⟨fun ho => ?_, ih h2⟩
    have := laid_in h2 ho
    have := len_pos o
    omega

/-- A heap as objects. -/
structure HI (H : HS) (nu ol : List Ob) : Prop where
  nur : H.nur.take H.top = flat nu
  old : H.old = flat ol
  tlen : H.top ≤ H.nur.length
  na : Laid 0 nu
  oa : Laid H.room ol
  fit : total nu ≤ H.room
  refs : ∀ o ∈ nu ++ ol, ∀ v ∈ o.fs, v.k = 4 → ∃ x ∈ nu ++ ol, v.n = (x.addr : Int)
  rem1 : ∀ r ∈ H.rem, ∃ j : Nat, r = ((H.room + j : Nat) : Int) ∧ j < H.old.length
  rem2 : ∀ (j : Nat) (c : HCell), H.old[j]? = some c → c.vk = 4 → c.vn < (H.room : Int) → ((H.room + j : Nat) : Int) ∈ H.rem
  wh : ∃ g, Reads H.wh g ∧ ∀ id c, g id = some c ↔ id ≠ 0 ∧ ∃ o ∈ nu ++ ol, o.id = id ∧ c = (o.addr : Int)
  ids : ∀ o ∈ nu ++ ol, 0 ≤ o.id ∧ o.id ≤ (H.next : Int)
  named : ∀ x ∈ nu ++ ol, ∀ y ∈ nu ++ ol, x.id = y.id → x.id ≠ 0 → x = y
  kinds : ∀ o ∈ nu ++ ol, o.kind ≠ 0
theorem HI.top {H : HS} {nu ol : List Ob} (h : HI H nu ol) : H.top = total nu := by
  have := congrArg List.length h.nur
  rw [List.length_take, flat_length, Nat.min_eq_left h.tlen] at this
  exact this
theorem HI.olen {H : HS} {nu ol : List Ob} (h : HI H nu ol) : H.old.length = total ol := by rw [h.old, flat_length]
/-- All objects are apart. -/
theorem HI.apart {H : HS} {nu ol : List Ob} (h : HI H nu ol) : Apart (nu ++ ol) := fun x hx y hy e => by
  have hf := h.fit
  rcases List.mem_append.mp hx with hx | hx <;> rcases List.mem_append.mp hy with hy | hy
  · exact laid_apart h.na x hx y hy e
  · have h1 := laid_in h.na hx
    have h2 := laid_in h.oa hy
    have := len_pos x
    omega
  · have h1 := laid_in h.na hy
    have h2 := laid_in h.oa hx
    have := len_pos y
    omega
  · exact laid_apart h.oa x hx y hy e
theorem HI.nodup {H : HS} {nu ol : List Ob} (h : HI H nu ol) : (nu ++ ol).Nodup := by
  rw [List.nodup_append]
  refine ⟨laid_nodup h.na, laid_nodup h.oa, fun x hx y hy => ?_⟩
  rintro rfl
  have h1 := laid_in h.na hx
  have h2 := laid_in h.oa hy
  have := len_pos x
  have := h.fit
  omega

/-! ### what a collection leaves -/
/-- Where an object is behind it. -/
def mvA (from_ : Int → Bool) (L : List Ob) (z : Nat) (a : Nat) : Nat := if from_ (a : Int) = true then fwd L z a else a
def mvV (from_ : Int → Bool) (L : List Ob) (z : Nat) (v : Vl) : Vl := if v.k = 4 ∧ from_ v.n = true then { v with n := (fwd L z v.n.toNat : Nat) } else v
def mvO (from_ : Int → Bool) (L : List Ob) (z : Nat) (o : Ob) : Ob := { o with addr := mvA from_ L z o.addr, fs := o.fs.map (mvV from_ L z) }
theorem mvO_len (from_ : Int → Bool) (L : List Ob) (z : Nat) (o : Ob) : (mvO from_ L z o).len = o.len := by simp [mvO, Ob.len]
theorem total_mv (from_ : Int → Bool) (L : List Ob) (z : Nat) (l : List Ob) : total (l.map (mvO from_ L z)) = total l := by
  induction l with
  | nil => rfl
  | cons o l ih => rw [List.map_cons, total_cons, total_cons, ih, mvO_len]
theorem fix_cell (from_ : Int → Bool) (L : List Ob) (z : Nat) (v : Vl) : fix from_ L z v.cell = (mvV from_ L z v).cell := by
  unfold fix mvV
  by_cases h : v.k = 4 ∧ from_ v.n = true
  · rw [if_pos h, if_pos (show v.cell.vk = 4 ∧ from_ v.cell.vn = true from h)]
    rfl
  · rw [if_neg h, if_neg (show ¬ (v.cell.vk = 4 ∧ from_ v.cell.vn = true) from h)]
theorem fix_head (from_ : Int → Bool) (L : List Ob) (z : Nat) (o : Ob) : fix from_ L z (o.head 0) = (mvO from_ L z o).head 0 := by
  unfold fix
  rw [if_neg (fun h => absurd h.1 (show ¬ (0 : Int) = 4 by decide))]
  simp [Ob.head, mvO]
theorem flat_fix (from_ : Int → Bool) (L : List Ob) (z : Nat) (l : List Ob) : (flat l).map (fix from_ L z) = flat (l.map (mvO from_ L z)) := by
  induction l with
  | nil => rfl
  | cons o l ih =>
    unfold flat at ih ⊢
    rw [List.flatMap_cons, List.map_append, ih, List.map_cons, List.flatMap_cons]
    congr 1
    show fix from_ L z (o.head 0) :: (o.fs.map Vl.cell).map (fix from_ L z) = (mvO from_ L z o).head 0 :: ((mvO from_ L z o).fs.map Vl.cell)
    rw [fix_head, List.map_map]
    congr 1
    show _ = (o.fs.map (mvV from_ L z)).map Vl.cell
    rw [List.map_map]
    refine List.map_congr_left fun v _ => ?_
    exact fix_cell from_ L z v
theorem tcells_all {from_ : Int → Bool} {base : List HCell} {L : List Ob} {z : Nat} {P : Nat → Bool} (h : ∀ i c, (base ++ flat L)[i]? = some c → c.vk = 4 → from_ c.vn = true → P i = true) : tcells from_ base L z P = (base ++ flat L).map (fix from_ L z) := by
  refine List.ext_getElem? fun i => ?_
  rw [tcells_get, List.getElem?_map]
  cases hc : (base ++ flat L)[i]? with
  | none => rfl
  | some c =>
    simp only [Option.map_some]
    by_cases hp : P i = true
    · rw [if_pos hp]
    · rw [if_neg hp]
      unfold fix
      rw [if_neg (fun hh => hp (h i c hc hh.1 hh.2))]
theorem laid_copies {from_ : Int → Bool} {z : Nat} {L : List Ob} (hA : Apart L) (hn : L.Nodup) (hf : ∀ o ∈ L, from_ (o.addr : Int) = true) : Laid z (L.map (mvO from_ L z)) := by
  have key : ∀ (k l : List Ob), L = l ++ k → Laid (z + total l) (k.map (mvO from_ L z)) := by
    intro k
    induction k with
    | nil => intro l _; exact trivial
    | cons o k ih =>
      intro l hl
      refine ⟨?_, ?_⟩
      · show mvA from_ L z o.addr = z + total l
        have ho : o ∈ L := by rw [hl]; exact List.mem_append.mpr (Or.inr (List.mem_cons_self ..))
        unfold mvA
        rw [if_pos (hf o ho)]
        unfold fwd
        congr 1
        rw [hl]
        have hnot : ¬ has l o.addr := by
          rintro ⟨x, hx, e⟩
          have hxo : x = o := hA x (by rw [hl]; exact List.mem_append.mpr (Or.inl hx)) o ho e
          subst hxo
          rw [hl] at hn
          exact (List.nodup_append.mp hn).2.2 x hx x (List.mem_cons_self ..) rfl
        rw [show l ++ o :: k = (l ++ [o]) ++ k by simp, ahead_in (has_append.mpr (Or.inr (has_cons.mpr (Or.inl rfl)))), ahead_new hnot]
      · rw [mvO_len]
        have h2 := ih (l ++ [o]) (by rw [hl]; simp)
        rw [total_append] at h2
        simpa [total, Nat.add_assoc] using h2
  have h := key L [] rfl
  simpa [total] using h
end Go.Proofs.Ythbkklnahhdgcaa.ChN
