/-
  Alloc and Set, in the nursery, over a heap as objects; what is read of an object.
-/
import Derived.Test.YthbkklnahhdgcaaMChW
import Derived.Test.YthbkklnahhdgcaaMHeapG
import Derived.Test.YthbkklnahhdgcaaMHeapH
namespace Go.Proofs.Ythbkklnahhdgcaa.ChZ
open Go Go.Proofs Go.RowKit Go.Maps Go.Proofs.Ythbkklnahhdgcaa.Lib Go.Proofs.Ythbkklnahhdgcaa.HeapR Go.Proofs.Ythbkklnahhdgcaa.HeapC Go.Proofs.Ythbkklnahhdgcaa.HeapD Go.Proofs.Ythbkklnahhdgcaa.HeapF Go.Proofs.Ythbkklnahhdgcaa.HeapG Go.Proofs.Ythbkklnahhdgcaa.HeapH Go.Proofs.Ythbkklnahhdgcaa.ChA Go.Proofs.Ythbkklnahhdgcaa.ChT Go.Proofs.Ythbkklnahhdgcaa.ChCa Go.Proofs.Ythbkklnahhdgcaa.ChCc Go.Proofs.Ythbkklnahhdgcaa.ChE Go.Proofs.Ythbkklnahhdgcaa.ChL Go.Proofs.Ythbkklnahhdgcaa.ChN Go.Proofs.Ythbkklnahhdgcaa.ChO Go.Proofs.Ythbkklnahhdgcaa.ChR Go.Proofs.Ythbkklnahhdgcaa.ChW

def nilV : Vl := ⟨0, 0, ByteArray.empty⟩
/-- A new object. -/
def newOb (H : HS) (kind tag : Int) (s : Nat) : Ob := ⟨H.top, kind, tag, if kind = 4 then 0 else (H.next : Int) + 1, List.replicate s nilV⟩
theorem zeros_get (l : List HCell) (a n i : Nat) : (zeros l a n)[i]? = if a ≤ i ∧ i < a + n ∧ i < l.length then some HCell.zero else l[i]? := by
  induction n with
  | zero =>
    rw [if_neg (by omega)]
    rfl
  | succ n ih =>
    show ((zeros l a n).set (a + n) HCell.zero)[i]? = _
    rw [List.getElem?_set, length_zeros, ih]
    by_cases h1 : a + n = i
    · rw [if_pos h1]
      by_cases h2 : a + n < l.length
      · rw [if_pos h2, if_pos (by omega)]
      · rw [if_neg h2, if_neg (by omega), List.getElem?_eq_none (by omega)]
    · rw [if_neg h1]
      by_cases h3 : a ≤ i ∧ i < a + n ∧ i < l.length
      · rw [if_pos h3, if_pos (by omega)]
      · rw [if_neg h3, if_neg (by omega)]
variable {w : World} {hb nb mb : Nat} {ov rv : Value} {B : Nat} {H : HS} {nu ol : List Ob}
theorem hi_alloc (h : HR w hb nb mb ov rv B H) (hi : HI H nu ol) {kind tag : Int} {s : Nat} (hk : 1 ≤ kind) (hf : H.top + 1 + s ≤ H.room) : HI (H.alloc kind tag s) (nu ++ [newOb H kind tag s]) ol := by
  have hlen := h.len
  have htop := hi.top
  have hol : (newOb H kind tag s).len = 1 + s := by simp [newOb, Ob.len]
  have htot : total [newOb H kind tag s] = 1 + s := by simp [total, hol]
  have hmem : ∀ {o : Ob}, o ∈ (nu ++ [newOb H kind tag s]) ++ ol → o ∈ nu ++ ol ∨ o = newOb H kind tag s := fun {o} ho => by
    rcases List.mem_append.mp ho with ho | ho
    · rcases List.mem_append.mp ho with ho | ho
      · exact Or.inl (List.mem_append.mpr (Or.inl ho))
      · exact Or.inr (by simpa using ho)
    · exact Or.inl (List.mem_append.mpr (Or.inr ho))
  have hmem' : ∀ {o : Ob}, o ∈ nu ++ ol → o ∈ (nu ++ [newOb H kind tag s]) ++ ol := fun {o} ho => by
    rcases List.mem_append.mp ho with ho | ho
    · exact List.mem_append.mpr (Or.inl (List.mem_append.mpr (Or.inl ho)))
    · exact List.mem_append.mpr (Or.inr ho)
  have hnewm : newOb H kind tag s ∈ (nu ++ [newOb H kind tag s]) ++ ol := List.mem_append.mpr (Or.inl (List.mem_append.mpr (Or.inr (by simp))))
  have hidn : ∀ {o : Ob}, o ∈ nu ++ ol → (newOb H kind tag s).id ≠ 0 → o.id ≠ (newOb H kind tag s).id := fun {o} ho h0 e => by
    have h1 := (hi.ids o ho).2
    have h2 : (newOb H kind tag s).id = if kind = 4 then 0 else (H.next : Int) + 1 := rfl
    rw [h2] at h0 e
    split at h0
    · exact h0 rfl
    · rename_i h4
      rw [if_neg h4] at e
      omega
  exact {
    nur := by
      rw [flat_append]
      show (zeros (H.nur.set H.top _) (H.top + 1) s).take (H.top + 1 + s) = _
      refine List.ext_getElem? fun i => ?_
      rw [List.getElem?_take, zeros_get, List.length_set]
      have hfl : (flat nu).length = H.top := by rw [flat_length, htop]
      by_cases hi1 : i < H.top
      · rw [if_pos (by omega), if_neg (by omega), List.getElem?_set, if_neg (by omega), List.getElem?_append_left (by omega), ← hi.nur, List.getElem?_take, if_pos hi1]
      · rw [List.getElem?_append_right (by omega), hfl]
        have hcells : flat [newOb H kind tag s] = (newOb H kind tag s).head 0 :: List.replicate s HCell.zero := by
          simp [flat, Ob.cells, newOb, nilV, Vl.cell, HCell.zero]
        rw [hcells]
        by_cases hi2 : i = H.top
        · subst hi2
          rw [if_pos (by omega), if_neg (by omega), List.getElem?_set, if_pos rfl, if_pos (by omega), Nat.sub_self]
          simp [newOb, Ob.head]
          rfl
        · obtain ⟨j, hj⟩ : ∃ j, i - H.top = j + 1 := ⟨i - H.top - 1, by omega⟩
          rw [hj, List.getElem?_cons_succ, List.getElem?_replicate]
          by_cases hi3 : i < H.top + 1 + s
          · rw [if_pos hi3, if_pos (by omega), if_pos (by omega)]
          · rw [if_neg hi3, if_neg (by omega)]
    old := hi.old
    tlen := by
      show H.top + 1 + s ≤ (zeros _ _ _).length
      rw [length_zeros, List.length_set]
      omega
    na := laid_append.mpr ⟨hi.na, by rw [Nat.zero_add, ← htop]; exact ⟨rfl, trivial⟩⟩
    oa := hi.oa
    fit := by
      show total (nu ++ [newOb H kind tag s]) ≤ H.room
      rw [total_append, htot]
      omega
    refs := fun o ho v hv hk4 => by
      rcases hmem ho with ho | rfl
      · obtain ⟨x, hx, e⟩ := hi.refs o ho v hv hk4
        exact ⟨x, hmem' hx, e⟩
      · have : v = nilV := (List.mem_replicate.mp (show v ∈ List.replicate s nilV from hv)).2
        subst this
        exact absurd hk4 (show ¬ (0 : Int) = 4 by decide)
    rem1 := hi.rem1
    rem2 := hi.rem2
    wh := by
      obtain ⟨g, hg1, hg2⟩ := hi.wh
      by_cases h4 : kind = 4
      · refine ⟨g, by show Reads (if kind = 4 then H.wh else _) g; rw [if_pos h4]; exact hg1, fun id c => (hg2 id c).trans ⟨?_, ?_⟩⟩
        · rintro ⟨h0, o, ho, e1, e2⟩
          exact ⟨h0, o, hmem' ho, e1, e2⟩
        · rintro ⟨h0, o, ho, e1, e2⟩
          rcases hmem ho with ho | rfl
          · exact ⟨h0, o, ho, e1, e2⟩
          · exact absurd (show (if kind = 4 then (0 : Int) else (H.next : Int) + 1) = id from e1) (by rw [if_pos h4]; exact fun e => h0 e.symm)
      · refine ⟨_, by show Reads (if kind = 4 then H.wh else _) _; rw [if_neg h4]; exact reads_put hg1 _ _, fun id c => ?_⟩
        have hnid : (newOb H kind tag s).id = (H.next : Int) + 1 := by show (if kind = 4 then (0 : Int) else (H.next : Int) + 1) = _; rw [if_neg h4]
        by_cases hid : id = (H.next : Int) + 1
        · rw [if_pos hid]
          constructor
          · intro e
            have e' : ((H.top : Nat) : Int) = c := by simpa using e
            exact ⟨by omega, _, hnewm, by rw [hnid, hid], e'.symm⟩
          · rintro ⟨h0, o, ho, e1, e2⟩
            rcases hmem ho with ho | rfl
            · have := (hi.ids o ho).2
              omega
            · rw [e2]
              rfl
        · rw [if_neg hid]
          refine (hg2 id c).trans ⟨?_, ?_⟩
          · rintro ⟨h0, o, ho, e1, e2⟩
            exact ⟨h0, o, hmem' ho, e1, e2⟩
          · rintro ⟨h0, o, ho, e1, e2⟩
            rcases hmem ho with ho | rfl
            · exact ⟨h0, o, ho, e1, e2⟩
            · rw [hnid] at e1
              exact absurd e1.symm hid
    ids := fun o ho => by
      show 0 ≤ o.id ∧ o.id ≤ ((if kind = 4 then H.next else H.next + 1 : Nat) : Int)
      rcases hmem ho with ho | rfl
      · have := hi.ids o ho
        split <;> omega
      · show 0 ≤ (if kind = 4 then (0 : Int) else (H.next : Int) + 1) ∧ (if kind = 4 then (0 : Int) else (H.next : Int) + 1) ≤ _
        split <;> omega
    named := fun x hx y hy e h0 => by
      rcases hmem hx with hx | rfl <;> rcases hmem hy with hy | rfl
      · exact hi.named x hx y hy e h0
      · exact absurd e (hidn hx (by rw [← e]; exact h0))
      · exact absurd e.symm (hidn hy h0)
      · rfl
    kinds := fun o ho => by
      rcases hmem ho with ho | rfl
      · exact hi.kinds o ho
      · show kind ≠ 0
        omega }

theorem modify_left {α : Type} (f : α → α) (l k : List α) (i : Nat) (h : i < l.length) : (l ++ k).modify i f = l.modify i f ++ k := by
  induction l generalizing i with
  | nil => simp at h
  | cons x l ih =>
    cases i with
    | zero => rfl
    | succ i =>
      rw [List.cons_append, List.modify_succ_cons, List.modify_succ_cons, ih i (by simpa using h)]
      rfl
theorem modify_right {α : Type} (f : α → α) (l k : List α) (i : Nat) (h : l.length ≤ i) : (l ++ k).modify i f = l ++ k.modify (i - l.length) f := by
  induction l generalizing i with
  | nil => simp
  | cons x l ih =>
    cases i with
    | zero => simp at h
    | succ i =>
      rw [List.cons_append, List.modify_succ_cons, ih i (by simpa using h), List.length_cons, Nat.add_sub_add_right]
      rfl
/-- A field of the object at an address is set. -/
def setOb (l : List Ob) (a i : Nat) (v : Vl) : List Ob := l.map fun x => if x.addr = a then { x with fs := x.fs.set i v } else x
theorem setOb_len (x : Ob) (a i : Nat) (v : Vl) : (if x.addr = a then { x with fs := x.fs.set i v } else x : Ob).len = x.len := by
  split
  · simp [Ob.len]
  · rfl
theorem setOb_addr (x : Ob) (a i : Nat) (v : Vl) : (if x.addr = a then { x with fs := x.fs.set i v } else x : Ob).addr = x.addr := by
  split <;> rfl
theorem setOb_rest (x : Ob) (a i : Nat) (v : Vl) : (if x.addr = a then { x with fs := x.fs.set i v } else x : Ob).id = x.id ∧ (if x.addr = a then { x with fs := x.fs.set i v } else x : Ob).kind = x.kind := by
  split <;> exact ⟨rfl, rfl⟩
theorem total_setOb (l : List Ob) (a i : Nat) (v : Vl) : total (setOb l a i v) = total l := by
  induction l with
  | nil => rfl
  | cons x l ih =>
    show total ((if x.addr = a then { x with fs := x.fs.set i v } else x) :: setOb l a i v) = _
    rw [total_cons, total_cons, ih, setOb_len]
theorem laid_setOb {b : Nat} {l : List Ob} (h : Laid b l) (a i : Nat) (v : Vl) : Laid b (setOb l a i v) := by
  induction l generalizing b with
  | nil => exact trivial
  | cons x l ih =>
    obtain ⟨h1, h2⟩ := h
    refine ⟨(setOb_addr x a i v).trans h1, ?_⟩
    rw [setOb_len]
    exact ih h2
theorem setOb_out {b : Nat} {l : List Ob} (h : Laid b l) {a i : Nat} {v : Vl} (ha : a < b) : setOb l a i v = l := by
  unfold setOb
  conv => rhs; rw [← List.map_id l]
  refine List.map_congr_left fun x hx => ?_
  have := laid_in h hx
  rw [if_neg (by omega)]
  rfl
theorem flat_set {b : Nat} {l : List Ob} (h : Laid b l) {o : Ob} (ho : o ∈ l) {i : Nat} (hi : i < o.fs.length) (v : Vl) : (flat l).modify (o.addr - b + 1 + i) (fun d => { d with vk := v.k, vn := v.n, vs := v.s }) = flat (setOb l o.addr i v) := by
  induction l generalizing b with
  | nil => cases ho
  | cons x l ih =>
    obtain ⟨h1, h2⟩ := h
    show (x.cells 0 ++ flat l).modify _ _ = (if x.addr = o.addr then { x with fs := x.fs.set i v } else x : Ob).cells 0 ++ flat (setOb l o.addr i v)
    rcases List.mem_cons.mp ho with rfl | ho
    · have hlo : setOb l o.addr i v = l := setOb_out h2 (by have := len_pos o; omega)
      rw [if_pos rfl, hlo, h1, Nat.sub_self, Nat.zero_add]
      rw [modify_left _ _ _ _ (by rw [Ob.length_cells]; unfold Ob.len; omega)]
      congr 1
      show (o.head 0 :: o.fs.map Vl.cell).modify (1 + i) _ = _
      rw [Nat.add_comm 1 i, List.modify_succ_cons]
      show _ = (⟨o.kind, o.tag, o.id, ((o.fs.set i v).length : Int), 0, 0, ByteArray.empty, 0⟩ : HCell) :: (o.fs.set i v).map Vl.cell
      rw [List.length_set]
      congr 1
      refine List.ext_getElem? fun j => ?_
      rw [List.getElem?_modify, List.getElem?_map, List.getElem?_map, List.getElem?_set]
      by_cases hj : i = j
      · subst hj
        rw [if_pos rfl, if_pos hi, List.getElem?_eq_getElem hi]
        simp [Vl.cell]
      · rw [if_neg hj]
        cases o.fs[j]? <;> simp [hj]
    · have h3 := laid_in h2 ho
      have hne : x.addr ≠ o.addr := by have := len_pos x; omega
      rw [if_neg hne]
      rw [modify_right _ _ _ _ (by rw [Ob.length_cells]; omega)]
      congr 1
      rw [Ob.length_cells, show o.addr - b + 1 + i - x.len = o.addr - (b + x.len) + 1 + i by omega]
      exact ih h2 ho

theorem take_modify {α : Type} (f : α → α) (l : List α) (n i : Nat) : (l.modify i f).take n = (l.take n).modify i f := by
  refine List.ext_getElem? fun j => ?_
  rw [List.getElem?_take, List.getElem?_modify, List.getElem?_modify, List.getElem?_take]
  by_cases h : j < n
  · rw [if_pos h, if_pos h]
  · rw [if_neg h, if_neg h]
    rfl
theorem mem_setOb {l : List Ob} {a i : Nat} {v : Vl} {y : Ob} (h : y ∈ setOb l a i v) : ∃ x ∈ l, y.addr = x.addr ∧ y.id = x.id ∧ y.kind = x.kind ∧ y = (if x.addr = a then { x with fs := x.fs.set i v } else x : Ob) := by
  obtain ⟨x, hx, e⟩ := List.mem_map.mp h
  refine ⟨x, hx, ?_, ?_, ?_, e.symm⟩
  · rw [← e, setOb_addr]
  · rw [← e, (setOb_rest x a i v).1]
  · rw [← e, (setOb_rest x a i v).2]
theorem setOb_mem {l : List Ob} (a i : Nat) (v : Vl) {x : Ob} (h : x ∈ l) : ∃ y ∈ setOb l a i v, y.addr = x.addr ∧ y.id = x.id :=
  ⟨_, List.mem_map.mpr ⟨x, h, rfl⟩, setOb_addr x a i v, (setOb_rest x a i v).1⟩
theorem hi_set (hi : HI H nu ol) {o : Ob} (ho : o ∈ nu) {i : Nat} (hil : i < o.fs.length) (v : Vl) (hv : v.k = 4 → ∃ x ∈ nu ++ ol, v.n = (x.addr : Int)) : HI (H.setN (o.addr + 1 + i) v.k v.n v.s) (setOb nu o.addr i v) ol := by
  have hto : ∀ {y : Ob}, y ∈ setOb nu o.addr i v ++ ol → ∃ x ∈ nu ++ ol, y.addr = x.addr ∧ y.id = x.id ∧ y.kind = x.kind ∧ (y = x ∨ (x.addr = o.addr ∧ y.fs = x.fs.set i v)) := fun {y} hy => by
    rcases List.mem_append.mp hy with hy | hy
    · obtain ⟨x, hx, e1, e2, e3, e4⟩ := mem_setOb hy
      refine ⟨x, List.mem_append.mpr (Or.inl hx), e1, e2, e3, ?_⟩
      by_cases ha : x.addr = o.addr
      · rw [if_pos ha] at e4
        exact Or.inr ⟨ha, by rw [e4]⟩
      · rw [if_neg ha] at e4
        exact Or.inl e4
    · exact ⟨y, List.mem_append.mpr (Or.inr hy), rfl, rfl, rfl, Or.inl rfl⟩
  have hfrom : ∀ {x : Ob}, x ∈ nu ++ ol → ∃ y ∈ setOb nu o.addr i v ++ ol, y.addr = x.addr ∧ y.id = x.id := fun {x} hx => by
    rcases List.mem_append.mp hx with hx | hx
    · obtain ⟨y, hy, e⟩ := setOb_mem o.addr i v hx
      exact ⟨y, List.mem_append.mpr (Or.inl hy), e⟩
    · exact ⟨x, List.mem_append.mpr (Or.inr hx), rfl, rfl⟩
  exact {
    nur := by
      show (H.nur.modify _ _).take H.top = _
      rw [take_modify, hi.nur, ← flat_set hi.na ho hil v, Nat.sub_zero]
    old := hi.old
    tlen := by
      show H.top ≤ (H.nur.modify _ _).length
      rw [List.length_modify]
      exact hi.tlen
    na := laid_setOb hi.na _ _ _
    oa := hi.oa
    fit := by
      rw [total_setOb]
      exact hi.fit
    refs := fun y hy u hu hk => by
      obtain ⟨x, hx, _, _, _, hh⟩ := hto hy
      have hres : ∃ t ∈ nu ++ ol, u.n = (t.addr : Int) := by
        rcases hh with rfl | ⟨_, e⟩
        · exact hi.refs y hx u hu hk
        · rw [e] at hu
          rcases List.mem_or_eq_of_mem_set hu with hu | rfl
          · exact hi.refs x hx u hu hk
          · exact hv hk
      obtain ⟨t, ht, e⟩ := hres
      obtain ⟨t', ht', e1, _⟩ := hfrom ht
      exact ⟨t', ht', by rw [e1]; exact e⟩
    rem1 := hi.rem1
    rem2 := hi.rem2
    wh := by
      obtain ⟨g, hg1, hg2⟩ := hi.wh
      refine ⟨g, hg1, fun id c => (hg2 id c).trans ⟨?_, ?_⟩⟩
      · rintro ⟨h0, x, hx, e1, e2⟩
        obtain ⟨y, hy, f1, f2⟩ := hfrom hx
        exact ⟨h0, y, hy, f2.trans e1, by rw [f1]; exact e2⟩
      · rintro ⟨h0, y, hy, e1, e2⟩
        obtain ⟨x, hx, f1, f2, _⟩ := hto hy
        exact ⟨h0, x, hx, f2.symm.trans e1, by rw [← f1]; exact e2⟩
    ids := fun y hy => by
      obtain ⟨x, hx, _, f2, _⟩ := hto hy
      rw [f2]
      exact hi.ids x hx
    named := fun a ha b hb e h0 => by
      have hA : Apart (setOb nu o.addr i v ++ ol) := fun a ha b hb e => by
        rcases List.mem_append.mp ha with ha | ha <;> rcases List.mem_append.mp hb with hb | hb
        · exact laid_apart (laid_setOb hi.na _ _ _) a ha b hb e
        · have h1 := laid_in (laid_setOb hi.na o.addr i v) ha
          have h2 := laid_in hi.oa hb
          rw [total_setOb] at h1
          have := hi.fit
          have := len_pos a
          omega
        · have h1 := laid_in (laid_setOb hi.na o.addr i v) hb
          have h2 := laid_in hi.oa ha
          rw [total_setOb] at h1
          have := hi.fit
          have := len_pos b
          omega
        · exact laid_apart hi.oa a ha b hb e
      obtain ⟨x, hx, f1, f2, _⟩ := hto ha
      obtain ⟨y, hy, g1, g2, _⟩ := hto hb
      have := hi.named x hx y hy (f2.symm.trans (e.trans g2)) (by rw [← f2]; exact h0)
      subst this
      exact hA a ha b hb (f1.trans g1.symm)
    kinds := fun y hy => by
      obtain ⟨x, hx, _, _, f3, _⟩ := hto hy
      rw [f3]
      exact hi.kinds x hx }
end Go.Proofs.Ythbkklnahhdgcaa.ChZ
