/-
  What a round of collects sets: here, known, old.
-/
import Derived.Test.YthbkklnahhdgcaaDoorPG17
import Derived.Test.YthbkklnahhdgcaaDoorPG18
import Derived.Test.YthbkklnahhdgcaaDoorPG00
set_option maxRecDepth 100000
set_option maxHeartbeats 4000000
namespace Go.Proofs.YthbkklnahhdgcaaDoor.PlF
open Go Go.Proofs Go.RowKit Go.Maps Go.Proofs.YthbkklnahhdgcaaDoor.Lib HeapR HeapG ErrC ChA ChT ChCa ChCc ChE ChH ChL ChN ChO ChZ PlC PlT PlU PlZ PlM PlN PlO PlX PlY PlYa

variable {w w' : World} {O : Nat → Nat} {B : Nat} {V : Zv} {H H' : HS} {T : List Th} {Z : Zn} {nu ol : List Ob} {loc : Nat → Ob}
def setHere (t : Th) (b : Bool) : Th := { t with here := b }
def setKnown (t : Th) (b : Bool) : Th := { t with known := b }
def setOld (t : Th) (b : Bool) : Th := { t with old := b }
theorem zr_setHere {k g n c : Nat} {t : Th} (b : Bool) (h : ZR w O B V H T Z) (hk : T[k]? = some t) (hv : V.ev = .slice (some ⟨g, 0, none⟩) n c) :
    ZR (w.setCell ⟨g, k, none⟩ (.bool b)) O B V H (T.set k (setHere t b)) Z ∧ Turned (fun k => B ≤ k) w (w.setCell ⟨g, k, none⟩ (.bool b)) := by
  have hm := List.mem_of_getElem? hk
  have og : O g = 4 := h.o4 g (by rw [hv]; rfl)
  have hgl : B ≤ g := (own_lt h.here (k := g) (by rw [hv]; rfl)).1
  have keep : ∀ j, O j ≠ 4 → (w.setCell ⟨g, k, none⟩ (.bool b)).heap[j]? = w.heap[j]? := fun j ho => blk_ne (p := ⟨g, k, none⟩) (fun e => ho (by rw [show j = g from e]; exact og))
  have o1 := h.o1
  have hkl := (List.getElem?_eq_some_iff.1 hk).1
  have same : ∀ {β : Type} (f : Th → β), f (setHere t b) = f t → (T.set k (setHere t b)).map f = T.map f := fun f e => map_set_same f T k _ (fun b hb => by
    rw [hk] at hb
    rw [e, Option.some.inj hb])
  have hw : wVals (T.set k (setHere t b)) = wVals T := by
    have e1 : ∀ l : List Th, wVals l = (l.map fun t => vlVals t.wv).flatten := fun l => by
      unfold wVals
      rw [List.flatMap_def]
    rw [e1, e1, same (fun t => vlVals t.wv) rfl]
  have split : ∀ {j : Nat} {u : Th}, (T.set k (setHere t b))[j]? = some u → (j = k ∧ u = setHere t b) ∨ (j ≠ k ∧ T[j]? = some u) := fun {j u} hj => by
    rw [List.getElem?_set] at hj
    by_cases e : k = j
    · rw [if_pos e, if_pos hkl] at hj
      exact .inl ⟨e.symm, (Option.some.inj hj).symm⟩
    · rw [if_neg e] at hj
      exact .inr ⟨Ne.symm e, hj⟩
  refine ⟨{
    blk := (keep _ (by omega)).trans h.blk
    hr := h.hr.same fun j hj => keep j (by have := h.o0 j hj; omega)
    things := by
      rw [List.length_set, same Th.ptr rfl]
      exact ownsRow_same h.things fun j hj => keep j (by have := h.o2 j hj; omega)
    wher := by
      rw [List.length_set, hw]
      exact ownsRow_same h.wher fun j hj => keep j (by have := h.o3 j hj; omega)
    here := by
      rw [List.length_set, List.map_set]
      have h2 := h.here
      rw [hv] at h2 ⊢
      have hn : T.length = n := by
        rcases h2.2 with ⟨e, _⟩ | ⟨_, _, _, e, _⟩
        · cases e
        · injection e with _ e2 _
          exact e2.symm
      subst hn
      exact (h2.stored k (.bool b)).1
    known := by
      rw [List.length_set, same (fun t : Th => Value.bool t.known) rfl]
      exact ownsRow_same h.known fun j hj => keep j (by have := h.o5 j hj; omega)
    thing := fun u hu => by
      obtain ⟨j, hj⟩ := List.getElem?_of_mem hu
      rcases split hj with ⟨rfl, rfl⟩ | ⟨hne, hj⟩
      · exact ⟨(keep t.b (by have := (h.ot j t hk).1; omega)).trans (h.thing t hm).1, ownsRow_same (h.thing t hm).2 fun m hj => keep m (by have := (h.ot j t hk).2.2 m hj; omega)⟩
      · have hm2 := List.mem_of_getElem? hj
        obtain ⟨e1, _, e3⟩ := h.ot j u hj
        exact ⟨(keep _ (by omega)).trans (h.thing u hm2).1, ownsRow_same (h.thing u hm2).2 fun b hb => keep b (by have := e3 b hb; omega)⟩
    o0 := h.o0
    o1 := h.o1
    o2 := h.o2
    o3 := h.o3
    o4 := h.o4
    o5 := h.o5
    ot := fun j u hj => by
      rcases split hj with ⟨rfl, rfl⟩ | ⟨_, hj⟩
      · exact h.ot j t hk
      · exact h.ot j u hj
    low := h.low
    et := (World.cell?_of_block (a := ⟨1, 0, none⟩) (blk_ne (p := ⟨g, k, none⟩) (fun e => by
      rw [← (show 1 = g from e)] at hgl
      exact absurd hgl (Nat.not_le.mpr h.el)))).trans h.et
    el := h.el }, Turned.setCell (Turned.refl (fun k => B ≤ k) w) (p := ⟨g, k, none⟩) (.inl hgl) _⟩

theorem zr_setKnown {k g n c : Nat} {t : Th} (b : Bool) (h : ZR w O B V H T Z) (hk : T[k]? = some t) (hv : V.kv = .slice (some ⟨g, 0, none⟩) n c) :
    ZR (w.setCell ⟨g, k, none⟩ (.bool b)) O B V H (T.set k (setKnown t b)) Z ∧ Turned (fun k => B ≤ k) w (w.setCell ⟨g, k, none⟩ (.bool b)) := by
  have hm := List.mem_of_getElem? hk
  have og : O g = 5 := h.o5 g (by rw [hv]; rfl)
  have hgl : B ≤ g := (own_lt h.known (k := g) (by rw [hv]; rfl)).1
  have keep : ∀ j, O j ≠ 5 → (w.setCell ⟨g, k, none⟩ (.bool b)).heap[j]? = w.heap[j]? := fun j ho => blk_ne (p := ⟨g, k, none⟩) (fun e => ho (by rw [show j = g from e]; exact og))
  have o1 := h.o1
  have hkl := (List.getElem?_eq_some_iff.1 hk).1
  have same : ∀ {β : Type} (f : Th → β), f (setKnown t b) = f t → (T.set k (setKnown t b)).map f = T.map f := fun f e => map_set_same f T k _ (fun b hb => by
    rw [hk] at hb
    rw [e, Option.some.inj hb])
  have hw : wVals (T.set k (setKnown t b)) = wVals T := by
    have e1 : ∀ l : List Th, wVals l = (l.map fun t => vlVals t.wv).flatten := fun l => by
      unfold wVals
      rw [List.flatMap_def]
    rw [e1, e1, same (fun t => vlVals t.wv) rfl]
  have split : ∀ {j : Nat} {u : Th}, (T.set k (setKnown t b))[j]? = some u → (j = k ∧ u = setKnown t b) ∨ (j ≠ k ∧ T[j]? = some u) := fun {j u} hj => by
    rw [List.getElem?_set] at hj
    by_cases e : k = j
    · rw [if_pos e, if_pos hkl] at hj
      exact .inl ⟨e.symm, (Option.some.inj hj).symm⟩
    · rw [if_neg e] at hj
      exact .inr ⟨Ne.symm e, hj⟩
  refine ⟨{
    blk := (keep _ (by omega)).trans h.blk
    hr := h.hr.same fun j hj => keep j (by have := h.o0 j hj; omega)
    things := by
      rw [List.length_set, same Th.ptr rfl]
      exact ownsRow_same h.things fun j hj => keep j (by have := h.o2 j hj; omega)
    wher := by
      rw [List.length_set, hw]
      exact ownsRow_same h.wher fun j hj => keep j (by have := h.o3 j hj; omega)
    here := by
      rw [List.length_set, same (fun t : Th => Value.bool t.here) rfl]
      exact ownsRow_same h.here fun j hj => keep j (by have := h.o4 j hj; omega)
    known := by
      rw [List.length_set, List.map_set]
      have h2 := h.known
      rw [hv] at h2 ⊢
      have hn : T.length = n := by
        rcases h2.2 with ⟨e, _⟩ | ⟨_, _, _, e, _⟩
        · cases e
        · injection e with _ e2 _
          exact e2.symm
      subst hn
      exact (h2.stored k (.bool b)).1
    thing := fun u hu => by
      obtain ⟨j, hj⟩ := List.getElem?_of_mem hu
      rcases split hj with ⟨rfl, rfl⟩ | ⟨hne, hj⟩
      · exact ⟨(keep t.b (by have := (h.ot j t hk).1; omega)).trans (h.thing t hm).1, ownsRow_same (h.thing t hm).2 fun m hj => keep m (by have := (h.ot j t hk).2.2 m hj; omega)⟩
      · have hm2 := List.mem_of_getElem? hj
        obtain ⟨e1, _, e3⟩ := h.ot j u hj
        exact ⟨(keep _ (by omega)).trans (h.thing u hm2).1, ownsRow_same (h.thing u hm2).2 fun b hb => keep b (by have := e3 b hb; omega)⟩
    o0 := h.o0
    o1 := h.o1
    o2 := h.o2
    o3 := h.o3
    o4 := h.o4
    o5 := h.o5
    ot := fun j u hj => by
      rcases split hj with ⟨rfl, rfl⟩ | ⟨_, hj⟩
      · exact h.ot j t hk
      · exact h.ot j u hj
    low := h.low
    et := (World.cell?_of_block (a := ⟨1, 0, none⟩) (blk_ne (p := ⟨g, k, none⟩) (fun e => by
      rw [← (show 1 = g from e)] at hgl
      exact absurd hgl (Nat.not_le.mpr h.el)))).trans h.et
    el := h.el }, Turned.setCell (Turned.refl (fun k => B ≤ k) w) (p := ⟨g, k, none⟩) (.inl hgl) _⟩

theorem zr_setOld {k : Nat} {t : Th} (b : Bool) (h : ZR w O B V H T Z) (hk : T[k]? = some t)  :
    ZR (w.setCell ⟨t.b, 3, none⟩ (.bool b)) O B V H (T.set k (setOld t b)) Z ∧ Turned (fun k => B ≤ k) w (w.setCell ⟨t.b, 3, none⟩ (.bool b)) := by
  have hm := List.mem_of_getElem? hk
  have og : O t.b = 2 * k + 6 := (h.ot k t hk).1
  have hgl : B ≤ t.b := (h.ot k t hk).2.1
  have keep : ∀ j, O j ≠ 2 * k + 6 → (w.setCell ⟨t.b, 3, none⟩ (.bool b)).heap[j]? = w.heap[j]? := fun j ho => blk_ne (p := ⟨t.b, 3, none⟩) (fun e => ho (by rw [show j = t.b from e]; exact og))
  have o1 := h.o1
  have hkl := (List.getElem?_eq_some_iff.1 hk).1
  have same : ∀ {β : Type} (f : Th → β), f (setOld t b) = f t → (T.set k (setOld t b)).map f = T.map f := fun f e => map_set_same f T k _ (fun b hb => by
    rw [hk] at hb
    rw [e, Option.some.inj hb])
  have hw : wVals (T.set k (setOld t b)) = wVals T := by
    have e1 : ∀ l : List Th, wVals l = (l.map fun t => vlVals t.wv).flatten := fun l => by
      unfold wVals
      rw [List.flatMap_def]
    rw [e1, e1, same (fun t => vlVals t.wv) rfl]
  have split : ∀ {j : Nat} {u : Th}, (T.set k (setOld t b))[j]? = some u → (j = k ∧ u = setOld t b) ∨ (j ≠ k ∧ T[j]? = some u) := fun {j u} hj => by
    rw [List.getElem?_set] at hj
    by_cases e : k = j
    · rw [if_pos e, if_pos hkl] at hj
      exact .inl ⟨e.symm, (Option.some.inj hj).symm⟩
    · rw [if_neg e] at hj
      exact .inr ⟨Ne.symm e, hj⟩
  refine ⟨{
    blk := (keep _ (by omega)).trans h.blk
    hr := h.hr.same fun j hj => keep j (by have := h.o0 j hj; omega)
    things := by
      rw [List.length_set, same Th.ptr rfl]
      exact ownsRow_same h.things fun j hj => keep j (by have := h.o2 j hj; omega)
    wher := by
      rw [List.length_set, hw]
      exact ownsRow_same h.wher fun j hj => keep j (by have := h.o3 j hj; omega)
    here := by
      rw [List.length_set, same (fun t : Th => Value.bool t.here) rfl]
      exact ownsRow_same h.here fun j hj => keep j (by have := h.o4 j hj; omega)
    known := by
      rw [List.length_set, same (fun t : Th => Value.bool t.known) rfl]
      exact ownsRow_same h.known fun j hj => keep j (by have := h.o5 j hj; omega)
    thing := fun u hu => by
      obtain ⟨j, hj⟩ := List.getElem?_of_mem hu
      rcases split hj with ⟨rfl, rfl⟩ | ⟨hne, hj⟩
      · exact ⟨blk_set (h.thing t hm).1 _, ownsRow_same (h.thing t hm).2 fun m hj => keep m (by have := (h.ot j t hk).2.2 m hj; omega)⟩
      · have hm2 := List.mem_of_getElem? hj
        obtain ⟨e1, _, e3⟩ := h.ot j u hj
        exact ⟨(keep _ (by omega)).trans (h.thing u hm2).1, ownsRow_same (h.thing u hm2).2 fun b hb => keep b (by have := e3 b hb; omega)⟩
    o0 := h.o0
    o1 := h.o1
    o2 := h.o2
    o3 := h.o3
    o4 := h.o4
    o5 := h.o5
    ot := fun j u hj => by
      rcases split hj with ⟨rfl, rfl⟩ | ⟨_, hj⟩
      · exact h.ot j t hk
      · exact h.ot j u hj
    low := h.low
    et := (World.cell?_of_block (a := ⟨1, 0, none⟩) (blk_ne (p := ⟨t.b, 3, none⟩) (fun e => by
      rw [← (show 1 = t.b from e)] at hgl
      exact absurd hgl (Nat.not_le.mpr h.el)))).trans h.et
    el := h.el }, Turned.setCell (Turned.refl (fun k => B ≤ k) w) (p := ⟨t.b, 3, none⟩) (.inl hgl) _⟩

end Go.Proofs.YthbkklnahhdgcaaDoor.PlF

namespace Go.Proofs.YthbkklnahhdgcaaDoor.PlFa
open Go Go.Proofs Go.RowKit Go.Maps Go.Proofs.YthbkklnahhdgcaaDoor.Lib HeapR HeapG ErrC ChA ChT ChCa ChCc ChE ChH ChL ChN ChO ChZ PlC PlT PlU PlZ PlM PlN PlO PlX PlY PlYa PlF

variable {w w' : World} {O : Nat → Nat} {B : Nat} {V : Zv} {H H' : HS} {T : List Th} {Z : Zn} {nu ol : List Ob} {loc : Nat → Ob}
def setWv (t : Th) (v : Vl) : Th := { t with wv := v }
theorem wVals_cons (a : Th) (T : List Th) : wVals (a :: T) = vlVals a.wv ++ wVals T := by
  unfold wVals
  rw [List.flatMap_cons]
theorem wVals_set {T : List Th} {k : Nat} {u : Th} (h : k < T.length) : wVals (T.set k u) = (((wVals T).set (k * 3) (.int .i64 u.wv.k)).set (k * 3 + 1) (.int .i64 u.wv.n)).set (k * 3 + 2) (.string u.wv.s) := by
  induction T generalizing k with
  | nil => simp at h
  | cons a T ih =>
    cases k with
    | zero =>
      rw [List.set_cons_zero, wVals_cons, wVals_cons]
      rfl
    | succ k =>
      have hk : k < T.length := by simpa using h
      rw [List.set_cons_succ, wVals_cons, wVals_cons, ih hk]
      have e : (k + 1) * 3 = k * 3 + 3 := by omega
      rw [e]
      rfl
theorem zr_setWv {k g n c : Nat} {t : Th} (v : Vl) (h : ZR w O B V H T Z) (hk : T[k]? = some t) (hv : V.wv = .slice (some ⟨g, 0, none⟩) n c) :
    ZR (((w.setCell ⟨g, k * 3, none⟩ (.int .i64 v.k)).setCell ⟨g, k * 3 + 1, none⟩ (.int .i64 v.n)).setCell ⟨g, k * 3 + 2, none⟩ (.string v.s)) O B V H (T.set k (setWv t v)) Z ∧
      Turned (fun k => B ≤ k) w (((w.setCell ⟨g, k * 3, none⟩ (.int .i64 v.k)).setCell ⟨g, k * 3 + 1, none⟩ (.int .i64 v.n)).setCell ⟨g, k * 3 + 2, none⟩ (.string v.s)) := by
  have hm := List.mem_of_getElem? hk
  have og : O g = 3 := h.o3 g (by rw [hv]; rfl)
  have hgl : B ≤ g := (own_lt h.wher (k := g) (by rw [hv]; rfl)).1
  have keep : ∀ j, O j ≠ 3 → (((w.setCell ⟨g, k * 3, none⟩ (.int .i64 v.k)).setCell ⟨g, k * 3 + 1, none⟩ (.int .i64 v.n)).setCell ⟨g, k * 3 + 2, none⟩ (.string v.s)).heap[j]? = w.heap[j]? := fun j ho => by
    have hj : j ≠ g := fun e => ho (by rw [e]; exact og)
    exact ((blk_ne (p := ⟨g, k * 3 + 2, none⟩) hj).trans (blk_ne (p := ⟨g, k * 3 + 1, none⟩) hj)).trans (blk_ne (p := ⟨g, k * 3, none⟩) hj)
  have o1 := h.o1
  have hkl := (List.getElem?_eq_some_iff.1 hk).1
  have same : ∀ {β : Type} (f : Th → β), f (setWv t v) = f t → (T.set k (setWv t v)).map f = T.map f := fun f e => map_set_same f T k _ (fun b hb => by
    rw [hk] at hb
    rw [e, Option.some.inj hb])
  have split : ∀ {j : Nat} {u : Th}, (T.set k (setWv t v))[j]? = some u → (j = k ∧ u = setWv t v) ∨ (j ≠ k ∧ T[j]? = some u) := fun {j u} hj => by
    rw [List.getElem?_set] at hj
    by_cases e : k = j
    · rw [if_pos e, if_pos hkl] at hj
      exact .inl ⟨e.symm, (Option.some.inj hj).symm⟩
    · rw [if_neg e] at hj
      exact .inr ⟨Ne.symm e, hj⟩
  refine ⟨{
    blk := (keep _ (by omega)).trans h.blk
    hr := h.hr.same fun j hj => keep j (by have := h.o0 j hj; omega)
    things := by
      rw [List.length_set, same Th.ptr rfl]
      exact ownsRow_same h.things fun j hj => keep j (by have := h.o2 j hj; omega)
    wher := by
      rw [List.length_set, wVals_set hkl]
      have h2 := h.wher
      rw [hv] at h2 ⊢
      have hn : T.length = n := by
        rcases h2.2 with ⟨e, _⟩ | ⟨_, _, _, e, _⟩
        · cases e
        · injection e with _ e2 _
          exact e2.symm
      subst hn
      exact ((((h2.stored (k * 3) (.int .i64 v.k)).1).stored (k * 3 + 1) (.int .i64 v.n)).1.stored (k * 3 + 2) (.string v.s)).1
    here := by
      rw [List.length_set, same (fun t : Th => Value.bool t.here) rfl]
      exact ownsRow_same h.here fun j hj => keep j (by have := h.o4 j hj; omega)
    known := by
      rw [List.length_set, same (fun t : Th => Value.bool t.known) rfl]
      exact ownsRow_same h.known fun j hj => keep j (by have := h.o5 j hj; omega)
    thing := fun u hu => by
      obtain ⟨j, hj⟩ := List.getElem?_of_mem hu
      rcases split hj with ⟨rfl, rfl⟩ | ⟨hne, hj⟩
      · exact ⟨(keep t.b (by have := (h.ot j t hk).1; omega)).trans (h.thing t hm).1, ownsRow_same (h.thing t hm).2 fun m hj => keep m (by have := (h.ot j t hk).2.2 m hj; omega)⟩
      · have hm2 := List.mem_of_getElem? hj
        obtain ⟨e1, _, e3⟩ := h.ot j u hj
        exact ⟨(keep _ (by omega)).trans (h.thing u hm2).1, ownsRow_same (h.thing u hm2).2 fun b hb => keep b (by have := e3 b hb; omega)⟩
    o0 := h.o0
    o1 := h.o1
    o2 := h.o2
    o3 := h.o3
    o4 := h.o4
    o5 := h.o5
    ot := fun j u hj => by
      rcases split hj with ⟨rfl, rfl⟩ | ⟨_, hj⟩
      · exact h.ot j t hk
      · exact h.ot j u hj
    low := h.low
    et := by
      have hj : 1 ≠ g := fun e => by
        rw [← e] at hgl
        exact absurd hgl (Nat.not_le.mpr h.el)
      exact (World.cell?_of_block (a := ⟨1, 0, none⟩) (((blk_ne (p := ⟨g, k * 3 + 2, none⟩) hj).trans (blk_ne (p := ⟨g, k * 3 + 1, none⟩) hj)).trans (blk_ne (p := ⟨g, k * 3, none⟩) hj))).trans h.et
    el := h.el }, (((Turned.refl (fun k => B ≤ k) w).setCell (p := ⟨g, k * 3, none⟩) (.inl hgl) _).setCell (p := ⟨g, k * 3 + 1, none⟩) (.inl hgl) _).setCell (p := ⟨g, k * 3 + 2, none⟩) (.inl hgl) _⟩
end Go.Proofs.YthbkklnahhdgcaaDoor.PlFa

namespace Go.Proofs.YthbkklnahhdgcaaDoor.PlGb
open Go Go.Proofs Go.RowKit Go.Maps Go.Proofs.YthbkklnahhdgcaaDoor.Lib HeapR HeapG ErrC ChA ChT ChCa ChCc ChE ChH ChJ ChL ChN ChO ChQ ChR ChU ChX ChYf ChZ PlT PlZ PlX PlYa PlL PlLd PlG PlGa PlF PlFa

/-- The first i things are done. -/
def RZ (w1 : World) (B n0 : Nat) (V : Zv) (H : HS) (T T1 : List Th) (Z : Zn) (loc : Nat → Ob) (s : List Int) (i : Nat) (wr : World) : Prop :=
  ∃ (O : Nat → Nat) (T' : List Th), ZR wr O B V H T' Z ∧ T'.length = T.length ∧ (∀ j, j < i → ∀ t, T[j]? = some t → ∃ t', T'[j]? = some t' ∧ Aft loc s j t t') ∧ (∀ j, i ≤ j → T'[j]? = T1[j]?) ∧ Turned (fun k => B ≤ k ∧ k < n0) w1 wr
variable {w1 wr w' : World} {B n0 : Nat} {V : Zv} {H : HS} {T T1 : List Th} {Z : Zn} {loc : Nat → Ob} {s : List Int} {i : Nat}
theorem rz_next {O : Nat → Nat} {T' : List Th} {t t' : Th} (hlen : T'.length = T.length) (hdone : ∀ j, j < i → ∀ t, T[j]? = some t → ∃ t', T'[j]? = some t' ∧ Aft loc s j t t') (hrest : ∀ j, i ≤ j → T'[j]? = T1[j]?) (ht : T[i]? = some t)
    (hZ : ZR w' O B V H (T'.set i t') Z) (ha : Aft loc s i t t') (hT : Turned (fun k => B ≤ k ∧ k < n0) w1 w') : RZ w1 B n0 V H T T1 Z loc s (i + 1) w' := by
  have hi := (List.getElem?_eq_some_iff.1 ht).1
  refine ⟨O, T'.set i t', hZ, by rw [List.length_set]; exact hlen, fun j hj u hu => ?_, fun j hj => ?_, hT⟩
  · by_cases e : j = i
    · subst e
      rw [ht] at hu
      cases hu
      exact ⟨t', by rw [List.getElem?_set, if_pos rfl, if_pos (by omega)], ha⟩
    · obtain ⟨u', h1, h2⟩ := hdone j (by omega) u hu
      exact ⟨u', by rw [List.getElem?_set, if_neg (Ne.symm e)]; exact h1, h2⟩
  · rw [List.getElem?_set, if_neg (by omega)]
    exact hrest j (by omega)
theorem turned_at {a b : World} {g i : Nat} {v : Value} (h : Turned (fun k => B ≤ k ∧ k < n0) a b) (h1 : B ≤ g) (h2 : g < n0) : Turned (fun k => B ≤ k ∧ k < n0) a (b.setCell ⟨g, i, none⟩ v) := h.setCell (.inl ⟨h1, h2⟩) _

/-- A thing that is held: it stays, and its root's cell was turned. -/
theorem aft_held {t t1 : Th} {L : List Nat} {mvv : Vl → Vl} (h1 : t1 = if i ∈ L then { t with wv := mvv t.wv } else t) (hL : i ∈ L) (hh : t.here = true) (hs : (i : Int) ∈ s) (hw : mvv t.wv = refV (loc i)) :
    Aft loc s i t (setOld (setHere t1 (t1.here && decide ((i : Int) ∈ s))) (t1.here && decide ((i : Int) ∈ s))) := by
  rw [if_pos hL] at h1
  subst h1
  exact ⟨rfl, rfl, rfl, rfl, rfl, rfl, fun _ => ⟨by show (t.here && decide ((i : Int) ∈ s)) = true; rw [hh]; simpa using hs, hw⟩⟩
/-- A thing that is not. -/
theorem aft_free {t t1 : Th} {L : List Nat} {mvv : Vl → Vl} {kn : Bool} {a : Int} (h1 : t1 = if i ∈ L then { t with wv := mvv t.wv } else t) (hL : i ∉ L) (hk : kn = true → (t.here && decide ((i : Int) ∈ s)) = true ∧ a = ((loc i).addr : Int)) :
    Aft loc s i t (setKnown (setWv (setOld (setHere t1 (t1.here && decide ((i : Int) ∈ s))) (t1.here && decide ((i : Int) ∈ s))) ⟨4, a, ByteArray.empty⟩) kn) := by
  rw [if_neg hL] at h1
  subst h1
  exact ⟨rfl, rfl, rfl, rfl, rfl, rfl, fun h => ⟨(hk h).1, by show (⟨4, a, ByteArray.empty⟩ : Vl) = _; rw [(hk h).2]; rfl⟩⟩
end Go.Proofs.YthbkklnahhdgcaaDoor.PlGb

namespace Go.Proofs.YthbkklnahhdgcaaDoor.PlFb
open Go Go.Proofs Go.RowKit Go.Maps Go.Proofs.YthbkklnahhdgcaaDoor.Lib HeapR HeapB HeapC HeapD HeapG HeapH ErrC ChA ChT ChCa ChCc ChE ChH ChI ChK ChL ChN ChO ChP ChR ChV ChW ChZ PlT PlZ PlU PlQ PlL PlLa PlLb PlLc PlLd PlE PlEa PlEb

theorem here_no {Q : Exit → Act → World → Prop} {u0 u1 u3 u4 u5 u6 u7 u8 u9 Ja Jc Jd Jf Jg Jh Ji Jj Jk Jl Jm Jn Jo Jp Jq Jr Js Jt Ju Jv Jw Jx Jy Jz Qa Qb Qc Qd Qe Qf Qg Qh Qi Qj Qk Ql Qm Qn Qo Qp Qq Qr Qs Qt Qu Qv Qw Qx Qy Qz Xe Xg Xh Xi Xj Xk Xn Xo Xp Xq Xt Xu Xv Xx Xy Xz Yg Yh Yi Yj Yk Yl Ym Yn Yo Yp Yq Yr Ys Yt Yu Yv Yw Yx Yy Yz Ua Ub Uc Ud Ue Uf Ug Uh Ui Uj Uk Ul Um Un Uo Up Uq Ur Us Ut Uu Uv Uw Ux Uy Uz Wc Wd We Wf Wg Wh Wi Wj Wk Wl Wm Wn Wo Wp Wq Wt Wu Ww Wx Wy Wz Ka Kb Kc Kd Ke Kf Kg Kh Kj Kl Km Kn Ko Kp Kq Kr Kt Ku Kv Kw Kx Ky Kz Rg Rh Ri Rj Rk Rl Rm Rp Rq Rt Ru Rx Ry Rz Gc Ge Gf Gg Gh Gi Gj Gm Gn Gp Gq Gt Gu Gv Gx Gy Gz Fe Ff Fg Fh Fi Fj Fk Fm Fo Fp Fq Fs Ft Fu Fv Fw Fx Fy Fz Ec Ee Ef Eg Eh Ei Ej Ek Em En Eo Ep Eu Ev Ex Ey Ez Da Db Dc Dd Dg Dh Di Dj Dk Dl Dm Dn Do Dp Dq Dt Du Dv Dw Dx Dy Dz Pa Pb Pc Pe Pf Pg Ph Pi Pj Pk Pm Pn Po Pq Ps Pt Pu Pv Pw Px Py Pz Na : Value} (w0 : World) (zx zb gE cE lv mb n k : Nat) (s : List Int) (hkn : k < n) (hn : n ≤ 1000)
    (x : w0.cell? ⟨zx, 0, none⟩ = some (.pointer (some ⟨zb, 0, none⟩))) (z3 : w0.cell? ⟨zb, 3, none⟩ = some (.slice (some ⟨gE, 0, none⟩) n cE)) (e : w0.cell? ⟨gE, k, none⟩ = some (.bool false)) (ef : w0.frozen? ⟨gE, k, none⟩ = false)
    (l : w0.cell? ⟨lv, 0, none⟩ = some (.map (some mb))) (hS : Sh w0 mb s)
    (hQ : ∀ (sDC sDD sDE sDF sDG sDH sDI sDJ sDK sDL sDM sDN sDO sDP sDQ sDR sDS sDT : Value) (w' : World), w' = w0.drew.setCell ⟨gE, k, none⟩ (.bool false) → Q .normal ⟨#[u0,u1,(.pointer (some ⟨zx,0,none⟩)),u3,u4,u5,u6,u7,u8,u9,Ja,(.pointer (some ⟨lv,0,none⟩)),Jc,Jd,(.int .i64 (k : Int)),Jf,Jg,Jh,Ji,Jj,Jk,Jl,Jm,Jn,Jo,Jp,Jq,Jr,Js,Jt,Ju,Jv,Jw,Jx,Jy,Jz,Qa,Qb,Qc,Qd,Qe,Qf,Qg,Qh,Qi,Qj,Qk,Ql,Qm,Qn,Qo,Qp,Qq,Qr,Qs,Qt,Qu,Qv,Qw,Qx,Qy,Qz,Xe,Xg,Xh,Xi,Xj,Xk,Xn,Xo,Xp,Xq,Xt,Xu,Xv,Xx,Xy,Xz,Yg,Yh,Yi,Yj,Yk,Yl,Ym,Yn,Yo,Yp,Yq,Yr,Ys,Yt,Yu,Yv,Yw,Yx,Yy,Yz,Ua,Ub,Uc,Ud,Ue,Uf,Ug,Uh,Ui,Uj,Uk,Ul,Um,Un,Uo,Up,Uq,Ur,Us,Ut,Uu,Uv,Uw,Ux,Uy,Uz,Wc,Wd,We,Wf,Wg,Wh,Wi,Wj,Wk,Wl,Wm,Wn,Wo,Wp,Wq,Wt,Wu,Ww,Wx,Wy,Wz,Ka,Kb,Kc,Kd,Ke,Kf,Kg,Kh,Kj,Kl,Km,Kn,Ko,Kp,Kq,Kr,Kt,Ku,Kv,Kw,Kx,Ky,Kz,Rg,Rh,Ri,Rj,Rk,Rl,Rm,Rp,Rq,Rt,Ru,Rx,Ry,Rz,Gc,Ge,(sDC),(sDD),(sDE),(sDF),(sDG),(sDH),(sDI),(sDJ),(sDK),(sDL),(sDM),(sDN),(sDO),(sDP),(sDQ),(sDR),(sDS),(sDT),Fh,Fi,Fj,Fk,Fm,Fo,Fp,Fq,Fs,Ft,Fu,Fv,Fw,Fx,Fy,Fz,Ec,Ee,Ef,Eg,Eh,Ei,Ej,Ek,Em,En,Eo,Ep,Eu,Ev,Ex,Ey,Ez,Da,Db,Dc,Dd,Dg,Dh,Di,Dj,Dk,Dl,Dm,Dn,Do,Dp,Dq,Dt,Du,Dv,Dw,Dx,Dy,Dz,Pa,Pb,Pc,Pe,Pf,Pg,Ph,Pi,Pj,Pk,Pm,Pn,Po,Pq,Ps,Pt,Pu,Pv,Pw,Px,Py,Pz,Na], []⟩ w') :
    Code.wp Tryd.prog (Cut.piece Tryd.f73 (Cut.region 34)) Q ⟨#[u0,u1,(.pointer (some ⟨zx,0,none⟩)),u3,u4,u5,u6,u7,u8,u9,Ja,(.pointer (some ⟨lv,0,none⟩)),Jc,Jd,(.int .i64 (k : Int)),Jf,Jg,Jh,Ji,Jj,Jk,Jl,Jm,Jn,Jo,Jp,Jq,Jr,Js,Jt,Ju,Jv,Jw,Jx,Jy,Jz,Qa,Qb,Qc,Qd,Qe,Qf,Qg,Qh,Qi,Qj,Qk,Ql,Qm,Qn,Qo,Qp,Qq,Qr,Qs,Qt,Qu,Qv,Qw,Qx,Qy,Qz,Xe,Xg,Xh,Xi,Xj,Xk,Xn,Xo,Xp,Xq,Xt,Xu,Xv,Xx,Xy,Xz,Yg,Yh,Yi,Yj,Yk,Yl,Ym,Yn,Yo,Yp,Yq,Yr,Ys,Yt,Yu,Yv,Yw,Yx,Yy,Yz,Ua,Ub,Uc,Ud,Ue,Uf,Ug,Uh,Ui,Uj,Uk,Ul,Um,Un,Uo,Up,Uq,Ur,Us,Ut,Uu,Uv,Uw,Ux,Uy,Uz,Wc,Wd,We,Wf,Wg,Wh,Wi,Wj,Wk,Wl,Wm,Wn,Wo,Wp,Wq,Wt,Wu,Ww,Wx,Wy,Wz,Ka,Kb,Kc,Kd,Ke,Kf,Kg,Kh,Kj,Kl,Km,Kn,Ko,Kp,Kq,Kr,Kt,Ku,Kv,Kw,Kx,Ky,Kz,Rg,Rh,Ri,Rj,Rk,Rl,Rm,Rp,Rq,Rt,Ru,Rx,Ry,Rz,Gc,Ge,Gf,Gg,Gh,Gi,Gj,Gm,Gn,Gp,Gq,Gt,Gu,Gv,Gx,Gy,Gz,Fe,Ff,Fg,Fh,Fi,Fj,Fk,Fm,Fo,Fp,Fq,Fs,Ft,Fu,Fv,Fw,Fx,Fy,Fz,Ec,Ee,Ef,Eg,Eh,Ei,Ej,Ek,Em,En,Eo,Ep,Eu,Ev,Ex,Ey,Ez,Da,Db,Dc,Dd,Dg,Dh,Di,Dj,Dk,Dl,Dm,Dn,Do,Dp,Dq,Dt,Du,Dv,Dw,Dx,Dy,Dz,Pa,Pb,Pc,Pe,Pf,Pg,Ph,Pi,Pj,Pk,Pm,Pn,Po,Pq,Ps,Pt,Pu,Pv,Pw,Px,Py,Pz,Na], []⟩ w0 := by
  conv => arg 2; whnf
  have k0 : (0 : Int) ≤ (k : Int) := by omega
  have k1 : (k : Int) < (n : Int) := by omega
  obtain ⟨q, hq⟩ : ∃ q, q = decide ((k : Int) ∈ s) := ⟨_, rfl⟩
  have lk : ∀ wz : World, wz.heap = w0.heap → (Instr.lookup 210 (.map (some mb)) (.int .i64 (k : Int)) false).run Tryd.prog wz = .ok (.bool q) wz := fun wz hw => by
    obtain ⟨D, m1, m2⟩ := hS.same (w' := wz) (by rw [hw])
    have h1 := look_bool m1 m2 (k : Int) (lit_wf _ (by omega) (by omega))
    rw [← hq] at h1
    exact h1
  have lk0 := lk w0.drew rfl
  have A0 := Lib.hid hQ
  have A1 := Lib.hid hq
  clear hQ hq hS lk
  refine wp_region_noPanic ?_
  refine RegU.begin (S := fun wz => wz.cell? ⟨zx, 0, none⟩ = some (.pointer (some ⟨zb, 0, none⟩)) ∧ wz.cell? ⟨zb, 3, none⟩ = some (.slice (some ⟨gE, 0, none⟩) n cE) ∧ wz.cell? ⟨gE, k, none⟩ = some (.bool false) ∧ wz.cell? ⟨lv, 0, none⟩ = some (.map (some mb)) ∧ (Instr.lookup 210 (.map (some mb)) (.int .i64 (k : Int)) false).run Tryd.prog wz = .ok (.bool q) wz) (N := [4, 5, 6, 7, 8, 9, 10, 11, 12, 13, 14, 15, 16]) (by kernel_rfl) ?_ (fun hHeld => ?_)
  · (try dsimp only); first | assumption | go_keep
  refine RegU.tk [1, 2, 3, 17, 18] 0 ?_
  refine RegU.tk [2, 3, 17, 18] 1 ?_
  refine RegU.tk [3, 17, 18] 2 ?_
  refine RegU.tk [17, 18] 3 ?_
  refine RegU.tk [17, 18] 4 ?_
  refine RegU.tk [6, 7, 8, 10, 11, 12, 13, 14, 15, 16, 17, 18] 5 ?_
  refine RegU.tk [7, 8, 10, 11, 12, 13, 14, 15, 16, 17, 18] 6 ?_
  refine RegU.tk [8, 10, 11, 12, 13, 14, 15, 16, 17, 18] 7 ?_
  refine RegU.tk [10, 11, 12, 13, 14, 15, 16, 17, 18] 8 ?_
  refine RegU.tk [10, 11, 12, 13, 14, 15, 16, 17, 18] 9 ?_
  refine RegU.tk [11, 12, 13, 14, 15, 16, 17, 18] 10 ?_
  refine RegU.tk [12, 13, 14, 15, 16, 17, 18] 11 ?_
  refine RegU.tk [13, 14, 15, 16, 17, 18] 12 ?_
  refine RegU.tu [15, 16, 17, 18] 13 ?_
  refine RegU.tu [15, 16, 17, 18] 14 ?_
  refine RegU.tu [16, 17, 18] 15 ?_
  refine RegU.tk [17, 18] 16 ?_
  refine RegU.tk [18] 17 ?_
  refine RegU.rest [18] [_] (by kernel_rfl) rfl ?_
  have f5 : w0.drew.cell? ⟨gE, k, none⟩ = some (.bool false) := e
  have f6 : w0.drew.frozen? ⟨gE, k, none⟩ = false := ef
  clear x z3 l lk0 e ef hHeld
  go_wp2
  exact A0.out _ _ _ _ _ _ _ _ _ _ _ _ _ _ _ _ _ _ _ rfl

theorem here_yes {Q : Exit → Act → World → Prop} {u0 u1 u3 u4 u5 u6 u7 u8 u9 Ja Jc Jd Jf Jg Jh Ji Jj Jk Jl Jm Jn Jo Jp Jq Jr Js Jt Ju Jv Jw Jx Jy Jz Qa Qb Qc Qd Qe Qf Qg Qh Qi Qj Qk Ql Qm Qn Qo Qp Qq Qr Qs Qt Qu Qv Qw Qx Qy Qz Xe Xg Xh Xi Xj Xk Xn Xo Xp Xq Xt Xu Xv Xx Xy Xz Yg Yh Yi Yj Yk Yl Ym Yn Yo Yp Yq Yr Ys Yt Yu Yv Yw Yx Yy Yz Ua Ub Uc Ud Ue Uf Ug Uh Ui Uj Uk Ul Um Un Uo Up Uq Ur Us Ut Uu Uv Uw Ux Uy Uz Wc Wd We Wf Wg Wh Wi Wj Wk Wl Wm Wn Wo Wp Wq Wt Wu Ww Wx Wy Wz Ka Kb Kc Kd Ke Kf Kg Kh Kj Kl Km Kn Ko Kp Kq Kr Kt Ku Kv Kw Kx Ky Kz Rg Rh Ri Rj Rk Rl Rm Rp Rq Rt Ru Rx Ry Rz Gc Ge Gf Gg Gh Gi Gj Gm Gn Gp Gq Gt Gu Gv Gx Gy Gz Fe Ff Fg Fh Fi Fj Fk Fm Fo Fp Fq Fs Ft Fu Fv Fw Fx Fy Fz Ec Ee Ef Eg Eh Ei Ej Ek Em En Eo Ep Eu Ev Ex Ey Ez Da Db Dc Dd Dg Dh Di Dj Dk Dl Dm Dn Do Dp Dq Dt Du Dv Dw Dx Dy Dz Pa Pb Pc Pe Pf Pg Ph Pi Pj Pk Pm Pn Po Pq Ps Pt Pu Pv Pw Px Py Pz Na : Value} (w0 : World) (zx zb gE cE lv mb n k : Nat) (s : List Int) (hkn : k < n) (hn : n ≤ 1000)
    (x : w0.cell? ⟨zx, 0, none⟩ = some (.pointer (some ⟨zb, 0, none⟩))) (z3 : w0.cell? ⟨zb, 3, none⟩ = some (.slice (some ⟨gE, 0, none⟩) n cE)) (e : w0.cell? ⟨gE, k, none⟩ = some (.bool true)) (ef : w0.frozen? ⟨gE, k, none⟩ = false)
    (l : w0.cell? ⟨lv, 0, none⟩ = some (.map (some mb))) (hS : Sh w0 mb s)
    (hQ : ∀ (sDC sDD sDE sDF sDG sDH sDI sDJ sDK sDL sDM sDN sDO sDP sDQ sDR sDS sDT : Value) (w' : World), w' = w0.drew.setCell ⟨gE, k, none⟩ (.bool (decide ((k : Int) ∈ s))) → Q .normal ⟨#[u0,u1,(.pointer (some ⟨zx,0,none⟩)),u3,u4,u5,u6,u7,u8,u9,Ja,(.pointer (some ⟨lv,0,none⟩)),Jc,Jd,(.int .i64 (k : Int)),Jf,Jg,Jh,Ji,Jj,Jk,Jl,Jm,Jn,Jo,Jp,Jq,Jr,Js,Jt,Ju,Jv,Jw,Jx,Jy,Jz,Qa,Qb,Qc,Qd,Qe,Qf,Qg,Qh,Qi,Qj,Qk,Ql,Qm,Qn,Qo,Qp,Qq,Qr,Qs,Qt,Qu,Qv,Qw,Qx,Qy,Qz,Xe,Xg,Xh,Xi,Xj,Xk,Xn,Xo,Xp,Xq,Xt,Xu,Xv,Xx,Xy,Xz,Yg,Yh,Yi,Yj,Yk,Yl,Ym,Yn,Yo,Yp,Yq,Yr,Ys,Yt,Yu,Yv,Yw,Yx,Yy,Yz,Ua,Ub,Uc,Ud,Ue,Uf,Ug,Uh,Ui,Uj,Uk,Ul,Um,Un,Uo,Up,Uq,Ur,Us,Ut,Uu,Uv,Uw,Ux,Uy,Uz,Wc,Wd,We,Wf,Wg,Wh,Wi,Wj,Wk,Wl,Wm,Wn,Wo,Wp,Wq,Wt,Wu,Ww,Wx,Wy,Wz,Ka,Kb,Kc,Kd,Ke,Kf,Kg,Kh,Kj,Kl,Km,Kn,Ko,Kp,Kq,Kr,Kt,Ku,Kv,Kw,Kx,Ky,Kz,Rg,Rh,Ri,Rj,Rk,Rl,Rm,Rp,Rq,Rt,Ru,Rx,Ry,Rz,Gc,Ge,(sDC),(sDD),(sDE),(sDF),(sDG),(sDH),(sDI),(sDJ),(sDK),(sDL),(sDM),(sDN),(sDO),(sDP),(sDQ),(sDR),(sDS),(sDT),Fh,Fi,Fj,Fk,Fm,Fo,Fp,Fq,Fs,Ft,Fu,Fv,Fw,Fx,Fy,Fz,Ec,Ee,Ef,Eg,Eh,Ei,Ej,Ek,Em,En,Eo,Ep,Eu,Ev,Ex,Ey,Ez,Da,Db,Dc,Dd,Dg,Dh,Di,Dj,Dk,Dl,Dm,Dn,Do,Dp,Dq,Dt,Du,Dv,Dw,Dx,Dy,Dz,Pa,Pb,Pc,Pe,Pf,Pg,Ph,Pi,Pj,Pk,Pm,Pn,Po,Pq,Ps,Pt,Pu,Pv,Pw,Px,Py,Pz,Na], []⟩ w') :
    Code.wp Tryd.prog (Cut.piece Tryd.f73 (Cut.region 34)) Q ⟨#[u0,u1,(.pointer (some ⟨zx,0,none⟩)),u3,u4,u5,u6,u7,u8,u9,Ja,(.pointer (some ⟨lv,0,none⟩)),Jc,Jd,(.int .i64 (k : Int)),Jf,Jg,Jh,Ji,Jj,Jk,Jl,Jm,Jn,Jo,Jp,Jq,Jr,Js,Jt,Ju,Jv,Jw,Jx,Jy,Jz,Qa,Qb,Qc,Qd,Qe,Qf,Qg,Qh,Qi,Qj,Qk,Ql,Qm,Qn,Qo,Qp,Qq,Qr,Qs,Qt,Qu,Qv,Qw,Qx,Qy,Qz,Xe,Xg,Xh,Xi,Xj,Xk,Xn,Xo,Xp,Xq,Xt,Xu,Xv,Xx,Xy,Xz,Yg,Yh,Yi,Yj,Yk,Yl,Ym,Yn,Yo,Yp,Yq,Yr,Ys,Yt,Yu,Yv,Yw,Yx,Yy,Yz,Ua,Ub,Uc,Ud,Ue,Uf,Ug,Uh,Ui,Uj,Uk,Ul,Um,Un,Uo,Up,Uq,Ur,Us,Ut,Uu,Uv,Uw,Ux,Uy,Uz,Wc,Wd,We,Wf,Wg,Wh,Wi,Wj,Wk,Wl,Wm,Wn,Wo,Wp,Wq,Wt,Wu,Ww,Wx,Wy,Wz,Ka,Kb,Kc,Kd,Ke,Kf,Kg,Kh,Kj,Kl,Km,Kn,Ko,Kp,Kq,Kr,Kt,Ku,Kv,Kw,Kx,Ky,Kz,Rg,Rh,Ri,Rj,Rk,Rl,Rm,Rp,Rq,Rt,Ru,Rx,Ry,Rz,Gc,Ge,Gf,Gg,Gh,Gi,Gj,Gm,Gn,Gp,Gq,Gt,Gu,Gv,Gx,Gy,Gz,Fe,Ff,Fg,Fh,Fi,Fj,Fk,Fm,Fo,Fp,Fq,Fs,Ft,Fu,Fv,Fw,Fx,Fy,Fz,Ec,Ee,Ef,Eg,Eh,Ei,Ej,Ek,Em,En,Eo,Ep,Eu,Ev,Ex,Ey,Ez,Da,Db,Dc,Dd,Dg,Dh,Di,Dj,Dk,Dl,Dm,Dn,Do,Dp,Dq,Dt,Du,Dv,Dw,Dx,Dy,Dz,Pa,Pb,Pc,Pe,Pf,Pg,Ph,Pi,Pj,Pk,Pm,Pn,Po,Pq,Ps,Pt,Pu,Pv,Pw,Px,Py,Pz,Na], []⟩ w0 := by
  conv => arg 2; whnf
  have k0 : (0 : Int) ≤ (k : Int) := by omega
  have k1 : (k : Int) < (n : Int) := by omega
  obtain ⟨q, hq⟩ : ∃ q, q = decide ((k : Int) ∈ s) := ⟨_, rfl⟩
  have lk : ∀ wz : World, wz.heap = w0.heap → (Instr.lookup 210 (.map (some mb)) (.int .i64 (k : Int)) false).run Tryd.prog wz = .ok (.bool q) wz := fun wz hw => by
    obtain ⟨D, m1, m2⟩ := hS.same (w' := wz) (by rw [hw])
    have h1 := look_bool m1 m2 (k : Int) (lit_wf _ (by omega) (by omega))
    rw [← hq] at h1
    exact h1
  have lk0 := lk w0.drew rfl
  have A0 := Lib.hid hQ
  have A1 := Lib.hid hq
  clear hQ hq hS lk
  refine wp_region_noPanic ?_
  refine RegU.begin (S := fun wz => wz.cell? ⟨zx, 0, none⟩ = some (.pointer (some ⟨zb, 0, none⟩)) ∧ wz.cell? ⟨zb, 3, none⟩ = some (.slice (some ⟨gE, 0, none⟩) n cE) ∧ wz.cell? ⟨gE, k, none⟩ = some (.bool true) ∧ wz.cell? ⟨lv, 0, none⟩ = some (.map (some mb)) ∧ (Instr.lookup 210 (.map (some mb)) (.int .i64 (k : Int)) false).run Tryd.prog wz = .ok (.bool q) wz) (N := [4, 5, 6, 7, 8, 9, 10, 11, 12, 13, 14, 15, 16]) (by kernel_rfl) ?_ (fun hHeld => ?_)
  · (try dsimp only); first | assumption | go_keep
  refine RegU.tk [1, 2, 3, 17, 18] 0 ?_
  refine RegU.tk [2, 3, 17, 18] 1 ?_
  refine RegU.tk [3, 17, 18] 2 ?_
  refine RegU.tk [17, 18] 3 ?_
  refine RegU.tk [17, 18] 4 ?_
  refine RegU.tk [6, 7, 8, 10, 11, 12, 13, 14, 15, 16, 17, 18] 5 ?_
  refine RegU.tk [7, 8, 10, 11, 12, 13, 14, 15, 16, 17, 18] 6 ?_
  refine RegU.tk [8, 10, 11, 12, 13, 14, 15, 16, 17, 18] 7 ?_
  refine RegU.tk [10, 11, 12, 13, 14, 15, 16, 17, 18] 8 ?_
  refine RegU.tk [10, 11, 12, 13, 14, 15, 16, 17, 18] 9 ?_
  refine RegU.tk [11, 12, 13, 14, 15, 16, 17, 18] 10 ?_
  refine RegU.tk [12, 13, 14, 15, 16, 17, 18] 11 ?_
  refine RegU.tk [13, 14, 15, 16, 17, 18] 12 ?_
  refine RegU.tk [15, 16, 17, 18] 13 ?_
  refine RegU.tk [15, 16, 17, 18] 14 ?_
  refine RegU.tk [16, 17, 18] 15 ?_
  refine RegU.tk [17, 18] 16 ?_
  refine RegU.tk [18] 17 ?_
  refine RegU.rest [18] [_] (by kernel_rfl) rfl ?_
  have f5 : w0.drew.cell? ⟨gE, k, none⟩ = some (.bool true) := e
  have f6 : w0.drew.frozen? ⟨gE, k, none⟩ = false := ef
  clear x z3 l lk0 e ef hHeld
  go_wp2
  exact A0.out _ _ _ _ _ _ _ _ _ _ _ _ _ _ _ _ _ _ _ (by rw [← A1.out]; rfl)

end Go.Proofs.YthbkklnahhdgcaaDoor.PlFb

namespace Go.Proofs.YthbkklnahhdgcaaDoor.PlFc
open Go Go.Proofs Go.RowKit Go.Maps Go.Proofs.YthbkklnahhdgcaaDoor.Lib HeapR HeapB HeapC HeapD HeapG HeapH ErrC ChA ChT ChCa ChCc ChE ChH ChI ChK ChL ChN ChO ChP ChR ChV ChW ChZ PlT PlZ PlU PlQ PlL PlLa PlLb PlLc PlLd PlE PlEa PlEb ChJ

theorem where_no {Q : Exit → Act → World → Prop} {u0 u1 u3 u4 u5 u6 u7 u8 u9 Ja Jb Jc Jd Jh Ji Jj Jk Jl Jm Jn Jo Jp Jq Jr Js Jt Ju Jv Jw Jx Jy Jz Qa Qb Qc Qd Qe Qf Qg Qh Qi Qj Qk Ql Qm Qn Qo Qp Qq Qr Qs Qt Qu Qv Qw Qx Qy Qz Xe Xg Xh Xi Xj Xk Xn Xo Xp Xq Xt Xu Xv Xx Xy Xz Yg Yh Yi Yj Yk Yl Ym Yn Yo Yp Yq Yr Ys Yt Yu Yv Yw Yx Yy Yz Ua Ub Uc Ud Ue Uf Ug Uh Ui Uj Uk Ul Um Un Uo Up Uq Ur Us Ut Uu Uv Uw Ux Uy Uz Wc Wd We Wf Wg Wh Wi Wj Wk Wl Wm Wn Wo Wp Wq Wt Wu Ww Wx Wy Wz Ka Kb Kc Kd Ke Kf Kg Kh Kj Kl Km Kn Ko Kp Kq Kr Kt Ku Kv Kw Kx Ky Kz Rg Rh Ri Rj Rk Rl Rm Rp Rq Rt Ru Rx Ry Rz Gc Ge Gf Gg Gh Gi Gj Gm Gn Gp Gq Gt Gu Gv Gx Gy Gz Fe Ff Fg Fh Fi Fj Fk Fm Fo Fp Fq Fs Ft Fu Fv Fw Fx Fy Fz Ec Ee Ef Eg Eh Ei Ej Ek Em En Eo Ep Eu Ev Ex Ey Ez Da Db Dc Dd Dg Dh Di Dj Dk Dl Dm Dn Do Dp Dq Dt Du Dv Dw Dx Dy Dz Pa Pb Pc Pe Pf Pg Ph Pi Pj Pk Pm Pn Po Pq Ps Pt Pu Pv Pw Px Py Pz Na : Value} (w0 : World) (zx zb gE cE gW cW gK cK tb n k : Nat) (a id : Int) (hb wk0 : Bool) (a0 a1 : Int) (a2 : ByteArray) (hkn : k < n) (_hn : n ≤ 1000) (hid : id ≤ 0)
    (x : w0.cell? ⟨zx, 0, none⟩ = some (.pointer (some ⟨zb, 0, none⟩))) (z2 : w0.cell? ⟨zb, 2, none⟩ = some (.slice (some ⟨gW, 0, none⟩) n cW)) (z3 : w0.cell? ⟨zb, 3, none⟩ = some (.slice (some ⟨gE, 0, none⟩) n cE)) (z4 : w0.cell? ⟨zb, 4, none⟩ = some (.slice (some ⟨gK, 0, none⟩) n cK))
    (e : w0.cell? ⟨gE, k, none⟩ = some (.bool hb)) (i2 : w0.cell? ⟨tb, 2, none⟩ = some (.int .i64 id)) (m0 : w0.cell? ⟨gW, k * 3, none⟩ = some (.int .i64 a0)) (m1 : w0.cell? ⟨gW, k * 3 + 1, none⟩ = some (.int .i64 a1)) (m2 : w0.cell? ⟨gW, k * 3 + 2, none⟩ = some (.string a2)) (mk : w0.cell? ⟨gK, k, none⟩ = some (.bool wk0))
    (fw : ∀ i, w0.frozen? ⟨gW, i, none⟩ = false) (fk : w0.frozen? ⟨gK, k, none⟩ = false) (hne : gK ≠ gW) (nx : zx ≠ gW) (nz : zb ≠ gW) (nE : gE ≠ gW) (nt : tb ≠ gW)
    (hQ : ∀ (sEK sEL sEM sEN sEO sEP sEQ sER sES sET sEU sEV sEW sEX sEY sEZ sFa sFb sFc sFd sFe sFf sFg sFh sFi sFj sFk sFl : Value) (w' : World), w' = ((((w0.drew.setCell ⟨gW, k * 3, none⟩ (.int .i64 4)).setCell ⟨gW, k * 3 + 1, none⟩ (.int .i64 a)).setCell ⟨gW, k * 3 + 2, none⟩ (.string ByteArray.empty)).setCell ⟨gK, k, none⟩ (.bool false)) → Q .normal ⟨#[u0,u1,(.pointer (some ⟨zx,0,none⟩)),u3,u4,u5,u6,u7,u8,u9,Ja,Jb,Jc,Jd,(.int .i64 (k : Int)),(.pointer (some ⟨tb,0,none⟩)),(.int .i64 a),Jh,Ji,Jj,Jk,Jl,Jm,Jn,Jo,Jp,Jq,Jr,Js,Jt,Ju,Jv,Jw,Jx,Jy,Jz,Qa,Qb,Qc,Qd,Qe,Qf,Qg,Qh,Qi,Qj,Qk,Ql,Qm,Qn,Qo,Qp,Qq,Qr,Qs,Qt,Qu,Qv,Qw,Qx,Qy,Qz,Xe,Xg,Xh,Xi,Xj,Xk,Xn,Xo,Xp,Xq,Xt,Xu,Xv,Xx,Xy,Xz,Yg,Yh,Yi,Yj,Yk,Yl,Ym,Yn,Yo,Yp,Yq,Yr,Ys,Yt,Yu,Yv,Yw,Yx,Yy,Yz,Ua,Ub,Uc,Ud,Ue,Uf,Ug,Uh,Ui,Uj,Uk,Ul,Um,Un,Uo,Up,Uq,Ur,Us,Ut,Uu,Uv,Uw,Ux,Uy,Uz,Wc,Wd,We,Wf,Wg,Wh,Wi,Wj,Wk,Wl,Wm,Wn,Wo,Wp,Wq,Wt,Wu,Ww,Wx,Wy,Wz,Ka,Kb,Kc,Kd,Ke,Kf,Kg,Kh,Kj,Kl,Km,Kn,Ko,Kp,Kq,Kr,Kt,Ku,Kv,Kw,Kx,Ky,Kz,Rg,Rh,Ri,Rj,Rk,Rl,Rm,Rp,Rq,Rt,Ru,Rx,Ry,Rz,Gc,Ge,Gf,Gg,Gh,Gi,Gj,Gm,Gn,Gp,Gq,Gt,Gu,Gv,Gx,Gy,Gz,Fe,Ff,Fg,Fh,Fi,Fj,Fk,Fm,Fo,Fp,Fq,Fs,Ft,Fu,Fv,Fw,Fx,Fy,Fz,Ec,Ee,Ef,Eg,Eh,Ei,Ej,Ek,Em,En,Eo,Ep,Eu,Ev,Ex,Ey,Ez,Da,Db,Dc,Dd,Dg,Dh,Di,Dj,Dk,(sEK),(sEL),(sEM),(sEN),(sEO),(sEP),(sEQ),(sER),(sES),(sET),(sEU),(sEV),(sEW),(sEX),(sEY),(sEZ),(sFa),(sFb),(sFc),(sFd),(sFe),(sFf),(sFg),(sFh),(sFi),(sFj),(sFk),(sFl),Pt,Pu,Pv,Pw,Px,Py,Pz,Na], []⟩ w') :
    Code.wp Tryd.prog (Cut.piece Tryd.f73 (Cut.region 40)) Q ⟨#[u0,u1,(.pointer (some ⟨zx,0,none⟩)),u3,u4,u5,u6,u7,u8,u9,Ja,Jb,Jc,Jd,(.int .i64 (k : Int)),(.pointer (some ⟨tb,0,none⟩)),(.int .i64 a),Jh,Ji,Jj,Jk,Jl,Jm,Jn,Jo,Jp,Jq,Jr,Js,Jt,Ju,Jv,Jw,Jx,Jy,Jz,Qa,Qb,Qc,Qd,Qe,Qf,Qg,Qh,Qi,Qj,Qk,Ql,Qm,Qn,Qo,Qp,Qq,Qr,Qs,Qt,Qu,Qv,Qw,Qx,Qy,Qz,Xe,Xg,Xh,Xi,Xj,Xk,Xn,Xo,Xp,Xq,Xt,Xu,Xv,Xx,Xy,Xz,Yg,Yh,Yi,Yj,Yk,Yl,Ym,Yn,Yo,Yp,Yq,Yr,Ys,Yt,Yu,Yv,Yw,Yx,Yy,Yz,Ua,Ub,Uc,Ud,Ue,Uf,Ug,Uh,Ui,Uj,Uk,Ul,Um,Un,Uo,Up,Uq,Ur,Us,Ut,Uu,Uv,Uw,Ux,Uy,Uz,Wc,Wd,We,Wf,Wg,Wh,Wi,Wj,Wk,Wl,Wm,Wn,Wo,Wp,Wq,Wt,Wu,Ww,Wx,Wy,Wz,Ka,Kb,Kc,Kd,Ke,Kf,Kg,Kh,Kj,Kl,Km,Kn,Ko,Kp,Kq,Kr,Kt,Ku,Kv,Kw,Kx,Ky,Kz,Rg,Rh,Ri,Rj,Rk,Rl,Rm,Rp,Rq,Rt,Ru,Rx,Ry,Rz,Gc,Ge,Gf,Gg,Gh,Gi,Gj,Gm,Gn,Gp,Gq,Gt,Gu,Gv,Gx,Gy,Gz,Fe,Ff,Fg,Fh,Fi,Fj,Fk,Fm,Fo,Fp,Fq,Fs,Ft,Fu,Fv,Fw,Fx,Fy,Fz,Ec,Ee,Ef,Eg,Eh,Ei,Ej,Ek,Em,En,Eo,Ep,Eu,Ev,Ex,Ey,Ez,Da,Db,Dc,Dd,Dg,Dh,Di,Dj,Dk,Dl,Dm,Dn,Do,Dp,Dq,Dt,Du,Dv,Dw,Dx,Dy,Dz,Pa,Pb,Pc,Pe,Pf,Pg,Ph,Pi,Pj,Pk,Pm,Pn,Po,Pq,Ps,Pt,Pu,Pv,Pw,Px,Py,Pz,Na], []⟩ w0 := by
  conv => arg 2; whnf
  have k0 : (0 : Int) ≤ (k : Int) := by omega
  have k1 : (k : Int) < (n : Int) := by omega
  have g1 : decide (0 < id) = false := by simp; omega
  have A0 := Lib.hid hQ
  clear hQ
  have kp : ∀ p : Addr, p.block ≠ gW → ((((w0.setCell ⟨gW, k * 3, none⟩ (.int .i64 4)).setCell ⟨gW, k * 3 + 1, none⟩ (.int .i64 a)).setCell ⟨gW, k * 3 + 2, none⟩ (.string ⟨#[]⟩)).drew).cell? p = w0.cell? p := fun p hp => ((cell_set_out (w := (w0.setCell ⟨gW, k * 3, none⟩ (.int .i64 4)).setCell ⟨gW, k * 3 + 1, none⟩ (.int .i64 a)) hp).trans (cell_set_out (w := w0.setCell ⟨gW, k * 3, none⟩ (.int .i64 4)) hp)).trans (cell_set_out (w := w0) hp)
  have d0 : w0.drew.cell? ⟨gW, k * 3, none⟩ = some (.int .i64 a0) := m0
  have d1 : w0.drew.cell? ⟨gW, k * 3 + 1, none⟩ = some (.int .i64 a1) := m1
  have d2 : w0.drew.cell? ⟨gW, k * 3 + 2, none⟩ = some (.string a2) := m2
  have d3 : ((((w0.setCell ⟨gW, k * 3, none⟩ (.int .i64 4)).setCell ⟨gW, k * 3 + 1, none⟩ (.int .i64 a)).setCell ⟨gW, k * 3 + 2, none⟩ (.string ⟨#[]⟩)).drew).cell? ⟨gK, k, none⟩ = some (.bool wk0) := (kp ⟨gK, k, none⟩ hne).trans mk
  have d4 : w0.drew.frozen? ⟨gW, k * 3, none⟩ = false := fw _
  have d5 : w0.drew.frozen? ⟨gW, k * 3 + 1, none⟩ = false := fw _
  have d6 : w0.drew.frozen? ⟨gW, k * 3 + 2, none⟩ = false := fw _
  have d7 : ((((w0.setCell ⟨gW, k * 3, none⟩ (.int .i64 4)).setCell ⟨gW, k * 3 + 1, none⟩ (.int .i64 a)).setCell ⟨gW, k * 3 + 2, none⟩ (.string ⟨#[]⟩)).drew).frozen? ⟨gK, k, none⟩ = false := (frozen_set (w := (w0.setCell ⟨gW, k * 3, none⟩ (.int .i64 4)).setCell ⟨gW, k * 3 + 1, none⟩ (.int .i64 a))).trans ((frozen_set (w := w0.setCell ⟨gW, k * 3, none⟩ (.int .i64 4))).trans ((frozen_set (w := w0)).trans fk))
  refine wp_region_noPanic ?_
  refine RegU.begin (S := fun wz => wz.cell? ⟨zx, 0, none⟩ = some (.pointer (some ⟨zb, 0, none⟩)) ∧ wz.cell? ⟨zb, 2, none⟩ = some (.slice (some ⟨gW, 0, none⟩) n cW) ∧ wz.cell? ⟨zb, 3, none⟩ = some (.slice (some ⟨gE, 0, none⟩) n cE) ∧ wz.cell? ⟨zb, 4, none⟩ = some (.slice (some ⟨gK, 0, none⟩) n cK) ∧ wz.cell? ⟨gE, k, none⟩ = some (.bool hb) ∧ wz.cell? ⟨tb, 2, none⟩ = some (.int .i64 id)) (N := [4, 5, 6, 7, 8, 9, 10, 11, 12, 13, 14, 15, 16, 17, 18, 19, 20, 21, 22, 23, 24, 25, 26, 27]) (by kernel_rfl) ?_ (fun hHeld => ?_)
  · (try dsimp only); first | assumption | go_keep
  refine RegU.tk [1, 2, 3, 26, 27, 28, 29] 0 ?_
  refine RegU.tk [2, 3, 26, 27, 28, 29] 1 ?_
  refine RegU.tk [3, 26, 27, 28, 29] 2 ?_
  refine RegU.tk [26, 27, 28, 29] 3 ?_
  refine RegU.tk [26, 27, 28, 29] 4 ?_
  refine RegU.tk [6, 7, 8, 26, 27, 28, 29] 5 ?_
  refine RegU.tk [7, 8, 26, 27, 28, 29] 6 ?_
  refine RegU.tk [8, 26, 27, 28, 29] 7 ?_
  refine RegU.tk [26, 27, 28, 29] 8 ?_
  refine RegU.tk [28, 29] 9 ?_
  refine RegU.tk [11, 26, 27, 28, 29] 10 ?_
  refine RegU.tk [26, 27, 28, 29] 11 ?_
  refine RegU.tk [13, 14, 15, 16, 17, 18, 19, 20, 21, 22, 23, 24, 25, 26, 27, 28, 29] 12 ?_
  refine RegU.tk [14, 15, 16, 17, 18, 19, 20, 21, 22, 23, 24, 25, 26, 27, 28, 29] 13 ?_
  refine RegU.tk [15, 16, 17, 18, 19, 20, 21, 22, 23, 24, 25, 26, 27, 28, 29] 14 ?_
  refine RegU.tk [16, 17, 18, 19, 20, 21, 22, 23, 24, 25, 26, 27, 28, 29] 15 ?_
  refine RegU.tk [17, 18, 19, 20, 21, 22, 23, 24, 25, 26, 27, 28, 29] 16 ?_
  refine RegU.tk [18, 19, 20, 21, 22, 23, 24, 25, 26, 27, 28, 29] 17 ?_
  refine RegU.tu [19, 20, 21, 23, 24, 25, 26, 27, 28, 29] 18 ?_
  refine RegU.tu [20, 21, 23, 24, 25, 26, 27, 28, 29] 19 ?_
  refine RegU.tu [21, 23, 24, 25, 26, 27, 28, 29] 20 ?_
  refine RegU.tu [23, 24, 25, 26, 27, 28, 29] 21 ?_
  refine RegU.tu [23, 24, 25, 26, 27, 28, 29] 22 ?_
  refine RegU.tu [24, 25, 26, 27, 28, 29] 23 ?_
  refine RegU.tu [25, 26, 27, 28, 29] 24 ?_
  refine RegU.tk [28, 29] 25 ?_
  refine RegU.tk [27, 28, 29] 26 ?_
  refine RegU.one (i := 27) (by kernel_rfl) rfl (fun K hK => ?_)
  go_simp
  refine hK.out _ _ ⟨(kp ⟨zx, 0, none⟩ nx).trans x, (kp ⟨zb, 2, none⟩ nz).trans z2, (kp ⟨zb, 3, none⟩ nz).trans z3, (kp ⟨zb, 4, none⟩ nz).trans z4, (kp ⟨gE, k, none⟩ nE).trans e, (kp ⟨tb, 2, none⟩ nt).trans i2⟩ (fun hHeld => ?_)
  clear hK K
  try simp only [Act.put, List.setIfInBounds_toArray, List.set_cons_zero, List.set_cons_succ]
  refine RegU.tk [29] 28 ?_
  refine RegU.rest [29] [_] (by kernel_rfl) rfl ?_
  clear x z2 z3 z4 e i2 m0 m1 m2 mk fw fk hHeld kp d0 d1 d2 d4 d5 d6
  go_wp2
  exact A0.out _ _ _ _ _ _ _ _ _ _ _ _ _ _ _ _ _ _ _ _ _ _ _ _ _ _ _ _ _ rfl

theorem where_yes {Q : Exit → Act → World → Prop} {u0 u1 u3 u4 u5 u6 u7 u8 u9 Ja Jb Jc Jd Jh Ji Jj Jk Jl Jm Jn Jo Jp Jq Jr Js Jt Ju Jv Jw Jx Jy Jz Qa Qb Qc Qd Qe Qf Qg Qh Qi Qj Qk Ql Qm Qn Qo Qp Qq Qr Qs Qt Qu Qv Qw Qx Qy Qz Xe Xg Xh Xi Xj Xk Xn Xo Xp Xq Xt Xu Xv Xx Xy Xz Yg Yh Yi Yj Yk Yl Ym Yn Yo Yp Yq Yr Ys Yt Yu Yv Yw Yx Yy Yz Ua Ub Uc Ud Ue Uf Ug Uh Ui Uj Uk Ul Um Un Uo Up Uq Ur Us Ut Uu Uv Uw Ux Uy Uz Wc Wd We Wf Wg Wh Wi Wj Wk Wl Wm Wn Wo Wp Wq Wt Wu Ww Wx Wy Wz Ka Kb Kc Kd Ke Kf Kg Kh Kj Kl Km Kn Ko Kp Kq Kr Kt Ku Kv Kw Kx Ky Kz Rg Rh Ri Rj Rk Rl Rm Rp Rq Rt Ru Rx Ry Rz Gc Ge Gf Gg Gh Gi Gj Gm Gn Gp Gq Gt Gu Gv Gx Gy Gz Fe Ff Fg Fh Fi Fj Fk Fm Fo Fp Fq Fs Ft Fu Fv Fw Fx Fy Fz Ec Ee Ef Eg Eh Ei Ej Ek Em En Eo Ep Eu Ev Ex Ey Ez Da Db Dc Dd Dg Dh Di Dj Dk Dl Dm Dn Do Dp Dq Dt Du Dv Dw Dx Dy Dz Pa Pb Pc Pe Pf Pg Ph Pi Pj Pk Pm Pn Po Pq Ps Pt Pu Pv Pw Px Py Pz Na : Value} (w0 : World) (zx zb gE cE gW cW gK cK tb n k : Nat) (a id : Int) (hb wk0 : Bool) (a0 a1 : Int) (a2 : ByteArray) (hkn : k < n) (_hn : n ≤ 1000) (hid : 0 < id)
    (x : w0.cell? ⟨zx, 0, none⟩ = some (.pointer (some ⟨zb, 0, none⟩))) (z2 : w0.cell? ⟨zb, 2, none⟩ = some (.slice (some ⟨gW, 0, none⟩) n cW)) (z3 : w0.cell? ⟨zb, 3, none⟩ = some (.slice (some ⟨gE, 0, none⟩) n cE)) (z4 : w0.cell? ⟨zb, 4, none⟩ = some (.slice (some ⟨gK, 0, none⟩) n cK))
    (e : w0.cell? ⟨gE, k, none⟩ = some (.bool hb)) (i2 : w0.cell? ⟨tb, 2, none⟩ = some (.int .i64 id)) (m0 : w0.cell? ⟨gW, k * 3, none⟩ = some (.int .i64 a0)) (m1 : w0.cell? ⟨gW, k * 3 + 1, none⟩ = some (.int .i64 a1)) (m2 : w0.cell? ⟨gW, k * 3 + 2, none⟩ = some (.string a2)) (mk : w0.cell? ⟨gK, k, none⟩ = some (.bool wk0))
    (fw : ∀ i, w0.frozen? ⟨gW, i, none⟩ = false) (fk : w0.frozen? ⟨gK, k, none⟩ = false) (hne : gK ≠ gW) (nx : zx ≠ gW) (nz : zb ≠ gW) (nE : gE ≠ gW) (nt : tb ≠ gW)
    (hQ : ∀ (sEK sEL sEM sEN sEO sEP sEQ sER sES sET sEU sEV sEW sEX sEY sEZ sFa sFb sFc sFd sFe sFf sFg sFh sFi sFj sFk sFl : Value) (w' : World), w' = ((((w0.drew.setCell ⟨gW, k * 3, none⟩ (.int .i64 4)).setCell ⟨gW, k * 3 + 1, none⟩ (.int .i64 a)).setCell ⟨gW, k * 3 + 2, none⟩ (.string ByteArray.empty)).setCell ⟨gK, k, none⟩ (.bool hb)) → Q .normal ⟨#[u0,u1,(.pointer (some ⟨zx,0,none⟩)),u3,u4,u5,u6,u7,u8,u9,Ja,Jb,Jc,Jd,(.int .i64 (k : Int)),(.pointer (some ⟨tb,0,none⟩)),(.int .i64 a),Jh,Ji,Jj,Jk,Jl,Jm,Jn,Jo,Jp,Jq,Jr,Js,Jt,Ju,Jv,Jw,Jx,Jy,Jz,Qa,Qb,Qc,Qd,Qe,Qf,Qg,Qh,Qi,Qj,Qk,Ql,Qm,Qn,Qo,Qp,Qq,Qr,Qs,Qt,Qu,Qv,Qw,Qx,Qy,Qz,Xe,Xg,Xh,Xi,Xj,Xk,Xn,Xo,Xp,Xq,Xt,Xu,Xv,Xx,Xy,Xz,Yg,Yh,Yi,Yj,Yk,Yl,Ym,Yn,Yo,Yp,Yq,Yr,Ys,Yt,Yu,Yv,Yw,Yx,Yy,Yz,Ua,Ub,Uc,Ud,Ue,Uf,Ug,Uh,Ui,Uj,Uk,Ul,Um,Un,Uo,Up,Uq,Ur,Us,Ut,Uu,Uv,Uw,Ux,Uy,Uz,Wc,Wd,We,Wf,Wg,Wh,Wi,Wj,Wk,Wl,Wm,Wn,Wo,Wp,Wq,Wt,Wu,Ww,Wx,Wy,Wz,Ka,Kb,Kc,Kd,Ke,Kf,Kg,Kh,Kj,Kl,Km,Kn,Ko,Kp,Kq,Kr,Kt,Ku,Kv,Kw,Kx,Ky,Kz,Rg,Rh,Ri,Rj,Rk,Rl,Rm,Rp,Rq,Rt,Ru,Rx,Ry,Rz,Gc,Ge,Gf,Gg,Gh,Gi,Gj,Gm,Gn,Gp,Gq,Gt,Gu,Gv,Gx,Gy,Gz,Fe,Ff,Fg,Fh,Fi,Fj,Fk,Fm,Fo,Fp,Fq,Fs,Ft,Fu,Fv,Fw,Fx,Fy,Fz,Ec,Ee,Ef,Eg,Eh,Ei,Ej,Ek,Em,En,Eo,Ep,Eu,Ev,Ex,Ey,Ez,Da,Db,Dc,Dd,Dg,Dh,Di,Dj,Dk,(sEK),(sEL),(sEM),(sEN),(sEO),(sEP),(sEQ),(sER),(sES),(sET),(sEU),(sEV),(sEW),(sEX),(sEY),(sEZ),(sFa),(sFb),(sFc),(sFd),(sFe),(sFf),(sFg),(sFh),(sFi),(sFj),(sFk),(sFl),Pt,Pu,Pv,Pw,Px,Py,Pz,Na], []⟩ w') :
    Code.wp Tryd.prog (Cut.piece Tryd.f73 (Cut.region 40)) Q ⟨#[u0,u1,(.pointer (some ⟨zx,0,none⟩)),u3,u4,u5,u6,u7,u8,u9,Ja,Jb,Jc,Jd,(.int .i64 (k : Int)),(.pointer (some ⟨tb,0,none⟩)),(.int .i64 a),Jh,Ji,Jj,Jk,Jl,Jm,Jn,Jo,Jp,Jq,Jr,Js,Jt,Ju,Jv,Jw,Jx,Jy,Jz,Qa,Qb,Qc,Qd,Qe,Qf,Qg,Qh,Qi,Qj,Qk,Ql,Qm,Qn,Qo,Qp,Qq,Qr,Qs,Qt,Qu,Qv,Qw,Qx,Qy,Qz,Xe,Xg,Xh,Xi,Xj,Xk,Xn,Xo,Xp,Xq,Xt,Xu,Xv,Xx,Xy,Xz,Yg,Yh,Yi,Yj,Yk,Yl,Ym,Yn,Yo,Yp,Yq,Yr,Ys,Yt,Yu,Yv,Yw,Yx,Yy,Yz,Ua,Ub,Uc,Ud,Ue,Uf,Ug,Uh,Ui,Uj,Uk,Ul,Um,Un,Uo,Up,Uq,Ur,Us,Ut,Uu,Uv,Uw,Ux,Uy,Uz,Wc,Wd,We,Wf,Wg,Wh,Wi,Wj,Wk,Wl,Wm,Wn,Wo,Wp,Wq,Wt,Wu,Ww,Wx,Wy,Wz,Ka,Kb,Kc,Kd,Ke,Kf,Kg,Kh,Kj,Kl,Km,Kn,Ko,Kp,Kq,Kr,Kt,Ku,Kv,Kw,Kx,Ky,Kz,Rg,Rh,Ri,Rj,Rk,Rl,Rm,Rp,Rq,Rt,Ru,Rx,Ry,Rz,Gc,Ge,Gf,Gg,Gh,Gi,Gj,Gm,Gn,Gp,Gq,Gt,Gu,Gv,Gx,Gy,Gz,Fe,Ff,Fg,Fh,Fi,Fj,Fk,Fm,Fo,Fp,Fq,Fs,Ft,Fu,Fv,Fw,Fx,Fy,Fz,Ec,Ee,Ef,Eg,Eh,Ei,Ej,Ek,Em,En,Eo,Ep,Eu,Ev,Ex,Ey,Ez,Da,Db,Dc,Dd,Dg,Dh,Di,Dj,Dk,Dl,Dm,Dn,Do,Dp,Dq,Dt,Du,Dv,Dw,Dx,Dy,Dz,Pa,Pb,Pc,Pe,Pf,Pg,Ph,Pi,Pj,Pk,Pm,Pn,Po,Pq,Ps,Pt,Pu,Pv,Pw,Px,Py,Pz,Na], []⟩ w0 := by
  conv => arg 2; whnf
  have k0 : (0 : Int) ≤ (k : Int) := by omega
  have k1 : (k : Int) < (n : Int) := by omega
  have g1 : decide (0 < id) = true := by simp; omega
  have A0 := Lib.hid hQ
  clear hQ
  have kp : ∀ p : Addr, p.block ≠ gW → ((((w0.setCell ⟨gW, k * 3, none⟩ (.int .i64 4)).setCell ⟨gW, k * 3 + 1, none⟩ (.int .i64 a)).setCell ⟨gW, k * 3 + 2, none⟩ (.string ⟨#[]⟩)).drew).cell? p = w0.cell? p := fun p hp => ((cell_set_out (w := (w0.setCell ⟨gW, k * 3, none⟩ (.int .i64 4)).setCell ⟨gW, k * 3 + 1, none⟩ (.int .i64 a)) hp).trans (cell_set_out (w := w0.setCell ⟨gW, k * 3, none⟩ (.int .i64 4)) hp)).trans (cell_set_out (w := w0) hp)
  have d0 : w0.drew.cell? ⟨gW, k * 3, none⟩ = some (.int .i64 a0) := m0
  have d1 : w0.drew.cell? ⟨gW, k * 3 + 1, none⟩ = some (.int .i64 a1) := m1
  have d2 : w0.drew.cell? ⟨gW, k * 3 + 2, none⟩ = some (.string a2) := m2
  have d3 : ((((w0.setCell ⟨gW, k * 3, none⟩ (.int .i64 4)).setCell ⟨gW, k * 3 + 1, none⟩ (.int .i64 a)).setCell ⟨gW, k * 3 + 2, none⟩ (.string ⟨#[]⟩)).drew).cell? ⟨gK, k, none⟩ = some (.bool wk0) := (kp ⟨gK, k, none⟩ hne).trans mk
  have d4 : w0.drew.frozen? ⟨gW, k * 3, none⟩ = false := fw _
  have d5 : w0.drew.frozen? ⟨gW, k * 3 + 1, none⟩ = false := fw _
  have d6 : w0.drew.frozen? ⟨gW, k * 3 + 2, none⟩ = false := fw _
  have d7 : ((((w0.setCell ⟨gW, k * 3, none⟩ (.int .i64 4)).setCell ⟨gW, k * 3 + 1, none⟩ (.int .i64 a)).setCell ⟨gW, k * 3 + 2, none⟩ (.string ⟨#[]⟩)).drew).frozen? ⟨gK, k, none⟩ = false := (frozen_set (w := (w0.setCell ⟨gW, k * 3, none⟩ (.int .i64 4)).setCell ⟨gW, k * 3 + 1, none⟩ (.int .i64 a))).trans ((frozen_set (w := w0.setCell ⟨gW, k * 3, none⟩ (.int .i64 4))).trans ((frozen_set (w := w0)).trans fk))
  refine wp_region_noPanic ?_
  refine RegU.begin (S := fun wz => wz.cell? ⟨zx, 0, none⟩ = some (.pointer (some ⟨zb, 0, none⟩)) ∧ wz.cell? ⟨zb, 2, none⟩ = some (.slice (some ⟨gW, 0, none⟩) n cW) ∧ wz.cell? ⟨zb, 3, none⟩ = some (.slice (some ⟨gE, 0, none⟩) n cE) ∧ wz.cell? ⟨zb, 4, none⟩ = some (.slice (some ⟨gK, 0, none⟩) n cK) ∧ wz.cell? ⟨gE, k, none⟩ = some (.bool hb) ∧ wz.cell? ⟨tb, 2, none⟩ = some (.int .i64 id)) (N := [4, 5, 6, 7, 8, 9, 10, 11, 12, 13, 14, 15, 16, 17, 18, 19, 20, 21, 22, 23, 24, 25, 26, 27]) (by kernel_rfl) ?_ (fun hHeld => ?_)
  · (try dsimp only); first | assumption | go_keep
  refine RegU.tk [1, 2, 3, 26, 27, 28, 29] 0 ?_
  refine RegU.tk [2, 3, 26, 27, 28, 29] 1 ?_
  refine RegU.tk [3, 26, 27, 28, 29] 2 ?_
  refine RegU.tk [26, 27, 28, 29] 3 ?_
  refine RegU.tk [26, 27, 28, 29] 4 ?_
  refine RegU.tk [6, 7, 8, 26, 27, 28, 29] 5 ?_
  refine RegU.tk [7, 8, 26, 27, 28, 29] 6 ?_
  refine RegU.tk [8, 26, 27, 28, 29] 7 ?_
  refine RegU.tk [26, 27, 28, 29] 8 ?_
  refine RegU.tk [28, 29] 9 ?_
  refine RegU.tk [11, 26, 27, 28, 29] 10 ?_
  refine RegU.tk [26, 27, 28, 29] 11 ?_
  refine RegU.tk [13, 14, 15, 16, 17, 18, 19, 20, 21, 22, 23, 24, 25, 26, 27, 28, 29] 12 ?_
  refine RegU.tk [14, 15, 16, 17, 18, 19, 20, 21, 22, 23, 24, 25, 26, 27, 28, 29] 13 ?_
  refine RegU.tk [15, 16, 17, 18, 19, 20, 21, 22, 23, 24, 25, 26, 27, 28, 29] 14 ?_
  refine RegU.tk [16, 17, 18, 19, 20, 21, 22, 23, 24, 25, 26, 27, 28, 29] 15 ?_
  refine RegU.tk [17, 18, 19, 20, 21, 22, 23, 24, 25, 26, 27, 28, 29] 16 ?_
  refine RegU.tk [18, 19, 20, 21, 22, 23, 24, 25, 26, 27, 28, 29] 17 ?_
  refine RegU.tk [19, 20, 21, 23, 24, 25, 26, 27, 28, 29] 18 ?_
  refine RegU.tk [20, 21, 23, 24, 25, 26, 27, 28, 29] 19 ?_
  refine RegU.tk [21, 23, 24, 25, 26, 27, 28, 29] 20 ?_
  refine RegU.tk [23, 24, 25, 26, 27, 28, 29] 21 ?_
  refine RegU.tk [23, 24, 25, 26, 27, 28, 29] 22 ?_
  refine RegU.tk [24, 25, 26, 27, 28, 29] 23 ?_
  refine RegU.tk [25, 26, 27, 28, 29] 24 ?_
  refine RegU.tk [28, 29] 25 ?_
  refine RegU.tk [27, 28, 29] 26 ?_
  refine RegU.one (i := 27) (by kernel_rfl) rfl (fun K hK => ?_)
  go_simp
  refine hK.out _ _ ⟨(kp ⟨zx, 0, none⟩ nx).trans x, (kp ⟨zb, 2, none⟩ nz).trans z2, (kp ⟨zb, 3, none⟩ nz).trans z3, (kp ⟨zb, 4, none⟩ nz).trans z4, (kp ⟨gE, k, none⟩ nE).trans e, (kp ⟨tb, 2, none⟩ nt).trans i2⟩ (fun hHeld => ?_)
  clear hK K
  try simp only [Act.put, List.setIfInBounds_toArray, List.set_cons_zero, List.set_cons_succ]
  refine RegU.tk [29] 28 ?_
  refine RegU.rest [29] [_] (by kernel_rfl) rfl ?_
  clear x z2 z3 z4 e i2 m0 m1 m2 mk fw fk hHeld kp d0 d1 d2 d4 d5 d6
  go_wp2
  exact A0.out _ _ _ _ _ _ _ _ _ _ _ _ _ _ _ _ _ _ _ _ _ _ _ _ _ _ _ _ _ rfl

end Go.Proofs.YthbkklnahhdgcaaDoor.PlFc

namespace Go.Proofs.YthbkklnahhdgcaaDoor.PlFd
open Go Go.Proofs Go.RowKit Go.Maps Go.Proofs.YthbkklnahhdgcaaDoor.Lib HeapR HeapB HeapC HeapD HeapG HeapH ErrC ChA ChT ChCa ChCc ChE ChH ChI ChK ChL ChN ChO ChP ChR ChV ChW ChZ PlT PlZ PlU PlQ PlL PlLa PlLb PlLc PlLd PlE PlEa PlEb PlFb PlFc

theorem here_any {Q : Exit → Act → World → Prop} {u0 u1 u3 u4 u5 u6 u7 u8 u9 Ja Jc Jd Jf Jg Jh Ji Jj Jk Jl Jm Jn Jo Jp Jq Jr Js Jt Ju Jv Jw Jx Jy Jz Qa Qb Qc Qd Qe Qf Qg Qh Qi Qj Qk Ql Qm Qn Qo Qp Qq Qr Qs Qt Qu Qv Qw Qx Qy Qz Xe Xg Xh Xi Xj Xk Xn Xo Xp Xq Xt Xu Xv Xx Xy Xz Yg Yh Yi Yj Yk Yl Ym Yn Yo Yp Yq Yr Ys Yt Yu Yv Yw Yx Yy Yz Ua Ub Uc Ud Ue Uf Ug Uh Ui Uj Uk Ul Um Un Uo Up Uq Ur Us Ut Uu Uv Uw Ux Uy Uz Wc Wd We Wf Wg Wh Wi Wj Wk Wl Wm Wn Wo Wp Wq Wt Wu Ww Wx Wy Wz Ka Kb Kc Kd Ke Kf Kg Kh Kj Kl Km Kn Ko Kp Kq Kr Kt Ku Kv Kw Kx Ky Kz Rg Rh Ri Rj Rk Rl Rm Rp Rq Rt Ru Rx Ry Rz Gc Ge Gf Gg Gh Gi Gj Gm Gn Gp Gq Gt Gu Gv Gx Gy Gz Fe Ff Fg Fh Fi Fj Fk Fm Fo Fp Fq Fs Ft Fu Fv Fw Fx Fy Fz Ec Ee Ef Eg Eh Ei Ej Ek Em En Eo Ep Eu Ev Ex Ey Ez Da Db Dc Dd Dg Dh Di Dj Dk Dl Dm Dn Do Dp Dq Dt Du Dv Dw Dx Dy Dz Pa Pb Pc Pe Pf Pg Ph Pi Pj Pk Pm Pn Po Pq Ps Pt Pu Pv Pw Px Py Pz Na : Value} (w0 : World) (zx zb gE cE lv mb n k : Nat) (s : List Int) (hb0 : Bool) (hkn : k < n) (hn : n ≤ 1000)
    (x : w0.cell? ⟨zx, 0, none⟩ = some (.pointer (some ⟨zb, 0, none⟩))) (z3 : w0.cell? ⟨zb, 3, none⟩ = some (.slice (some ⟨gE, 0, none⟩) n cE)) (e : w0.cell? ⟨gE, k, none⟩ = some (.bool hb0)) (ef : w0.frozen? ⟨gE, k, none⟩ = false)
    (l : w0.cell? ⟨lv, 0, none⟩ = some (.map (some mb))) (hS : Sh w0 mb s)
    (hQ : ∀ (sDC sDD sDE sDF sDG sDH sDI sDJ sDK sDL sDM sDN sDO sDP sDQ sDR sDS sDT : Value) (w' : World), w' = w0.drew.setCell ⟨gE, k, none⟩ (.bool (hb0 && decide ((k : Int) ∈ s))) → Q .normal ⟨#[u0,u1,(.pointer (some ⟨zx,0,none⟩)),u3,u4,u5,u6,u7,u8,u9,Ja,(.pointer (some ⟨lv,0,none⟩)),Jc,Jd,(.int .i64 (k : Int)),Jf,Jg,Jh,Ji,Jj,Jk,Jl,Jm,Jn,Jo,Jp,Jq,Jr,Js,Jt,Ju,Jv,Jw,Jx,Jy,Jz,Qa,Qb,Qc,Qd,Qe,Qf,Qg,Qh,Qi,Qj,Qk,Ql,Qm,Qn,Qo,Qp,Qq,Qr,Qs,Qt,Qu,Qv,Qw,Qx,Qy,Qz,Xe,Xg,Xh,Xi,Xj,Xk,Xn,Xo,Xp,Xq,Xt,Xu,Xv,Xx,Xy,Xz,Yg,Yh,Yi,Yj,Yk,Yl,Ym,Yn,Yo,Yp,Yq,Yr,Ys,Yt,Yu,Yv,Yw,Yx,Yy,Yz,Ua,Ub,Uc,Ud,Ue,Uf,Ug,Uh,Ui,Uj,Uk,Ul,Um,Un,Uo,Up,Uq,Ur,Us,Ut,Uu,Uv,Uw,Ux,Uy,Uz,Wc,Wd,We,Wf,Wg,Wh,Wi,Wj,Wk,Wl,Wm,Wn,Wo,Wp,Wq,Wt,Wu,Ww,Wx,Wy,Wz,Ka,Kb,Kc,Kd,Ke,Kf,Kg,Kh,Kj,Kl,Km,Kn,Ko,Kp,Kq,Kr,Kt,Ku,Kv,Kw,Kx,Ky,Kz,Rg,Rh,Ri,Rj,Rk,Rl,Rm,Rp,Rq,Rt,Ru,Rx,Ry,Rz,Gc,Ge,(sDC),(sDD),(sDE),(sDF),(sDG),(sDH),(sDI),(sDJ),(sDK),(sDL),(sDM),(sDN),(sDO),(sDP),(sDQ),(sDR),(sDS),(sDT),Fh,Fi,Fj,Fk,Fm,Fo,Fp,Fq,Fs,Ft,Fu,Fv,Fw,Fx,Fy,Fz,Ec,Ee,Ef,Eg,Eh,Ei,Ej,Ek,Em,En,Eo,Ep,Eu,Ev,Ex,Ey,Ez,Da,Db,Dc,Dd,Dg,Dh,Di,Dj,Dk,Dl,Dm,Dn,Do,Dp,Dq,Dt,Du,Dv,Dw,Dx,Dy,Dz,Pa,Pb,Pc,Pe,Pf,Pg,Ph,Pi,Pj,Pk,Pm,Pn,Po,Pq,Ps,Pt,Pu,Pv,Pw,Px,Py,Pz,Na], []⟩ w') :
    Code.wp Tryd.prog (Cut.piece Tryd.f73 (Cut.region 34)) Q ⟨#[u0,u1,(.pointer (some ⟨zx,0,none⟩)),u3,u4,u5,u6,u7,u8,u9,Ja,(.pointer (some ⟨lv,0,none⟩)),Jc,Jd,(.int .i64 (k : Int)),Jf,Jg,Jh,Ji,Jj,Jk,Jl,Jm,Jn,Jo,Jp,Jq,Jr,Js,Jt,Ju,Jv,Jw,Jx,Jy,Jz,Qa,Qb,Qc,Qd,Qe,Qf,Qg,Qh,Qi,Qj,Qk,Ql,Qm,Qn,Qo,Qp,Qq,Qr,Qs,Qt,Qu,Qv,Qw,Qx,Qy,Qz,Xe,Xg,Xh,Xi,Xj,Xk,Xn,Xo,Xp,Xq,Xt,Xu,Xv,Xx,Xy,Xz,Yg,Yh,Yi,Yj,Yk,Yl,Ym,Yn,Yo,Yp,Yq,Yr,Ys,Yt,Yu,Yv,Yw,Yx,Yy,Yz,Ua,Ub,Uc,Ud,Ue,Uf,Ug,Uh,Ui,Uj,Uk,Ul,Um,Un,Uo,Up,Uq,Ur,Us,Ut,Uu,Uv,Uw,Ux,Uy,Uz,Wc,Wd,We,Wf,Wg,Wh,Wi,Wj,Wk,Wl,Wm,Wn,Wo,Wp,Wq,Wt,Wu,Ww,Wx,Wy,Wz,Ka,Kb,Kc,Kd,Ke,Kf,Kg,Kh,Kj,Kl,Km,Kn,Ko,Kp,Kq,Kr,Kt,Ku,Kv,Kw,Kx,Ky,Kz,Rg,Rh,Ri,Rj,Rk,Rl,Rm,Rp,Rq,Rt,Ru,Rx,Ry,Rz,Gc,Ge,Gf,Gg,Gh,Gi,Gj,Gm,Gn,Gp,Gq,Gt,Gu,Gv,Gx,Gy,Gz,Fe,Ff,Fg,Fh,Fi,Fj,Fk,Fm,Fo,Fp,Fq,Fs,Ft,Fu,Fv,Fw,Fx,Fy,Fz,Ec,Ee,Ef,Eg,Eh,Ei,Ej,Ek,Em,En,Eo,Ep,Eu,Ev,Ex,Ey,Ez,Da,Db,Dc,Dd,Dg,Dh,Di,Dj,Dk,Dl,Dm,Dn,Do,Dp,Dq,Dt,Du,Dv,Dw,Dx,Dy,Dz,Pa,Pb,Pc,Pe,Pf,Pg,Ph,Pi,Pj,Pk,Pm,Pn,Po,Pq,Ps,Pt,Pu,Pv,Pw,Px,Py,Pz,Na], []⟩ w0 := by
  cases hb0 with
  | false => exact here_no w0 zx zb gE cE lv mb n k s hkn hn x z3 e ef l hS hQ
  | true =>
    refine here_yes w0 zx zb gE cE lv mb n k s hkn hn x z3 e ef l hS ?_
    rw [Bool.true_and] at hQ
    exact hQ

theorem where_any {Q : Exit → Act → World → Prop} {u0 u1 u3 u4 u5 u6 u7 u8 u9 Ja Jb Jc Jd Jh Ji Jj Jk Jl Jm Jn Jo Jp Jq Jr Js Jt Ju Jv Jw Jx Jy Jz Qa Qb Qc Qd Qe Qf Qg Qh Qi Qj Qk Ql Qm Qn Qo Qp Qq Qr Qs Qt Qu Qv Qw Qx Qy Qz Xe Xg Xh Xi Xj Xk Xn Xo Xp Xq Xt Xu Xv Xx Xy Xz Yg Yh Yi Yj Yk Yl Ym Yn Yo Yp Yq Yr Ys Yt Yu Yv Yw Yx Yy Yz Ua Ub Uc Ud Ue Uf Ug Uh Ui Uj Uk Ul Um Un Uo Up Uq Ur Us Ut Uu Uv Uw Ux Uy Uz Wc Wd We Wf Wg Wh Wi Wj Wk Wl Wm Wn Wo Wp Wq Wt Wu Ww Wx Wy Wz Ka Kb Kc Kd Ke Kf Kg Kh Kj Kl Km Kn Ko Kp Kq Kr Kt Ku Kv Kw Kx Ky Kz Rg Rh Ri Rj Rk Rl Rm Rp Rq Rt Ru Rx Ry Rz Gc Ge Gf Gg Gh Gi Gj Gm Gn Gp Gq Gt Gu Gv Gx Gy Gz Fe Ff Fg Fh Fi Fj Fk Fm Fo Fp Fq Fs Ft Fu Fv Fw Fx Fy Fz Ec Ee Ef Eg Eh Ei Ej Ek Em En Eo Ep Eu Ev Ex Ey Ez Da Db Dc Dd Dg Dh Di Dj Dk Dl Dm Dn Do Dp Dq Dt Du Dv Dw Dx Dy Dz Pa Pb Pc Pe Pf Pg Ph Pi Pj Pk Pm Pn Po Pq Ps Pt Pu Pv Pw Px Py Pz Na : Value} (w0 : World) (zx zb gE cE gW cW gK cK tb n k : Nat) (a id : Int) (hb wk0 : Bool) (a0 a1 : Int) (a2 : ByteArray) (hkn : k < n) (hn : n ≤ 1000)
    (x : w0.cell? ⟨zx, 0, none⟩ = some (.pointer (some ⟨zb, 0, none⟩))) (z2 : w0.cell? ⟨zb, 2, none⟩ = some (.slice (some ⟨gW, 0, none⟩) n cW)) (z3 : w0.cell? ⟨zb, 3, none⟩ = some (.slice (some ⟨gE, 0, none⟩) n cE)) (z4 : w0.cell? ⟨zb, 4, none⟩ = some (.slice (some ⟨gK, 0, none⟩) n cK))
    (e : w0.cell? ⟨gE, k, none⟩ = some (.bool hb)) (i2 : w0.cell? ⟨tb, 2, none⟩ = some (.int .i64 id)) (m0 : w0.cell? ⟨gW, k * 3, none⟩ = some (.int .i64 a0)) (m1 : w0.cell? ⟨gW, k * 3 + 1, none⟩ = some (.int .i64 a1)) (m2 : w0.cell? ⟨gW, k * 3 + 2, none⟩ = some (.string a2)) (mk : w0.cell? ⟨gK, k, none⟩ = some (.bool wk0))
    (fw : ∀ i, w0.frozen? ⟨gW, i, none⟩ = false) (fk : w0.frozen? ⟨gK, k, none⟩ = false) (hne : gK ≠ gW) (nx : zx ≠ gW) (nz : zb ≠ gW) (nE : gE ≠ gW) (nt : tb ≠ gW)
    (hQ : ∀ (sEK sEL sEM sEN sEO sEP sEQ sER sES sET sEU sEV sEW sEX sEY sEZ sFa sFb sFc sFd sFe sFf sFg sFh sFi sFj sFk sFl : Value) (w' : World), w' = ((((w0.drew.setCell ⟨gW, k * 3, none⟩ (.int .i64 4)).setCell ⟨gW, k * 3 + 1, none⟩ (.int .i64 a)).setCell ⟨gW, k * 3 + 2, none⟩ (.string ByteArray.empty)).setCell ⟨gK, k, none⟩ (.bool (decide (0 < id) && hb))) → Q .normal ⟨#[u0,u1,(.pointer (some ⟨zx,0,none⟩)),u3,u4,u5,u6,u7,u8,u9,Ja,Jb,Jc,Jd,(.int .i64 (k : Int)),(.pointer (some ⟨tb,0,none⟩)),(.int .i64 a),Jh,Ji,Jj,Jk,Jl,Jm,Jn,Jo,Jp,Jq,Jr,Js,Jt,Ju,Jv,Jw,Jx,Jy,Jz,Qa,Qb,Qc,Qd,Qe,Qf,Qg,Qh,Qi,Qj,Qk,Ql,Qm,Qn,Qo,Qp,Qq,Qr,Qs,Qt,Qu,Qv,Qw,Qx,Qy,Qz,Xe,Xg,Xh,Xi,Xj,Xk,Xn,Xo,Xp,Xq,Xt,Xu,Xv,Xx,Xy,Xz,Yg,Yh,Yi,Yj,Yk,Yl,Ym,Yn,Yo,Yp,Yq,Yr,Ys,Yt,Yu,Yv,Yw,Yx,Yy,Yz,Ua,Ub,Uc,Ud,Ue,Uf,Ug,Uh,Ui,Uj,Uk,Ul,Um,Un,Uo,Up,Uq,Ur,Us,Ut,Uu,Uv,Uw,Ux,Uy,Uz,Wc,Wd,We,Wf,Wg,Wh,Wi,Wj,Wk,Wl,Wm,Wn,Wo,Wp,Wq,Wt,Wu,Ww,Wx,Wy,Wz,Ka,Kb,Kc,Kd,Ke,Kf,Kg,Kh,Kj,Kl,Km,Kn,Ko,Kp,Kq,Kr,Kt,Ku,Kv,Kw,Kx,Ky,Kz,Rg,Rh,Ri,Rj,Rk,Rl,Rm,Rp,Rq,Rt,Ru,Rx,Ry,Rz,Gc,Ge,Gf,Gg,Gh,Gi,Gj,Gm,Gn,Gp,Gq,Gt,Gu,Gv,Gx,Gy,Gz,Fe,Ff,Fg,Fh,Fi,Fj,Fk,Fm,Fo,Fp,Fq,Fs,Ft,Fu,Fv,Fw,Fx,Fy,Fz,Ec,Ee,Ef,Eg,Eh,Ei,Ej,Ek,Em,En,Eo,Ep,Eu,Ev,Ex,Ey,Ez,Da,Db,Dc,Dd,Dg,Dh,Di,Dj,Dk,(sEK),(sEL),(sEM),(sEN),(sEO),(sEP),(sEQ),(sER),(sES),(sET),(sEU),(sEV),(sEW),(sEX),(sEY),(sEZ),(sFa),(sFb),(sFc),(sFd),(sFe),(sFf),(sFg),(sFh),(sFi),(sFj),(sFk),(sFl),Pt,Pu,Pv,Pw,Px,Py,Pz,Na], []⟩ w') :
    Code.wp Tryd.prog (Cut.piece Tryd.f73 (Cut.region 40)) Q ⟨#[u0,u1,(.pointer (some ⟨zx,0,none⟩)),u3,u4,u5,u6,u7,u8,u9,Ja,Jb,Jc,Jd,(.int .i64 (k : Int)),(.pointer (some ⟨tb,0,none⟩)),(.int .i64 a),Jh,Ji,Jj,Jk,Jl,Jm,Jn,Jo,Jp,Jq,Jr,Js,Jt,Ju,Jv,Jw,Jx,Jy,Jz,Qa,Qb,Qc,Qd,Qe,Qf,Qg,Qh,Qi,Qj,Qk,Ql,Qm,Qn,Qo,Qp,Qq,Qr,Qs,Qt,Qu,Qv,Qw,Qx,Qy,Qz,Xe,Xg,Xh,Xi,Xj,Xk,Xn,Xo,Xp,Xq,Xt,Xu,Xv,Xx,Xy,Xz,Yg,Yh,Yi,Yj,Yk,Yl,Ym,Yn,Yo,Yp,Yq,Yr,Ys,Yt,Yu,Yv,Yw,Yx,Yy,Yz,Ua,Ub,Uc,Ud,Ue,Uf,Ug,Uh,Ui,Uj,Uk,Ul,Um,Un,Uo,Up,Uq,Ur,Us,Ut,Uu,Uv,Uw,Ux,Uy,Uz,Wc,Wd,We,Wf,Wg,Wh,Wi,Wj,Wk,Wl,Wm,Wn,Wo,Wp,Wq,Wt,Wu,Ww,Wx,Wy,Wz,Ka,Kb,Kc,Kd,Ke,Kf,Kg,Kh,Kj,Kl,Km,Kn,Ko,Kp,Kq,Kr,Kt,Ku,Kv,Kw,Kx,Ky,Kz,Rg,Rh,Ri,Rj,Rk,Rl,Rm,Rp,Rq,Rt,Ru,Rx,Ry,Rz,Gc,Ge,Gf,Gg,Gh,Gi,Gj,Gm,Gn,Gp,Gq,Gt,Gu,Gv,Gx,Gy,Gz,Fe,Ff,Fg,Fh,Fi,Fj,Fk,Fm,Fo,Fp,Fq,Fs,Ft,Fu,Fv,Fw,Fx,Fy,Fz,Ec,Ee,Ef,Eg,Eh,Ei,Ej,Ek,Em,En,Eo,Ep,Eu,Ev,Ex,Ey,Ez,Da,Db,Dc,Dd,Dg,Dh,Di,Dj,Dk,Dl,Dm,Dn,Do,Dp,Dq,Dt,Du,Dv,Dw,Dx,Dy,Dz,Pa,Pb,Pc,Pe,Pf,Pg,Ph,Pi,Pj,Pk,Pm,Pn,Po,Pq,Ps,Pt,Pu,Pv,Pw,Px,Py,Pz,Na], []⟩ w0 := by
  by_cases hid : 0 < id
  · refine where_yes w0 zx zb gE cE gW cW gK cK tb n k a id hb wk0 a0 a1 a2 hkn hn hid x z2 z3 z4 e i2 m0 m1 m2 mk fw fk hne nx nz nE nt ?_
    rw [decide_eq_true hid, Bool.true_and] at hQ
    exact hQ
  · refine where_no w0 zx zb gE cE gW cW gK cK tb n k a id hb wk0 a0 a1 a2 hkn hn (by omega) x z2 z3 z4 e i2 m0 m1 m2 mk fw fk hne nx nz nE nt ?_
    rw [decide_eq_false hid, Bool.false_and] at hQ
    exact hQ

end Go.Proofs.YthbkklnahhdgcaaDoor.PlFd
