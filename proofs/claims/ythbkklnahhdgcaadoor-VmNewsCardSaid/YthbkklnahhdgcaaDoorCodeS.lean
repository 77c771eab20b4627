/-
  Two images of the same data, wherever they lie: what is wrong with them is the same. No program in sight.
-/
import Derived.Test.YthbkklnahhdgcaaDoorCodeQ
namespace Go.Proofs.YthbkklnahhdgcaaDoor.CodeS
open Go Go.RowKit CodeR CodeP CodeQ

/-- Two functions of the same data. -/
structure FcSame (f g : Fc) : Prop where
  name : f.name = g.name
  params : f.params = g.params
  slots : f.slots = g.slots
  code : f.code = g.code
  hs : f.hs = g.hs
  vars : f.vars = g.vars
structure ClSame (c d : Cl) : Prop where
  name : c.name = d.name
  above : c.above = d.above
  fields : c.fields = d.fields
  names : c.names = d.names
  methods : c.methods = d.methods
inductive All2 {α β : Type} (R : α → β → Prop) : List α → List β → Prop
  | nil : All2 R [] []
  | cons {a b l k} : R a b → All2 R l k → All2 R (a :: l) (b :: k)
theorem All2.length {α β : Type} {R : α → β → Prop} {l : List α} {k : List β} (h : All2 R l k) : l.length = k.length := by
  induction h with
  | nil => rfl
  | cons _ _ ih => simp [ih]
theorem All2.get {α β : Type} {R : α → β → Prop} {l : List α} {k : List β} (h : All2 R l k) {i : Nat} {a : α} (ha : l[i]? = some a) : ∃ b, k[i]? = some b ∧ R a b := by
  induction h generalizing i with
  | nil => simp at ha
  | @cons x y l k hxy _ ih =>
    cases i with
    | zero => simp at ha; subst ha; exact ⟨y, rfl, hxy⟩
    | succ i => simp at ha; simpa using ih ha
theorem All2.symm {α β : Type} {R : α → β → Prop} {l : List α} {k : List β} (h : All2 R l k) : All2 (fun b a => R a b) k l := by
  induction h with
  | nil => exact .nil
  | cons h _ ih => exact .cons h ih
theorem All2.snoc {α β : Type} {R : α → β → Prop} {l : List α} {k : List β} {a : α} {b : β} (h : All2 R l k) (hab : R a b) : All2 R (l ++ [a]) (k ++ [b]) := by
  induction h with
  | nil => exact .cons hab .nil
  | cons h _ ih => exact .cons h ih
structure ImSame (m k : Im) : Prop where
  funcs : All2 FcSame m.funcs k.funcs
  consts : m.consts = k.consts
  classes : All2 ClSame m.classes k.classes

theorem FcSame.symm {f g : Fc} (h : FcSame f g) : FcSame g f := ⟨h.name.symm, h.params.symm, h.slots.symm, h.code.symm, h.hs.symm, h.vars.symm⟩
theorem ClSame.symm {f g : Cl} (h : ClSame f g) : ClSame g f := ⟨h.name.symm, h.above.symm, h.fields.symm, h.names.symm, h.methods.symm⟩
theorem All2.mono {α β : Type} {R S : α → β → Prop} {l : List α} {k : List β} (h : All2 R l k) (hRS : ∀ a b, R a b → S a b) : All2 S l k := by
  induction h with
  | nil => exact .nil
  | cons h _ ih => exact .cons (hRS _ _ h) ih
theorem ImSame.symm {m k : Im} (h : ImSame m k) : ImSame k m := ⟨h.funcs.symm.mono (fun _ _ h => h.symm), h.consts.symm, h.classes.symm.mono (fun _ _ h => h.symm)⟩
theorem paramsAt_same {m k : Im} (h : ImSame m k) (i : Int) : m.paramsAt i = k.paramsAt i := by
  unfold Im.paramsAt
  cases hi : m.funcs[i.toNat]? with
  | none =>
    have : k.funcs[i.toNat]? = none := by
      rw [List.getElem?_eq_none_iff] at hi ⊢
      rw [← h.funcs.length]; exact hi
    rw [this]
  | some f =>
    obtain ⟨g, hg, hs⟩ := h.funcs.get hi
    rw [hg]; simp [hs.params]
theorem right_same {m k : Im} {f g : Fc} (h : ImSame m k) (hf : FcSame f g) : rightB m f = rightB k g := by
  funext x
  unfold rightB Im.textB
  simp only [h.consts, h.funcs.length, h.classes.length, hf.slots, hf.code, paramsAt_same h]
theorem fits_same {f g : Fc} (hf : FcSame f g) {d : Nat → Option Int} (h : Fits f d) : Fits g d :=
  ⟨h.top, by rw [← hf.hs]; exact h.hand, by rw [← hf.code]; exact h.within, by rw [← hf.code]; exact h.goes⟩
theorem verdict_same {m k : Im} {f g : Fc} (h : ImSame m k) (hf : FcSame f g) {e : Int} (hv : Verdict m f e) : Verdict k g e := by
  have e1 : limB g = limB f := by unfold limB; rw [hf.code, hf.params, hf.slots]
  have e2 : g.code.all (rightB k g) = f.code.all (rightB m f) := by rw [hf.code, right_same h hf]
  have e3 : handB g = handB f := by funext x; unfold handB; rw [hf.code]
  have e4 : varB g = varB f := by funext x; unfold varB; rw [hf.code, hf.slots]
  refine ⟨?_, ?_, ?_, ?_⟩
  · rw [e1]; exact hv.lim
  · rw [e1, e2]; exact hv.right
  · rw [e1, e2, e3, e4, ← hf.hs, ← hf.vars]; exact hv.hand
  · rw [e1, e2, e3, e4, ← hf.hs, ← hf.vars]
    intro h1 h2 h3
    rcases hv.fit h1 h2 h3 with ⟨he, d, hd⟩ | ⟨he, hd⟩
    · exact Or.inl ⟨he, d, fits_same hf hd⟩
    · exact Or.inr ⟨he, fun d hd' => hd d (fits_same hf.symm hd')⟩
theorem above_same {m k : Im} (h : ImSame m k) : aboveI m = aboveI k := by
  funext i
  unfold aboveI
  cases hi : m.classes[i.toNat]? with
  | none =>
    have : k.classes[i.toNat]? = none := by
      rw [List.getElem?_eq_none_iff] at hi ⊢
      rw [← h.classes.length]; exact hi
    rw [this]
  | some f =>
    obtain ⟨g, hg, hs⟩ := h.classes.get hi
    rw [hg]; simp [hs.above]
theorem class_same {m k : Im} (h : ImSame m k) {c d : Cl} (hc : ClSame c d) (i : Nat) : classBad m i c = classBad k i d := by
  have e1 : inB m = inB k := by funext x; unfold inB; rw [h.classes.length]
  have e2 : methB m = methB k := by funext x; unfold methB; rw [h.funcs.length]
  unfold classBad roundB
  rw [e1, e2, above_same h, h.classes.length, hc.above, hc.names, hc.methods]
theorem imVerdict_same {m k : Im} (h : ImSame m k) {e p : Int} (hv : ImVerdict m e p) : ImVerdict k e p := by
  have e1 : limImB k = limImB m := by unfold limImB; rw [h.funcs.length, h.consts, h.classes.length]
  refine ⟨?_, ?_, ?_⟩
  · rw [e1]; exact hv.lim
  · rw [e1]
    rintro h1 ⟨i, c, hc, hb⟩
    obtain ⟨d, hd, hs⟩ := h.symm.classes.get hc
    exact hv.cls h1 ⟨i, d, hd, by rw [class_same h hs.symm]; exact hb⟩
  · rw [e1]
    intro h1 h2
    have h2' : ∀ i c, m.classes[i]? = some c → classBad m i c = false := by
      intro i c hc
      obtain ⟨d, hd, hs⟩ := h.classes.get hc
      rw [class_same h hs]; exact h2 i d hd
    rcases hv.fns h1 h2' with ⟨h3, h4, h5⟩ | ⟨i, f, hi, h3, h4, h5, h6⟩
    · refine Or.inl ⟨h3, h4, fun g hg => ?_⟩
      obtain ⟨i, hi⟩ := List.mem_iff_getElem?.mp hg
      obtain ⟨f, hf, hs⟩ := h.symm.funcs.get hi
      exact verdict_same h hs.symm (h5 f (List.mem_of_getElem? hf))
    · obtain ⟨g, hg, hs⟩ := h.funcs.get hi
      refine Or.inr ⟨i, g, hg, h3, h4, verdict_same h hs h5, fun j g' hj hg' => ?_⟩
      obtain ⟨f', hf', hs'⟩ := h.symm.funcs.get hg'
      exact verdict_same h hs'.symm (h6 j f' hj hf')
end Go.Proofs.YthbkklnahhdgcaaDoor.CodeS
