/-
  From the row's condition on the two lists of words to the cells.
-/
import Derived.Test.YtfpjgbpkolmgkaaDoorRows
import Derived.Test.YtfpjgbpkolmgkaaDoorNames
import Derived.LaidLaws
import Derived.LaidHandle
import Derived.Lib.LaidU8
import Derived.SliceStrings
import Derived.OpenShut
namespace Go.Proofs.YtfpjgbpkolmgkaaDoor.NamesLaid
open Go Go.RowKit Go.WideShapes Go.ChangeShapes NamesA

theorem strs_inj {H : Type} : ∀ {a b : List ByteArray}, (strs a : List (DataW H)) = strs b → a = b
  | [], [], _ => rfl
  | [], _ :: _, h => by cases h
  | _ :: _, [], h => by cases h
  | ⟨x⟩ :: a, ⟨y⟩ :: b, h => by
    simp only [strs, List.map_cons, List.cons.injEq, DataW.lit.injEq, Lit.string.injEq] at h
    obtain ⟨h1, h2⟩ := h
    have e : x = y := Array.toList_inj.1 h1
    subst e
    rw [strs_inj (a := a) (b := b) h2]

section
variable {H : Type} {enc : TypeId × Value → H} {P : Program} {w : World} {base : Nat} {sp : Nat → Bool} {held : Bool} {fuel n : Nat} {t e : TypeId} {cs : List Value} {ws : List ByteArray} {p : List MemPlace}

theorem array_texts (ht : P.underlying t = some (.array n e)) (he : P.underlying e = some .string) (hc : P.cellsOf e = 1)
    (h : DataW.trod enc P w base sp held fuel t cs = some (.agg (strs ws), p)) : ∀ (j : Nat) x, ws[j]? = some x → cs[j]? = some (.string x) := by
  obtain ⟨xs, m, rfl, hx, hl, hxl, hall⟩ := DataW.trod_array ht h
  have hxs : xs.map (·.1) = strs ws := by
    have := congrArg Prod.fst hx
    simpa using this.symm
  have hwl : ws.length = n := by
    have := congrArg List.length hxs
    simp [strs] at this
    omega
  intro j x hj
  have hjn : j < n := by have := (List.getElem?_eq_some_iff.1 hj).1; omega
  have h1 := hall j hjn
  rw [hc, Nat.mul_one] at h1
  obtain ⟨y, hy⟩ : ∃ y, xs[j]? = some y := ⟨xs[j]'(by omega), List.getElem?_eq_getElem (by omega)⟩
  rw [hy] at h1
  obtain ⟨s, hcz, rfl, _⟩ := DataW.trod_string he h1
  have h2 : cs[j]? = some (.string s) := by
    have := congrArg (·[0]?) hcz
    simpa [List.getElem?_take, List.getElem?_drop] using this
  have h3 : (xs.map (·.1))[j]? = some (DataW.lit (.string s.data.toList) : DataW H) := by simp [hy]
  rw [hxs, strs, List.getElem?_map, hj] at h3
  simp only [Option.map_some, Option.some.injEq, DataW.lit.injEq, Lit.string.injEq] at h3
  rw [h2]
  cases s; cases x
  have := Array.toList_inj.1 h3
  subst this
  rfl

theorem slice_texts (ht : P.underlying t = some (.slice e)) (he : P.underlying e = some .string) (hc : P.cellsOf e = 1) (hne : 0 < ws.length)
    (h : DataW.trod enc P w base sp held fuel t cs = some (.slice (strs ws) [], p)) : ∃ b o c, cs = [.slice (some ⟨b, o, none⟩) ws.length c] ∧ Texts w b o ws := by
  rcases open_strings ht he hc h with ⟨_, hx⟩ | ⟨a, len, cap, ss, rfl, _, hl, hm, hlen, hx, hcell, _⟩
  · cases hx
  · simp only [Prod.mk.injEq, DataW.slice.injEq] at hx
    obtain ⟨⟨h1, h2⟩, _⟩ := hx
    have hd : ss.drop len = [] := by
      cases hd : ss.drop len with
      | nil => rfl
      | cons x r => rw [hd] at h2; cases h2
    have hle : ss.length ≤ len := by simpa using hd
    rw [List.take_of_length_le hle] at h1
    obtain rfl := strs_inj h1
    have hlen' : ws.length = len := by
      split at hlen <;> omega
    subst hlen'
    have hs : a.spot = none := by
      have := hcell 0 hne
      unfold World.cell? at this
      split at this
      · split at this
        · cases this
        · rename_i h
          simpa [Addr.add] using h
      · cases this
    obtain ⟨b, o, sp⟩ := a
    obtain rfl : sp = none := hs
    refine ⟨b, o, cap, rfl, fun j x hj => ?_⟩
    have hjl := (List.getElem?_eq_some_iff.1 hj).1
    have := hcell j hjl
    have ea : (⟨b, o, none⟩ : Addr).add j = ⟨b, o + j, none⟩ := by
      unfold Addr.add
      split
      · rename_i h; rw [h]; rfl
      · rfl
    rw [List.getD_eq_getElem?_getD, hj, ea] at this
    exact this
end

/-- The words. -/
def words : List ByteArray := [⟨#[99, 108, 97, 115, 115]⟩, ⟨#[102, 105, 101, 108, 100]⟩, ⟨#[102, 110]⟩, ⟨#[118, 97, 114]⟩, ⟨#[105, 102]⟩, ⟨#[101, 108, 115, 101]⟩, ⟨#[119, 104, 105, 108, 101]⟩, ⟨#[114, 101, 116, 117, 114, 110]⟩, ⟨#[116, 104, 114, 111, 119]⟩, ⟨#[116, 114, 121]⟩, ⟨#[99, 97, 116, 99, 104]⟩, ⟨#[112, 114, 105, 110, 116]⟩, ⟨#[116, 114, 117, 101]⟩, ⟨#[102, 97, 108, 115, 101]⟩, ⟨#[110, 105, 108]⟩, ⟨#[116, 104, 105, 115]⟩, ⟨#[110, 101, 119]⟩, ⟨#[115, 117, 112, 101, 114]⟩, ⟨#[105, 110, 112, 117, 116]⟩, ⟨#[108, 101, 110]⟩]

theorem g0 : Tryd.prog.globalNamed "rewind/syntax.words" = some 0 := by kernel_rfl
theorem g1 : Tryd.prog.globalNamed "rewind/rewindref.words" = some 1 := by kernel_rfl
theorem y0 : ∃ t e, (Tryd.prog.globals[0]?).map (·.type) = some t ∧ Tryd.prog.underlying t = some (.array 20 e) ∧ Tryd.prog.underlying e = some .string ∧ Tryd.prog.cellsOf e = 1 := ⟨27, 9, by kernel_rfl, by kernel_rfl, by kernel_rfl, by kernel_rfl⟩
theorem y1 : ∃ t e, (Tryd.prog.globals[1]?).map (·.type) = some t ∧ Tryd.prog.underlying t = some (.slice e) ∧ Tryd.prog.underlying e = some .string ∧ Tryd.prog.cellsOf e = 1 := ⟨26, 9, by kernel_rfl, by kernel_rfl, by kernel_rfl, by kernel_rfl⟩
theorem d0 : (Rows.laid_rewind_syntax_words : DataW Unit) = .agg (strs words) := rfl
theorem d1 : (Rows.laid_rewind_rewindref_words : DataW Unit) = .slice (strs words) [] := rfl

theorem texts {l : List (String × DataW Unit)} {W : World} (h : laidMet Tryd.prog l W) (h0 : ("rewind/syntax.words", Rows.laid_rewind_syntax_words) ∈ l) (h1 : ("rewind/rewindref.words", Rows.laid_rewind_rewindref_words) ∈ l) :
    Texts W 0 0 words ∧ ∃ b o c, W.cell? ⟨1, 0, none⟩ = some (.slice (some ⟨b, o, none⟩) 20 c) ∧ Texts W b o words := by
  constructor
  · obtain ⟨g, t, cs, fuel, p, e1, e2, e3, e4⟩ := Lib.laidMet.reads h h0
    obtain rfl := Option.some.inj (g0.symm.trans e1)
    obtain ⟨t', e, f1, f2, f3, f4⟩ := y0
    obtain rfl := Option.some.inj (f1.symm.trans e2)
    rw [d0] at e4
    have := array_texts f2 f3 f4 e4
    intro j x hj
    have hv := World.var?_cell g0 e3 j
    rw [Nat.zero_add, hv]
    have := this j x hj
    simpa using this
  · obtain ⟨g, t, cs, fuel, p, e1, e2, e3, e4⟩ := Lib.laidMet.reads h h1
    obtain rfl := Option.some.inj (g1.symm.trans e1)
    obtain ⟨t', e, f1, f2, f3, f4⟩ := y1
    obtain rfl := Option.some.inj (f1.symm.trans e2)
    rw [d1] at e4
    obtain ⟨b, o, c, hcs, ht⟩ := slice_texts f2 f3 f4 (by decide) e4
    refine ⟨b, o, c, ?_, ht⟩
    have hv := World.var?_cell g1 e3 0
    rw [hv]
    have : cs[0]? = (cs.toList)[0]? := by simp
    rw [this, hcs]
    rfl
end Go.Proofs.YtfpjgbpkolmgkaaDoor.NamesLaid
