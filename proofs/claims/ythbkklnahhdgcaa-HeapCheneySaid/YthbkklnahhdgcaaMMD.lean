/-
  The plain law of HeapCheney: the shape behind a collection; how many are seen.
-/
import Derived.Test.YthbkklnahhdgcaaMChTf
import Derived.Test.YthbkklnahhdgcaaMChYf
namespace Go.Proofs.Ythbkklnahhdgcaa.ChTg
open Go Go.Proofs Go.RowKit Go.Maps Go.Proofs.Ythbkklnahhdgcaa.Lib Go.Proofs.Ythbkklnahhdgcaa.HeapR Go.Proofs.Ythbkklnahhdgcaa.ChA Go.Proofs.Ythbkklnahhdgcaa.ChT Go.Proofs.Ythbkklnahhdgcaa.ChTa Go.Proofs.Ythbkklnahhdgcaa.ChCa Go.Proofs.Ythbkklnahhdgcaa.ChCc Go.Proofs.Ythbkklnahhdgcaa.ChL Go.Proofs.Ythbkklnahhdgcaa.ChM Go.Proofs.Ythbkklnahhdgcaa.ChN Go.Proofs.Ythbkklnahhdgcaa.ChO Go.Proofs.Ythbkklnahhdgcaa.ChR Go.Proofs.Ythbkklnahhdgcaa.ChU Go.Proofs.Ythbkklnahhdgcaa.ChV Go.Proofs.Ythbkklnahhdgcaa.ChX Go.Proofs.Ythbkklnahhdgcaa.ChYf Go.Proofs.Ythbkklnahhdgcaa.ChTb

/-- A collection leaves the shape of what a value leads to. -/
theorem kept_shape {H : HS} {nu ol : List Ob} {from_ : Int → Bool} {L kept : List Ob} {z : Nat} (hK : Kept H nu ol from_ L kept z) {H' : HS} (hi' : HI H' [] ((kept ++ L).map (mvO from_ L z))) (f : Nat) (v : Vl) (s : List Int) (hv : v.k = 4 → ∃ x ∈ kept ++ L, v.n = (x.addr : Int)) :
    shp ([] ++ (kept ++ L).map (mvO from_ L z)) f (mvV from_ L z v) s = shp (nu ++ ol) f v s := by
  have hA := hK.hi.apart
  have hA' := hi'.apart
  have hin : ∀ x ∈ kept ++ L, from_ (x.addr : Int) = true → has L x.addr := fun x hx hf => by
    rcases List.mem_append.mp hx with hx | hx
    · rw [hK.fK x hx] at hf
      cases hf
    · exact ⟨x, hx, rfl⟩
  refine shp_iso (mvV from_ L z) (mvO from_ L z) (fun o => o ∈ kept ++ L) (fun v => ?_) (fun v hv => ?_) (fun v o hk ho hR => ?_) (fun o => ⟨rfl, rfl, rfl, rfl⟩) (fun o hR v hv hk => ?_) f v s (fun hk => ?_)
  · unfold mvV
    split <;> rfl
  · unfold mvV
    rw [if_neg (fun h => hv h.1)]
  · obtain ⟨hoO, hn⟩ := look_mem ho
    obtain ⟨x, hx, e1, e2⟩ := hK.leads hk ⟨o, hoO, hn.symm⟩ (fun hf => by
      have h1 := hin o hR (by rw [hn]; exact hf)
      rw [← hn, Int.toNat_natCast]
      exact h1)
    have hxo : x = o := hA x (hK.mem hx) o hoO (by omega)
    subst hxo
    rw [e2]
    exact look_of_mem hA' (List.mem_append.mpr (Or.inr (List.mem_map.mpr ⟨x, hx, rfl⟩)))
  · obtain ⟨x, hx, e1, _⟩ := hK.leads hk (hK.hi.refs o (hK.mem hR) v hv hk) (hK.closed o hR v hv hk)
    exact ⟨x, by rw [e1]; exact look_of_mem hA (hK.mem hx), hx⟩
  · obtain ⟨x, hx, e1⟩ := hv hk
    exact ⟨x, by rw [e1]; exact look_of_mem hA (hK.mem hx), hx⟩

theorem same_length {xs ys : List Int} (h1 : xs.Nodup) (h2 : ys.Nodup) (h : ∀ a, a ∈ xs ↔ a ∈ ys) : xs.length = ys.length := ((List.perm_ext_iff_of_nodup h1 h2).2 h).length_eq
theorem length_sub {α : Type} [DecidableEq α] : ∀ {l m : List α}, l.Nodup → (∀ a ∈ l, a ∈ m) → l.length ≤ m.length
  | [], _, _, _ => Nat.zero_le _
  | x :: l, m, hn, h => by
    have hx := h x (List.mem_cons_self ..)
    have h1 := (List.nodup_cons.1 hn)
    have h2 := length_sub (m := m.erase x) h1.2 (fun a ha => by
      have hne : a ≠ x := fun e => h1.1 (e ▸ ha)
      exact (List.mem_erase_of_ne hne).2 (h a (List.mem_cons_of_mem _ ha)))
    rw [List.length_erase_of_mem hx] at h2
    have h3 := List.length_pos_of_mem hx
    simp only [List.length_cons]
    omega

open Go.WideElems (Fit rd rg rg_of rd_key) in
/-- As many entries as were seen. -/
theorem sh_size {w : World} {sb : Nat} {seen : List Int} (h : Sh w sb seen) (hnd : seen.Nodup) : ∃ es clock, w.heap[sb]? = some (.map es clock) ∧ es.size = seen.length := by
  obtain ⟨D, ⟨es, clock, hb, F, hs, hD⟩, hR⟩ := h
  refine ⟨es, clock, hb, Nat.le_antisymm hs ?_⟩
  have hlen : ((es.toList.map (rg Try.prog 3 (plainElem (H := Unit) Try.prog 4))).foldr DataW.insert []).length = es.size := by
    rw [length_sorted]
    simp
  generalize hl : (es.toList.map (rg Try.prog 3 (plainElem (H := Unit) Try.prog 4))).foldr DataW.insert [] = l at hD hlen
  have hint : ∀ p ∈ l, ∃ x, p.1 = Lit.int .i64 x := by
    intro p hp
    rw [← hl] at hp
    obtain ⟨e, he, rfl⟩ := List.mem_map.1 (mem_sorted.1 hp)
    obtain ⟨y, hy⟩ := F.reads e he
    obtain ⟨x, _, h3, _⟩ := keyOf_int_inv Try.underlying3 (rd_key hy)
    exact ⟨x, by rw [rg_of hy, h3]⟩
  have h1 : seen.length ≤ (l.map fun p => match p.1 with | .int _ x => x | _ => 0).length := by
    refine length_sub hnd fun x hx => ?_
    have h2 := hR.at_ x
    rw [decide_eq_true hx] at h2
    have hhas : has D (.int .i64 x) = true := by
      cases hh : has D (.int .i64 x) with
      | true => rfl
      | false =>
        rw [atKey_of_not_has hh] at h2
        cases h2
    rw [hD, has_eq, List.any_eq_true] at hhas
    obtain ⟨p, hp, hs'⟩ := hhas
    obtain ⟨y, hy⟩ := hint p hp
    rw [hy, sameKey_int] at hs'
    have e : y = x := by simpa using hs'
    exact List.mem_map.2 ⟨p, hp, by rw [hy, e]⟩
  rw [List.length_map, hlen] at h1
  exact h1

theorem named_of {H : HS} {nu ol : List Ob} (hi : HI H nu ol) (hz : ∀ o ∈ nu ++ ol, o.id ≠ 0) : Named (nu ++ ol) := fun x hx y hy e => hi.named x hx y hy e (hz x hx)

/-- What was seen is what the root leads to. -/
theorem seen_iff {O : List Ob} (hN : Named O) (hA : Apart O) (hrefs : ∀ o ∈ O, ∀ v ∈ o.fs, v.k = 4 → ∃ x ∈ O, v.n = (x.addr : Int)) {v : Vl} (hk : v.k = 4) (hv : ∃ x ∈ O, v.n = (x.addr : Int)) {f : Nat} {out s' : List Int} (h : shp O f v [] = some (out, s')) :
    s'.Nodup ∧ ∀ i, i ∈ s' ↔ ∃ o, Reached O (fun a => v.n = (a : Int)) o ∧ o.id = i := by
  have hmem : ∀ o, Reached O (fun a => v.n = (a : Int)) o → o ∈ O := fun o ho => by
    cases ho with
    | src ho _ => exact ho
    | step _ _ _ _ ho => exact ho
  obtain ⟨n1, _, n3⟩ := shp_in (fun o => Reached O (fun a => v.n = (a : Int)) o) (fun o ho u hu hk => by
    obtain ⟨x, hx, e⟩ := hrefs o (hmem o ho) u hu hk
    exact ⟨x, by rw [e]; exact look_of_mem hA hx, .step ho hu hk e hx⟩) f v [] out s' (fun _ => by
    obtain ⟨x, hx, e⟩ := hv
    exact ⟨x, by rw [e]; exact look_of_mem hA hx, .src hx e⟩) h (by simp)
  obtain ⟨_, h2, h3⟩ := shp_dense hN f v [] out s' h
  have hall : ∀ o, Reached O (fun a => v.n = (a : Int)) o → o.id ∈ s' := fun o ho => by
    induction ho with
    | src ho h => exact h3 hk _ (by rw [h]; exact look_of_mem hA ho)
    | @step x o u hx hu hku hn ho ih =>
      rcases h2 x (hmem x hx) ih with h | h
      · cases h
      · exact h u hu hku o (by rw [hn]; exact look_of_mem hA ho)
  refine ⟨n1, fun i => ⟨fun hi => ?_, fun ⟨o, ho, e⟩ => e ▸ hall o ho⟩⟩
  · rcases n3 i hi with h | ⟨o, ho, _, e⟩
    · cases h
    · exact ⟨o, ho, e⟩

theorem wh_has {H : HS} {nu ol : List Ob} (hi : HI H nu ol) (id : Int) : has H.wh (.int .i64 id) = true ↔ id ≠ 0 ∧ ∃ o ∈ nu ++ ol, o.id = id := by
  obtain ⟨g, hg1, hg2⟩ := hi.wh
  rw [hg1.has_ id]
  constructor
  · intro h
    obtain ⟨c, hc⟩ := Option.isSome_iff_exists.1 h
    obtain ⟨h1, o, ho, e, _⟩ := (hg2 id c).1 hc
    exact ⟨h1, o, ho, e⟩
  · rintro ⟨h1, o, ho, e⟩
    rw [(hg2 id (o.addr : Int)).2 ⟨h1, o, ho, e, rfl⟩]
    rfl
end Go.Proofs.Ythbkklnahhdgcaa.ChTg

/-
  New, Alloc, Set over a heap as objects (nothing is old yet).
-/
namespace Go.Proofs.Ythbkklnahhdgcaa.ChTh
open Go Go.Proofs Go.RowKit Go.Maps Go.Proofs.Ythbkklnahhdgcaa.Lib Go.Proofs.Ythbkklnahhdgcaa.HeapR Go.Proofs.Ythbkklnahhdgcaa.HeapB Go.Proofs.Ythbkklnahhdgcaa.HeapC Go.Proofs.Ythbkklnahhdgcaa.HeapD Go.Proofs.Ythbkklnahhdgcaa.HeapG Go.Proofs.Ythbkklnahhdgcaa.HeapH Go.Proofs.Ythbkklnahhdgcaa.ChA Go.Proofs.Ythbkklnahhdgcaa.ChT Go.Proofs.Ythbkklnahhdgcaa.ChCa Go.Proofs.Ythbkklnahhdgcaa.ChCc Go.Proofs.Ythbkklnahhdgcaa.ChL Go.Proofs.Ythbkklnahhdgcaa.ChM Go.Proofs.Ythbkklnahhdgcaa.ChN Go.Proofs.Ythbkklnahhdgcaa.ChO Go.Proofs.Ythbkklnahhdgcaa.ChR Go.Proofs.Ythbkklnahhdgcaa.ChU Go.Proofs.Ythbkklnahhdgcaa.ChW Go.Proofs.Ythbkklnahhdgcaa.ChZ

theorem hi_fresh (n o : Nat) : HI (fresh n o) [] [] := {
  nur := rfl
  old := rfl
  tlen := Nat.zero_le _
  na := trivial
  oa := trivial
  fit := Nat.zero_le _
  refs := fun o ho => by cases ho
  rem1 := fun r hr => by cases hr
  rem2 := fun j c hj => by cases hj
  wh := ⟨_, reads_empty, fun id c => ⟨fun h => (by cases h), fun ⟨_, o, ho, _⟩ => (by cases ho)⟩⟩
  ids := fun o ho => by cases ho
  named := fun x hx => by cases hx
  kinds := fun o ho => by cases ho }

theorem alloc_ob {w : World} {hb nb mb : Nat} {ov rv : Value} {B : Nat} {H : HS} {nu ol : List Ob} (h : HR w hb nb mb ov rv B H) (hi : HI H nu ol) (tag : Int) (s : Nat) (hs : s ≤ 1000) (hf : total nu + (1 + s) ≤ H.room) (hx : H.next ≤ big) :
    Calls Try.prog 6 #[.pointer (some ⟨hb, 0, none⟩), .int .i64 2, .int .i64 tag, .int .i64 (s : Int)] w fun e w' => e = .returned (.tuple #[.int .i64 ((newOb H 2 tag s).addr : Int), .nilIface]) ∧
      HR w' hb nb mb ov rv B (H.alloc 2 tag s) ∧ HI (H.alloc 2 tag s) (nu ++ [newOb H 2 tag s]) ol ∧ Turned (fun k => k = hb ∨ k = nb ∨ k = mb) w w' := by
  have ht := hi.top
  have hbig := big_lt
  refine (alloc_id h 2 tag s (by decide) (by decide) hs (by omega) (by decide) (by omega)).mono ?_
  rintro e w' ⟨rfl, h1, h2⟩
  exact ⟨rfl, h1, hi_alloc h hi (by decide) (by omega), h2⟩

theorem set_ob {w : World} {hb nb mb : Nat} {ov rv : Value} {B : Nat} {H : HS} {nu ol : List Ob} (h : HR w hb nb mb ov rv B H) (hi : HI H nu ol) {o : Ob} (ho : o ∈ nu) {i : Nat} (hil : i < o.fs.length) (v : Vl) (hv : v.k = 4 → ∃ x ∈ nu ++ ol, v.n = (x.addr : Int)) (hsz : ∀ x ∈ nu ++ ol, x.addr + x.len ≤ big) :
    Calls Try.prog 9 #[.pointer (some ⟨hb, 0, none⟩), .int .i64 (o.addr : Int), .int .i64 (i : Int), .agg #[.int .i64 v.k, .int .i64 v.n, .string v.s]] w fun e w' => e = .returned .nilIface ∧
      HR w' hb nb mb ov rv B (H.setN (o.addr + 1 + i) v.k v.n v.s) ∧ HI (H.setN (o.addr + 1 + i) v.k v.n v.s) (setOb nu o.addr i v) ol ∧ Turned (fun k => k = nb) w w' := by
  have hoO : o ∈ nu ++ ol := List.mem_append.mpr (Or.inl ho)
  have hbig := big_lt
  have hoa := hsz o hoO
  have hol : o.len = 1 + o.fs.length := rfl
  obtain ⟨c, hc⟩ : ∃ c, o.fs[i]? = some c := ⟨_, List.getElem?_eq_getElem hil⟩
  have hcell : (o.cells 0)[1 + i]? = some c.cell := by
    rw [show 1 + i = i + 1 by omega]
    show (o.fs.map Vl.cell)[i]? = _
    rw [List.getElem?_map, hc]
    rfl
  have hraw := raw_obj h hi hoO hcell
  have hin := laid_in hi.na ho
  have hfit := hi.fit
  have hraw' : H.raw ((o.addr : Int) + 1 + (i : Int)) = some c.cell := by
    rw [show (o.addr : Int) + 1 + (i : Int) = (o.addr : Int) + ((1 + i : Nat) : Int) by omega]
    exact hraw
  have e1 : ((o.addr : Int) + 1 + (i : Int)).toNat = o.addr + 1 + i := by omega
  have hgoal := hi_set hi ho hil v hv
  by_cases hk : v.k = 4
  · obtain ⟨x, hx, en⟩ := hv hk
    have hxa := hsz x hx
    have h1 := set_nur_ref h (o.addr : Int) (i : Int) (by omega) (by omega) (by omega) v.n v.s (o.head 0) c.cell (head_obj h hi hoO) (by omega) (by show (i : Int) < (o.fs.length : Int); omega) hraw' (by omega) (x.head 0) (by omega) (by rw [en]; exact head_obj h hi hx)
    rw [e1] at h1
    rw [hk] at hgoal ⊢
    refine h1.mono ?_
    rintro e w' ⟨rfl, h2, h3⟩
    exact ⟨rfl, h2, hgoal, h3⟩
  · have h1 := set_nur_val h (o.addr : Int) (i : Int) (by omega) (by omega) (by omega) v.k v.n v.s (o.head 0) c.cell (head_obj h hi hoO) (by omega) (by show (i : Int) < (o.fs.length : Int); omega) hraw' (by omega) hk
    rw [e1] at h1
    refine h1.mono ?_
    rintro e w' ⟨rfl, h2, h3⟩
    exact ⟨rfl, h2, hgoal, h3⟩
end Go.Proofs.Ythbkklnahhdgcaa.ChTh
