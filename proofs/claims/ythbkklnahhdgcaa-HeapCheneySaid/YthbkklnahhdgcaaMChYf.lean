/-
  Package heap's Major over a heap as objects.
-/
import Derived.Test.YthbkklnahhdgcaaMChYe
namespace Go.Proofs.Ythbkklnahhdgcaa.ChYf
open Go Go.Proofs Go.RowKit Go.Maps Go.Proofs.Ythbkklnahhdgcaa.Lib Go.Proofs.Ythbkklnahhdgcaa.HeapR Go.Proofs.Ythbkklnahhdgcaa.HeapA Go.Proofs.Ythbkklnahhdgcaa.ChA Go.Proofs.Ythbkklnahhdgcaa.ChB Go.Proofs.Ythbkklnahhdgcaa.ChT Go.Proofs.Ythbkklnahhdgcaa.ChCa Go.Proofs.Ythbkklnahhdgcaa.ChCc Go.Proofs.Ythbkklnahhdgcaa.ChCd Go.Proofs.Ythbkklnahhdgcaa.ChD Go.Proofs.Ythbkklnahhdgcaa.ChE Go.Proofs.Ythbkklnahhdgcaa.ChF Go.Proofs.Ythbkklnahhdgcaa.ChG Go.Proofs.Ythbkklnahhdgcaa.ChH Go.Proofs.Ythbkklnahhdgcaa.ChI Go.Proofs.Ythbkklnahhdgcaa.ChJ Go.Proofs.Ythbkklnahhdgcaa.ChK Go.Proofs.Ythbkklnahhdgcaa.ChL Go.Proofs.Ythbkklnahhdgcaa.ChM Go.Proofs.Ythbkklnahhdgcaa.ChN Go.Proofs.Ythbkklnahhdgcaa.ChO Go.Proofs.Ythbkklnahhdgcaa.ChP Go.Proofs.Ythbkklnahhdgcaa.ChQ Go.Proofs.Ythbkklnahhdgcaa.ChR Go.Proofs.Ythbkklnahhdgcaa.ChU Go.Proofs.Ythbkklnahhdgcaa.ChV Go.Proofs.Ythbkklnahhdgcaa.ChW Go.Proofs.Ythbkklnahhdgcaa.ChX Go.Proofs.Ythbkklnahhdgcaa.ChYa Go.Proofs.Ythbkklnahhdgcaa.ChYb Go.Proofs.Ythbkklnahhdgcaa.ChYc Go.Proofs.Ythbkklnahhdgcaa.ChYd Go.Proofs.Ythbkklnahhdgcaa.ChYe

/-- What Major moves. -/
def majFrom (_ : Int) : Bool := true
theorem total_perm {l k : List Ob} (h : l.Perm k) : total l = total k := by
  induction h with
  | nil => rfl
  | cons x _ ih => rw [total_cons, total_cons, ih]
  | swap x y l =>
    rw [total_cons, total_cons, total_cons, total_cons]
    omega
  | trans _ _ h1 h2 => exact h1.trans h2
/-- What Major leaves: L was moved. -/
structure MajorDone (w : World) (hb nb mb : Nat) (ov rv : Value) (B : Nat) (H : HS) (nu ol : List Ob) (rs : List (Nat × Nat)) (f : Nat × Nat → Vl) (w' : World) (mb' : Nat) (tv : Value) (H' : HS) (L : List Ob) : Prop where
  hr : HR w' hb nb mb' tv (.slice none 0 0) B H'
  kept : Kept H nu ol majFrom L [] H.room
  hi : HI H' [] (([] ++ L).map (mvO majFrom L H.room))
  led : ∀ o, o ∈ L ↔ Reached (nu ++ ol) (rootSrc rs f) o
  roots : ∀ a ∈ rs, (f a).k = 4 → has L (f a).n.toNat
  cells : ∀ a ∈ rs, w'.cell? ⟨a.1, a.2, none⟩ = some (.int .i64 (f a).k) ∧ w'.cell? ⟨a.1, a.2 + 1, none⟩ = some (.int .i64 (mvV majFrom L H.room (f a)).n) ∧ w'.cell? ⟨a.1, a.2 + 2, none⟩ = some (.string (f a).s) ∧ w'.frozen? ⟨a.1, a.2 + 1, none⟩ = false ∧ ∃ c t, w'.heap[a.1]? = some (.cells c t (0, 0))
  room : H'.room = H.room
  most : H'.most = H.most
  next : H'.next = H.next
  minors : H'.minors = H.minors
  majors : H'.majors = H.majors + 1
  turned : Turned (fun k => Owns hb nb mb ov rv k ∨ ∃ a ∈ rs, a.1 = k) w w'
  own : ∀ k, Owns hb nb mb' tv (.slice none 0 0) k → Owns hb nb mb ov rv k ∨ w.heap.size ≤ k

theorem major_done {w : World} {hb nb mb : Nat} {ov rv : Value} {B : Nat} {H : HS} {nu ol : List Ob} (h : HR w hb nb mb ov rv B H) (hi : HI H nu ol) {v : Value} {rs : List (Nat × Nat)} {f : Nat × Nat → Vl} (hr : RootsAt w (Owns hb nb mb ov rv) v rs f) {S : List Ob} (hSn : S.Nodup) (hS : ∀ o, o ∈ S ↔ Reached (nu ++ ol) (rootSrc rs f) o) (hf : total S ≤ H.most) {w' : World}
    (hM : MajorRaw w hb nb mb ov rv B H nu ol rs f w') : ∃ mb' tv H' L, MajorDone w hb nb mb ov rv B H nu ol rs f w' mb' tv H' L := by
  obtain ⟨z, p, tv, K, P, wS, hz, hp, hC, hD, hhas, hRo, hT1, hown, hT2, hblk⟩ := hM
  have e4 : p.base = [] := by rw [hp]; rfl
  have e8 : p.O = nu ++ ol := by rw [hp]; rfl
  have e3 : p.hb = hb := by rw [hp]; rfl
  have e11 : p.nb = nb := by rw [hp]; rfl
  have eB : p.B = B := by rw [hp]; rfl
  have ez : p.z = H.room := by rw [hp]; rfl
  have ef : p.from_ = majFrom := by rw [hp]; rfl
  have es : p.src = rootSrc rs f := by rw [hp]; rfl
  have ewb : p.wb = z := by rw [hp]; rfl
  have e5 : p.room = H.room := by rw [hp]; rfl
  have hbl := h.lt (.inl rfl)
  have hnl := h.lt (.inr (.inl rfl))
  have hinK : ∀ o ∈ K, o ∈ nu ++ ol := fun o ho => by have := hC.inO o ho; rwa [e8] at this
  have hall : ∀ (i : Nat) (c : HCell), (([] : List HCell) ++ flat K)[i]? = some c → c.vk = 4 → majFrom c.vn = true → P i = true := fun i c hc h1 h2 => by
    have hlt := (List.getElem?_eq_some_iff.1 hc).1
    rw [List.length_append, flat_length, List.length_nil, Nat.zero_add] at hlt
    exact hD i c (by rw [e4]; exact Nat.zero_le _) hlt (by rw [e4]; exact hc) h1 (by rw [ef]; exact h2)
  have hled : ∀ (i : Nat) (c : HCell), (([] : List HCell) ++ flat K)[i]? = some c → c.vk = 4 → majFrom c.vn = true → has K c.vn.toNat := fun i c hc h1 h2 => hC.led i c (hall i c hc h1 h2) (by rw [e4]; exact hc) h1 (by rw [ef]; exact h2)
  have hK : Kept H nu ol majFrom K [] H.room := {
    hi := hi
    inO := hinK
    nd := hC.nd
    inK := fun o ho => by cases ho
    laid := trivial
    hz := by simp [total]
    fL := fun _ _ => rfl
    fK := fun o ho => by cases ho
    rest := fun _ _ hfr => by cases hfr
    closed := fun o ho v hv hk hfr => by
      rw [List.nil_append] at ho
      have hm : v.cell ∈ ([] : List HCell) ++ flat K := by
        rw [List.nil_append]
        exact List.mem_flatMap.mpr ⟨o, ho, List.mem_cons_of_mem _ (List.mem_map.mpr ⟨v, hv, rfl⟩)⟩
      obtain ⟨i, hi'⟩ := List.mem_iff_getElem?.mp hm
      exact hled i v.cell hi' hk hfr }
  have hreach : ∀ o, o ∈ K ↔ Reached (nu ++ ol) (rootSrc rs f) o := fun o => by
    constructor
    · intro ho
      have h1 := reached_of (hC.come o ho)
      rwa [e8, es] at h1
    · intro ho
      induction ho with
      | src ho hsrc =>
        obtain ⟨r, hr', hk, hn⟩ := hsrc
        have h1 := hhas r hr' hk
        rw [hn, Int.toNat_natCast] at h1
        exact hK.of_has ho h1
      | step _ hv' hk hn ho ih =>
        have h1 := hK.closed _ (by rw [List.nil_append]; exact ih) _ hv' hk rfl
        rw [hn, Int.toNat_natCast] at h1
        exact hK.of_has ho h1
  have htot : total K = total S := total_perm ((List.perm_ext_iff_of_nodup hC.nd hSn).mpr fun o => (hreach o).trans (hS o).symm)
  obtain ⟨N, hN, hNb⟩ := hC.nurs
  rw [e11] at hNb
  rw [e5] at hN
  let H' : HS := { nur := N, old := tcells p.from_ p.base K p.z P, top := 0, room := H.room, most := H.most, rem := [], wh := whereOf p.z K (.map []) 0, next := H.next, minors := H.minors, majors := H.majors + 1 }
  have hold : H'.old = flat (([] ++ K).map (mvO majFrom K H.room)) := by
    show tcells p.from_ p.base K p.z P = _
    rw [ef, e4, ez, tcells_all hall, List.nil_append, flat_fix, List.nil_append]
  have hRd : Reads H'.wh (fun id => idAt p.z K 0 id) := (reads_where p.z K (.map []) (fun _ => none) 0 reads_empty).congr (fun id => by cases idAt p.z K 0 id <;> rfl)
  have hw : ∀ id c, idAt p.z K 0 id = some c ↔ id ≠ 0 ∧ ∃ o ∈ [] ++ K, o.id = id ∧ c = ((mvO majFrom K H.room o).addr : Int) := by
    intro id c
    rw [ez, List.nil_append]
    exact hK.idL id c
  have hHI : HI H' [] (([] ++ K).map (mvO majFrom K H.room)) := hK.after hold rfl rfl rfl rfl ⟨_, hRd, hw⟩
  have hsz1 := hT1.size
  have hTw : Turned (fun k => Owns hb nb mb ov rv k ∨ ∃ a ∈ rs, a.1 = k) w w' := by
    refine (hT1.mono fun k hk => ?_).trans (hT2.mono fun k hk => Or.inl (.inl hk))
    rcases hk with hk | hk | hk
    · exact Or.inl (.inr (.inl hk))
    · exact Or.inl (.inr (.inr (.inr (.inl hk))))
    · exact Or.inr hk
  have hmapw := hC.map
  rw [ewb] at hmapw
  have hzh : z ≠ hb := by omega
  refine ⟨z, tv, H', K, ?_, hK, hHI, hreach, hhas, fun a ha => ?_, rfl, rfl, rfl, rfl, rfl, hTw, fun k hk => ?_⟩
  · exact {
      blk := by
        rw [hblk]
        have e : hblock nb z tv (.slice none 0 0) H' = (((((hblock nb mb ov rv H).setIfInBounds 6 (.map (some z))).setIfInBounds 1 tv).setIfInBounds 2 (.int .i64 0)).setIfInBounds 5 (.slice none 0 0)).setIfInBounds 9 (.int .i64 ((H.majors : Int) + 1)) := by
          simp [hblock, H']
        rw [e]
      nur := (hT2.block nb (by omega) (fun e => h.hn e.symm)).trans hNb
      len := hN
      old := by
        have h1 := hC.row
        rw [eB] at h1
        have h2 : H'.old.length = p.base.length + total K := tcells_length
        rw [h2]
        refine ownsRow_same h1 fun k hk => hT2.block k (own_lt h1 hk).2 (fun h' => ?_)
        subst h'
        have := hC.th
        rw [e3] at this
        exact this hk
      rem := World.ownsRow_nil _ _ _ _
      map := shrink (HeapF.ownsMap_same hmapw (hT2.block z hmapw.lt hzh)) hRd (fun id his => by
        obtain ⟨c, hc⟩ := Option.isSome_iff_exists.1 his
        obtain ⟨h0, o, ho, e1, _⟩ := (hw id c).1 hc
        have := hi.ids o (hK.mem ho)
        show 1 ≤ id ∧ id ≤ (H.next : Int)
        omega)
      hn := h.hn
      oh := by have := hC.th; rwa [e3] at this
      on := by have := hC.tn; rwa [e11] at this
      rh := by simp [Value.ownBlock]
      rn := by simp [Value.ownBlock]
      ro := by
        cases htv : tv.ownBlock with
        | none => exact Or.inl rfl
        | some k => exact Or.inr (by simp [Value.ownBlock])
      lo := ⟨h.lo.1, h.lo.2.1, by have := h.lo.1; omega⟩
      tr := Nat.zero_le _
      rr := h.rr
      mm := h.mm
      om := by
        rw [hold, flat_length, total_mv, List.nil_append, htot]
        exact hf }
  · obtain ⟨q0, q1, q2, q3⟩ := hRo.cell a ha
    have hal := World.block_lt_of_cell? wS _ q0
    have hb := hT2.block a.1 hal (fun h' => hr.out a ha (.inl h'))
    have hblkA : ∃ c t, w'.heap[a.1]? = some (.cells c t (0, 0)) := by
      obtain ⟨c, t, e3⟩ := hRo.blk a ha
      exact ⟨c, t, hb.trans e3⟩
    have e : (fixV p K (f a)) = mvV majFrom K H.room (f a) := by rw [fixV_eq, ef, ez]
    refine ⟨(World.cell?_of_block (a := ⟨a.1, a.2, none⟩) hb).trans q0, ?_, (World.cell?_of_block (a := ⟨a.1, a.2 + 2, none⟩) hb).trans q2, (World.frozen?_of_block (a := ⟨a.1, a.2 + 1, none⟩) hb).trans q3, hblkA⟩
    rw [← e]
    exact (World.cell?_of_block (a := ⟨a.1, a.2 + 1, none⟩) hb).trans q1
  · rcases hk with hk | hk | hk | hk | hk
    · exact Or.inl (.inl hk)
    · exact Or.inl (.inr (.inl hk))
    · exact Or.inr (by omega)
    · exact Or.inr (hown k hk)
    · simp [Value.ownBlock] at hk

/-- Major. -/
theorem major_any {w : World} {hb nb mb : Nat} {ov rv : Value} {B : Nat} {H : HS} {nu ol : List Ob} (h : HR w hb nb mb ov rv B H) (hi : HI H nu ol) {v : Value} {rs : List (Nat × Nat)} {f : Nat × Nat → Vl} (hr : RootsAt w (Owns hb nb mb ov rv) v rs f) (hroot : ∀ a ∈ rs, (f a).k = 4 → ∃ x ∈ nu ++ ol, (f a).n = (x.addr : Int))
    (hnx : H.next ≤ big) (hmj : H.majors < big) :
    Calls Try.prog 12 #[.pointer (some ⟨hb, 0, none⟩), v] w fun e w' => ∃ S, S.Nodup ∧ (∀ o, o ∈ S ↔ Reached (nu ++ ol) (rootSrc rs f) o) ∧
      ((H.most < total S ∧ e = .returned (.iface 45 (.int .i64 12)) ∧ Below w.heap.size w w') ∨ (total S ≤ H.most ∧ e = .returned .nilIface ∧ ∃ mb' tv H' L, MajorDone w hb nb mb ov rv B H nu ol rs f w' mb' tv H' L)) :=
  (major_raw h hi hr hroot hnx hmj).mono fun _ _ ⟨S, h1, h2, h3⟩ => ⟨S, h1, h2, h3.imp id fun ⟨a, b, c⟩ => ⟨a, b, major_done h hi hr h1 h2 a c⟩⟩
end Go.Proofs.Ythbkklnahhdgcaa.ChYf
