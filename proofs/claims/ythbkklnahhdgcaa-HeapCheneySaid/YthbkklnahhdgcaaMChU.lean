/-
  Package heap's Minor over a heap as objects.
-/
import Derived.Test.YthbkklnahhdgcaaMChS
namespace Go.Proofs.Ythbkklnahhdgcaa.ChU
open Go Go.Proofs Go.RowKit Go.Maps Go.Proofs.Ythbkklnahhdgcaa.Lib Go.Proofs.Ythbkklnahhdgcaa.HeapR Go.Proofs.Ythbkklnahhdgcaa.HeapA Go.Proofs.Ythbkklnahhdgcaa.ChA Go.Proofs.Ythbkklnahhdgcaa.ChB Go.Proofs.Ythbkklnahhdgcaa.ChT Go.Proofs.Ythbkklnahhdgcaa.ChCa Go.Proofs.Ythbkklnahhdgcaa.ChCc Go.Proofs.Ythbkklnahhdgcaa.ChCd Go.Proofs.Ythbkklnahhdgcaa.ChD Go.Proofs.Ythbkklnahhdgcaa.ChE Go.Proofs.Ythbkklnahhdgcaa.ChF Go.Proofs.Ythbkklnahhdgcaa.ChG Go.Proofs.Ythbkklnahhdgcaa.ChH Go.Proofs.Ythbkklnahhdgcaa.ChI Go.Proofs.Ythbkklnahhdgcaa.ChJ Go.Proofs.Ythbkklnahhdgcaa.ChK Go.Proofs.Ythbkklnahhdgcaa.ChL Go.Proofs.Ythbkklnahhdgcaa.ChM Go.Proofs.Ythbkklnahhdgcaa.ChN Go.Proofs.Ythbkklnahhdgcaa.ChO Go.Proofs.Ythbkklnahhdgcaa.ChP Go.Proofs.Ythbkklnahhdgcaa.ChQ Go.Proofs.Ythbkklnahhdgcaa.ChR Go.Proofs.Ythbkklnahhdgcaa.ChS

/-- What Minor moves. -/
def minFrom (H : HS) (n : Int) : Bool := decide (n < (H.room : Int))
/-- What objects of O some addresses lead to. -/
inductive Reached (O : List Ob) (src : Nat → Prop) : Ob → Prop
  | src {o : Ob} (ho : o ∈ O) (h : src o.addr) : Reached O src o
  | step {x o : Ob} {v : Vl} (hx : Reached O src x) (hv : v ∈ x.fs) (hk : v.k = 4) (hn : v.n = (o.addr : Int)) (ho : o ∈ O) : Reached O src o
theorem reached_of {p : Par} {o : Ob} (h : Leads p o) : Reached p.O p.src o := by
  induction h with
  | src ho h => exact .src ho h
  | step _ hv hk hn ho ih => exact .step ih hv hk hn ho
theorem fixV_eq (p : Par) (K : List Ob) (v : Vl) : fixV p K v = mvV p.from_ K p.z v := by
  unfold fixV newN mvV
  split <;> rfl
/-- What Minor leaves: L was moved. -/
structure MinorDone (w : World) (hb nb mb : Nat) (ov rv : Value) (B : Nat) (H : HS) (nu ol : List Ob) (rs : List (Nat × Nat)) (f : Nat × Nat → Vl) (w' : World) (tv : Value) (H' : HS) (L : List Ob) : Prop where
  hr : HR w' hb nb mb tv (.slice none 0 0) B H'
  kept : Kept H nu ol (minFrom H) L ol (H.room + total ol)
  hi : HI H' [] ((ol ++ L).map (mvO (minFrom H) L (H.room + total ol)))
  led : ∀ o ∈ L, Reached nu (minSrc H rs f) o
  roots : ∀ a ∈ rs, (f a).k = 4 → minFrom H (f a).n = true → has L (f a).n.toNat
  cells : ∀ a ∈ rs, w'.cell? ⟨a.1, a.2, none⟩ = some (.int .i64 (f a).k) ∧ w'.cell? ⟨a.1, a.2 + 1, none⟩ = some (.int .i64 (mvV (minFrom H) L (H.room + total ol) (f a)).n) ∧ w'.cell? ⟨a.1, a.2 + 2, none⟩ = some (.string (f a).s) ∧ w'.frozen? ⟨a.1, a.2 + 1, none⟩ = false ∧ ∃ c t, w'.heap[a.1]? = some (.cells c t (0, 0))
  room : H'.room = H.room
  most : H'.most = H.most
  next : H'.next = H.next
  minors : H'.minors = H.minors + 1
  majors : H'.majors = H.majors
  turned : Turned (fun k => Owns hb nb mb ov rv k ∨ ∃ a ∈ rs, a.1 = k) w w'
  own : ∀ k, tv.ownBlock = some k → ov.ownBlock = some k ∨ w.heap.size ≤ k

theorem minor_done {w : World} {hb nb mb : Nat} {ov rv : Value} {B : Nat} {H : HS} {nu ol : List Ob} (h : HR w hb nb mb ov rv B H) (hi : HI H nu ol) {v : Value} {rs : List (Nat × Nat)} {f : Nat × Nat → Vl} (hr : RootsAt w (Owns hb nb mb ov rv) v rs f) (hf : total ol + total nu ≤ H.most) {g : Int → Option Int} (hg : Reads H.wh g ∧ ∀ id c, g id = some c ↔ id ≠ 0 ∧ ∃ o ∈ nu ++ ol, o.id = id ∧ c = (o.addr : Int)) {w' : World}
    (hM : MinorRaw w hb nb mb ov rv B H nu rs f g w') : ∃ tv H' L, MinorDone w hb nb mb ov rv B H nu ol rs f w' tv H' L := by
  obtain ⟨p, tv, K, P, wS, n, D, hp, hC, hD, hPB, hhas, hRo, hT1, hown, hT2, hblk, hmap, hRd⟩ := hM
  have e4 : p.base = H.old := by rw [hp]; rfl
  have e5 : p.room = H.room := by rw [hp]; rfl
  have e8 : p.O = nu := by rw [hp]; rfl
  have e3 : p.hb = hb := by rw [hp]; rfl
  have e11 : p.nb = nb := by rw [hp]; rfl
  have eB : p.B = B := by rw [hp]; rfl
  have ez : p.z = H.room + total ol := by rw [hp, minPar_z, hi.olen]
  have ef : p.from_ = minFrom H := by rw [hp]; rfl
  have es : p.src = minSrc H rs f := by rw [hp]; rfl
  have hbl := h.lt (.inl rfl)
  have hnl := h.lt (.inr (.inl rfl))
  have hml := h.map.lt
  have hinK : ∀ o ∈ K, o ∈ nu := fun o ho => by have := hC.inO o ho; rwa [e8] at this
  -- all cells that lead to what is moved are fixed
  have hall : ∀ (i : Nat) (c : HCell), (H.old ++ flat K)[i]? = some c → c.vk = 4 → minFrom H c.vn = true → P i = true := fun i c hc h1 h2 => by
    by_cases hil : i < H.old.length
    · rw [List.getElem?_append_left hil] at hc
      exact (hPB i hil).2 (hi.rem2 i c hc h1 (by simpa [minFrom] using h2))
    · have hlt := (List.getElem?_eq_some_iff.1 hc).1
      rw [List.length_append, flat_length] at hlt
      exact hD i c (by rw [e4]; omega) hlt (by rw [e4]; exact hc) h1 (by rw [ef]; exact h2)
  have hled : ∀ (i : Nat) (c : HCell), (H.old ++ flat K)[i]? = some c → c.vk = 4 → minFrom H c.vn = true → has K c.vn.toNat := fun i c hc h1 h2 => hC.led i c (hall i c hc h1 h2) (by rw [e4]; exact hc) h1 (by rw [ef]; exact h2)
  have hK : Kept H nu ol (minFrom H) K ol (H.room + total ol) := {
    hi := hi
    inO := fun o ho => List.mem_append.mpr (Or.inl (hinK o ho))
    nd := hC.nd
    inK := fun o ho => ho
    laid := hi.oa
    hz := rfl
    fL := fun o ho => by
      have h1 := min_addr hi (hinK o ho)
      have h2 := len_pos o
      simp only [minFrom, decide_eq_true_eq]
      omega
    fK := fun o ho => by
      have h1 := laid_in hi.oa ho
      simp only [minFrom, decide_eq_false_iff_not]
      omega
    rest := fun o ho hfr => by
      rcases List.mem_append.mp ho with ho | ho
      · exfalso
        have h1 := min_addr hi ho
        have h2 := len_pos o
        simp only [minFrom, decide_eq_false_iff_not] at hfr
        omega
      · exact ho
    closed := fun o ho v hv hk hfr => by
      have hm : v.cell ∈ H.old ++ flat K := by
        rw [hi.old, ← flat_append]
        exact List.mem_flatMap.mpr ⟨o, ho, List.mem_cons_of_mem _ (List.mem_map.mpr ⟨v, hv, rfl⟩)⟩
      obtain ⟨i, hi'⟩ := List.mem_iff_getElem?.mp hm
      exact hled i v.cell hi' hk hfr }
  obtain ⟨N, hN, hNb⟩ := hC.nurs
  rw [e11] at hNb
  rw [e5] at hN
  let H' : HS := { nur := N, old := tcells p.from_ p.base K p.z P, top := 0, room := H.room, most := H.most, rem := [], wh := D, next := H.next, minors := H.minors + 1, majors := H.majors }
  have hold : H'.old = flat ((ol ++ K).map (mvO (minFrom H) K (H.room + total ol))) := by
    show tcells p.from_ p.base K p.z P = _
    rw [ef, e4, ez, tcells_all hall, hi.old, ← flat_append, flat_fix]
  have hw : ∀ id c, (idAt p.z K 0 id).or (Above (H.room : Int) (g id)) = some c ↔ id ≠ 0 ∧ ∃ o ∈ ol ++ K, o.id = id ∧ c = ((mvO (minFrom H) K (H.room + total ol) o).addr : Int) := by
    intro id c
    rw [ez]
    have hkeep : ∀ o ∈ ol, ((mvO (minFrom H) K (H.room + total ol) o).addr : Int) = (o.addr : Int) := fun o ho => by
      show ((mvA (minFrom H) K (H.room + total ol) o.addr : Nat) : Int) = _
      unfold mvA
      rw [if_neg (by rw [hK.fK o ho]; exact Bool.false_ne_true)]
    cases hid : idAt (H.room + total ol) K 0 id with
    | some d =>
      have h1 := (hK.idL id d).1 hid
      obtain ⟨h0, o, ho, e1, e2⟩ := h1
      constructor
      · intro hc
        have hdc : d = c := by simpa using hc
        exact ⟨h0, o, List.mem_append.mpr (Or.inr ho), e1, by rw [← hdc]; exact e2⟩
      · rintro ⟨_, x, hx, e3, e4'⟩
        have hxo : x = o := hi.named x (hK.mem hx) o (hK.inO o ho) (e3.trans e1.symm) (by rw [e3]; exact h0)
        subst hxo
        rw [e4', ← e2]
        rfl
    | none =>
      show Above (H.room : Int) (g id) = some c ↔ _
      constructor
      · intro hc
        cases hgi : g id with
        | none =>
          rw [hgi] at hc
          cases hc
        | some d =>
          rw [hgi] at hc
          obtain ⟨h0, o, ho, e1, e2⟩ := (hg.2 id d).1 hgi
          by_cases hdr : d < (H.room : Int)
          · rw [above_lt hdr] at hc
            cases hc
          · rw [above_ge hdr] at hc
            have hdc : d = c := by simpa using hc
            have hol : o ∈ ol := hK.rest o ho (by rw [← e2]; simp only [minFrom, decide_eq_false_iff_not]; exact hdr)
            exact ⟨h0, o, List.mem_append.mpr (Or.inl hol), e1, by rw [hkeep o hol, ← hdc]; exact e2⟩
      · rintro ⟨h0, o, ho, e1, e2⟩
        rcases List.mem_append.mp ho with ho | ho
        · have h1 := (hg.2 id (o.addr : Int)).2 ⟨h0, o, List.mem_append.mpr (Or.inr ho), e1, rfl⟩
          have h2 := laid_in hi.oa ho
          rw [h1, above_ge (by omega), e2, hkeep o ho]
        · have h1 := (hK.idL id c).2 ⟨h0, o, ho, e1, e2⟩
          rw [hid] at h1
          cases h1
  have hHI : HI H' [] ((ol ++ K).map (mvO (minFrom H) K (H.room + total ol))) := hK.after hold rfl rfl rfl rfl ⟨_, hRd, hw⟩
  have htot : total K ≤ total nu := total_le hC.nd hinK
  have hmh : mb ≠ hb := fun e => h.hm e.symm
  have hTw : Turned (fun k => Owns hb nb mb ov rv k ∨ ∃ a ∈ rs, a.1 = k) w w' := by
    refine (hT1.mono fun k hk => ?_).trans (hT2.mono fun k hk => ?_)
    · rcases hk with hk | hk | hk
      · exact Or.inl (.inr (.inl hk))
      · exact Or.inl (.inr (.inr (.inr (.inl hk))))
      · exact Or.inr hk
    · rcases hk with hk | hk
      · exact Or.inl (.inr (.inr (.inl hk)))
      · exact Or.inl (.inl hk)
  have hsz1 := hT1.size
  refine ⟨tv, H', K, ?_, hK, hHI, fun o ho => ?_, fun a ha h1 h2 => hhas a ha h1 (by rw [ef]; exact h2), fun a ha => ?_, rfl, rfl, rfl, rfl, rfl, hTw, hown⟩
  · exact {
      blk := by
        rw [hblk]
        have e : hblock nb mb tv (.slice none 0 0) H' = ((((hblock nb mb ov rv H).setIfInBounds 1 tv).setIfInBounds 2 (.int .i64 0)).setIfInBounds 5 (.slice none 0 0)).setIfInBounds 8 (.int .i64 ((H.minors : Int) + 1)) := by
          simp [hblock, H']
        rw [e]
      nur := (hT2.block nb (by omega) (fun h' => h'.elim h.nm (fun e => h.hn e.symm))).trans hNb
      len := hN
      old := by
        have h1 := hC.row
        rw [eB] at h1
        have h2 : H'.old.length = p.base.length + total K := tcells_length
        rw [h2]
        refine ownsRow_same h1 fun k hk => hT2.block k (own_lt h1 hk).2 (fun h' => ?_)
        rcases h' with h' | h'
        · subst h'
          rcases hown _ hk with h3 | h3
          · exact h.om' h3
          · omega
        · subst h'
          have := hC.th
          rw [e3] at this
          exact this hk
      rem := World.ownsRow_nil _ _ _ _
      map := shrink hmap hRd (fun id his => by
        obtain ⟨c, hc⟩ := Option.isSome_iff_exists.1 his
        obtain ⟨h0, o, ho, e1, _⟩ := (hw id c).1 hc
        have := hi.ids o (hK.mem ho)
        show 1 ≤ id ∧ id ≤ (H.next : Int)
        omega)
      hn := h.hn
      oh := by have := hC.th; rwa [e3] at this
      on := by have := hC.tn; rwa [e11] at this
      rh := by simp [Value.ownBlock]
      rn := by simp [Value.ownBlock]
      ro := by
        cases htv : tv.ownBlock with
        | none => exact Or.inl rfl
        | some k => exact Or.inr (by simp [Value.ownBlock])
      lo := h.lo
      tr := Nat.zero_le _
      rr := h.rr
      mm := h.mm
      om := by
        rw [hold, flat_length, total_mv, total_append]
        show _ ≤ H.most
        omega }
  · have h1 := reached_of (hC.come o ho)
    rwa [e8, es] at h1
  · obtain ⟨q0, q1, q2, q3⟩ := hRo.cell a ha
    have hal := World.block_lt_of_cell? wS _ q0
    have hb := hT2.block a.1 hal (fun h' => by
      rcases h' with h' | h'
      · exact hr.out a ha (.inr (.inr (.inl h')))
      · exact hr.out a ha (.inl h'))
    have hblkA : ∃ c t, w'.heap[a.1]? = some (.cells c t (0, 0)) := by
      obtain ⟨c, t, e3⟩ := hRo.blk a ha
      exact ⟨c, t, hb.trans e3⟩
    have e : (fixV p K (f a)) = mvV (minFrom H) K (H.room + total ol) (f a) := by rw [fixV_eq, ef, ez]
    refine ⟨(World.cell?_of_block (a := ⟨a.1, a.2, none⟩) hb).trans q0, ?_, (World.cell?_of_block (a := ⟨a.1, a.2 + 2, none⟩) hb).trans q2, (World.frozen?_of_block (a := ⟨a.1, a.2 + 1, none⟩) hb).trans q3, hblkA⟩
    rw [← e]
    exact (World.cell?_of_block (a := ⟨a.1, a.2 + 1, none⟩) hb).trans q1

/-- Minor, where there is room. -/
theorem minor_ok {w : World} {hb nb mb : Nat} {ov rv : Value} {B : Nat} {H : HS} {nu ol : List Ob} (h : HR w hb nb mb ov rv B H) (hi : HI H nu ol) {v : Value} {rs : List (Nat × Nat)} {f : Nat × Nat → Vl} (hr : RootsAt w (Owns hb nb mb ov rv) v rs f) (hroot : ∀ a ∈ rs, (f a).k = 4 → ∃ x ∈ nu ++ ol, (f a).n = (x.addr : Int))
    (hf : total ol + total nu ≤ H.most) (hnx : H.next ≤ big) (hrl : H.rem.length ≤ big) (hmi : H.minors < big) :
    Calls Try.prog 11 #[.pointer (some ⟨hb, 0, none⟩), v] w fun e w' => e = .returned .nilIface ∧ ∃ tv H' L, MinorDone w hb nb mb ov rv B H nu ol rs f w' tv H' L := by
  obtain ⟨g, hg1, hg2⟩ := hi.wh
  exact (minor_raw h hi hr hroot hf hnx hrl hmi hg1).mono fun e w' ⟨e1, hM⟩ => ⟨e1, minor_done h hi hr hf ⟨hg1, hg2⟩ hM⟩
end Go.Proofs.Ythbkklnahhdgcaa.ChU
