/-
  Package heap's Minor over a heap as objects.
-/
import Derived.Test.YthbkklnahhdgcaaDoorPG06
import Derived.Maps.OwnSet
import Derived.Test.YthbkklnahhdgcaaDoorPG02
import Derived.Deep.DeepCutAuto
import Derived.Deep.CutBlock
set_option maxRecDepth 100000
set_option maxHeartbeats 4000000
namespace Go.Proofs.YthbkklnahhdgcaaDoor.ChU
open Go Go.Proofs Go.RowKit Go.Maps Go.Proofs.YthbkklnahhdgcaaDoor.Lib HeapR HeapA ChA ChB ChT ChCa ChCc ChCd ChD ChE ChF ChG ChH ChI ChJ ChK ChL ChM ChN ChO ChP ChQ ChR ChS

/-- What Minor moves. -/
def minFrom (H : HS) (n : Int) : Bool := decide (n < (H.room : Int))
/-- What objects of O some addresses lead to. -/
inductive Reached (O : List Ob) (src : Nat → Prop) : Ob → Prop
  | src {o : Ob} (ho : o ∈ O) (h : src o.addr) : Reached O src o
  | step {x o : Ob} {v : Vl} (hx : Reached O src x) (hv : v ∈ x.fs) (hk : v.k = 4) (hn : v.n = (o.addr : Int)) (ho : o ∈ O) : Reached O src o
theorem reached_of {p : Par} {o : Ob} (h : Leads p o) : Reached p.O p.src o := by
  induction h with
  | src ho h => exact .src ho h
  | step _ hv hk hn ho ih => exact .step ih hv hk hn ho
theorem fixV_eq (p : Par) (K : List Ob) (v : Vl) : fixV p K v = mvV p.from_ K p.z v := by
  unfold fixV newN mvV
  split <;> rfl
/-- What Minor leaves: L was moved. -/
structure MinorDone (w : World) (hb nb mb : Nat) (ov rv : Value) (B : Nat) (H : HS) (nu ol : List Ob) (rs : List (Nat × Nat)) (f : Nat × Nat → Vl) (w' : World) (tv : Value) (H' : HS) (L : List Ob) : Prop where
  hr : HR w' hb nb mb tv (.slice none 0 0) B H'
  kept : Kept H nu ol (minFrom H) L ol (H.room + total ol)
  hi : HI H' [] ((ol ++ L).map (mvO (minFrom H) L (H.room + total ol)))
  led : ∀ o ∈ L, Reached nu (minSrc H rs f) o
  roots : ∀ a ∈ rs, (f a).k = 4 → minFrom H (f a).n = true → has L (f a).n.toNat
  cells : ∀ a ∈ rs, w'.cell? ⟨a.1, a.2, none⟩ = some (.int .i64 (f a).k) ∧ w'.cell? ⟨a.1, a.2 + 1, none⟩ = some (.int .i64 (mvV (minFrom H) L (H.room + total ol) (f a)).n) ∧ w'.cell? ⟨a.1, a.2 + 2, none⟩ = some (.string (f a).s) ∧ w'.frozen? ⟨a.1, a.2 + 1, none⟩ = false ∧ ∃ c t, w'.heap[a.1]? = some (.cells c t (0, 0))
  room : H'.room = H.room
  most : H'.most = H.most
  next : H'.next = H.next
  minors : H'.minors = H.minors + 1
  majors : H'.majors = H.majors
  turned : Turned (fun k => Owns hb nb mb ov rv k ∨ ∃ a ∈ rs, a.1 = k) w w'
  own : ∀ k, tv.ownBlock = some k → ov.ownBlock = some k ∨ w.heap.size ≤ k
  sizes : ∀ a ∈ rs, ∃ c c' t, w.heap[a.1]? = some (.cells c t (0, 0)) ∧ w'.heap[a.1]? = some (.cells c' t (0, 0)) ∧ SameBut rs a.1 c' c

theorem minor_done {w : World} {hb nb mb : Nat} {ov rv : Value} {B : Nat} {H : HS} {nu ol : List Ob} (h : HR w hb nb mb ov rv B H) (hi : HI H nu ol) {v : Value} {rs : List (Nat × Nat)} {f : Nat × Nat → Vl} (hr : RootsAt w (Owns hb nb mb ov rv) v rs f) (hf : total ol + total nu ≤ H.most) {g : Int → Option Int} (hg : Reads H.wh g ∧ ∀ id c, g id = some c ↔ id ≠ 0 ∧ ∃ o ∈ nu ++ ol, o.id = id ∧ c = (o.addr : Int)) {w' : World}
    (hM : MinorRaw w hb nb mb ov rv B H nu rs f g w') : ∃ tv H' L, MinorDone w hb nb mb ov rv B H nu ol rs f w' tv H' L := by
  obtain ⟨p, tv, K, P, wS, n, D, hp, hC, hD, hPB, hhas, hRo, hT1, hown, hT2, hblk, hmap, hRd⟩ := hM
  have e4 : p.base = H.old := by rw [hp]; rfl
  have e5 : p.room = H.room := by rw [hp]; rfl
  have e8 : p.O = nu := by rw [hp]; rfl
  have e3 : p.hb = hb := by rw [hp]; rfl
  have e11 : p.nb = nb := by rw [hp]; rfl
  have eB : p.B = B := by rw [hp]; rfl
  have ez : p.z = H.room + total ol := by rw [hp, minPar_z, hi.olen]
  have ef : p.from_ = minFrom H := by rw [hp]; rfl
  have es : p.src = minSrc H rs f := by rw [hp]; rfl
  have hbl := h.lt (.inl rfl)
  have hnl := h.lt (.inr (.inl rfl))
  have hml := h.map.lt
  have hinK : ∀ o ∈ K, o ∈ nu := fun o ho => by have := hC.inO o ho; rwa [e8] at this
  -- all cells that lead to what is moved are fixed
  have hall : ∀ (i : Nat) (c : HCell), (H.old ++ flat K)[i]? = some c → c.vk = 4 → minFrom H c.vn = true → P i = true := fun i c hc h1 h2 => by
    by_cases hil : i < H.old.length
    · rw [List.getElem?_append_left hil] at hc
      exact (hPB i hil).2 (hi.rem2 i c hc h1 (by simpa [minFrom] using h2))
    · have hlt := (List.getElem?_eq_some_iff.1 hc).1
      rw [List.length_append, flat_length] at hlt
      exact hD i c (by rw [e4]; omega) hlt (by rw [e4]; exact hc) h1 (by rw [ef]; exact h2)
  have hled : ∀ (i : Nat) (c : HCell), (H.old ++ flat K)[i]? = some c → c.vk = 4 → minFrom H c.vn = true → has K c.vn.toNat := fun i c hc h1 h2 => hC.led i c (hall i c hc h1 h2) (by rw [e4]; exact hc) h1 (by rw [ef]; exact h2)
  have hK : Kept H nu ol (minFrom H) K ol (H.room + total ol) := {
    hi := hi
    inO := fun o ho => List.mem_append.mpr (Or.inl (hinK o ho))
    nd := hC.nd
    inK := fun o ho => ho
    laid := hi.oa
    hz := rfl
    fL := fun o ho => by
      have h1 := min_addr hi (hinK o ho)
      have h2 := len_pos o
      simp only [minFrom, decide_eq_true_eq]
      omega
    fK := fun o ho => by
      have h1 := laid_in hi.oa ho
      simp only [minFrom, decide_eq_false_iff_not]
      omega
    rest := fun o ho hfr => by
      rcases List.mem_append.mp ho with ho | ho
      · exfalso
        have h1 := min_addr hi ho
        have h2 := len_pos o
        simp only [minFrom, decide_eq_false_iff_not] at hfr
        omega
      · exact ho
    closed := fun o ho v hv hk hfr => by
      have hm : v.cell ∈ H.old ++ flat K := by
        rw [hi.old, ← flat_append]
        exact List.mem_flatMap.mpr ⟨o, ho, List.mem_cons_of_mem _ (List.mem_map.mpr ⟨v, hv, rfl⟩)⟩
      obtain ⟨i, hi'⟩ := List.mem_iff_getElem?.mp hm
      exact hled i v.cell hi' hk hfr }
  obtain ⟨N, hN, hNb⟩ := hC.nurs
  rw [e11] at hNb
  rw [e5] at hN
  let H' : HS := { nur := N, old := tcells p.from_ p.base K p.z P, top := 0, room := H.room, cap := H.cap, most := H.most, rem := [], wh := D, next := H.next, minors := H.minors + 1, majors := H.majors }
  have hold : H'.old = flat ((ol ++ K).map (mvO (minFrom H) K (H.room + total ol))) := by
    show tcells p.from_ p.base K p.z P = _
    rw [ef, e4, ez, tcells_all hall, hi.old, ← flat_append, flat_fix]
  have hw : ∀ id c, (idAt p.z K 0 id).or (Above (H.room : Int) (g id)) = some c ↔ id ≠ 0 ∧ ∃ o ∈ ol ++ K, o.id = id ∧ c = ((mvO (minFrom H) K (H.room + total ol) o).addr : Int) := by
    intro id c
    rw [ez]
    have hkeep : ∀ o ∈ ol, ((mvO (minFrom H) K (H.room + total ol) o).addr : Int) = (o.addr : Int) := fun o ho => by
      show ((mvA (minFrom H) K (H.room + total ol) o.addr : Nat) : Int) = _
      unfold mvA
      rw [if_neg (by rw [hK.fK o ho]; exact Bool.false_ne_true)]
    cases hid : idAt (H.room + total ol) K 0 id with
    | some d =>
      have h1 := (hK.idL id d).1 hid
      obtain ⟨h0, o, ho, e1, e2⟩ := h1
      constructor
      · intro hc
        have hdc : d = c := by simpa using hc
        exact ⟨h0, o, List.mem_append.mpr (Or.inr ho), e1, by rw [← hdc]; exact e2⟩
      · rintro ⟨_, x, hx, e3, e4'⟩
        have hxo : x = o := hi.named x (hK.mem hx) o (hK.inO o ho) (e3.trans e1.symm) (by rw [e3]; exact h0)
        subst hxo
        rw [e4', ← e2]
        rfl
    | none =>
      show Above (H.room : Int) (g id) = some c ↔ _
      constructor
      · intro hc
        cases hgi : g id with
        | none =>
          rw [hgi] at hc
          cases hc
        | some d =>
          rw [hgi] at hc
          obtain ⟨h0, o, ho, e1, e2⟩ := (hg.2 id d).1 hgi
          by_cases hdr : d < (H.room : Int)
          · rw [above_lt hdr] at hc
            cases hc
          · rw [above_ge hdr] at hc
            have hdc : d = c := by simpa using hc
            have hol : o ∈ ol := hK.rest o ho (by rw [← e2]; simp only [minFrom, decide_eq_false_iff_not]; exact hdr)
            exact ⟨h0, o, List.mem_append.mpr (Or.inl hol), e1, by rw [hkeep o hol, ← hdc]; exact e2⟩
      · rintro ⟨h0, o, ho, e1, e2⟩
        rcases List.mem_append.mp ho with ho | ho
        · have h1 := (hg.2 id (o.addr : Int)).2 ⟨h0, o, List.mem_append.mpr (Or.inr ho), e1, rfl⟩
          have h2 := laid_in hi.oa ho
          rw [h1, above_ge (by omega), e2, hkeep o ho]
        · have h1 := (hK.idL id c).2 ⟨h0, o, ho, e1, e2⟩
          rw [hid] at h1
          cases h1
  have hHI : HI H' [] ((ol ++ K).map (mvO (minFrom H) K (H.room + total ol))) := hK.after hold rfl rfl rfl rfl ⟨_, hRd, hw⟩
  have htot : total K ≤ total nu := total_le hC.nd hinK
  have hmh : mb ≠ hb := fun e => h.hm e.symm
  have hTw : Turned (fun k => Owns hb nb mb ov rv k ∨ ∃ a ∈ rs, a.1 = k) w w' := by
    refine (hT1.mono fun k hk => ?_).trans (hT2.mono fun k hk => ?_)
    · rcases hk with hk | hk | hk
      · exact Or.inl (.inr (.inl hk))
      · exact Or.inl (.inr (.inr (.inr (.inl hk))))
      · exact Or.inr hk
    · rcases hk with hk | hk
      · exact Or.inl (.inr (.inr (.inl hk)))
      · exact Or.inl (.inl hk)
  have hsz1 := hT1.size
  refine ⟨tv, H', K, ?_, hK, hHI, fun o ho => ?_, fun a ha h1 h2 => hhas a ha h1 (by rw [ef]; exact h2), fun a ha => ?_, rfl, rfl, rfl, rfl, rfl, hTw, hown, fun a ha => ?_⟩
  · exact {
      blk := by
        rw [hblk]
        have e : hblock nb mb tv (.slice none 0 0) H' = ((((hblock nb mb ov rv H).setIfInBounds 1 tv).setIfInBounds 2 (.int .i64 0)).setIfInBounds 5 (.slice none 0 0)).setIfInBounds 8 (.int .i64 ((H.minors : Int) + 1)) := by
          simp [hblock, H']
        rw [e]
      nur := (hT2.block nb (by omega) (fun h' => h'.elim h.nm (fun e => h.hn e.symm))).trans hNb
      len := hN
      old := by
        have h1 := hC.row
        rw [eB] at h1
        have h2 : H'.old.length = p.base.length + total K := tcells_length
        rw [h2]
        refine ownsRow_same h1 fun k hk => hT2.block k (own_lt h1 hk).2 (fun h' => ?_)
        rcases h' with h' | h'
        · subst h'
          rcases hown _ hk with h3 | h3
          · exact h.om' h3
          · omega
        · subst h'
          have := hC.th
          rw [e3] at this
          exact this hk
      rem := World.ownsRow_nil _ _ _ _
      map := shrink hmap hRd (fun id his => by
        obtain ⟨c, hc⟩ := Option.isSome_iff_exists.1 his
        obtain ⟨h0, o, ho, e1, _⟩ := (hw id c).1 hc
        have := hi.ids o (hK.mem ho)
        show 1 ≤ id ∧ id ≤ (H.next : Int)
        omega)
      hn := h.hn
      oh := by have := hC.th; rwa [e3] at this
      on := by have := hC.tn; rwa [e11] at this
      rh := by simp [Value.ownBlock]
      rn := by simp [Value.ownBlock]
      ro := by
        cases htv : tv.ownBlock with
        | none => exact Or.inl rfl
        | some k => exact Or.inr (by simp [Value.ownBlock])
      lo := h.lo
      tr := Nat.zero_le _
      rr := h.rr
      mm := h.mm
      om := by
        rw [hold, flat_length, total_mv, total_append]
        show _ ≤ H.most
        omega }
  · have h1 := reached_of (hC.come o ho)
    rwa [e8, es] at h1
  · obtain ⟨q0, q1, q2, q3⟩ := hRo.cell a ha
    have hal := World.block_lt_of_cell? wS _ q0
    have hb := hT2.block a.1 hal (fun h' => by
      rcases h' with h' | h'
      · exact hr.out a ha (.inr (.inr (.inl h')))
      · exact hr.out a ha (.inl h'))
    have hblkA : ∃ c t, w'.heap[a.1]? = some (.cells c t (0, 0)) := by
      obtain ⟨c, t, e3⟩ := hRo.blk a ha
      exact ⟨c, t, hb.trans e3⟩
    have e : (fixV p K (f a)) = mvV (minFrom H) K (H.room + total ol) (f a) := by rw [fixV_eq, ef, ez]
    refine ⟨(World.cell?_of_block (a := ⟨a.1, a.2, none⟩) hb).trans q0, ?_, (World.cell?_of_block (a := ⟨a.1, a.2 + 2, none⟩) hb).trans q2, (World.frozen?_of_block (a := ⟨a.1, a.2 + 1, none⟩) hb).trans q3, hblkA⟩
    rw [← e]
    exact (World.cell?_of_block (a := ⟨a.1, a.2 + 1, none⟩) hb).trans q1
  · obtain ⟨c, t, e3⟩ := hRo.blk a ha
    obtain ⟨c0, t0, e0⟩ := hr.blk a ha
    have hal := lt_of_block e3
    have hb := hT2.block a.1 hal (fun h' => by
      rcases h' with h' | h'
      · exact hr.out a ha (.inr (.inr (.inl h')))
      · exact hr.out a ha (.inl h'))
    obtain ⟨cc, h1, h5⟩ := hRo.kept a ha c t e3
    rw [hp] at h1
    have h2 : rowDesc w a.1 = some (t, cc) := h1
    rw [rowDesc_of e0] at h2
    have h3 : t0 = t ∧ c0 = cc := by
      have h4 := Option.some.inj h2
      exact ⟨congrArg Prod.fst h4, congrArg Prod.snd h4⟩
    obtain ⟨rfl, rfl⟩ := h3
    exact ⟨c0, c, t0, e0, hb.trans e3, h5⟩

/-- Minor, where there is room. -/
theorem minor_ok {w : World} {hb nb mb : Nat} {ov rv : Value} {B : Nat} {H : HS} {nu ol : List Ob} (h : HR w hb nb mb ov rv B H) (hi : HI H nu ol) {v : Value} {rs : List (Nat × Nat)} {f : Nat × Nat → Vl} (hr : RootsAt w (Owns hb nb mb ov rv) v rs f) (hroot : ∀ a ∈ rs, (f a).k = 4 → ∃ x ∈ nu ++ ol, (f a).n = (x.addr : Int))
    (hf : total ol + total nu ≤ H.most) (hnx : H.next ≤ big) (hrl : H.rem.length ≤ big) (hmi : H.minors < big) :
    Calls Tryd.prog 93 #[.pointer (some ⟨hb, 0, none⟩), v] w fun e w' => e = .returned .nilIface ∧ ∃ tv H' L, MinorDone w hb nb mb ov rv B H nu ol rs f w' tv H' L := by
  obtain ⟨g, hg1, hg2⟩ := hi.wh
  exact (minor_raw h hi hr hroot hf hnx hrl hmi hg1).mono fun e w' ⟨e1, hM⟩ => ⟨e1, minor_done h hi hr hf ⟨hg1, hg2⟩ hM⟩
end Go.Proofs.YthbkklnahhdgcaaDoor.ChU

namespace Go.Proofs.YthbkklnahhdgcaaDoor.ChV
open Go Go.Proofs Go.RowKit Go.Maps Go.Proofs.YthbkklnahhdgcaaDoor.Lib HeapR ChCa ChCc ChH ChL

theorem plainElem_bool_inv {P : Program} {e : TypeId} (he : P.underlying e = some .bool) {v : Value} {z : DataW Unit × List MemPlace} (h : plainElem P e v = some z) : ∃ x, v = .bool x ∧ z = (.lit (.bool x), []) := by
  unfold plainElem at h
  rw [he] at h
  cases v <;> simp at h
  subst h
  exact ⟨_, rfl, rfl⟩
/-- A map to truths reads as a function. -/
structure ReadsB (D : DataW Unit) (s : Int → Bool) : Prop where
  map : IsMap D
  at_ : ∀ a, D.atKey (.int .i64 a) (.lit (.bool false)) = .lit (.bool (s a))
theorem readsB_empty : ReadsB (.map []) (fun _ => false) := ⟨isMap_empty, fun _ => rfl⟩
theorem readsB_put {D : DataW Unit} {s : Int → Bool} (h : ReadsB D s) (a : Int) : ReadsB (D.put (.int .i64 a) (.lit (.bool true))) (fun b => decide (b = a) || s b) := by
  refine ⟨h.map.put _ _, fun b => ?_⟩
  by_cases e : b = a
  · subst e
    rw [atKey_put_same h.map (lit_key b)]
    simp
  · rw [atKey_put_other (lit_ne e), h.at_]
    simp [e]
theorem look_bool {w : World} {b n : Nat} {D : DataW Unit} {s : Int → Bool} (h : w.ownsMap Tryd.prog 3 (plainElem Tryd.prog 4) b n D) (hR : ReadsB D s) (a : Int) (hw : (Lit.int .i64 a).wf = true) : (Instr.lookup 210 (.map (some b)) (.int .i64 a) false).run Tryd.prog w = .ok (.bool (s a)) w := by
  obtain ⟨v, ps, hrun, hv⟩ := h.lookup (t := 210) (e := 4) (z := .bool false) (zd := .lit (.bool false)) (zp := []) (int_keyed Tryd.underlying3) Tryd.underlying210 (by kernel_rfl) (plainElem_bool Tryd.underlying4 false) (keyOf_int_mk Tryd.underlying3 hw)
  obtain ⟨x, rfl, hz⟩ := plainElem_bool_inv Tryd.underlying4 hv
  rw [hR.at_] at hz
  injection hz with h1 _
  injection h1 with h1
  injection h1 with h1
  rw [hrun, h1]

/-- What live holds: what was seen, what is to do. -/
structure LS (w : World) (vs vt sb B : Nat) (S T : List Int) : Prop where
  sv : w.heap[vs]? = some (.cells #[.map (some sb)] 210 (0, 0))
  tv : ∃ o c, w.heap[vt]? = some (.cells #[.slice o T.length c] 52 (0, 0)) ∧ w.ownsRow B 3 1 (.slice o T.length c) T.length (T.map (Value.int .i64)) ∧ (Value.slice o T.length c).ownBlock ≠ some vs ∧ (Value.slice o T.length c).ownBlock ≠ some vt ∧ (Value.slice o T.length c).ownBlock ≠ some sb
  mp : ∃ D, w.ownsMap Tryd.prog 3 (plainElem Tryd.prog 4) sb S.length D ∧ ReadsB D (fun a => decide (a ∈ S))
  lo : B ≤ vs ∧ B ≤ vt ∧ B ≤ sb
  ne : vs ≠ vt ∧ vs ≠ sb ∧ vt ≠ sb
theorem LS.below {w w' : World} {vs vt sb B : Nat} {S T : List Int} (h : LS w vs vt sb B S T) (hb : Below w.heap.size w w') : LS w' vs vt sb B S T := by
  obtain ⟨o, c, t1, t2, t3⟩ := h.tv
  obtain ⟨D, m1, m2⟩ := h.mp
  exact { h with
    sv := (hb.block _ (lt_of_block h.sv)).trans h.sv
    tv := ⟨o, c, (hb.block _ (lt_of_block t1)).trans t1, ownsRow_same t2 fun k hk => hb.block k (own_lt t2 hk).2, t3⟩
    mp := ⟨D, HeapF.ownsMap_same m1 (hb.block _ m1.lt), m2⟩ }

theorem come_no {w : World} {vs vt : Nat} (k n : Int) (s : ByteArray) (hk : k ≠ 4) :
    Calls Tryd.prog 128 #[.agg #[.int .i64 k, .int .i64 n, .string s], .pointer (some ⟨vs, 0, none⟩), .pointer (some ⟨vt, 0, none⟩)] w fun e w' => e = .returned (.tuple #[]) ∧ Below w.heap.size w w' := by
  have hkd : (k == 4) = false := by simpa using hk
  clear hk
  go_enter Tryd.func128, Tryd.ntmps128
  go_wp2
  go_end0
  exact ⟨rfl, (Below.refl _ _).alloc (Nat.le_refl _) _⟩

theorem come_in {w : World} {vs vt sb B : Nat} {S T : List Int} (h : LS w vs vt sb B S T) (n : Int) (s : ByteArray) (hw : (Lit.int .i64 n).wf = true) (hn : n ∈ S) :
    Calls Tryd.prog 128 #[.agg #[.int .i64 4, .int .i64 n, .string s], .pointer (some ⟨vs, 0, none⟩), .pointer (some ⟨vt, 0, none⟩)] w fun e w' => e = .returned (.tuple #[]) ∧ Below w.heap.size w w' := by
  have h1 := h.below ((Below.refl w.heap.size w).alloc (Nat.le_refl _) (.cells #[.int .i64 4, .int .i64 n, .string s] 28 (0, 0)))
  obtain ⟨D, m1, m2⟩ := h1.mp
  have hl := look_bool m1 m2 n hw
  rw [decide_eq_true hn] at hl
  have sv : (w.alloc (.cells #[.int .i64 4, .int .i64 n, .string s] 28 (0, 0))).cell? ⟨vs, 0, none⟩ = some (.map (some sb)) := cell_of_block h1.sv rfl
  clear m1 m2 h1 hn
  go_enter Tryd.func128, Tryd.ntmps128
  go_wp2
  go_end0
  exact ⟨rfl, (Below.refl _ _).alloc (Nat.le_refl _) _⟩

theorem own_ne {w : World} {base e size : Nat} {v : Value} {n : Nat} {xs : List Value} (h : w.ownsRow base e size v n xs) {k : Nat} {o : Obj} (hb : w.heap[k]? = some o) (ho : ∀ cur, o ≠ .cells cur e (0, 0)) : v.ownBlock ≠ some k := by
  intro e1
  rcases h.2 with ⟨rfl, _⟩ | ⟨g, cap, cur, rfl, _, hg, _⟩
  · simp [Value.ownBlock] at e1
  · simp only [Value.ownBlock, Option.some.injEq] at e1
    subst e1
    rw [hb] at hg
    exact ho cur (Option.some.inj hg)
theorem infoInt : (Tryd.prog.info? 3).map (fun i => (i.zero, i.size, i.bytes)) = some (some (.int .i64 0), 1, 8) := by kernel_rfl
theorem come_new {w : World} {vs vt sb B : Nat} {S T : List Int} (h : LS w vs vt sb B S T) (n : Int) (s : ByteArray) (hw : (Lit.int .i64 n).wf = true) (hn : n ∉ S) (hS : S.length < big) (hTl : T.length < big) (hB : B ≤ w.heap.size) :
    Calls Tryd.prog 128 #[.agg #[.int .i64 4, .int .i64 n, .string s], .pointer (some ⟨vs, 0, none⟩), .pointer (some ⟨vt, 0, none⟩)] w fun e w' => e = .returned (.tuple #[]) ∧ LS w' vs vt sb B (S ++ [n]) (T ++ [n]) ∧ Below B w w' := by
  have hb1 := (Below.refl w.heap.size w).alloc (Nat.le_refl _) (.cells #[.int .i64 4, .int .i64 n, .string s] 28 (0, 0))
  have h1 := h.below hb1
  obtain ⟨D, m1, m2⟩ := h1.mp
  obtain ⟨o, c, t1, t2, t3, t4, t5⟩ := h1.tv
  have hl := look_bool m1 m2 n hw
  rw [decide_eq_false hn] at hl
  have sv : (w.alloc (.cells #[.int .i64 4, .int .i64 n, .string s] 28 (0, 0))).cell? ⟨vs, 0, none⟩ = some (.map (some sb)) := cell_of_block h1.sv rfl
  have tvc : (w.alloc (.cells #[.int .i64 4, .int .i64 n, .string s] 28 (0, 0))).cell? ⟨vt, 0, none⟩ = some (.slice o T.length c) := cell_of_block t1 rfl
  have q0 : (w.alloc (.cells #[.int .i64 4, .int .i64 n, .string s] 28 (0, 0))).cell? ⟨w.heap.size, 1, none⟩ = some (.int .i64 n) := cell_of_block (heap_alloc_last w _) rfl
  obtain ⟨i0, hi, hz0, hz1, hz2⟩ := info_parts infoInt
  have hSm : S.length < maxLen := lt_max _ hS
  have hTm : T.length + 1 ≤ maxLen := max_of _ (by omega)
  have hTb : (T.length + 1) * 8 ≤ 140737488355328 := by unfold big at hTl; omega
  have hsvb := h1.sv
  obtain ⟨l1, l2, l3⟩ := h.lo
  obtain ⟨n1, n2, n3⟩ := h.ne
  have hvl := lt_of_block h.sv
  have q1 : (w.alloc (.cells #[.int .i64 4, .int .i64 n, .string s] 28 (0, 0))).heap[w.heap.size]? = some (.cells #[.int .i64 4, .int .i64 n, .string s] 28 (0, 0)) := heap_alloc_last w _
  have hsbl : sb < w.heap.size := by obtain ⟨D', m', _⟩ := h.mp; exact m'.lt
  clear hS hTl h1
  have Hn := Lib.hid hn
  clear hn
  go_enter Tryd.func128, Tryd.ntmps128
  go_wp2_with (first | (at_mapUpdate; refine wpList_mapUpdate_own _ rfl _ _ _ 210 rfl 3 4 (int_keyed Tryd.underlying3) Tryd.underlying210 _ sb S.length D rfl m1 hSm _ _ (.int .i64 n) rfl rfl (keyOf_int_mk Tryd.underlying3 hw) _ [] (plainElem_bool Tryd.underlying4 true) ?_; intro w2 hm2 hg2; have tv2 := (hg2.block vt (lt_of_block t1) (fun e => n3 (Option.some.inj e))).trans t1; have tvc2 : w2.cell? ⟨vt, 0, none⟩ = some (.slice o T.length c) := cell_of_block tv2 rfl; have tf2 : w2.frozen? ⟨vt, 0, none⟩ = false := frozen_of_block tv2; have q2 : w2.cell? ⟨w.heap.size, 1, none⟩ = some (.int .i64 n) := cell_of_block ((hg2.block w.heap.size (lt_of_block q1) (fun e => by have e2 := Option.some.inj e; omega)).trans q1) rfl; have t22 := ownsRow_same t2 (fun k hk => hg2.block k (own_lt t2 hk).2 (fun e => t5 (hk.trans e))); clear tvc sv q0) | (at_builtin; refine wpList_append_own _ rfl _ _ 52 rfl B 3 i0 (.int .i64 0) 1 8 Tryd.underlying52 hi hz0 hz1 hz2 rfl (by decide) (.slice o T.length c) T.length (T.map (Value.int .i64)) rfl (t22.alloc _) ⟨w2.heap.size, 0, none⟩ 1 1 [.int .i64 n] rfl rfl ?c1 ?c2 ?c3 ?c4 ?c5 ?_))
  case c1 => exact World.news_of_block (cs := #[.int .i64 n]) (t := 3) (fr := (0, 0)) (heap_alloc_last w2 _)
  case c2 => intro u hu; simp at hu; subst hu; rfl
  case c3 => exact hTm
  case c4 => exact hTb
  case c5 => have := hg2.size; simp at this ⊢; omega
  intro v' w3 hown' hgrow _
  obtain ⟨g', cap', rfl⟩ := row_slice hown' (by omega)
  have hsz2 : w.heap.size + 1 ≤ w2.heap.size := by have := hg2.size; simpa using this
  have sv2 : w2.heap[vs]? = some (.cells #[.map (some sb)] 210 (0, 0)) := (hg2.block vs (lt_of_block hsvb) (fun e => n2 (Option.some.inj e))).trans hsvb
  have sv3 := (hgrow.block vs (by simp; omega) (fun e => t3 e.symm)).trans ((Below.heap_alloc w2 _ vs (by omega)).trans sv2)
  have tv3 := (hgrow.block vt (by have := lt_of_block tv2; simp; omega) (fun e => t4 e.symm)).trans ((Below.heap_alloc w2 _ vt (lt_of_block tv2)).trans tv2)
  have hm3 := HeapF.ownsMap_same hm2 ((hgrow.block sb (by simp; omega) (fun e => t5 e.symm)).trans (Below.heap_alloc w2 _ sb (by omega)))
  have tf3 : w3.frozen? ⟨vt, 0, none⟩ = false := frozen_of_block tv3
  have tc3 : w3.cell? ⟨vt, 0, none⟩ = some (.slice o T.length c) := cell_of_block tv3 rfl
  have d1 := own_ne hown' sv3 (by intro cur e; cases e)
  have d2 := own_ne hown' tv3 (by intro cur e; cases e)
  have d3 := own_ne hown' (show w3.heap[sb]? = _ from hm3.choose_spec.choose_spec.1) (by intro cur e; cases e)
  have hBw : Below B w w3 := by
    have b1 : Below B w w2 := ((hb1.mono hB)).trans ⟨hg2.os, hg2.tape, hg2.output, hg2.size, fun k hk => hg2.block k (by simp; omega) (fun e => by have := Option.some.inj e; omega)⟩
    have b2 : Below B w2 w3 := ((Below.refl B w2).alloc (by omega) _).trans ⟨hgrow.os, hgrow.tape, hgrow.output, hgrow.size, fun k hk => hgrow.block k (by simp; omega) (fun e => by have := (own_lt t22 e.symm).1; omega)⟩
    exact b1.trans b2
  have b4 := hBw.setCell (p := ⟨vt, 0, none⟩) l2 (.slice (some ⟨g', 0, none⟩) (T.length + 1) cap')
  have sv4 : (w3.setCell ⟨vt, 0, none⟩ (.slice (some ⟨g', 0, none⟩) (T.length + 1) cap')).heap[vs]? = _ := (blk_ne n1).trans sv3
  have tv4 := blk_set (i := 0) tv3 (.slice (some ⟨g', 0, none⟩) (T.length + 1) cap')
  have hm4 := HeapF.ownsMap_same hm3 (w' := w3.setCell ⟨vt, 0, none⟩ (.slice (some ⟨g', 0, none⟩) (T.length + 1) cap')) (blk_ne (fun e => n3 e.symm))
  have hrow4 := ownsRow_same hown' (w' := w3.setCell ⟨vt, 0, none⟩ (.slice (some ⟨g', 0, none⟩) (T.length + 1) cap')) (fun k hk => blk_ne (fun e => d2 (hk.trans (congrArg some e))))
  have A1 := Lib.hid hm4
  have A2 := Lib.hid sv4
  have A3 := Lib.hid tv4
  clear hm4 sv4 tv4 hm3 hm2
  go_wp2
  go_end0
  refine ⟨rfl, ⟨A2.out, ⟨some ⟨g', 0, none⟩, cap', ?_, ?_, ?_, ?_, ?_⟩, ?_, ⟨l1, l2, l3⟩, ⟨n1, n2, n3⟩⟩, b4⟩
  · rw [List.length_append]
    exact A3.out
  · rw [List.length_append, List.map_append]
    exact hrow4
  · exact d1
  · exact d2
  · exact d3
  · rw [List.length_append]
    refine ⟨_, A1.out, ?_⟩
    have h2 := readsB_put m2 n
    refine ⟨h2.map, fun a => ?_⟩
    rw [h2.at_ a]
    simp [or_comm]
end Go.Proofs.YthbkklnahhdgcaaDoor.ChV

namespace Go.Proofs.YthbkklnahhdgcaaDoor.ChW
open Go Go.Proofs Go.RowKit Go.Maps Go.Proofs.YthbkklnahhdgcaaDoor.Lib HeapR HeapC HeapD ChA ChT ChCa ChCc ChE ChH ChI ChK ChL ChN ChQ ChR ChU ChV

def addrs (l : List Ob) : List Int := l.map fun o => (o.addr : Int)
theorem addrs_snoc (l : List Ob) (o : Ob) : addrs (l ++ [o]) = addrs l ++ [(o.addr : Int)] := by simp [addrs]
theorem addrs_len (l : List Ob) : (addrs l).length = l.length := by simp [addrs]
theorem reached_mem {O : List Ob} {src : Nat → Prop} {o : Ob} (h : Reached O src o) : o ∈ O := by
  cases h with
  | src ho _ => exact ho
  | step _ _ _ _ ho => exact ho
/-- What was seen, what is to do. -/
structure LiveI (w0 : World) (vs vt sb : Nat) (O : List Ob) (src : Nat → Prop) (S T : List Ob) (w : World) : Prop where
  ls : LS w vs vt sb w0.heap.size (addrs S) (addrs T)
  below : Below w0.heap.size w0 w
  nd : S.Nodup
  led : ∀ o ∈ S, Reached O src o
  le : T.length ≤ S.length
theorem LiveI.same {w0 w w' : World} {vs vt sb : Nat} {O : List Ob} {src : Nat → Prop} {S T : List Ob} (h : LiveI w0 vs vt sb O src S T w) (hb : Below w.heap.size w w') : LiveI w0 vs vt sb O src S T w' :=
  { h with ls := h.ls.below hb, below := h.below.trans (hb.mono h.below.size) }
theorem LiveI.small {w0 w : World} {vs vt sb : Nat} {O : List Ob} {src : Nat → Prop} {S T : List Ob} (h : LiveI w0 vs vt sb O src S T w) (hO : total O < big) : S.length < big := by
  have h1 := total_le h.nd (fun o ho => reached_mem (h.led o ho))
  have h2 := length_le_total S
  omega
theorem lit_addr (a : Nat) (h : a ≤ big) : (Lit.int .i64 (a : Int)).wf = true := lit_wf _ (by omega) (by have := big_lt; omega)

/-- One value more. -/
theorem come_any {w0 w : World} {vs vt sb : Nat} {O : List Ob} {src : Nat → Prop} {S T : List Ob} (h : LiveI w0 vs vt sb O src S T w) (hO : total O < big) (hA : Apart O) (ha : ∀ o ∈ O, o.addr ≤ big) (v : Vl) (hv : v.k = 4 → ∃ o, Reached O src o ∧ v.n = (o.addr : Int)) :
    Calls Tryd.prog 128 #[.agg #[.int .i64 v.k, .int .i64 v.n, .string v.s], .pointer (some ⟨vs, 0, none⟩), .pointer (some ⟨vt, 0, none⟩)] w fun e w' => e = .returned (.tuple #[]) ∧ ∃ K, LiveI w0 vs vt sb O src (S ++ K) (T ++ K) w' ∧ (v.k = 4 → ∃ x ∈ S ++ K, v.n = (x.addr : Int)) := by
  by_cases hk : v.k = 4
  · obtain ⟨x, hx, e⟩ := hv hk
    rw [hk, e]
    have hxO := reached_mem hx
    have hw := lit_addr x.addr (ha x hxO)
    have hsm := h.small hO
    by_cases hxS : x ∈ S
    · refine (come_in h.ls (x.addr : Int) v.s hw (List.mem_map.mpr ⟨x, hxS, rfl⟩)).mono ?_
      rintro e' w' ⟨rfl, hb⟩
      exact ⟨rfl, [], by rw [List.append_nil, List.append_nil]; exact h.same hb, fun _ => ⟨x, by rw [List.append_nil]; exact hxS, rfl⟩⟩
    · have hnot : (x.addr : Int) ∉ addrs S := fun hm => by
        obtain ⟨y, hy, e2⟩ := List.mem_map.mp hm
        have := hA y (reached_mem (h.led y hy)) x hxO (by omega)
        subst this
        exact hxS hy
      have hle := h.le
      refine (come_new h.ls (x.addr : Int) v.s hw hnot (by rw [addrs_len]; exact hsm) (by rw [addrs_len]; omega) h.below.size).mono ?_
      rintro e' w' ⟨rfl, hls, hb⟩
      refine ⟨rfl, [x], ⟨by rw [addrs_snoc, addrs_snoc]; exact hls, h.below.trans hb, ?_, fun y hy => ?_, by simp; exact hle⟩, fun _ => ⟨x, List.mem_append.mpr (Or.inr (by simp)), rfl⟩⟩
      · rw [List.nodup_append]
        refine ⟨h.nd, by simp, fun a ha' b hb' => ?_⟩
        have : b = x := by simpa using hb'
        subst this
        rintro rfl
        exact hxS ha'
      · rcases List.mem_append.mp hy with hy | hy
        · exact h.led y hy
        · have : y = x := by simpa using hy
          subst this
          exact hx
  · refine (come_no v.k v.n v.s hk).mono ?_
    rintro e' w' ⟨rfl, hb⟩
    exact ⟨rfl, [], by rw [List.append_nil, List.append_nil]; exact h.same hb, fun h2 => absurd h2 hk⟩


/-- What holds at each round over roots. -/
def RelLR (w0 : World) (vs vt sb : Nat) (O : List Ob) (src : Nat → Prop) (rs : List (Nat × Nat)) (f : Nat × Nat → Vl) (i : Nat) (wr : World) : Prop :=
  i ≤ rs.length ∧ ∃ S, LiveI w0 vs vt sb O src S S wr ∧ ∀ a ∈ rs.take i, (f a).k = 4 → ∃ x ∈ S, (f a).n = (x.addr : Int)
def InvLR (oa : Option Addr) (c : Nat) (w0 : World) (vs vt sb : Nat) (O : List Ob) (src : Nat → Prop) (rs : List (Nat × Nat)) (f : Nat × Nat → Vl) (u0 u1 u2 u3 u4 u5 u6 u8 Ja Jb Jc Jd Je Jf Jg Jh Ju Jv Jw Jx Jy Jz Qa Qb Qc Qd Qe Qf Qg Qh Qi Qj Qk Ql Qm Qn Qo Qp Qq Qr Qs Qt Qu Qv Qw Qx Qy Qz Xe Xg Xh Xi Xj : Value) (a : Act) (wr : World) : Prop :=
  ∃ (i : Nat) (s9 s21 s22 s23 s24 s25 s26 s27 s28 s29 : Value), RelLR w0 vs vt sb O src rs f i wr ∧ a = ⟨#[u0, u1, u2, u3, u4, u5, u6, (.func (Fn.func 128) #[] #[.pointer (some ⟨vs, 0, none⟩), .pointer (some ⟨vt, 0, none⟩)]), u8, s9, Ja, Jb, Jc, Jd, Je, Jf, Jg, Jh, (.slice oa rs.length c), (.int .i64 (rs.length : Int)), (.int .i64 (i : Int)), s21, s22, s23, s24, s25, s26, s27, s28, s29, Ju, Jv, Jw, Jx, Jy, Jz, Qa, Qb, Qc, Qd, Qe, Qf, Qg, Qh, Qi, Qj, Qk, Ql, Qm, Qn, Qo, Qp, Qq, Qr, Qs, Qt, Qu, Qv, Qw, Qx, Qy, Qz, Xe, Xg, Xh, Xi, Xj], []⟩
def muLR (n : Nat) (a : Act) (_ : World) : Nat := n - (intOf (a.tmps.getD 20 undef)).toNat

theorem live_roots {Q : Exit → Act → World → Prop} {u0 u1 u2 u3 u4 u5 u6 u8 u9 Ja Jb Jc Jd Je Jf Jg Jh Jl Jm Jn Jo Jp Jq Jr Js Jt Ju Jv Jw Jx Jy Jz Qa Qb Qc Qd Qe Qf Qg Qh Qi Qj Qk Ql Qm Qn Qo Qp Qq Qr Qs Qt Qu Qv Qw Qx Qy Qz Xe Xg Xh Xi Xj : Value} (oa : Option Addr) (rb ro c : Nat) (w0 : World) (vs vt sb : Nat) (O : List Ob) (src : Nat → Prop) (rs : List (Nat × Nat)) (f : Nat × Nat → Vl) (w : World)
    (h0 : LiveI w0 vs vt sb O src [] [] w) (hO : total O < big) (hA : Apart O) (ha : ∀ o ∈ O, o.addr ≤ big) (hlen : rs.length ≤ big) (hre : ∀ (i : Nat) (a : Nat × Nat), rs[i]? = some a → oa = some ⟨rb, ro, none⟩ ∧ w0.cell? ⟨rb, ro + i, none⟩ = some (.pointer (some ⟨a.1, a.2, none⟩)))
    (hc : ∀ a ∈ rs, w0.cell? ⟨a.1, a.2, none⟩ = some (.int .i64 (f a).k) ∧ w0.cell? ⟨a.1, a.2 + 1, none⟩ = some (.int .i64 (f a).n) ∧ w0.cell? ⟨a.1, a.2 + 2, none⟩ = some (.string (f a).s)) (hv : ∀ a ∈ rs, (f a).k = 4 → ∃ o, Reached O src o ∧ (f a).n = (o.addr : Int))
    (hQ : ∀ (s9 s21 s22 s23 s24 s25 s26 s27 s28 s29 : Value) (w' : World), RelLR w0 vs vt sb O src rs f rs.length w' → Q (.exit 0) ⟨#[u0, u1, u2, u3, u4, u5, u6, (.func (Fn.func 128) #[] #[.pointer (some ⟨vs, 0, none⟩), .pointer (some ⟨vt, 0, none⟩)]), u8, s9, Ja, Jb, Jc, Jd, Je, Jf, Jg, Jh, (.slice oa rs.length c), (.int .i64 (rs.length : Int)), (.int .i64 (rs.length : Int)), s21, s22, s23, s24, s25, s26, s27, s28, s29, Ju, Jv, Jw, Jx, Jy, Jz, Qa, Qb, Qc, Qd, Qe, Qf, Qg, Qh, Qi, Qj, Qk, Ql, Qm, Qn, Qo, Qp, Qq, Qr, Qs, Qt, Qu, Qv, Qw, Qx, Qy, Qz, Xe, Xg, Xh, Xi, Xj], []⟩ w') :
    Code.wp Tryd.prog (Cut.piece Tryd.f113 (Cut.loop 5)) Q ⟨#[u0, u1, u2, u3, u4, u5, u6, (.func (Fn.func 128) #[] #[.pointer (some ⟨vs, 0, none⟩), .pointer (some ⟨vt, 0, none⟩)]), u8, u9, Ja, Jb, Jc, Jd, Je, Jf, Jg, Jh, (.slice oa rs.length c), (.int .i64 (rs.length : Int)), (.int .i64 (0 : Int)), Jl, Jm, Jn, Jo, Jp, Jq, Jr, Js, Jt, Ju, Jv, Jw, Jx, Jy, Jz, Qa, Qb, Qc, Qd, Qe, Qf, Qg, Qh, Qi, Qj, Qk, Ql, Qm, Qn, Qo, Qp, Qq, Qr, Qs, Qt, Qu, Qv, Qw, Qx, Qy, Qz, Xe, Xg, Xh, Xi, Xj], []⟩ w := by
  conv => arg 2; whnf
  refine wp_loop (InvLR oa c w0 vs vt sb O src rs f u0 u1 u2 u3 u4 u5 u6 u8 Ja Jb Jc Jd Je Jf Jg Jh Ju Jv Jw Jx Jy Jz Qa Qb Qc Qd Qe Qf Qg Qh Qi Qj Qk Ql Qm Qn Qo Qp Qq Qr Qs Qt Qu Qv Qw Qx Qy Qz Xe Xg Xh Xi Xj) (muLR rs.length) ?_ (fun a' wr hI => ?_)
  · exact ⟨0, u9, Jl, Jm, Jn, Jo, Jp, Jq, Jr, Js, Jt, ⟨Nat.zero_le _, [], h0, fun a ha => by rw [List.take_zero] at ha; cases ha⟩, rfl⟩
  obtain ⟨i, s9, s21, s22, s23, s24, s25, s26, s27, s28, s29, hI⟩ := hI
  obtain ⟨⟨hi, S, hL, hs⟩, rfl⟩ := hI
  by_cases hil : i < rs.length
  · have hil' : decide ((i : Int) < (rs.length : Int)) = true := by simpa using hil
    have hil2 : (i : Int) < (rs.length : Int) := by omega
    have hi0 : (0 : Int) ≤ (i : Int) := by omega
    obtain ⟨a, hai⟩ : ∃ a, rs[i]? = some a := ⟨_, List.getElem?_eq_getElem hil⟩
    obtain ⟨rfl, hcr⟩ := hre i a hai
    have har := List.mem_of_getElem? hai
    obtain ⟨q0, q1, q2⟩ := hc a har
    have hb := hL.below
    have r1 : wr.cell? ⟨rb, ro + i, none⟩ = some (.pointer (some ⟨a.1, a.2, none⟩)) := (hb.cell (p := ⟨rb, ro + i, none⟩) (World.block_lt_of_cell? w0 _ hcr)).trans hcr
    have r2 : wr.cell? ⟨a.1, a.2, none⟩ = some (.int .i64 (f a).k) := (hb.cell (p := ⟨a.1, a.2, none⟩) (World.block_lt_of_cell? w0 _ q0)).trans q0
    have r3 : wr.cell? ⟨a.1, a.2 + 1, none⟩ = some (.int .i64 (f a).n) := (hb.cell (p := ⟨a.1, a.2 + 1, none⟩) (World.block_lt_of_cell? w0 _ q1)).trans q1
    have r4 : wr.cell? ⟨a.1, a.2 + 2, none⟩ = some (.string (f a).s) := (hb.cell (p := ⟨a.1, a.2 + 2, none⟩) (World.block_lt_of_cell? w0 _ q2)).trans q2
    have hcall := come_any hL hO hA ha (f a) (hv a har)
    have b3 : i + 1 ≤ big := by omega
    clear hre hc hv q0 q1 q2 hcr ha hb
    have c3 : IntKind.i64.wrap ((i : Int) + 1) = (i : Int) + 1 := wrapk_two i 1 b3
    have c6 : wrap64 ((i : Int) + 1) = (i : Int) + 1 := wrap_two i 1 b3
    have A1 := Lib.hid hs
    clear hs
    go_wp2_with fail
    refine hcall.mono ?_
    rintro e w2 ⟨rfl, K, hL2, hv2⟩
    clear hcall
    have hs2 : ∀ b ∈ rs.take (i + 1), (f b).k = 4 → ∃ x ∈ S ++ K, (f b).n = (x.addr : Int) := fun b hb hk => by
      rw [List.take_add_one, hai] at hb
      rcases List.mem_append.mp hb with hb | hb
      · obtain ⟨x, hx, e⟩ := A1.out b hb hk
        exact ⟨x, List.mem_append.mpr (Or.inl hx), e⟩
      · have : b = a := by simpa using hb
        subst this
        exact hv2 hk
    have A2 := Lib.hid hs2
    clear hs2 hv2
    go_wp2_with fail
    clear c3 c6
    refine ⟨⟨i + 1, _, _, _, _, _, _, _, _, _, _, ⟨by omega, S ++ K, hL2, A2.out⟩, rfl⟩, ?_⟩
    simp [muLR, intOf]
    omega
  · have hie : i = rs.length := by omega
    subst hie
    have hil' : decide ((rs.length : Int) < (rs.length : Int)) = false := by simp
    clear hre hc hv ha
    go_wp2
    exact ⟨Nat.le_refl _, S, hL, hs⟩


theorem raw_obj {w : World} {hb nb mb : Nat} {ov rv : Value} {B : Nat} {H : HS} {nu ol : List Ob} (_h : HR w hb nb mb ov rv B H) (hi : HI H nu ol) {o : Ob} (ho : o ∈ nu ++ ol) {j : Nat} {c : HCell} (hc : (o.cells 0)[j]? = some c) : H.raw ((o.addr : Int) + (j : Int)) = some c := by
  have hj : j < o.len := by
    have := (List.getElem?_eq_some_iff.1 hc).1
    rwa [Ob.length_cells] at this
  unfold HS.raw
  rw [if_neg (by omega)]
  rcases List.mem_append.mp ho with ho | ho
  · have h1 := laid_in hi.na ho
    have h2 := hi.fit
    have h3 := hi.top
    rw [if_pos (by omega), if_pos (by omega)]
    have h4 := laid_cells hi.na ho hc
    rw [← hi.nur, Nat.sub_zero, List.getElem?_take] at h4
    have e : ((o.addr : Int) + (j : Int)).toNat = o.addr + j := by omega
    rw [e]
    split at h4
    · exact h4
    · cases h4
  · have h1 := laid_in hi.oa ho
    rw [if_neg (by omega)]
    have h4 := laid_cells hi.oa ho hc
    rw [← hi.old] at h4
    rw [show ((o.addr : Int) + (j : Int) - (H.room : Int)).toNat = o.addr - H.room + j by omega]
    exact h4
theorem head_obj {w : World} {hb nb mb : Nat} {ov rv : Value} {B : Nat} {H : HS} {nu ol : List Ob} (h : HR w hb nb mb ov rv B H) (hi : HI H nu ol) {o : Ob} (ho : o ∈ nu ++ ol) : H.head (o.addr : Int) = some (o.head 0) := by
  have h1 := raw_obj h hi ho (j := 0) (c := o.head 0) rfl
  unfold HS.head
  rw [show (o.addr : Int) + ((0 : Nat) : Int) = (o.addr : Int) by omega] at h1
  rw [h1]
  show (if o.kind = 0 then none else some (o.head 0)) = _
  rw [if_neg (hi.kinds o ho)]
theorem HR.later {w w' : World} {hb nb mb : Nat} {ov rv : Value} {B : Nat} {H : HS} (h : HR w hb nb mb ov rv B H) (hb' : Below w.heap.size w w') : HR w' hb nb mb ov rv B H := h.below hb'

/-- What holds at each round over an object's fields. -/
def RelLF (w0 : World) (vs vt sb : Nat) (O : List Ob) (src : Nat → Prop) (S0 T0 : List Ob) (x : Ob) (i : Nat) (wr : World) : Prop :=
  i ≤ x.fs.length ∧ ∃ K, LiveI w0 vs vt sb O src (S0 ++ K) (T0 ++ K) wr ∧ ∀ v ∈ x.fs.take i, v.k = 4 → ∃ y ∈ S0 ++ K, v.n = (y.addr : Int)
def InvLF (hb : Nat) (w0 : World) (vs vt sb : Nat) (O : List Ob) (src : Nat → Prop) (S0 T0 : List Ob) (x : Ob) (u1 u2 u3 u4 u5 u6 u8 u9 Ja Jc Jg Jh Ji Jj Jk Jl Jm Jn Jo Jp Jq Jr Js Jt Ju Jv Jw Jx Jy Jz Qa Qb Qc Qd Qe Qf Qg Qh Qi Qj Qk Ql Qm Qn Qo Xj : Value) (a : Act) (wr : World) : Prop :=
  ∃ (i : Nat) (s13 s14 s15 s53 s54 s55 s56 s57 s58 s59 s60 s61 s62 s63 s64 s65 : Value), RelLF w0 vs vt sb O src S0 T0 x i wr ∧ a = ⟨#[(.pointer (some ⟨hb, 0, none⟩)), u1, u2, u3, u4, u5, u6, (.func (Fn.func 128) #[] #[.pointer (some ⟨vs, 0, none⟩), .pointer (some ⟨vt, 0, none⟩)]), u8, u9, Ja, (.int .i64 (x.addr : Int)), Jc, s13, s14, s15, Jg, Jh, Ji, Jj, Jk, Jl, Jm, Jn, Jo, Jp, Jq, Jr, Js, Jt, Ju, Jv, Jw, Jx, Jy, Jz, Qa, Qb, Qc, Qd, Qe, Qf, Qg, Qh, Qi, Qj, Qk, Ql, Qm, Qn, Qo, (.int .i64 (x.fs.length : Int)), (.int .i64 (i : Int)), s53, s54, s55, s56, s57, s58, s59, s60, s61, s62, s63, s64, s65, Xj], []⟩
def muLF (n : Nat) (a : Act) (_ : World) : Nat := n - (intOf (a.tmps.getD 52 undef)).toNat

theorem live_fields {Q : Exit → Act → World → Prop} {u1 u2 u3 u4 u5 u6 u8 u9 Ja Jc Jd Je Jf Jg Jh Ji Jj Jk Jl Jm Jn Jo Jp Jq Jr Js Jt Ju Jv Jw Jx Jy Jz Qa Qb Qc Qd Qe Qf Qg Qh Qi Qj Qk Ql Qm Qn Qo Qr Qs Qt Qu Qv Qw Qx Qy Qz Xe Xg Xh Xi Xj : Value} (w0 : World) (hb nb mb : Nat) (ov rv : Value) (B : Nat) (H : HS) (nu ol : List Ob) (vs vt sb : Nat) (src : Nat → Prop) (S0 T0 : List Ob) (x : Ob) (w : World)
    (h : HR w0 hb nb mb ov rv B H) (hi : HI H nu ol) (hx : x ∈ nu ++ ol) (hxr : Reached (nu ++ ol) src x) (h0 : LiveI w0 vs vt sb (nu ++ ol) src S0 T0 w) (hO : total (nu ++ ol) < big) (ha : ∀ o ∈ nu ++ ol, o.addr + o.len ≤ big)
    (hQ : ∀ (s13 s14 s15 s53 s54 s55 s56 s57 s58 s59 s60 s61 s62 s63 s64 s65 : Value) (w' : World), RelLF w0 vs vt sb (nu ++ ol) src S0 T0 x x.fs.length w' → Q (.exit 4) ⟨#[(.pointer (some ⟨hb, 0, none⟩)), u1, u2, u3, u4, u5, u6, (.func (Fn.func 128) #[] #[.pointer (some ⟨vs, 0, none⟩), .pointer (some ⟨vt, 0, none⟩)]), u8, u9, Ja, (.int .i64 (x.addr : Int)), Jc, s13, s14, s15, Jg, Jh, Ji, Jj, Jk, Jl, Jm, Jn, Jo, Jp, Jq, Jr, Js, Jt, Ju, Jv, Jw, Jx, Jy, Jz, Qa, Qb, Qc, Qd, Qe, Qf, Qg, Qh, Qi, Qj, Qk, Ql, Qm, Qn, Qo, (.int .i64 (x.fs.length : Int)), (.int .i64 (x.fs.length : Int)), s53, s54, s55, s56, s57, s58, s59, s60, s61, s62, s63, s64, s65, Xj], []⟩ w') :
    Code.wp Tryd.prog (Cut.piece Tryd.f113 (Cut.loop 16)) Q ⟨#[(.pointer (some ⟨hb, 0, none⟩)), u1, u2, u3, u4, u5, u6, (.func (Fn.func 128) #[] #[.pointer (some ⟨vs, 0, none⟩), .pointer (some ⟨vt, 0, none⟩)]), u8, u9, Ja, (.int .i64 (x.addr : Int)), Jc, Jd, Je, Jf, Jg, Jh, Ji, Jj, Jk, Jl, Jm, Jn, Jo, Jp, Jq, Jr, Js, Jt, Ju, Jv, Jw, Jx, Jy, Jz, Qa, Qb, Qc, Qd, Qe, Qf, Qg, Qh, Qi, Qj, Qk, Ql, Qm, Qn, Qo, (.int .i64 (x.fs.length : Int)), (.int .i64 (0 : Int)), Qr, Qs, Qt, Qu, Qv, Qw, Qx, Qy, Qz, Xe, Xg, Xh, Xi, Xj], []⟩ w := by
  conv => arg 2; whnf
  refine wp_loop (InvLF hb w0 vs vt sb (nu ++ ol) src S0 T0 x u1 u2 u3 u4 u5 u6 u8 u9 Ja Jc Jg Jh Ji Jj Jk Jl Jm Jn Jo Jp Jq Jr Js Jt Ju Jv Jw Jx Jy Jz Qa Qb Qc Qd Qe Qf Qg Qh Qi Qj Qk Ql Qm Qn Qo Xj) (muLF x.fs.length) ?_ (fun a' wr hI => ?_)
  · exact ⟨0, Jd, Je, Jf, Qr, Qs, Qt, Qu, Qv, Qw, Qx, Qy, Qz, Xe, Xg, Xh, Xi, ⟨Nat.zero_le _, [], by rw [List.append_nil, List.append_nil]; exact h0, fun v hv => by rw [List.take_zero] at hv; cases hv⟩, rfl⟩
  obtain ⟨i, s13, s14, s15, s53, s54, s55, s56, s57, s58, s59, s60, s61, s62, s63, s64, s65, hI⟩ := hI
  obtain ⟨⟨hi', K, hL, hs⟩, rfl⟩ := hI
  by_cases hil : i < x.fs.length
  · have hil' : decide ((i : Int) < (x.fs.length : Int)) = true := by simpa using hil
    have hil2 : (i : Int) < (x.fs.length : Int) := by omega
    have hi0 : (0 : Int) ≤ (i : Int) := by omega
    obtain ⟨v, hv⟩ : ∃ v, x.fs[i]? = some v := ⟨_, List.getElem?_eq_getElem hil⟩
    have hvm := List.mem_of_getElem? hv
    have hr := h.below hL.below
    have hxa := ha x hx
    have hcell : (x.cells 0)[1 + i]? = some v.cell := by
      rw [show 1 + i = i + 1 by omega]
      show (x.fs.map Vl.cell)[i]? = _
      rw [List.getElem?_map, hv]
      rfl
    have hraw := raw_obj hr hi hx hcell
    have e1 : (x.addr : Int) + ((1 + i : Nat) : Int) = (x.addr : Int) + 1 + (i : Int) := by omega
    rw [e1] at hraw
    have hlen : x.len = 1 + x.fs.length := rfl
    have hbig := big_lt
    have hget := get_ok hr (x.addr : Int) (i : Int) (by omega) (by omega) (x.head 0) v.cell (head_obj hr hi hx) hi0 hil2 hraw
    have hget' : Calls Tryd.prog 11 #[.pointer (some ⟨hb, 0, none⟩), .int .i64 (x.addr : Int), .int .i64 (i : Int)] wr fun e w' => e = .returned (.tuple #[.agg #[.int .i64 v.k, .int .i64 v.n, .string v.s], .nilIface]) ∧ Below wr.heap.size wr w' := hget
    have hval : v.k = 4 → ∃ o, Reached (nu ++ ol) src o ∧ v.n = (o.addr : Int) := fun hk => by
      obtain ⟨y, hy, e⟩ := hi.refs x hx v hvm hk
      exact ⟨y, .step hxr hvm hk e hy, e⟩
    have b3 : i + 1 ≤ big := by omega
    clear hget hraw e1 hcell hlen hbig
    have c3 : IntKind.i64.wrap ((i : Int) + 1) = (i : Int) + 1 := wrapk_two i 1 b3
    have c6 : wrap64 ((i : Int) + 1) = (i : Int) + 1 := wrap_two i 1 b3
    have A1 := Lib.hid hs
    have A3 := Lib.hid hval
    clear hs hval
    go_wp2_with fail
    refine hget'.mono ?_
    rintro e w2 ⟨rfl, hb2⟩
    clear hget'
    go_wp2_with fail
    have hL2 := (hL.same hb2).same ((Below.refl w2.heap.size w2).alloc (Nat.le_refl _) (.cells #[.int .i64 v.k, .int .i64 v.n, .string v.s] 28 (0, 0)))
    refine (come_any hL2 hO hi.apart (fun o ho => by have := ha o ho; omega) v A3.out).mono ?_
    rintro e w3 ⟨rfl, K3, hL3, hv3⟩
    have hs3 : ∀ b ∈ x.fs.take (i + 1), b.k = 4 → ∃ y ∈ S0 ++ (K ++ K3), b.n = (y.addr : Int) := fun b hb hk => by
      rw [← List.append_assoc]
      rw [List.take_add_one, hv] at hb
      rcases List.mem_append.mp hb with hb | hb
      · obtain ⟨y, hy, e⟩ := A1.out b hb hk
        exact ⟨y, List.mem_append.mpr (Or.inl hy), e⟩
      · have : b = v := by simpa using hb
        subst this
        exact hv3 hk
    have A2 := Lib.hid hs3
    clear hs3 hv3
    rw [List.append_assoc, List.append_assoc] at hL3
    go_wp2_with fail
    clear c3 c6
    refine ⟨⟨i + 1, _, _, _, _, _, _, _, _, _, _, _, _, _, _, _, _, ⟨by omega, K ++ K3, hL3, A2.out⟩, rfl⟩, ?_⟩
    simp [muLF, intOf]
    omega
  · have hie : i = x.fs.length := by omega
    subst hie
    have hil' : decide ((x.fs.length : Int) < (x.fs.length : Int)) = false := by simp
    go_wp2
    exact ⟨Nat.le_refl _, K, hL, hs⟩

end Go.Proofs.YthbkklnahhdgcaaDoor.ChW

namespace Go.Proofs.YthbkklnahhdgcaaDoor.HeapG
open Go Go.RowKit Go.Maps Go.Proofs.YthbkklnahhdgcaaDoor.Lib HeapR HeapC HeapF

variable {w : World} {hb nb mb : Nat} {ov rv : Value} {B : Nat} {H : HS}

end Go.Proofs.YthbkklnahhdgcaaDoor.HeapG
namespace Go.Proofs.YthbkklnahhdgcaaDoor.HeapR
open Go Go.RowKit Go.Maps Go.Proofs.YthbkklnahhdgcaaDoor.Lib HeapR HeapC HeapF

open Go.Proofs.YthbkklnahhdgcaaDoor.HeapG
variable {w : World} {hb nb mb : Nat} {ov rv : Value} {B : Nat} {H : HS}

/-- The heap behind Alloc. -/
def HS.alloc (H : HS) (kind tag : Int) (s : Nat) : HS :=
  { H with
    nur := zeros (H.nur.set H.top ⟨kind, tag, if kind = 4 then 0 else H.next + 1, s, 0, 0, ⟨#[]⟩, 0⟩) (H.top + 1) s
    top := H.top + 1 + s
    next := if kind = 4 then H.next else H.next + 1
    wh := if kind = 4 then H.wh else H.wh.put (.int .i64 ((H.next : Int) + 1)) (.lit (.int .i64 H.top)) }

end Go.Proofs.YthbkklnahhdgcaaDoor.HeapR
namespace Go.Proofs.YthbkklnahhdgcaaDoor.HeapG
open Go Go.RowKit Go.Maps Go.Proofs.YthbkklnahhdgcaaDoor.Lib HeapR HeapC HeapF

variable {w : World} {hb nb mb : Nat} {ov rv : Value} {B : Nat} {H : HS}

theorem alloc_id (h : HR w hb nb mb ov rv B H) (kind tag : Int) (s : Nat) (h1 : 1 ≤ kind) (h2 : kind ≤ 4) (h4 : s ≤ 1000) (hf : H.top + 1 + s ≤ H.room) (hk : kind ≠ 4) (hx : (H.next : Int) < 4611686018427387904) :
    Calls Tryd.prog 13 #[.pointer (some ⟨hb, 0, none⟩), .int .i64 kind, .int .i64 tag, .int .i64 (s : Int)] w fun e w' => e = .returned (.tuple #[.int .i64 H.top, .nilIface]) ∧
      HR w' hb nb mb ov rv B (H.alloc kind tag s) ∧ Turned (fun k => k = hb ∨ k = nb ∨ k = mb) w w' := by
  have hr := h.rr
  have hlen := h.len
  have c0 := h.c0
  have c2 := h.c2
  have c3 := h.c3
  have c6 := h.c6
  have c7 := h.c7
  have f2 := h.fz 2
  have f7 := h.fz 7
  have hn := h.hn
  have hm := h.hm
  have nm := h.nm
  have hown := h.map
  have hblk := h.blk
  have hnur := h.nur
  obtain ⟨nur, old, top, room, cap, most, rem, wh, next, minors, majors⟩ := H
  simp only at *
  have g1 : decide (kind < 1) = false := by simpa using h1
  have g2 : decide (4 < kind) = false := by simpa using h2
  have g3 : decide ((s : Int) < 0) = false := by simp
  have g4 : decide (1000 < (s : Int)) = false := by simp; omega
  have g5 : decide ((room : Int) < top + 1 + s) = false := by simp; omega
  have hf' : (top : Int) + 1 + s ≤ room := by omega
  have g6 : (kind != 4) = true := by simpa using hk
  skip
  go_enter Tryd.func13, Tryd.ntmps13
  go_wp2_with fail
  go_quiet (fail)
  go_wp2_with (at_mapUpdate; refine wpList_mapUpdate_own _ rfl _ _ _ 96 rfl 3 3 (int_keyed Tryd.underlying3) Tryd.underlying96 _ mb next wh rfl (ownsMap_same hown ?q1) ?q2 _ _ (.int .i64 ((next : Int) + 1)) rfl rfl (keyOf_int_mk Tryd.underlying3 ?q3) _ [] (plainElem_int Tryd.underlying3 ?q4) ?q5)
  case q1 => rw [blk_ne (by simpa using hm.symm), blk_ne (by simpa using hm.symm)]; rfl
  case q2 => unfold maxLen; omega
  case q3 => exact WalkArith.wf_i64 (by omega)
  case q4 => exact WalkArith.wf_i64 (by omega)
  case q5 =>
  intro w2 hown2 hgrow2
  have hW : (((w.drewN nq).setCell ⟨hb, 2, none⟩ (.int .i64 ((top : Int) + (1 + (s : Int))))).setCell ⟨hb, 7, none⟩ (.int .i64 ((next : Int) + 1))).heap[hb]? = some (.cells (hblock nb mb ov rv { nur := nur, old := old, top := top + 1 + s, room := room, cap := cap, most := most, rem := rem, wh := wh, next := next + 1, minors := minors, majors := majors }) 98 (0, 0)) := by
    rw [blk_set (blk_set (show (w.drewN nq).heap[hb]? = _ from hblk) _) _]
    simp [hblock]
    omega
  have hN : (((w.drewN nq).setCell ⟨hb, 2, none⟩ (.int .i64 ((top : Int) + (1 + (s : Int))))).setCell ⟨hb, 7, none⟩ (.int .i64 ((next : Int) + 1))).heap[nb]? = some (.cells (hcells nur) 105 (0, 0)) := by
    rw [blk_ne (by simpa using hn.symm), blk_ne (by simpa using hn.symm)]
    exact hnur
  have hT : Turned (fun k => k = hb ∨ k = nb ∨ k = mb) w w2 := by
    refine Turned.grown ?_ hgrow2 (fun k hk => .inl (.inr (.inr (Option.some.inj hk).symm)))
    exact (((Turned.refl _ w).drewN nq).setCell (.inl (.inl rfl)) _).setCell (.inl (.inl rfl)) _
  have hH2 := grown_some hgrow2 (by simpa using hm) hW
  have hN2 := grown_some hgrow2 (by simpa using nm) hN
  clear hW hN hgrow2 hnur hblk hown c0 c2 c3 c6 c7 f2 f7
  have C0 : w2.cell? ⟨hb, 0, none⟩ = some (.slice (some ⟨nb, 0, none⟩) room cap) := cell_of_block hH2 rfl
  obtain ⟨v0, v1, v2, v3, v4, v5, v6, v7, k0, k1, k2, k3, k4, k5, k6, k7⟩ := cells8 hN2 top (by omega)
  have F : ∀ i, w2.frozen? ⟨nb, i, none⟩ = false := fun i => frozen_of_block hN2
  have htr : (top : Int) < (room : Int) := by omega
  go_wp2_with fail
  clear k0 k1 k2 k3 k4 k5 k6 k7 C0
  go_loopw [88] (fun i wr => ∃ k : Nat, k ≤ s ∧ i = .int .i64 k ∧ wr.heap[nb]? = some (.cells (hcells (zeros (nur.set top ⟨kind, tag, (next : Int) + 1, s, 0, 0, ⟨#[]⟩, 0⟩) (top + 1) k)) 105 (0, 0)) ∧ Only nb w2 wr) (fun i _ => s - (intOf i).toNat)
  case atStart => exact ⟨0, Nat.zero_le _, rfl, store8 hN2 (by omega) ⟨kind, tag, (next : Int) + 1, s, 0, 0, ⟨#[]⟩, 0⟩, only8 _ _ _ _ _ _ _ _⟩
  case round =>
    obtain ⟨k, hk', rfl, hNr, hOr⟩ := hrel
    have C0r : wr.cell? ⟨hb, 0, none⟩ = some (.slice (some ⟨nb, 0, none⟩) room cap) := by
      rw [World.cell?_of_block (w := w2) (hOr.block hb hn)]; exact cell_of_block hH2 rfl
    by_cases hlt : k < s
    · obtain ⟨v0, v1, v2, v3, v4, v5, v6, v7, k0, k1, k2, k3, k4, k5, k6, k7⟩ := cells8 hNr (top + 1 + k) (by rw [length_zeros, List.length_set]; omega)
      have Fr : ∀ i, wr.frozen? ⟨nb, i, none⟩ = false := fun i => frozen_of_block hNr
      have hin : (top : Int) + 1 + k < (room : Int) := by omega
      go_wp2
      go_roundw
      case rel => exact ⟨k + 1, by omega, by go_num, store8 hNr (by rw [length_zeros, List.length_set]; omega) ⟨0, 0, 0, 0, 0, 0, ⟨#[]⟩, 0⟩, hOr.trans (only8 _ _ _ _ _ _ _ _)⟩
      case measure => simp [intOf]; omega
    · go_wp2
      go_ret2
      obtain rfl : k = s := by omega
      refine ⟨rfl, ?_, ?_⟩
      · have e : HS.alloc { nur := nur, old := old, top := top, room := room, cap := cap, most := most, rem := rem, wh := wh, next := next, minors := minors, majors := majors } kind tag k = { nur := zeros (nur.set top ⟨kind, tag, (next : Int) + 1, k, 0, 0, ⟨#[]⟩, 0⟩) (top + 1) k, old := old, top := top + 1 + k, room := room, cap := cap, most := most, rem := rem, wh := wh.put (.int .i64 ((next : Int) + 1)) (.lit (.int .i64 top)), next := next + 1, minors := minors, majors := majors } := by
          simp only [HS.alloc, if_neg hk]
        rw [e]
        have hsame : ∀ j, (ov.ownBlock = some j ∨ rv.ownBlock = some j) → wr.heap[j]? = w.heap[j]? := fun j hj => by
          have hjb : j ≠ hb := by rintro rfl; rcases hj with hj | hj; exact h.oh hj; exact h.rh hj
          have hjn : j ≠ nb := by rintro rfl; rcases hj with hj | hj; exact h.on hj; exact h.rn hj
          have hjm : j ≠ mb := by rintro rfl; rcases hj with hj | hj; exact h.om' hj; exact h.rm hj
          have hjl : j < w.heap.size := by rcases hj with hj | hj; exact (h.old.lt j hj).2; exact (h.rem.lt j hj).2
          exact (hOr.block j hjn).trans (hT.block j hjl (by rintro (h1 | h1 | h1); exact hjb h1; exact hjn h1; exact hjm h1))
        exact {
          blk := (hOr.block hb hn).trans hH2
          nur := hNr
          len := by simp only [length_zeros, List.length_set]; exact hlen
          old := ownsRow_same h.old fun j hj => hsame j (.inl hj)
          rem := ownsRow_same h.rem fun j hj => hsame j (.inr hj)
          map := ownsMap_same hown2 (hOr.block mb nm.symm)
          hn := hn
          oh := h.oh
          on := h.on
          rh := h.rh
          rn := h.rn
          ro := h.ro
          lo := h.lo
          tr := hf
          rr := h.rr
          mm := h.mm
          om := h.om }
      · exact hT.trans ⟨hOr.os, hOr.tape, hOr.output, by rw [hOr.size]; exact Nat.le_refl _, fun j _ hj => hOr.block j (fun e => hj (.inr (.inl e)))⟩

theorem alloc_box (h : HR w hb nb mb ov rv B H) (kind tag : Int) (s : Nat) (h1 : 1 ≤ kind) (h2 : kind ≤ 4) (h4 : s ≤ 1000) (hf : H.top + 1 + s ≤ H.room) (hk : kind = 4) (hx : (H.next : Int) < 4611686018427387904) :
    Calls Tryd.prog 13 #[.pointer (some ⟨hb, 0, none⟩), .int .i64 kind, .int .i64 tag, .int .i64 (s : Int)] w fun e w' => e = .returned (.tuple #[.int .i64 H.top, .nilIface]) ∧
      HR w' hb nb mb ov rv B (H.alloc kind tag s) ∧ Turned (fun k => k = hb ∨ k = nb ∨ k = mb) w w' := by
  subst hk
  have hr := h.rr
  have hlen := h.len
  have c0 := h.c0
  have c2 := h.c2
  have c3 := h.c3
  have c6 := h.c6
  have c7 := h.c7
  have f2 := h.fz 2
  have f7 := h.fz 7
  have hn := h.hn
  have hm := h.hm
  have nm := h.nm
  have hown := h.map
  have hblk := h.blk
  have hnur := h.nur
  obtain ⟨nur, old, top, room, cap, most, rem, wh, next, minors, majors⟩ := H
  simp only at *
  have g3 : decide ((s : Int) < 0) = false := by simp
  have g4 : decide (1000 < (s : Int)) = false := by simp; omega
  have g5 : decide ((room : Int) < top + 1 + s) = false := by simp; omega
  have hf' : (top : Int) + 1 + s ≤ room := by omega
  skip
  go_enter Tryd.func13, Tryd.ntmps13
  go_wp2_with fail
  go_quiet (fail)
  obtain ⟨w2, hw2⟩ : ∃ w2 : World, w2 = ((w.drewN nq).setCell ⟨hb, 2, none⟩ (.int .i64 ((top : Int) + (1 + (s : Int))))) := ⟨_, rfl⟩
  have hH2 : w2.heap[hb]? = some (.cells (hblock nb mb ov rv { nur := nur, old := old, top := top + 1 + s, room := room, cap := cap, most := most, rem := rem, wh := wh, next := next, minors := minors, majors := majors }) 98 (0, 0)) := by
    rw [hw2, blk_set (show (w.drewN nq).heap[hb]? = _ from hblk) _]
    simp [hblock]
    omega
  have hN2 : w2.heap[nb]? = some (.cells (hcells nur) 105 (0, 0)) := by
    rw [hw2, blk_ne (by simpa using hn.symm)]
    exact hnur
  have hown2 : w2.ownsMap Tryd.prog 3 (plainElem Tryd.prog 3) mb next wh := ownsMap_same hown (by rw [hw2, blk_ne (by simpa using hm.symm)]; rfl)
  have hT : Turned (fun k => k = hb ∨ k = nb ∨ k = mb) w w2 := by
    rw [hw2]
    exact ((Turned.refl _ w).drewN nq).setCell (.inl (.inl rfl)) _
  go_upto_region 12 with (fail)
  rw [← hw2]
  clear hw2 hnur hblk hown c0 c2 c3 c6 c7 f2 f7
  have C0 : w2.cell? ⟨hb, 0, none⟩ = some (.slice (some ⟨nb, 0, none⟩) room cap) := cell_of_block hH2 rfl
  obtain ⟨v0, v1, v2, v3, v4, v5, v6, v7, k0, k1, k2, k3, k4, k5, k6, k7⟩ := cells8 hN2 top (by omega)
  have F : ∀ i, w2.frozen? ⟨nb, i, none⟩ = false := fun i => frozen_of_block hN2
  have htr : (top : Int) < (room : Int) := by omega
  go_wp2_with fail
  clear k0 k1 k2 k3 k4 k5 k6 k7 C0
  go_loopw [88] (fun i wr => ∃ k : Nat, k ≤ s ∧ i = .int .i64 k ∧ wr.heap[nb]? = some (.cells (hcells (zeros (nur.set top ⟨4, tag, 0, s, 0, 0, ⟨#[]⟩, 0⟩) (top + 1) k)) 105 (0, 0)) ∧ Only nb w2 wr) (fun i _ => s - (intOf i).toNat)
  case atStart => exact ⟨0, Nat.zero_le _, rfl, store8 hN2 (by omega) ⟨4, tag, 0, s, 0, 0, ⟨#[]⟩, 0⟩, only8 _ _ _ _ _ _ _ _⟩
  case round =>
    obtain ⟨k, hk', rfl, hNr, hOr⟩ := hrel
    have C0r : wr.cell? ⟨hb, 0, none⟩ = some (.slice (some ⟨nb, 0, none⟩) room cap) := by
      rw [World.cell?_of_block (w := w2) (hOr.block hb hn)]; exact cell_of_block hH2 rfl
    by_cases hlt : k < s
    · obtain ⟨v0, v1, v2, v3, v4, v5, v6, v7, k0, k1, k2, k3, k4, k5, k6, k7⟩ := cells8 hNr (top + 1 + k) (by rw [length_zeros, List.length_set]; omega)
      have Fr : ∀ i, wr.frozen? ⟨nb, i, none⟩ = false := fun i => frozen_of_block hNr
      have hin : (top : Int) + 1 + k < (room : Int) := by omega
      go_wp2
      go_roundw
      case rel => exact ⟨k + 1, by omega, by go_num, store8 hNr (by rw [length_zeros, List.length_set]; omega) ⟨0, 0, 0, 0, 0, 0, ⟨#[]⟩, 0⟩, hOr.trans (only8 _ _ _ _ _ _ _ _)⟩
      case measure => simp [intOf]; omega
    · go_wp2
      go_ret2
      obtain rfl : k = s := by omega
      refine ⟨rfl, ?_, ?_⟩
      · have e : HS.alloc { nur := nur, old := old, top := top, room := room, cap := cap, most := most, rem := rem, wh := wh, next := next, minors := minors, majors := majors } 4 tag k = { nur := zeros (nur.set top ⟨4, tag, 0, k, 0, 0, ⟨#[]⟩, 0⟩) (top + 1) k, old := old, top := top + 1 + k, room := room, cap := cap, most := most, rem := rem, wh := wh, next := next, minors := minors, majors := majors } := by
          rfl
        rw [e]
        have hsame : ∀ j, (ov.ownBlock = some j ∨ rv.ownBlock = some j) → wr.heap[j]? = w.heap[j]? := fun j hj => by
          have hjb : j ≠ hb := by rintro rfl; rcases hj with hj | hj; exact h.oh hj; exact h.rh hj
          have hjn : j ≠ nb := by rintro rfl; rcases hj with hj | hj; exact h.on hj; exact h.rn hj
          have hjm : j ≠ mb := by rintro rfl; rcases hj with hj | hj; exact h.om' hj; exact h.rm hj
          have hjl : j < w.heap.size := by rcases hj with hj | hj; exact (h.old.lt j hj).2; exact (h.rem.lt j hj).2
          exact (hOr.block j hjn).trans (hT.block j hjl (by rintro (h1 | h1 | h1); exact hjb h1; exact hjn h1; exact hjm h1))
        exact {
          blk := (hOr.block hb hn).trans hH2
          nur := hNr
          len := by simp only [length_zeros, List.length_set]; exact hlen
          old := ownsRow_same h.old fun j hj => hsame j (.inl hj)
          rem := ownsRow_same h.rem fun j hj => hsame j (.inr hj)
          map := ownsMap_same hown2 (hOr.block mb nm.symm)
          hn := hn
          oh := h.oh
          on := h.on
          rh := h.rh
          rn := h.rn
          ro := h.ro
          lo := h.lo
          tr := hf
          rr := h.rr
          mm := h.mm
          om := h.om }
      · exact hT.trans ⟨hOr.os, hOr.tape, hOr.output, by rw [hOr.size]; exact Nat.le_refl _, fun j _ hj => hOr.block j (fun e => hj (.inr (.inl e)))⟩
end Go.Proofs.YthbkklnahhdgcaaDoor.HeapG
