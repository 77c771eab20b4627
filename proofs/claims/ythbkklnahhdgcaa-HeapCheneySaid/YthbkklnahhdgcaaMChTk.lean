/-
  HeapCheney's collections: what holds behind each.
-/
import Derived.Test.YthbkklnahhdgcaaMChTj
namespace Go.Proofs.Ythbkklnahhdgcaa.ChTk
open Go Go.Proofs Go.RowKit Go.Maps Go.Proofs.Ythbkklnahhdgcaa.Lib Go.Proofs.Ythbkklnahhdgcaa.HeapR Go.Proofs.Ythbkklnahhdgcaa.HeapB Go.Proofs.Ythbkklnahhdgcaa.HeapC Go.Proofs.Ythbkklnahhdgcaa.HeapD Go.Proofs.Ythbkklnahhdgcaa.ChA Go.Proofs.Ythbkklnahhdgcaa.ChT Go.Proofs.Ythbkklnahhdgcaa.ChCa Go.Proofs.Ythbkklnahhdgcaa.ChCc Go.Proofs.Ythbkklnahhdgcaa.ChE Go.Proofs.Ythbkklnahhdgcaa.ChH Go.Proofs.Ythbkklnahhdgcaa.ChJ Go.Proofs.Ythbkklnahhdgcaa.ChL Go.Proofs.Ythbkklnahhdgcaa.ChM Go.Proofs.Ythbkklnahhdgcaa.ChN Go.Proofs.Ythbkklnahhdgcaa.ChO Go.Proofs.Ythbkklnahhdgcaa.ChQ Go.Proofs.Ythbkklnahhdgcaa.ChR Go.Proofs.Ythbkklnahhdgcaa.ChU Go.Proofs.Ythbkklnahhdgcaa.ChV Go.Proofs.Ythbkklnahhdgcaa.ChW Go.Proofs.Ythbkklnahhdgcaa.ChX Go.Proofs.Ythbkklnahhdgcaa.ChYf Go.Proofs.Ythbkklnahhdgcaa.ChZ Go.Proofs.Ythbkklnahhdgcaa.ChTe Go.Proofs.Ythbkklnahhdgcaa.ChTg Go.Proofs.Ythbkklnahhdgcaa.ChTh Go.Proofs.Ythbkklnahhdgcaa.ChTi Go.Proofs.Ythbkklnahhdgcaa.ChTja Go.Proofs.Ythbkklnahhdgcaa.ChTj

/-- The root's value. -/
def refV (x : Ob) : Vl := ⟨4, (x.addr : Int), ByteArray.empty⟩
/-- What holds ahead of each round of collections. -/
structure Col (w : World) (hb nb mb : Nat) (ov rv : Value) (B : Nat) (H : HS) (nu ol : List Ob) (rb : Nat) (x : Ob) (F : Nat) (was S : List Int) (i : Nat) : Prop where
  hr : HR w hb nb mb ov rv B H
  hi : HI H nu ol
  room : H.room = 400
  most : H.most = 2000
  next : H.next ≤ 30
  mins : H.minors ≤ i
  majs : H.majors ≤ i
  rem : H.rem = []
  tot : total nu + total ol ≤ 240
  ids : ∀ o ∈ nu ++ ol, o.id ≠ 0
  xin : x ∈ nu ++ ol
  root : w.cell? ⟨rb, 0, none⟩ = some (.int .i64 4) ∧ w.cell? ⟨rb, 1, none⟩ = some (.int .i64 (x.addr : Int)) ∧ w.cell? ⟨rb, 2, none⟩ = some (.string ByteArray.empty) ∧ w.frozen? ⟨rb, 1, none⟩ = false ∧ ∃ c t, w.heap[rb]? = some (.cells c t (0, 0))
  out : ¬ Owns hb nb mb ov rv rb
  shp : shp (nu ++ ol) F (refV x) [] = some (was, S)
variable {w : World} {hb nb mb : Nat} {ov rv : Value} {B : Nat} {H : HS} {nu ol : List Ob} {rb : Nat} {x : Ob} {F : Nat} {was S : List Int} {i : Nat}

theorem Col.roots (h : Col w hb nb mb ov rv B H nu ol rb x F was S i) {rs : List (Nat × Nat)} (hrs : ∀ a ∈ rs, a = (rb, 0)) (hl : rs.length ≤ 2) {vb c : Nat} (hv : ∀ j, j < rs.length → w.cell? ⟨vb, j, none⟩ = some (.pointer (some ⟨rb, 0, none⟩))) (hvo : ¬ Owns hb nb mb ov rv vb) (hvr : rb ≠ vb) :
    RootsAt w (Owns hb nb mb ov rv) (.slice (some ⟨vb, 0, none⟩) rs.length c) rs (fun _ => refV x) := {
  cell := fun a ha => by
    rw [hrs a ha]
    exact ⟨h.root.1, h.root.2.1, h.root.2.2.1, h.root.2.2.2.1⟩
  out := fun a ha => by
    rw [hrs a ha]
    exact h.out
  blk := fun a ha => by
    rw [hrs a ha]
    exact h.root.2.2.2.2
  apart := fun a ha b hb => .inl ((hrs a ha).trans (hrs b hb).symm)
  len := by unfold big; omega
  list := ⟨some ⟨vb, 0, none⟩, vb, 0, c, rfl, fun j a ha => by
    have hj := (List.getElem?_eq_some_iff.1 ha).1
    rw [hrs a (List.mem_of_getElem? ha), Nat.zero_add]
    exact ⟨rfl, hv j hj, hvo, fun b hb => by rw [hrs b hb]; exact hvr⟩⟩ }

theorem mvV_eq (from_ : Int → Bool) (L : List Ob) (z : Nat) (v : Vl) : mvV from_ L z v = { v with n := (mvV from_ L z v).n } := by
  unfold mvV
  split <;> rfl

theorem minor_col (h : Col w hb nb mb ov rv B H nu ol rb x F was S i) (hi12 : i ≤ 100) {vb c : Nat} (hv : w.cell? ⟨vb, 0, none⟩ = some (.pointer (some ⟨rb, 0, none⟩))) (hvo : ¬ Owns hb nb mb ov rv vb) (hvr : rb ≠ vb) :
    Calls Try.prog 11 #[.pointer (some ⟨hb, 0, none⟩), .slice (some ⟨vb, 0, none⟩) 1 c] w fun e w' => e = .returned .nilIface ∧ ∃ tv H' ol' x', Col w' hb nb mb tv (.slice none 0 0) B H' [] ol' rb x' F was S (i + 1) ∧
      Turned (fun k => Owns hb nb mb ov rv k ∨ k = rb) w w' ∧ (∀ k, Owns hb nb mb tv (.slice none 0 0) k → Owns hb nb mb ov rv k ∨ w.heap.size ≤ k) := by
  have hv' : ∀ j, j < [(rb, 0)].length → w.cell? ⟨vb, j, none⟩ = some (.pointer (some ⟨rb, 0, none⟩)) := fun j hj => by
    have h0 : j = 0 := Nat.lt_one_iff.1 hj
    rw [h0]
    exact hv
  have hR := h.roots (rs := [(rb, 0)]) (c := c) (fun a ha => List.mem_singleton.1 ha) (Nat.le_succ 1) hv' hvo hvr
  have hb4 : big = 4000000 := rfl
  refine (minor_ok h.hr h.hi hR (fun a _ _ => ⟨x, h.xin, rfl⟩) (by rw [h.most]; have := h.tot; omega) (by have := h.next; omega) (by rw [h.rem]; exact Nat.zero_le _) (by have := h.mins; omega)).mono ?_
  rintro e w' ⟨rfl, tv, H', L, M⟩
  have hK := M.kept
  have hx : x ∈ ol ++ L := by
    by_cases hf : minFrom H (x.addr : Int) = true
    · have h1 := M.roots (rb, 0) (List.mem_singleton.2 rfl) rfl hf
      exact List.mem_append.2 (.inr (hK.of_has h.xin h1))
    · exact List.mem_append.2 (.inl (hK.rest x h.xin (by simpa using hf)))
  have hLn : ∀ o ∈ L, o ∈ nu := fun o ho => by
    rcases List.mem_append.1 (hK.inO o ho) with h1 | h1
    · exact h1
    · have h2 := hK.fL o ho
      rw [hK.fK o h1] at h2
      cases h2
  have hlead := hK.leads (v := refV x) rfl ⟨x, h.xin, rfl⟩ (fun hf => M.roots (rb, 0) (List.mem_singleton.2 rfl) rfl hf)
  have hmv : mvV (minFrom H) L (H.room + total ol) (refV x) = refV (mvO (minFrom H) L (H.room + total ol) x) := by
    obtain ⟨y, hy, e1, e2⟩ := hlead
    have hyx : y = x := h.hi.apart y (hK.mem hy) x h.xin (by have e3 : (x.addr : Int) = (y.addr : Int) := e1; omega)
    subst hyx
    rw [mvV_eq, e2]
    rfl
  refine ⟨rfl, tv, H', (ol ++ L).map (mvO (minFrom H) L (H.room + total ol)), mvO (minFrom H) L (H.room + total ol) x, {
    hr := M.hr
    hi := M.hi
    room := M.room.trans h.room
    most := M.most.trans h.most
    next := by rw [M.next]; exact h.next
    mins := by rw [M.minors]; have := h.mins; omega
    majs := by rw [M.majors]; have := h.majs; omega
    rem := by
      have h1 := M.hr.rem
      rcases h1.2 with ⟨_, h2⟩ | ⟨g, cap, cur, h2, _⟩
      · exact List.length_eq_zero_iff.1 h2
      · cases h2
    tot := by
      rw [total_mv, total_append]
      have h1 := total_le hK.nd hLn
      have h2 := h.tot
      show 0 + _ ≤ _
      omega
    ids := fun o ho => by
      obtain ⟨y, hy, rfl⟩ := List.mem_map.1 (show o ∈ (ol ++ L).map (mvO (minFrom H) L (H.room + total ol)) from ho)
      exact h.ids y (hK.mem hy)
    xin := List.mem_append.2 (.inr (List.mem_map.2 ⟨x, hx, rfl⟩))
    root := by
      have h1 := M.cells (rb, 0) (List.mem_singleton.2 rfl)
      rw [hmv] at h1
      exact h1
    out := fun ho => by
      rcases ho with ho | ho | ho | ho | ho
      · exact h.out (.inl ho)
      · exact h.out (.inr (.inl ho))
      · exact h.out (.inr (.inr (.inl ho)))
      · rcases M.own rb ho with h1 | h1
        · exact h.out (.inr (.inr (.inr (.inl h1))))
        · have := World.block_lt_of_cell? w _ h.root.1
          have h3 : rb < w.heap.size := this
          omega
      · cases ho
    shp := by
      rw [← hmv]
      exact (kept_shape hK M.hi F (refV x) [] (fun _ => ⟨x, hx, rfl⟩)).trans h.shp }, M.turned.mono (fun k hk => hk.imp id (fun ⟨a, ha, e⟩ => by rw [List.mem_singleton.1 ha] at e; exact e.symm)), fun k ho => by
      rcases ho with ho | ho | ho | ho | ho
      · exact .inl (.inl ho)
      · exact .inl (.inr (.inl ho))
      · exact .inl (.inr (.inr (.inl ho)))
      · exact (M.own k ho).imp (fun h1 => .inr (.inr (.inr (.inl h1)))) id
      · cases ho⟩

theorem reached_mem {O : List Ob} {src : Nat → Prop} {o : Ob} (h : Reached O src o) : o ∈ O := by
  cases h with
  | src ho _ => exact ho
  | step _ _ _ _ ho => exact ho

theorem major_col (h : Col w hb nb mb ov rv B H nu ol rb x F was S i) (hi12 : i ≤ 100) {vb c : Nat} (hv0 : w.cell? ⟨vb, 0, none⟩ = some (.pointer (some ⟨rb, 0, none⟩))) (hv1 : w.cell? ⟨vb, 1, none⟩ = some (.pointer (some ⟨rb, 0, none⟩))) (hvo : ¬ Owns hb nb mb ov rv vb) (hvr : rb ≠ vb) :
    Calls Try.prog 12 #[.pointer (some ⟨hb, 0, none⟩), .slice (some ⟨vb, 0, none⟩) 2 c] w fun e w' => e = .returned .nilIface ∧ ∃ mb' tv H' ol' x', Col w' hb nb mb' tv (.slice none 0 0) B H' [] ol' rb x' F was S (i + 1) ∧
      Turned (fun k => Owns hb nb mb ov rv k ∨ k = rb) w w' ∧ (∀ k, Owns hb nb mb' tv (.slice none 0 0) k → Owns hb nb mb ov rv k ∨ w.heap.size ≤ k) ∧
      (∃ id, Maps.has H'.wh (.int .i64 id) = true) ∧ (∀ xs : List Int, xs.Nodup → (∀ id, id ∈ xs ↔ Maps.has H'.wh (.int .i64 id) = true) → xs.length = S.length) := by
  have hv' : ∀ j, j < [(rb, 0), (rb, 0)].length → w.cell? ⟨vb, j, none⟩ = some (.pointer (some ⟨rb, 0, none⟩)) := fun j hj => by
    have hj2 : j < 2 := hj
    rcases Nat.lt_or_ge j 1 with h1 | h1
    · rw [Nat.lt_one_iff.1 h1]
      exact hv0
    · rw [show j = 1 by omega]
      exact hv1
  have hrs : ∀ a ∈ [(rb, 0), (rb, 0)], a = (rb, 0) := fun a ha => by
    simp only [List.mem_cons, List.not_mem_nil, or_false, or_self] at ha
    exact ha
  have hm0 : (rb, 0) ∈ [(rb, 0), (rb, 0)] := List.mem_cons_self ..
  have hR := h.roots (rs := [(rb, 0), (rb, 0)]) (c := c) hrs (Nat.le_refl 2) hv' hvo hvr
  have hb4 : big = 4000000 := rfl
  refine (major_any h.hr h.hi hR (fun a _ _ => ⟨x, h.xin, rfl⟩) (by have := h.next; omega) (by have := h.majs; omega)).mono ?_
  rintro e w' ⟨S', hSn, hSm, hcase⟩
  have htS : total S' ≤ total (nu ++ ol) := total_le hSn (fun o ho => reached_mem ((hSm o).1 ho))
  rcases hcase with ⟨hbad, _, _⟩ | ⟨_, rfl, mb', tv, H', L, M⟩
  · exfalso
    have h1 := h.tot
    rw [h.most] at hbad
    rw [total_append] at htS
    omega
  have hK := M.kept
  have hfr : ∀ n, majFrom n = true := fun _ => rfl
  have hLx : x ∈ L := hK.of_has h.xin (M.roots (rb, 0) hm0 rfl)
  have hx : x ∈ [] ++ L := hLx
  have hlead := hK.leads (v := refV x) rfl ⟨x, h.xin, rfl⟩ (fun hf => M.roots (rb, 0) hm0 rfl)
  have hmv : mvV majFrom L H.room (refV x) = refV (mvO majFrom L H.room x) := by
    obtain ⟨y, hy, e1, e2⟩ := hlead
    have hyx : y = x := h.hi.apart y (hK.mem hy) x h.xin (by have e3 : (x.addr : Int) = (y.addr : Int) := e1; omega)
    subst hyx
    rw [mvV_eq, e2]
    rfl
  have hsrc : rootSrc [(rb, 0), (rb, 0)] (fun _ => refV x) = fun (a : Nat) => (refV x).n = (a : Int) := by
    funext a
    exact propext ⟨fun ⟨_, _, _, e⟩ => e, fun e => ⟨(rb, 0), hm0, rfl, e⟩⟩
  obtain ⟨hSnd, hSiff⟩ := seen_iff (named_of h.hi h.ids) h.hi.apart h.hi.refs (v := refV x) rfl ⟨x, h.xin, rfl⟩ h.shp
  have hhas : ∀ id, Maps.has H'.wh (.int .i64 id) = true ↔ id ∈ S := fun id => by
    rw [wh_has M.hi id, hSiff id]
    constructor
    · rintro ⟨_, o, ho, e⟩
      obtain ⟨y, hy, rfl⟩ := List.mem_map.1 (show o ∈ ([] ++ L).map (mvO majFrom L H.room) from ho)
      have h1 := (M.led y).1 hy
      rw [hsrc] at h1
      exact ⟨y, h1, e⟩
    · rintro ⟨o, ho, e⟩
      have hoL : o ∈ L := (M.led o).2 (by rw [hsrc]; exact ho)
      refine ⟨fun h0 => h.ids o (hK.inO o hoL) (e.trans h0), mvO majFrom L H.room o, List.mem_append.2 (.inr (List.mem_map.2 ⟨o, hoL, rfl⟩)), e⟩
  refine ⟨rfl, mb', tv, H', ([] ++ L).map (mvO majFrom L H.room), mvO majFrom L H.room x, {
    hr := M.hr
    hi := M.hi
    room := M.room.trans h.room
    most := M.most.trans h.most
    next := by rw [M.next]; exact h.next
    mins := by rw [M.minors]; have := h.mins; omega
    majs := by rw [M.majors]; have := h.majs; omega
    rem := by
      have h1 := M.hr.rem
      rcases h1.2 with ⟨_, h2⟩ | ⟨g, cap, cur, h2, _⟩
      · exact List.length_eq_zero_iff.1 h2
      · cases h2
    tot := by
      rw [total_mv]
      have h1 := total_le hK.nd hK.inO
      rw [total_append] at h1
      have h2 := h.tot
      show 0 + total L ≤ _
      omega
    ids := fun o ho => by
      obtain ⟨y, hy, rfl⟩ := List.mem_map.1 (show o ∈ ([] ++ L).map (mvO majFrom L H.room) from ho)
      exact h.ids y (hK.inO y hy)
    xin := List.mem_append.2 (.inr (List.mem_map.2 ⟨x, hLx, rfl⟩))
    root := by
      have h1 := M.cells (rb, 0) hm0
      rw [hmv] at h1
      exact h1
    out := fun ho => by
      rcases M.own rb ho with h1 | h1
      · exact h.out h1
      · have h3 : rb < w.heap.size := World.block_lt_of_cell? w _ h.root.1
        omega
    shp := by
      rw [← hmv]
      exact (kept_shape hK M.hi F (refV x) [] (fun _ => ⟨x, hx, rfl⟩)).trans h.shp }, M.turned.mono (fun k hk => hk.imp id (fun ⟨a, ha, e⟩ => by rw [hrs a ha] at e; exact e.symm)), M.own, ?_, fun xs hn hm => same_length hn hSnd (fun a => (hm a).trans (hhas a))⟩
  exact ⟨x.id, (hhas x.id).2 ((hSiff x.id).2 ⟨x, .src h.xin rfl, rfl⟩)⟩
end Go.Proofs.Ythbkklnahhdgcaa.ChTk
