/-
  Major's collector at its beginning. No walk in sight.
-/
import Derived.Test.YthbkklnahhdgcaaMChYb
namespace Go.Proofs.Ythbkklnahhdgcaa.ChYc
open Go Go.Proofs Go.RowKit Go.Maps Go.Proofs.Ythbkklnahhdgcaa.Lib Go.Proofs.Ythbkklnahhdgcaa.HeapR Go.Proofs.Ythbkklnahhdgcaa.HeapA Go.Proofs.Ythbkklnahhdgcaa.ChA Go.Proofs.Ythbkklnahhdgcaa.ChB Go.Proofs.Ythbkklnahhdgcaa.ChT Go.Proofs.Ythbkklnahhdgcaa.ChCa Go.Proofs.Ythbkklnahhdgcaa.ChCc Go.Proofs.Ythbkklnahhdgcaa.ChCd Go.Proofs.Ythbkklnahhdgcaa.ChD Go.Proofs.Ythbkklnahhdgcaa.ChE Go.Proofs.Ythbkklnahhdgcaa.ChF Go.Proofs.Ythbkklnahhdgcaa.ChG Go.Proofs.Ythbkklnahhdgcaa.ChH Go.Proofs.Ythbkklnahhdgcaa.ChI Go.Proofs.Ythbkklnahhdgcaa.ChJ Go.Proofs.Ythbkklnahhdgcaa.ChK Go.Proofs.Ythbkklnahhdgcaa.ChL Go.Proofs.Ythbkklnahhdgcaa.ChM Go.Proofs.Ythbkklnahhdgcaa.ChN Go.Proofs.Ythbkklnahhdgcaa.ChO Go.Proofs.Ythbkklnahhdgcaa.ChP Go.Proofs.Ythbkklnahhdgcaa.ChQ Go.Proofs.Ythbkklnahhdgcaa.ChR Go.Proofs.Ythbkklnahhdgcaa.ChU Go.Proofs.Ythbkklnahhdgcaa.ChX Go.Proofs.Ythbkklnahhdgcaa.ChYa Go.Proofs.Ythbkklnahhdgcaa.ChYb

/-- Major's collector: z is where its blocks begin. -/
def majPar (z hb nb mb : Nat) (ov rv : Value) (B : Nat) (H : HS) (nu ol : List Ob) (src : Nat → Prop) : Par :=
  { kb := z + 1, hb := hb, hv := hb, wb := z, nb := nb, B := B, room := H.room, HB := hblock nb mb ov rv H, maj := true, O := nu ++ ol, base := [], pl := fun a => if a < H.room then (nb, a * 8) else (ov.ownBlock.getD 0, (a - H.room) * 8), src := src }
variable {w : World} {hb nb mb z : Nat} {ov rv : Value} {B : Nat} {H : HS} {nu ol : List Ob} {src : Nat → Prop}
theorem majPar_from (n : Int) : (majPar z hb nb mb ov rv B H nu ol src).from_ n = true := rfl
theorem majPar_z : (majPar z hb nb mb ov rv B H nu ol src).z = H.room := rfl
theorem old_some (h : HR w hb nb mb ov rv B H) (hi : HI H nu ol) {o : Ob} (ho : o ∈ ol) : ∃ g c, ov = .slice (some ⟨g, 0, none⟩) H.old.length c := by
  have h1 := laid_in hi.oa ho
  have h2 := len_pos o
  have h3 := hi.olen
  obtain ⟨g, c, e⟩ := row_slice h.old (by omega)
  exact ⟨g, c, e⟩
theorem pl_nu (hi : HI H nu ol) {o : Ob} (ho : o ∈ nu) : (majPar z hb nb mb ov rv B H nu ol src).pl o.addr = (nb, o.addr * 8) := by
  have h1 := min_addr hi ho
  have h2 := len_pos o
  show (if o.addr < H.room then _ else _) = _
  rw [if_pos (by omega)]
theorem pl_ol (hi : HI H nu ol) {o : Ob} (ho : o ∈ ol) : (majPar z hb nb mb ov rv B H nu ol src).pl o.addr = (ov.ownBlock.getD 0, (o.addr - H.room) * 8) := by
  have h1 := laid_in hi.oa ho
  show (if o.addr < H.room then _ else _) = _
  rw [if_neg (by omega)]
theorem own_old (h : HR w hb nb mb ov rv B H) (hi : HI H nu ol) {o : Ob} (ho : o ∈ ol) : ov.ownBlock = some (ov.ownBlock.getD 0) := by
  obtain ⟨g, c, rfl⟩ := old_some h hi ho
  rfl
theorem maj_size (h : HR w hb nb mb ov rv B H) (hi : HI H nu ol) : H.room + total (nu ++ ol) + 1 ≤ big := by
  have h1 := h.om
  have h2 := h.mm
  have h3 := h.rr
  have h4 := hi.fit
  rw [hi.olen] at h1
  rw [total_append]
  unfold big
  omega
theorem majPar_ok (h : HR w hb nb mb ov rv B H) (hi : HI H nu ol) (hn : H.next ≤ 4611686018427387904) (hz : w.heap.size ≤ z) : (majPar z hb nb mb ov rv B H nu ol src).OK := by
  have hl := fun {k : Nat} (hk : Owns hb nb mb ov rv k) => h.lt hk
  have hbl := hl (.inl rfl)
  have hnl := hl (.inr (.inl rfl))
  have hov : ∀ k, ov.ownBlock = some k → k < w.heap.size := fun k hk => hl (.inr (.inr (.inr (.inl hk))))
  have hsz := maj_size h hi
  have hpl : ∀ o ∈ nu ++ ol, Owns hb nb mb ov rv ((majPar z hb nb mb ov rv B H nu ol src).pl o.addr).1 ∧ ((majPar z hb nb mb ov rv B H nu ol src).pl o.addr).1 ≠ hb := fun o ho => by
    rcases List.mem_append.mp ho with ho | ho
    · rw [pl_nu hi ho]
      exact ⟨.inr (.inl rfl), fun e => h.hn e.symm⟩
    · rw [pl_ol hi ho]
      have h1 := own_old h hi ho
      refine ⟨.inr (.inr (.inr (.inl h1))), fun e => h.oh ?_⟩
      rw [h1]
      exact congrArg some e
  exact {
    h0 := rfl
    h3 := rfl
    place := fun o ho => by
      rcases List.mem_append.mp ho with ho | ho
      · exact Or.inl ⟨min_addr hi ho, pl_nu hi ho⟩
      · obtain ⟨g, c, e⟩ := old_some h hi ho
        have h1 := laid_in hi.oa ho
        refine Or.inr ⟨rfl, h1.1, g, H.old.length, c, fun e2 => h.on ?_, ?_, ?_, ?_⟩
        · rw [e]
          exact congrArg some e2
        · rw [e]
          rfl
        · show o.addr - H.room + o.len ≤ H.old.length
          have := hi.olen
          omega
        · rw [pl_ol hi ho, e]
          rfl
    apart := fun x hx y hy => by
      rcases List.mem_append.mp hx with hx | hx <;> rcases List.mem_append.mp hy with hy | hy
      · rw [pl_nu hi hx, pl_nu hi hy]
        rcases laid_two hi.na hx hy with h1 | h1 | h1
        · exact Or.inl (by rw [h1])
        · exact Or.inr (Or.inr (Or.inl (by show x.addr * 8 + x.len * 8 ≤ y.addr * 8; omega)))
        · exact Or.inr (Or.inr (Or.inr (by show y.addr * 8 + y.len * 8 ≤ x.addr * 8; omega)))
      · rw [pl_nu hi hx, pl_ol hi hy]
        exact Or.inr (Or.inl (fun e => h.on (by rw [own_old h hi hy]; exact congrArg some (Eq.symm e))))
      · rw [pl_ol hi hx, pl_nu hi hy]
        exact Or.inr (Or.inl (fun e => h.on (by rw [own_old h hi hx]; exact congrArg some e)))
      · rw [pl_ol hi hx, pl_ol hi hy]
        have g1 := laid_in hi.oa hx
        have g2 := laid_in hi.oa hy
        rcases laid_two hi.oa hx hy with h1 | h1 | h1
        · exact Or.inl (by rw [h1])
        · exact Or.inr (Or.inr (Or.inl (by show (x.addr - H.room) * 8 + x.len * 8 ≤ (y.addr - H.room) * 8; omega)))
        · exact Or.inr (Or.inr (Or.inr (by show (y.addr - H.room) * 8 + y.len * 8 ≤ (x.addr - H.room) * 8; omega)))
    sole := hi.apart
    nd := hi.nodup
    closed := fun o ho v hv hk _ => hi.refs o ho v hv hk
    size := by
      show H.room + 0 + total (nu ++ ol) + 1 ≤ big
      omega
    addr := fun o ho => by
      rw [total_append] at hsz
      rcases List.mem_append.mp ho with ho | ho
      · have := min_addr hi ho
        omega
      · have := laid_in hi.oa ho
        omega
    ids := fun o ho => by
      have h1 := hi.ids o ho
      omega
    from_ := fun _ _ => rfl
    kh := by show z + 1 ≠ hb; omega
    kv := by show z + 1 ≠ hb; omega
    wk := by show z ≠ z + 1; omega
    pk := fun o ho => by
      obtain ⟨h1, h2⟩ := hpl o ho
      have h3 := hl h1
      refine ⟨?_, h2, h2, ?_⟩
      · show _ ≠ z + 1
        omega
      · show _ ≠ z
        omega
    wh := by show z ≠ hb; omega
    wv := by show z ≠ hb; omega
    nk := by show nb ≠ z + 1; omega
    nh := by show nb ≠ hb; exact fun e => h.hn e.symm
    nv := by show nb ≠ hb; exact fun e => h.hn e.symm
    nw := by show nb ≠ z; omega }

theorem majPar_start (h : HR w hb nb mb ov rv B H) (hi : HI H nu ol) (_hz : w.heap.size ≤ z) {w3 : World} (hk : w3.heap[z + 1]? = some (kblk hb (.slice none 0 0) (.func (Fn.func 28) #[] #[]) (.map (some z))))
    (hm : w3.ownsMap Try.prog 3 (plainElem Try.prog 3) z 0 (.map [] : DataW Unit)) (hT : Below w.heap.size w w3) :
    CR (majPar z hb nb mb ov rv B H nu ol src) w3 (.slice none 0 0) [] (fun _ => false) := by
  have h3 : HR w3 hb nb mb ov rv B H := h.below hT
  have hbl := h.lt (.inl rfl)
  have hzs := hT.size
  exact {
    kblk := hk
    hblk := h3.blk
    hvar := fun e => by cases e
    row := World.ownsRow_nil _ _ _ _
    map := hm
    src := fun o ho => by
      rcases List.mem_append.mp ho with ho | ho
      · rw [pl_nu hi ho]
        refine ⟨hcells H.nur, h3.nur, fun i c hc j v hv' => ?_⟩
        rw [mark_out _ _ _ has_nil] at hc
        have h1 := laid_cells hi.na ho hc
        rw [← hi.nur, Nat.sub_zero, List.getElem?_take] at h1
        have h2 : H.nur[o.addr + i]? = some c := by
          split at h1
          · exact h1
          · cases h1
        have h4 := hcells_get H.nur (o.addr + i) j c h2 (vals_lt hv')
        show (hcells H.nur)[o.addr * 8 + i * 8 + j]? = some v
        rw [show o.addr * 8 + i * 8 + j = (o.addr + i) * 8 + j by omega, h4]
        exact hv'
      · rw [pl_ol hi ho]
        have hrow := h3.old
        rcases hrow.2 with ⟨_, h2⟩ | ⟨g, cap, cur, e, _, hg, hle, _, hsz, ht⟩
        · have h4 := laid_in hi.oa ho
          have h5 := len_pos o
          have h6 := hi.olen
          omega
        · refine ⟨cur, by rw [e]; exact hg, fun i c hc j v hv' => ?_⟩
          rw [mark_out _ _ _ has_nil] at hc
          have h1 := laid_cells hi.oa ho hc
          rw [← hi.old] at h1
          have hjl := (List.getElem?_eq_some_iff.1 h1).1
          have hj8 := vals_lt hv'
          have h2 := hvals_get H.old (o.addr - H.room + i) j c h1 hj8
          rw [← ht, List.getElem?_take_of_lt (by omega), Array.getElem?_toList] at h2
          show cur[(o.addr - H.room) * 8 + i * 8 + j]? = some v
          rw [show (o.addr - H.room) * 8 + i * 8 + j = (o.addr - H.room + i) * 8 + j by omega, h2]
          exact hv'
    led := fun i c hp => by cases hp
    lt := fun i hp => by cases hp
    inO := fun o ho => by cases ho
    nd := List.nodup_nil
    come := fun o ho => by cases ho
    nurs := ⟨H.nur, h.len, h3.nur⟩
    low := by
      show B ≤ w3.heap.size
      have := h.ge (.inl rfl)
      omega
    hvl := by show hb < w3.heap.size; omega
    tk := by simp [Value.ownBlock]
    th := by simp [Value.ownBlock]
    tw := by simp [Value.ownBlock]
    ts := fun o _ => by simp [Value.ownBlock]
    tn := by simp [Value.ownBlock]
    tvv := by simp [Value.ownBlock] }
theorem maj_own {k : Nat} (hz : w.heap.size ≤ z) (h : HR w hb nb mb ov rv B H) (hi : HI H nu ol) (hl : k < w.heap.size) (ho : ¬ Owns hb nb mb ov rv k) : ¬ Own (majPar z hb nb mb ov rv B H nu ol src) (.slice none 0 0) k := by
  intro h'
  rcases h' with h' | h' | h' | h' | h' | h' | ⟨o, hoO, h'⟩
  · have h2 : k = z + 1 := h'
    omega
  · exact ho (.inl h')
  · exact ho (.inl h')
  · have h2 : k = z := h'
    omega
  · simp [Value.ownBlock] at h'
  · exact ho (.inr (.inl h'))
  · rcases List.mem_append.mp (show o ∈ nu ++ ol from hoO) with hoO | hoO
    · rw [pl_nu hi hoO] at h'
      exact ho (.inr (.inl h'.symm))
    · rw [pl_ol hi hoO] at h'
      exact ho (.inr (.inr (.inr (.inl ((own_old h hi hoO).trans (congrArg some h'))))))
end Go.Proofs.Ythbkklnahhdgcaa.ChYc
