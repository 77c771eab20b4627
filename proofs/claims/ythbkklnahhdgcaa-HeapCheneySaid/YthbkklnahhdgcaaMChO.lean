/-
  What a collection leaves is a heap as objects again. No walk in sight.
-/
import Derived.Test.YthbkklnahhdgcaaMChN
namespace Go.Proofs.Ythbkklnahhdgcaa.ChO
open Go Go.Proofs Go.RowKit Go.Proofs.Ythbkklnahhdgcaa.Lib Go.Proofs.Ythbkklnahhdgcaa.HeapR Go.Proofs.Ythbkklnahhdgcaa.ChA Go.Proofs.Ythbkklnahhdgcaa.ChT Go.Proofs.Ythbkklnahhdgcaa.ChCa Go.Proofs.Ythbkklnahhdgcaa.ChCc Go.Proofs.Ythbkklnahhdgcaa.ChD Go.Proofs.Ythbkklnahhdgcaa.ChE Go.Proofs.Ythbkklnahhdgcaa.ChJ Go.Proofs.Ythbkklnahhdgcaa.ChL Go.Proofs.Ythbkklnahhdgcaa.ChN

/-- Where the object of an identity was put last. -/
def idAt (z : Nat) : List Ob → Nat → Int → Option Int
  | [], _, _ => none
  | o :: l, n, id => (idAt z l (n + o.len) id).or (if o.id ≠ 0 ∧ o.id = id then some ((z + n : Nat) : Int) else none)
theorem idAt_cons (z : Nat) (o : Ob) (l : List Ob) (n : Nat) (id : Int) : idAt z (o :: l) n id = (idAt z l (n + o.len) id).or (if o.id ≠ 0 ∧ o.id = id then some ((z + n : Nat) : Int) else none) := rfl
theorem reads_where (z : Nat) (L : List Ob) : ∀ (D : DataW Unit) (g : Int → Option Int) (n : Nat), Reads D g → Reads (whereOf z L D n) (fun id => (idAt z L n id).or (g id)) := by
  induction L with
  | nil => intro D g n h; exact h
  | cons o l ih =>
    intro D g n h
    unfold whereOf
    by_cases h0 : o.id = 0
    · have e : putId o.id (z + n) D = D := by unfold putId; rw [if_pos h0]
      rw [e]
      refine (ih D g (n + o.len) h).congr fun id => ?_
      rw [idAt_cons, if_neg (fun hh => hh.1 h0)]
      cases idAt z l (n + o.len) id <;> rfl
    · have e : putId o.id (z + n) D = D.put (.int .i64 o.id) (.lit (.int .i64 ((z + n : Nat) : Int))) := by unfold putId; rw [if_neg h0]
      rw [e]
      refine (ih _ _ (n + o.len) (reads_put h o.id _)).congr fun id => ?_
      rw [idAt_cons]
      by_cases hi : id = o.id
      · rw [if_pos ⟨h0, hi.symm⟩, if_pos hi]
        cases idAt z l (n + o.len) id <;> rfl
      · rw [if_neg (fun hh => hi hh.2.symm), if_neg hi]
        cases idAt z l (n + o.len) id <;> rfl
theorem idAt_some {z : Nat} {L : List Ob} {n : Nat} {id c : Int} (h : idAt z L n id = some c) : id ≠ 0 ∧ ∃ l o k, L = l ++ o :: k ∧ o.id = id ∧ c = ((z + (n + total l) : Nat) : Int) := by
  induction L generalizing n with
  | nil => cases h
  | cons x L ih =>
    rw [idAt_cons] at h
    cases h1 : idAt z L (n + x.len) id with
    | some d =>
      rw [h1] at h
      have hd : d = c := by simpa using h
      subst hd
      obtain ⟨h2, l, o, k, h3, h4, h5⟩ := ih h1
      refine ⟨h2, x :: l, o, k, by rw [h3]; rfl, h4, ?_⟩
      rw [h5, total_cons]
      congr 2
      omega
    | none =>
      rw [h1] at h
      by_cases hx : x.id ≠ 0 ∧ x.id = id
      · rw [if_pos hx] at h
        have hd : ((z + n : Nat) : Int) = c := by simpa using h
        exact ⟨hx.2 ▸ hx.1, [], x, L, rfl, hx.2, by rw [← hd]; simp [total]⟩
      · rw [if_neg hx] at h
        cases h
theorem idAt_has {z : Nat} {L : List Ob} {n : Nat} {o : Ob} (ho : o ∈ L) (h0 : o.id ≠ 0) : ∃ c, idAt z L n o.id = some c := by
  induction L generalizing n with
  | nil => cases ho
  | cons x L ih =>
    rw [idAt_cons]
    rcases List.mem_cons.mp ho with rfl | ho
    · rw [if_pos ⟨h0, rfl⟩]
      cases idAt z L (n + o.len) o.id with
      | some d => exact ⟨d, rfl⟩
      | none => exact ⟨_, rfl⟩
    · obtain ⟨c, hc⟩ := ih (n := n + x.len) ho
      rw [hc]
      exact ⟨c, rfl⟩

/-- A collection that moved L, and left kept where it was. -/
structure Kept (H : HS) (nu ol : List Ob) (from_ : Int → Bool) (L kept : List Ob) (z : Nat) : Prop where
  hi : HI H nu ol
  inO : ∀ o ∈ L, o ∈ nu ++ ol
  nd : L.Nodup
  inK : ∀ o ∈ kept, o ∈ ol
  laid : Laid H.room kept
  hz : z = H.room + total kept
  fL : ∀ o ∈ L, from_ (o.addr : Int) = true
  fK : ∀ o ∈ kept, from_ (o.addr : Int) = false
  rest : ∀ o ∈ nu ++ ol, from_ (o.addr : Int) = false → o ∈ kept
  closed : ∀ o ∈ kept ++ L, ∀ v ∈ o.fs, v.k = 4 → from_ v.n = true → has L v.n.toNat
variable {H : HS} {nu ol : List Ob} {from_ : Int → Bool} {L kept : List Ob} {z : Nat}
theorem Kept.mem (h : Kept H nu ol from_ L kept z) {o : Ob} (ho : o ∈ kept ++ L) : o ∈ nu ++ ol := by
  rcases List.mem_append.mp ho with ho | ho
  · exact List.mem_append.mpr (Or.inr (h.inK o ho))
  · exact h.inO o ho
theorem Kept.aL (h : Kept H nu ol from_ L kept z) : Apart L := fun x hx y hy e => h.hi.apart x (h.inO x hx) y (h.inO y hy) e
theorem Kept.of_has (h : Kept H nu ol from_ L kept z) {x : Ob} (hx : x ∈ nu ++ ol) (hh : has L x.addr) : x ∈ L := by
  obtain ⟨y, hy, e⟩ := hh
  rw [← h.hi.apart y (h.inO y hy) x hx e]
  exact hy
theorem map_same {l : List Ob} (h : ∀ o ∈ l, from_ (o.addr : Int) = false) : ∀ (a : Nat), Laid a l → Laid a (l.map (mvO from_ L z)) := by
  induction l with
  | nil => intro a _; exact trivial
  | cons o l ih =>
    rintro a ⟨h1, h2⟩
    refine ⟨?_, ?_⟩
    · show mvA from_ L z o.addr = a
      unfold mvA
      rw [if_neg (by rw [h o (List.mem_cons_self ..)]; exact Bool.false_ne_true)]
      exact h1
    · rw [mvO_len]
      exact ih (fun x hx => h x (List.mem_cons_of_mem _ hx)) _ h2
theorem Kept.lies (h : Kept H nu ol from_ L kept z) : Laid H.room ((kept ++ L).map (mvO from_ L z)) := by
  rw [List.map_append, laid_append, total_mv]
  refine ⟨map_same h.fK _ h.laid, ?_⟩
  have := laid_copies (z := z) h.aL h.nd h.fL
  rw [h.hz] at this ⊢
  exact this
/-- A value that led to an object leads to it. -/
theorem Kept.leads (h : Kept H nu ol from_ L kept z) {v : Vl} (hk : v.k = 4) (hv : ∃ x ∈ nu ++ ol, v.n = (x.addr : Int)) (hh : from_ v.n = true → has L v.n.toNat) : ∃ x ∈ kept ++ L, v.n = (x.addr : Int) ∧ (mvV from_ L z v).n = ((mvO from_ L z x).addr : Int) := by
  obtain ⟨x, hx, e⟩ := hv
  by_cases hf : from_ v.n = true
  · have h1 := hh hf
    rw [e, Int.toNat_natCast] at h1
    refine ⟨x, List.mem_append.mpr (Or.inr (h.of_has hx h1)), e, ?_⟩
    unfold mvV
    rw [if_pos ⟨hk, hf⟩]
    show ((fwd L z v.n.toNat : Nat) : Int) = ((mvA from_ L z x.addr : Nat) : Int)
    unfold mvA
    rw [e] at hf ⊢
    rw [if_pos hf, Int.toNat_natCast]
  · have hf' : from_ (x.addr : Int) = false := by rw [← e]; simpa using hf
    refine ⟨x, List.mem_append.mpr (Or.inl (h.rest x hx hf')), e, ?_⟩
    unfold mvV
    rw [if_neg (fun hh => hf hh.2)]
    show v.n = ((mvA from_ L z x.addr : Nat) : Int)
    unfold mvA
    rw [if_neg (by rw [hf']; exact Bool.false_ne_true), e]
theorem mvV_k (v : Vl) : (mvV from_ L z v).k = v.k := by
  unfold mvV
  split <;> rfl
theorem mvV_s (v : Vl) : (mvV from_ L z v).s = v.s := by
  unfold mvV
  split <;> rfl
theorem mvV_id {v : Vl} (h : v.k ≠ 4) : mvV from_ L z v = v := by
  unfold mvV
  rw [if_neg (fun hh => h hh.1)]

/-- Behind it. -/
theorem Kept.after (h : Kept H nu ol from_ L kept z) {H' : HS} (hold : H'.old = flat ((kept ++ L).map (mvO from_ L z))) (hroom : H'.room = H.room) (htop : H'.top = 0) (hrem : H'.rem = []) (hnext : H'.next = H.next)
    (hw : ∃ g, Reads H'.wh g ∧ ∀ id c, g id = some c ↔ id ≠ 0 ∧ ∃ o ∈ kept ++ L, o.id = id ∧ c = ((mvO from_ L z o).addr : Int)) : HI H' [] ((kept ++ L).map (mvO from_ L z)) := by
  have hlies := h.lies
  have refs : ∀ o ∈ (kept ++ L).map (mvO from_ L z), ∀ v ∈ o.fs, v.k = 4 → ∃ x ∈ (kept ++ L).map (mvO from_ L z), v.n = (x.addr : Int) := by
    intro o ho v hv hk
    obtain ⟨o0, ho0, rfl⟩ := List.mem_map.mp ho
    obtain ⟨v0, hv0, rfl⟩ := List.mem_map.mp (show v ∈ o0.fs.map (mvV from_ L z) from hv)
    rw [mvV_k] at hk
    obtain ⟨x, hx, _, e⟩ := h.leads hk (h.hi.refs o0 (h.mem ho0) v0 hv0 hk) (h.closed o0 ho0 v0 hv0 hk)
    exact ⟨_, List.mem_map.mpr ⟨x, hx, rfl⟩, e⟩
  have hold' : ∀ {o : Ob}, o ∈ (kept ++ L).map (mvO from_ L z) → ∃ x ∈ nu ++ ol, x.id = o.id ∧ x.kind = o.kind ∧ x ∈ kept ++ L ∧ o = mvO from_ L z x := by
    intro o ho
    obtain ⟨x, hx, rfl⟩ := List.mem_map.mp ho
    exact ⟨x, h.mem hx, rfl, rfl, hx, rfl⟩
  exact {
    nur := by rw [htop]; rfl
    old := hold
    tlen := by rw [htop]; exact Nat.zero_le _
    na := trivial
    oa := by rw [hroom]; exact hlies
    fit := by simp [total]
    refs := by rw [List.nil_append]; exact refs
    rem1 := fun r hr => by rw [hrem] at hr; cases hr
    rem2 := fun j c hj hk hlt => by
      exfalso
      rw [hold] at hj
      have hm := List.mem_of_getElem? hj
      obtain ⟨o, ho, hc⟩ := List.mem_flatMap.mp hm
      rcases List.mem_cons.mp (show c ∈ o.head 0 :: o.fs.map Vl.cell from hc) with rfl | hc
      · exact absurd hk (show ¬ (0 : Int) = 4 by decide)
      · obtain ⟨v, hv, rfl⟩ := List.mem_map.mp hc
        obtain ⟨x, hx, e⟩ := refs o ho v hv hk
        have := laid_in hlies hx
        rw [hroom] at hlt
        have hlt' : v.n < (H.room : Int) := hlt
        omega
    wh := by
      obtain ⟨g, hg, hi⟩ := hw
      refine ⟨g, hg, fun id c => (hi id c).trans ⟨?_, ?_⟩⟩
      · rintro ⟨h0, o, ho, h1, h2⟩
        exact ⟨h0, _, List.mem_map.mpr ⟨o, ho, rfl⟩, h1, h2⟩
      · rintro ⟨h0, o, ho, h1, h2⟩
        obtain ⟨x, hx, rfl⟩ := List.mem_map.mp (show o ∈ (kept ++ L).map (mvO from_ L z) from ho)
        exact ⟨h0, x, hx, h1, h2⟩
    ids := fun o ho => by
      obtain ⟨x, hx, e, _⟩ := hold' (show o ∈ (kept ++ L).map (mvO from_ L z) from ho)
      rw [hnext, ← e]
      exact h.hi.ids x hx
    named := fun a ha b hb e h0 => by
      obtain ⟨x, hx, ex, _, _, rfl⟩ := hold' (show a ∈ (kept ++ L).map (mvO from_ L z) from ha)
      obtain ⟨y, hy, ey, _, _, rfl⟩ := hold' (show b ∈ (kept ++ L).map (mvO from_ L z) from hb)
      rw [h.hi.named x hx y hy (ex.trans (e.trans ey.symm)) (by rw [ex]; exact h0)]
    kinds := fun o ho => by
      obtain ⟨x, hx, _, e, _⟩ := hold' (show o ∈ (kept ++ L).map (mvO from_ L z) from ho)
      rw [← e]
      exact h.hi.kinds x hx }

/-- The copied objects' identities. -/
theorem Kept.idL (h : Kept H nu ol from_ L kept z) (id c : Int) : idAt z L 0 id = some c ↔ id ≠ 0 ∧ ∃ o ∈ L, o.id = id ∧ c = ((mvO from_ L z o).addr : Int) := by
  have hpos : ∀ l o k, L = l ++ o :: k → ((z + (0 + total l) : Nat) : Int) = ((mvO from_ L z o).addr : Int) := by
    intro l o k hl
    have ho : o ∈ L := by rw [hl]; exact List.mem_append.mpr (Or.inr (List.mem_cons_self ..))
    show _ = ((mvA from_ L z o.addr : Nat) : Int)
    unfold mvA
    rw [if_pos (h.fL o ho)]
    unfold fwd
    have hnot : ¬ has l o.addr := by
      rintro ⟨x, hx, e⟩
      have hxo : x = o := h.aL x (by rw [hl]; exact List.mem_append.mpr (Or.inl hx)) o ho e
      subst hxo
      have hn := h.nd
      rw [hl] at hn
      exact (List.nodup_append.mp hn).2.2 x hx x (List.mem_cons_self ..) rfl
    have e : ChA.ahead L o.addr = total l := by
      rw [hl, show l ++ o :: k = (l ++ [o]) ++ k by simp, ahead_in (has_append.mpr (Or.inr (has_cons.mpr (Or.inl rfl)))), ahead_new hnot]
    rw [e, Nat.zero_add]
  constructor
  · intro h1
    obtain ⟨h0, l, o, k, hl, e1, e2⟩ := idAt_some h1
    exact ⟨h0, o, by rw [hl]; exact List.mem_append.mpr (Or.inr (List.mem_cons_self ..)), e1, by rw [e2]; exact hpos l o k hl⟩
  · rintro ⟨h0, o, ho, rfl, e⟩
    obtain ⟨d, hd⟩ := idAt_has (z := z) (n := 0) ho h0
    obtain ⟨_, l, x, k, hl, e1, e2⟩ := idAt_some hd
    have hx : x ∈ L := by rw [hl]; exact List.mem_append.mpr (Or.inr (List.mem_cons_self ..))
    have hxo : x = o := h.hi.named x (h.inO x hx) o (h.inO o ho) e1 (by rw [e1]; exact h0)
    subst hxo
    rw [hd, e2, e]
    congr 1
    exact hpos l x k hl
end Go.Proofs.Ythbkklnahhdgcaa.ChO
