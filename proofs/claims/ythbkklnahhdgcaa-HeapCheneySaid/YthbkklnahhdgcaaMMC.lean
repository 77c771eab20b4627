/-
  Package heap's collector: move over the collector at work.
-/
import Derived.Test.YthbkklnahhdgcaaMChD
import Derived.Test.YthbkklnahhdgcaaMChCd
namespace Go.Proofs.Ythbkklnahhdgcaa.ChE
open Go Go.Proofs Go.RowKit Go.Proofs.Ythbkklnahhdgcaa.Lib Go.Proofs.Ythbkklnahhdgcaa.HeapR Go.Proofs.Ythbkklnahhdgcaa.HeapA Go.Proofs.Ythbkklnahhdgcaa.ChA Go.Proofs.Ythbkklnahhdgcaa.ChB Go.Proofs.Ythbkklnahhdgcaa.ChT Go.Proofs.Ythbkklnahhdgcaa.ChCa Go.Proofs.Ythbkklnahhdgcaa.ChCc Go.Proofs.Ythbkklnahhdgcaa.ChCd Go.Proofs.Ythbkklnahhdgcaa.ChD

theorem hvals_set7 (l : List HCell) (i : Nat) (m : Int) (h : i < l.length) : (hvals l).set (i * 8 + 7) (.int .i64 m) = hvals (l.modify i fun d => { d with moved := m }) := by
  induction l generalizing i with
  | nil => simp at h
  | cons d l ih =>
    cases i with
    | zero => simp [hvals_cons, HCell.vals]
    | succ i =>
      have hi : i < l.length := by simpa using h
      rw [List.modify_succ_cons, hvals_cons, hvals_cons, List.set_append_right _ _ (by rw [length_vals]; omega), length_vals]
      have := ih i hi
      rw [← this]
      congr 2
      omega
theorem hcells_set7 (l : List HCell) (i : Nat) (m : Int) (h : i < l.length) : (hcells l).setIfInBounds (i * 8 + 7) (.int .i64 m) = hcells (l.modify i fun d => { d with moved := m }) := by
  simp only [hcells, List.setIfInBounds_toArray]
  rw [hvals_set7 l i m h]

theorem cells_zero (o : Ob) (m : Int) : (o.cells m)[0]? = some (o.head m) := rfl
theorem cells_pos (o : Ob) (m m' : Int) (i : Nat) (h : 0 < i) : (o.cells m)[i]? = (o.cells m')[i]? := by
  cases i with
  | zero => omega
  | succ i => rfl
theorem head_other (o : Ob) (m m' : Int) (j : Nat) (h : j ≠ 7) : (o.head m).vals[j]? = (o.head m').vals[j]? := by
  unfold HCell.vals Ob.head
  match j, h with
  | 0, _ | 1, _ | 2, _ | 3, _ | 4, _ | 5, _ | 6, _ => rfl
  | n + 8, _ => rfl
theorem vals_lt {c : HCell} {j : Nat} {v : Value} (h : c.vals[j]? = some v) : j < 8 := by
  have := (List.getElem?_eq_some_iff.1 h).1
  rwa [length_vals] at this

/-- at, at each cell of an object. -/
theorem at_place {p : Par} (hp : p.OK) {o : Ob} (ho : o ∈ p.O) (w1 : World) (hb : w1.heap[p.hb]? = some (.cells p.HB 49 (0, 0))) (i : Nat) (hi : i < o.len) :
    Calls Try.prog 19 #[.pointer (some ⟨p.hb, 0, none⟩), .int .i64 ((o.addr : Int) + (i : Int))] w1 fun e w' => e = .returned (.pointer (some ⟨(p.pl o.addr).1, (p.pl o.addr).2 + i * 8, none⟩)) ∧ ∃ k, w' = w1.drewN k := by
  have c0 : w1.cell? ⟨p.hb, 0, none⟩ = some (.slice (some ⟨p.nb, 0, none⟩) p.room p.room) := cell_of_block hb hp.h0
  have c3 : w1.cell? ⟨p.hb, 3, none⟩ = some (.int .i64 p.room) := cell_of_block hb hp.h3
  have hsz := hp.addr o ho
  have hbig := big_lt
  rcases hp.place o ho with ⟨h1, h2⟩ | ⟨_, h1, og, n, c, _, h2, h3, h4⟩
  · rw [h2]
    have h := at_lo p.hb (o.addr + i) p.nb p.room p.room p.room w1 c0 c3 (by omega) (by omega)
    have e : ((o.addr + i : Nat) : Int) = (o.addr : Int) + (i : Int) := by omega
    rw [e] at h
    refine h.mono fun e w' ⟨a, b⟩ => ⟨?_, 0, b.symm⟩
    rw [a, show (o.addr + i) * 8 = o.addr * 8 + i * 8 by omega]
  · rw [h4]
    have c1 : w1.cell? ⟨p.hb, 1, none⟩ = some (.slice (some ⟨og, 0, none⟩) n c) := cell_of_block hb h2
    have h := at_hi p.hb og n c ((o.addr : Int) + (i : Int)) p.room w1 c1 c3 (by omega) (by omega) (by omega) (by omega)
    refine h.mono fun e w' ⟨a, b⟩ => ⟨?_, b⟩
    rw [a, show ((o.addr : Int) + (i : Int) - (p.room : Int)).toNat * 8 = (o.addr - p.room) * 8 + i * 8 by omega]

theorem mark_in (p : Par) (L : List Ob) (o : Ob) (h : has L o.addr) : p.mark L o = ((fwd L p.z o.addr : Nat) : Int) + 1 := by unfold Par.mark; rw [if_pos h]
theorem mark_out (p : Par) (L : List Ob) (o : Ob) (h : ¬ has L o.addr) : p.mark L o = 0 := by unfold Par.mark; rw [if_neg h]
theorem mark_snoc_other (p : Par) (L : List Ob) (o x : Ob) (h : x.addr ≠ o.addr) : p.mark (L ++ [o]) x = p.mark L x := by
  by_cases hx : has L x.addr
  · rw [mark_in _ _ _ hx, mark_in _ _ _ (has_append.mpr (Or.inl hx)), fwd_in hx]
  · rw [mark_out _ _ _ hx, mark_out]
    intro h'
    rcases has_append.mp h' with h' | h'
    · exact hx h'
    · rcases has_cons.mp h' with h' | h'
      · exact h h'.symm
      · exact has_nil h'
theorem mark_snoc (p : Par) (L : List Ob) (o : Ob) (h : ¬ has L o.addr) : p.mark (L ++ [o]) o = ((p.z + total L : Nat) : Int) + 1 := by
  rw [mark_in _ _ _ (has_append.mpr (Or.inr (has_cons.mpr (Or.inl rfl)))), fwd_new h]

/-- A list of objects that are apart has no more cells than all. -/
theorem total_le {O : List Ob} : ∀ {L : List Ob}, L.Nodup → (∀ o ∈ L, o ∈ O) → total L ≤ total O := by
  induction O with
  | nil =>
    intro L _ h
    cases L with
    | nil => exact Nat.le_refl _
    | cons o L => cases h o (List.mem_cons_self ..)
  | cons x O ih =>
    intro L hL h
    classical
    by_cases hx : x ∈ L
    · obtain ⟨a, b, rfl⟩ := List.append_of_mem hx
      rw [total_append, total_cons, total_cons]
      have hn := List.nodup_append.mp hL
      have hn2 := List.nodup_cons.mp hn.2.1
      have := ih (L := a ++ b) (List.nodup_append.mpr ⟨hn.1, hn2.2, fun y hy z hz => hn.2.2 y hy z (List.mem_cons_of_mem _ hz)⟩) (fun o ho => by
        rcases List.mem_append.mp ho with ho' | ho'
        · rcases List.mem_cons.mp (h o (List.mem_append.mpr (Or.inl ho'))) with e | e
          · subst e
            exact absurd rfl (hn.2.2 o ho' o (List.mem_cons_self ..))
          · exact e
        · rcases List.mem_cons.mp (h o (List.mem_append.mpr (Or.inr (List.mem_cons_of_mem _ ho')))) with e | e
          · subst e
            exact absurd ho' hn2.1
          · exact e)
      rw [total_append] at this
      omega
    · rw [total_cons]
      have := ih hL (fun o ho => by
        rcases List.mem_cons.mp (h o ho) with e | e
        · subst e
          exact absurd ho hx
        · exact e)
      omega
theorem length_le_total (L : List Ob) : L.length ≤ total L := by
  induction L with
  | nil => exact Nat.le_refl _
  | cons o L ih =>
    rw [total_cons, List.length_cons]
    unfold Ob.len
    omega
end Go.Proofs.Ythbkklnahhdgcaa.ChE

/-
  Package heap's collector: move over the collector at work: one object more is copied.
-/
namespace Go.Proofs.Ythbkklnahhdgcaa.ChF
open Go Go.Proofs Go.RowKit Go.Proofs.Ythbkklnahhdgcaa.Lib Go.Proofs.Ythbkklnahhdgcaa.HeapR Go.Proofs.Ythbkklnahhdgcaa.HeapA Go.Proofs.Ythbkklnahhdgcaa.ChA Go.Proofs.Ythbkklnahhdgcaa.ChB Go.Proofs.Ythbkklnahhdgcaa.ChT Go.Proofs.Ythbkklnahhdgcaa.ChCa Go.Proofs.Ythbkklnahhdgcaa.ChCc Go.Proofs.Ythbkklnahhdgcaa.ChCd Go.Proofs.Ythbkklnahhdgcaa.ChD Go.Proofs.Ythbkklnahhdgcaa.ChE

/-- The sources behind a mark. -/
theorem src_step {p : Par} (hp : p.OK) {w w9 : World} {L : List Ob} {o : Ob} {X : Array Value} (ho : o ∈ p.O) (hn : ¬ has L o.addr)
    (hs : ∀ o ∈ p.O, ∃ X, w.heap[(p.pl o.addr).1]? = some (.cells X 55 (0, 0)) ∧ ∀ (i : Nat) (c : HCell), (o.cells (p.mark L o))[i]? = some c → ∀ (j : Nat) (v : Value), c.vals[j]? = some v → X[(p.pl o.addr).2 + i * 8 + j]? = some v)
    (hX : w.heap[(p.pl o.addr).1]? = some (.cells X 55 (0, 0)))
    (h9 : w9.heap[(p.pl o.addr).1]? = some (.cells (X.setIfInBounds ((p.pl o.addr).2 + 7) (.int .i64 (((p.z + total L : Nat) : Int) + 1))) 55 (0, 0)))
    (hk : ∀ x ∈ p.O, (p.pl x.addr).1 ≠ (p.pl o.addr).1 → w9.heap[(p.pl x.addr).1]? = w.heap[(p.pl x.addr).1]?) :
    ∀ x ∈ p.O, ∃ X, w9.heap[(p.pl x.addr).1]? = some (.cells X 55 (0, 0)) ∧ ∀ (i : Nat) (c : HCell), (x.cells (p.mark (L ++ [o]) x))[i]? = some c → ∀ (j : Nat) (v : Value), c.vals[j]? = some v → X[(p.pl x.addr).2 + i * 8 + j]? = some v := by
  intro x hx
  obtain ⟨Y, hY, hYc⟩ := hs x hx
  by_cases hb : (p.pl x.addr).1 = (p.pl o.addr).1
  · have hYX : Y = X := by
      rw [hb, hX] at hY
      cases hY
      rfl
    subst hYX
    refine ⟨_, by rw [hb]; exact h9, fun i c hc j v hv => ?_⟩
    have hj := vals_lt hv
    have hi : i < x.len := by
      have := (List.getElem?_eq_some_iff.1 hc).1
      rwa [Ob.length_cells] at this
    by_cases ha : x.addr = o.addr
    · obtain rfl := hp.sole x hx o ho ha
      rw [mark_snoc p L x hn] at hc
      rw [mark_out p L x hn] at hYc
      by_cases h7 : (p.pl x.addr).2 + 7 = (p.pl x.addr).2 + i * 8 + j
      · have hi0 : i = 0 := by omega
        have hj7 : j = 7 := by omega
        subst hi0
        subst hj7
        rw [cells_zero] at hc
        cases hc
        have h0 := hYc 0 (x.head 0) rfl 7 _ rfl
        rw [← h7, Array.getElem?_setIfInBounds_self_of_lt (by rw [Nat.zero_mul, Nat.add_zero] at h0; exact (Array.getElem?_eq_some_iff.1 h0).1)]
        exact hv
      · rw [Array.getElem?_setIfInBounds_ne h7]
        by_cases hi0 : i = 0
        · subst hi0
          rw [cells_zero] at hc
          cases hc
          refine hYc 0 (x.head 0) rfl j v ?_
          rw [← hv]
          exact head_other x _ _ j (by omega)
        · exact hYc i c ((cells_pos x _ _ i (by omega)).symm.trans hc) j v hv
    · rw [mark_snoc_other p L o x ha] at hc
      have hne : (p.pl o.addr).2 + 7 ≠ (p.pl x.addr).2 + i * 8 + j := by
        have hol : 0 < o.len := by unfold Ob.len; omega
        rcases hp.apart x hx o ho with h | h | h | h
        · exact absurd h ha
        · exact absurd hb h
        · omega
        · omega
      rw [Array.getElem?_setIfInBounds_ne hne]
      exact hYc i c hc j v hv
  · have ha : x.addr ≠ o.addr := fun h => hb (by rw [h])
    exact ⟨Y, (hk x hx hb).trans hY, fun i c hc => hYc i c (by rw [mark_snoc_other p L o x ha] at hc; exact hc)⟩

theorem nurs_step {p : Par} (hp : p.OK) {w w9 : World} {o : Ob} {X : Array Value} {m : Int} (ho : o ∈ p.O)
    (hs : ∃ N : List HCell, N.length = p.room ∧ w.heap[p.nb]? = some (.cells (hcells N) 55 (0, 0)))
    (hX : w.heap[(p.pl o.addr).1]? = some (.cells X 55 (0, 0)))
    (h9 : w9.heap[(p.pl o.addr).1]? = some (.cells (X.setIfInBounds ((p.pl o.addr).2 + 7) (.int .i64 m)) 55 (0, 0)))
    (hk : p.nb ≠ (p.pl o.addr).1 → w9.heap[p.nb]? = w.heap[p.nb]?) : ∃ N : List HCell, N.length = p.room ∧ w9.heap[p.nb]? = some (.cells (hcells N) 55 (0, 0)) := by
  obtain ⟨N, hN, hb⟩ := hs
  rcases hp.place o ho with ⟨h1, h2⟩ | ⟨_, h1, og, n, c, hne, h2, h3, h4⟩
  · rw [h2] at hX h9
    have e : X = hcells N := by
      rw [hb] at hX
      cases hX
      rfl
    subst e
    have hlt : o.addr < N.length := by
      have : 0 < o.len := by unfold Ob.len; omega
      omega
    refine ⟨N.modify o.addr fun d => { d with moved := m }, by rw [List.length_modify]; exact hN, ?_⟩
    rw [h9, hcells_set7 N o.addr m hlt]
  · rw [h4] at hk
    exact ⟨N, hN, (hk (fun h => hne h.symm)).trans hb⟩

/-- What move leaves. -/
def Moved (p : Par) (w : World) (tv : Value) (L : List Ob) (P : Nat → Bool) (vb vo : Nat) (k n : Int) (w' : World) : Prop :=
  ∃ (tv' : Value) (K : List Ob) (w9 : World), CR p w9 tv' (L ++ K) P ∧ (k = 4 → p.from_ n = true → has (L ++ K) n.toNat) ∧
    w' = (if k = 4 ∧ p.from_ n = true then w9.setCell ⟨vb, vo + 1, none⟩ (.int .i64 ((fwd (L ++ K) p.z n.toNat : Nat) : Int)) else w9) ∧
    Turned (fun j => j = p.kb ∨ j = p.wb ∨ tv.ownBlock = some j ∨ ∃ o ∈ p.O, (p.pl o.addr).1 = j) w w9 ∧ ∀ j, tv'.ownBlock = some j → tv.ownBlock = some j ∨ w.heap.size ≤ j

theorem fits {p : Par} {w : World} {tv : Value} {L : List Ob} {P : Nat → Bool} (h : CR p w tv L P) : total L ≤ total p.O := total_le h.nd h.inO

/-- One object more. -/
theorem moved_new {p : Par} (hp : p.OK) {w : World} {tv : Value} {L : List Ob} {P : Nat → Bool} (h : CR p w tv L P) {vb vo : Nat} {o : Ob} (hR : Leads p o) (hn : ¬ has L o.addr) {X : Array Value}
    (hX : w.heap[(p.pl o.addr).1]? = some (.cells X 55 (0, 0))) {w' : World} {oo : Option Addr} {c : Nat} {w9 : World}
    (e : w' = w9.setCell ⟨vb, vo + 1, none⟩ (.int .i64 ((p.room + (p.base.length + total L) : Nat) : Int)))
    (hkb : w9.heap[p.kb]? = some (kblk p.hb (.slice oo (p.base.length + total L + o.len) c) p.fn (.map (some p.wb)))) (hrow : w9.ownsRow p.B 55 8 (.slice oo (p.base.length + total L + o.len) c) (p.base.length + total L + o.len) (hvals (tcells p.from_ p.base L p.z P) ++ hvals (o.cells 0)))
    (h9 : w9.heap[(p.pl o.addr).1]? = some (.cells (X.setIfInBounds ((p.pl o.addr).2 + 7) (.int .i64 (((p.room + (p.base.length + total L) : Nat) : Int) + 1))) 55 (0, 0)))
    (hm : w9.ownsMap Try.prog 3 (plainElem Try.prog 3) p.wb (L.length + 1) (putId o.id (p.room + (p.base.length + total L)) (whereOf p.z L (.map []) 0)))
    (hT : Turned (fun k => k = p.kb ∨ k = (p.pl o.addr).1 ∨ k = p.wb ∨ tv.ownBlock = some k) w w9) (hown : ∀ k, (Value.slice oo (p.base.length + total L + o.len) c).ownBlock = some k → tv.ownBlock = some k ∨ w.heap.size ≤ k) :
    Moved p w tv L P vb vo 4 (o.addr : Int) w' := by
  have ho := hR.mem
  obtain ⟨q1, q2, q3, q4⟩ := hp.pk o ho
  have hz : p.room + (p.base.length + total L) = p.z + total L := by unfold Par.z; omega
  rw [hz] at e h9 hm
  have hf : fwd (L ++ [o]) p.z o.addr = p.z + total L := fwd_new hn
  have hlt : ∀ k, (Value.slice oo (p.base.length + total L + o.len) c).ownBlock = some k → ∀ j, tv.ownBlock ≠ some j → j < w.heap.size → j ≠ k := fun k hk j h1 h2 h3 => (hown k hk).elim (fun h => h1 (h3 ▸ h)) (fun h => by omega)
  have hkl := lt_of_block h.kblk
  have hbl := lt_of_block h.hblk
  have hwl := h.map.lt
  have hnl : p.nb < w.heap.size := by
    obtain ⟨N, _, h2⟩ := h.nurs
    exact lt_of_block h2
  have hgr := tcells_grow (z := p.z) (o := o) h.led h.lt
  refine ⟨_, [o], w9, ?_, fun _ _ => by rw [Int.toNat_natCast]; exact has_append.mpr (Or.inr (has_cons.mpr (Or.inl rfl))), ?_, ?_, hown⟩
  · exact {
      kblk := hkb
      hblk := (hT.block p.hb hbl (fun h' => by rcases h' with h' | h' | h' | h'; exact hp.kh h'.symm; exact q2 h'.symm; exact hp.wh h'.symm; exact h.th h')).trans h.hblk
      hvar := fun hmj => by
        have hv := h.hvar hmj
        have hvl : p.hv < w.heap.size := World.block_lt_of_cell? w _ hv
        refine (World.cell?_of_block (a := ⟨p.hv, 0, none⟩) (hT.block p.hv hvl (fun h' => ?_))).trans hv
        rcases h' with h' | h' | h' | h'
        · exact hp.kv h'.symm
        · exact q3 h'.symm
        · exact hp.wv h'.symm
        · exact h.tvv h'
      row := by
        rw [total_append, show total [o] = o.len by simp [total], hgr, hvals_append, ← Nat.add_assoc]
        exact hrow
      map := by
        rw [whereOf_snoc, List.length_append, List.length_singleton, Nat.add_zero]
        exact hm
      src := src_step hp ho hn h.src hX h9 (fun x hx hne => hT.block _ (by obtain ⟨Y, hY, _⟩ := h.src x hx; exact lt_of_block hY) (fun h' => by
        rcases h' with h' | h' | h' | h'
        · exact (hp.pk x hx).1 h'
        · exact hne h'
        · exact (hp.pk x hx).2.2.2 h'
        · exact h.ts x hx h'))
      led := led_grow h.led h.lt
      lt := fun i hi => by
        have := h.lt i hi
        rw [total_append]
        omega
      inO := fun x hx => by
        rcases List.mem_append.mp hx with hx | hx
        · exact h.inO x hx
        · have : x = o := by simpa using hx
          subst this
          exact ho
      nd := by
        rw [List.nodup_append]
        refine ⟨h.nd, by simp, fun a ha b hb' => ?_⟩
        have : b = o := by simpa using hb'
        subst this
        rintro rfl
        exact hn ⟨a, ha, rfl⟩
      come := fun x hx => by
        rcases List.mem_append.mp hx with hx | hx
        · exact h.come x hx
        · have : x = o := by simpa using hx
          subst this
          exact hR
      nurs := nurs_step hp ho h.nurs hX h9 (fun hne => hT.block p.nb hnl (fun h' => by
        rcases h' with h' | h' | h' | h'
        · exact hp.nk h'
        · exact hne h'
        · exact hp.nw h'
        · exact h.tn h'))
      low := Nat.le_trans h.low hT.size
      hvl := Nat.lt_of_lt_of_le h.hvl hT.size
      tk := fun h' => hlt _ h' _ h.tk hkl rfl
      th := fun h' => hlt _ h' _ h.th hbl rfl
      tw := fun h' => hlt _ h' _ h.tw hwl rfl
      ts := fun x hx h' => hlt _ h' _ (h.ts x hx) (by obtain ⟨Y, hY, _⟩ := h.src x hx; exact lt_of_block hY) rfl
      tn := fun h' => hlt _ h' _ h.tn hnl rfl
      tvv := fun h' => by
        rcases hown _ h' with h2 | h2
        · exact h.tvv h2
        · have := h.hvl
          omega }
  · rw [e, if_pos ⟨rfl, hp.from_ o ho⟩, Int.toNat_natCast, hf]
  · refine hT.mono fun k hk => ?_
    rcases hk with hk | hk | hk | hk
    · exact Or.inl hk
    · exact Or.inr (Or.inr (Or.inr ⟨o, ho, hk.symm⟩))
    · exact Or.inr (Or.inl hk)
    · exact Or.inr (Or.inr (Or.inl hk))
end Go.Proofs.Ythbkklnahhdgcaa.ChF

/-
  Package heap's collector: move over the collector at work, whatever the value.
-/
namespace Go.Proofs.Ythbkklnahhdgcaa.ChG
open Go Go.Proofs Go.RowKit Go.Proofs.Ythbkklnahhdgcaa.Lib Go.Proofs.Ythbkklnahhdgcaa.HeapR Go.Proofs.Ythbkklnahhdgcaa.HeapA Go.Proofs.Ythbkklnahhdgcaa.ChA Go.Proofs.Ythbkklnahhdgcaa.ChB Go.Proofs.Ythbkklnahhdgcaa.ChT Go.Proofs.Ythbkklnahhdgcaa.ChCa Go.Proofs.Ythbkklnahhdgcaa.ChCc Go.Proofs.Ythbkklnahhdgcaa.ChCd Go.Proofs.Ythbkklnahhdgcaa.ChD Go.Proofs.Ythbkklnahhdgcaa.ChE Go.Proofs.Ythbkklnahhdgcaa.ChF

theorem moved_same {p : Par} {w : World} {tv : Value} {L : List Ob} {P : Nat → Bool} (h : CR p w tv L P) {vb vo : Nat} {k n : Int} (hk : k = 4 → p.from_ n = true → has L n.toNat) {w' : World} {j : Nat}
    (e : w' = (if k = 4 ∧ p.from_ n = true then (w.drewN j).setCell ⟨vb, vo + 1, none⟩ (.int .i64 ((fwd L p.z n.toNat : Nat) : Int)) else w.drewN j)) : Moved p w tv L P vb vo k n w' := by
  refine ⟨tv, [], w.drewN j, ?_, ?_, ?_, (Turned.refl _ w).drewN j, fun _ h => Or.inl h⟩
  · rw [List.append_nil]; exact h.drewN j
  · rw [List.append_nil]; exact hk
  · rw [List.append_nil]; exact e

theorem move_any {p : Par} (hp : p.OK) {w : World} {tv : Value} {L : List Ob} {P : Nat → Bool} (h : CR p w tv L P) (vb vo : Nat) (k n : Int) (v0 : w.cell? ⟨vb, vo, none⟩ = some (.int .i64 k)) (v1 : w.cell? ⟨vb, vo + 1, none⟩ = some (.int .i64 n)) (vf : w.frozen? ⟨vb, vo + 1, none⟩ = false)
    (hv : ¬ Own p tv vb) (hn : k = 4 → p.from_ n = true → ∃ o, Leads p o ∧ n = (o.addr : Int)) :
    Calls Try.prog 23 #[.pointer (some ⟨p.kb, 0, none⟩), .pointer (some ⟨vb, vo, none⟩)] w fun e w' => e = .returned (.tuple #[]) ∧ Moved p w tv L P vb vo k n w' := by
  have c3 : w.cell? ⟨p.hb, 3, none⟩ = some (.int .i64 p.room) := cell_of_block h.hblk hp.h3
  have k0 : w.cell? ⟨p.kb, 0, none⟩ = some (.pointer (some ⟨p.hb, 0, none⟩)) := cell_of_block h.kblk rfl
  have k2 : w.cell? ⟨p.kb, 2, none⟩ = some p.fn := cell_of_block h.kblk rfl
  have n1 : vb ≠ p.kb := fun e => hv (.inl e)
  have n2 : vb ≠ p.hb := fun e => hv (.inr (.inl e))
  have n4 : vb ≠ p.wb := fun e => hv (.inr (.inr (.inr (.inl e))))
  have n5 : tv.ownBlock ≠ some vb := fun e => hv (.inr (.inr (.inr (.inr (.inl e)))))
  have n7 : ∀ o ∈ p.O, (p.pl o.addr).1 ≠ vb := fun o ho e => hv (.inr (.inr (.inr (.inr (.inr (.inr ⟨o, ho, e⟩))))))
  have hbig := big_lt
  by_cases hk : k = 4
  · subst hk
    by_cases hf : p.from_ n = true
    · obtain ⟨o, hR, rfl⟩ := hn rfl hf
      have ho := hR.mem
      obtain ⟨X, hX, hXc⟩ := h.src o ho
      have hat0 : ∀ w1 : World, w1.heap = w.heap → Calls Try.prog 19 #[.pointer (some ⟨p.hb, 0, none⟩), .int .i64 (o.addr : Int)] w1 fun e w' => e = .returned (.pointer (some ⟨(p.pl o.addr).1, (p.pl o.addr).2, none⟩)) ∧ ∃ k, w' = w1.drewN k := fun w1 hw => by
        have h2 := at_place hp ho w1 (by rw [hw]; exact h.hblk) 0 (by unfold Ob.len; omega)
        simpa using h2
      by_cases hh : has L o.addr
      · have hm := mark_in p L o hh
        have hml : fwd L p.z o.addr + 1 ≤ big := by
          have h1 := ahead_lt hh
          have h2 := fits h
          have h3 := hp.size
          unfold fwd Par.z
          omega
        have x7 : w.cell? ⟨(p.pl o.addr).1, (p.pl o.addr).2 + 7, none⟩ = some (.int .i64 (p.mark L o)) := cell_of_block hX (by
          have h7 := hXc 0 _ rfl 7 _ rfl
          rw [Nat.zero_mul, Nat.add_zero] at h7
          exact h7)
        have hres : ∀ w' : World, (∃ j, w' = (w.drewN j).setCell ⟨vb, vo + 1, none⟩ (.int .i64 (p.mark L o - 1))) → Moved p w tv L P vb vo 4 (o.addr : Int) w' := by
          rintro w' ⟨j, e⟩
          refine moved_same h (fun _ _ => by rw [Int.toNat_natCast]; exact hh) (j := j) ?_
          rw [if_pos ⟨rfl, hf⟩, e, hm, Int.toNat_natCast]
          congr 2
          omega
        cases hmj : p.maj with
        | true =>
          unfold Par.fn at k2
          rw [hmj] at k2
          exact (move_old_major p.kb p.hb _ _ vb vo (o.addr : Int) (p.mark L o) w k0 k2 v0 v1 vf hat0 (by omega) (by omega) (by omega) x7).mono fun _ w' hw' => ⟨hw'.1, hres w' hw'.2⟩
        | false =>
          unfold Par.fn at k2
          rw [hmj] at k2
          have hr : (o.addr : Int) < (p.room : Int) := by
            unfold Par.from_ at hf
            rw [hmj] at hf
            simpa using hf
          exact (move_old_minor p.kb p.hv p.hb _ _ vb vo (o.addr : Int) (p.mark L o) p.room w k0 k2 (h.hvar hmj) c3 hr v0 v1 vf hat0 (by omega) (by omega) (by omega) x7).mono fun _ w' hw' => ⟨hw'.1, hres w' hw'.2⟩
      · have hm := mark_out p L o hh
        rw [hm] at hXc
        obtain ⟨q1, q2, q3, q4⟩ := hp.pk o ho
        have hlo := fits h
        have hos : total L + o.len ≤ total p.O := by
          have h1 := total_le (O := p.O) (L := L ++ [o]) (by
            rw [List.nodup_append]
            refine ⟨h.nd, by simp, fun a ha b hb' => ?_⟩
            have : b = o := by simpa using hb'
            subst this
            rintro rfl
            exact hh ⟨a, ha, rfl⟩) (fun x hx => by
              rcases List.mem_append.mp hx with hx | hx
              · exact h.inO x hx
              · have : x = o := by simpa using hx
                subst this
                exact ho)
          rw [total_append] at h1
          simpa [total] using h1
        have hsz := hp.size
        have had := hp.addr o ho
        have hid := hp.ids o ho
        have hll := length_le_total L
        have hat : ∀ (w1 : World), w1.heap[p.hb]? = w.heap[p.hb]? → ∀ i : Nat, i < o.len → Calls Try.prog 19 #[.pointer (some ⟨p.hb, 0, none⟩), .int .i64 ((o.addr : Int) + (i : Int))] w1 fun e w' => e = .returned (.pointer (some ⟨(p.pl o.addr).1, (p.pl o.addr).2 + i * 8, none⟩)) ∧ ∃ k, w' = w1.drewN k := fun w1 hw i hi => at_place hp ho w1 (hw.trans h.hblk) i hi
        have hkb := h.kblk
        cases hmj : p.maj with
        | true =>
          unfold Par.fn at hkb
          rw [hmj] at hkb
          have hc := move_new_major p.kb p.hb (p.pl o.addr).1 (p.pl o.addr).2 vb vo p.wb p.B L.length o.addr p.room tv (p.base.length + total L) (hvals (tcells p.from_ p.base L p.z P)) o X (whereOf p.z L (.map []) 0) w
            hkb c3 v0 v1 vf hX hXc hat h.row h.low h.map (by omega) hid.1 hid.2 (by omega) had h.tk h.th (h.ts o ho) n5 h.tw (fun e => hp.kh e.symm) q1 n1 (n7 o ho) q4 hp.wk (fun e => n4 e.symm)
          refine hc.mono fun _ w' hw' => ?_
          obtain ⟨e0, oo, c, w9, e, r1, r2, r3, r4, r5, r6⟩ := hw'
          exact ⟨e0, moved_new hp h hR hh hX e (by unfold Par.fn; rw [hmj]; exact r1) r2 r3 r4 r5 r6⟩
        | false =>
          unfold Par.fn at hkb
          rw [hmj] at hkb
          have hr : (o.addr : Int) < (p.room : Int) := by
            unfold Par.from_ at hf
            rw [hmj] at hf
            simpa using hf
          have hc := move_new_minor p.hv p.kb p.hb (p.pl o.addr).1 (p.pl o.addr).2 vb vo p.wb p.B L.length o.addr p.room tv (p.base.length + total L) (hvals (tcells p.from_ p.base L p.z P)) o X (whereOf p.z L (.map []) 0) w
            hkb (h.hvar hmj) hr c3 v0 v1 vf hX hXc hat h.row h.low h.map (by omega) hid.1 hid.2 (by omega) had h.tk h.th (h.ts o ho) n5 h.tw (fun e => hp.kh e.symm) q1 n1 (n7 o ho) q4 hp.wk (fun e => n4 e.symm)
          refine hc.mono fun _ w' hw' => ?_
          obtain ⟨e0, oo, c, w9, e, r1, r2, r3, r4, r5, r6⟩ := hw'
          exact ⟨e0, moved_new hp h hR hh hX e (by unfold Par.fn; rw [hmj]; exact r1) r2 r3 r4 r5 r6⟩
    · have hmj : p.maj = false := by
        cases hm : p.maj with
        | true => exact absurd (by unfold Par.from_; rw [hm]; rfl) hf
        | false => rfl
      unfold Par.fn at k2
      rw [hmj] at k2
      have hr : (p.room : Int) ≤ n := by
        unfold Par.from_ at hf
        rw [hmj] at hf
        simpa using hf
      refine (move_stays p.kb p.hv p.hb vb vo n p.room w hr k2 (h.hvar hmj) c3 v0 v1).mono ?_
      rintro _ w' ⟨e0, j, rfl⟩
      exact ⟨e0, moved_same h (fun _ h2 => absurd h2 hf) (j := j) (by rw [if_neg (fun h => hf h.2)])⟩
  · refine (move_not p.kb vb vo k w hk v0).mono ?_
    rintro _ w' ⟨e0, j, rfl⟩
    exact ⟨e0, moved_same h (fun h2 => absurd h2 hk) (j := j) (by rw [if_neg (fun h => hk h.1)])⟩
end Go.Proofs.Ythbkklnahhdgcaa.ChG
