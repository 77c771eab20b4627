/-
  Package heap's collector: field over the collector at work.
-/
import Derived.Test.YthbkklnahhdgcaaMMC
import Derived.Laws.OwnMore
namespace Go.Proofs.Ythbkklnahhdgcaa.ChH
open Go Go.Proofs Go.RowKit Go.Proofs.Ythbkklnahhdgcaa.Lib Go.Proofs.Ythbkklnahhdgcaa.HeapR Go.Proofs.Ythbkklnahhdgcaa.HeapA Go.Proofs.Ythbkklnahhdgcaa.ChA Go.Proofs.Ythbkklnahhdgcaa.ChB Go.Proofs.Ythbkklnahhdgcaa.ChT Go.Proofs.Ythbkklnahhdgcaa.ChCa Go.Proofs.Ythbkklnahhdgcaa.ChCc Go.Proofs.Ythbkklnahhdgcaa.ChCd Go.Proofs.Ythbkklnahhdgcaa.ChD Go.Proofs.Ythbkklnahhdgcaa.ChE Go.Proofs.Ythbkklnahhdgcaa.ChF Go.Proofs.Ythbkklnahhdgcaa.ChG

/-- The blocks that a collector turns. -/
def Tset (p : Par) (tv : Value) (j : Nat) : Prop := j = p.kb ∨ j = p.wb ∨ tv.ownBlock = some j ∨ ∃ o ∈ p.O, (p.pl o.addr).1 = j
theorem own_lt_size {p : Par} {w : World} {tv : Value} {L : List Ob} {P : Nat → Bool} (h : CR p w tv L P) {k : Nat} (hk : Own p tv k) : k < w.heap.size := by
  rcases hk with rfl | rfl | rfl | rfl | hk | rfl | ⟨o, ho, rfl⟩
  · exact lt_of_block h.kblk
  · exact lt_of_block h.hblk
  · exact h.hvl
  · exact h.map.lt
  · exact (own_lt h.row hk).2
  · obtain ⟨N, _, h2⟩ := h.nurs
    exact lt_of_block h2
  · obtain ⟨X, h2, _⟩ := h.src o ho
    exact lt_of_block h2
theorem row_slice {w : World} {base e size : Nat} {v : Value} {n : Nat} {xs : List Value} (h : w.ownsRow base e size v n xs) (h0 : 0 < n) : ∃ g c, v = .slice (some ⟨g, 0, none⟩) n c := by
  rcases h.2 with ⟨_, h1⟩ | ⟨g, cap, cur, rfl, _⟩
  · omega
  · exact ⟨g, cap, rfl⟩
theorem set3_fix {from_ : Int → Bool} {L : List Ob} {z : Nat} {c d : HCell} {l : List HCell} {i : Nat} (hi : l[i]? = some d) (hd : ∃ n, d = { c with vn := n }) (vn : Int) (hv : vn = (fix from_ L z c).vn) :
    (((hvals l).set (i * 8 + 4) (.int .i64 c.vk)).set (i * 8 + 4 + 1) (.int .i64 vn)).set (i * 8 + 4 + 2) (.string c.vs) = hvals (l.set i (fix from_ L z c)) := by
  have hlt := (List.getElem?_eq_some_iff.1 hi).1
  rw [hvals_set3 l i c.vk vn c.vs hlt]
  congr 1
  subst hv
  obtain ⟨n, rfl⟩ := hd
  refine List.ext_getElem? fun j => ?_
  rw [List.getElem?_modify, List.getElem?_set]
  by_cases hj : i = j
  · subst hj
    rw [hi, if_pos rfl, if_pos hlt]
    simp only [Option.map_eq_map, Option.map_some, if_true]
    congr 1
    unfold fix
    split <;> rfl
  · rw [if_neg hj]
    cases l[j]? with
    | none => rfl
    | some x => simp [hj]
theorem fix_vn (from_ : Int → Bool) (L : List Ob) (z : Nat) (c : HCell) : ∃ n, fix from_ L z c = { c with vn := n } := by
  unfold fix
  split
  · exact ⟨_, rfl⟩
  · exact ⟨c.vn, rfl⟩
/-- A cell of 'to' as it is. -/
theorem tcell_now {p : Par} {L : List Ob} {P : Nat → Bool} {i : Nat} {c : HCell} (hc : (p.base ++ flat L)[i]? = some c) : (tcells p.from_ p.base L p.z P)[i]? = some (if P i = true then fix p.from_ L p.z c else c) := by
  rw [tcells_get, hc, Option.map_some]
theorem now_vn (p : Par) (L : List Ob) (P : Nat → Bool) (i : Nat) (c : HCell) : ∃ n, (if P i = true then fix p.from_ L p.z c else c) = { c with vn := n } := by
  split
  · exact fix_vn _ _ _ _
  · exact ⟨c.vn, rfl⟩

/-- The cell is fixed. -/
theorem cr_fix {p : Par} {w : World} {tv : Value} {L : List Ob} {P : Nat → Bool} (h : CR p w tv L P) {i : Nat} {c : HCell} (hc : (p.base ++ flat L)[i]? = some c) (hh : c.vk = 4 → p.from_ c.vn = true → has L c.vn.toNat) {g cap : Nat} (htv : tv = .slice (some ⟨g, 0, none⟩) (p.base.length + total L) cap) {vn : Int} (hvn : vn = (fix p.from_ L p.z c).vn) {w' : World}
    (hw : w' = ((w.setCell ⟨g, i * 8 + 4, none⟩ (.int .i64 c.vk)).setCell ⟨g, i * 8 + 4 + 1, none⟩ (.int .i64 vn)).setCell ⟨g, i * 8 + 4 + 2, none⟩ (.string c.vs)) : CR p w' tv L (with1 P i) := by
  subst hw
  have hrow := h.row
  rw [htv] at hrow
  have r1 := (hrow.stored (i * 8 + 4) (.int .i64 c.vk)).1
  have r2 := (r1.stored (i * 8 + 4 + 1) (.int .i64 vn)).1
  have r3 := (r2.stored (i * 8 + 4 + 2) (.string c.vs)).1
  have ht := tcell_now (p := p) (P := P) hc
  rw [set3_fix ht (now_vn p L P i c) vn hvn, ← tcells_with1 hc, ← htv] at r3
  have hne : ∀ k, tv.ownBlock ≠ some k → (((w.setCell ⟨g, i * 8 + 4, none⟩ (.int .i64 c.vk)).setCell ⟨g, i * 8 + 4 + 1, none⟩ (.int .i64 vn)).setCell ⟨g, i * 8 + 4 + 2, none⟩ (.string c.vs)).heap[k]? = w.heap[k]? := fun k hk => by
    have hkg : k ≠ g := fun e => hk (by rw [htv, e]; rfl)
    rw [blk_ne hkg, blk_ne hkg, blk_ne hkg]
  exact {
    kblk := (hne _ h.tk).trans h.kblk
    hblk := (hne _ h.th).trans h.hblk
    hvar := fun hm => (World.cell?_of_block (a := ⟨p.hv, 0, none⟩) (hne _ h.tvv)).trans (h.hvar hm)
    row := r3
    map := HeapF.ownsMap_same h.map (hne _ h.tw)
    src := fun o ho => by
      obtain ⟨X, h1, h2⟩ := h.src o ho
      exact ⟨X, (hne _ (h.ts o ho)).trans h1, h2⟩
    led := led_with1 h.led hc hh
    lt := fun j hj => by
      unfold with1 at hj
      rcases Bool.or_eq_true _ _ ▸ hj with hj | hj
      · exact h.lt j hj
      · have e : j = i := by simpa using hj
        subst e
        have := (List.getElem?_eq_some_iff.1 hc).1
        rw [List.length_append, flat_length] at this
        exact this
    inO := h.inO
    nd := h.nd
    come := h.come
    nurs := by
      obtain ⟨N, h1, h2⟩ := h.nurs
      exact ⟨N, h1, (hne _ h.tn).trans h2⟩
    low := by simpa using h.low
    hvl := by simpa using h.hvl
    tk := h.tk
    th := h.th
    tw := h.tw
    ts := h.ts
    tn := h.tn
    tvv := h.tvv }

theorem cell_set_at {w : World} {p : Addr} {v : Value} (h : w.cell? p = some v) (u : Value) : (w.setCell p u).cell? p = some u := by
  go_simp
theorem cell_set_ne {w : World} {p q : Addr} (h : p ≠ q) {u : Value} : (w.setCell q u).cell? p = w.cell? p := by
  rw [World.cell?_setCell_other]
  exact Ne.symm h
/-- The value behind move. -/
def newN (p : Par) (L : List Ob) (k n : Int) : Int := if k = 4 ∧ p.from_ n = true then ((fwd L p.z n.toNat : Nat) : Int) else n
theorem moved_var {p : Par} {w1 w2 : World} {tv : Value} {L : List Ob} {P : Nat → Bool} {vb vo : Nat} {k n : Int} {s : ByteArray} (hM : Moved p w1 tv L P vb vo k n w2) (hv : ¬ Own p tv vb)
    (v0 : w1.cell? ⟨vb, vo, none⟩ = some (.int .i64 k)) (v1 : w1.cell? ⟨vb, vo + 1, none⟩ = some (.int .i64 n)) (v2 : w1.cell? ⟨vb, vo + 2, none⟩ = some (.string s)) :
    ∃ tv' K, CR p w2 tv' (L ++ K) P ∧ (k = 4 → p.from_ n = true → has (L ++ K) n.toNat) ∧ w2.cell? ⟨vb, vo, none⟩ = some (.int .i64 k) ∧ w2.cell? ⟨vb, vo + 1, none⟩ = some (.int .i64 (newN p (L ++ K) k n)) ∧ w2.cell? ⟨vb, vo + 2, none⟩ = some (.string s) ∧
      (∃ w9, Turned (Tset p tv) w1 w9 ∧ (w2 = w9 ∨ w2 = w9.setCell ⟨vb, vo + 1, none⟩ (.int .i64 (newN p (L ++ K) k n)))) ∧ (∀ j, tv'.ownBlock = some j → tv.ownBlock = some j ∨ w1.heap.size ≤ j) ∧ ¬ Own p tv' vb := by
  obtain ⟨tv', K, w9, hC, hh, e, hT, ho⟩ := hM
  have hvl : vb < w1.heap.size := World.block_lt_of_cell? w1 _ v0
  have hv' : ¬ Own p tv' vb := by
    intro h'
    rcases h' with h' | h' | h' | h' | h' | h' | h'
    · exact hv (.inl h')
    · exact hv (.inr (.inl h'))
    · exact hv (.inr (.inr (.inl h')))
    · exact hv (.inr (.inr (.inr (.inl h'))))
    · rcases ho _ h' with h2 | h2
      · exact hv (.inr (.inr (.inr (.inr (.inl h2)))))
      · omega
    · exact hv (.inr (.inr (.inr (.inr (.inr (.inl h'))))))
    · exact hv (.inr (.inr (.inr (.inr (.inr (.inr h'))))))
  have hb9 : w9.heap[vb]? = w1.heap[vb]? := hT.block vb hvl (fun h' => hv (by
    rcases h' with h' | h' | h' | h'
    · exact .inl h'
    · exact .inr (.inr (.inr (.inl h')))
    · exact .inr (.inr (.inr (.inr (.inl h'))))
    · exact .inr (.inr (.inr (.inr (.inr (.inr h')))))))
  have c0 : w9.cell? ⟨vb, vo, none⟩ = some (.int .i64 k) := (World.cell?_of_block (a := ⟨vb, vo, none⟩) hb9).trans v0
  have c1 : w9.cell? ⟨vb, vo + 1, none⟩ = some (.int .i64 n) := (World.cell?_of_block (a := ⟨vb, vo + 1, none⟩) hb9).trans v1
  have c2 : w9.cell? ⟨vb, vo + 2, none⟩ = some (.string s) := (World.cell?_of_block (a := ⟨vb, vo + 2, none⟩) hb9).trans v2
  by_cases hk : k = 4 ∧ p.from_ n = true
  · rw [if_pos hk] at e
    subst e
    have hn : newN p (L ++ K) k n = ((fwd (L ++ K) p.z n.toNat : Nat) : Int) := by unfold newN; rw [if_pos hk]
    refine ⟨tv', K, hC.same (fun j hj => blk_ne (fun e => hv' (show Own p tv' vb from (show j = vb from e) ▸ hj))) (by simp), hh, ?_, ?_, ?_, ⟨w9, hT, Or.inr (by rw [hn])⟩, ho, hv'⟩
    · rw [cell_set_ne (by simp)]
      exact c0
    · rw [hn]
      exact cell_set_at c1 _
    · rw [cell_set_ne (by simp)]
      exact c2
  · rw [if_neg hk] at e
    subst e
    have hn : newN p (L ++ K) k n = n := by unfold newN; rw [if_neg hk]
    exact ⟨tv', K, hC, hh, c0, by rw [hn]; exact c1, c2, ⟨_, hT, Or.inl rfl⟩, ho, hv'⟩

set_option maxRecDepth 100000 in
set_option maxHeartbeats 1000000 in
theorem field_any {p : Par} (hp : p.OK) {w : World} {tv : Value} {L : List Ob} {P : Nat → Bool} (h : CR p w tv L P) (i : Nat) (c : HCell) (hc : (p.base ++ flat L)[i]? = some c) (hn : c.vk = 4 → p.from_ c.vn = true → ∃ o, Leads p o ∧ c.vn = (o.addr : Int)) (hm : P i = true → p.maj = false) :
    Calls Try.prog 24 #[.pointer (some ⟨p.kb, 0, none⟩), .int .i64 (i : Int)] w fun e w' => e = .returned (.tuple #[]) ∧ ∃ tv' K, CR p w' tv' (L ++ K) (with1 P i) ∧ Turned (Tset p tv) w w' ∧ ∀ j, tv'.ownBlock = some j → tv.ownBlock = some j ∨ w.heap.size ≤ j := by
  have hil : i < p.base.length + total L := by
    have := (List.getElem?_eq_some_iff.1 hc).1
    rw [List.length_append, flat_length] at this
    exact this
  have ht := tcell_now (p := p) (P := P) hc
  obtain ⟨dn, hd⟩ := now_vn p L P i c
  have hdn : c.vk = 4 → p.from_ dn = true → P i = false ∧ dn = c.vn := fun h1 h2 => by
    cases hP : P i with
    | false =>
      rw [hP, if_neg Bool.false_ne_true] at hd
      exact ⟨rfl, (congrArg HCell.vn hd).symm⟩
    | true =>
      exfalso
      rw [hP, if_pos rfl] at hd
      have e : dn = (fix p.from_ L p.z c).vn := (congrArg HCell.vn hd).symm
      unfold fix at e
      by_cases hf : c.vk = 4 ∧ p.from_ c.vn = true
      · rw [if_pos hf] at e
        subst e
        unfold Par.from_ at h2
        rw [hm hP] at h2
        have h3 : ((fwd L p.z c.vn.toNat : Nat) : Int) < (p.room : Int) := by simpa using h2
        unfold fwd Par.z at h3
        omega
      · rw [if_neg hf] at e
        subst e
        exact hf ⟨h1, h2⟩
  rw [hd] at ht
  obtain ⟨g, cap, htv⟩ := row_slice h.row (by omega)
  have hrow := h.row
  rw [htv] at hrow
  have hcell : ∀ j, j < 8 → w.cell? ⟨g, i * 8 + j, none⟩ = ({ c with vn := dn } : HCell).vals[j]? := fun j hj => by
    rw [hrow.cellAt (i * 8 + j) (by omega)]
    exact hvals_get _ i j _ ht hj
  have g4 : w.cell? ⟨g, i * 8 + 4, none⟩ = some (.int .i64 c.vk) := hcell 4 (by omega)
  have g5 : w.cell? ⟨g, i * 8 + 4 + 1, none⟩ = some (.int .i64 dn) := hcell 5 (by omega)
  have g6 : w.cell? ⟨g, i * 8 + 4 + 2, none⟩ = some (.string c.vs) := hcell 6 (by omega)
  have k1 : w.cell? ⟨p.kb, 1, none⟩ = some (.slice (some ⟨g, 0, none⟩) (p.base.length + total L) cap) := by
    rw [← htv]
    exact cell_of_block h.kblk rfl
  have hlt' : (i : Int) < ((p.base.length + total L : Nat) : Int) := by omega
  clear hcell
  go_enter Try.func24, Try.ntmps24
  go_wp2_with fail
  have h1 : CR p (w.alloc (.cells #[.int .i64 c.vk, .int .i64 dn, .string c.vs] 34 (0, 0))) tv L P := h.same (fun k hk => Below.heap_alloc _ _ _ (own_lt_size h hk)) (by simp)
  have hvo : ¬ Own p tv w.heap.size := fun hk => Nat.lt_irrefl _ (own_lt_size h hk)
  have a0 : (w.alloc (.cells #[.int .i64 c.vk, .int .i64 dn, .string c.vs] 34 (0, 0))).cell? ⟨w.heap.size, 0, none⟩ = some (.int .i64 c.vk) := cell_of_block (heap_alloc_last w _) rfl
  have a1 : (w.alloc (.cells #[.int .i64 c.vk, .int .i64 dn, .string c.vs] 34 (0, 0))).cell? ⟨w.heap.size, 0 + 1, none⟩ = some (.int .i64 dn) := cell_of_block (heap_alloc_last w _) rfl
  have a2 : (w.alloc (.cells #[.int .i64 c.vk, .int .i64 dn, .string c.vs] 34 (0, 0))).cell? ⟨w.heap.size, 0 + 2, none⟩ = some (.string c.vs) := cell_of_block (heap_alloc_last w _) rfl
  have af : (w.alloc (.cells #[.int .i64 c.vk, .int .i64 dn, .string c.vs] 34 (0, 0))).frozen? ⟨w.heap.size, 0 + 1, none⟩ = false := frozen_of_block (heap_alloc_last w _)
  refine (move_any hp h1 w.heap.size 0 c.vk dn a0 a1 af hvo (fun h1 h2 => by have e := (hdn h1 h2).2; rw [e] at h2 ⊢; exact hn h1 h2)).mono ?_
  rintro e w2 ⟨rfl, hM⟩
  obtain ⟨tv', K, hC2, hh2, b0, b1, b2, ⟨w9, hT9, hw2⟩, ho2, hv2⟩ := moved_var hM hvo a0 a1 a2
  have b1' : w2.cell? ⟨w.heap.size, 1, none⟩ = some (.int .i64 (newN p (L ++ K) c.vk dn)) := b1
  have b2' : w2.cell? ⟨w.heap.size, 2, none⟩ = some (.string c.vs) := b2
  clear b1 b2
  have hc2 : (p.base ++ flat (L ++ K))[i]? = some c := by
    rw [flat_append, ← List.append_assoc, List.getElem?_append_left (by rw [List.length_append, flat_length]; exact hil)]
    exact hc
  obtain ⟨dn2, hd2⟩ := now_vn p (L ++ K) P i c
  have ht2 := tcell_now (p := p) (P := P) hc2
  rw [hd2] at ht2
  have hil2 : i < p.base.length + total (L ++ K) := by
    rw [total_append]
    omega
  obtain ⟨g2, cap2, htv2⟩ := row_slice hC2.row (by omega)
  have hrow2 := hC2.row
  rw [htv2] at hrow2
  have hcell2 : ∀ j, j < 8 → w2.cell? ⟨g2, i * 8 + j, none⟩ = ({ c with vn := dn2 } : HCell).vals[j]? := fun j hj => by
    rw [hrow2.cellAt (i * 8 + j) (by omega)]
    exact hvals_get _ i j _ ht2 hj
  have q4 : w2.cell? ⟨g2, i * 8 + 4, none⟩ = some (.int .i64 c.vk) := hcell2 4 (by omega)
  have q5 : w2.cell? ⟨g2, i * 8 + 4 + 1, none⟩ = some (.int .i64 dn2) := hcell2 5 (by omega)
  have q6 : w2.cell? ⟨g2, i * 8 + 4 + 2, none⟩ = some (.string c.vs) := hcell2 6 (by omega)
  have f4 : w2.frozen? ⟨g2, i * 8 + 4, none⟩ = false := hrow2.frozenAt _
  have f5 : w2.frozen? ⟨g2, i * 8 + 4 + 1, none⟩ = false := hrow2.frozenAt _
  have f6 : w2.frozen? ⟨g2, i * 8 + 4 + 2, none⟩ = false := hrow2.frozenAt _
  have k1' : w2.cell? ⟨p.kb, 1, none⟩ = some (.slice (some ⟨g2, 0, none⟩) (p.base.length + total (L ++ K)) cap2) := by
    rw [← htv2]
    exact cell_of_block hC2.kblk rfl
  have hlt2 : (i : Int) < ((p.base.length + total (L ++ K) : Nat) : Int) := by omega
  have hvn : newN p (L ++ K) c.vk dn = (fix p.from_ (L ++ K) p.z c).vn := by
    cases hP : P i with
    | false =>
      rw [hP, if_neg Bool.false_ne_true] at hd
      have e : dn = c.vn := (congrArg HCell.vn hd).symm
      subst e
      unfold newN fix
      split <;> rfl
    | true =>
      rw [hP, if_pos rfl] at hd
      have e : dn = (fix p.from_ L p.z c).vn := (congrArg HCell.vn hd).symm
      rw [fix_grow (h.led i c hP hc), ← e]
      unfold newN
      rw [if_neg (fun h' => by have h2 := (hdn h'.1 h'.2).1; rw [hP] at h2; cases h2)]
  have hh3 : c.vk = 4 → p.from_ c.vn = true → has (L ++ K) c.vn.toNat := fun h1 h2 => by
    cases hP : P i with
    | false =>
      rw [hP, if_neg Bool.false_ne_true] at hd
      have e : dn = c.vn := (congrArg HCell.vn hd).symm
      rw [← e] at h2 ⊢
      exact hh2 h1 h2
    | true => exact has_append.mpr (Or.inl (h.led i c hP hc h1 h2))
  have hfin := fun {w'} hw => cr_fix (w' := w') hC2 hc2 hh3 htv2 hvn hw
  have hTf : Turned (Tset p tv) w ((((w2.setCell ⟨g2, i * 8 + 4, none⟩ (.int .i64 c.vk)).setCell ⟨g2, i * 8 + 4 + 1, none⟩ (.int .i64 (newN p (L ++ K) c.vk dn))).setCell ⟨g2, i * 8 + 4 + 2, none⟩ (.string c.vs))) := by
    have ha : Turned (Tset p tv) w (w.alloc (.cells #[.int .i64 c.vk, .int .i64 dn, .string c.vs] 34 (0, 0))) := (Turned.refl _ w).alloc _
    have h9 := ha.trans hT9
    have h2 : Turned (Tset p tv) w w2 := by
      rcases hw2 with rfl | rfl
      · exact h9
      · exact h9.setCell (Or.inr (Nat.le_refl _)) _
    have hg : Tset p tv g2 ∨ w.heap.size ≤ g2 := by
      rcases ho2 g2 (by rw [htv2]; rfl) with h' | h'
      · exact Or.inl (Or.inr (Or.inr (Or.inl h')))
      · exact Or.inr (by simp at h'; omega)
    exact ((h2.setCell hg _).setCell hg _).setCell hg _
  have hof : ∀ j, tv'.ownBlock = some j → tv.ownBlock = some j ∨ w.heap.size ≤ j := fun j hj => (ho2 j hj).imp id (fun h' => by simp at h'; omega)
  have hl0 : (0 : Int) ≤ (i : Int) := by omega
  generalize p.base.length + total (L ++ K) = n2 at htv2 k1' hlt2
  clear hcell2 hT9 hw2 hM hn hc ht hd hd2 hdn hh3 hm g4 g5 g6 k1 a0 a1 a2 af hvn h1 hvo hh2 hv2 ho2 hrow2 ht2 hil2 hc2 hrow hil h
  go_wp2_with fail
  go_still_tail 8, (by kernel_rfl)
  repeat still_step
  try refine wpStill_nil ?_
  change wpList _ _ _ _ _ w2.drew
  go_wp2
  refine bodyPost_end (results_none Try.results24 _ _ _) rfl ?_
  exact ⟨rfl, tv', K, (hfin rfl).drewN 1, hTf.drew, hof⟩
end Go.Proofs.Ythbkklnahhdgcaa.ChH
