/-
  Package heap's collector: move over the collector at work, whatever the value.
-/
import Derived.Test.YthbkklnahhdgcaaDoorPG03
import Derived.Laws.OwnMore
import Derived.Test.YthbkklnahhdgcaaDoorPG02
set_option maxRecDepth 100000
set_option maxHeartbeats 4000000
namespace Go.Proofs.YthbkklnahhdgcaaDoor.ChG
open Go Go.Proofs Go.RowKit Go.Proofs.YthbkklnahhdgcaaDoor.Lib HeapR HeapA ChA ChB ChT ChCa ChCc ChCd ChD ChE ChF

theorem moved_same {p : Par} {w : World} {tv : Value} {L : List Ob} {P : Nat → Bool} (h : CR p w tv L P) {vb vo : Nat} {k n : Int} (hk : k = 4 → p.from_ n = true → has L n.toNat) {w' : World} {j : Nat}
    (e : w' = (if k = 4 ∧ p.from_ n = true then (w.drewN j).setCell ⟨vb, vo + 1, none⟩ (.int .i64 ((fwd L p.z n.toNat : Nat) : Int)) else w.drewN j)) : Moved p w tv L P vb vo k n w' := by
  refine ⟨tv, [], w.drewN j, ?_, ?_, ?_, (Turned.refl _ w).drewN j, fun _ h => Or.inl h⟩
  · rw [List.append_nil]; exact h.drewN j
  · rw [List.append_nil]; exact hk
  · rw [List.append_nil]; exact e

theorem move_any {p : Par} (hp : p.OK) {w : World} {tv : Value} {L : List Ob} {P : Nat → Bool} (h : CR p w tv L P) (vb vo : Nat) (k n : Int) (v0 : w.cell? ⟨vb, vo, none⟩ = some (.int .i64 k)) (v1 : w.cell? ⟨vb, vo + 1, none⟩ = some (.int .i64 n)) (vf : w.frozen? ⟨vb, vo + 1, none⟩ = false)
    (hv : ¬ Own p tv vb) (hn : k = 4 → p.from_ n = true → ∃ o, Leads p o ∧ n = (o.addr : Int)) :
    Calls Tryd.prog 109 #[.pointer (some ⟨p.kb, 0, none⟩), .pointer (some ⟨vb, vo, none⟩)] w fun e w' => e = .returned (.tuple #[]) ∧ Moved p w tv L P vb vo k n w' := by
  have c3 : w.cell? ⟨p.hb, 3, none⟩ = some (.int .i64 p.room) := cell_of_block h.hblk hp.h3
  have k0 : w.cell? ⟨p.kb, 0, none⟩ = some (.pointer (some ⟨p.hb, 0, none⟩)) := cell_of_block h.kblk rfl
  have k2 : w.cell? ⟨p.kb, 2, none⟩ = some p.fn := cell_of_block h.kblk rfl
  have n1 : vb ≠ p.kb := fun e => hv (.inl e)
  have n2 : vb ≠ p.hb := fun e => hv (.inr (.inl e))
  have n4 : vb ≠ p.wb := fun e => hv (.inr (.inr (.inr (.inl e))))
  have n5 : tv.ownBlock ≠ some vb := fun e => hv (.inr (.inr (.inr (.inr (.inl e)))))
  have n7 : ∀ o ∈ p.O, (p.pl o.addr).1 ≠ vb := fun o ho e => hv (.inr (.inr (.inr (.inr (.inr (.inr ⟨o, ho, e⟩))))))
  have hbig := big_lt
  by_cases hk : k = 4
  · subst hk
    by_cases hf : p.from_ n = true
    · obtain ⟨o, hR, rfl⟩ := hn rfl hf
      have ho := hR.mem
      obtain ⟨X, hX, hXc⟩ := h.src o ho
      have hat0 : ∀ w1 : World, w1.heap = w.heap → Calls Tryd.prog 36 #[.pointer (some ⟨p.hb, 0, none⟩), .int .i64 (o.addr : Int)] w1 fun e w' => e = .returned (.pointer (some ⟨(p.pl o.addr).1, (p.pl o.addr).2, none⟩)) ∧ ∃ k, w' = w1.drewN k := fun w1 hw => by
        have h2 := at_place hp ho w1 (by rw [hw]; exact h.hblk) 0 (by unfold Ob.len; omega)
        simpa using h2
      by_cases hh : has L o.addr
      · have hm := mark_in p L o hh
        have hml : fwd L p.z o.addr + 1 ≤ big := by
          have h1 := ahead_lt hh
          have h2 := fits h
          have h3 := hp.size
          unfold fwd Par.z
          omega
        have x7 : w.cell? ⟨(p.pl o.addr).1, (p.pl o.addr).2 + 7, none⟩ = some (.int .i64 (p.mark L o)) := cell_of_block hX (by
          have h7 := hXc 0 _ rfl 7 _ rfl
          rw [Nat.zero_mul, Nat.add_zero] at h7
          exact h7)
        have hres : ∀ w' : World, (∃ j, w' = (w.drewN j).setCell ⟨vb, vo + 1, none⟩ (.int .i64 (p.mark L o - 1))) → Moved p w tv L P vb vo 4 (o.addr : Int) w' := by
          rintro w' ⟨j, e⟩
          refine moved_same h (fun _ _ => by rw [Int.toNat_natCast]; exact hh) (j := j) ?_
          rw [if_pos ⟨rfl, hf⟩, e, hm, Int.toNat_natCast]
          congr 2
          omega
        cases hmj : p.maj with
        | true =>
          unfold Par.fn at k2
          rw [hmj] at k2
          exact (move_old_major p.kb p.hb _ _ vb vo (o.addr : Int) (p.mark L o) w k0 k2 v0 v1 vf hat0 (by omega) (by omega) (by omega) x7).mono fun _ w' hw' => ⟨hw'.1, hres w' hw'.2⟩
        | false =>
          unfold Par.fn at k2
          rw [hmj] at k2
          have hr : (o.addr : Int) < (p.room : Int) := by
            unfold Par.from_ at hf
            rw [hmj] at hf
            simpa using hf
          exact (move_old_minor p.kb p.hv p.hb _ _ vb vo (o.addr : Int) (p.mark L o) p.room w k0 k2 (h.hvar hmj) c3 hr v0 v1 vf hat0 (by omega) (by omega) (by omega) x7).mono fun _ w' hw' => ⟨hw'.1, hres w' hw'.2⟩
      · have hm := mark_out p L o hh
        rw [hm] at hXc
        obtain ⟨q1, q2, q3, q4⟩ := hp.pk o ho
        have hlo := fits h
        have hos : total L + o.len ≤ total p.O := by
          have h1 := total_le (O := p.O) (L := L ++ [o]) (by
            rw [List.nodup_append]
            refine ⟨h.nd, by simp, fun a ha b hb' => ?_⟩
            have : b = o := by simpa using hb'
            subst this
            rintro rfl
            exact hh ⟨a, ha, rfl⟩) (fun x hx => by
              rcases List.mem_append.mp hx with hx | hx
              · exact h.inO x hx
              · have : x = o := by simpa using hx
                subst this
                exact ho)
          rw [total_append] at h1
          simpa [total] using h1
        have hsz := hp.size
        have had := hp.addr o ho
        have hid := hp.ids o ho
        have hll := length_le_total L
        have hat : ∀ (w1 : World), w1.heap[p.hb]? = w.heap[p.hb]? → ∀ i : Nat, i < o.len → Calls Tryd.prog 36 #[.pointer (some ⟨p.hb, 0, none⟩), .int .i64 ((o.addr : Int) + (i : Int))] w1 fun e w' => e = .returned (.pointer (some ⟨(p.pl o.addr).1, (p.pl o.addr).2 + i * 8, none⟩)) ∧ ∃ k, w' = w1.drewN k := fun w1 hw i hi => at_place hp ho w1 (hw.trans h.hblk) i hi
        have hkb := h.kblk
        cases hmj : p.maj with
        | true =>
          unfold Par.fn at hkb
          rw [hmj] at hkb
          have hc := move_new_major p.kb p.hb (p.pl o.addr).1 (p.pl o.addr).2 vb vo p.wb p.B L.length o.addr p.room tv (p.base.length + total L) (hvals (tcells p.from_ p.base L p.z P)) o X (whereOf p.z L (.map []) 0) w
            hkb c3 v0 v1 vf hX hXc hat h.row h.low h.map (by omega) hid.1 hid.2 (by omega) had h.tk h.th (h.ts o ho) n5 h.tw (fun e => hp.kh e.symm) q1 n1 (n7 o ho) q4 hp.wk (fun e => n4 e.symm)
          refine hc.mono fun _ w' hw' => ?_
          obtain ⟨e0, oo, c, w9, e, r1, r2, r3, r4, r5, r6⟩ := hw'
          exact ⟨e0, moved_new hp h hR hh hX e (by unfold Par.fn; rw [hmj]; exact r1) r2 r3 r4 r5 r6⟩
        | false =>
          unfold Par.fn at hkb
          rw [hmj] at hkb
          have hr : (o.addr : Int) < (p.room : Int) := by
            unfold Par.from_ at hf
            rw [hmj] at hf
            simpa using hf
          have hc := move_new_minor p.hv p.kb p.hb (p.pl o.addr).1 (p.pl o.addr).2 vb vo p.wb p.B L.length o.addr p.room tv (p.base.length + total L) (hvals (tcells p.from_ p.base L p.z P)) o X (whereOf p.z L (.map []) 0) w
            hkb (h.hvar hmj) hr c3 v0 v1 vf hX hXc hat h.row h.low h.map (by omega) hid.1 hid.2 (by omega) had h.tk h.th (h.ts o ho) n5 h.tw (fun e => hp.kh e.symm) q1 n1 (n7 o ho) q4 hp.wk (fun e => n4 e.symm)
          refine hc.mono fun _ w' hw' => ?_
          obtain ⟨e0, oo, c, w9, e, r1, r2, r3, r4, r5, r6⟩ := hw'
          exact ⟨e0, moved_new hp h hR hh hX e (by unfold Par.fn; rw [hmj]; exact r1) r2 r3 r4 r5 r6⟩
    · have hmj : p.maj = false := by
        cases hm : p.maj with
        | true => exact absurd (by unfold Par.from_; rw [hm]; rfl) hf
        | false => rfl
      unfold Par.fn at k2
      rw [hmj] at k2
      have hr : (p.room : Int) ≤ n := by
        unfold Par.from_ at hf
        rw [hmj] at hf
        simpa using hf
      refine (move_stays p.kb p.hv p.hb vb vo n p.room w hr k2 (h.hvar hmj) c3 v0 v1).mono ?_
      rintro _ w' ⟨e0, j, rfl⟩
      exact ⟨e0, moved_same h (fun _ h2 => absurd h2 hf) (j := j) (by rw [if_neg (fun h => hf h.2)])⟩
  · refine (move_not p.kb vb vo k w hk v0).mono ?_
    rintro _ w' ⟨e0, j, rfl⟩
    exact ⟨e0, moved_same h (fun h2 => absurd h2 hk) (j := j) (by rw [if_neg (fun h => hk h.1)])⟩
end Go.Proofs.YthbkklnahhdgcaaDoor.ChG

namespace Go.Proofs.YthbkklnahhdgcaaDoor.ChH
open Go Go.Proofs Go.RowKit Go.Proofs.YthbkklnahhdgcaaDoor.Lib HeapR HeapA ChA ChB ChT ChCa ChCc ChCd ChD ChE ChF ChG

/-- The blocks that a collector turns. -/
def Tset (p : Par) (tv : Value) (j : Nat) : Prop := j = p.kb ∨ j = p.wb ∨ tv.ownBlock = some j ∨ ∃ o ∈ p.O, (p.pl o.addr).1 = j
theorem own_lt_size {p : Par} {w : World} {tv : Value} {L : List Ob} {P : Nat → Bool} (h : CR p w tv L P) {k : Nat} (hk : Own p tv k) : k < w.heap.size := by
  rcases hk with rfl | rfl | rfl | rfl | hk | rfl | ⟨o, ho, rfl⟩
  · exact lt_of_block h.kblk
  · exact lt_of_block h.hblk
  · exact h.hvl
  · exact h.map.lt
  · exact (own_lt h.row hk).2
  · obtain ⟨N, _, h2⟩ := h.nurs
    exact lt_of_block h2
  · obtain ⟨X, h2, _⟩ := h.src o ho
    exact lt_of_block h2
theorem row_slice {w : World} {base e size : Nat} {v : Value} {n : Nat} {xs : List Value} (h : w.ownsRow base e size v n xs) (h0 : 0 < n) : ∃ g c, v = .slice (some ⟨g, 0, none⟩) n c := by
  rcases h.2 with ⟨_, h1⟩ | ⟨g, cap, cur, rfl, _⟩
  · omega
  · exact ⟨g, cap, rfl⟩
theorem set3_fix {from_ : Int → Bool} {L : List Ob} {z : Nat} {c d : HCell} {l : List HCell} {i : Nat} (hi : l[i]? = some d) (hd : ∃ n, d = { c with vn := n }) (vn : Int) (hv : vn = (fix from_ L z c).vn) :
    (((hvals l).set (i * 8 + 4) (.int .i64 c.vk)).set (i * 8 + 4 + 1) (.int .i64 vn)).set (i * 8 + 4 + 2) (.string c.vs) = hvals (l.set i (fix from_ L z c)) := by
  have hlt := (List.getElem?_eq_some_iff.1 hi).1
  rw [hvals_set3 l i c.vk vn c.vs hlt]
  congr 1
  subst hv
  obtain ⟨n, rfl⟩ := hd
  refine List.ext_getElem? fun j => ?_
  rw [List.getElem?_modify, List.getElem?_set]
  by_cases hj : i = j
  · subst hj
    rw [hi, if_pos rfl, if_pos hlt]
    simp only [Option.map_eq_map, Option.map_some, if_true]
    congr 1
    unfold fix
    split <;> rfl
  · rw [if_neg hj]
    cases l[j]? with
    | none => rfl
    | some x => simp [hj]
theorem fix_vn (from_ : Int → Bool) (L : List Ob) (z : Nat) (c : HCell) : ∃ n, fix from_ L z c = { c with vn := n } := by
  unfold fix
  split
  · exact ⟨_, rfl⟩
  · exact ⟨c.vn, rfl⟩
/-- A cell of 'to' as it is. -/
theorem tcell_now {p : Par} {L : List Ob} {P : Nat → Bool} {i : Nat} {c : HCell} (hc : (p.base ++ flat L)[i]? = some c) : (tcells p.from_ p.base L p.z P)[i]? = some (if P i = true then fix p.from_ L p.z c else c) := by
  rw [tcells_get, hc, Option.map_some]
theorem now_vn (p : Par) (L : List Ob) (P : Nat → Bool) (i : Nat) (c : HCell) : ∃ n, (if P i = true then fix p.from_ L p.z c else c) = { c with vn := n } := by
  split
  · exact fix_vn _ _ _ _
  · exact ⟨c.vn, rfl⟩

/-- The cell is fixed. -/
theorem cr_fix {p : Par} {w : World} {tv : Value} {L : List Ob} {P : Nat → Bool} (h : CR p w tv L P) {i : Nat} {c : HCell} (hc : (p.base ++ flat L)[i]? = some c) (hh : c.vk = 4 → p.from_ c.vn = true → has L c.vn.toNat) {g cap : Nat} (htv : tv = .slice (some ⟨g, 0, none⟩) (p.base.length + total L) cap) {vn : Int} (hvn : vn = (fix p.from_ L p.z c).vn) {w' : World}
    (hw : w' = ((w.setCell ⟨g, i * 8 + 4, none⟩ (.int .i64 c.vk)).setCell ⟨g, i * 8 + 4 + 1, none⟩ (.int .i64 vn)).setCell ⟨g, i * 8 + 4 + 2, none⟩ (.string c.vs)) : CR p w' tv L (with1 P i) := by
  subst hw
  have hrow := h.row
  rw [htv] at hrow
  have r1 := (hrow.stored (i * 8 + 4) (.int .i64 c.vk)).1
  have r2 := (r1.stored (i * 8 + 4 + 1) (.int .i64 vn)).1
  have r3 := (r2.stored (i * 8 + 4 + 2) (.string c.vs)).1
  have ht := tcell_now (p := p) (P := P) hc
  rw [set3_fix ht (now_vn p L P i c) vn hvn, ← tcells_with1 hc, ← htv] at r3
  have hne : ∀ k, tv.ownBlock ≠ some k → (((w.setCell ⟨g, i * 8 + 4, none⟩ (.int .i64 c.vk)).setCell ⟨g, i * 8 + 4 + 1, none⟩ (.int .i64 vn)).setCell ⟨g, i * 8 + 4 + 2, none⟩ (.string c.vs)).heap[k]? = w.heap[k]? := fun k hk => by
    have hkg : k ≠ g := fun e => hk (by rw [htv, e]; rfl)
    rw [blk_ne hkg, blk_ne hkg, blk_ne hkg]
  exact {
    kblk := (hne _ h.tk).trans h.kblk
    hblk := (hne _ h.th).trans h.hblk
    hvar := fun hm => (World.cell?_of_block (a := ⟨p.hv, 0, none⟩) (hne _ h.tvv)).trans (h.hvar hm)
    row := r3
    map := HeapF.ownsMap_same h.map (hne _ h.tw)
    src := fun o ho => by
      obtain ⟨X, h1, h2⟩ := h.src o ho
      exact ⟨X, (hne _ (h.ts o ho)).trans h1, h2⟩
    led := led_with1 h.led hc hh
    lt := fun j hj => by
      unfold with1 at hj
      rcases Bool.or_eq_true _ _ ▸ hj with hj | hj
      · exact h.lt j hj
      · have e : j = i := by simpa using hj
        subst e
        have := (List.getElem?_eq_some_iff.1 hc).1
        rw [List.length_append, flat_length] at this
        exact this
    inO := h.inO
    nd := h.nd
    come := h.come
    nurs := by
      obtain ⟨N, h1, h2⟩ := h.nurs
      exact ⟨N, h1, (hne _ h.tn).trans h2⟩
    low := by simpa using h.low
    hvl := by simpa using h.hvl
    tk := h.tk
    th := h.th
    tw := h.tw
    ts := h.ts
    tn := h.tn
    tvv := h.tvv }

theorem cell_set_at {w : World} {p : Addr} {v : Value} (h : w.cell? p = some v) (u : Value) : (w.setCell p u).cell? p = some u := by
  go_simp
theorem cell_set_ne {w : World} {p q : Addr} (h : p ≠ q) {u : Value} : (w.setCell q u).cell? p = w.cell? p := by
  rw [World.cell?_setCell_other]
  exact Ne.symm h
/-- The value behind move. -/
def newN (p : Par) (L : List Ob) (k n : Int) : Int := if k = 4 ∧ p.from_ n = true then ((fwd L p.z n.toNat : Nat) : Int) else n
theorem moved_var {p : Par} {w1 w2 : World} {tv : Value} {L : List Ob} {P : Nat → Bool} {vb vo : Nat} {k n : Int} {s : ByteArray} (hM : Moved p w1 tv L P vb vo k n w2) (hv : ¬ Own p tv vb)
    (v0 : w1.cell? ⟨vb, vo, none⟩ = some (.int .i64 k)) (v1 : w1.cell? ⟨vb, vo + 1, none⟩ = some (.int .i64 n)) (v2 : w1.cell? ⟨vb, vo + 2, none⟩ = some (.string s)) :
    ∃ tv' K, CR p w2 tv' (L ++ K) P ∧ (k = 4 → p.from_ n = true → has (L ++ K) n.toNat) ∧ w2.cell? ⟨vb, vo, none⟩ = some (.int .i64 k) ∧ w2.cell? ⟨vb, vo + 1, none⟩ = some (.int .i64 (newN p (L ++ K) k n)) ∧ w2.cell? ⟨vb, vo + 2, none⟩ = some (.string s) ∧
      (∃ w9, Turned (Tset p tv) w1 w9 ∧ (w2 = w9 ∨ w2 = w9.setCell ⟨vb, vo + 1, none⟩ (.int .i64 (newN p (L ++ K) k n)))) ∧ (∀ j, tv'.ownBlock = some j → tv.ownBlock = some j ∨ w1.heap.size ≤ j) ∧ ¬ Own p tv' vb := by
  obtain ⟨tv', K, w9, hC, hh, e, hT, ho⟩ := hM
  have hvl : vb < w1.heap.size := World.block_lt_of_cell? w1 _ v0
  have hv' : ¬ Own p tv' vb := by
    intro h'
    rcases h' with h' | h' | h' | h' | h' | h' | h'
    · exact hv (.inl h')
    · exact hv (.inr (.inl h'))
    · exact hv (.inr (.inr (.inl h')))
    · exact hv (.inr (.inr (.inr (.inl h'))))
    · rcases ho _ h' with h2 | h2
      · exact hv (.inr (.inr (.inr (.inr (.inl h2)))))
      · omega
    · exact hv (.inr (.inr (.inr (.inr (.inr (.inl h'))))))
    · exact hv (.inr (.inr (.inr (.inr (.inr (.inr h'))))))
  have hb9 : w9.heap[vb]? = w1.heap[vb]? := hT.block vb hvl (fun h' => hv (by
    rcases h' with h' | h' | h' | h'
    · exact .inl h'
    · exact .inr (.inr (.inr (.inl h')))
    · exact .inr (.inr (.inr (.inr (.inl h'))))
    · exact .inr (.inr (.inr (.inr (.inr (.inr h')))))))
  have c0 : w9.cell? ⟨vb, vo, none⟩ = some (.int .i64 k) := (World.cell?_of_block (a := ⟨vb, vo, none⟩) hb9).trans v0
  have c1 : w9.cell? ⟨vb, vo + 1, none⟩ = some (.int .i64 n) := (World.cell?_of_block (a := ⟨vb, vo + 1, none⟩) hb9).trans v1
  have c2 : w9.cell? ⟨vb, vo + 2, none⟩ = some (.string s) := (World.cell?_of_block (a := ⟨vb, vo + 2, none⟩) hb9).trans v2
  by_cases hk : k = 4 ∧ p.from_ n = true
  · rw [if_pos hk] at e
    subst e
    have hn : newN p (L ++ K) k n = ((fwd (L ++ K) p.z n.toNat : Nat) : Int) := by unfold newN; rw [if_pos hk]
    refine ⟨tv', K, hC.same (fun j hj => blk_ne (fun e => hv' (show Own p tv' vb from (show j = vb from e) ▸ hj))) (by simp), hh, ?_, ?_, ?_, ⟨w9, hT, Or.inr (by rw [hn])⟩, ho, hv'⟩
    · rw [cell_set_ne (by simp)]
      exact c0
    · rw [hn]
      exact cell_set_at c1 _
    · rw [cell_set_ne (by simp)]
      exact c2
  · rw [if_neg hk] at e
    subst e
    have hn : newN p (L ++ K) k n = n := by unfold newN; rw [if_neg hk]
    exact ⟨tv', K, hC, hh, c0, by rw [hn]; exact c1, c2, ⟨_, hT, Or.inl rfl⟩, ho, hv'⟩

theorem field_any {p : Par} (hp : p.OK) {w : World} {tv : Value} {L : List Ob} {P : Nat → Bool} (h : CR p w tv L P) (i : Nat) (c : HCell) (hc : (p.base ++ flat L)[i]? = some c) (hn : c.vk = 4 → p.from_ c.vn = true → ∃ o, Leads p o ∧ c.vn = (o.addr : Int)) (hm : P i = true → p.maj = false) :
    Calls Tryd.prog 110 #[.pointer (some ⟨p.kb, 0, none⟩), .int .i64 (i : Int)] w fun e w' => e = .returned (.tuple #[]) ∧ ∃ tv' K, CR p w' tv' (L ++ K) (with1 P i) ∧ Turned (Tset p tv) w w' ∧ ∀ j, tv'.ownBlock = some j → tv.ownBlock = some j ∨ w.heap.size ≤ j := by
  have hil : i < p.base.length + total L := by
    have := (List.getElem?_eq_some_iff.1 hc).1
    rw [List.length_append, flat_length] at this
    exact this
  have ht := tcell_now (p := p) (P := P) hc
  obtain ⟨dn, hd⟩ := now_vn p L P i c
  have hdn : c.vk = 4 → p.from_ dn = true → P i = false ∧ dn = c.vn := fun h1 h2 => by
    cases hP : P i with
    | false =>
      rw [hP, if_neg Bool.false_ne_true] at hd
      exact ⟨rfl, (congrArg HCell.vn hd).symm⟩
    | true =>
      exfalso
      rw [hP, if_pos rfl] at hd
      have e : dn = (fix p.from_ L p.z c).vn := (congrArg HCell.vn hd).symm
      unfold fix at e
      by_cases hf : c.vk = 4 ∧ p.from_ c.vn = true
      · rw [if_pos hf] at e
        subst e
        unfold Par.from_ at h2
        rw [hm hP] at h2
        have h3 : ((fwd L p.z c.vn.toNat : Nat) : Int) < (p.room : Int) := by simpa using h2
        unfold fwd Par.z at h3
        omega
      · rw [if_neg hf] at e
        subst e
        exact hf ⟨h1, h2⟩
  rw [hd] at ht
  obtain ⟨g, cap, htv⟩ := row_slice h.row (by omega)
  have hrow := h.row
  rw [htv] at hrow
  have hcell : ∀ j, j < 8 → w.cell? ⟨g, i * 8 + j, none⟩ = ({ c with vn := dn } : HCell).vals[j]? := fun j hj => by
    rw [hrow.cellAt (i * 8 + j) (by omega)]
    exact hvals_get _ i j _ ht hj
  have g4 : w.cell? ⟨g, i * 8 + 4, none⟩ = some (.int .i64 c.vk) := hcell 4 (by omega)
  have g5 : w.cell? ⟨g, i * 8 + 4 + 1, none⟩ = some (.int .i64 dn) := hcell 5 (by omega)
  have g6 : w.cell? ⟨g, i * 8 + 4 + 2, none⟩ = some (.string c.vs) := hcell 6 (by omega)
  have k1 : w.cell? ⟨p.kb, 1, none⟩ = some (.slice (some ⟨g, 0, none⟩) (p.base.length + total L) cap) := by
    rw [← htv]
    exact cell_of_block h.kblk rfl
  have hlt' : (i : Int) < ((p.base.length + total L : Nat) : Int) := by omega
  clear hcell
  go_enter Tryd.func110, Tryd.ntmps110
  go_wp2_with fail
  have h1 : CR p (w.alloc (.cells #[.int .i64 c.vk, .int .i64 dn, .string c.vs] 28 (0, 0))) tv L P := h.same (fun k hk => Below.heap_alloc _ _ _ (own_lt_size h hk)) (by simp)
  have hvo : ¬ Own p tv w.heap.size := fun hk => Nat.lt_irrefl _ (own_lt_size h hk)
  have a0 : (w.alloc (.cells #[.int .i64 c.vk, .int .i64 dn, .string c.vs] 28 (0, 0))).cell? ⟨w.heap.size, 0, none⟩ = some (.int .i64 c.vk) := cell_of_block (heap_alloc_last w _) rfl
  have a1 : (w.alloc (.cells #[.int .i64 c.vk, .int .i64 dn, .string c.vs] 28 (0, 0))).cell? ⟨w.heap.size, 0 + 1, none⟩ = some (.int .i64 dn) := cell_of_block (heap_alloc_last w _) rfl
  have a2 : (w.alloc (.cells #[.int .i64 c.vk, .int .i64 dn, .string c.vs] 28 (0, 0))).cell? ⟨w.heap.size, 0 + 2, none⟩ = some (.string c.vs) := cell_of_block (heap_alloc_last w _) rfl
  have af : (w.alloc (.cells #[.int .i64 c.vk, .int .i64 dn, .string c.vs] 28 (0, 0))).frozen? ⟨w.heap.size, 0 + 1, none⟩ = false := frozen_of_block (heap_alloc_last w _)
  refine (move_any hp h1 w.heap.size 0 c.vk dn a0 a1 af hvo (fun h1 h2 => by have e := (hdn h1 h2).2; rw [e] at h2 ⊢; exact hn h1 h2)).mono ?_
  rintro e w2 ⟨rfl, hM⟩
  obtain ⟨tv', K, hC2, hh2, b0, b1, b2, ⟨w9, hT9, hw2⟩, ho2, hv2⟩ := moved_var hM hvo a0 a1 a2
  have b1' : w2.cell? ⟨w.heap.size, 1, none⟩ = some (.int .i64 (newN p (L ++ K) c.vk dn)) := b1
  have b2' : w2.cell? ⟨w.heap.size, 2, none⟩ = some (.string c.vs) := b2
  clear b1 b2
  have hc2 : (p.base ++ flat (L ++ K))[i]? = some c := by
    rw [flat_append, ← List.append_assoc, List.getElem?_append_left (by rw [List.length_append, flat_length]; exact hil)]
    exact hc
  obtain ⟨dn2, hd2⟩ := now_vn p (L ++ K) P i c
  have ht2 := tcell_now (p := p) (P := P) hc2
  rw [hd2] at ht2
  have hil2 : i < p.base.length + total (L ++ K) := by
    rw [total_append]
    omega
  obtain ⟨g2, cap2, htv2⟩ := row_slice hC2.row (by omega)
  have hrow2 := hC2.row
  rw [htv2] at hrow2
  have hcell2 : ∀ j, j < 8 → w2.cell? ⟨g2, i * 8 + j, none⟩ = ({ c with vn := dn2 } : HCell).vals[j]? := fun j hj => by
    rw [hrow2.cellAt (i * 8 + j) (by omega)]
    exact hvals_get _ i j _ ht2 hj
  have q4 : w2.cell? ⟨g2, i * 8 + 4, none⟩ = some (.int .i64 c.vk) := hcell2 4 (by omega)
  have q5 : w2.cell? ⟨g2, i * 8 + 4 + 1, none⟩ = some (.int .i64 dn2) := hcell2 5 (by omega)
  have q6 : w2.cell? ⟨g2, i * 8 + 4 + 2, none⟩ = some (.string c.vs) := hcell2 6 (by omega)
  have f4 : w2.frozen? ⟨g2, i * 8 + 4, none⟩ = false := hrow2.frozenAt _
  have f5 : w2.frozen? ⟨g2, i * 8 + 4 + 1, none⟩ = false := hrow2.frozenAt _
  have f6 : w2.frozen? ⟨g2, i * 8 + 4 + 2, none⟩ = false := hrow2.frozenAt _
  have k1' : w2.cell? ⟨p.kb, 1, none⟩ = some (.slice (some ⟨g2, 0, none⟩) (p.base.length + total (L ++ K)) cap2) := by
    rw [← htv2]
    exact cell_of_block hC2.kblk rfl
  have hlt2 : (i : Int) < ((p.base.length + total (L ++ K) : Nat) : Int) := by omega
  have hvn : newN p (L ++ K) c.vk dn = (fix p.from_ (L ++ K) p.z c).vn := by
    cases hP : P i with
    | false =>
      rw [hP, if_neg Bool.false_ne_true] at hd
      have e : dn = c.vn := (congrArg HCell.vn hd).symm
      subst e
      unfold newN fix
      split <;> rfl
    | true =>
      rw [hP, if_pos rfl] at hd
      have e : dn = (fix p.from_ L p.z c).vn := (congrArg HCell.vn hd).symm
      rw [fix_grow (h.led i c hP hc), ← e]
      unfold newN
      rw [if_neg (fun h' => by have h2 := (hdn h'.1 h'.2).1; rw [hP] at h2; cases h2)]
  have hh3 : c.vk = 4 → p.from_ c.vn = true → has (L ++ K) c.vn.toNat := fun h1 h2 => by
    cases hP : P i with
    | false =>
      rw [hP, if_neg Bool.false_ne_true] at hd
      have e : dn = c.vn := (congrArg HCell.vn hd).symm
      rw [← e] at h2 ⊢
      exact hh2 h1 h2
    | true => exact has_append.mpr (Or.inl (h.led i c hP hc h1 h2))
  have hfin := fun {w'} hw => cr_fix (w' := w') hC2 hc2 hh3 htv2 hvn hw
  have hTf : Turned (Tset p tv) w ((((w2.setCell ⟨g2, i * 8 + 4, none⟩ (.int .i64 c.vk)).setCell ⟨g2, i * 8 + 4 + 1, none⟩ (.int .i64 (newN p (L ++ K) c.vk dn))).setCell ⟨g2, i * 8 + 4 + 2, none⟩ (.string c.vs))) := by
    have ha : Turned (Tset p tv) w (w.alloc (.cells #[.int .i64 c.vk, .int .i64 dn, .string c.vs] 28 (0, 0))) := (Turned.refl _ w).alloc _
    have h9 := ha.trans hT9
    have h2 : Turned (Tset p tv) w w2 := by
      rcases hw2 with rfl | rfl
      · exact h9
      · exact h9.setCell (Or.inr (Nat.le_refl _)) _
    have hg : Tset p tv g2 ∨ w.heap.size ≤ g2 := by
      rcases ho2 g2 (by rw [htv2]; rfl) with h' | h'
      · exact Or.inl (Or.inr (Or.inr (Or.inl h')))
      · exact Or.inr (by simp at h'; omega)
    exact ((h2.setCell hg _).setCell hg _).setCell hg _
  have hof : ∀ j, tv'.ownBlock = some j → tv.ownBlock = some j ∨ w.heap.size ≤ j := fun j hj => (ho2 j hj).imp id (fun h' => by simp at h'; omega)
  have hl0 : (0 : Int) ≤ (i : Int) := by omega
  generalize p.base.length + total (L ++ K) = n2 at htv2 k1' hlt2
  clear hcell2 hT9 hw2 hM hn hc ht hd hd2 hdn hh3 hm g4 g5 g6 k1 a0 a1 a2 af hvn h1 hvo hh2 hv2 ho2 hrow2 ht2 hil2 hc2 hrow hil h
  go_wp2_with fail
  go_still_tail 8, (by kernel_rfl)
  repeat still_step
  try refine wpStill_nil ?_
  change wpList _ _ _ _ _ w2.drew
  go_wp2
  refine bodyPost_end (results_none Tryd.results110 _ _ _) rfl ?_
  exact ⟨rfl, tv', K, (hfin rfl).drewN 1, hTf.drew, hof⟩
end Go.Proofs.YthbkklnahhdgcaaDoor.ChH

namespace Go.Proofs.YthbkklnahhdgcaaDoor.ChI
open Go Go.Proofs Go.RowKit Go.Proofs.YthbkklnahhdgcaaDoor.Lib HeapR HeapA ChA ChB ChT ChCa ChCc ChCd ChD ChE ChF ChG ChH

/-- What a collector's steps leave of the world. -/
def Grew (p : Par) (tv0 : Value) (w0 : World) (tv : Value) (w : World) : Prop := Turned (Tset p tv0) w0 w ∧ ∀ j, tv.ownBlock = some j → tv0.ownBlock = some j ∨ w0.heap.size ≤ j
theorem Grew.refl (p : Par) (tv : Value) (w : World) : Grew p tv w tv w := ⟨Turned.refl _ _, fun _ h => Or.inl h⟩
theorem Grew.trans {p : Par} {a b c : Value} {u v w : World} (h : Grew p a u b v) (k : Grew p b v c w) : Grew p a u c w := by
  have hz := h.1.size
  refine ⟨⟨k.1.os.trans h.1.os, k.1.tape.trans h.1.tape, k.1.output.trans h.1.output, Nat.le_trans h.1.size k.1.size, fun j hj hs => (k.1.block j (by omega) (fun h' => ?_)).trans (h.1.block j hj hs)⟩, fun j hj => ?_⟩
  · rcases h' with h' | h' | h' | h'
    · exact hs (Or.inl h')
    · exact hs (Or.inr (Or.inl h'))
    · rcases h.2 j h' with h2 | h2
      · exact hs (Or.inr (Or.inr (Or.inl h2)))
      · omega
    · exact hs (Or.inr (Or.inr (Or.inr h')))
  · rcases k.2 j hj with h2 | h2
    · exact h.2 j h2
    · exact Or.inr (by omega)

theorem with1_eq (P : Nat → Bool) (i : Nat) : with1 P i i = true := by simp [with1]
theorem with1_ne (P : Nat → Bool) {i j : Nat} (h : j ≠ i) : with1 P i j = P j := by
  unfold with1
  have : (j == i) = false := by simpa using h
  rw [this, Bool.or_false]
/-- The cells of an object in 'to'. -/
theorem cell_head (base : List HCell) (l k : List Ob) (x : Ob) : (base ++ flat (l ++ x :: k))[base.length + total l]? = some (x.head 0) := by
  rw [List.getElem?_append_right (by omega), show base.length + total l - base.length = total l by omega, flat_append, List.getElem?_append_right (by rw [flat_length]; omega), flat_length, Nat.sub_self]
  rfl
theorem cell_field (base : List HCell) (l k : List Ob) (x : Ob) (i : Nat) (v : Vl) (hv : x.fs[i]? = some v) : (base ++ flat (l ++ x :: k))[base.length + total l + 1 + i]? = some v.cell := by
  rw [List.getElem?_append_right (by omega), show base.length + total l + 1 + i - base.length = total l + (1 + i) by omega, flat_append, List.getElem?_append_right (by rw [flat_length]; omega), flat_length, show total l + (1 + i) - total l = i + 1 by omega]
  show ((x.cells 0) ++ flat k)[i + 1]? = _
  have hl := (List.getElem?_eq_some_iff.1 hv).1
  rw [List.getElem?_append_left (by rw [Ob.length_cells]; unfold Ob.len; omega)]
  show (x.fs.map Vl.cell)[i]? = _
  rw [List.getElem?_map, hv]
  rfl
theorem cell_before (base : List HCell) (l k k' : List Ob) (j : Nat) (h : j < base.length + total l) : (base ++ flat (l ++ k))[j]? = (base ++ flat (l ++ k'))[j]? := by
  by_cases hj : j < base.length
  · rw [List.getElem?_append_left hj, List.getElem?_append_left hj]
  · rw [List.getElem?_append_right (by omega), List.getElem?_append_right (by omega), flat_append, flat_append, List.getElem?_append_left (by rw [flat_length]; omega), List.getElem?_append_left (by rw [flat_length]; omega)]

/-- The cells copied ahead of a place are fixed. -/
def Done (p : Par) (P : Nat → Bool) (L : List Ob) (at_ : Nat) : Prop := ∀ j c, p.base.length ≤ j → j < at_ → (p.base ++ flat L)[j]? = some c → c.vk = 4 → p.from_ c.vn = true → P j = true
/-- What holds at each round of scan's inner loop. -/
def RelI (p : Par) (tv0 : Value) (w0 : World) (k0 l : List Ob) (x : Ob) (P : Nat → Bool) (i : Nat) (wr : World) : Prop :=
  i ≤ x.fs.length ∧ ∃ tv k P', CR p wr tv (l ++ x :: k) P' ∧ (∀ j, p.base.length + total l + 1 + i ≤ j → P' j = false) ∧ (∀ j, j < p.base.length + total l → P' j = P j) ∧ (∀ j, p.base.length + total l + 1 ≤ j → j < p.base.length + total l + 1 + i → P' j = true) ∧ Grew p tv0 w0 tv wr ∧ ∃ K, k = k0 ++ K

def InvI (p : Par) (tv0 : Value) (w0 : World) (k0 l : List Ob) (x : Ob) (P : Nat → Bool) (u2 u3 u4 u6 u7 u8 u9 Ja Jb Jc Jd Je Jf Jg Jh Ji Jj Jk Jl Jx Jy Jz Qa : Value) (a : Act) (wr : World) : Prop :=
  ∃ (i : Nat) (s5 s24 s25 s26 s27 s28 s29 s30 s31 s32 : Value), RelI p tv0 w0 k0 l x P i wr ∧ a = ⟨#[(.pointer (some ⟨p.kb,0,none⟩)),(.int .i64 ((p.base.length + total l : Nat) : Int)),u2,u3,u4,s5,u6,u7,u8,u9,Ja,Jb,Jc,Jd,Je,Jf,Jg,Jh,Ji,Jj,Jk,Jl,(.int .i64 (x.fs.length : Int)),(.int .i64 (i : Int)),s24,s25,s26,s27,s28,s29,s30,s31,s32,Jx,Jy,Jz,Qa], []⟩
def muI (x : Ob) (a : Act) (_ : World) : Nat := x.fs.length - (intOf (a.tmps.getD 23 undef)).toNat

theorem wrap_three (a b c : Nat) (h : a + b + c ≤ big) : wrap64 ((a : Int) + (b : Int) + (c : Int)) = (a : Int) + (b : Int) + (c : Int) := by
  unfold big at h
  unfold wrap64
  omega
theorem wrapk_three (a b c : Nat) (h : a + b + c ≤ big) : IntKind.i64.wrap ((a : Int) + (b : Int) + (c : Int)) = (a : Int) + (b : Int) + (c : Int) := by
  unfold big at h
  exact IntWalk.i64_in _ (by omega)

theorem scan_inner {p : Par} (hp : p.OK) {Q : Exit → Act → World → Prop} (u2 u3 u4 u5 u6 u7 u8 u9 Ja Jb Jc Jd Je Jf Jg Jh Ji Jj Jk Jl Jo Jp Jq Jr Js Jt Ju Jv Jw Jx Jy Jz Qa : Value) (tv0 : Value) (w0 w : World) (l k : List Ob) (x : Ob) (P : Nat → Bool) (tv : Value) (h : CR p w tv (l ++ x :: k) P) (hG : Grew p tv0 w0 tv w) (hF : ∀ j, p.base.length + total l ≤ j → P j = false)
    (hQ : ∀ (s5 s24 s25 s26 s27 s28 s29 s30 s31 s32 : Value) (w' : World), RelI p tv0 w0 k l x P x.fs.length w' → Q (.exit 2) ⟨#[(.pointer (some ⟨p.kb,0,none⟩)),(.int .i64 ((p.base.length + total l : Nat) : Int)),u2,u3,u4,s5,u6,u7,u8,u9,Ja,Jb,Jc,Jd,Je,Jf,Jg,Jh,Ji,Jj,Jk,Jl,(.int .i64 (x.fs.length : Int)),(.int .i64 (x.fs.length : Int)),s24,s25,s26,s27,s28,s29,s30,s31,s32,Jx,Jy,Jz,Qa], []⟩ w') :
    Code.wp Tryd.prog (Cut.piece Tryd.f111 (Cut.loop 3)) Q ⟨#[(.pointer (some ⟨p.kb,0,none⟩)),(.int .i64 ((p.base.length + total l : Nat) : Int)),u2,u3,u4,u5,u6,u7,u8,u9,Ja,Jb,Jc,Jd,Je,Jf,Jg,Jh,Ji,Jj,Jk,Jl,(.int .i64 (x.fs.length : Int)),(.int .i64 (0 : Int)),Jo,Jp,Jq,Jr,Js,Jt,Ju,Jv,Jw,Jx,Jy,Jz,Qa], []⟩ w := by
  conv => arg 2; whnf
  refine wp_loop (InvI p tv0 w0 k l x P u2 u3 u4 u6 u7 u8 u9 Ja Jb Jc Jd Je Jf Jg Jh Ji Jj Jk Jl Jx Jy Jz Qa) (muI x) ?_ (fun a' wr hI => ?_)
  · exact ⟨0, u5, Jo, Jp, Jq, Jr, Js, Jt, Ju, Jv, Jw, ⟨Nat.zero_le _, tv, k, P, h, fun j hj => hF j (by omega), fun _ _ => rfl, fun j h1 h2 => by omega, hG, [], by simp⟩, rfl⟩
  obtain ⟨i, s5, s24, s25, s26, s27, s28, s29, s30, s31, s32, hI⟩ := hI
  obtain ⟨⟨hi, tvr, kr, Pr, hC, hf, hb, hd, hGr, K0, hK0⟩, rfl⟩ := hI
  have hsz := hp.size
  have hfit := fits hC
  have htot : total l + (1 + x.fs.length) ≤ total p.O := by
    rw [total_append, total_cons] at hfit
    unfold Ob.len at hfit
    omega
  by_cases hil : i < x.fs.length
  · have hil' : decide ((i : Int) < (x.fs.length : Int)) = true := by simpa using hil
    obtain ⟨v, hv⟩ : ∃ v, x.fs[i]? = some v := ⟨_, List.getElem?_eq_getElem hil⟩
    have hx : x ∈ l ++ x :: kr := List.mem_append.mpr (Or.inr (List.mem_cons_self ..))
    have hcall := field_any hp hC (p.base.length + total l + 1 + i) v.cell (cell_field p.base l kr x i v hv) (fun h1 h2 => by
      obtain ⟨y, hy, e⟩ := hp.closed x (hC.inO x hx) v (List.mem_of_getElem? hv) h1 h2
      exact ⟨y, Leads.step (hC.come x hx) (List.mem_of_getElem? hv) h1 e hy, e⟩) (fun h' => by rw [hf _ (Nat.le_refl _)] at h'; cases h')
    have b1 : p.base.length + total l + 1 ≤ big := by omega
    have b2 : p.base.length + total l + 1 + i ≤ big := by omega
    have b3 : i + 1 ≤ big := by omega
    generalize hat : p.base.length + total l = at_ at *
    have hidx : ((at_ + 1 + i : Nat) : Int) = (at_ : Int) + 1 + (i : Int) := by omega
    rw [hidx] at hcall
    clear hidx hsz htot hfit
    have c1 : IntKind.i64.wrap ((at_ : Int) + 1) = (at_ : Int) + 1 := wrapk_two at_ 1 b1
    have c2 : IntKind.i64.wrap ((at_ : Int) + 1 + (i : Int)) = (at_ : Int) + 1 + (i : Int) := wrapk_three at_ 1 i b2
    have c3 : IntKind.i64.wrap ((i : Int) + 1) = (i : Int) + 1 := wrapk_two i 1 b3
    have c4 : wrap64 ((at_ : Int) + 1) = (at_ : Int) + 1 := wrap_two at_ 1 b1
    have c5 : wrap64 ((at_ : Int) + 1 + (i : Int)) = (at_ : Int) + 1 + (i : Int) := wrap_three at_ 1 i b2
    have c6 : wrap64 ((i : Int) + 1) = (i : Int) + 1 := wrap_two i 1 b3
    go_wp2_with fail
    refine hcall.mono ?_
    rintro e w2 ⟨rfl, tv2, K, hC2, hT2, ho2⟩
    clear hcall
    go_wp2_with fail
    clear c1 c2 c3 c4 c5 c6
    subst hat
    refine ⟨⟨i + 1, _, _, _, _, _, _, _, _, _, _, ⟨by omega, tv2, kr ++ K, _, by rw [show l ++ x :: (kr ++ K) = (l ++ x :: kr) ++ K by simp]; exact hC2, fun j hj => ?_, fun j hj => ?_, fun j h1 h2 => ?_, hGr.trans ⟨hT2, ho2⟩, K0 ++ K, by rw [hK0, List.append_assoc]⟩, rfl⟩, ?_⟩
    · rw [with1_ne _ (by omega)]
      exact hf j (by omega)
    · rw [with1_ne _ (by omega)]
      exact hb j hj
    · by_cases hj : j = p.base.length + total l + 1 + i
      · subst hj
        exact with1_eq _ _
      · rw [with1_ne _ hj]
        exact hd j h1 (by omega)
    · simp [muI, intOf]
      omega
  · have hie : i = x.fs.length := by omega
    subst hie
    have hil' : decide ((x.fs.length : Int) < (x.fs.length : Int)) = false := by simp
    go_wp2
    exact ⟨Nat.le_refl _, tvr, kr, Pr, hC, hf, hb, hd, hGr, K0, hK0⟩

theorem wrapk_in {a b : Nat} (h : a + (1 + b) ≤ big) : IntKind.i64.wrap ((a : Int) + (1 + (b : Int))) = (a : Int) + (1 + (b : Int)) := by
  unfold big at h
  exact IntWalk.i64_in _ (by omega)
theorem wrap_in {a b : Nat} (h : a + (1 + b) ≤ big) : wrap64 ((a : Int) + (1 + (b : Int))) = (a : Int) + (1 + (b : Int)) := by
  unfold big at h
  unfold wrap64
  omega
/-- What holds at each round of scan's loop. -/
def RelO (p : Par) (tv0 : Value) (w0 : World) (L0 : List Ob) (P0 : Nat → Bool) (l : List Ob) (wr : World) : Prop :=
  ∃ tv k P', CR p wr tv (l ++ k) P' ∧ (∃ K, l ++ k = L0 ++ K) ∧ (∀ j, p.base.length + total l ≤ j → P' j = false) ∧ Done p P' (l ++ k) (p.base.length + total l) ∧ (∀ j, j < p.base.length → P' j = P0 j) ∧ Grew p tv0 w0 tv wr
def InvO (p : Par) (tv0 : Value) (w0 : World) (L0 : List Ob) (P0 : Nat → Bool) (u2 u3 : Value) (a : Act) (wr : World) : Prop :=
  ∃ (l : List Ob) (s4 s5 s6 s7 s8 s9 s10 s11 s12 s13 s14 s15 s16 s17 s18 s19 s20 s21 s22 s23 s24 s25 s26 s27 s28 s29 s30 s31 s32 s33 s34 s35 s36 : Value), RelO p tv0 w0 L0 P0 l wr ∧ a = ⟨#[(.pointer (some ⟨p.kb,0,none⟩)),(.int .i64 ((p.base.length + total l : Nat) : Int)),u2,u3,s4,s5,s6,s7,s8,s9,s10,s11,s12,s13,s14,s15,s16,s17,s18,s19,s20,s21,s22,s23,s24,s25,s26,s27,s28,s29,s30,s31,s32,s33,s34,s35,s36], []⟩
def muO (a : Act) (_ : World) : Nat := big - (intOf (a.tmps.getD 1 undef)).toNat
/-- What scan leaves. -/
def Scanned (p : Par) (tv0 : Value) (w0 : World) (L0 : List Ob) (P0 : Nat → Bool) (w' : World) : Prop :=
  ∃ tv K P', CR p w' tv (L0 ++ K) P' ∧ Done p P' (L0 ++ K) (p.base.length + total (L0 ++ K)) ∧ (∀ j, j < p.base.length → P' j = P0 j) ∧ Grew p tv0 w0 tv w'

theorem scan_any {p : Par} (hp : p.OK) {w : World} {tv : Value} {L : List Ob} {P : Nat → Bool} (h : CR p w tv L P) (hF : ∀ j, p.base.length ≤ j → P j = false) :
    Calls Tryd.prog 111 #[.pointer (some ⟨p.kb, 0, none⟩), .int .i64 (p.base.length : Int)] w fun e w' => e = .returned (.tuple #[]) ∧ Scanned p tv w L P w' := by
  go_enter Tryd.func111, Tryd.ntmps111
  go_wp2
  refine wp_loop (InvO p tv w L P undef undef) muO ?_ (fun a' wr hI => ?_)
  · exact ⟨[], _, _, _, _, _, _, _, _, _, _, _, _, _, _, _, _, _, _, _, _, _, _, _, _, _, _, _, _, _, _, _, _, _, ⟨tv, L, P, h, ⟨[], by simp⟩, fun j hj => hF j (by simpa [total] using hj), fun j c h1 h2 => by simp [total] at h2; omega, fun _ _ => rfl, Grew.refl _ _ _⟩, rfl⟩
  obtain ⟨l, s4, s5, s6, s7, s8, s9, s10, s11, s12, s13, s14, s15, s16, s17, s18, s19, s20, s21, s22, s23, s24, s25, s26, s27, s28, s29, s30, s31, s32, s33, s34, s35, s36, hI⟩ := hI
  obtain ⟨⟨tvr, k, Pr, hC, ⟨K0, hK⟩, hf, hd, hb, hG⟩, rfl⟩ := hI
  have hsz := hp.size
  have hfit := fits hC
  obtain ⟨og, cg, rfl⟩ := own_slice hC.row
  have k1 : wr.cell? ⟨p.kb, 1, none⟩ = some (.slice og (p.base.length + total (l ++ k)) cg) := cell_of_block hC.kblk rfl
  cases k with
  | nil =>
    have hlt' : decide (((p.base.length + total l : Nat) : Int) < ((p.base.length + total (l ++ []) : Nat) : Int)) = false := by rw [List.append_nil]; simp
    rw [List.append_nil] at k1 hlt'
    clear hsz hfit
    generalize hat : p.base.length + total l = at_ at *
    go_wp2
    subst hat
    go_end0
    refine ⟨rfl, _, K0, Pr, by rw [← hK]; exact hC, ?_, hb, hG⟩
    rw [← hK, List.append_nil]
    rw [List.append_nil] at hd
    exact hd
  | cons x k =>
    have htx : total (l ++ x :: k) = total l + (1 + x.fs.length) + total k := by
      rw [total_append, total_cons]
      unfold Ob.len
      omega
    have hlt : ((p.base.length + total l : Nat) : Int) < ((p.base.length + total (l ++ x :: k) : Nat) : Int) := by omega
    obtain ⟨g, cg', hgs⟩ := row_slice hC.row (by omega)
    rw [hgs] at k1
    have hrow := hC.row
    rw [hgs] at hrow
    have ht : (tcells p.from_ p.base (l ++ x :: k) p.z Pr)[p.base.length + total l]? = some (x.head 0) := by
      rw [tcells_get, cell_head, Option.map_some, if_neg (by rw [hf _ (Nat.le_refl _)]; exact Bool.false_ne_true)]
    have g3 : wr.cell? ⟨g, (p.base.length + total l) * 8 + 3, none⟩ = some (.int .i64 (x.fs.length : Int)) := by
      rw [hrow.cellAt _ (by omega)]
      exact hvals_get _ _ 3 _ ht (by omega)
    have b1 : 1 + x.fs.length ≤ big := by omega
    have b2 : p.base.length + total l + (1 + x.fs.length) ≤ big := by omega
    have hstep : p.base.length + total l + (1 + x.fs.length) = p.base.length + total (l ++ [x]) := by
      rw [total_append]
      simp [total, Ob.len]
      omega
    clear hrow ht htx hsz hfit
    generalize hat : p.base.length + total l = at_ at *
    generalize hnn : p.base.length + total (l ++ x :: k) = nn at *
    have hl0 : (0 : Int) ≤ (at_ : Int) := by omega
    have hltd : decide ((at_ : Int) < (nn : Int)) = true := by simpa using hlt
    go_wp2
    subst hat
    refine scan_inner hp _ _ _ _ _ _ _ _ _ _ _ _ _ _ _ _ _ _ _ _ _ _ _ _ _ _ _ _ _ _ _ _ _ tv w wr l k x Pr _ hC hG hf ?_
    intro t5 t24 t25 t26 t27 t28 t29 t30 t31 t32 w2 hR
    obtain ⟨_, tv2, k2, P2, hC2, hf2, hb2, hd2, hG2, K2, hK2⟩ := hR
    have hfin : RelO p tv w L P (l ++ [x]) w2 := by
      refine ⟨tv2, k2, P2, by rw [List.append_assoc]; exact hC2, ?_, ?_, ?_, fun j hj => (hb2 j (by omega)).trans (hb j hj), hG2⟩
      · exact ⟨K0 ++ K2, by rw [hK2, show l ++ [x] ++ (k ++ K2) = (l ++ x :: k) ++ K2 by simp, hK, List.append_assoc]⟩
      · intro j hj
        exact hf2 j (by omega)
      · intro j c h1 h2 h3 h4 h5
        rw [← hstep] at h2
        by_cases hj1 : j < p.base.length + total l
        · rw [hb2 j hj1]
          refine hd j c h1 hj1 ?_ h4 h5
          rw [← h3, List.append_assoc]
          exact cell_before p.base l (x :: k) ([x] ++ k2) j hj1
        · by_cases hj2 : j = p.base.length + total l
          · subst hj2
            rw [List.append_assoc] at h3
            have h6 := cell_head p.base l k2 x
            rw [show l ++ x :: k2 = l ++ ([x] ++ k2) by rfl] at h6
            rw [h6] at h3
            cases h3
            exact absurd h4 (show ¬ (0 : Int) = 4 by decide)
          · exact hd2 j (by omega) (by omega)
    clear hC hG hf hb hd hf2 hb2 hd2 hG2 hC2 g3 k1 hltd hl0 hlt
    have c1 : IntKind.i64.wrap (1 + (x.fs.length : Int)) = 1 + (x.fs.length : Int) := wrapk_two 1 x.fs.length b1
    have c2 : IntKind.i64.wrap ((((p.base.length + total l : Nat) : Int)) + (1 + (x.fs.length : Int))) = ((p.base.length + total l : Nat) : Int) + (1 + (x.fs.length : Int)) := wrapk_in b2
    have c3 : wrap64 (1 + (x.fs.length : Int)) = 1 + (x.fs.length : Int) := wrap_two 1 x.fs.length b1
    have c4 : wrap64 ((((p.base.length + total l : Nat) : Int)) + (1 + (x.fs.length : Int))) = ((p.base.length + total l : Nat) : Int) + (1 + (x.fs.length : Int)) := wrap_in b2
    generalize hat : p.base.length + total l = at_ at *
    go_wp2
    have heq : (at_ : Int) + (1 + (x.fs.length : Int)) = ((p.base.length + total (l ++ [x]) : Nat) : Int) := by
      rw [← hstep]
      omega
    rw [heq]
    refine ⟨⟨l ++ [x], _, _, _, _, _, _, _, _, _, _, _, _, _, _, _, _, _, _, _, _, _, _, _, _, _, _, _, _, _, _, _, _, _, hfin, rfl⟩, ?_⟩
    clear c1 c2 c3 c4
    generalize p.base.length + total (l ++ [x]) = q at hstep ⊢
    simp [muO, intOf]
    omega

end Go.Proofs.YthbkklnahhdgcaaDoor.ChI

namespace Go.Proofs.YthbkklnahhdgcaaDoor.ChJ
open Go Go.Proofs Go.RowKit Go.Proofs.YthbkklnahhdgcaaDoor.Lib HeapR HeapA ChA ChB ChT ChCa ChCc ChCd ChD ChE ChF ChG ChH ChI

/-- What a collector's steps leave of the world; R: blocks of roots. -/
def GrewR (p : Par) (R : Nat → Prop) (tv0 : Value) (w0 : World) (tv : Value) (w : World) : Prop := Turned (fun j => Tset p tv0 j ∨ R j) w0 w ∧ ∀ j, tv.ownBlock = some j → tv0.ownBlock = some j ∨ w0.heap.size ≤ j
theorem GrewR.refl (p : Par) (R : Nat → Prop) (tv : Value) (w : World) : GrewR p R tv w tv w := ⟨Turned.refl _ _, fun _ h => Or.inl h⟩
theorem GrewR.of {p : Par} (R : Nat → Prop) {a b : Value} {u v : World} (h : Grew p a u b v) : GrewR p R a u b v := ⟨h.1.mono fun _ h => Or.inl h, h.2⟩
theorem GrewR.trans {p : Par} {R : Nat → Prop} {a b c : Value} {u v w : World} (h : GrewR p R a u b v) (k : GrewR p R b v c w) : GrewR p R a u c w := by
  have hz := h.1.size
  refine ⟨⟨k.1.os.trans h.1.os, k.1.tape.trans h.1.tape, k.1.output.trans h.1.output, Nat.le_trans h.1.size k.1.size, fun j hj hs => (k.1.block j (by omega) (fun h' => ?_)).trans (h.1.block j hj hs)⟩, fun j hj => ?_⟩
  · rcases h' with (h' | h' | h' | h') | h'
    · exact hs (Or.inl (Or.inl h'))
    · exact hs (Or.inl (Or.inr (Or.inl h')))
    · rcases h.2 j h' with h2 | h2
      · exact hs (Or.inl (Or.inr (Or.inr (Or.inl h2))))
      · omega
    · exact hs (Or.inl (Or.inr (Or.inr (Or.inr h'))))
    · exact hs (Or.inr h')
  · rcases k.2 j hj with h2 | h2
    · exact h.2 j h2
    · exact Or.inr (by omega)

/-- A value behind the copy of L. -/
def fixV (p : Par) (L : List Ob) (v : Vl) : Vl := { v with n := newN p L v.k v.n }
theorem newN_grow {p : Par} {L K : List Ob} {k n : Int} (h : k = 4 → p.from_ n = true → has L n.toNat) : newN p (L ++ K) k n = newN p L k n := by
  unfold newN
  by_cases hc : k = 4 ∧ p.from_ n = true
  · rw [if_pos hc, if_pos hc, fwd_in (h hc.1 hc.2)]
  · rw [if_neg hc, if_neg hc]
theorem fixV_grow {p : Par} {L K : List Ob} {v : Vl} (h : v.k = 4 → p.from_ v.n = true → has L v.n.toNat) : fixV p (L ++ K) v = fixV p L v := by
  unfold fixV
  rw [newN_grow h]
/-- In Minor what was moved is not moved again. -/
theorem newN_id {p : Par} {L : List Ob} {k n : Int} (h : ¬ (k = 4 ∧ p.from_ n = true)) : newN p L k n = n := by
  unfold newN
  rw [if_neg h]
theorem newN_again {p : Par} (hm : p.maj = false) (L : List Ob) (k n : Int) : ¬ (k = 4 ∧ p.from_ (newN p L k n) = true) := by
  rintro ⟨h1, h2⟩
  unfold newN at h2
  by_cases hc : k = 4 ∧ p.from_ n = true
  · rw [if_pos hc] at h2
    unfold Par.from_ at h2
    rw [hm] at h2
    have h3 : ((fwd L p.z n.toNat : Nat) : Int) < (p.room : Int) := by simpa using h2
    unfold fwd Par.z at h3
    omega
  · rw [if_neg hc] at h2
    exact hc ⟨h1, h2⟩

/-- All but the roots' addresses is as it was. -/
def SameBut (rs : List (Nat × Nat)) (k : Nat) (c c0 : Array Value) : Prop := c.size = c0.size ∧ ∀ i : Nat, (∀ b ∈ rs, b.1 = k → i ≠ b.2 + 1) → c[i]? = c0[i]?
/-- The roots in memory. -/
structure Roots (p : Par) (w : World) (tv : Value) (rs : List (Nat × Nat)) (f : Nat × Nat → Vl) : Prop where
  cell : ∀ a ∈ rs, w.cell? ⟨a.1, a.2, none⟩ = some (.int .i64 (f a).k) ∧ w.cell? ⟨a.1, a.2 + 1, none⟩ = some (.int .i64 (f a).n) ∧ w.cell? ⟨a.1, a.2 + 2, none⟩ = some (.string (f a).s) ∧ w.frozen? ⟨a.1, a.2 + 1, none⟩ = false
  out : ∀ a ∈ rs, ¬ Own p tv a.1
  blk : ∀ a ∈ rs, ∃ c t, w.heap[a.1]? = some (.cells c t (0, 0))
  kept : ∀ a ∈ rs, ∀ c t, w.heap[a.1]? = some (.cells c t (0, 0)) → ∃ c0, p.ro a.1 = some (t, c0) ∧ SameBut rs a.1 c c0
def RootsApart (rs : List (Nat × Nat)) : Prop := ∀ a ∈ rs, ∀ b ∈ rs, a = b ∨ a.1 ≠ b.1 ∨ a.2 + 3 ≤ b.2 ∨ b.2 + 3 ≤ a.2
theorem frozen_set {w : World} {q a : Addr} {u : Value} : (w.setCell q u).frozen? a = w.frozen? a := by
  go_simp
theorem tset_own {p : Par} {tv : Value} {j : Nat} (h : Tset p tv j) : Own p tv j := by
  rcases h with h | h | h | h
  · exact .inl h
  · exact .inr (.inr (.inr (.inl h)))
  · exact .inr (.inr (.inr (.inr (.inl h))))
  · exact .inr (.inr (.inr (.inr (.inr (.inr h)))))

/-- A root was moved. -/
theorem roots_move {p : Par} {w w' : World} {tv : Value} {rs : List (Nat × Nat)} {f : Nat × Nat → Vl} {L : List Ob} {P : Nat → Bool} (hR : Roots p w tv rs f) (hA : RootsApart rs) {a : Nat × Nat} (ha : a ∈ rs) (hM : Moved p w tv L P a.1 a.2 (f a).k (f a).n w') :
    ∃ tv' K, CR p w' tv' (L ++ K) P ∧ ((f a).k = 4 → p.from_ (f a).n = true → has (L ++ K) (f a).n.toNat) ∧ Roots p w' tv' rs (fun b => if b = a then fixV p (L ++ K) (f a) else f b) ∧ GrewR p (fun j => ∃ b ∈ rs, b.1 = j) tv w tv' w' := by
  obtain ⟨c0, c1, c2, cf⟩ := hR.cell a ha
  obtain ⟨tv', K, hC, hh, d0, d1, d2, ⟨w9, hT, hw⟩, ho, hv⟩ := moved_var hM (hR.out a ha) c0 c1 c2
  have hout : ∀ b ∈ rs, ¬ Own p tv' b.1 := fun b hb h' => by
    have hbl : b.1 < w.heap.size := World.block_lt_of_cell? w _ (hR.cell b hb).1
    have hnb := hR.out b hb
    rcases h' with h' | h' | h' | h' | h' | h' | h'
    · exact hnb (.inl h')
    · exact hnb (.inr (.inl h'))
    · exact hnb (.inr (.inr (.inl h')))
    · exact hnb (.inr (.inr (.inr (.inl h'))))
    · rcases ho _ h' with h2 | h2
      · exact hnb (.inr (.inr (.inr (.inr (.inl h2)))))
      · omega
    · exact hnb (.inr (.inr (.inr (.inr (.inr (.inl h'))))))
    · exact hnb (.inr (.inr (.inr (.inr (.inr (.inr h'))))))
  have h9 : ∀ b ∈ rs, w9.heap[b.1]? = w.heap[b.1]? := fun b hb => hT.block b.1 (World.block_lt_of_cell? w _ (hR.cell b hb).1) (fun h' => hR.out b hb (tset_own h'))
  have hfz : ∀ b ∈ rs, w'.frozen? ⟨b.1, b.2 + 1, none⟩ = false := fun b hb => by
    have h1 : w9.frozen? ⟨b.1, b.2 + 1, none⟩ = false := (World.frozen?_of_block (a := ⟨b.1, b.2 + 1, none⟩) (h9 b hb)).trans (hR.cell b hb).2.2.2
    rcases hw with rfl | rfl
    · exact h1
    · rw [frozen_set]
      exact h1
  have hblk : ∀ b ∈ rs, ∃ c t, w'.heap[b.1]? = some (.cells c t (0, 0)) := fun b hb => by
    obtain ⟨c, t, e⟩ := hR.blk b hb
    have e9 := (h9 b hb).trans e
    rcases hw with rfl | rfl
    · exact ⟨c, t, e9⟩
    · by_cases hab : b.1 = a.1
      · rw [hab] at e9 ⊢
        exact ⟨_, t, blk_set e9 _⟩
      · exact ⟨c, t, (blk_ne hab).trans e9⟩
  have hkept : ∀ b ∈ rs, ∀ c t, w'.heap[b.1]? = some (.cells c t (0, 0)) → ∃ c0, p.ro b.1 = some (t, c0) ∧ SameBut rs b.1 c c0 := fun b hb c' t' e' => by
    rcases hw with rfl | rfl
    · exact hR.kept b hb c' t' ((h9 b hb).symm.trans e')
    · by_cases hab : b.1 = a.1
      · obtain ⟨c, t, e⟩ := hR.blk b hb
        have e9 := (h9 b hb).trans e
        have h1 := hR.kept b hb c t e
        rw [hab] at e9 e' h1 ⊢
        rw [blk_set e9 _] at e'
        cases e'
        obtain ⟨c0, h2, h3, h4⟩ := h1
        refine ⟨c0, h2, by rw [Array.size_setIfInBounds]; exact h3, fun i hi => ?_⟩
        rw [Array.getElem?_setIfInBounds_ne (by exact (hi a ha rfl).symm)]
        exact h4 i hi
      · exact hR.kept b hb c' t' ((h9 b hb).symm.trans ((blk_ne hab).symm.trans e'))
  refine ⟨tv', K, hC, hh, ⟨fun b hb => ?_, hout, hblk, hkept⟩, ?_, ho⟩
  · by_cases hba : b = a
    · subst hba
      rw [if_pos rfl]
      exact ⟨d0, d1, d2, hfz b hb⟩
    · rw [if_neg hba]
      have key : ∀ j, j < 3 → w'.cell? ⟨b.1, b.2 + j, none⟩ = w.cell? ⟨b.1, b.2 + j, none⟩ := fun j hj => by
        have h1 : w9.cell? ⟨b.1, b.2 + j, none⟩ = w.cell? ⟨b.1, b.2 + j, none⟩ := World.cell?_of_block (a := ⟨b.1, b.2 + j, none⟩) (h9 b hb)
        rcases hw with rfl | rfl
        · exact h1
        · rw [cell_set_ne]
          · exact h1
          · intro e
            simp only [Addr.mk.injEq] at e
            rcases hA b hb a ha with h | h | h | h
            · exact hba h
            · exact h e.1
            · omega
            · omega
      obtain ⟨q0, q1, q2, q3⟩ := hR.cell b hb
      exact ⟨(key 0 (by omega)).trans q0, (key 1 (by omega)).trans q1, (key 2 (by omega)).trans q2, hfz b hb⟩
  · have h1 : Turned (fun j => Tset p tv j ∨ ∃ b ∈ rs, b.1 = j) w w9 := hT.mono fun _ h => Or.inl h
    rcases hw with rfl | rfl
    · exact h1
    · exact h1.setCell (Or.inl (Or.inr ⟨a, ha, rfl⟩)) _
theorem Roots.drewN {p : Par} {w : World} {tv : Value} {rs : List (Nat × Nat)} {f : Nat × Nat → Vl} (h : Roots p w tv rs f) (n : Nat) : Roots p (w.drewN n) tv rs f := ⟨h.cell, h.out, h.blk, h.kept⟩
theorem Roots.congr {p : Par} {w : World} {tv : Value} {rs : List (Nat × Nat)} {f g : Nat × Nat → Vl} (h : Roots p w tv rs f) (e : ∀ a ∈ rs, g a = f a) : Roots p w tv rs g := ⟨fun a ha => by rw [e a ha]; exact h.cell a ha, h.out, h.blk, h.kept⟩

/-- The first i roots are moved. -/
structure Half (p : Par) (tv0 : Value) (w0 : World) (L0 : List Ob) (P : Nat → Bool) (rs : List (Nat × Nat)) (f : Nat × Nat → Vl) (i : Nat) (wr : World) (tv : Value) (K : List Ob) : Prop where
  le : i ≤ rs.length
  cr : CR p wr tv (L0 ++ K) P
  roots : Roots p wr tv rs (fun a => if a ∈ rs.take i then fixV p (L0 ++ K) (f a) else f a)
  has_ : ∀ a ∈ rs.take i, (f a).k = 4 → p.from_ (f a).n = true → has (L0 ++ K) (f a).n.toNat
  grew : GrewR p (fun j => ∃ b ∈ rs, b.1 = j) tv0 w0 tv wr
theorem mem_take_succ {rs : List (Nat × Nat)} {i : Nat} {a b : Nat × Nat} (h : rs[i]? = some a) : b ∈ rs.take (i + 1) ↔ b ∈ rs.take i ∨ b = a := by
  rw [List.take_add_one, h]
  simp
theorem half_skip {p : Par} {tv0 : Value} {w0 : World} {L0 : List Ob} {P : Nat → Bool} {rs : List (Nat × Nat)} {f : Nat × Nat → Vl} {i : Nat} {wr : World} {tv : Value} {K : List Ob} (h : Half p tv0 w0 L0 P rs f i wr tv K) {a : Nat × Nat} (ha : rs[i]? = some a) (hin : a ∈ rs.take i) : Half p tv0 w0 L0 P rs f (i + 1) wr tv K := by
  have hm : ∀ b, b ∈ rs.take (i + 1) ↔ b ∈ rs.take i := fun b => (mem_take_succ ha).trans ⟨fun h' => h'.elim id (fun e => e ▸ hin), Or.inl⟩
  refine ⟨by have := (List.getElem?_eq_some_iff.1 ha).1; omega, h.cr, h.roots.congr (fun b _ => ?_), fun b hb => h.has_ b ((hm b).1 hb), h.grew⟩
  by_cases hbt : b ∈ rs.take i
  · rw [if_pos hbt, if_pos ((hm b).2 hbt)]
  · rw [if_neg hbt, if_neg (fun h' => hbt ((hm b).1 h'))]
/-- One root more that was not moved yet. -/
theorem half_new {p : Par} {tv0 : Value} {w0 : World} {L0 : List Ob} {P : Nat → Bool} {rs : List (Nat × Nat)} {f : Nat × Nat → Vl} {i : Nat} {wr : World} {tv : Value} {K : List Ob} (h : Half p tv0 w0 L0 P rs f i wr tv K) (hA : RootsApart rs) {a : Nat × Nat} (ha : rs[i]? = some a) (hin : a ∉ rs.take i) {w' : World}
    (hM : Moved p wr tv (L0 ++ K) P a.1 a.2 (f a).k (f a).n w') : ∃ tv' K', Half p tv0 w0 L0 P rs f (i + 1) w' tv' K' ∧ GrewR p (fun j => ∃ b ∈ rs, b.1 = j) tv wr tv' w' := by
  have har := List.mem_of_getElem? ha
  have hR := h.roots
  have hMf : Moved p wr tv (L0 ++ K) P a.1 a.2 ((fun a => if a ∈ rs.take i then fixV p (L0 ++ K) (f a) else f a) a).k ((fun a => if a ∈ rs.take i then fixV p (L0 ++ K) (f a) else f a) a).n w' := by
    simp only [if_neg hin]
    exact hM
  obtain ⟨tv', K', h1, h2, h3, h4⟩ := roots_move hR hA har hMf
  simp only [if_neg hin] at h2 h3
  rw [List.append_assoc] at h1 h2 h3
  refine ⟨tv', K ++ K', ⟨by have := (List.getElem?_eq_some_iff.1 ha).1; omega, h1, h3.congr fun b hb => ?_, fun b hb g1 g2 => ?_, h.grew.trans h4⟩, h4⟩
  · by_cases hba : b = a
    · subst hba
      rw [if_pos rfl, if_pos ((mem_take_succ ha).2 (Or.inr rfl))]
    · rw [if_neg hba]
      by_cases hbt : b ∈ rs.take i
      · rw [if_pos hbt, if_pos ((mem_take_succ ha).2 (Or.inl hbt)), ← List.append_assoc]
        exact fixV_grow (h.has_ b hbt)
      · rw [if_neg hbt, if_neg (fun h' => ((mem_take_succ ha).1 h').elim hbt hba)]
  · rcases (mem_take_succ ha).1 hb with hb | rfl
    · rw [← List.append_assoc]
      exact has_append.mpr (Or.inl (h.has_ b hb g1 g2))
    · exact h2 g1 g2
/-- One root more, in Minor. -/
theorem half_minor {p : Par} (hmj : p.maj = false) {tv0 : Value} {w0 : World} {L0 : List Ob} {P : Nat → Bool} {rs : List (Nat × Nat)} {f : Nat × Nat → Vl} {i : Nat} {wr : World} {tv : Value} {K : List Ob} (h : Half p tv0 w0 L0 P rs f i wr tv K) (hA : RootsApart rs) {a : Nat × Nat} (ha : rs[i]? = some a) {w' : World}
    (hM : Moved p wr tv (L0 ++ K) P a.1 a.2 (if a ∈ rs.take i then fixV p (L0 ++ K) (f a) else f a).k (if a ∈ rs.take i then fixV p (L0 ++ K) (f a) else f a).n w') : ∃ tv' K', Half p tv0 w0 L0 P rs f (i + 1) w' tv' K' := by
  have har := List.mem_of_getElem? ha
  obtain ⟨tv', K', h1, h2, h3, h4⟩ := roots_move h.roots hA har hM
  rw [List.append_assoc] at h1 h2 h3
  refine ⟨tv', K ++ K', ⟨by have := (List.getElem?_eq_some_iff.1 ha).1; omega, h1, h3.congr fun b hb => ?_, fun b hb g1 g2 => ?_, h.grew.trans h4⟩⟩
  · by_cases hba : b = a
    · subst hba
      rw [if_pos rfl, if_pos ((mem_take_succ ha).2 (Or.inr rfl))]
      by_cases hbt : b ∈ rs.take i
      · rw [if_pos hbt]
        have e1 : fixV p (L0 ++ (K ++ K')) (f b) = fixV p (L0 ++ K) (f b) := by
          rw [← List.append_assoc]
          exact fixV_grow (h.has_ b hbt)
        rw [e1]
        have e2 : newN p (L0 ++ (K ++ K')) (f b).k (newN p (L0 ++ K) (f b).k (f b).n) = newN p (L0 ++ K) (f b).k (f b).n := newN_id (newN_again hmj _ _ _)
        unfold fixV
        rw [e2]
      · rw [if_neg hbt]
    · rw [if_neg hba]
      by_cases hbt : b ∈ rs.take i
      · rw [if_pos hbt, if_pos ((mem_take_succ ha).2 (Or.inl hbt)), ← List.append_assoc]
        exact fixV_grow (h.has_ b hbt)
      · rw [if_neg hbt, if_neg (fun h' => ((mem_take_succ ha).1 h').elim hbt hba)]
  · rcases (mem_take_succ ha).1 hb with hb | rfl
    · rw [← List.append_assoc]
      exact has_append.mpr (Or.inl (h.has_ b hb g1 g2))
    · by_cases hbt : b ∈ rs.take i
      · rw [← List.append_assoc]
        exact has_append.mpr (Or.inl (h.has_ b hbt g1 g2))
      · rw [if_neg hbt] at h2
        exact h2 g1 g2
end Go.Proofs.YthbkklnahhdgcaaDoor.ChJ
