/-
  Package heap's live: its closure over what was seen and what is to do.
-/
import Derived.Test.YthbkklnahhdgcaaMChU
import Derived.Maps.OwnSet
namespace Go.Proofs.Ythbkklnahhdgcaa.ChV
open Go Go.Proofs Go.RowKit Go.Maps Go.Proofs.Ythbkklnahhdgcaa.Lib Go.Proofs.Ythbkklnahhdgcaa.HeapR Go.Proofs.Ythbkklnahhdgcaa.ChCa Go.Proofs.Ythbkklnahhdgcaa.ChCc Go.Proofs.Ythbkklnahhdgcaa.ChH Go.Proofs.Ythbkklnahhdgcaa.ChL

theorem plainElem_bool_inv {P : Program} {e : TypeId} (he : P.underlying e = some .bool) {v : Value} {z : DataW Unit × List MemPlace} (h : plainElem P e v = some z) : ∃ x, v = .bool x ∧ z = (.lit (.bool x), []) := by
  unfold plainElem at h
  rw [he] at h
  cases v <;> simp at h
  subst h
  exact ⟨_, rfl, rfl⟩
/-- A map to truths reads as a function. -/
structure ReadsB (D : DataW Unit) (s : Int → Bool) : Prop where
  map : IsMap D
  at_ : ∀ a, D.atKey (.int .i64 a) (.lit (.bool false)) = .lit (.bool (s a))
theorem readsB_empty : ReadsB (.map []) (fun _ => false) := ⟨isMap_empty, fun _ => rfl⟩
theorem readsB_put {D : DataW Unit} {s : Int → Bool} (h : ReadsB D s) (a : Int) : ReadsB (D.put (.int .i64 a) (.lit (.bool true))) (fun b => decide (b = a) || s b) := by
  refine ⟨h.map.put _ _, fun b => ?_⟩
  by_cases e : b = a
  · subst e
    rw [atKey_put_same h.map (lit_key b)]
    simp
  · rw [atKey_put_other (lit_ne e), h.at_]
    simp [e]
set_option maxRecDepth 100000 in
theorem look_bool {w : World} {b n : Nat} {D : DataW Unit} {s : Int → Bool} (h : w.ownsMap Try.prog 3 (plainElem Try.prog 4) b n D) (hR : ReadsB D s) (a : Int) (hw : (Lit.int .i64 a).wf = true) : (Instr.lookup 37 (.map (some b)) (.int .i64 a) false).run Try.prog w = .ok (.bool (s a)) w := by
  obtain ⟨v, ps, hrun, hv⟩ := h.lookup (t := 37) (e := 4) (z := .bool false) (zd := .lit (.bool false)) (zp := []) (int_keyed Try.underlying3) Try.underlying37 (by kernel_rfl) (plainElem_bool Try.underlying4 false) (keyOf_int_mk Try.underlying3 hw)
  obtain ⟨x, rfl, hz⟩ := plainElem_bool_inv Try.underlying4 hv
  rw [hR.at_] at hz
  injection hz with h1 _
  injection h1 with h1
  injection h1 with h1
  rw [hrun, h1]

/-- What live holds: what was seen, what is to do. -/
structure LS (w : World) (vs vt sb B : Nat) (S T : List Int) : Prop where
  sv : w.heap[vs]? = some (.cells #[.map (some sb)] 37 (0, 0))
  tv : ∃ o c, w.heap[vt]? = some (.cells #[.slice o T.length c] 22 (0, 0)) ∧ w.ownsRow B 3 1 (.slice o T.length c) T.length (T.map (Value.int .i64)) ∧ (Value.slice o T.length c).ownBlock ≠ some vs ∧ (Value.slice o T.length c).ownBlock ≠ some vt ∧ (Value.slice o T.length c).ownBlock ≠ some sb
  mp : ∃ D, w.ownsMap Try.prog 3 (plainElem Try.prog 4) sb S.length D ∧ ReadsB D (fun a => decide (a ∈ S))
  lo : B ≤ vs ∧ B ≤ vt ∧ B ≤ sb
  ne : vs ≠ vt ∧ vs ≠ sb ∧ vt ≠ sb
theorem LS.below {w w' : World} {vs vt sb B : Nat} {S T : List Int} (h : LS w vs vt sb B S T) (hb : Below w.heap.size w w') : LS w' vs vt sb B S T := by
  obtain ⟨o, c, t1, t2, t3⟩ := h.tv
  obtain ⟨D, m1, m2⟩ := h.mp
  exact { h with
    sv := (hb.block _ (lt_of_block h.sv)).trans h.sv
    tv := ⟨o, c, (hb.block _ (lt_of_block t1)).trans t1, ownsRow_same t2 fun k hk => hb.block k (own_lt t2 hk).2, t3⟩
    mp := ⟨D, HeapF.ownsMap_same m1 (hb.block _ m1.lt), m2⟩ }

set_option maxRecDepth 100000 in
set_option maxHeartbeats 1000000 in
theorem come_no {w : World} {vs vt : Nat} (k n : Int) (s : ByteArray) (hk : k ≠ 4) :
    Calls Try.prog 30 #[.agg #[.int .i64 k, .int .i64 n, .string s], .pointer (some ⟨vs, 0, none⟩), .pointer (some ⟨vt, 0, none⟩)] w fun e w' => e = .returned (.tuple #[]) ∧ Below w.heap.size w w' := by
  have hkd : (k == 4) = false := by simpa using hk
  clear hk
  go_enter Try.func30, Try.ntmps30
  go_wp2
  go_end0
  exact ⟨rfl, (Below.refl _ _).alloc (Nat.le_refl _) _⟩

set_option maxRecDepth 100000 in
set_option maxHeartbeats 1000000 in
theorem come_in {w : World} {vs vt sb B : Nat} {S T : List Int} (h : LS w vs vt sb B S T) (n : Int) (s : ByteArray) (hw : (Lit.int .i64 n).wf = true) (hn : n ∈ S) :
    Calls Try.prog 30 #[.agg #[.int .i64 4, .int .i64 n, .string s], .pointer (some ⟨vs, 0, none⟩), .pointer (some ⟨vt, 0, none⟩)] w fun e w' => e = .returned (.tuple #[]) ∧ Below w.heap.size w w' := by
  have h1 := h.below ((Below.refl w.heap.size w).alloc (Nat.le_refl _) (.cells #[.int .i64 4, .int .i64 n, .string s] 34 (0, 0)))
  obtain ⟨D, m1, m2⟩ := h1.mp
  have hl := look_bool m1 m2 n hw
  rw [decide_eq_true hn] at hl
  have sv : (w.alloc (.cells #[.int .i64 4, .int .i64 n, .string s] 34 (0, 0))).cell? ⟨vs, 0, none⟩ = some (.map (some sb)) := cell_of_block h1.sv rfl
  clear m1 m2 h1 hn
  go_enter Try.func30, Try.ntmps30
  go_wp2
  go_end0
  exact ⟨rfl, (Below.refl _ _).alloc (Nat.le_refl _) _⟩

theorem own_ne {w : World} {base e size : Nat} {v : Value} {n : Nat} {xs : List Value} (h : w.ownsRow base e size v n xs) {k : Nat} {o : Obj} (hb : w.heap[k]? = some o) (ho : ∀ cur, o ≠ .cells cur e (0, 0)) : v.ownBlock ≠ some k := by
  intro e1
  rcases h.2 with ⟨rfl, _⟩ | ⟨g, cap, cur, rfl, _, hg, _⟩
  · simp [Value.ownBlock] at e1
  · simp only [Value.ownBlock, Option.some.injEq] at e1
    subst e1
    rw [hb] at hg
    exact ho cur (Option.some.inj hg)
theorem infoInt : (Try.prog.info? 3).map (fun i => (i.zero, i.size, i.bytes)) = some (some (.int .i64 0), 1, 8) := by kernel_rfl
set_option maxRecDepth 100000 in
set_option maxHeartbeats 1000000 in
theorem come_new {w : World} {vs vt sb B : Nat} {S T : List Int} (h : LS w vs vt sb B S T) (n : Int) (s : ByteArray) (hw : (Lit.int .i64 n).wf = true) (hn : n ∉ S) (hS : S.length < big) (hTl : T.length < big) (hB : B ≤ w.heap.size) :
    Calls Try.prog 30 #[.agg #[.int .i64 4, .int .i64 n, .string s], .pointer (some ⟨vs, 0, none⟩), .pointer (some ⟨vt, 0, none⟩)] w fun e w' => e = .returned (.tuple #[]) ∧ LS w' vs vt sb B (S ++ [n]) (T ++ [n]) ∧ Below B w w' := by
  have hb1 := (Below.refl w.heap.size w).alloc (Nat.le_refl _) (.cells #[.int .i64 4, .int .i64 n, .string s] 34 (0, 0))
  have h1 := h.below hb1
  obtain ⟨D, m1, m2⟩ := h1.mp
  obtain ⟨o, c, t1, t2, t3, t4, t5⟩ := h1.tv
  have hl := look_bool m1 m2 n hw
  rw [decide_eq_false hn] at hl
  have sv : (w.alloc (.cells #[.int .i64 4, .int .i64 n, .string s] 34 (0, 0))).cell? ⟨vs, 0, none⟩ = some (.map (some sb)) := cell_of_block h1.sv rfl
  have tvc : (w.alloc (.cells #[.int .i64 4, .int .i64 n, .string s] 34 (0, 0))).cell? ⟨vt, 0, none⟩ = some (.slice o T.length c) := cell_of_block t1 rfl
  have q0 : (w.alloc (.cells #[.int .i64 4, .int .i64 n, .string s] 34 (0, 0))).cell? ⟨w.heap.size, 1, none⟩ = some (.int .i64 n) := cell_of_block (heap_alloc_last w _) rfl
  obtain ⟨i0, hi, hz0, hz1, hz2⟩ := info_parts infoInt
  have hSm : S.length < maxLen := lt_max _ hS
  have hTm : T.length + 1 ≤ maxLen := max_of _ (by omega)
  have hTb : (T.length + 1) * 8 ≤ 140737488355328 := by unfold big at hTl; omega
  have hsvb := h1.sv
  obtain ⟨l1, l2, l3⟩ := h.lo
  obtain ⟨n1, n2, n3⟩ := h.ne
  have hvl := lt_of_block h.sv
  have q1 : (w.alloc (.cells #[.int .i64 4, .int .i64 n, .string s] 34 (0, 0))).heap[w.heap.size]? = some (.cells #[.int .i64 4, .int .i64 n, .string s] 34 (0, 0)) := heap_alloc_last w _
  have hsbl : sb < w.heap.size := by obtain ⟨D', m', _⟩ := h.mp; exact m'.lt
  clear hS hTl h1
  have Hn := Lib.hid hn
  clear hn
  go_enter Try.func30, Try.ntmps30
  go_wp2_with (first | (at_mapUpdate; refine wpList_mapUpdate_own _ rfl _ _ _ 37 rfl 3 4 (int_keyed Try.underlying3) Try.underlying37 _ sb S.length D rfl m1 hSm _ _ (.int .i64 n) rfl rfl (keyOf_int_mk Try.underlying3 hw) _ [] (plainElem_bool Try.underlying4 true) ?_; intro w2 hm2 hg2; have tv2 := (hg2.block vt (lt_of_block t1) (fun e => n3 (Option.some.inj e))).trans t1; have tvc2 : w2.cell? ⟨vt, 0, none⟩ = some (.slice o T.length c) := cell_of_block tv2 rfl; have tf2 : w2.frozen? ⟨vt, 0, none⟩ = false := frozen_of_block tv2; have q2 : w2.cell? ⟨w.heap.size, 1, none⟩ = some (.int .i64 n) := cell_of_block ((hg2.block w.heap.size (lt_of_block q1) (fun e => by have e2 := Option.some.inj e; omega)).trans q1) rfl; have t22 := ownsRow_same t2 (fun k hk => hg2.block k (own_lt t2 hk).2 (fun e => t5 (hk.trans e))); clear tvc sv q0) | (at_builtin; refine wpList_append_own _ rfl _ _ 22 rfl B 3 i0 (.int .i64 0) 1 8 Try.underlying22 hi hz0 hz1 hz2 rfl (by decide) (.slice o T.length c) T.length (T.map (Value.int .i64)) rfl (t22.alloc _) ⟨w2.heap.size, 0, none⟩ 1 1 [.int .i64 n] rfl rfl ?c1 ?c2 ?c3 ?c4 ?c5 ?_))
  case c1 => exact World.news_of_block (cs := #[.int .i64 n]) (t := 3) (fr := (0, 0)) (heap_alloc_last w2 _)
  case c2 => intro u hu; simp at hu; subst hu; rfl
  case c3 => exact hTm
  case c4 => exact hTb
  case c5 => have := hg2.size; simp at this ⊢; omega
  intro v' w3 hown' hgrow _
  obtain ⟨g', cap', rfl⟩ := row_slice hown' (by omega)
  have hsz2 : w.heap.size + 1 ≤ w2.heap.size := by have := hg2.size; simpa using this
  have sv2 : w2.heap[vs]? = some (.cells #[.map (some sb)] 37 (0, 0)) := (hg2.block vs (lt_of_block hsvb) (fun e => n2 (Option.some.inj e))).trans hsvb
  have sv3 := (hgrow.block vs (by simp; omega) (fun e => t3 e.symm)).trans ((Below.heap_alloc w2 _ vs (by omega)).trans sv2)
  have tv3 := (hgrow.block vt (by have := lt_of_block tv2; simp; omega) (fun e => t4 e.symm)).trans ((Below.heap_alloc w2 _ vt (lt_of_block tv2)).trans tv2)
  have hm3 := HeapF.ownsMap_same hm2 ((hgrow.block sb (by simp; omega) (fun e => t5 e.symm)).trans (Below.heap_alloc w2 _ sb (by omega)))
  have tf3 : w3.frozen? ⟨vt, 0, none⟩ = false := frozen_of_block tv3
  have tc3 : w3.cell? ⟨vt, 0, none⟩ = some (.slice o T.length c) := cell_of_block tv3 rfl
  have d1 := own_ne hown' sv3 (by intro cur e; cases e)
  have d2 := own_ne hown' tv3 (by intro cur e; cases e)
  have d3 := own_ne hown' (show w3.heap[sb]? = _ from hm3.choose_spec.choose_spec.1) (by intro cur e; cases e)
  have hBw : Below B w w3 := by
    have b1 : Below B w w2 := ((hb1.mono hB)).trans ⟨hg2.os, hg2.tape, hg2.output, hg2.size, fun k hk => hg2.block k (by simp; omega) (fun e => by have := Option.some.inj e; omega)⟩
    have b2 : Below B w2 w3 := ((Below.refl B w2).alloc (by omega) _).trans ⟨hgrow.os, hgrow.tape, hgrow.output, hgrow.size, fun k hk => hgrow.block k (by simp; omega) (fun e => by have := (own_lt t22 e.symm).1; omega)⟩
    exact b1.trans b2
  have b4 := hBw.setCell (p := ⟨vt, 0, none⟩) l2 (.slice (some ⟨g', 0, none⟩) (T.length + 1) cap')
  have sv4 : (w3.setCell ⟨vt, 0, none⟩ (.slice (some ⟨g', 0, none⟩) (T.length + 1) cap')).heap[vs]? = _ := (blk_ne n1).trans sv3
  have tv4 := blk_set (i := 0) tv3 (.slice (some ⟨g', 0, none⟩) (T.length + 1) cap')
  have hm4 := HeapF.ownsMap_same hm3 (w' := w3.setCell ⟨vt, 0, none⟩ (.slice (some ⟨g', 0, none⟩) (T.length + 1) cap')) (blk_ne (fun e => n3 e.symm))
  have hrow4 := ownsRow_same hown' (w' := w3.setCell ⟨vt, 0, none⟩ (.slice (some ⟨g', 0, none⟩) (T.length + 1) cap')) (fun k hk => blk_ne (fun e => d2 (hk.trans (congrArg some e))))
  have A1 := Lib.hid hm4
  have A2 := Lib.hid sv4
  have A3 := Lib.hid tv4
  clear hm4 sv4 tv4 hm3 hm2
  go_wp2
  go_end0
  refine ⟨rfl, ⟨A2.out, ⟨some ⟨g', 0, none⟩, cap', ?_, ?_, ?_, ?_, ?_⟩, ?_, ⟨l1, l2, l3⟩, ⟨n1, n2, n3⟩⟩, b4⟩
  · rw [List.length_append]
    exact A3.out
  · rw [List.length_append, List.map_append]
    exact hrow4
  · exact d1
  · exact d2
  · exact d3
  · rw [List.length_append]
    refine ⟨_, A1.out, ?_⟩
    have h2 := readsB_put m2 n
    refine ⟨h2.map, fun a => ?_⟩
    rw [h2.at_ a]
    simp [or_comm]
end Go.Proofs.Ythbkklnahhdgcaa.ChV
