/-
  The contract of check's closure come: one comes to a place with a number of values.
-/
import Derived.Test.YthbkklnahhdgcaaDoorCodeB
import Derived.Test.YthbkklnahhdgcaaDoorCodeP
import Derived.OneCell
import Derived.Laws.AppendOwn
namespace Go.Proofs.YthbkklnahhdgcaaDoor.CodeD
open Go Go.Proofs Go.RowKit Lib CodeR CodeA CodeB CodeP

/-- An owned row stays where its block does. -/
theorem own_keep {w w' : World} {base : Nat} {e : TypeId} {size : Nat} {v : Value} {n : Nat} {xs : List Value} (h : w.ownsRow base e size v n xs) (hb : ∀ g, v.ownBlock = some g → w'.heap[g]? = w.heap[g]?) : w'.ownsRow base e size v n xs := by
  obtain ⟨h1, h2⟩ := h
  refine ⟨h1, ?_⟩
  rcases h2 with h2 | ⟨g, cap, cur, rfl, h3, h4, h5⟩
  · exact Or.inl h2
  · exact Or.inr ⟨g, cap, cur, rfl, h3, (hb g rfl).trans h4, h5⟩
theorem own_base {w : World} {base : Nat} {e : TypeId} {size : Nat} {v : Value} {n : Nat} {xs : List Value} (h : w.ownsRow base e size v n xs) {g : Nat} (hg : v.ownBlock = some g) : base ≤ g ∧ g < w.heap.size := by
  obtain ⟨_, h2⟩ := h
  rcases h2 with ⟨rfl, _⟩ | ⟨g', cap, cur, rfl, h3, h4, _⟩
  · cases hg
  · cases hg; exact ⟨h3, lt_of_block h4⟩

theorem own_form {w : World} {base : Nat} {e : TypeId} {size : Nat} {v : Value} {k : Nat} {xs : List Value} (h : w.ownsRow base e size v (k + 1) xs) : ∃ g cap, v = .slice (some ⟨g, 0, none⟩) (k + 1) cap := by
  obtain ⟨_, h2⟩ := h
  rcases h2 with ⟨_, h2⟩ | ⟨g, cap, _, h2, _⟩
  · omega
  · exact ⟨g, cap, h2⟩

/-- What come sees: check's boxes and what lies in them. fx, ex, dx, tx: the boxes of f, e, deep, todo; da: deep's array; v: todo. All of todo's rows are from base on. -/
structure CS (w : World) (lo fx ex dx tx da base : Nat) (F : Value) (deep : List Int) (todo : List Nat) (e : Int) (v : Value) : Prop where
  fbox : w.heap[fx]? = some (.cells #[F] 116 (0, 0))
  ebox : w.heap[ex]? = some (.cells #[.int .i64 e] 35 (0, 0))
  dbox : w.heap[dx]? = some (.cells #[.slice (some ⟨da, 0, none⟩) deep.length deep.length] 52 (0, 0))
  darr : w.heap[da]? = some (.cells (deep.map (Value.int .i64)).toArray 3 (0, 0))
  tbox : w.heap[tx]? = some (.cells #[v] 52 (0, 0))
  own : w.ownsRow base 3 1 v todo.length (todo.map fun (i : Nat) => Value.int .i64 (i : Int))
  low : fx < base ∧ ex < base ∧ dx < base ∧ tx < base ∧ da < base
  high : lo ≤ fx ∧ lo ≤ ex ∧ lo ≤ dx ∧ lo ≤ tx ∧ lo ≤ da
  fe : fx ≠ ex
  fd : fx ≠ da
  ft : fx ≠ tx
  ed : ex ≠ da
  et : ex ≠ tx
  edx : ex ≠ dx
  dd : dx ≠ da
  dt : dx ≠ tx
  at' : da ≠ tx

theorem CS.size {w : World} {lo fx ex dx tx da base : Nat} {F : Value} {deep : List Int} {todo : List Nat} {e : Int} {v : Value} (S : CS w lo fx ex dx tx da base F deep todo e v) : fx < w.heap.size ∧ ex < w.heap.size ∧ dx < w.heap.size ∧ da < w.heap.size ∧ tx < w.heap.size :=
  ⟨lt_of_block S.fbox, lt_of_block S.ebox, lt_of_block S.dbox, lt_of_block S.darr, lt_of_block S.tbox⟩
/-- Whatever keeps its blocks keeps it. -/
theorem CS.keep {w w' : World} {lo fx ex dx tx da base : Nat} {F : Value} {deep : List Int} {todo : List Nat} {e : Int} {v : Value} (S : CS w lo fx ex dx tx da base F deep todo e v) (hb : ∀ k, k < w.heap.size → w'.heap[k]? = w.heap[k]?) : CS w' lo fx ex dx tx da base F deep todo e v := by
  obtain ⟨h1, h2, h3, h4, h5⟩ := S.size
  exact ⟨(hb _ h1).trans S.fbox, (hb _ h2).trans S.ebox, (hb _ h3).trans S.dbox, (hb _ h4).trans S.darr, (hb _ h5).trans S.tbox, own_keep S.own (fun g hg => hb g (own_base S.own hg).2), S.low, S.high, S.fe, S.fd, S.ft, S.ed, S.et, S.edx, S.dd, S.dt, S.at'⟩
theorem CS.below {w w' : World} {lo fx ex dx tx da base : Nat} {F : Value} {deep : List Int} {todo : List Nat} {e : Int} {v : Value} (S : CS w lo fx ex dx tx da base F deep todo e v) (hb : Below w.heap.size w w') : CS w' lo fx ex dx tx da base F deep todo e v :=
  S.keep fun k hk => hb.block k hk
theorem CS.dcell {w : World} {lo fx ex dx tx da base : Nat} {F : Value} {deep : List Int} {todo : List Nat} {e : Int} {v : Value} (S : CS w lo fx ex dx tx da base F deep todo e v) {i : Nat} (hi : i < deep.length) : w.cell? ⟨da, i, none⟩ = some (.int .i64 (deep.getD i 0)) := by
  simp [World.cell?, S.darr, List.getD_eq_getElem?_getD, List.getElem?_eq_getElem hi]
/-- The boxes that come writes. -/
def Ws (ex da tx : Nat) (v : Value) (k : Nat) : Prop := k = ex ∨ k = da ∨ k = tx ∨ some k = v.ownBlock

theorem block_setCell_ne {w : World} {a : Addr} {u : Value} {k : Nat} (h : k ≠ a.block) : (w.setCell a u).heap[k]? = w.heap[k]? := Below.heap_setCell _ _ _ _ h

/-- e becomes ErrForm. -/
theorem CS.setE {w : World} {lo fx ex dx tx da base : Nat} {F : Value} {deep : List Int} {todo : List Nat} {e : Int} {v : Value} (S : CS w lo fx ex dx tx da base F deep todo e v) (x : Int) : CS (w.setCell ⟨ex, 0, none⟩ (.int .i64 x)) lo fx ex dx tx da base F deep todo x v := by
  have hk : ∀ k, k ≠ ex → (w.setCell ⟨ex, 0, none⟩ (.int .i64 x)).heap[k]? = w.heap[k]? := fun k hk => block_setCell_ne hk
  refine ⟨(hk _ S.fe).trans S.fbox, one_setCell S.ebox, (hk _ S.edx.symm).trans S.dbox, (hk _ S.ed.symm).trans S.darr, (hk _ S.et.symm).trans S.tbox, own_keep S.own (fun g hg => hk g ?_), S.low, S.high, S.fe, S.fd, S.ft, S.ed, S.et, S.edx, S.dd, S.dt, S.at'⟩
  have := (own_base S.own hg).1
  have := S.low
  omega
theorem CS.turnE {w : World} {lo fx ex dx tx da base : Nat} {F : Value} {deep : List Int} {todo : List Nat} {e : Int} {v : Value} (_S : CS w lo fx ex dx tx da base F deep todo e v) (x : Value) : Turned (Ws ex da tx v) w (w.setCell ⟨ex, 0, none⟩ x) :=
  (Turned.refl _ w).setCell (Or.inl (Or.inl rfl)) _

set_option maxRecDepth 100000 in
set_option maxHeartbeats 2000000 in
/-- come, at a place that isn't there or with too many values. -/
theorem come_bad (w : World) (lo fx ex dx tx da base fb fo : Nat) (f : Fc) (deep : List Int) (todo : List Nat) (e : Int) (v : Value) (p : Nat) (n : Int)
    (S : CS w lo fx ex dx tx da base (.pointer (some ⟨fb, fo, none⟩)) deep todo e v) (hf : Row w fb fo f.vals) (hfi : FcIn w f) (hd : deep.length = f.code.length) (h : deep.length ≤ p ∨ 200 < n) :
    Calls Tryd.prog 83 #[.int .i64 (p : Int), .int .i64 n, .pointer (some ⟨fx, 0, none⟩), .pointer (some ⟨ex, 0, none⟩), .pointer (some ⟨dx, 0, none⟩), .pointer (some ⟨tx, 0, none⟩)] w
      fun r w' => r = .returned (.tuple #[]) ∧ w' = w.setCell ⟨ex, 0, none⟩ (.int .i64 3) := by
  have hfc : w.cell? ⟨fb, fo + 3, none⟩ = some f.codeS.val := hf 3 _ rfl
  have hl := hfi.code.len
  rw [List.length_map] at hl
  unfold Sl.val at hfc
  have hfx := cell_of_one S.fbox
  have hex := cell_of_one S.ebox
  have hez := free_of_one S.ebox
  rw [hd] at h
  clear S hf hfi
  rcases Nat.lt_or_ge p f.code.length with h0 | h0
  · have h1 : 200 < n := by omega
    have hd0 : decide ((f.code.length : Int) ≤ (p : Int)) = false := by simp; omega
    have hd1 : decide (200 < n) = true := by simp; omega
    go_enter Tryd.func83, Tryd.ntmps83
    go_wp2
    go_end0
    exact ⟨rfl, rfl⟩
  · have hd0 : decide ((f.code.length : Int) ≤ (p : Int)) = true := by simp; omega
    go_enter Tryd.func83, Tryd.ntmps83
    go_wp2
    go_end0
    exact ⟨rfl, rfl⟩

/-- The facts of a walk through come at a place that is there. -/
theorem come_place {p : Nat} {n : Int} {L : Nat} (h : ¬ (L ≤ p ∨ 200 < n)) : p < L ∧ decide ((L : Int) ≤ (p : Int)) = false ∧ decide (200 < n) = false := by
  refine ⟨by omega, by simp; omega, by simp; omega⟩

set_option maxRecDepth 100000 in
set_option maxHeartbeats 2000000 in
/-- come, at a place that has that number. -/
theorem come_same (w : World) (lo fx ex dx tx da base fb fo : Nat) (f : Fc) (deep : List Int) (todo : List Nat) (e : Int) (v : Value) (p : Nat) (n : Int)
    (S : CS w lo fx ex dx tx da base (.pointer (some ⟨fb, fo, none⟩)) deep todo e v) (hf : Row w fb fo f.vals) (hfi : FcIn w f) (hd : deep.length = f.code.length) (_hlim : deep.length ≤ 5000) (h : ¬ (deep.length ≤ p ∨ 200 < n)) (h2 : ¬ deep.getD p 0 < 0) (h3 : deep.getD p 0 = n) :
    Calls Tryd.prog 83 #[.int .i64 (p : Int), .int .i64 n, .pointer (some ⟨fx, 0, none⟩), .pointer (some ⟨ex, 0, none⟩), .pointer (some ⟨dx, 0, none⟩), .pointer (some ⟨tx, 0, none⟩)] w
      fun r w' => r = .returned (.tuple #[]) ∧ w' = w := by
  have hfc : w.cell? ⟨fb, fo + 3, none⟩ = some f.codeS.val := hf 3 _ rfl
  have hl := hfi.code.len
  rw [List.length_map] at hl
  unfold Sl.val at hfc
  have hfx := cell_of_one S.fbox
  have hdx := cell_of_one S.dbox
  obtain ⟨hp, hd0, hd1⟩ := come_place h
  have hda := S.dcell hp
  rw [h3] at hda h2
  have hn : (n == n) = true := by simp
  have hd2 : decide (n < 0) = false := by simp; omega
  have hp0 : (0 : Int) ≤ (p : Int) := by omega
  have hp1 : (p : Int) < (deep.length : Int) := by omega
  rw [← hd] at hl
  clear S hf hfi h3 h h2 hd
  generalize deep.length = L at *
  go_enter Tryd.func83, Tryd.ntmps83
  go_wp2
  go_end0
  exact ⟨rfl, rfl⟩

set_option maxRecDepth 100000 in
set_option maxHeartbeats 2000000 in
/-- come, at a place that has another number. -/
theorem come_other (w : World) (lo fx ex dx tx da base fb fo : Nat) (f : Fc) (deep : List Int) (todo : List Nat) (e : Int) (v : Value) (p : Nat) (n : Int)
    (S : CS w lo fx ex dx tx da base (.pointer (some ⟨fb, fo, none⟩)) deep todo e v) (hf : Row w fb fo f.vals) (hfi : FcIn w f) (hd : deep.length = f.code.length) (_hlim : deep.length ≤ 5000) (h : ¬ (deep.length ≤ p ∨ 200 < n)) (h2 : ¬ deep.getD p 0 < 0) (h3 : ¬ deep.getD p 0 = n) :
    Calls Tryd.prog 83 #[.int .i64 (p : Int), .int .i64 n, .pointer (some ⟨fx, 0, none⟩), .pointer (some ⟨ex, 0, none⟩), .pointer (some ⟨dx, 0, none⟩), .pointer (some ⟨tx, 0, none⟩)] w
      fun r w' => r = .returned (.tuple #[]) ∧ w' = w.setCell ⟨ex, 0, none⟩ (.int .i64 3) := by
  have hfc : w.cell? ⟨fb, fo + 3, none⟩ = some f.codeS.val := hf 3 _ rfl
  have hl := hfi.code.len
  rw [List.length_map] at hl
  unfold Sl.val at hfc
  have hfx := cell_of_one S.fbox
  have hdx := cell_of_one S.dbox
  have hex := cell_of_one S.ebox
  have hez := free_of_one S.ebox
  obtain ⟨hp, hd0, hd1⟩ := come_place h
  have hda := S.dcell hp
  have hp0 : (0 : Int) ≤ (p : Int) := by omega
  have hp1 : (p : Int) < (deep.length : Int) := by omega
  rw [← hd] at hl
  clear S hf hfi h hd
  generalize deep.getD p 0 = u at *
  generalize deep.length = L at *
  have hn : (u == n) = false := by simp; omega
  have hd2 : decide (u < 0) = false := by simp; omega
  clear h2 h3
  go_enter Tryd.func83, Tryd.ntmps83
  go_wp2
  go_end0
  exact ⟨rfl, rfl⟩

theorem arr_setCell {w : World} {da p : Nat} {xs : List Int} {t : TypeId} {n : Int} (h : w.heap[da]? = some (.cells (xs.map (Value.int .i64)).toArray t (0, 0))) : (w.setCell ⟨da, p, none⟩ (.int .i64 n)).heap[da]? = some (.cells ((xs.set p n).map (Value.int .i64)).toArray t (0, 0)) := by
  have hlt := lt_of_block h
  have h' : w.heap[da] = .cells (xs.map (Value.int .i64)).toArray t (0, 0) := by simpa [Array.getElem?_eq_getElem hlt] using h
  show (w.heap.modify da _)[da]? = _
  rw [Array.getElem?_eq_getElem (by simpa using hlt), Array.getElem_modify_self, h']
  simp [List.map_set]
theorem infoInt : (Tryd.prog.info? 3).map (fun i => (i.zero, i.size, i.bytes)) = some (some (.int .i64 0), 1, 8) := by kernel_rfl

set_option maxRecDepth 100000 in
set_option maxHeartbeats 4000000 in
/-- come, at a new place. -/
theorem come_new (w : World) (lo fx ex dx tx da base fb fo : Nat) (f : Fc) (deep : List Int) (todo : List Nat) (e : Int) (v : Value) (p : Nat) (n : Int)
    (S : CS w lo fx ex dx tx da base (.pointer (some ⟨fb, fo, none⟩)) deep todo e v) (hf : Row w fb fo f.vals) (hfi : FcIn w f) (hd : deep.length = f.code.length) (_hlim : deep.length ≤ 5000) (htl : todo.length ≤ 5000) (hbw : base ≤ w.heap.size) (h : ¬ (deep.length ≤ p ∨ 200 < n)) (h2 : deep.getD p 0 < 0) :
    Calls Tryd.prog 83 #[.int .i64 (p : Int), .int .i64 n, .pointer (some ⟨fx, 0, none⟩), .pointer (some ⟨ex, 0, none⟩), .pointer (some ⟨dx, 0, none⟩), .pointer (some ⟨tx, 0, none⟩)] w
      fun r w' => r = .returned (.tuple #[]) ∧ ∃ v', CS w' lo fx ex dx tx da base (.pointer (some ⟨fb, fo, none⟩)) (deep.set p n) (todo ++ [p]) e v' ∧ Turned (Ws ex da tx v) w w' := by
  have hfc : w.cell? ⟨fb, fo + 3, none⟩ = some f.codeS.val := hf 3 _ rfl
  have hl := hfi.code.len
  rw [List.length_map] at hl
  unfold Sl.val at hfc
  have hfx := cell_of_one S.fbox
  have hdx := cell_of_one S.dbox
  obtain ⟨hp, hd0, hd1⟩ := come_place h
  have hda := S.dcell hp
  have hdz : w.frozen? ⟨da, p, none⟩ = false := by simp [World.frozen?, S.darr]
  have hp0 : (0 : Int) ≤ (p : Int) := by omega
  have hp1 : (p : Int) < (deep.length : Int) := by omega
  rw [← hd] at hl
  obtain ⟨i0, hi, hz0, hz1, hz2⟩ := info_parts infoInt
  obtain ⟨sz1, sz2, sz3, sz4, sz5⟩ := S.size
  have hlow := S.low
  -- the store into deep
  have hk1 : ∀ k, k ≠ da → (w.setCell ⟨da, p, none⟩ (.int .i64 n)).heap[k]? = w.heap[k]? := fun k hk => block_setCell_ne hk
  have hd' : (w.setCell ⟨da, p, none⟩ (.int .i64 n)).heap[da]? = some (.cells ((deep.set p n).map (Value.int .i64)).toArray 3 (0, 0)) := arr_setCell S.darr
  have how : (w.setCell ⟨da, p, none⟩ (.int .i64 n)).ownsRow base 3 1 v todo.length (todo.map fun (i : Nat) => Value.int .i64 (i : Int)) := own_keep S.own (fun g hg => hk1 g (by have := (own_base S.own hg).1; omega))
  have htx1 := cell_of_one ((hk1 tx S.at'.symm).trans S.tbox)
  generalize hw1 : w.setCell ⟨da, p, none⟩ (.int .i64 n) = w1 at *
  generalize hu : deep.getD p 0 = u at *
  have hdu : decide (u < 0) = true := by simpa using h2
  have hL : ∃ L, L = deep.length := ⟨_, rfl⟩
  obtain ⟨L, hL⟩ := hL
  rw [← hL] at *
  have hT1 : Turned (Ws ex da tx v) w w1 := by rw [← hw1]; exact (Turned.refl _ w).setCell (Or.inl (Or.inr (Or.inl rfl))) _
  have hC := S
  clear S hf hfi h hd
  go_enter Tryd.func83, Tryd.ntmps83
  go_wp2_with (at_builtin; refine wpList_append_own _ rfl _ _ 52 rfl base 3 i0 (.int .i64 0) 1 8 Tryd.underlying52 hi hz0 hz1 hz2 rfl (by decide) _ _ _ rfl (how.alloc _) ⟨w1.heap.size, 0, none⟩ 1 1 [.int .i64 (p : Int)] rfl rfl ?c1 ?c2 ?c3 ?c4 ?c5 ?_)
  case c2 => first | rfl | (intro u hu; simp at hu; subst hu; rfl)
  case c3 => unfold maxLen; omega
  case c4 => omega
  case c5 => have := hT1.size; simp; omega
  intro v' w2 hown' hgrow _
  obtain ⟨g', cap', rfl⟩ := own_form hown'
  have hk2 : ∀ k, k < w.heap.size → some k ≠ v.ownBlock → w2.heap[k]? = w1.heap[k]? := fun k hk hv => (hgrow.block k (by have := hT1.size; simp; omega) hv).trans (Below.heap_alloc _ _ _ (by have := hT1.size; omega))
  have hnv : ∀ k, k < base → some k ≠ v.ownBlock := fun k hk hv => by have := (own_base hC.own hv.symm).1; omega
  have htx2 : w2.heap[tx]? = some (.cells #[v] 52 (0, 0)) := (hk2 tx sz5 (hnv tx hlow.2.2.2.1)).trans ((hk1 tx hC.at'.symm).trans hC.tbox)
  have htx3 := cell_of_one htx2
  have htz3 := free_of_one htx2
  clear how
  go_wp2
  go_end0
  have hk3 : ∀ k, k ≠ tx → (w2.setCell ⟨tx, 0, none⟩ (.slice (some ⟨g', 0, none⟩) (todo.length + 1) cap')).heap[k]? = w2.heap[k]? := fun k hk => block_setCell_ne hk
  have hg' := own_base hown' rfl
  have hall : ∀ k, k < base → k ≠ da → k ≠ tx → (w2.setCell ⟨tx, 0, none⟩ (.slice (some ⟨g', 0, none⟩) (todo.length + 1) cap')).heap[k]? = w.heap[k]? := fun k h1 h2 h3 =>
    (hk3 k h3).trans ((hk2 k (by omega) (hnv k h1)).trans (hk1 k h2))
  refine ⟨rfl, _, ⟨(hall _ hlow.1 hC.fd hC.ft).trans hC.fbox, (hall _ hlow.2.1 hC.ed hC.et).trans hC.ebox, ?_, ?_, one_setCell htx2, ?_, hlow, hC.high, hC.fe, hC.fd, hC.ft, hC.ed, hC.et, hC.edx, hC.dd, hC.dt, hC.at'⟩, ?_⟩
  · rw [List.length_set]
    exact (hall _ hlow.2.2.1 hC.dd hC.dt).trans hC.dbox
  · exact (hk3 _ hC.at').trans ((hk2 _ sz4 (hnv _ hlow.2.2.2.2)).trans hd')
  · rw [List.map_append, List.length_append]
    exact own_keep hown' (fun g hg => hk3 g (by rintro rfl; have := (own_base hown' hg).1; omega))
  · exact ((hT1.alloc _).grown hgrow (fun k hk => Or.inl (Or.inr (Or.inr (Or.inr hk.symm))))).setCell (Or.inl (Or.inr (Or.inr (Or.inl rfl)))) _

theorem CS.under {w w' : World} {lo fx ex dx tx da base : Nat} {F : Value} {deep : List Int} {todo : List Nat} {e : Int} {v : Value} (S : CS w lo fx ex dx tx da base F deep todo e v) (h : Turned (Ws ex da tx v) w w') : Below lo w w' := by
  have h1 := S.high
  have h2 := S.low
  obtain ⟨h3, _⟩ := S.size
  refine h.below (by omega) ?_
  intro k hk
  rcases hk with rfl | rfl | rfl | hk
  · exact h1.2.1
  · exact h1.2.2.2.2
  · exact h1.2.2.2.1
  · have := (own_base S.own hk.symm).1; omega

/-- come: the labels, what is to be done, and the error, behind it. -/
theorem come_any (w : World) (lo fx ex dx tx da base fb fo : Nat) (f : Fc) (deep : List Int) (todo : List Nat) (e : Int) (v : Value) (p : Nat) (n : Int)
    (S : CS w lo fx ex dx tx da base (.pointer (some ⟨fb, fo, none⟩)) deep todo e v) (hf : Row w fb fo f.vals) (hfi : FcIn w f) (hd : deep.length = f.code.length) (hlim : deep.length ≤ 5000) (htl : todo.length ≤ 5000) (hbw : base ≤ w.heap.size) :
    Calls Tryd.prog 83 #[.int .i64 (p : Int), .int .i64 n, .pointer (some ⟨fx, 0, none⟩), .pointer (some ⟨ex, 0, none⟩), .pointer (some ⟨dx, 0, none⟩), .pointer (some ⟨tx, 0, none⟩)] w
      fun r w' => r = .returned (.tuple #[]) ∧ ∃ v', CS w' lo fx ex dx tx da base (.pointer (some ⟨fb, fo, none⟩)) (comeD deep e p n).1 (if comeN deep p n then todo ++ [p] else todo) (comeD deep e p n).2 v' ∧ Turned (Ws ex da tx v) w w' := by
  by_cases h1 : deep.length ≤ p ∨ 200 < n
  · have hN : comeN deep p n = false := by
      unfold comeN
      rcases h1 with h1 | h1 <;> simp [h1]
    have hD : comeD deep e p n = (deep, 3) := by unfold comeD; rw [if_pos h1]
    rw [hN, hD]
    refine (come_bad w lo fx ex dx tx da base fb fo f deep todo e v p n S hf hfi hd h1).mono ?_
    rintro r w' ⟨rfl, rfl⟩
    exact ⟨rfl, v, S.setE 3, S.turnE _⟩
  · by_cases h2 : deep.getD p 0 < 0
    · have hN : comeN deep p n = true := by
        unfold comeN
        simp only [Bool.and_eq_true, Bool.not_eq_true', Bool.or_eq_false_iff, decide_eq_false_iff_not, decide_eq_true_eq]
        exact ⟨⟨fun h => h1 (Or.inl h), fun h => h1 (Or.inr h)⟩, h2⟩
      have hD : comeD deep e p n = (deep.set p n, e) := by unfold comeD; rw [if_neg h1, if_pos h2]
      rw [hN, hD]
      exact come_new w lo fx ex dx tx da base fb fo f deep todo e v p n S hf hfi hd hlim htl hbw h1 h2
    · have hN : comeN deep p n = false := by
        unfold comeN
        rw [decide_eq_false h2, Bool.and_false]
      rw [hN]
      by_cases h3 : deep.getD p 0 = n
      · have hD : comeD deep e p n = (deep, e) := by unfold comeD; rw [if_neg h1, if_neg h2, if_pos h3]
        rw [hD]
        refine (come_same w lo fx ex dx tx da base fb fo f deep todo e v p n S hf hfi hd hlim h1 h2 h3).mono ?_
        rintro r w' ⟨rfl, rfl⟩
        exact ⟨rfl, v, S, Turned.refl _ _⟩
      · have hD : comeD deep e p n = (deep, 3) := by unfold comeD; rw [if_neg h1, if_neg h2, if_neg h3]
        rw [hD]
        refine (come_other w lo fx ex dx tx da base fb fo f deep todo e v p n S hf hfi hd hlim h1 h2 h3).mono ?_
        rintro r w' ⟨rfl, rfl⟩
        exact ⟨rfl, v, S.setE 3, S.turnE _⟩
end Go.Proofs.YthbkklnahhdgcaaDoor.CodeD
