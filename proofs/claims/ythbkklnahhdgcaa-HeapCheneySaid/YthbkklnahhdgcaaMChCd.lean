/-
  Package heap's collector: move, where an object is copied.
-/
import Derived.Test.YthbkklnahhdgcaaMChCc
import Derived.Deep.Cut
namespace Go.Proofs.Ythbkklnahhdgcaa.ChCd
open Go Go.Proofs Go.RowKit Go.Maps Lib HeapR HeapA HeapB HeapF ChA ChB ChCa ChCb ChCc

theorem wrap_back (a b : Nat) (h : a + b ≤ big) : wrap64 ((a : Int) + (b : Int) + 1 - 1) = (a : Int) + (b : Int) := by
  unfold big at h
  unfold wrap64
  omega

set_option maxRecDepth 100000 in
set_option maxHeartbeats 1000000 in
theorem move_new_minor (hv : Nat) (kb hb xb xo vb vo wb B m : Nat) (a : Nat) (room : Nat) (tv : Value) (n : Nat) (xs : List Value) (ob : Ob) (X : Array Value) (D : DataW Unit) (w : World)
    (hkb : w.heap[kb]? = some (kblk hb tv (.func (Fn.func 22) #[] #[.pointer (some ⟨hv, 0, none⟩)]) (.map (some wb))))
    (hv0 : w.cell? ⟨hv, 0, none⟩ = some (.pointer (some ⟨hb, 0, none⟩))) (har : (a : Int) < room) (h3 : w.cell? ⟨hb, 3, none⟩ = some (.int .i64 room))
    (v0 : w.cell? ⟨vb, vo, none⟩ = some (.int .i64 4)) (v1 : w.cell? ⟨vb, vo + 1, none⟩ = some (.int .i64 a)) (vf : w.frozen? ⟨vb, vo + 1, none⟩ = false)
    (hX : w.heap[xb]? = some (.cells X 55 (0, 0))) (hXc : ∀ (i : Nat) (c : HCell), (ob.cells 0)[i]? = some c → ∀ (j : Nat) (v : Value), c.vals[j]? = some v → X[xo + i * 8 + j]? = some v)
    (hat : ∀ (w1 : World), w1.heap[hb]? = w.heap[hb]? → ∀ i : Nat, i < ob.len → Calls Try.prog 19 #[.pointer (some ⟨hb, 0, none⟩), .int .i64 ((a : Int) + (i : Int))] w1 fun e w' => e = .returned (.pointer (some ⟨xb, xo + i * 8, none⟩)) ∧ ∃ k, w' = w1.drewN k)
    (hT : w.ownsRow B 55 8 tv n xs) (hB : B ≤ w.heap.size) (hm : w.ownsMap Try.prog 3 (plainElem Try.prog 3) wb m D) (hml : m < big)
    (hi0 : 0 ≤ ob.id) (hi1 : ob.id ≤ 4611686018427387904)
    (hTl : room + n + ob.len ≤ big) (hao : a + ob.len ≤ big)
    (t1 : tv.ownBlock ≠ some kb) (t2 : tv.ownBlock ≠ some hb) (t3 : tv.ownBlock ≠ some xb) (t4 : tv.ownBlock ≠ some vb) (t5 : tv.ownBlock ≠ some wb) (d1 : hb ≠ kb) (d2 : xb ≠ kb) (d3 : vb ≠ kb) (d4 : xb ≠ vb) (d5 : xb ≠ wb) (d6 : wb ≠ kb) (d7 : wb ≠ vb) :
    Calls Try.prog 23 #[.pointer (some ⟨kb, 0, none⟩), .pointer (some ⟨vb, vo, none⟩)] w fun e w' => e = .returned (.tuple #[]) ∧ ∃ (o : Option Addr) (c : Nat) (w9 : World), w' = w9.setCell ⟨vb, vo + 1, none⟩ (.int .i64 ((room + n : Nat) : Int)) ∧
      w9.heap[kb]? = some (kblk hb (.slice o (n + ob.len) c) (.func (Fn.func 22) #[] #[.pointer (some ⟨hv, 0, none⟩)]) (.map (some wb))) ∧ w9.ownsRow B 55 8 (.slice o (n + ob.len) c) (n + ob.len) (xs ++ hvals (ob.cells 0)) ∧ w9.heap[xb]? = some (.cells (X.setIfInBounds (xo + 7) (.int .i64 (((room + n : Nat) : Int) + 1))) 55 (0, 0)) ∧
      w9.ownsMap Try.prog 3 (plainElem Try.prog 3) wb (m + 1) (putId ob.id (room + n) D) ∧ Turned (fun k => k = kb ∨ k = xb ∨ k = wb ∨ tv.ownBlock = some k) w w9 ∧ ∀ k, (Value.slice o (n + ob.len) c).ownBlock = some k → tv.ownBlock = some k ∨ w.heap.size ≤ k := by
  have had : decide ((a : Int) < room) = true := by simpa using har
  have hc : ∀ w : World, w.cell? ⟨hv, 0, none⟩ = some (.pointer (some ⟨hb, 0, none⟩)) → w.cell? ⟨hb, 3, none⟩ = some (.int .i64 room) → Calls Try.prog 22 #[.int .i64 (a : Int), .pointer (some ⟨hv, 0, none⟩)] w fun e w' => e = .returned (.bool true) ∧ w' = w := fun w h1 h2 => by
    have h := from_minor hv hb a room w h1 h2
    rw [had] at h
    exact h
  have hkd : ((4 : Int) != 4) = false := by decide
  have k0 : w.cell? ⟨kb, 0, none⟩ = some (.pointer (some ⟨hb, 0, none⟩)) := cell_of_block hkb rfl
  have k2 : w.cell? ⟨kb, 2, none⟩ = some (.func (Fn.func 22) #[] #[.pointer (some ⟨hv, 0, none⟩)]) := cell_of_block hkb rfl
  go_enter Try.func23, Try.ntmps23
  go_wp2_with (go_quiet ((go_at_call 22; exact Calls.quiet_of_same (hc _ hv0 h3))))
  have hkb_ : (w.drewN nq).heap[kb]? = _ := hkb
  have hX_ : (w.drewN nq).heap[xb]? = _ := hX
  have v1_ : (w.drewN nq).cell? ⟨vb, vo + 1, none⟩ = _ := v1
  have vf_ : (w.drewN nq).frozen? ⟨vb, vo + 1, none⟩ = _ := vf
  have h3_ : (w.drewN nq).cell? ⟨hb, 3, none⟩ = _ := h3
  have hT_ : (w.drewN nq).ownsRow B 55 8 tv n xs := hT
  have hm_ : (w.drewN nq).ownsMap Try.prog 3 (plainElem Try.prog 3) wb m D := hm
  have hat_ : ∀ (w1 : World), w1.heap[hb]? = (w.drewN nq).heap[hb]? → ∀ i : Nat, i < ob.len → Calls Try.prog 19 #[.pointer (some ⟨hb, 0, none⟩), .int .i64 ((a : Int) + (i : Int))] w1 fun e w' => e = .returned (.pointer (some ⟨xb, xo + i * 8, none⟩)) ∧ ∃ k, w' = w1.drewN k := hat
  have hB_ : B ≤ (w.drewN nq).heap.size := hB
  have hTt : Turned (fun k => k = kb ∨ k = xb ∨ k = wb ∨ tv.ownBlock = some k) w (w.drewN nq) := (Turned.refl _ w).drewN nq
  clear hkb hX v1 vf h3 hT hat hB k0 k2 v0 hc hv0 hm
  generalize w.drewN nq = w1 at *
  obtain ⟨oT, cT, rfl⟩ := own_slice hT_
  have hpos : 0 < ob.len := by unfold Ob.len; omega
  have hat0 : ∀ (w2 : World), w2.heap[hb]? = w1.heap[hb]? → Calls Try.prog 19 #[.pointer (some ⟨hb, 0, none⟩), .int .i64 (a : Int)] w2 fun e w' => e = .returned (.pointer (some ⟨xb, xo, none⟩)) ∧ ∃ k, w' = w2.drewN k := fun w2 h => by
    have h2 := hat_ w2 h 0 hpos
    simpa using h2
  have k0 : w1.cell? ⟨kb, 0, none⟩ = some (.pointer (some ⟨hb, 0, none⟩)) := cell_of_block hkb_ rfl
  have k1 : w1.cell? ⟨kb, 1, none⟩ = some (.slice oT n cT) := cell_of_block hkb_ rfl
  have xh : ∀ j v, (ob.head 0).vals[j]? = some v → X[xo + j]? = some v := fun j v hv => by
    have h2 := hXc 0 (ob.head 0) rfl j v hv
    rw [Nat.zero_mul, Nat.add_zero] at h2
    exact h2
  have X2 := xh 2 _ rfl
  have X7 := xh 7 _ rfl
  have x7 : w1.cell? ⟨xb, xo + 7, none⟩ = some (.int .i64 0) := cell_of_block hX_ X7
  have x3 : w1.cell? ⟨xb, xo + 3, none⟩ = some (.int .i64 (ob.fs.length : Int)) := cell_of_block hX_ (xh 3 _ rfl)
  clear xh
  go_quiet ((go_at_call 19; exact Calls.quiet_of (hat0 _ rfl)))
  clear hat0
  go_wp2
  have hsum : IntKind.i64.wrap ((room : Int) + (n : Int)) = (room : Int) + (n : Int) := wrapk_two room n (by omega)
  have hs1 : wrap64 (1 + (ob.fs.length : Int)) = (ob.len : Int) := (wrap_two 1 ob.fs.length (by unfold Ob.len at hao; omega)).trans (by unfold Ob.len; simp)
  go_quiet (fail)
  clear hsum
  go_wp2
  rw [hs1]
  refine copy_loop _ _ _ _ _ _ _ _ _ _ _ _ _ _ _ _ _ _ _ _ _ _ _ _ _ _ _ _ _ _ _ _ _ _ _ _ _ _ _ _ _ _ _ _ _ _ _ _ _ _ _ _ _ _ _ _ _ _ _ _ _ _ _ _ _ _ _ _ _ _ _ _ _ _ _ _ _ _ _ _ _ _ _ _ _ _ _ _ _ _ _ _ _ _ _ _ _ _ _ _ _ _ _ _ _ _ _ _ kb hb xb xo vb vo B a n (.slice oT n cT) (.func (Fn.func 22) #[] #[.pointer (some ⟨hv, 0, none⟩)]) (.map (some wb)) X ob xs _ (by exact hkb_) (by exact v1_) (by exact hX_) hXc (by exact hat_) (by exact hT_) (by exact hB_) t1 t2 t3 t4 d1 d2 d3 (by exact World.block_lt_of_cell? _ _ h3_) (by omega) hao ?_ ?_
  · exact fun c a d v w h => h
  intro s6 s58 s59 s60 s61 s62 s63 s64 s65 s66 s67 s68 s69 s70 s71 s72 s73 s74 s75 s76 s77 s78 s79 s80 s81 s82 o c w5 hkb5 hrow5 hT5 hown5
  have hX5 : w5.heap[xb]? = some (.cells X 55 (0, 0)) := (hT5.block xb (lt_of_block hX_) (fun h => h.elim d2 t3)).trans hX_
  have hv5 := hT5.block vb (World.block_lt_of_cell? _ _ v1_) (fun h => h.elim d3 t4)
  have v15 : w5.cell? ⟨vb, vo + 1, none⟩ = some (.int .i64 a) := (World.cell?_of_block (a := ⟨vb, vo + 1, none⟩) hv5).trans v1_
  have vf5 : w5.frozen? ⟨vb, vo + 1, none⟩ = false := (World.frozen?_of_block (a := ⟨vb, vo + 1, none⟩) hv5).trans vf_
  have hxl := lt_of_block hX_
  have hwl := hm_.lt
  have hm5 := ownsMap_same hm_ (hT5.block wb hm_.lt (fun h => h.elim d6 t5))
  have hT5' : Turned (fun k => k = kb ∨ k = xb ∨ k = wb ∨ (Value.slice oT n cT).ownBlock = some k) w w5 := (hTt.drewN _).trans (hT5.mono (fun k h => h.elim Or.inl (fun h => Or.inr (Or.inr (Or.inr h)))))
  have hown5' : ∀ k, (Value.slice o (n + ob.len) c).ownBlock = some k → (Value.slice oT n cT).ownBlock = some k ∨ w.heap.size ≤ k := fun k hk => (hown5 k hk).imp id (fun h => Nat.le_trans hTt.size h)
  clear hT5 hkb_ hX_ v1_ vf_ h3_ hT_ hm_ hat_ hB_ hTt hXc x7 x3 k0 k1 hs1 hkd hv5
  simp only [Exit.inBlock, Exit.then, if_true]
  refine (‹∀ (a : Act) (w : World), Code.wp Try.prog (Code.seq (Code.region 9 _ _) _) _ a w → _›) _ _ ?_
  have hlo : 0 < ob.len := hpos
  refine mark_any _ _ _ _ _ _ _ _ _ _ _ _ _ _ _ _ _ _ _ _ _ _ _ _ _ _ _ _ _ _ _ _ _ _ _ _ _ _ _ _ _ _ _ _ _ _ _ _ _ _ _ _ _ _ _ _ _ _ _ _ _ _ _ _ _ _ _ _ _ _ _ _ _ _ _ _ _ _ _ _ _ _ _ _ _ _ _ _ _ _ _ _ _ _ _ _ _ _ _ _ _ _ _ _ _ _ _ _ kb hb xb xo vb vo wb m (room + n) _ ob.id ?_ (.slice o (n + ob.len) c) (.func (Fn.func 22) #[] #[.pointer (some ⟨hv, 0, none⟩)]) X D _ hi0 hi1 (by omega) hkb5 hX5 X2 ⟨_, X7⟩ hm5 hml d2 d5 ?_
  · simp
  intro t83 t84 t85 t86 t87 t88 t89 t90 t91 t92 t93 t94 t95 t96 t97 t98 t99 t100 t101 t102 t103 w6 hX6 hm6 hT6
  clear hm5 hX5
  have hkb6 := (hT6.block kb (lt_of_block hkb5) (fun h => h.elim (fun h => d2 h.symm) (fun h => d6 h.symm))).trans hkb5
  have hrow6 : w6.ownsRow B 55 8 (.slice o (n + ob.len) c) (n + ob.len) (xs ++ hvals (ob.cells 0)) := ownsRow_same hrow5 (fun k hk => hT6.block k (own_lt hrow5 hk).2 (fun h => (hown5 k hk).elim (fun e => h.elim (fun h => t3 (h ▸ e)) (fun h => t5 (h ▸ e))) (fun e => h.elim (fun h => absurd (show k < w1.heap.size from h ▸ hxl) (Nat.not_lt.mpr e)) (fun h => absurd (show k < w1.heap.size from h ▸ hwl) (Nat.not_lt.mpr e)))))
  have hT6' := hT5'.trans (hT6.mono (fun k h => h.elim (fun h => Or.inr (Or.inl h)) (fun h => Or.inr (Or.inr (Or.inl h)))))
  have xlt : xo + 7 < X.size := (Array.getElem?_eq_some_iff.1 X7).1
  have x76 : w6.cell? ⟨xb, xo + 7, none⟩ = some (.int .i64 ((room : Int) + (n : Int) + 1)) := cell_of_block hX6 (by rw [Array.getElem?_setIfInBounds_self_of_lt xlt]; simp)
  have hv6 := hT6.block vb (World.block_lt_of_cell? _ _ v15) (fun h => h.elim (fun h => d4 h.symm) (fun h => d7 h.symm))
  have v16 : w6.cell? ⟨vb, vo + 1, none⟩ = some (.int .i64 a) := (World.cell?_of_block (a := ⟨vb, vo + 1, none⟩) hv6).trans v15
  have vf6 : w6.frozen? ⟨vb, vo + 1, none⟩ = false := (World.frozen?_of_block (a := ⟨vb, vo + 1, none⟩) hv6).trans vf5
  have hsub : wrap64 ((room : Int) + (n : Int) + 1 - 1) = (room : Int) + (n : Int) := wrap_back room n (by omega)
  clear hT5' hT6 hrow5 v15 vf5 hkb5 X2 X7 xlt hv6
  simp only [Exit.then]
  go_wp2
  refine bodyPost_end (results_none Try.results23 _ _ _) rfl ?_
  refine ⟨rfl, o, c, w6, ?_, hkb6, hrow6, hX6, hm6, hT6', hown5'⟩
  simp [wrap_two room n (by omega)]

set_option maxRecDepth 100000 in
set_option maxHeartbeats 1000000 in
theorem move_new_major (kb hb xb xo vb vo wb B m : Nat) (a : Nat) (room : Nat) (tv : Value) (n : Nat) (xs : List Value) (ob : Ob) (X : Array Value) (D : DataW Unit) (w : World)
    (hkb : w.heap[kb]? = some (kblk hb tv (.func (Fn.func 28) #[] #[]) (.map (some wb)))) (h3 : w.cell? ⟨hb, 3, none⟩ = some (.int .i64 room))
    (v0 : w.cell? ⟨vb, vo, none⟩ = some (.int .i64 4)) (v1 : w.cell? ⟨vb, vo + 1, none⟩ = some (.int .i64 a)) (vf : w.frozen? ⟨vb, vo + 1, none⟩ = false)
    (hX : w.heap[xb]? = some (.cells X 55 (0, 0))) (hXc : ∀ (i : Nat) (c : HCell), (ob.cells 0)[i]? = some c → ∀ (j : Nat) (v : Value), c.vals[j]? = some v → X[xo + i * 8 + j]? = some v)
    (hat : ∀ (w1 : World), w1.heap[hb]? = w.heap[hb]? → ∀ i : Nat, i < ob.len → Calls Try.prog 19 #[.pointer (some ⟨hb, 0, none⟩), .int .i64 ((a : Int) + (i : Int))] w1 fun e w' => e = .returned (.pointer (some ⟨xb, xo + i * 8, none⟩)) ∧ ∃ k, w' = w1.drewN k)
    (hT : w.ownsRow B 55 8 tv n xs) (hB : B ≤ w.heap.size) (hm : w.ownsMap Try.prog 3 (plainElem Try.prog 3) wb m D) (hml : m < big)
    (hi0 : 0 ≤ ob.id) (hi1 : ob.id ≤ 4611686018427387904)
    (hTl : room + n + ob.len ≤ big) (hao : a + ob.len ≤ big)
    (t1 : tv.ownBlock ≠ some kb) (t2 : tv.ownBlock ≠ some hb) (t3 : tv.ownBlock ≠ some xb) (t4 : tv.ownBlock ≠ some vb) (t5 : tv.ownBlock ≠ some wb) (d1 : hb ≠ kb) (d2 : xb ≠ kb) (d3 : vb ≠ kb) (d4 : xb ≠ vb) (d5 : xb ≠ wb) (d6 : wb ≠ kb) (d7 : wb ≠ vb) :
    Calls Try.prog 23 #[.pointer (some ⟨kb, 0, none⟩), .pointer (some ⟨vb, vo, none⟩)] w fun e w' => e = .returned (.tuple #[]) ∧ ∃ (o : Option Addr) (c : Nat) (w9 : World), w' = w9.setCell ⟨vb, vo + 1, none⟩ (.int .i64 ((room + n : Nat) : Int)) ∧
      w9.heap[kb]? = some (kblk hb (.slice o (n + ob.len) c) (.func (Fn.func 28) #[] #[]) (.map (some wb))) ∧ w9.ownsRow B 55 8 (.slice o (n + ob.len) c) (n + ob.len) (xs ++ hvals (ob.cells 0)) ∧ w9.heap[xb]? = some (.cells (X.setIfInBounds (xo + 7) (.int .i64 (((room + n : Nat) : Int) + 1))) 55 (0, 0)) ∧
      w9.ownsMap Try.prog 3 (plainElem Try.prog 3) wb (m + 1) (putId ob.id (room + n) D) ∧ Turned (fun k => k = kb ∨ k = xb ∨ k = wb ∨ tv.ownBlock = some k) w w9 ∧ ∀ k, (Value.slice o (n + ob.len) c).ownBlock = some k → tv.ownBlock = some k ∨ w.heap.size ≤ k := by
  have hc : ∀ w : World, Calls Try.prog 28 #[.int .i64 (a : Int)] w fun e w' => e = .returned (.bool true) ∧ w' = w := fun w => from_major a w
  have hkd : ((4 : Int) != 4) = false := by decide
  have k0 : w.cell? ⟨kb, 0, none⟩ = some (.pointer (some ⟨hb, 0, none⟩)) := cell_of_block hkb rfl
  have k2 : w.cell? ⟨kb, 2, none⟩ = some (.func (Fn.func 28) #[] #[]) := cell_of_block hkb rfl
  go_enter Try.func23, Try.ntmps23
  go_wp2_with (go_quiet ((go_at_call 28; exact Calls.quiet_of_same (hc _))))
  have hkb_ : (w.drewN nq).heap[kb]? = _ := hkb
  have hX_ : (w.drewN nq).heap[xb]? = _ := hX
  have v1_ : (w.drewN nq).cell? ⟨vb, vo + 1, none⟩ = _ := v1
  have vf_ : (w.drewN nq).frozen? ⟨vb, vo + 1, none⟩ = _ := vf
  have h3_ : (w.drewN nq).cell? ⟨hb, 3, none⟩ = _ := h3
  have hT_ : (w.drewN nq).ownsRow B 55 8 tv n xs := hT
  have hm_ : (w.drewN nq).ownsMap Try.prog 3 (plainElem Try.prog 3) wb m D := hm
  have hat_ : ∀ (w1 : World), w1.heap[hb]? = (w.drewN nq).heap[hb]? → ∀ i : Nat, i < ob.len → Calls Try.prog 19 #[.pointer (some ⟨hb, 0, none⟩), .int .i64 ((a : Int) + (i : Int))] w1 fun e w' => e = .returned (.pointer (some ⟨xb, xo + i * 8, none⟩)) ∧ ∃ k, w' = w1.drewN k := hat
  have hB_ : B ≤ (w.drewN nq).heap.size := hB
  have hTt : Turned (fun k => k = kb ∨ k = xb ∨ k = wb ∨ tv.ownBlock = some k) w (w.drewN nq) := (Turned.refl _ w).drewN nq
  clear hkb hX v1 vf h3 hT hat hB k0 k2 v0 hc hm
  generalize w.drewN nq = w1 at *
  obtain ⟨oT, cT, rfl⟩ := own_slice hT_
  have hpos : 0 < ob.len := by unfold Ob.len; omega
  have hat0 : ∀ (w2 : World), w2.heap[hb]? = w1.heap[hb]? → Calls Try.prog 19 #[.pointer (some ⟨hb, 0, none⟩), .int .i64 (a : Int)] w2 fun e w' => e = .returned (.pointer (some ⟨xb, xo, none⟩)) ∧ ∃ k, w' = w2.drewN k := fun w2 h => by
    have h2 := hat_ w2 h 0 hpos
    simpa using h2
  have k0 : w1.cell? ⟨kb, 0, none⟩ = some (.pointer (some ⟨hb, 0, none⟩)) := cell_of_block hkb_ rfl
  have k1 : w1.cell? ⟨kb, 1, none⟩ = some (.slice oT n cT) := cell_of_block hkb_ rfl
  have xh : ∀ j v, (ob.head 0).vals[j]? = some v → X[xo + j]? = some v := fun j v hv => by
    have h2 := hXc 0 (ob.head 0) rfl j v hv
    rw [Nat.zero_mul, Nat.add_zero] at h2
    exact h2
  have X2 := xh 2 _ rfl
  have X7 := xh 7 _ rfl
  have x7 : w1.cell? ⟨xb, xo + 7, none⟩ = some (.int .i64 0) := cell_of_block hX_ X7
  have x3 : w1.cell? ⟨xb, xo + 3, none⟩ = some (.int .i64 (ob.fs.length : Int)) := cell_of_block hX_ (xh 3 _ rfl)
  clear xh
  go_quiet ((go_at_call 19; exact Calls.quiet_of (hat0 _ rfl)))
  clear hat0
  go_wp2
  have hsum : IntKind.i64.wrap ((room : Int) + (n : Int)) = (room : Int) + (n : Int) := wrapk_two room n (by omega)
  have hs1 : wrap64 (1 + (ob.fs.length : Int)) = (ob.len : Int) := (wrap_two 1 ob.fs.length (by unfold Ob.len at hao; omega)).trans (by unfold Ob.len; simp)
  go_quiet (fail)
  clear hsum
  go_wp2
  rw [hs1]
  refine copy_loop _ _ _ _ _ _ _ _ _ _ _ _ _ _ _ _ _ _ _ _ _ _ _ _ _ _ _ _ _ _ _ _ _ _ _ _ _ _ _ _ _ _ _ _ _ _ _ _ _ _ _ _ _ _ _ _ _ _ _ _ _ _ _ _ _ _ _ _ _ _ _ _ _ _ _ _ _ _ _ _ _ _ _ _ _ _ _ _ _ _ _ _ _ _ _ _ _ _ _ _ _ _ _ _ _ _ _ _ kb hb xb xo vb vo B a n (.slice oT n cT) (.func (Fn.func 28) #[] #[]) (.map (some wb)) X ob xs _ (by exact hkb_) (by exact v1_) (by exact hX_) hXc (by exact hat_) (by exact hT_) (by exact hB_) t1 t2 t3 t4 d1 d2 d3 (by exact World.block_lt_of_cell? _ _ h3_) (by omega) hao ?_ ?_
  · exact fun c a d v w h => h
  intro s6 s58 s59 s60 s61 s62 s63 s64 s65 s66 s67 s68 s69 s70 s71 s72 s73 s74 s75 s76 s77 s78 s79 s80 s81 s82 o c w5 hkb5 hrow5 hT5 hown5
  have hX5 : w5.heap[xb]? = some (.cells X 55 (0, 0)) := (hT5.block xb (lt_of_block hX_) (fun h => h.elim d2 t3)).trans hX_
  have hv5 := hT5.block vb (World.block_lt_of_cell? _ _ v1_) (fun h => h.elim d3 t4)
  have v15 : w5.cell? ⟨vb, vo + 1, none⟩ = some (.int .i64 a) := (World.cell?_of_block (a := ⟨vb, vo + 1, none⟩) hv5).trans v1_
  have vf5 : w5.frozen? ⟨vb, vo + 1, none⟩ = false := (World.frozen?_of_block (a := ⟨vb, vo + 1, none⟩) hv5).trans vf_
  have hxl := lt_of_block hX_
  have hwl := hm_.lt
  have hm5 := ownsMap_same hm_ (hT5.block wb hm_.lt (fun h => h.elim d6 t5))
  have hT5' : Turned (fun k => k = kb ∨ k = xb ∨ k = wb ∨ (Value.slice oT n cT).ownBlock = some k) w w5 := (hTt.drewN _).trans (hT5.mono (fun k h => h.elim Or.inl (fun h => Or.inr (Or.inr (Or.inr h)))))
  have hown5' : ∀ k, (Value.slice o (n + ob.len) c).ownBlock = some k → (Value.slice oT n cT).ownBlock = some k ∨ w.heap.size ≤ k := fun k hk => (hown5 k hk).imp id (fun h => Nat.le_trans hTt.size h)
  clear hT5 hkb_ hX_ v1_ vf_ h3_ hT_ hm_ hat_ hB_ hTt hXc x7 x3 k0 k1 hs1 hkd hv5
  simp only [Exit.inBlock, Exit.then, if_true]
  refine (‹∀ (a : Act) (w : World), Code.wp Try.prog (Code.seq (Code.region 9 _ _) _) _ a w → _›) _ _ ?_
  have hlo : 0 < ob.len := hpos
  refine mark_any _ _ _ _ _ _ _ _ _ _ _ _ _ _ _ _ _ _ _ _ _ _ _ _ _ _ _ _ _ _ _ _ _ _ _ _ _ _ _ _ _ _ _ _ _ _ _ _ _ _ _ _ _ _ _ _ _ _ _ _ _ _ _ _ _ _ _ _ _ _ _ _ _ _ _ _ _ _ _ _ _ _ _ _ _ _ _ _ _ _ _ _ _ _ _ _ _ _ _ _ _ _ _ _ _ _ _ _ kb hb xb xo vb vo wb m (room + n) _ ob.id ?_ (.slice o (n + ob.len) c) (.func (Fn.func 28) #[] #[]) X D _ hi0 hi1 (by omega) hkb5 hX5 X2 ⟨_, X7⟩ hm5 hml d2 d5 ?_
  · simp
  intro t83 t84 t85 t86 t87 t88 t89 t90 t91 t92 t93 t94 t95 t96 t97 t98 t99 t100 t101 t102 t103 w6 hX6 hm6 hT6
  clear hm5 hX5
  have hkb6 := (hT6.block kb (lt_of_block hkb5) (fun h => h.elim (fun h => d2 h.symm) (fun h => d6 h.symm))).trans hkb5
  have hrow6 : w6.ownsRow B 55 8 (.slice o (n + ob.len) c) (n + ob.len) (xs ++ hvals (ob.cells 0)) := ownsRow_same hrow5 (fun k hk => hT6.block k (own_lt hrow5 hk).2 (fun h => (hown5 k hk).elim (fun e => h.elim (fun h => t3 (h ▸ e)) (fun h => t5 (h ▸ e))) (fun e => h.elim (fun h => absurd (show k < w1.heap.size from h ▸ hxl) (Nat.not_lt.mpr e)) (fun h => absurd (show k < w1.heap.size from h ▸ hwl) (Nat.not_lt.mpr e)))))
  have hT6' := hT5'.trans (hT6.mono (fun k h => h.elim (fun h => Or.inr (Or.inl h)) (fun h => Or.inr (Or.inr (Or.inl h)))))
  have xlt : xo + 7 < X.size := (Array.getElem?_eq_some_iff.1 X7).1
  have x76 : w6.cell? ⟨xb, xo + 7, none⟩ = some (.int .i64 ((room : Int) + (n : Int) + 1)) := cell_of_block hX6 (by rw [Array.getElem?_setIfInBounds_self_of_lt xlt]; simp)
  have hv6 := hT6.block vb (World.block_lt_of_cell? _ _ v15) (fun h => h.elim (fun h => d4 h.symm) (fun h => d7 h.symm))
  have v16 : w6.cell? ⟨vb, vo + 1, none⟩ = some (.int .i64 a) := (World.cell?_of_block (a := ⟨vb, vo + 1, none⟩) hv6).trans v15
  have vf6 : w6.frozen? ⟨vb, vo + 1, none⟩ = false := (World.frozen?_of_block (a := ⟨vb, vo + 1, none⟩) hv6).trans vf5
  have hsub : wrap64 ((room : Int) + (n : Int) + 1 - 1) = (room : Int) + (n : Int) := wrap_back room n (by omega)
  clear hT5' hT6 hrow5 v15 vf5 hkb5 X2 X7 xlt hv6
  simp only [Exit.then]
  go_wp2
  refine bodyPost_end (results_none Try.results23 _ _ _) rfl ?_
  refine ⟨rfl, o, c, w6, ?_, hkb6, hrow6, hX6, hm6, hT6', hown5'⟩
  simp [wrap_two room n (by omega)]

end Go.Proofs.Ythbkklnahhdgcaa.ChCd
