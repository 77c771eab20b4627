/-
  The document's bytes: num (numbers behind each other) and text.
-/
import Derived.Test.YthbkklnahhdgcaaDoorDMC
namespace Go.Proofs.YthbkklnahhdgcaaDoor.EncD
open Go Go.Proofs Go.RowKit Lib CodeR CodeA CodeB CodeL CodeD EncA EncB EncS

/-- The document's writer: a block with the bytes' slice in it. -/
structure Wr (w : World) (B pb : Nat) (v : Value) (l : List UInt8) : Prop where
  row : Bw w B v l
  blk : w.heap[pb]? = some (.cells #[v] 152 (0, 0))
  le : B ≤ pb
/-- Nothing but the writer, and its row, has turned. -/
structure Gw (w : World) (pb : Nat) (v : Value) (w' : World) (v' : Value) : Prop where
  turned : Turned (fun k => k = pb ∨ Ow v k) w w'
  own : ∀ k, Ow v' k → Ow v k ∨ w.heap.size ≤ k
theorem Gw.refl (w : World) (pb : Nat) (v : Value) : Gw w pb v w v := ⟨Turned.refl _ _, fun _ h => Or.inl h⟩
theorem Gw.trans {w w1 w2 : World} {pb : Nat} {v v1 v2 : Value} (h : Gw w pb v w1 v1) (k : Gw w1 pb v1 w2 v2) : Gw w pb v w2 v2 := by
  refine ⟨?_, ?_⟩
  · exact ⟨k.turned.os.trans h.turned.os, k.turned.tape.trans h.turned.tape, k.turned.output.trans h.turned.output, Nat.le_trans h.turned.size k.turned.size, fun i hi hs => by
      refine (k.turned.block i (Nat.lt_of_lt_of_le hi h.turned.size) ?_).trans (h.turned.block i hi hs)
      rintro (ho | ho)
      · exact hs (Or.inl ho)
      · rcases h.own i ho with h1 | h1
        · exact hs (Or.inr h1)
        · omega⟩
  · intro i hi
    rcases k.own i hi with h1 | h1
    · exact h.own i h1
    · exact Or.inr (Nat.le_trans h.turned.size h1)
theorem Bw.apart {w : World} {B : Nat} {v : Value} {l : List UInt8} (h : Bw w B v l) {E : Nat} {c : Array Value} {T : TypeId} {f : Nat × Nat} (hE : w.heap[E]? = some (.cells c T f)) (hT : T ≠ 5) : ¬ Ow v E := by
  intro ho
  rcases h with h | ⟨g, rfl, _, _, h4⟩
  · obtain ⟨cur, h2⟩ := own_block h ho
    rw [hE] at h2
    cases h2
    exact hT rfl
  · have h1 : g = E := Option.some.inj ho
    subst h1
    rw [hE] at h4
    cases h4
    exact hT rfl
theorem Bw.base {w : World} {B : Nat} {v : Value} {l : List UInt8} (h : Bw w B v l) {k : Nat} (ho : Ow v k) : B ≤ k := by
  rcases h with h | ⟨g, rfl, h2, _, _⟩
  · exact (World.ownsRow.lt h k ho).1
  · have h1 : g = k := Option.some.inj ho
    omega
theorem Wr.keep {w w' : World} {B pb : Nat} {v v' : Value} {l : List UInt8} (h : Wr w B pb v l) (k : Gw w pb v w' v') {E : Nat} {c : Array Value} {T : TypeId} {f : Nat × Nat} (hE : w.heap[E]? = some (.cells c T f)) (hT : T ≠ 5) (hT2 : T ≠ 152) : w'.heap[E]? = some (.cells c T f) := by
  refine (k.turned.block E (lt_of_block hE) ?_).trans hE
  rintro (ho | ho)
  · subst ho
    rw [h.blk] at hE
    cases hE
    exact hT2 rfl
  · exact Bw.apart h.row hE hT ho
theorem Wr.below {w w' : World} {B pb : Nat} {v v' : Value} {l : List UInt8} (h : Wr w B pb v l) (k : Gw w pb v w' v') (hB : B ≤ w.heap.size) : Below B w w' :=
  ⟨k.turned.os, k.turned.tape, k.turned.output, k.turned.size, fun i hi => k.turned.block i (by omega) (by
    rintro (ho | ho)
    · have := h.le; omega
    · have := Bw.base h.row ho; omega)⟩
theorem Wr.alloc {w : World} {B pb : Nat} {v : Value} {l : List UInt8} (h : Wr w B pb v l) (o : Obj) : Wr (w.alloc o) B pb v l := ⟨h.row.alloc o, (Below.heap_alloc w o pb (lt_of_block h.blk)).trans h.blk, h.le⟩
/-- One byte behind the others: the row, then the writer's cell. -/
theorem Wr.step {w w' : World} {B pb : Nat} {v v' : Value} {l l' : List UInt8} (h : Wr w B pb v l) (o : Obj) (hown : Bu w' B v' l') (hg : (w.alloc o).grownBy w' v.ownBlock) (hat : ∀ k, Ow v' k → Ow v k ∨ w.heap.size ≤ k) :
    Wr (w'.setCell ⟨pb, 0, none⟩ v') B pb v' l' ∧ Gw w pb v (w'.setCell ⟨pb, 0, none⟩ v') v' ∧ w'.heap[pb]? = some (.cells #[v] 152 (0, 0)) ∧ Bu (w'.setCell ⟨pb, 0, none⟩ v') B v' l' := by
  have hpb : ¬ Ow v pb := Bw.apart h.row h.blk (by decide)
  have h1 : w'.heap[pb]? = some (.cells #[v] 152 (0, 0)) := (hg.block pb (by have := lt_of_block h.blk; simp; omega) (fun e => hpb e.symm)).trans (h.alloc o).blk
  have hpb2 : ¬ Ow v' pb := by
    intro ho
    rcases hat pb ho with h2 | h2
    · exact hpb h2
    · have := lt_of_block h.blk; omega
  have hU : Bu (w'.setCell ⟨pb, 0, none⟩ v') B v' l' := own_keep hown (fun g hgo => block_setCell_ne (by rintro rfl; exact hpb2 hgo))
  refine ⟨⟨Or.inl hU, by simpa using img_set (i := 0) (v := v') h1, h.le⟩, ⟨?_, hat⟩, h1, hU⟩
  refine Turned.setCell ?_ (Or.inl (Or.inl rfl)) _
  refine Turned.grown ((Turned.refl _ w).alloc o) hg (fun k hk => Or.inl (Or.inr hk))

/-- The same with no new block ahead of it. -/
theorem Wr.stepT {w w' : World} {B pb : Nat} {v v' : Value} {l l' : List UInt8} (h : Wr w B pb v l) (hown : Bu w' B v' l') (hg : w.grownBy w' v.ownBlock) (hat : ∀ k, Ow v' k → Ow v k ∨ w.heap.size ≤ k) :
    Wr (w'.setCell ⟨pb, 0, none⟩ v') B pb v' l' ∧ Gw w pb v (w'.setCell ⟨pb, 0, none⟩ v') v' ∧ w'.heap[pb]? = some (.cells #[v] 152 (0, 0)) ∧ Bu (w'.setCell ⟨pb, 0, none⟩ v') B v' l' := by
  have hpb : ¬ Ow v pb := Bw.apart h.row h.blk (by decide)
  have h1 : w'.heap[pb]? = some (.cells #[v] 152 (0, 0)) := (hg.block pb (lt_of_block h.blk) (fun e => hpb e.symm)).trans h.blk
  have hpb2 : ¬ Ow v' pb := by
    intro ho
    rcases hat pb ho with h2 | h2
    · exact hpb h2
    · have := lt_of_block h.blk; omega
  have hU : Bu (w'.setCell ⟨pb, 0, none⟩ v') B v' l' := own_keep hown (fun g hgo => block_setCell_ne (by rintro rfl; exact hpb2 hgo))
  refine ⟨⟨Or.inl hU, by simpa using img_set (i := 0) (v := v') h1, h.le⟩, ⟨?_, hat⟩, h1, hU⟩
  refine Turned.setCell ?_ (Or.inl (Or.inl rfl)) _
  exact Turned.grown (Turned.refl _ w) hg (fun k hk => Or.inl (Or.inr hk))

theorem row_form {w : World} {B e size n : Nat} {v : Value} {xs : List Value} (h : w.ownsRow B e size v n xs) : ∃ oa n c, v = .slice oa n c := by
  rcases h.2 with ⟨h1, _⟩ | ⟨g, cap, cur, h1, _⟩
  · exact ⟨_, _, _, h1⟩
  · exact ⟨_, _, _, h1⟩
theorem zneg (n : Int) (hn : n < 0) (h0 : -9223372036854775808 ≤ n) : IntKind.u64.wrap (IntKind.u64.wrap (-IntKind.u64.wrap (wrap64 (2 * n))) - 1) = (zz n : Int) := by
  unfold zz
  rw [if_neg (by omega), IntKind.wrap_u64, IntKind.wrap_u64, IntKind.wrap_u64]
  unfold wrap64
  omega
theorem zpos (n : Int) (hn : ¬ n < 0) (h1 : n ≤ 9223372036854775807) : IntKind.u64.wrap (wrap64 (2 * n)) = (zz n : Int) := by
  unfold zz
  rw [if_pos (by omega), IntKind.wrap_u64]
  unfold wrap64
  omega
theorem div128 (u : Nat) : ((u : Int).tdiv 128) = ((u / 128 : Nat) : Int) := by rw [Int.tdiv_eq_ediv_of_nonneg (by omega)]; omega

set_option maxRecDepth 100000 in
set_option maxHeartbeats 4000000 in
theorem num_any (B pb : Nat) (v : Value) (l : List UInt8) (ns : List Int) (ib c : Nat) (w : World) (h : Wr w B pb v l) (hB : B ≤ w.heap.size) (hI : w.heap[ib]? = some (.cells (ns.map (Value.int .i64)).toArray 3 (0, 0)))
    (hns : ∀ n ∈ ns, -9223372036854775808 ≤ n ∧ n ≤ 9223372036854775807) (hl : l.length + ns.length * 10 ≤ 70368744177664) :
    Calls Tryd.prog 46 #[.pointer (some ⟨pb, 0, none⟩), .slice (some ⟨ib, 0, none⟩) ns.length c] w fun e w' => e = .returned (.tuple #[]) ∧ ∃ v', Wr w' B pb v' (l ++ ns.flatMap num) ∧ (ns = [] ∨ Bu w' B v' (l ++ ns.flatMap num)) ∧ Gw w pb v w' v' := by
  go_enter Tryd.func46, Tryd.ntmps46
  go_wp2_with fail
  go_loopw [9] (fun s9 wr => ∃ (k : Nat) (l' : List UInt8) (v' : Value), s9 = .int .i64 (k : Int) ∧ k ≤ ns.length ∧ Wr wr B pb v' l' ∧ (k = 0 ∨ Bu wr B v' l') ∧ Gw w pb v wr v' ∧ l' ++ (ns.drop k).flatMap num = l ++ ns.flatMap num ∧ l'.length ≤ l.length + k * 10) (fun s9 _ => ns.length - (intOf s9).toNat)
  case atStart => exact ⟨0, l, v, rfl, Nat.zero_le _, h, Or.inl rfl, Gw.refl _ _ _, rfl, by omega⟩
  case round =>
    obtain ⟨k, l', v', rfl, hk, hW, hst, hG, heq, hlen⟩ := hrel
    by_cases hkn : k < ns.length
    · obtain ⟨n, hx⟩ : ∃ n, ns[k]? = some n := ⟨_, List.getElem?_eq_getElem hkn⟩
      have hkd : decide ((k : Int) < (ns.length : Int)) = true := by simp; omega
      have hIr := h.keep hG hI (by decide) (by decide)
      have f0 : wr.cell? ⟨ib, k, none⟩ = some (.int .i64 n) := cell_of_block hIr (by simp [hx])
      have hb := hns n (List.mem_of_getElem? hx)
      have hzl := zz_lt hb.1 hb.2
      have hnl := num_len hb.1 hb.2
      have heq' : l' ++ (vb (zz n) ++ (ns.drop (k + 1)).flatMap num) = l ++ ns.flatMap num := by
        rw [← heq]
        obtain ⟨hlt, hg⟩ := List.getElem?_eq_some_iff.mp hx
        rw [List.drop_eq_getElem_cons hlt, hg, List.flatMap_cons]
        rfl
      unfold num at hnl
      clear heq
      by_cases hn : n < 0
      · have hnd : decide (n < 0) = true := by simpa using hn
        have hze := zneg n hn hb.1
        have hz2 : Aside (n < 0) := hn
        clear hn
        go_wp2_with fail
        go_loopw [6] (fun s6 wr => ∃ (u : Nat) (l2 : List UInt8) (v2 : Value), s6 = .int .u64 (u : Int) ∧ Wr wr B pb v2 l2 ∧ Gw w pb v wr v2 ∧ l2 ++ (vb u ++ (ns.drop (k + 1)).flatMap num) = l ++ ns.flatMap num ∧ l2.length + (vb u).length = l'.length + (vb (zz n)).length ∧ u < 18446744073709551616) (fun s6 _ => (intOf s6).toNat)
        case atStart => exact ⟨zz n, l', v', (by first | rfl | rw [hze]), hW, hG, heq', rfl, hzl⟩
        case round =>
          clear hW hG heq' f0 hIr
          obtain ⟨u, l2, v2, rfl, hW, hG, heq2, hlen2, hu⟩ := hrel
          have hpos := vb_pos u
          have c0 : wr.cell? ⟨pb, 0, none⟩ = some v2 := cell_of_block hW.blk rfl
          have hBr : B ≤ wr.heap.size := Nat.le_trans hB hG.turned.size
          have d0 : ∀ ob, (wr.alloc ob).cell? ⟨pb, 0, none⟩ = some v2 := fun ob => alloc_cell c0 ob
          by_cases hge : 127 < u
          · have hd : decide (127 < (u : Int)) = true := by simp; omega
            obtain ⟨b, hb2⟩ : ∃ b, UInt8.ofNat (u % 128 + 128) = b := ⟨_, rfl⟩
            have hvb := vb_ge (u := u) (by omega)
            have hbt : b.toNat = u % 128 + 128 := by rw [← hb2, UInt8.toNat_ofNat', Nat.mod_eq_of_lt (by omega)]
            rw [hb2] at hvb
            clear hb2
            have t4 : (u : Int) % 128 + 128 = (b.toNat : Int) := by rw [hbt]; omega
            have hdv := div128 u
            clear hbt
            go_wp2_with (at_builtin; refine wpList_byte _ rfl _ _ rfl rfl B v2 l2 rfl (hW.row.alloc _) ⟨wr.heap.size, 0, none⟩ 1 rfl b (cell_of_block (heap_alloc_new wr _) rfl) (by omega) (by simp; omega) ?_; intro g cap w6 hown hgrow hat; obtain ⟨hW6, hG6, hb6, hU6⟩ := hW.step _ hown hgrow (by intro k hk; have hk' : g = k := Option.some.inj hk; subst hk'; rcases hat with h | h; exact Or.inl h; right; rw [h]; simp); have q1 := cell_of_block hb6 (i := 0) rfl; have q2 : w6.frozen? ⟨pb, 0, none⟩ = false := frozen_of_block hb6)
            go_roundw
            case rel =>
              refine ⟨u / 128, _, _, rfl, hW6, hG.trans hG6, ?_, ?_, by omega⟩
              · rw [List.append_assoc, List.singleton_append, ← List.cons_append, ← hvb]; exact heq2
              · rw [hvb] at hlen2; simp only [List.length_append, List.length_cons, List.length_nil] at hlen2 ⊢; omega
            case measure => simp [intOf]; omega
          · have hd : decide (127 < (u : Int)) = false := by simp; omega
            obtain ⟨b, hb2⟩ : ∃ b, UInt8.ofNat u = b := ⟨_, rfl⟩
            have hvb := vb_lt (u := u) (by omega)
            have hub : b.toNat = u := by rw [← hb2, UInt8.toNat_ofNat', Nat.mod_eq_of_lt (by omega)]
            rw [hb2] at hvb
            clear hb2
            subst hub
            go_wp2_with (at_builtin; refine wpList_byte _ rfl _ _ rfl rfl B v2 l2 rfl (hW.row.alloc _) ⟨wr.heap.size, 0, none⟩ 1 rfl b (cell_of_block (heap_alloc_new wr _) rfl) (by omega) (by simp; omega) ?_; intro g cap w6 hown hgrow hat; obtain ⟨hW6, hG6, hb6, hU6⟩ := hW.step _ hown hgrow (by intro k hk; have hk' : g = k := Option.some.inj hk; subst hk'; rcases hat with h | h; exact Or.inl h; right; rw [h]; simp); have q1 := cell_of_block hb6 (i := 0) rfl; have q2 : w6.frozen? ⟨pb, 0, none⟩ = false := frozen_of_block hb6)
            go_roundw
            case rel =>
              refine ⟨k + 1, _, _, by simp, by omega, hW6, Or.inr hU6, hG.trans hG6, ?_, ?_⟩
              · rw [List.append_assoc, ← hvb]; exact heq2
              · rw [hvb] at hlen2; simp only [List.length_append, List.length_cons, List.length_nil] at hlen2 ⊢; omega
            case measure => simp [intOf]; omega
      · have hnd : decide (n < 0) = false := by simpa using hn
        have hze := zpos n hn hb.2
        go_wp2_with fail
        go_loopw [6] (fun s6 wr => ∃ (u : Nat) (l2 : List UInt8) (v2 : Value), s6 = .int .u64 (u : Int) ∧ Wr wr B pb v2 l2 ∧ Gw w pb v wr v2 ∧ l2 ++ (vb u ++ (ns.drop (k + 1)).flatMap num) = l ++ ns.flatMap num ∧ l2.length + (vb u).length = l'.length + (vb (zz n)).length ∧ u < 18446744073709551616) (fun s6 _ => (intOf s6).toNat)
        case atStart => exact ⟨zz n, l', v', (by first | rfl | rw [hze]), hW, hG, heq', rfl, hzl⟩
        case round =>
          clear hW hG heq' f0 hIr
          obtain ⟨u, l2, v2, rfl, hW, hG, heq2, hlen2, hu⟩ := hrel
          have hpos := vb_pos u
          have c0 : wr.cell? ⟨pb, 0, none⟩ = some v2 := cell_of_block hW.blk rfl
          have hBr : B ≤ wr.heap.size := Nat.le_trans hB hG.turned.size
          have d0 : ∀ ob, (wr.alloc ob).cell? ⟨pb, 0, none⟩ = some v2 := fun ob => alloc_cell c0 ob
          by_cases hge : 127 < u
          · have hd : decide (127 < (u : Int)) = true := by simp; omega
            obtain ⟨b, hb2⟩ : ∃ b, UInt8.ofNat (u % 128 + 128) = b := ⟨_, rfl⟩
            have hvb := vb_ge (u := u) (by omega)
            have hbt : b.toNat = u % 128 + 128 := by rw [← hb2, UInt8.toNat_ofNat', Nat.mod_eq_of_lt (by omega)]
            rw [hb2] at hvb
            clear hb2
            have t4 : (u : Int) % 128 + 128 = (b.toNat : Int) := by rw [hbt]; omega
            have hdv := div128 u
            clear hbt
            go_wp2_with (at_builtin; refine wpList_byte _ rfl _ _ rfl rfl B v2 l2 rfl (hW.row.alloc _) ⟨wr.heap.size, 0, none⟩ 1 rfl b (cell_of_block (heap_alloc_new wr _) rfl) (by omega) (by simp; omega) ?_; intro g cap w6 hown hgrow hat; obtain ⟨hW6, hG6, hb6, hU6⟩ := hW.step _ hown hgrow (by intro k hk; have hk' : g = k := Option.some.inj hk; subst hk'; rcases hat with h | h; exact Or.inl h; right; rw [h]; simp); have q1 := cell_of_block hb6 (i := 0) rfl; have q2 : w6.frozen? ⟨pb, 0, none⟩ = false := frozen_of_block hb6)
            go_roundw
            case rel =>
              refine ⟨u / 128, _, _, rfl, hW6, hG.trans hG6, ?_, ?_, by omega⟩
              · rw [List.append_assoc, List.singleton_append, ← List.cons_append, ← hvb]; exact heq2
              · rw [hvb] at hlen2; simp only [List.length_append, List.length_cons, List.length_nil] at hlen2 ⊢; omega
            case measure => simp [intOf]; omega
          · have hd : decide (127 < (u : Int)) = false := by simp; omega
            obtain ⟨b, hb2⟩ : ∃ b, UInt8.ofNat u = b := ⟨_, rfl⟩
            have hvb := vb_lt (u := u) (by omega)
            have hub : b.toNat = u := by rw [← hb2, UInt8.toNat_ofNat', Nat.mod_eq_of_lt (by omega)]
            rw [hb2] at hvb
            clear hb2
            subst hub
            go_wp2_with (at_builtin; refine wpList_byte _ rfl _ _ rfl rfl B v2 l2 rfl (hW.row.alloc _) ⟨wr.heap.size, 0, none⟩ 1 rfl b (cell_of_block (heap_alloc_new wr _) rfl) (by omega) (by simp; omega) ?_; intro g cap w6 hown hgrow hat; obtain ⟨hW6, hG6, hb6, hU6⟩ := hW.step _ hown hgrow (by intro k hk; have hk' : g = k := Option.some.inj hk; subst hk'; rcases hat with h | h; exact Or.inl h; right; rw [h]; simp); have q1 := cell_of_block hb6 (i := 0) rfl; have q2 : w6.frozen? ⟨pb, 0, none⟩ = false := frozen_of_block hb6)
            go_roundw
            case rel =>
              refine ⟨k + 1, _, _, by simp, by omega, hW6, Or.inr hU6, hG.trans hG6, ?_, ?_⟩
              · rw [List.append_assoc, ← hvb]; exact heq2
              · rw [hvb] at hlen2; simp only [List.length_append, List.length_cons, List.length_nil] at hlen2 ⊢; omega
            case measure => simp [intOf]; omega
    · obtain rfl : k = ns.length := by omega
      have hkd : decide ((ns.length : Int) < (ns.length : Int)) = false := by simp
      rw [List.drop_length, List.flatMap_nil, List.append_nil] at heq
      subst heq
      go_wp2
      go_end0
      refine ⟨rfl, v', hW, ?_, hG⟩
      rcases hst with h0 | h0
      · exact Or.inl (List.eq_nil_of_length_eq_zero h0)
      · exact Or.inr h0

set_option maxRecDepth 100000 in
set_option maxHeartbeats 4000000 in
theorem text_any (B pb : Nat) (v : Value) (l : List UInt8) (s : ByteArray) (w : World) (h : Wr w B pb v l) (hB : B ≤ w.heap.size) (hl : l.length ≤ 70368744177600) (hs : s.size ≤ 35184372088832) :
    Calls Tryd.prog 47 #[.pointer (some ⟨pb, 0, none⟩), .string s] w fun e w' => e = .returned (.tuple #[]) ∧ ∃ v', Wr w' B pb v' (l ++ txt s) ∧ Bu w' B v' (l ++ txt s) ∧ Gw w pb v w' v' := by
  obtain ⟨i0, hi, hz0, hz1, hz2⟩ := info_parts infoByte
  have hnl := num_len (n := (s.size : Int)) (by omega) (by omega)
  have hI := heap_alloc_new w (.cells #[.int .i64 (s.size : Int)] 3)
  have hnum := num_any B pb v l [(s.size : Int)] w.heap.size 1 _ (h.alloc _) (by simp; omega) hI (by intro n hn; rw [List.mem_singleton.mp hn]; omega) (by simp; omega)
  go_enter Tryd.func47, Tryd.ntmps47
  go_wp2_with fail
  refine hnum.mono ?_
  rintro e w1 ⟨rfl, v1, hW1, hst, hG1⟩
  rw [List.flatMap_cons, List.flatMap_nil, List.append_nil] at hW1 hst
  have hrow : Bu w1 B v1 (l ++ num (s.size : Int)) := hst.resolve_left (by simp)
  clear hst
  have hG01 : Gw w pb v w1 v1 := ⟨⟨hG1.turned.os, hG1.turned.tape, hG1.turned.output, Nat.le_trans (by simp) hG1.turned.size, fun k hk hs => (hG1.turned.block k (by simp; omega) hs).trans (Below.heap_alloc w _ k hk)⟩, fun k hk => by
    rcases hG1.own k hk with h1 | h1
    · exact Or.inl h1
    · right; simp at h1; omega⟩
  have hB1 : B ≤ w1.heap.size := Nat.le_trans hB hG01.turned.size
  have hl1 : (l ++ num (s.size : Int)).length ≤ 70368744177610 := by rw [List.length_append]; omega
  obtain ⟨m, hm⟩ : ∃ m, l ++ num (s.size : Int) = m := ⟨_, rfl⟩
  rw [hm] at hl1 hW1 hrow
  have c0 : w1.cell? ⟨pb, 0, none⟩ = some v1 := cell_of_block hW1.blk rfl
  go_wp2_with (at_builtin; refine wpList_text _ rfl _ _ 64 9 rfl B 5 i0 Tryd.underlying64 Tryd.underlying9 hi hz0 hz1 hz2 v1 m.length (m.map bv) rfl hrow s rfl (by omega) hB1 ?_; intro v2 w2 hown hgrow hat; obtain ⟨oa2, n2, c2, rfl⟩ := row_form hown; obtain ⟨hW2, hG2, hb2, hU2⟩ := hW1.stepT (cells_text hown) hgrow hat; have q1 := cell_of_block hb2 (i := 0) rfl; have q2 : w2.frozen? ⟨pb, 0, none⟩ = false := frozen_of_block hb2)
  go_end0
  have e : l ++ txt s = m ++ sl s := by unfold txt; rw [← List.append_assoc, hm]
  rw [e]
  exact ⟨rfl, _, hW2, hU2, hG01.trans hG2⟩
end Go.Proofs.YthbkklnahhdgcaaDoor.EncD
