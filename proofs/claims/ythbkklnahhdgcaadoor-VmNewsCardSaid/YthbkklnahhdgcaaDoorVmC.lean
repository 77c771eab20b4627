/-
  The walk of rewindlaw.VmNews: at every image that lies in memory, whatever room, list and number, it answers true; nothing that was there has turned. The contracts of code.Check and of the document's ImageCheck come in as premises here.
-/
import Derived.Test.YthbkklnahhdgcaaDoorCodeM
import Derived.Test.YthbkklnahhdgcaaDoorCodeO
import Derived.Test.YthbkklnahhdgcaaDoorCodeXa
import Derived.Test.YthbkklnahhdgcaaDoorVmB
namespace Go.Proofs.YthbkklnahhdgcaaDoor.VmC
open Go Go.Proofs Go.RowKit Lib CodeR CodeA CodeB CodeP CodeQ CodeD CodeS CodeH CodeK CodeL CodeM CodeXa CodeO VmA VmB ErrC ErrD

def CheckC : Prop := ∀ (mb mo : Nat) (m : Im) (w : World), Row w mb mo m.vals → ImIn w m → (∀ f ∈ m.funcs, bOk f) →
    Calls Tryd.prog 20 #[.pointer (some ⟨mb, mo, none⟩)] w fun r w' => ∃ e p v, r = .returned v ∧ ErrIs w' v e p ∧ ImVerdict m e p ∧ Below w.heap.size w w'
def ImageC : Prop := ∀ (mb mo : Nat) (m : Im) (w : World), Row w mb mo m.vals → ImIn w m → (∀ f ∈ m.funcs, bOk f) → w.cell? ⟨0, 0, none⟩ = some (.int .i64 0) → w.cell? ⟨0, 1, none⟩ = some (.int .i64 (-1)) →
    Calls Tryd.prog 21 #[.pointer (some ⟨mb, mo, none⟩)] w fun r w' => ∃ e p, r = .returned (.agg #[.int .i64 e, .int .i64 p]) ∧ ImVerdict m e p ∧ Below w.heap.size w w'

theorem bOk_of {m : Im} (h : ImOk m) : ∀ f ∈ m.funcs, bOk f := fun f hf x hx => ((h.fn f hf).code x hx).2.2
theorem bOk_same {m k : Im} (h : ImSame m k) (ho : ImOk m) : ∀ f ∈ k.funcs, bOk f := by
  intro f hf
  obtain ⟨i, hi⟩ := List.mem_iff_getElem?.mp hf
  obtain ⟨g, hg, hs⟩ := h.symm.funcs.get hi
  intro x hx
  rw [hs.code] at hx
  exact bOk_of ho g (List.mem_of_getElem? hg) x hx
theorem im_box (w : World) (m : Im) : Row (w.alloc (.cells #[m.funcsS.val, m.constsS.val, m.classesS.val] 42)) w.heap.size 0 m.vals := by
  intro k v hv
  match k, hv with
  | 0, hv => simp only [Im.vals, List.getElem?_cons_zero, Option.some.injEq] at hv; subst hv; simp
  | 1, hv => simp only [Im.vals, List.getElem?_cons_zero, List.getElem?_cons_succ, Option.some.injEq] at hv; subst hv; simp
  | 2, hv => simp only [Im.vals, List.getElem?_cons_zero, List.getElem?_cons_succ, Option.some.injEq] at hv; subst hv; simp

theorem two_cells {w : World} {b : Nat} {e p : Value} {t : TypeId} (h : w.heap[b]? = some (.cells #[e, p] t (0, 0))) : w.cell? ⟨b, 0, none⟩ = some e ∧ w.cell? ⟨b, 1, none⟩ = some p ∧ (∀ o, w.frozen? ⟨b, o, none⟩ = false) :=
  ⟨cell_of_block h rfl, cell_of_block h rfl, fun o => by simp [World.frozen?, h]⟩
theorem two_set {w : World} {X : Nat} {a b e p : Value} {t : TypeId} (h : w.heap[X]? = some (.cells #[a, b] t (0, 0))) : ((w.setCell ⟨X, 0, none⟩ e).setCell ⟨X, 1, none⟩ p).heap[X]? = some (.cells #[e, p] t (0, 0)) := by
  have := img_set (i := 1) (v := p) (img_set (i := 0) (v := e) h)
  simpa using this

theorem errIs_set {w : World} {v : Value} {e p : Int} {X i : Nat} {u : Value} {c : Array Value} (h : ErrIs w v e p) (hX : w.heap[X]? = some (.cells c 48 (0, 0))) : ErrIs (w.setCell ⟨X, i, none⟩ u) v e p := by
  rcases h with h | h | ⟨b, h1, h2, h3⟩
  · exact Or.inl h
  · exact Or.inr (Or.inl h)
  · refine Or.inr (Or.inr ⟨b, h1, ?_, h3⟩)
    rw [block_setCell_ne (by intro hb; simp only at hb; subst hb; rw [hX] at h2; cases h2)]
    exact h2
def anyC (l : List Int) : Bool := l.any colB
theorem any_take_succ (l : List Int) {k : Nat} {x : Int} (h : l[k]? = some x) : anyC (l.take (k + 1)) = (anyC (l.take k) || colB x) := by
  unfold anyC
  rw [List.take_add_one, h]; simp

theorem place_of {m : Im} {p : Int} (h : ImVerdict m 0 p) : p = -1 := by
  cases h1 : limImB m
  · exact (h.lim h1).2
  · by_cases h2 : ∃ i c, m.classes[i]? = some c ∧ classBad m i c = true
    · exact (h.cls h1 h2).2
    · have h3 : ∀ i c, m.classes[i]? = some c → classBad m i c = false := by
        intro i c hc
        cases h3 : classBad m i c
        · rfl
        · exact absurd ⟨i, c, hc, h3⟩ h2
      rcases h.fns h1 h3 with ⟨_, h4, _⟩ | ⟨_, _, _, _, h4, _⟩
      · exact h4
      · exact absurd rfl h4
theorem slots_of {m : Im} {p : Int} (h : ImVerdict m 0 p) : ∃ f, m.funcs[0]? = some f ∧ 0 ≤ f.slots ∧ f.slots ≤ 200 := by
  have h1 : limImB m = true := by
    cases h1 : limImB m
    · exact absurd (h.lim h1).1 (by decide)
    · rfl
  have h2 : ∀ i c, m.classes[i]? = some c → classBad m i c = false := by
    intro i c hc
    cases h3 : classBad m i c
    · rfl
    · exact absurd (h.cls h1 ⟨i, c, hc, h3⟩).1 (by decide)
  rcases h.fns h1 h2 with ⟨_, _, hv⟩ | ⟨_, _, _, _, h3, _⟩
  · have hl : 0 < m.funcs.length := by
      simp only [limImB, within, Bool.and_eq_true, decide_eq_true_eq] at h1
      omega
    refine ⟨m.funcs[0], List.getElem?_eq_getElem hl, ?_⟩
    have hb : limB m.funcs[0] = true := by
      cases hb : limB m.funcs[0]
      · exact absurd ((hv _ (List.getElem_mem hl)).lim hb) (by decide)
      · rfl
    simp only [limB, within, Bool.and_eq_true, decide_eq_true_eq] at hb
    omega
  · exact absurd rfl h3

theorem cnt (i : Int) : ∃ q : Nat, wrap64 ((IntKind.u64.wrap i).tmod 200) = (q : Int) ∧ q < 200 := by
  have h0 : 0 ≤ IntKind.u64.wrap i := by rw [IntKind.wrap_u64]; omega
  refine ⟨((IntKind.u64.wrap i).tmod 200).toNat, ?_, ?_⟩
  · rw [Int.tmod_eq_emod_of_nonneg h0]; unfold wrap64; omega
  · rw [Int.tmod_eq_emod_of_nonneg h0]
    omega

set_option maxRecDepth 100000 in
set_option maxHeartbeats 4000000 in
theorem law (hCC : CheckC) (hIC : ImageC) (m : Im) (n o i : Int) (S : Sl) (l : List Int) (w : World) (hi : ImIn w m) (hok : ImOk m) (hS : SlIn w S 1 (l.map fun n => [.int .i64 n])) (hg : EtIs w) (hf0 : w.cell? ⟨0, 0, none⟩ = some (.int .i64 0)) (hf1 : w.cell? ⟨0, 1, none⟩ = some (.int .i64 (-1))) :
    Calls Tryd.prog 5 #[.agg #[.slice m.funcsS.oa m.funcsS.n m.funcsS.c, .slice m.constsS.oa m.constsS.n m.constsS.c, .slice m.classesS.oa m.classesS.n m.classesS.c], .int .i64 n, .int .i64 o, .slice S.oa l.length S.c, .int .i64 i] w fun r w' => r = .returned (.bool true) ∧ Below w.heap.size w w' := by
  have hl : 1 < w.heap.size := World.block_lt_of_cell? w _ hg
  have hl0 : 0 < w.heap.size := World.block_lt_of_cell? w _ hf0
  have hbx := im_box w m
  unfold Sl.val at hbx
  have hB0 : Below w.heap.size w (w.alloc (.cells #[.slice m.funcsS.oa m.funcsS.n m.funcsS.c, .slice m.constsS.oa m.constsS.n m.constsS.c, .slice m.classesS.oa m.classesS.n m.classesS.c] 42)) := (Below.refl _ _).alloc (Nat.le_refl _) _
  have hsz : (w.alloc (.cells #[.slice m.funcsS.oa m.funcsS.n m.funcsS.c, .slice m.constsS.oa m.constsS.n m.constsS.c, .slice m.classesS.oa m.classesS.n m.classesS.c] 42)).heap.size = w.heap.size + 1 := by simp
  have hi0 := hi.below hB0 (Nat.le_refl _)
  have hS0 := hS.below hB0 (Nat.le_refl _)
  have cfew := few_any m (w.alloc (.cells #[.slice m.funcsS.oa m.funcsS.n m.funcsS.c, .slice m.constsS.oa m.constsS.n m.constsS.c, .slice m.classesS.oa m.classesS.n m.classesS.c] 42)) hi0 (fun f hf => (hok.fn f hf).lens) (fun c hc => (hok.cl c hc).lens)
  go_enter Tryd.func5, Tryd.ntmps5
  go_wp2_with fail
  generalize w.alloc (.cells #[.slice m.funcsS.oa m.funcsS.n m.funcsS.c, .slice m.constsS.oa m.constsS.n m.constsS.c, .slice m.classesS.oa m.classesS.n m.classesS.c] 42) = w0 at *
  refine cfew.mono ?_
  rintro r w1 ⟨b, rfl, hfew, hb1⟩
  have hB1 := hB0.trans (hb1.mono (by omega))
  cases b
  · go_wp2_with fail
    go_ret
    exact ⟨rfl, hB1⟩
  have hF : FewIm m := hfew rfl
  clear hfew
  by_cases q60 : 60 < (l.length : Int)
  · have z60 : decide (60 < (l.length : Int)) = true := by simpa using q60
    go_wp2_with fail
    go_ret
    exact ⟨rfl, hB1⟩
  have z60 : decide (60 < (l.length : Int)) = false := by simpa using q60
  have hi1 := hi0.below hb1 (Nat.le_refl _)
  have hbx1 := hbx.below hb1 (Nat.le_refl _)
  have hS1 := hS0.below hb1 (Nat.le_refl _)
  clear hi0 hbx cfew hb1 hS0
  obtain ⟨q, hq, hq200⟩ := cnt i
  obtain ⟨iI, hiI, hzI0, hzI1, hzI2⟩ := info_parts VmA.infoInt
  have hmk : ∀ u : World, (Instr.makeSlice 52 (.int .i64 (q : Int)) (.int .i64 (q : Int))).run Tryd.prog u =
      .ok (.slice (some ⟨u.heap.size, 0, none⟩) q q) (u.alloc (.cells (madeCells #[.int .i64 0] (q * 1)) 3)) := fun u => by
    have h := run_make (P := Tryd.prog) u 52 3 iI _ Tryd.underlying52 hiI hzI0 .i64 .i64 (q : Int) (q : Int) (by omega) (Int.le_refl _) (by rw [hzI2]; omega) (by omega)
    rw [Int.toNat_natCast, hzI1] at h
    exact h
  go_wp2_with fail
  have hbq : (w1.alloc (.cells (madeCells #[.int .i64 0] q) 3)).heap[w1.heap.size]? = some (.cells (madeCells #[.int .i64 0] q) 3 (0, 0)) := heap_alloc_new w1 _
  have hB2 : Below w.heap.size w (w1.alloc (.cells (madeCells #[.int .i64 0] q) 3)) := hB1.alloc (by have := hB1.size; exact this) _
  have hsz2 : (w1.alloc (.cells (madeCells #[.int .i64 0] q) 3)).heap.size = w1.heap.size + 1 := by simp
  have hb12 : Below w1.heap.size w1 (w1.alloc (.cells (madeCells #[.int .i64 0] q) 3)) := (Below.refl _ _).alloc (Nat.le_refl _) _
  have hi2 := hi1.below hb12 (Nat.le_refl _)
  have hbx2 := hbx1.below hb12 (Nat.le_refl _)
  have hS2 := hS1.below hb12 (Nat.le_refl _)
  clear hi1 hbx1 hS1 hb12 hmk
  generalize w1.alloc (.cells (madeCells #[.int .i64 0] q) 3) = w2 at *
  generalize hIB : w1.heap.size = IB at *
  have hSi : SlIn w2 ⟨some ⟨IB, 0, none⟩, q, q, IB, 0⟩ 1 ((List.replicate q (0 : Int)).map fun n => [.int .i64 n]) := by
    refine ⟨by simp, by (show q ≤ 9223372036854775807; omega), fun _ => rfl, ?_⟩
    intro i r hr k v hv
    rw [List.map_replicate, List.getElem?_replicate] at hr
    split at hr
    · cases hr
      have hk : k = 0 := by
        have := (List.getElem?_eq_some_iff.mp hv).1
        simpa using this
      subst hk
      cases hv
      refine cell_of_block hbq ?_
      have hlt : i < q := by assumption
      simp [madeCells, hlt, Nat.mod_one]
    · cases hr
  have hNew := New_any w.heap.size 0 m n o S ⟨some ⟨IB, 0, none⟩, q, q, IB, 0⟩ l (List.replicate q 0) w2 hbx2 hi2 hS2 hSi (by omega) (by simp; omega)
    (fun w' hb' => hCC _ _ m w' (hbx2.below hb' (Nat.le_refl _)) (hi2.below hb' (Nat.le_refl _)) (bOk_of hok)) (fun p hp => slots_of hp)
  simp only [List.length_replicate] at hNew
  refine hNew.mono ?_
  clear hNew hSi hbq
  rintro r w3 ⟨e0, p0, e, p, v, pp, rfl, hv0, hE, hE1, hE2, hE3, hpp, hb3⟩
  have hB3 := hB2.trans (hb3.mono (by have := hB2.size; omega))
  have hi3 := hi2.below hb3 (Nat.le_refl _)
  have hbx3 := hbx2.below hb3 (Nat.le_refl _)
  have hS3 := hS2.below hb3 (Nat.le_refl _)
  clear hi2 hbx2 hS2 hb3
  go_wp2_with fail
  refine (image_any w.heap.size 0 m w3 hbx3 hi3 hF).mono ?_
  rintro r w4 ⟨b', m', rfl, hrow, hi4, hsame, hb4⟩
  have hB4 := hB3.trans (hb4.mono hB3.size)
  have hE4 := ErrIs.below hE hb4 (Nat.le_refl _)
  have hS4 := hS3.below hb4 (Nat.le_refl _)
  clear hE hb4 hi3 hbx3 hS3
  go_wp2_with fail
  refine (hIC b' 0 m' w4 hrow hi4 (bOk_same hsame hok) (by rw [hB4.cell (p := ⟨0, 0, none⟩) hl0]; exact hf0) (by rw [hB4.cell (p := ⟨0, 1, none⟩) hl0]; exact hf1)).mono ?_
  rintro r w5 ⟨e', p', rfl, hv', hb5⟩
  obtain ⟨rfl, rfl⟩ := (imVerdict_same hsame hv0).unique hv'
  have hB5 := hB4.trans (hb5.mono hB4.size)
  have hE5 := ErrIs.below hE4 hb5 (Nat.le_refl _)
  have hS5 := hS4.below hb5 (Nat.le_refl _)
  clear hE4 hb5 hi4 hrow hS4
  have hX6 := heap_alloc_new w5 (.cells #[.int .i64 e0, .int .i64 p0] 48)
  have hB6 : Below w5.heap.size w5 (w5.alloc (.cells #[.int .i64 e0, .int .i64 p0] 48)) := (Below.refl _ _).alloc (Nat.le_refl _) _
  have x0 := (two_cells hX6).1
  have x1 := (two_cells hX6).2.1
  have x2 := (two_cells hX6).2.2
  have hsz5 : w.heap.size ≤ w5.heap.size := hB5.size
  have hE6 := ErrIs.below hE5 hB6 (Nat.le_refl _)
  have hS6 := hS5.below hB6 (Nat.le_refl _)
  have hBB := hB5.trans (hB6.mono hsz5)
  clear hB6 hE5 hS5
  by_cases he0 : e0 = 0
  · subst he0
    obtain rfl := place_of hv0
    have hG2 := hE2 rfl
    have hG3 := hE3 rfl
    clear hE1 hE2 hE3
    have ha := hS6.addr
    have hr := fun (k : Nat) (n : Int) (hx : l[k]? = some n) => hS6.row k [.int .i64 n] (by rw [List.getElem?_map, hx]; rfl) 0 _ rfl
    have hlS := hS6.len
    rw [List.length_map] at hlS
    rw [hlS] at ha
    simp only [Nat.mul_one, Nat.add_zero] at hr
    clear hS6 hlS
    obtain ⟨Sb, hSb⟩ : ∃ b, S.b = b := ⟨_, rfl⟩
    obtain ⟨So, hSo⟩ : ∃ b, S.o = b := ⟨_, rfl⟩
    obtain ⟨Sc, hSc⟩ : ∃ b, S.c = b := ⟨_, rfl⟩
    obtain ⟨oa, hoa⟩ : ∃ b, S.oa = b := ⟨_, rfl⟩
    rw [hSb, hSo, hoa] at ha
    rw [hSb, hSo] at hr
    rw [hSc, hoa]
    by_cases q0 : n < 1
    · have z0 : decide (n < 1) = true := by simpa using q0
      have hbad : badB n o l (List.replicate q 0) = true := by
        simp only [badB, roomB, List.length_replicate, Bool.or_eq_true, decide_eq_true_eq]
        first | exact Or.inl (by omega) | exact Or.inr (Or.inl (by omega))
      obtain ⟨rfl, rfl⟩ := hG2 hbad
      obtain rfl : pp = none := by simpa using hpp
      clear hG2 hG3 hbad hpp
      go_wp2_with fail
      generalize w5.alloc (.cells #[.int .i64 0, .int .i64 (-1)] 48) = w6 at *
      generalize w5.heap.size = X at *
      go_loop [14, 15] (fun s14 s15 => ∃ k : Nat, s15 = .int .i64 (k : Int) ∧ s14 = .bool true ∧ k ≤ l.length) (fun _ s15 => l.length - (intOf s15).toNat)
      case atStart => exact ⟨0, rfl, rfl, Nat.zero_le _⟩
      case round =>
        obtain ⟨k, rfl, rfl, hk⟩ := hrel
        clear ha hr
        by_cases hkn : k < l.length
        · have hkd : decide ((k : Int) < (l.length : Int)) = true := by simp; omega
          go_wp2
          go_round
          case rel => exact ⟨k + 1, by simp, rfl, by omega⟩
          case measure => simp [intOf]; omega
        · obtain rfl : k = l.length := by omega
          have hkd : decide ((l.length : Int) < (l.length : Int)) = false := by simp
          go_wp2_with fail
          refine (bareF 2 w6).mono ?_
          rintro r w7 ⟨rfl, hb7⟩
          have hX7 := (hb7.block X (lt_of_block hX6)).trans hX6
          have y0 := (two_cells hX7).1
          have y1 := (two_cells hX7).2.1
          have y2 := (two_cells hX7).2.2
          have hX8 := two_set (e := .int .i64 2) (p := .int .i64 (-1)) hX7
          have z0 := (two_cells hX8).1
          have z1 := (two_cells hX8).2.1
          have hb8 : Below w.heap.size w7 ((w7.setCell ⟨X, 0, none⟩ (.int .i64 2)).setCell ⟨X, 1, none⟩ (.int .i64 (-1))) := ((Below.refl _ _).setCell hsz5 _).setCell hsz5 _
          have hB7 := hBB.trans (hb7.mono hBB.size)
          have hB8 := hB7.trans hb8
          have hE8 : ErrIs ((w7.setCell ⟨X, 0, none⟩ (.int .i64 2)).setCell ⟨X, 1, none⟩ (.int .i64 (-1))) v 2 (-1) := by
            exact errIs_set (errIs_set (hE6.below hb7 (Nat.le_refl _)) hX7) (img_set hX7)
          go_wp2_with fail
          refine (at_is hE8 (hg.below hB8 hl)).mono ?_
          rintro r w9 ⟨rfl, hb9⟩
          have hB9 := hB8.trans (hb9.mono hB8.size)
          have v0 := (hb9.cell (p := ⟨X, 0, none⟩) (lt_of_block hX8)).trans z0
          go_wp2_with fail
          go_ret
          exact ⟨rfl, hB9⟩
    have z0 : decide (n < 1) = false := by simpa using q0
    by_cases q1 : 65536 < n
    · have z1 : decide (65536 < n) = true := by simpa using q1
      have hbad : badB n o l (List.replicate q 0) = true := by
        simp only [badB, roomB, List.length_replicate, Bool.or_eq_true, decide_eq_true_eq]
        first | exact Or.inl (by omega) | exact Or.inr (Or.inl (by omega))
      obtain ⟨rfl, rfl⟩ := hG2 hbad
      obtain rfl : pp = none := by simpa using hpp
      clear hG2 hG3 hbad hpp
      go_wp2_with fail
      generalize w5.alloc (.cells #[.int .i64 0, .int .i64 (-1)] 48) = w6 at *
      generalize w5.heap.size = X at *
      go_loop [14, 15] (fun s14 s15 => ∃ k : Nat, s15 = .int .i64 (k : Int) ∧ s14 = .bool true ∧ k ≤ l.length) (fun _ s15 => l.length - (intOf s15).toNat)
      case atStart => exact ⟨0, rfl, rfl, Nat.zero_le _⟩
      case round =>
        obtain ⟨k, rfl, rfl, hk⟩ := hrel
        clear ha hr
        by_cases hkn : k < l.length
        · have hkd : decide ((k : Int) < (l.length : Int)) = true := by simp; omega
          go_wp2
          go_round
          case rel => exact ⟨k + 1, by simp, rfl, by omega⟩
          case measure => simp [intOf]; omega
        · obtain rfl : k = l.length := by omega
          have hkd : decide ((l.length : Int) < (l.length : Int)) = false := by simp
          go_wp2_with fail
          refine (bareF 2 w6).mono ?_
          rintro r w7 ⟨rfl, hb7⟩
          have hX7 := (hb7.block X (lt_of_block hX6)).trans hX6
          have y0 := (two_cells hX7).1
          have y1 := (two_cells hX7).2.1
          have y2 := (two_cells hX7).2.2
          have hX8 := two_set (e := .int .i64 2) (p := .int .i64 (-1)) hX7
          have z0 := (two_cells hX8).1
          have z1 := (two_cells hX8).2.1
          have hb8 : Below w.heap.size w7 ((w7.setCell ⟨X, 0, none⟩ (.int .i64 2)).setCell ⟨X, 1, none⟩ (.int .i64 (-1))) := ((Below.refl _ _).setCell hsz5 _).setCell hsz5 _
          have hB7 := hBB.trans (hb7.mono hBB.size)
          have hB8 := hB7.trans hb8
          have hE8 : ErrIs ((w7.setCell ⟨X, 0, none⟩ (.int .i64 2)).setCell ⟨X, 1, none⟩ (.int .i64 (-1))) v 2 (-1) := by
            exact errIs_set (errIs_set (hE6.below hb7 (Nat.le_refl _)) hX7) (img_set hX7)
          go_wp2_with fail
          refine (at_is hE8 (hg.below hB8 hl)).mono ?_
          rintro r w9 ⟨rfl, hb9⟩
          have hB9 := hB8.trans (hb9.mono hB8.size)
          have v0 := (hb9.cell (p := ⟨X, 0, none⟩) (lt_of_block hX8)).trans z0
          go_wp2_with fail
          go_ret
          exact ⟨rfl, hB9⟩
    have z1 : decide (65536 < n) = false := by simpa using q1
    by_cases q2 : o < 1
    · have z2 : decide (o < 1) = true := by simpa using q2
      have hbad : badB n o l (List.replicate q 0) = true := by
        simp only [badB, roomB, List.length_replicate, Bool.or_eq_true, decide_eq_true_eq]
        first | exact Or.inl (by omega) | exact Or.inr (Or.inl (by omega))
      obtain ⟨rfl, rfl⟩ := hG2 hbad
      obtain rfl : pp = none := by simpa using hpp
      clear hG2 hG3 hbad hpp
      go_wp2_with fail
      generalize w5.alloc (.cells #[.int .i64 0, .int .i64 (-1)] 48) = w6 at *
      generalize w5.heap.size = X at *
      go_loop [14, 15] (fun s14 s15 => ∃ k : Nat, s15 = .int .i64 (k : Int) ∧ s14 = .bool true ∧ k ≤ l.length) (fun _ s15 => l.length - (intOf s15).toNat)
      case atStart => exact ⟨0, rfl, rfl, Nat.zero_le _⟩
      case round =>
        obtain ⟨k, rfl, rfl, hk⟩ := hrel
        clear ha hr
        by_cases hkn : k < l.length
        · have hkd : decide ((k : Int) < (l.length : Int)) = true := by simp; omega
          go_wp2
          go_round
          case rel => exact ⟨k + 1, by simp, rfl, by omega⟩
          case measure => simp [intOf]; omega
        · obtain rfl : k = l.length := by omega
          have hkd : decide ((l.length : Int) < (l.length : Int)) = false := by simp
          go_wp2_with fail
          refine (bareF 2 w6).mono ?_
          rintro r w7 ⟨rfl, hb7⟩
          have hX7 := (hb7.block X (lt_of_block hX6)).trans hX6
          have y0 := (two_cells hX7).1
          have y1 := (two_cells hX7).2.1
          have y2 := (two_cells hX7).2.2
          have hX8 := two_set (e := .int .i64 2) (p := .int .i64 (-1)) hX7
          have z0 := (two_cells hX8).1
          have z1 := (two_cells hX8).2.1
          have hb8 : Below w.heap.size w7 ((w7.setCell ⟨X, 0, none⟩ (.int .i64 2)).setCell ⟨X, 1, none⟩ (.int .i64 (-1))) := ((Below.refl _ _).setCell hsz5 _).setCell hsz5 _
          have hB7 := hBB.trans (hb7.mono hBB.size)
          have hB8 := hB7.trans hb8
          have hE8 : ErrIs ((w7.setCell ⟨X, 0, none⟩ (.int .i64 2)).setCell ⟨X, 1, none⟩ (.int .i64 (-1))) v 2 (-1) := by
            exact errIs_set (errIs_set (hE6.below hb7 (Nat.le_refl _)) hX7) (img_set hX7)
          go_wp2_with fail
          refine (at_is hE8 (hg.below hB8 hl)).mono ?_
          rintro r w9 ⟨rfl, hb9⟩
          have hB9 := hB8.trans (hb9.mono hB8.size)
          have v0 := (hb9.cell (p := ⟨X, 0, none⟩) (lt_of_block hX8)).trans z0
          go_wp2_with fail
          go_ret
          exact ⟨rfl, hB9⟩
    have z2 : decide (o < 1) = false := by simpa using q2
    by_cases q3 : 1048576 < o
    · have z3 : decide (1048576 < o) = true := by simpa using q3
      have hbad : badB n o l (List.replicate q 0) = true := by
        simp only [badB, roomB, List.length_replicate, Bool.or_eq_true, decide_eq_true_eq]
        first | exact Or.inl (by omega) | exact Or.inr (Or.inl (by omega))
      obtain ⟨rfl, rfl⟩ := hG2 hbad
      obtain rfl : pp = none := by simpa using hpp
      clear hG2 hG3 hbad hpp
      go_wp2_with fail
      generalize w5.alloc (.cells #[.int .i64 0, .int .i64 (-1)] 48) = w6 at *
      generalize w5.heap.size = X at *
      go_loop [14, 15] (fun s14 s15 => ∃ k : Nat, s15 = .int .i64 (k : Int) ∧ s14 = .bool true ∧ k ≤ l.length) (fun _ s15 => l.length - (intOf s15).toNat)
      case atStart => exact ⟨0, rfl, rfl, Nat.zero_le _⟩
      case round =>
        obtain ⟨k, rfl, rfl, hk⟩ := hrel
        clear ha hr
        by_cases hkn : k < l.length
        · have hkd : decide ((k : Int) < (l.length : Int)) = true := by simp; omega
          go_wp2
          go_round
          case rel => exact ⟨k + 1, by simp, rfl, by omega⟩
          case measure => simp [intOf]; omega
        · obtain rfl : k = l.length := by omega
          have hkd : decide ((l.length : Int) < (l.length : Int)) = false := by simp
          go_wp2_with fail
          refine (bareF 2 w6).mono ?_
          rintro r w7 ⟨rfl, hb7⟩
          have hX7 := (hb7.block X (lt_of_block hX6)).trans hX6
          have y0 := (two_cells hX7).1
          have y1 := (two_cells hX7).2.1
          have y2 := (two_cells hX7).2.2
          have hX8 := two_set (e := .int .i64 2) (p := .int .i64 (-1)) hX7
          have z0 := (two_cells hX8).1
          have z1 := (two_cells hX8).2.1
          have hb8 : Below w.heap.size w7 ((w7.setCell ⟨X, 0, none⟩ (.int .i64 2)).setCell ⟨X, 1, none⟩ (.int .i64 (-1))) := ((Below.refl _ _).setCell hsz5 _).setCell hsz5 _
          have hB7 := hBB.trans (hb7.mono hBB.size)
          have hB8 := hB7.trans hb8
          have hE8 : ErrIs ((w7.setCell ⟨X, 0, none⟩ (.int .i64 2)).setCell ⟨X, 1, none⟩ (.int .i64 (-1))) v 2 (-1) := by
            exact errIs_set (errIs_set (hE6.below hb7 (Nat.le_refl _)) hX7) (img_set hX7)
          go_wp2_with fail
          refine (at_is hE8 (hg.below hB8 hl)).mono ?_
          rintro r w9 ⟨rfl, hb9⟩
          have hB9 := hB8.trans (hb9.mono hB8.size)
          have v0 := (hb9.cell (p := ⟨X, 0, none⟩) (lt_of_block hX8)).trans z0
          go_wp2_with fail
          go_ret
          exact ⟨rfl, hB9⟩
    have z3 : decide (1048576 < o) = false := by simpa using q3
    by_cases q4 : 100 < (q : Int)
    · have z4 : decide (100 < (q : Int)) = true := by simpa using q4
      have hbad : badB n o l (List.replicate q 0) = true := by
        simp only [badB, roomB, List.length_replicate, Bool.or_eq_true, decide_eq_true_eq]
        first | exact Or.inl (by omega) | exact Or.inr (Or.inl (by omega))
      obtain ⟨rfl, rfl⟩ := hG2 hbad
      obtain rfl : pp = none := by simpa using hpp
      clear hG2 hG3 hbad hpp
      go_wp2_with fail
      generalize w5.alloc (.cells #[.int .i64 0, .int .i64 (-1)] 48) = w6 at *
      generalize w5.heap.size = X at *
      go_loop [14, 15] (fun s14 s15 => ∃ k : Nat, s15 = .int .i64 (k : Int) ∧ s14 = .bool true ∧ k ≤ l.length) (fun _ s15 => l.length - (intOf s15).toNat)
      case atStart => exact ⟨0, rfl, rfl, Nat.zero_le _⟩
      case round =>
        obtain ⟨k, rfl, rfl, hk⟩ := hrel
        clear ha hr
        by_cases hkn : k < l.length
        · have hkd : decide ((k : Int) < (l.length : Int)) = true := by simp; omega
          go_wp2
          go_round
          case rel => exact ⟨k + 1, by simp, rfl, by omega⟩
          case measure => simp [intOf]; omega
        · obtain rfl : k = l.length := by omega
          have hkd : decide ((l.length : Int) < (l.length : Int)) = false := by simp
          go_wp2_with fail
          refine (bareF 2 w6).mono ?_
          rintro r w7 ⟨rfl, hb7⟩
          have hX7 := (hb7.block X (lt_of_block hX6)).trans hX6
          have y0 := (two_cells hX7).1
          have y1 := (two_cells hX7).2.1
          have y2 := (two_cells hX7).2.2
          have hX8 := two_set (e := .int .i64 2) (p := .int .i64 (-1)) hX7
          have z0 := (two_cells hX8).1
          have z1 := (two_cells hX8).2.1
          have hb8 : Below w.heap.size w7 ((w7.setCell ⟨X, 0, none⟩ (.int .i64 2)).setCell ⟨X, 1, none⟩ (.int .i64 (-1))) := ((Below.refl _ _).setCell hsz5 _).setCell hsz5 _
          have hB7 := hBB.trans (hb7.mono hBB.size)
          have hB8 := hB7.trans hb8
          have hE8 : ErrIs ((w7.setCell ⟨X, 0, none⟩ (.int .i64 2)).setCell ⟨X, 1, none⟩ (.int .i64 (-1))) v 2 (-1) := by
            exact errIs_set (errIs_set (hE6.below hb7 (Nat.le_refl _)) hX7) (img_set hX7)
          go_wp2_with fail
          refine (at_is hE8 (hg.below hB8 hl)).mono ?_
          rintro r w9 ⟨rfl, hb9⟩
          have hB9 := hB8.trans (hb9.mono hB8.size)
          have v0 := (hb9.cell (p := ⟨X, 0, none⟩) (lt_of_block hX8)).trans z0
          go_wp2_with fail
          go_ret
          exact ⟨rfl, hB9⟩
    have z4 : decide (100 < (q : Int)) = false := by simpa using q4
    have hrm : roomB n o = false := by
      simp only [roomB, Bool.or_eq_false_iff, decide_eq_false_iff_not]
      omega
    go_wp2_with fail
    generalize w5.alloc (.cells #[.int .i64 0, .int .i64 (-1)] 48) = w6 at *
    generalize w5.heap.size = X at *
    go_loop [14, 15] (fun s14 s15 => ∃ k : Nat, s15 = .int .i64 (k : Int) ∧ s14 = .bool (anyC (l.take k)) ∧ k ≤ l.length) (fun _ s15 => l.length - (intOf s15).toNat)
    case atStart => exact ⟨0, rfl, rfl, Nat.zero_le _⟩
    case round =>
      obtain ⟨k, rfl, rfl, hk⟩ := hrel
      by_cases hkn : k < l.length
      · have hkd : decide ((k : Int) < (l.length : Int)) = true := by simp; omega
        obtain ⟨x, hx⟩ : ∃ x, l[k]? = some x := ⟨_, List.getElem?_eq_getElem hkn⟩
        have hs := any_take_succ l hx
        obtain rfl := ha (by omega)
        have hc := hr k x hx
        have kpos : (0 : Int) ≤ (k : Int) := by omega
        clear ha hr
        cases hb : anyC (l.take k)
        · rw [hb] at hs
          by_cases u0 : x < 0
          · have v0 : decide (x < 0) = true := by simpa using u0
            go_wp2
            go_round
            case rel => exact ⟨k + 1, by simp, by rw [hs]; simp [colB, u0], by omega⟩
            case measure => simp [intOf]; omega
          · have v0 : decide (x < 0) = false := by simpa using u0
            go_wp2
            go_round
            case rel => exact ⟨k + 1, by simp, by rw [hs]; simp [colB, u0], by omega⟩
            case measure => simp [intOf]; omega
        · rw [hb] at hs
          go_wp2
          go_round
          case rel => exact ⟨k + 1, by simp, by rw [hs]; rfl, by omega⟩
          case measure => simp [intOf]; omega
      · obtain rfl : k = l.length := by omega
        have hkd : decide ((l.length : Int) < (l.length : Int)) = false := by simp
        have hta : l.any colB = anyC (l.take l.length) := by rw [List.take_length]; rfl
        clear ha hr
        cases hcol : anyC (l.take l.length)
        · rw [hcol] at hta
          have hgood : badB n o l (List.replicate q 0) = false := by
            unfold badB
            rw [hrm, hta, List.length_replicate, z4]
            rfl
          obtain ⟨rfl, rfl⟩ := hG3 hgood
          obtain ⟨pa, rfl⟩ : ∃ a, pp = some a := by
            cases pp
            · simp at hpp
            · exact ⟨_, rfl⟩
          clear hG2 hG3 hgood hpp hcol hta
          go_wp2_with fail
          refine (at_is hE6 (hg.below hBB hl)).mono ?_
          rintro r w7 ⟨rfl, hb7⟩
          have hB7 := hBB.trans (hb7.mono hBB.size)
          have v0 := (hb7.cell (p := ⟨X, 0, none⟩) (lt_of_block hX6)).trans x0
          go_wp2_with fail
          go_ret
          exact ⟨rfl, hB7⟩
        · rw [hcol] at hta
          have hbad : badB n o l (List.replicate q 0) = true := by
            unfold badB
            rw [hta]
            simp
          obtain ⟨rfl, rfl⟩ := hG2 hbad
          obtain rfl : pp = none := by simpa using hpp
          clear hG2 hG3 hbad hpp hcol hta
          go_wp2_with fail
          refine (bareF 2 w6).mono ?_
          rintro r w7 ⟨rfl, hb7⟩
          have hX7 := (hb7.block X (lt_of_block hX6)).trans hX6
          have y0 := (two_cells hX7).1
          have y1 := (two_cells hX7).2.1
          have y2 := (two_cells hX7).2.2
          have hX8 := two_set (e := .int .i64 2) (p := .int .i64 (-1)) hX7
          have z0 := (two_cells hX8).1
          have z1 := (two_cells hX8).2.1
          have hb8 : Below w.heap.size w7 ((w7.setCell ⟨X, 0, none⟩ (.int .i64 2)).setCell ⟨X, 1, none⟩ (.int .i64 (-1))) := ((Below.refl _ _).setCell hsz5 _).setCell hsz5 _
          have hB7 := hBB.trans (hb7.mono hBB.size)
          have hB8 := hB7.trans hb8
          have hE8 : ErrIs ((w7.setCell ⟨X, 0, none⟩ (.int .i64 2)).setCell ⟨X, 1, none⟩ (.int .i64 (-1))) v 2 (-1) := by
            exact errIs_set (errIs_set (hE6.below hb7 (Nat.le_refl _)) hX7) (img_set hX7)
          go_wp2_with fail
          refine (at_is hE8 (hg.below hB8 hl)).mono ?_
          rintro r w9 ⟨rfl, hb9⟩
          have hB9 := hB8.trans (hb9.mono hB8.size)
          have v0 := (hb9.cell (p := ⟨X, 0, none⟩) (lt_of_block hX8)).trans z0
          go_wp2_with fail
          go_ret
          exact ⟨rfl, hB9⟩
  · have z0 : (e0 == 0) = false := by simpa using he0
    obtain ⟨rfl, rfl⟩ := hE1 he0
    obtain rfl : pp = none := by
      rw [decide_eq_false he0] at hpp
      cases pp
      · rfl
      · cases hpp
    have hA : Aside (e ≠ 0) := he0
    clear he0 hE2 hE3 hE1 hpp
    go_wp2_with fail
    refine (at_is hE6 (hg.below hBB hl)).mono ?_
    rintro r w7 ⟨rfl, hb7⟩
    have hB7 := hBB.trans (hb7.mono hBB.size)
    have v0 := (hb7.cell (p := ⟨w5.heap.size, 0, none⟩) (lt_of_block hX6)).trans x0
    go_wp2_with fail
    go_ret
    exact ⟨rfl, hB7⟩
end Go.Proofs.YthbkklnahhdgcaaDoor.VmC
