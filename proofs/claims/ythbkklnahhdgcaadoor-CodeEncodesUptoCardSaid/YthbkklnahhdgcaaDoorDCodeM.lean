/-
  The contract of the laws' image.
-/
import Derived.Test.YthbkklnahhdgcaaDoorDMC
import Derived.Test.YthbkklnahhdgcaaDoorDMA
namespace Go.Proofs.YthbkklnahhdgcaaDoor.CodeM
open Go Go.Proofs Go.RowKit Lib CodeR CodeA CodeB CodeP CodeQ CodeD CodeS CodeH CodeK CodeL

set_option maxRecDepth 100000 in
set_option maxHeartbeats 30000000 in
theorem image_any (mb mo : Nat) (m : Im) (w : World) (hm : Row w mb mo m.vals) (hi : ImIn w m) (hfew : FewIm m) :
    Calls Tryd.prog 22 #[.pointer (some ⟨mb, mo, none⟩)] w fun r w' => ∃ b m', r = .returned (.pointer (some ⟨b, 0, none⟩)) ∧ Row w' b 0 m'.vals ∧ ImIn w' m' ∧ ImSame m m' ∧ Below w.heap.size w w' := by
  obtain ⟨iC, hiC, hzC0, hzC1, hzC2⟩ := info_parts infoC
  obtain ⟨iK, hiK, hzK0, hzK1, hzK2⟩ := info_parts infoK
  obtain ⟨iF, hiF, hzF0, hzF1, hzF2⟩ := info_parts infoF
  obtain ⟨iI, hiI, hzI0, hzI1, hzI2⟩ := info_parts infoI
  obtain ⟨iH, hiH, hzH0, hzH1, hzH2⟩ := info_parts infoH
  obtain ⟨iS, hiS, hzS0, hzS1, hzS2⟩ := info_parts infoS
  have c0 := (im_cells hm).1
  have c1 := (im_cells hm).2.1
  have c2 := (im_cells hm).2.2
  have l0 := hi.funcs.len
  have l1 := hi.consts.len
  have l2 := hi.classes.len
  have a0 := hi.funcs.addr
  have a1 := hi.consts.addr
  have a2 := hi.classes.addr
  rw [List.length_map] at l0 l1 l2
  unfold Sl.val at c0 c1 c2
  rw [l0] at c0 a0
  rw [l1] at c1 a1
  rw [l2] at c2 a2
  obtain ⟨oa0, ho0⟩ : ∃ oa, m.funcsS.oa = oa := ⟨_, rfl⟩
  obtain ⟨oa1, ho1⟩ : ∃ oa, m.constsS.oa = oa := ⟨_, rfl⟩
  obtain ⟨oa2, ho2⟩ : ∃ oa, m.classesS.oa = oa := ⟨_, rfl⟩
  rw [ho0] at c0 a0
  rw [ho1] at c1 a1
  rw [ho2] at c2 a2
  clear ho0 ho1 ho2 l0 l1 l2
  obtain ⟨b0, b1, b2, b3, b4⟩ := hfew
  have hrow0 := fun (k : Nat) (x : Fc) (hx : m.funcs[k]? = some x) => hi.funcs.row k x.vals (by rw [List.getElem?_map, hx]; rfl)
  have hrow1 := fun (k : Nat) (x : Cn) (hx : m.consts[k]? = some x) => hi.consts.row k x.vals (by rw [List.getElem?_map, hx]; rfl)
  have hrow2 := fun (k : Nat) (x : Cl) (hx : m.classes[k]? = some x) => hi.classes.row k x.vals (by rw [List.getElem?_map, hx]; rfl)
  have hmlt := World.block_lt_of_cell? w _ c0
  have hbx1 : (w.alloc (.cells #[.slice none 0 0, .slice none 0 0, .slice none 0 0] 124)).heap[w.heap.size]? = some (.cells #[.slice none 0 0, .slice none 0 0, .slice none 0 0] 124 (0, 0)) := heap_alloc_new w _
  have hbl1 : Below w.heap.size w (w.alloc (.cells #[.slice none 0 0, .slice none 0 0, .slice none 0 0] 124)) := below_alloc (Below.refl _ _) _ (Nat.le_refl _)
  have hsz1 : (w.alloc (.cells #[.slice none 0 0, .slice none 0 0, .slice none 0 0] 124)).heap.size = w.heap.size + 1 := by simp
  go_enter Tryd.func22, Tryd.ntmps22
  go_wp2
  generalize (w.alloc (.cells #[.slice none 0 0, .slice none 0 0, .slice none 0 0] 124)) = w1 at *
  generalize hX : w.heap.size = X at *
  go_loopw [4] (fun s4 wr => ∃ (k : Nat) (vC : Value), k ≤ m.consts.length ∧ s4 = .int .i64 (k : Int) ∧ wr.heap[X]? = some (.cells #[.slice none 0 0, vC, .slice none 0 0] 124 (0, 0)) ∧ OR wr (X + 1) 132 3 vC ((m.consts.take k).map Cn.vals) ∧ Below X w wr) (fun s4 _ => m.consts.length - (intOf s4).toNat)
  case atStart => exact ⟨0, _, Nat.zero_le _, rfl, hbx1, OR.nil _ _ _ _, hbl1⟩
  case round =>
    obtain ⟨k, vC, hk, rfl, hbX, hOR, hb⟩ := hrel
    have g1 := (hb.cell (p := ⟨mb, mo + 1, none⟩) hmlt).trans c1
    have hXl := lt_of_block hbX
    by_cases hkn : k < m.consts.length
    · obtain ⟨x, hx⟩ : ∃ x, m.consts[k]? = some x := ⟨_, List.getElem?_eq_getElem hkn⟩
      have hkd : decide ((k : Int) < (m.consts.length : Int)) = true := by simp; omega
      have hoa := a1 (by omega)
      subst hoa
      have hxr : Row wr m.constsS.b (m.constsS.o + k * 3) x.vals := (hrow1 k x hx).below hb (Nat.le_of_eq hX)
      have e0 : wr.cell? ⟨m.constsS.b, m.constsS.o + k * 3, none⟩ = some (.bool x.text) := hxr 0 _ rfl
      have e1 : wr.cell? ⟨m.constsS.b, m.constsS.o + k * 3 + 1, none⟩ = some (.string x.s) := hxr 1 _ rfl
      have e2 : wr.cell? ⟨m.constsS.b, m.constsS.o + k * 3 + 2, none⟩ = some (.int .i64 x.n) := hxr 2 _ rfl
      have hlen : ((m.consts.take k).map Cn.vals).length = k := by simp; omega
      have hOR' : wr.ownsRow (X + 1) 132 3 vC k ((m.consts.take k).map Cn.vals).flatten := by
        have h := hOR
        unfold OR at h
        rw [hlen] at h
        exact h
      have hvX : some X ≠ vC.ownBlock := by
        intro h
        have := (own_base hOR' h.symm).1
        omega
      have q1 := alloc_cell (Lib.cell_of_block hbX (i := 1) rfl)
      have i1 : (0 : Int) ≤ (k : Int) := by omega
      have i2 : (k : Int) < (m.consts.length : Int) := by omega
      clear hxr hrow1
      go_wp2
      have hbX5 := (Below.heap_alloc wr (.cells #[.bool x.text, .string x.s, .int .i64 x.n] 68) X hXl).trans hbX
      have hel := heap_alloc_new wr (.cells #[.bool x.text, .string x.s, .int .i64 x.n] 68)
      have hOR5 := hOR'.alloc (.cells #[.bool x.text, .string x.s, .int .i64 x.n] 68)
      have hb5 : Below X w (wr.alloc (.cells #[.bool x.text, .string x.s, .int .i64 x.n] 68)) := below_alloc hb _ (Nat.le_of_eq hX.symm)
      have hs5 : (wr.alloc (.cells #[.bool x.text, .string x.s, .int .i64 x.n] 68)).heap.size = wr.heap.size + 1 := by simp
      generalize (wr.alloc (.cells #[.bool x.text, .string x.s, .int .i64 x.n] 68)) = w5 at *
      obtain ⟨E, hE⟩ : ∃ E, wr.heap.size = E := ⟨_, rfl⟩
      rw [hE] at hel hs5 hXl ⊢
      clear e0 e1 e2 q1 g1 hOR hOR' hbX hb hE
      have p1 : w5.cell? ⟨X, 1, none⟩ = some vC := Lib.cell_of_block hbX5 rfl
      have p2 : w5.cell? ⟨E, 0, none⟩ = some (.bool x.text) := Lib.cell_of_block hel rfl
      have p3 : w5.cell? ⟨E, 1, none⟩ = some (.string x.s) := Lib.cell_of_block hel rfl
      have p4 : w5.cell? ⟨E, 2, none⟩ = some (.int .i64 x.n) := Lib.cell_of_block hel rfl
      have hvE : some E ≠ vC.ownBlock := by
        intro h
        obtain ⟨cur, h2⟩ := own_block hOR5 h.symm
        rw [hel] at h2
        cases h2
      have hfz : ∀ ob, ((w5.alloc ob).drew).frozen? ⟨X, 1, none⟩ = false := by
        intro ob
        have h : (w5.alloc ob).heap[X]? = _ := (Below.heap_alloc w5 ob X (by omega)).trans hbX5
        simp [World.frozen?, World.drew, h]
      have hnew : ∀ ob, (w5.alloc ob).heap[E + 1]? = some ob := by
        intro ob
        rw [← hs5]
        exact heap_alloc_new w5 ob
      have kc1 : ∀ ob, ((w5.alloc ob).drew).cell? ⟨X, 1, none⟩ = some vC := fun ob => alloc_cell p1 ob
      have kc2 : ∀ ob, ((w5.alloc ob).drew).cell? ⟨E, 0, none⟩ = some (.bool x.text) := fun ob => alloc_cell p2 ob
      have kc3 : ∀ ob, ((w5.alloc ob).drew).cell? ⟨E, 1, none⟩ = some (.string x.s) := fun ob => alloc_cell p3 ob
      have kc4 : ∀ ob, ((w5.alloc ob).drew).cell? ⟨E, 2, none⟩ = some (.int .i64 x.n) := fun ob => alloc_cell p4 ob
      have hXE : X ≠ E := by omega
      have hEX : E ≠ X := by omega
      have hml : k + 1 ≤ maxLen := by unfold maxLen; omega
      have hXs : X < w5.heap.size := by omega
      have hEs : E < w5.heap.size := by omega
      refine RegT.begin (S := fun wz => wz.cell? ⟨X, 1, none⟩ = some vC ∧ wz.cell? ⟨E, 0, none⟩ = some (.bool x.text) ∧ wz.cell? ⟨E, 1, none⟩ = some (.string x.s) ∧ wz.cell? ⟨E, 2, none⟩ = some (.int .i64 x.n)) (L := 16) (by kernel_rfl) ?_ (fun hHeld => ?_)
      · (try dsimp only); go_keep
      refine RegT.take (i := 0) (v := ?_) rfl (by kernel_rfl) (by kernel_rfl) (by kernel_rfl) (by kernel_rfl) (fun _ _ _ h => h) (Or.inl ⟨by rfl, ?_⟩) (by assumption) ?_
      rotate_left
      · intro w hSw; (try dsimp only at hSw); go_simp; first | done | with_reducible rfl
      try simp only [Act.put, List.setIfInBounds_toArray, List.set_cons_zero, List.set_cons_succ]
      refine RegT.take (i := 1) (v := ?_) rfl (by kernel_rfl) (by kernel_rfl) (by kernel_rfl) (by kernel_rfl) (fun _ _ _ h => h) (Or.inl ⟨by rfl, ?_⟩) (by assumption) ?_
      rotate_left
      · intro w hSw; (try dsimp only at hSw); go_simp; first | done | with_reducible rfl
      try simp only [Act.put, List.setIfInBounds_toArray, List.set_cons_zero, List.set_cons_succ]
      refine RegT.take (i := 2) (v := ?_) rfl (by kernel_rfl) (by kernel_rfl) (by kernel_rfl) (by kernel_rfl) (fun _ _ _ h => h) (Or.inl ⟨by rfl, ?_⟩) (by assumption) ?_
      rotate_left
      · intro w hSw; (try dsimp only at hSw); go_simp; first | done | with_reducible rfl
      try simp only [Act.put, List.setIfInBounds_toArray, List.set_cons_zero, List.set_cons_succ]
      refine RegT.take (i := 3) (v := ?_) rfl (by kernel_rfl) (by kernel_rfl) (by kernel_rfl) (by kernel_rfl) (fun _ _ _ h => h) (Or.inl ⟨by rfl, ?_⟩) (by assumption) ?_
      rotate_left
      · intro w hSw; (try dsimp only at hSw); go_simp; first | done | with_reducible rfl
      try simp only [Act.put, List.setIfInBounds_toArray, List.set_cons_zero, List.set_cons_succ]
      refine RegT.take (i := 4) (v := ?_) rfl (by kernel_rfl) (by kernel_rfl) (by kernel_rfl) (by kernel_rfl) (fun _ _ _ h => h) (Or.inl ⟨by rfl, ?_⟩) (by assumption) ?_
      rotate_left
      · intro w hSw; (try dsimp only at hSw); go_simp; first | done | with_reducible rfl
      try simp only [Act.put, List.setIfInBounds_toArray, List.set_cons_zero, List.set_cons_succ]
      refine RegT.take (i := 5) (v := ?_) rfl (by kernel_rfl) (by kernel_rfl) (by kernel_rfl) (by kernel_rfl) (fun _ _ _ h => h) (Or.inl ⟨by rfl, ?_⟩) (by assumption) ?_
      rotate_left
      · intro w hSw; (try dsimp only at hSw); go_simp; first | done | with_reducible rfl
      try simp only [Act.put, List.setIfInBounds_toArray, List.set_cons_zero, List.set_cons_succ]
      refine RegT.take (i := 6) (v := ?_) rfl (by kernel_rfl) (by kernel_rfl) (by kernel_rfl) (by kernel_rfl) (fun _ _ _ h => h) (Or.inl ⟨by rfl, ?_⟩) (by assumption) ?_
      rotate_left
      · intro w hSw; (try dsimp only at hSw); go_simp; first | done | with_reducible rfl
      try simp only [Act.put, List.setIfInBounds_toArray, List.set_cons_zero, List.set_cons_succ]
      refine RegT.take (i := 7) (v := ?_) rfl (by kernel_rfl) (by kernel_rfl) (by kernel_rfl) (by kernel_rfl) (fun _ _ _ h => h) (Or.inl ⟨by rfl, ?_⟩) (by assumption) ?_
      rotate_left
      · intro w hSw; (try dsimp only at hSw); go_simp; first | done | with_reducible rfl
      try simp only [Act.put, List.setIfInBounds_toArray, List.set_cons_zero, List.set_cons_succ]
      refine RegT.take (i := 8) (v := ?_) rfl (by kernel_rfl) (by kernel_rfl) (by kernel_rfl) (by kernel_rfl) (fun _ _ _ h => h) (Or.inl ⟨by rfl, ?_⟩) (by assumption) ?_
      rotate_left
      · intro w hSw; (try dsimp only at hSw); go_simp; first | done | with_reducible rfl
      try simp only [Act.put, List.setIfInBounds_toArray, List.set_cons_zero, List.set_cons_succ]
      refine RegT.take (i := 9) (v := ?_) rfl (by kernel_rfl) (by kernel_rfl) (by kernel_rfl) (by kernel_rfl) (fun _ _ _ h => h) (Or.inl ⟨by rfl, ?_⟩) (by assumption) ?_
      rotate_left
      · intro w hSw; (try dsimp only at hSw); go_simp; first | done | with_reducible rfl
      try simp only [Act.put, List.setIfInBounds_toArray, List.set_cons_zero, List.set_cons_succ]
      refine RegT.take (i := 10) (v := ?_) rfl (by kernel_rfl) (by kernel_rfl) (by kernel_rfl) (by kernel_rfl) (fun _ _ _ h => h) (Or.inl ⟨by rfl, ?_⟩) (by assumption) ?_
      rotate_left
      · intro w hSw; (try dsimp only at hSw); go_simp; first | done | with_reducible rfl
      try simp only [Act.put, List.setIfInBounds_toArray, List.set_cons_zero, List.set_cons_succ]
      refine RegT.take (i := 11) (v := ?_) rfl (by kernel_rfl) (by kernel_rfl) (by kernel_rfl) (by kernel_rfl) (fun _ _ _ h => h) (Or.inl ⟨by rfl, ?_⟩) (by assumption) ?_
      rotate_left
      · intro w hSw; (try dsimp only at hSw); go_simp; first | done | with_reducible rfl
      try simp only [Act.put, List.setIfInBounds_toArray, List.set_cons_zero, List.set_cons_succ]
      refine RegT.one (i := 12) (by kernel_rfl) rfl (fun K hK => ?_)
      go_simp
      refine hK.out _ _ ?_ (fun hHeld => ?_)
      · (try dsimp only); go_keep
      clear hK K
      try simp only [Act.put, List.setIfInBounds_toArray, List.set_cons_zero, List.set_cons_succ]
      refine RegT.one (i := 13) (by kernel_rfl) rfl (fun K hK => ?_)
      (refine step_append_lies _ (by rfl) _ _ _ (by rfl) (X + 1) 132 iC _ 3 32 Tryd.underlying121 hiC hzC0 hzC1 hzC2 rfl (by omega) vC k ((m.consts.take k).map Cn.vals).flatten (by rfl) ((hOR5.alloc _).drew) ⟨E + 1, 0, none⟩ 1 1 [.bool x.text, .string x.s, .int .i64 x.n] (by rfl) (by rfl) (World.news_of_block (cs := #[.bool x.text, .string x.s, .int .i64 x.n]) (t := 132) (fr := (0, 0)) (hnew _)) (by simp [Value.oneCell']) (by omega) hml (by omega) (by simp; omega) (E + 1 + 1) (by simp [hs5]) ?_; intro gg cap w6 hown1 hgrow hat hlt; have q2 : w6.frozen? ⟨X, 1, none⟩ = false := (hgrow.frozen_far ⟨X, 1, none⟩ (by simp; omega) hvX).trans (hfz _); have q1 : w6.cell? ⟨X, 1, none⟩ = some vC := (hgrow.cell_far ⟨X, 1, none⟩ (by simp; omega) hvX).trans (kc1 _); have q3 : w6.cell? ⟨E, 0, none⟩ = some (.bool x.text) := (hgrow.cell_far ⟨E, 0, none⟩ (by simp; omega) hvE).trans (kc2 _); have q4 : w6.cell? ⟨E, 1, none⟩ = some (.string x.s) := (hgrow.cell_far ⟨E, 1, none⟩ (by simp; omega) hvE).trans (kc3 _); have q5 : w6.cell? ⟨E, 2, none⟩ = some (.int .i64 x.n) := (hgrow.cell_far ⟨E, 2, none⟩ (by simp; omega) hvE).trans (kc4 _))
      refine hK.out _ _ ⟨q1, q3, q4, q5⟩ (fun hHeld => ?_)
      clear hK K
      try simp only [Act.put, List.setIfInBounds_toArray, List.set_cons_zero, List.set_cons_succ]
      refine RegT.one (i := 14) (by kernel_rfl) rfl (fun K hK => ?_)
      go_simp
      refine hK.out _ _ (by assumption) (fun hHeld => ?_)
      clear hK K
      try simp only [Act.put, List.setIfInBounds_toArray, List.set_cons_zero, List.set_cons_succ]
      refine RegT.one (i := 15) (by kernel_rfl) rfl (fun K hK => ?_)
      go_simp
      refine hK.out _ _ (by assumption) (fun hHeld => ?_)
      clear hK K
      try simp only [Act.put, List.setIfInBounds_toArray, List.set_cons_zero, List.set_cons_succ]
      refine RegT.last (by kernel_rfl) rfl (by kernel_rfl) (fun K hK => ?_)
      go_simp
      refine hK.out _ _ ?_
      clear hK K
      try simp only [Act.put, List.setIfInBounds_toArray, List.set_cons_zero, List.set_cons_succ]
      all_goals
        go_wp2
        go_roundw
        case rel =>
          have hbX6 := (hgrow.block X (by simp; omega) hvX).trans ((Below.heap_alloc w5 _ X hXs).trans hbX5)
          refine ⟨k + 1, .slice (some ⟨gg, 0, none⟩) (k + 1) cap, by omega, by simp, by simpa using img_set (i := 1) (v := .slice (some ⟨gg, 0, none⟩) (k + 1) cap) hbX6, ?_, ?_⟩
          · rw [take_map_succ Cn.vals hx]
            exact OR_step hown1 hlen (Nat.lt_succ_self X)
          · refine Below.setCell ?_ (Nat.le_refl X) _
            refine hb5.trans ⟨hgrow.os, hgrow.tape, hgrow.output, by have := hgrow.size; simp at this; omega, fun j hj => ?_⟩
            refine (hgrow.block j (by simp; omega) ?_).trans (Below.heap_alloc w5 _ j (by omega))
            intro h
            have := (own_base hOR5 h.symm).1
            omega
        case measure => simp [intOf]; omega
    · obtain rfl : k = m.consts.length := by omega
      have hkd : decide ((m.consts.length : Int) < (m.consts.length : Int)) = false := by simp
      rw [List.take_length] at hOR
      have hbX0 := hbX
      have hORC := hOR
      have hb0 := hb
      clear hbX hOR hb hXl hrow1 a1
      go_wp2
      clear g1
      go_loopw [6] (fun s6 wr => ∃ (k : Nat) (vC vK : Value), k ≤ m.classes.length ∧ s6 = .int .i64 (k : Int) ∧ wr.heap[X]? = some (.cells #[.slice none 0 0, vC, vK] 124 (0, 0)) ∧ OR wr (X + 1) 132 3 vC (m.consts.map Cn.vals) ∧ OR wr (X + 1) 125 5 vK ((m.classes.take k).map Cl.vals) ∧ Below X w wr) (fun s6 _ => m.classes.length - (intOf s6).toNat)
      case atStart => exact ⟨0, _, _, Nat.zero_le _, rfl, hbX0, hORC, OR.nil _ _ _ _, hb0⟩
      case round =>
        clear hbX0 hORC hb0
        obtain ⟨k, vC, vK, hk, rfl, hbX, hORC, hOR, hb⟩ := hrel
        have g2 := (hb.cell (p := ⟨mb, mo + 2, none⟩) hmlt).trans c2
        have hXl := lt_of_block hbX
        by_cases hkn : k < m.classes.length
        · obtain ⟨x, hx⟩ : ∃ x, m.classes[k]? = some x := ⟨_, List.getElem?_eq_getElem hkn⟩
          have hkd : decide ((k : Int) < (m.classes.length : Int)) = true := by simp; omega
          have hoa := a2 (by omega)
          subst hoa
          have hxr : Row wr m.classesS.b (m.classesS.o + k * 5) x.vals := (hrow2 k x hx).below hb (Nat.le_of_eq hX)
          have e0 : wr.cell? ⟨m.classesS.b, m.classesS.o + k * 5, none⟩ = some (.string x.name) := hxr 0 _ rfl
          have e1 : wr.cell? ⟨m.classesS.b, m.classesS.o + k * 5 + 1, none⟩ = some (.int .i64 x.above) := hxr 1 _ rfl
          have e2 : wr.cell? ⟨m.classesS.b, m.classesS.o + k * 5 + 2, none⟩ = some (.slice x.fieldsS.oa x.fieldsS.n x.fieldsS.c) := hxr 2 _ rfl
          have e3 : wr.cell? ⟨m.classesS.b, m.classesS.o + k * 5 + 3, none⟩ = some (.slice x.namesS.oa x.namesS.n x.namesS.c) := hxr 3 _ rfl
          have e4 : wr.cell? ⟨m.classesS.b, m.classesS.o + k * 5 + 4, none⟩ = some (.slice x.methodsS.oa x.methodsS.n x.methodsS.c) := hxr 4 _ rfl
          have hlen : ((m.classes.take k).map Cl.vals).length = k := by simp; omega
          have hOR' : wr.ownsRow (X + 1) 125 5 vK k ((m.classes.take k).map Cl.vals).flatten := by
            have h := hOR
            unfold OR at h
            rw [hlen] at h
            exact h
          have hvX : some X ≠ vK.ownBlock := by
            intro h
            have := (own_base hOR' h.symm).1
            omega
          have q1 := alloc_cell (Lib.cell_of_block hbX (i := 2) rfl)
          have i1 : (0 : Int) ≤ (k : Int) := by omega
          have i2 : (k : Int) < (m.classes.length : Int) := by omega
          clear hxr
          go_wp2
          have hbX5 := (Below.heap_alloc wr (.cells #[.string x.name, .int .i64 x.above, .slice x.fieldsS.oa x.fieldsS.n x.fieldsS.c, .slice x.namesS.oa x.namesS.n x.namesS.c, .slice x.methodsS.oa x.methodsS.n x.methodsS.c] 63) X hXl).trans hbX
          have hel := heap_alloc_new wr (.cells #[.string x.name, .int .i64 x.above, .slice x.fieldsS.oa x.fieldsS.n x.fieldsS.c, .slice x.namesS.oa x.namesS.n x.namesS.c, .slice x.methodsS.oa x.methodsS.n x.methodsS.c] 63)
          have hOR5 := hOR'.alloc (.cells #[.string x.name, .int .i64 x.above, .slice x.fieldsS.oa x.fieldsS.n x.fieldsS.c, .slice x.namesS.oa x.namesS.n x.namesS.c, .slice x.methodsS.oa x.methodsS.n x.methodsS.c] 63)
          have hORC5 := World.ownsRow.alloc hORC (.cells #[.string x.name, .int .i64 x.above, .slice x.fieldsS.oa x.fieldsS.n x.fieldsS.c, .slice x.namesS.oa x.namesS.n x.namesS.c, .slice x.methodsS.oa x.methodsS.n x.methodsS.c] 63)
          have hb5 : Below X w (wr.alloc (.cells #[.string x.name, .int .i64 x.above, .slice x.fieldsS.oa x.fieldsS.n x.fieldsS.c, .slice x.namesS.oa x.namesS.n x.namesS.c, .slice x.methodsS.oa x.methodsS.n x.methodsS.c] 63)) := below_alloc hb _ (Nat.le_of_eq hX.symm)
          have hs5 : (wr.alloc (.cells #[.string x.name, .int .i64 x.above, .slice x.fieldsS.oa x.fieldsS.n x.fieldsS.c, .slice x.namesS.oa x.namesS.n x.namesS.c, .slice x.methodsS.oa x.methodsS.n x.methodsS.c] 63)).heap.size = wr.heap.size + 1 := by simp
          generalize (wr.alloc (.cells #[.string x.name, .int .i64 x.above, .slice x.fieldsS.oa x.fieldsS.n x.fieldsS.c, .slice x.namesS.oa x.namesS.n x.namesS.c, .slice x.methodsS.oa x.methodsS.n x.methodsS.c] 63)) = w5 at *
          obtain ⟨E, hE⟩ : ∃ E, wr.heap.size = E := ⟨_, rfl⟩
          rw [hE] at hel hs5 hXl ⊢
          clear e0 e1 e2 e3 e4 q1 g2 hOR hOR' hORC hbX hb hE
          have p1 : w5.cell? ⟨X, 2, none⟩ = some vK := Lib.cell_of_block hbX5 rfl
          have p2 : w5.cell? ⟨E, 0, none⟩ = some (.string x.name) := Lib.cell_of_block hel rfl
          have p3 : w5.cell? ⟨E, 1, none⟩ = some (.int .i64 x.above) := Lib.cell_of_block hel rfl
          have p4 : w5.cell? ⟨E, 2, none⟩ = some (.slice x.fieldsS.oa x.fieldsS.n x.fieldsS.c) := Lib.cell_of_block hel rfl
          have p5 : w5.cell? ⟨E, 3, none⟩ = some (.slice x.namesS.oa x.namesS.n x.namesS.c) := Lib.cell_of_block hel rfl
          have p6 : w5.cell? ⟨E, 4, none⟩ = some (.slice x.methodsS.oa x.methodsS.n x.methodsS.c) := Lib.cell_of_block hel rfl
          have hvE : some E ≠ vK.ownBlock := by
            intro h
            obtain ⟨cur, h2⟩ := own_block hOR5 h.symm
            rw [hel] at h2
            cases h2
          have hfz : ∀ ob, ((w5.alloc ob).drew).frozen? ⟨X, 2, none⟩ = false := by
            intro ob
            have h : (w5.alloc ob).heap[X]? = _ := (Below.heap_alloc w5 ob X (by omega)).trans hbX5
            simp [World.frozen?, World.drew, h]
          have hnew : ∀ ob, (w5.alloc ob).heap[E + 1]? = some ob := by
            intro ob
            rw [← hs5]
            exact heap_alloc_new w5 ob
          have kc1 : ∀ ob, ((w5.alloc ob).drew).cell? ⟨X, 2, none⟩ = some vK := fun ob => alloc_cell p1 ob
          have kc2 : ∀ ob, ((w5.alloc ob).drew).cell? ⟨E, 0, none⟩ = some (.string x.name) := fun ob => alloc_cell p2 ob
          have kc3 : ∀ ob, ((w5.alloc ob).drew).cell? ⟨E, 1, none⟩ = some (.int .i64 x.above) := fun ob => alloc_cell p3 ob
          have kc4 : ∀ ob, ((w5.alloc ob).drew).cell? ⟨E, 2, none⟩ = some (.slice x.fieldsS.oa x.fieldsS.n x.fieldsS.c) := fun ob => alloc_cell p4 ob
          have kc5 : ∀ ob, ((w5.alloc ob).drew).cell? ⟨E, 3, none⟩ = some (.slice x.namesS.oa x.namesS.n x.namesS.c) := fun ob => alloc_cell p5 ob
          have kc6 : ∀ ob, ((w5.alloc ob).drew).cell? ⟨E, 4, none⟩ = some (.slice x.methodsS.oa x.methodsS.n x.methodsS.c) := fun ob => alloc_cell p6 ob
          have hXE : X ≠ E := by omega
          have hEX : E ≠ X := by omega
          have hml : k + 1 ≤ maxLen := by unfold maxLen; omega
          have hXs : X < w5.heap.size := by omega
          have hEs : E < w5.heap.size := by omega
          refine RegT.begin (S := fun wz => wz.cell? ⟨X, 2, none⟩ = some vK ∧ wz.cell? ⟨E, 0, none⟩ = some (.string x.name) ∧ wz.cell? ⟨E, 1, none⟩ = some (.int .i64 x.above) ∧ wz.cell? ⟨E, 2, none⟩ = some (.slice x.fieldsS.oa x.fieldsS.n x.fieldsS.c) ∧ wz.cell? ⟨E, 3, none⟩ = some (.slice x.namesS.oa x.namesS.n x.namesS.c) ∧ wz.cell? ⟨E, 4, none⟩ = some (.slice x.methodsS.oa x.methodsS.n x.methodsS.c)) (L := 20) (by kernel_rfl) ?_ (fun hHeld => ?_)
          · (try dsimp only); go_keep
          refine RegT.take (i := 0) (v := ?_) rfl (by kernel_rfl) (by kernel_rfl) (by kernel_rfl) (by kernel_rfl) (fun _ _ _ h => h) (Or.inl ⟨by rfl, ?_⟩) (by assumption) ?_
          rotate_left
          · intro w hSw; (try dsimp only at hSw); go_simp; first | done | with_reducible rfl
          try simp only [Act.put, List.setIfInBounds_toArray, List.set_cons_zero, List.set_cons_succ]
          refine RegT.take (i := 1) (v := ?_) rfl (by kernel_rfl) (by kernel_rfl) (by kernel_rfl) (by kernel_rfl) (fun _ _ _ h => h) (Or.inl ⟨by rfl, ?_⟩) (by assumption) ?_
          rotate_left
          · intro w hSw; (try dsimp only at hSw); go_simp; first | done | with_reducible rfl
          try simp only [Act.put, List.setIfInBounds_toArray, List.set_cons_zero, List.set_cons_succ]
          refine RegT.take (i := 2) (v := ?_) rfl (by kernel_rfl) (by kernel_rfl) (by kernel_rfl) (by kernel_rfl) (fun _ _ _ h => h) (Or.inl ⟨by rfl, ?_⟩) (by assumption) ?_
          rotate_left
          · intro w hSw; (try dsimp only at hSw); go_simp; first | done | with_reducible rfl
          try simp only [Act.put, List.setIfInBounds_toArray, List.set_cons_zero, List.set_cons_succ]
          refine RegT.take (i := 3) (v := ?_) rfl (by kernel_rfl) (by kernel_rfl) (by kernel_rfl) (by kernel_rfl) (fun _ _ _ h => h) (Or.inl ⟨by rfl, ?_⟩) (by assumption) ?_
          rotate_left
          · intro w hSw; (try dsimp only at hSw); go_simp; first | done | with_reducible rfl
          try simp only [Act.put, List.setIfInBounds_toArray, List.set_cons_zero, List.set_cons_succ]
          refine RegT.take (i := 4) (v := ?_) rfl (by kernel_rfl) (by kernel_rfl) (by kernel_rfl) (by kernel_rfl) (fun _ _ _ h => h) (Or.inl ⟨by rfl, ?_⟩) (by assumption) ?_
          rotate_left
          · intro w hSw; (try dsimp only at hSw); go_simp; first | done | with_reducible rfl
          try simp only [Act.put, List.setIfInBounds_toArray, List.set_cons_zero, List.set_cons_succ]
          refine RegT.take (i := 5) (v := ?_) rfl (by kernel_rfl) (by kernel_rfl) (by kernel_rfl) (by kernel_rfl) (fun _ _ _ h => h) (Or.inl ⟨by rfl, ?_⟩) (by assumption) ?_
          rotate_left
          · intro w hSw; (try dsimp only at hSw); go_simp; first | done | with_reducible rfl
          try simp only [Act.put, List.setIfInBounds_toArray, List.set_cons_zero, List.set_cons_succ]
          refine RegT.take (i := 6) (v := ?_) rfl (by kernel_rfl) (by kernel_rfl) (by kernel_rfl) (by kernel_rfl) (fun _ _ _ h => h) (Or.inl ⟨by rfl, ?_⟩) (by assumption) ?_
          rotate_left
          · intro w hSw; (try dsimp only at hSw); go_simp; first | done | with_reducible rfl
          try simp only [Act.put, List.setIfInBounds_toArray, List.set_cons_zero, List.set_cons_succ]
          refine RegT.take (i := 7) (v := ?_) rfl (by kernel_rfl) (by kernel_rfl) (by kernel_rfl) (by kernel_rfl) (fun _ _ _ h => h) (Or.inl ⟨by rfl, ?_⟩) (by assumption) ?_
          rotate_left
          · intro w hSw; (try dsimp only at hSw); go_simp; first | done | with_reducible rfl
          try simp only [Act.put, List.setIfInBounds_toArray, List.set_cons_zero, List.set_cons_succ]
          refine RegT.take (i := 8) (v := ?_) rfl (by kernel_rfl) (by kernel_rfl) (by kernel_rfl) (by kernel_rfl) (fun _ _ _ h => h) (Or.inl ⟨by rfl, ?_⟩) (by assumption) ?_
          rotate_left
          · intro w hSw; (try dsimp only at hSw); go_simp; first | done | with_reducible rfl
          try simp only [Act.put, List.setIfInBounds_toArray, List.set_cons_zero, List.set_cons_succ]
          refine RegT.take (i := 9) (v := ?_) rfl (by kernel_rfl) (by kernel_rfl) (by kernel_rfl) (by kernel_rfl) (fun _ _ _ h => h) (Or.inl ⟨by rfl, ?_⟩) (by assumption) ?_
          rotate_left
          · intro w hSw; (try dsimp only at hSw); go_simp; first | done | with_reducible rfl
          try simp only [Act.put, List.setIfInBounds_toArray, List.set_cons_zero, List.set_cons_succ]
          refine RegT.take (i := 10) (v := ?_) rfl (by kernel_rfl) (by kernel_rfl) (by kernel_rfl) (by kernel_rfl) (fun _ _ _ h => h) (Or.inl ⟨by rfl, ?_⟩) (by assumption) ?_
          rotate_left
          · intro w hSw; (try dsimp only at hSw); go_simp; first | done | with_reducible rfl
          try simp only [Act.put, List.setIfInBounds_toArray, List.set_cons_zero, List.set_cons_succ]
          refine RegT.take (i := 11) (v := ?_) rfl (by kernel_rfl) (by kernel_rfl) (by kernel_rfl) (by kernel_rfl) (fun _ _ _ h => h) (Or.inl ⟨by rfl, ?_⟩) (by assumption) ?_
          rotate_left
          · intro w hSw; (try dsimp only at hSw); go_simp; first | done | with_reducible rfl
          try simp only [Act.put, List.setIfInBounds_toArray, List.set_cons_zero, List.set_cons_succ]
          refine RegT.take (i := 12) (v := ?_) rfl (by kernel_rfl) (by kernel_rfl) (by kernel_rfl) (by kernel_rfl) (fun _ _ _ h => h) (Or.inl ⟨by rfl, ?_⟩) (by assumption) ?_
          rotate_left
          · intro w hSw; (try dsimp only at hSw); go_simp; first | done | with_reducible rfl
          try simp only [Act.put, List.setIfInBounds_toArray, List.set_cons_zero, List.set_cons_succ]
          refine RegT.take (i := 13) (v := ?_) rfl (by kernel_rfl) (by kernel_rfl) (by kernel_rfl) (by kernel_rfl) (fun _ _ _ h => h) (Or.inl ⟨by rfl, ?_⟩) (by assumption) ?_
          rotate_left
          · intro w hSw; (try dsimp only at hSw); go_simp; first | done | with_reducible rfl
          try simp only [Act.put, List.setIfInBounds_toArray, List.set_cons_zero, List.set_cons_succ]
          refine RegT.take (i := 14) (v := ?_) rfl (by kernel_rfl) (by kernel_rfl) (by kernel_rfl) (by kernel_rfl) (fun _ _ _ h => h) (Or.inl ⟨by rfl, ?_⟩) (by assumption) ?_
          rotate_left
          · intro w hSw; (try dsimp only at hSw); go_simp; first | done | with_reducible rfl
          try simp only [Act.put, List.setIfInBounds_toArray, List.set_cons_zero, List.set_cons_succ]
          refine RegT.take (i := 15) (v := ?_) rfl (by kernel_rfl) (by kernel_rfl) (by kernel_rfl) (by kernel_rfl) (fun _ _ _ h => h) (Or.inl ⟨by rfl, ?_⟩) (by assumption) ?_
          rotate_left
          · intro w hSw; (try dsimp only at hSw); go_simp; first | done | with_reducible rfl
          try simp only [Act.put, List.setIfInBounds_toArray, List.set_cons_zero, List.set_cons_succ]
          refine RegT.one (i := 16) (by kernel_rfl) rfl (fun K hK => ?_)
          go_simp
          refine hK.out _ _ ?_ (fun hHeld => ?_)
          · (try dsimp only); go_keep
          clear hK K
          try simp only [Act.put, List.setIfInBounds_toArray, List.set_cons_zero, List.set_cons_succ]
          refine RegT.one (i := 17) (by kernel_rfl) rfl (fun K hK => ?_)
          (refine step_append_lies _ (by rfl) _ _ _ (by rfl) (X + 1) 125 iK _ 5 96 Tryd.underlying122 hiK hzK0 hzK1 hzK2 rfl (by omega) vK k ((m.classes.take k).map Cl.vals).flatten (by rfl) ((hOR5.alloc _).drew) ⟨E + 1, 0, none⟩ 1 1 [.string x.name, .int .i64 x.above, .slice x.fieldsS.oa x.fieldsS.n x.fieldsS.c, .slice x.namesS.oa x.namesS.n x.namesS.c, .slice x.methodsS.oa x.methodsS.n x.methodsS.c] (by rfl) (by rfl) (World.news_of_block (cs := #[.string x.name, .int .i64 x.above, .slice x.fieldsS.oa x.fieldsS.n x.fieldsS.c, .slice x.namesS.oa x.namesS.n x.namesS.c, .slice x.methodsS.oa x.methodsS.n x.methodsS.c]) (t := 125) (fr := (0, 0)) (hnew _)) (by simp [Value.oneCell']) (by omega) hml (by omega) (by simp; omega) (E + 1 + 1) (by simp [hs5]) ?_; intro gg cap w6 hown1 hgrow hat hlt; have q2 : w6.frozen? ⟨X, 2, none⟩ = false := (hgrow.frozen_far ⟨X, 2, none⟩ (by simp; omega) hvX).trans (hfz _); have q1 : w6.cell? ⟨X, 2, none⟩ = some vK := (hgrow.cell_far ⟨X, 2, none⟩ (by simp; omega) hvX).trans (kc1 _); have q3 : w6.cell? ⟨E, 0, none⟩ = some (.string x.name) := (hgrow.cell_far ⟨E, 0, none⟩ (by simp; omega) hvE).trans (kc2 _); have q4 : w6.cell? ⟨E, 1, none⟩ = some (.int .i64 x.above) := (hgrow.cell_far ⟨E, 1, none⟩ (by simp; omega) hvE).trans (kc3 _); have q5 : w6.cell? ⟨E, 2, none⟩ = some (.slice x.fieldsS.oa x.fieldsS.n x.fieldsS.c) := (hgrow.cell_far ⟨E, 2, none⟩ (by simp; omega) hvE).trans (kc4 _); have q6 : w6.cell? ⟨E, 3, none⟩ = some (.slice x.namesS.oa x.namesS.n x.namesS.c) := (hgrow.cell_far ⟨E, 3, none⟩ (by simp; omega) hvE).trans (kc5 _); have q7 : w6.cell? ⟨E, 4, none⟩ = some (.slice x.methodsS.oa x.methodsS.n x.methodsS.c) := (hgrow.cell_far ⟨E, 4, none⟩ (by simp; omega) hvE).trans (kc6 _))
          refine hK.out _ _ ⟨q1, q3, q4, q5, q6, q7⟩ (fun hHeld => ?_)
          clear hK K
          try simp only [Act.put, List.setIfInBounds_toArray, List.set_cons_zero, List.set_cons_succ]
          refine RegT.one (i := 18) (by kernel_rfl) rfl (fun K hK => ?_)
          go_simp
          refine hK.out _ _ (by assumption) (fun hHeld => ?_)
          clear hK K
          try simp only [Act.put, List.setIfInBounds_toArray, List.set_cons_zero, List.set_cons_succ]
          refine RegT.one (i := 19) (by kernel_rfl) rfl (fun K hK => ?_)
          go_simp
          refine hK.out _ _ (by assumption) (fun hHeld => ?_)
          clear hK K
          try simp only [Act.put, List.setIfInBounds_toArray, List.set_cons_zero, List.set_cons_succ]
          refine RegT.last (by kernel_rfl) rfl (by kernel_rfl) (fun K hK => ?_)
          go_simp
          refine hK.out _ _ ?_
          clear hK K
          try simp only [Act.put, List.setIfInBounds_toArray, List.set_cons_zero, List.set_cons_succ]
          all_goals
            go_wp2
            go_roundw
            case rel =>
              have hbX6 := (hgrow.block X (by simp; omega) hvX).trans ((Below.heap_alloc w5 _ X hXs).trans hbX5)
              refine ⟨k + 1, vC, .slice (some ⟨gg, 0, none⟩) (k + 1) cap, by omega, by simp, by simpa using img_set (i := 2) (v := .slice (some ⟨gg, 0, none⟩) (k + 1) cap) hbX6, ?_, ?_, ?_⟩
              · refine OR.keep (w := w5) hORC5 (fun j hj => ?_)
                have hjb := own_base hORC5 hj
                refine (block_setCell_ne (by simp only; omega)).trans ((hgrow.block j (by simp; omega) (fun h => own_apart hORC5 hOR5 (by decide) hj h.symm)).trans (Below.heap_alloc w5 _ j hjb.2))
              · rw [take_map_succ Cl.vals hx]
                exact OR_step hown1 hlen (Nat.lt_succ_self X)
              · refine Below.setCell ?_ (Nat.le_refl X) _
                refine hb5.trans ⟨hgrow.os, hgrow.tape, hgrow.output, by have := hgrow.size; simp at this; omega, fun j hj => ?_⟩
                refine (hgrow.block j (by simp; omega) ?_).trans (Below.heap_alloc w5 _ j (by omega))
                intro h
                have := (own_base hOR5 h.symm).1
                omega
            case measure => simp [intOf]; omega
        · obtain rfl : k = m.classes.length := by omega
          have hkd : decide ((m.classes.length : Int) < (m.classes.length : Int)) = false := by simp
          rw [List.take_length] at hOR
          have hbX0 := hbX
          have hORC0 := hORC
          have hORK0 := hOR
          have hb0 := hb
          clear hbX hOR hORC hb hXl hrow2 a2
          go_wp2
          clear g2
          go_loopw [8] (fun s8 wr => ∃ (k : Nat) (vF vC vK : Value) (fs : List Fc), k ≤ m.funcs.length ∧ s8 = .int .i64 (k : Int) ∧ wr.heap[X]? = some (.cells #[vF, vC, vK] 124 (0, 0)) ∧ OR wr (X + 1) 132 3 vC (m.consts.map Cn.vals) ∧ OR wr (X + 1) 125 5 vK (m.classes.map Cl.vals) ∧ OR wr (X + 1) 130 6 vF (fs.map Fc.vals) ∧ All2 FcSame (m.funcs.take k) fs ∧ (∀ g ∈ fs, OwnF wr g) ∧ Below X w wr) (fun s8 _ => m.funcs.length - (intOf s8).toNat)
          case atStart => exact ⟨0, _, _, _, [], Nat.zero_le _, rfl, hbX0, hORC0, hORK0, OR.nil _ _ _ _, (by simp; exact All2.nil), (fun g hg => by cases hg), hb0⟩
          case round =>
            clear hbX0 hORC0 hORK0 hb0
            obtain ⟨k, vF, vC, vK, fs, hk, rfl, hbX, hORC, hORK, hORF, hA2, hOwn, hb⟩ := hrel
            have g0 := (hb.cell (p := ⟨mb, mo, none⟩) hmlt).trans c0
            have hXl := lt_of_block hbX
            by_cases hkn : k < m.funcs.length
            · obtain ⟨f, hx⟩ : ∃ f, m.funcs[k]? = some f := ⟨_, List.getElem?_eq_getElem hkn⟩
              have hfm := List.mem_of_getElem? hx
              have hkd : decide ((k : Int) < (m.funcs.length : Int)) = true := by simp; omega
              have hoa := a0 (by omega)
              subst hoa
              have hfi := hi.fn f hfm
              have n3 := hfi.code.len
              have n4 := hfi.hs.len
              have n5 := hfi.vars.len
              have aC := hfi.code.addr
              have aH := hfi.hs.addr
              have aV := hfi.vars.addr
              rw [List.length_map] at n3 n4 n5
              rw [n3] at aC
              rw [n4] at aH
              rw [n5] at aV
              have hxr : Row wr m.funcsS.b (m.funcsS.o + k * 6) f.vals := (hrow0 k f hx).below hb (Nat.le_of_eq hX)
              have e0 : wr.cell? ⟨m.funcsS.b, m.funcsS.o + k * 6, none⟩ = some (.string f.name) := hxr 0 _ rfl
              have e1 : wr.cell? ⟨m.funcsS.b, m.funcsS.o + k * 6 + 1, none⟩ = some (.int .i64 f.params) := hxr 1 _ rfl
              have e2 : wr.cell? ⟨m.funcsS.b, m.funcsS.o + k * 6 + 2, none⟩ = some (.int .i64 f.slots) := hxr 2 _ rfl
              have e3 : wr.cell? ⟨m.funcsS.b, m.funcsS.o + k * 6 + 3, none⟩ = some (.slice f.codeS.oa f.codeS.n f.codeS.c) := hxr 3 _ rfl
              have e4 : wr.cell? ⟨m.funcsS.b, m.funcsS.o + k * 6 + 4, none⟩ = some (.slice f.hsS.oa f.hsS.n f.hsS.c) := hxr 4 _ rfl
              have e5 : wr.cell? ⟨m.funcsS.b, m.funcsS.o + k * 6 + 5, none⟩ = some (.slice f.varsS.oa f.varsS.n f.varsS.c) := hxr 5 _ rfl
              obtain ⟨oaC, hoC⟩ : ∃ oa, f.codeS.oa = oa := ⟨_, rfl⟩
              obtain ⟨oaH, hoH⟩ : ∃ oa, f.hsS.oa = oa := ⟨_, rfl⟩
              obtain ⟨oaV, hoV⟩ : ∃ oa, f.varsS.oa = oa := ⟨_, rfl⟩
              rw [n3, hoC] at e3
              rw [n4, hoH] at e4
              rw [n5, hoV] at e5
              rw [hoC] at aC
              rw [hoH] at aH
              rw [hoV] at aV
              have hrC := fun (j : Nat) (y : I3) (hy : f.code[j]? = some y) => hfi.code.row j y.vals (by rw [List.getElem?_map, hy]; rfl)
              have hrH := fun (j : Nat) (y : H3) (hy : f.hs[j]? = some y) => hfi.hs.row j y.vals (by rw [List.getElem?_map, hy]; rfl)
              have hrV := fun (j : Nat) (y : Vr) (hy : f.vars[j]? = some y) => hfi.vars.row j y.vals (by rw [List.getElem?_map, hy]; rfl)
              have hsz := b3 f hfm
              unfold fSize at hsz
              clear hxr n3 n4 n5 hoC hoH hoV hfi
              go_wp2
              have hE1 := (Below.heap_alloc (wr.alloc (.cells #[.string f.name, .int .i64 f.params, .int .i64 f.slots, .slice oaC f.code.length f.codeS.c, .slice oaH f.hs.length f.hsS.c, .slice oaV f.vars.length f.varsS.c] 112)) (.cells #[.string f.name, .int .i64 f.params, .int .i64 f.slots, .slice none 0 0, .slice none 0 0, .slice none 0 0] 130) wr.heap.size (by simp)).trans (heap_alloc_new wr (.cells #[.string f.name, .int .i64 f.params, .int .i64 f.slots, .slice oaC f.code.length f.codeS.c, .slice oaH f.hs.length f.hsS.c, .slice oaV f.vars.length f.varsS.c] 112))
              have hG1 := heap_alloc_new (wr.alloc (.cells #[.string f.name, .int .i64 f.params, .int .i64 f.slots, .slice oaC f.code.length f.codeS.c, .slice oaH f.hs.length f.hsS.c, .slice oaV f.vars.length f.varsS.c] 112)) (.cells #[.string f.name, .int .i64 f.params, .int .i64 f.slots, .slice none 0 0, .slice none 0 0, .slice none 0 0] 130)
              have hbel : Below wr.heap.size wr ((wr.alloc (.cells #[.string f.name, .int .i64 f.params, .int .i64 f.slots, .slice oaC f.code.length f.codeS.c, .slice oaH f.hs.length f.hsS.c, .slice oaV f.vars.length f.varsS.c] 112)).alloc (.cells #[.string f.name, .int .i64 f.params, .int .i64 f.slots, .slice none 0 0, .slice none 0 0, .slice none 0 0] 130)) := below_alloc (below_alloc (Below.refl _ _) _ (Nat.le_refl _)) _ (Nat.le_refl _)
              rw [show (wr.alloc (.cells #[.string f.name, .int .i64 f.params, .int .i64 f.slots, .slice oaC f.code.length f.codeS.c, .slice oaH f.hs.length f.hsS.c, .slice oaV f.vars.length f.varsS.c] 112)).heap.size = wr.heap.size + 1 by simp] at hG1
              have hs7 : ((wr.alloc (.cells #[.string f.name, .int .i64 f.params, .int .i64 f.slots, .slice oaC f.code.length f.codeS.c, .slice oaH f.hs.length f.hsS.c, .slice oaV f.vars.length f.varsS.c] 112)).alloc (.cells #[.string f.name, .int .i64 f.params, .int .i64 f.slots, .slice none 0 0, .slice none 0 0, .slice none 0 0] 130)).heap.size = wr.heap.size + 2 := by simp
              generalize ((wr.alloc (.cells #[.string f.name, .int .i64 f.params, .int .i64 f.slots, .slice oaC f.code.length f.codeS.c, .slice oaH f.hs.length f.hsS.c, .slice oaV f.vars.length f.varsS.c] 112)).alloc (.cells #[.string f.name, .int .i64 f.params, .int .i64 f.slots, .slice none 0 0, .slice none 0 0, .slice none 0 0] 130)) = w7 at *
              clear e0 e1 e2 e3 e4 e5 g0
              have hb7 : Below X w w7 := hb.trans (hbel.mono (Nat.le_of_lt hXl))
              obtain ⟨wo, rfl⟩ : ∃ wo : World, wo = wr := ⟨_, rfl⟩
              generalize hE : wo.heap.size = E at *
              go_loopw [11] (fun s11 wr => ∃ (j : Nat) (vI : Value), j ≤ f.code.length ∧ s11 = .int .i64 (j : Int) ∧ wr.heap[E + 1]? = some (.cells #[.string f.name, .int .i64 f.params, .int .i64 f.slots, vI, .slice none 0 0, .slice none 0 0] 130 (0, 0)) ∧ OR wr (E + 2) 135 3 vI ((f.code.take j).map I3.vals) ∧ Below (E + 1) w7 wr) (fun s11 _ => f.code.length - (intOf s11).toNat)
              case atStart => exact ⟨0, _, Nat.zero_le _, rfl, hG1, OR.nil _ _ _ _, Below.refl _ _⟩
              case round =>
                obtain ⟨j, vI, hj, rfl, hGr, hORI, hbr⟩ := hrel
                have hbw : Below X w wr := hb7.trans (hbr.mono (by omega))
                have hEr := (hbr.block E (Nat.lt_succ_self E)).trans hE1
                have k3 : wr.cell? ⟨E, 3, none⟩ = some (.slice oaC f.code.length f.codeS.c) := Lib.cell_of_block hEr rfl
                have hGl := lt_of_block hGr
                by_cases hjn : j < f.code.length
                · obtain ⟨y, hy⟩ : ∃ y, f.code[j]? = some y := ⟨_, List.getElem?_eq_getElem hjn⟩
                  have hjd : decide ((j : Int) < (f.code.length : Int)) = true := by simp; omega
                  have hoy := aC (by omega)
                  subst hoy
                  have hyr : Row wr f.codeS.b (f.codeS.o + j * 3) y.vals := (hrC j y hy).below hbw (Nat.le_of_eq hX)
                  have e0 : wr.cell? ⟨f.codeS.b, f.codeS.o + j * 3, none⟩ = some (.int .i64 y.op) := hyr 0 _ rfl
                  have e1 : wr.cell? ⟨f.codeS.b, f.codeS.o + j * 3 + 1, none⟩ = some (.int .i64 y.a) := hyr 1 _ rfl
                  have e2 : wr.cell? ⟨f.codeS.b, f.codeS.o + j * 3 + 2, none⟩ = some (.int .i64 y.b) := hyr 2 _ rfl
                  have hcb : f.codeS.b < X := by rw [← hX]; exact World.block_lt_of_cell? w _ (hrC j y hy 0 _ rfl)
                  have hlen : ((f.code.take j).map I3.vals).length = j := by simp; omega
                  have hOR' : wr.ownsRow (E + 2) 135 3 vI j ((f.code.take j).map I3.vals).flatten := by
                    have h := hORI
                    unfold OR at h
                    rw [hlen] at h
                    exact h
                  have hv : ∀ t, t < E + 2 → some t ≠ vI.ownBlock := by
                    intro t ht h
                    have := (own_base hOR' h.symm).1
                    omega
                  have hvG := hv (E + 1) (by omega)
                  have hvE := hv E (by omega)
                  have hvC := hv f.codeS.b (by omega)
                  have p1 : wr.cell? ⟨E + 1, 3, none⟩ = some vI := Lib.cell_of_block hGr rfl
                  have kc1 : ∀ ob, ((wr.alloc ob).drew).cell? ⟨E + 1, 3, none⟩ = some vI := fun ob => alloc_cell p1 ob
                  have kc2 : ∀ ob, ((wr.alloc ob).drew).cell? ⟨E, 3, none⟩ = some (.slice (some ⟨f.codeS.b, f.codeS.o, none⟩) f.code.length f.codeS.c) := fun ob => alloc_cell k3 ob
                  have kc3 : ∀ ob, ((wr.alloc ob).drew).cell? ⟨f.codeS.b, f.codeS.o + j * 3, none⟩ = some (.int .i64 y.op) := fun ob => alloc_cell e0 ob
                  have kc4 : ∀ ob, ((wr.alloc ob).drew).cell? ⟨f.codeS.b, f.codeS.o + j * 3 + 1, none⟩ = some (.int .i64 y.a) := fun ob => alloc_cell e1 ob
                  have kc5 : ∀ ob, ((wr.alloc ob).drew).cell? ⟨f.codeS.b, f.codeS.o + j * 3 + 2, none⟩ = some (.int .i64 y.b) := fun ob => alloc_cell e2 ob
                  have hfz : ∀ ob, ((wr.alloc ob).drew).frozen? ⟨E + 1, 3, none⟩ = false := by
                    intro ob
                    have h : (wr.alloc ob).heap[E + 1]? = _ := (Below.heap_alloc wr ob (E + 1) hGl).trans hGr
                    simp [World.frozen?, World.drew, h]
                  have hGE : E + 1 ≠ E := by omega
                  have hGC : E + 1 ≠ f.codeS.b := by omega
                  have hCG : f.codeS.b ≠ E + 1 := by omega
                  have hml : j + 1 ≤ maxLen := by unfold maxLen; omega
                  have hEl : E < wr.heap.size := by omega
                  have hCl : f.codeS.b < wr.heap.size := by omega
                  have i1 : (0 : Int) ≤ (j : Int) := by omega
                  have i2 : (j : Int) < (f.code.length : Int) := by omega
                  clear hyr hrow0 hE1 hG1 hEr
                  go_wp2
                  refine RegT.begin (S := fun wz => wz.cell? ⟨E + 1, 3, none⟩ = some vI ∧ wz.cell? ⟨E, 3, none⟩ = some (.slice (some ⟨f.codeS.b, f.codeS.o, none⟩) f.code.length f.codeS.c) ∧ wz.cell? ⟨f.codeS.b, f.codeS.o + j * 3, none⟩ = some (.int .i64 y.op) ∧ wz.cell? ⟨f.codeS.b, f.codeS.o + j * 3 + 1, none⟩ = some (.int .i64 y.a) ∧ wz.cell? ⟨f.codeS.b, f.codeS.o + j * 3 + 2, none⟩ = some (.int .i64 y.b)) (L := 24) (by kernel_rfl) ?_ (fun hHeld => ?_)
                  · (try dsimp only); go_keep
                  refine RegT.take (i := 0) (v := ?_) rfl (by kernel_rfl) (by kernel_rfl) (by kernel_rfl) (by kernel_rfl) (fun _ _ _ h => h) (Or.inl ⟨by rfl, ?_⟩) (by assumption) ?_
                  rotate_left
                  · intro w hSw; (try dsimp only at hSw); go_simp; first | done | with_reducible rfl
                  try simp only [Act.put, List.setIfInBounds_toArray, List.set_cons_zero, List.set_cons_succ]
                  refine RegT.take (i := 1) (v := ?_) rfl (by kernel_rfl) (by kernel_rfl) (by kernel_rfl) (by kernel_rfl) (fun _ _ _ h => h) (Or.inl ⟨by rfl, ?_⟩) (by assumption) ?_
                  rotate_left
                  · intro w hSw; (try dsimp only at hSw); go_simp; first | done | with_reducible rfl
                  try simp only [Act.put, List.setIfInBounds_toArray, List.set_cons_zero, List.set_cons_succ]
                  refine RegT.take (i := 2) (v := ?_) rfl (by kernel_rfl) (by kernel_rfl) (by kernel_rfl) (by kernel_rfl) (fun _ _ _ h => h) (Or.inl ⟨by rfl, ?_⟩) (by assumption) ?_
                  rotate_left
                  · intro w hSw; (try dsimp only at hSw); go_simp; first | done | with_reducible rfl
                  try simp only [Act.put, List.setIfInBounds_toArray, List.set_cons_zero, List.set_cons_succ]
                  refine RegT.take (i := 3) (v := ?_) rfl (by kernel_rfl) (by kernel_rfl) (by kernel_rfl) (by kernel_rfl) (fun _ _ _ h => h) (Or.inl ⟨by rfl, ?_⟩) (by assumption) ?_
                  rotate_left
                  · intro w hSw; (try dsimp only at hSw); go_simp; first | done | with_reducible rfl
                  try simp only [Act.put, List.setIfInBounds_toArray, List.set_cons_zero, List.set_cons_succ]
                  refine RegT.take (i := 4) (v := ?_) rfl (by kernel_rfl) (by kernel_rfl) (by kernel_rfl) (by kernel_rfl) (fun _ _ _ h => h) (Or.inl ⟨by rfl, ?_⟩) (by assumption) ?_
                  rotate_left
                  · intro w hSw; (try dsimp only at hSw); go_simp; first | done | with_reducible rfl
                  try simp only [Act.put, List.setIfInBounds_toArray, List.set_cons_zero, List.set_cons_succ]
                  refine RegT.take (i := 5) (v := ?_) rfl (by kernel_rfl) (by kernel_rfl) (by kernel_rfl) (by kernel_rfl) (fun _ _ _ h => h) (Or.inl ⟨by rfl, ?_⟩) (by assumption) ?_
                  rotate_left
                  · intro w hSw; (try dsimp only at hSw); go_simp; first | done | with_reducible rfl
                  try simp only [Act.put, List.setIfInBounds_toArray, List.set_cons_zero, List.set_cons_succ]
                  refine RegT.take (i := 6) (v := ?_) rfl (by kernel_rfl) (by kernel_rfl) (by kernel_rfl) (by kernel_rfl) (fun _ _ _ h => h) (Or.inl ⟨by rfl, ?_⟩) (by assumption) ?_
                  rotate_left
                  · intro w hSw; (try dsimp only at hSw); go_simp; first | done | with_reducible rfl
                  try simp only [Act.put, List.setIfInBounds_toArray, List.set_cons_zero, List.set_cons_succ]
                  refine RegT.take (i := 7) (v := ?_) rfl (by kernel_rfl) (by kernel_rfl) (by kernel_rfl) (by kernel_rfl) (fun _ _ _ h => h) (Or.inl ⟨by rfl, ?_⟩) (by assumption) ?_
                  rotate_left
                  · intro w hSw; (try dsimp only at hSw); go_simp; first | done | with_reducible rfl
                  try simp only [Act.put, List.setIfInBounds_toArray, List.set_cons_zero, List.set_cons_succ]
                  refine RegT.take (i := 8) (v := ?_) rfl (by kernel_rfl) (by kernel_rfl) (by kernel_rfl) (by kernel_rfl) (fun _ _ _ h => h) (Or.inl ⟨by rfl, ?_⟩) (by assumption) ?_
                  rotate_left
                  · intro w hSw; (try dsimp only at hSw); go_simp; first | done | with_reducible rfl
                  try simp only [Act.put, List.setIfInBounds_toArray, List.set_cons_zero, List.set_cons_succ]
                  refine RegT.take (i := 9) (v := ?_) rfl (by kernel_rfl) (by kernel_rfl) (by kernel_rfl) (by kernel_rfl) (fun _ _ _ h => h) (Or.inl ⟨by rfl, ?_⟩) (by assumption) ?_
                  rotate_left
                  · intro w hSw; (try dsimp only at hSw); go_simp; first | done | with_reducible rfl
                  try simp only [Act.put, List.setIfInBounds_toArray, List.set_cons_zero, List.set_cons_succ]
                  refine RegT.take (i := 10) (v := ?_) rfl (by kernel_rfl) (by kernel_rfl) (by kernel_rfl) (by kernel_rfl) (fun _ _ _ h => h) (Or.inl ⟨by rfl, ?_⟩) (by assumption) ?_
                  rotate_left
                  · intro w hSw; (try dsimp only at hSw); go_simp; first | done | with_reducible rfl
                  try simp only [Act.put, List.setIfInBounds_toArray, List.set_cons_zero, List.set_cons_succ]
                  refine RegT.take (i := 11) (v := ?_) rfl (by kernel_rfl) (by kernel_rfl) (by kernel_rfl) (by kernel_rfl) (fun _ _ _ h => h) (Or.inl ⟨by rfl, ?_⟩) (by assumption) ?_
                  rotate_left
                  · intro w hSw; (try dsimp only at hSw); go_simp; first | done | with_reducible rfl
                  try simp only [Act.put, List.setIfInBounds_toArray, List.set_cons_zero, List.set_cons_succ]
                  refine RegT.take (i := 12) (v := ?_) rfl (by kernel_rfl) (by kernel_rfl) (by kernel_rfl) (by kernel_rfl) (fun _ _ _ h => h) (Or.inl ⟨by rfl, ?_⟩) (by assumption) ?_
                  rotate_left
                  · intro w hSw; (try dsimp only at hSw); go_simp; first | done | with_reducible rfl
                  try simp only [Act.put, List.setIfInBounds_toArray, List.set_cons_zero, List.set_cons_succ]
                  refine RegT.take (i := 13) (v := ?_) rfl (by kernel_rfl) (by kernel_rfl) (by kernel_rfl) (by kernel_rfl) (fun _ _ _ h => h) (Or.inl ⟨by rfl, ?_⟩) (by assumption) ?_
                  rotate_left
                  · intro w hSw; (try dsimp only at hSw); go_simp; first | done | with_reducible rfl
                  try simp only [Act.put, List.setIfInBounds_toArray, List.set_cons_zero, List.set_cons_succ]
                  refine RegT.take (i := 14) (v := ?_) rfl (by kernel_rfl) (by kernel_rfl) (by kernel_rfl) (by kernel_rfl) (fun _ _ _ h => h) (Or.inl ⟨by rfl, ?_⟩) (by assumption) ?_
                  rotate_left
                  · intro w hSw; (try dsimp only at hSw); go_simp; first | done | with_reducible rfl
                  try simp only [Act.put, List.setIfInBounds_toArray, List.set_cons_zero, List.set_cons_succ]
                  refine RegT.take (i := 15) (v := ?_) rfl (by kernel_rfl) (by kernel_rfl) (by kernel_rfl) (by kernel_rfl) (fun _ _ _ h => h) (Or.inl ⟨by rfl, ?_⟩) (by assumption) ?_
                  rotate_left
                  · intro w hSw; (try dsimp only at hSw); go_simp; first | done | with_reducible rfl
                  try simp only [Act.put, List.setIfInBounds_toArray, List.set_cons_zero, List.set_cons_succ]
                  refine RegT.take (i := 16) (v := ?_) rfl (by kernel_rfl) (by kernel_rfl) (by kernel_rfl) (by kernel_rfl) (fun _ _ _ h => h) (Or.inl ⟨by rfl, ?_⟩) (by assumption) ?_
                  rotate_left
                  · intro w hSw; (try dsimp only at hSw); go_simp; first | done | with_reducible rfl
                  try simp only [Act.put, List.setIfInBounds_toArray, List.set_cons_zero, List.set_cons_succ]
                  refine RegT.take (i := 17) (v := ?_) rfl (by kernel_rfl) (by kernel_rfl) (by kernel_rfl) (by kernel_rfl) (fun _ _ _ h => h) (Or.inl ⟨by rfl, ?_⟩) (by assumption) ?_
                  rotate_left
                  · intro w hSw; (try dsimp only at hSw); go_simp; first | done | with_reducible rfl
                  try simp only [Act.put, List.setIfInBounds_toArray, List.set_cons_zero, List.set_cons_succ]
                  refine RegT.take (i := 18) (v := ?_) rfl (by kernel_rfl) (by kernel_rfl) (by kernel_rfl) (by kernel_rfl) (fun _ _ _ h => h) (Or.inl ⟨by rfl, ?_⟩) (by assumption) ?_
                  rotate_left
                  · intro w hSw; (try dsimp only at hSw); go_simp; first | done | with_reducible rfl
                  try simp only [Act.put, List.setIfInBounds_toArray, List.set_cons_zero, List.set_cons_succ]
                  refine RegT.take (i := 19) (v := ?_) rfl (by kernel_rfl) (by kernel_rfl) (by kernel_rfl) (by kernel_rfl) (fun _ _ _ h => h) (Or.inl ⟨by rfl, ?_⟩) (by assumption) ?_
                  rotate_left
                  · intro w hSw; (try dsimp only at hSw); go_simp; first | done | with_reducible rfl
                  try simp only [Act.put, List.setIfInBounds_toArray, List.set_cons_zero, List.set_cons_succ]
                  refine RegT.take (i := 20) (v := ?_) rfl (by kernel_rfl) (by kernel_rfl) (by kernel_rfl) (by kernel_rfl) (fun _ _ _ h => h) (Or.inl ⟨by rfl, ?_⟩) (by assumption) ?_
                  rotate_left
                  · intro w hSw; (try dsimp only at hSw); go_simp; first | done | with_reducible rfl
                  try simp only [Act.put, List.setIfInBounds_toArray, List.set_cons_zero, List.set_cons_succ]
                  refine RegT.one (i := 21) (by kernel_rfl) rfl (fun K hK => ?_)
                  go_simp
                  refine hK.out _ _ ?_ (fun hHeld => ?_)
                  · (try dsimp only); go_keep
                  clear hK K
                  try simp only [Act.put, List.setIfInBounds_toArray, List.set_cons_zero, List.set_cons_succ]
                  refine RegT.one (i := 22) (by kernel_rfl) rfl (fun K hK => ?_)
                  (refine step_append_lies _ (by rfl) _ _ _ (by rfl) (E + 2) 135 iI _ 3 24 Tryd.underlying126 hiI hzI0 hzI1 hzI2 rfl (by omega) vI j ((f.code.take j).map I3.vals).flatten (by rfl) ((hOR'.alloc _).drew) ⟨wr.heap.size, 0, none⟩ 1 1 [.int .i64 y.op, .int .i64 y.a, .int .i64 y.b] (by rfl) (by rfl) (World.news_of_block (cs := #[.int .i64 y.op, .int .i64 y.a, .int .i64 y.b]) (t := 135) (fr := (0, 0)) (heap_alloc_new wr _)) (by simp [Value.oneCell']) (by omega) hml (by omega) (by simp; omega) (wr.heap.size + 1) (by simp) ?_; intro gg cap w6 hown1 hgrow hat hlt; have q2 : w6.frozen? ⟨E + 1, 3, none⟩ = false := (hgrow.frozen_far ⟨E + 1, 3, none⟩ (by simp; omega) hvG).trans (hfz _); have q1 : w6.cell? ⟨E + 1, 3, none⟩ = some vI := (hgrow.cell_far ⟨E + 1, 3, none⟩ (by simp; omega) hvG).trans (kc1 _); have q3 : w6.cell? ⟨E, 3, none⟩ = some (.slice (some ⟨f.codeS.b, f.codeS.o, none⟩) f.code.length f.codeS.c) := (hgrow.cell_far ⟨E, 3, none⟩ (by simp; omega) hvE).trans (kc2 _); have q4 : w6.cell? ⟨f.codeS.b, f.codeS.o + j * 3, none⟩ = some (.int .i64 y.op) := (hgrow.cell_far ⟨f.codeS.b, f.codeS.o + j * 3, none⟩ (by simp; omega) hvC).trans (kc3 _); have q5 : w6.cell? ⟨f.codeS.b, f.codeS.o + j * 3 + 1, none⟩ = some (.int .i64 y.a) := (hgrow.cell_far ⟨f.codeS.b, f.codeS.o + j * 3 + 1, none⟩ (by simp; omega) hvC).trans (kc4 _); have q6 : w6.cell? ⟨f.codeS.b, f.codeS.o + j * 3 + 2, none⟩ = some (.int .i64 y.b) := (hgrow.cell_far ⟨f.codeS.b, f.codeS.o + j * 3 + 2, none⟩ (by simp; omega) hvC).trans (kc5 _))
                  refine hK.out _ _ ⟨q1, q3, q4, q5, q6⟩ (fun hHeld => ?_)
                  clear hK K
                  try simp only [Act.put, List.setIfInBounds_toArray, List.set_cons_zero, List.set_cons_succ]
                  refine RegT.one (i := 23) (by kernel_rfl) rfl (fun K hK => ?_)
                  go_simp
                  refine hK.out _ _ (by assumption) (fun hHeld => ?_)
                  clear hK K
                  try simp only [Act.put, List.setIfInBounds_toArray, List.set_cons_zero, List.set_cons_succ]
                  refine RegT.last (by kernel_rfl) rfl (by kernel_rfl) (fun K hK => ?_)
                  go_simp
                  refine hK.out _ _ ?_
                  clear hK K
                  try simp only [Act.put, List.setIfInBounds_toArray, List.set_cons_zero, List.set_cons_succ]
                  all_goals
                    go_wp2
                    go_roundw
                    case rel =>
                      have hG6 := (hgrow.block (E + 1) (by simp; omega) hvG).trans ((Below.heap_alloc wr _ (E + 1) hGl).trans hGr)
                      refine ⟨j + 1, .slice (some ⟨gg, 0, none⟩) (j + 1) cap, by omega, by simp, by simpa using img_set (i := 3) (v := .slice (some ⟨gg, 0, none⟩) (j + 1) cap) hG6, ?_, ?_⟩
                      · rw [take_map_succ I3.vals hy]
                        exact OR_step hown1 hlen (by omega)
                      · refine Below.setCell ?_ (Nat.le_refl (E + 1)) _
                        refine hbr.trans ⟨hgrow.os, hgrow.tape, hgrow.output, by have := hgrow.size; simp at this; omega, fun t ht => ?_⟩
                        exact (hgrow.block t (by simp; omega) (hv t (by omega))).trans (Below.heap_alloc wr _ t (by omega))
                    case measure => simp [intOf]; omega
                · obtain rfl : j = f.code.length := by omega
                  have hjd : decide ((f.code.length : Int) < (f.code.length : Int)) = false := by simp
                  rw [List.take_length] at hORI
                  have hGs := hGr
                  have hOC0 := hORI
                  have hbs := hbr
                  have kk : wr.cell? ⟨E, 4, none⟩ = some (.slice oaH f.hs.length f.hsS.c) := Lib.cell_of_block hEr rfl
                  clear hGr hORI hbr hGl hrC aC hEr
                  go_wp2
                  clear kk k3
                  go_loopw [12] (fun s wr => ∃ (j : Nat) (vI vH : Value), j ≤ f.hs.length ∧ s = .int .i64 (j : Int) ∧ wr.heap[E + 1]? = some (.cells #[.string f.name, .int .i64 f.params, .int .i64 f.slots, vI, vH, .slice none 0 0] 130 (0, 0)) ∧ OR wr (E + 2) 135 3 vI (f.code.map I3.vals) ∧ OR wr (E + 2) 138 3 vH ((f.hs.take j).map H3.vals) ∧ Below (E + 1) w7 wr) (fun s _ => f.hs.length - (intOf s).toNat)
                  case atStart => exact ⟨0, _, _, Nat.zero_le _, rfl, hGs, hOC0, OR.nil _ _ _ _, hbs⟩
                  case round =>
                    clear hGs hbs hOC0
                    obtain ⟨j, vI, vH, hj, rfl, hGr, hOP0, hORI, hbr⟩ := hrel
                    have hbw : Below X w wr := hb7.trans (hbr.mono (by omega))
                    have hEr := (hbr.block E (Nat.lt_succ_self E)).trans hE1
                    have k3 : wr.cell? ⟨E, 4, none⟩ = some (.slice oaH f.hs.length f.hsS.c) := Lib.cell_of_block hEr rfl
                    have hGl := lt_of_block hGr
                    by_cases hjn : j < f.hs.length
                    · obtain ⟨y, hy⟩ : ∃ y, f.hs[j]? = some y := ⟨_, List.getElem?_eq_getElem hjn⟩
                      have hjd : decide ((j : Int) < (f.hs.length : Int)) = true := by simp; omega
                      have hoy := aH (by omega)
                      subst hoy
                      have hyr : Row wr f.hsS.b (f.hsS.o + j * 3) y.vals := (hrH j y hy).below hbw (Nat.le_of_eq hX)
                      have e0 : wr.cell? ⟨f.hsS.b, f.hsS.o + j * 3, none⟩ = some (.int .i64 y.f) := hyr 0 _ rfl
                      have e1 : wr.cell? ⟨f.hsS.b, f.hsS.o + j * 3 + 1, none⟩ = some (.int .i64 y.t) := hyr 1 _ rfl
                      have e2 : wr.cell? ⟨f.hsS.b, f.hsS.o + j * 3 + 2, none⟩ = some (.int .i64 y.g) := hyr 2 _ rfl
                      have hlen : ((f.hs.take j).map H3.vals).length = j := by simp; omega
                      have hOR' : wr.ownsRow (E + 2) 138 3 vH j ((f.hs.take j).map H3.vals).flatten := by
                        have h := hORI
                        unfold OR at h
                        rw [hlen] at h
                        exact h
                      have hv : ∀ t, t < E + 2 → some t ≠ vH.ownBlock := by
                        intro t ht h
                        have := (own_base hOR' h.symm).1
                        omega
                      have hvG := hv (E + 1) (by omega)
                      have p1 := alloc_cell (Lib.cell_of_block hGr (i := 4) rfl)
                      have hnew2 : ∀ o1 o2, ((wr.alloc o1).alloc o2).heap[wr.heap.size + 1]? = some o2 := by
                        intro o1 o2
                        have := heap_alloc_new (wr.alloc o1) o2
                        simpa using this
                      have hGk : ∀ o1 o2, ((wr.alloc o1).alloc o2).heap[E + 1]? = wr.heap[E + 1]? := fun o1 o2 => (Below.heap_alloc _ _ _ (by simp; omega)).trans (Below.heap_alloc _ _ _ hGl)
                      have hml : j + 1 ≤ maxLen := by unfold maxLen; omega
                      have i1 : (0 : Int) ≤ (j : Int) := by omega
                      have i2 : (j : Int) < (f.hs.length : Int) := by omega
                      clear hyr hrow0 hE1 hG1 hEr
                      go_wp2_with (at_builtin; refine wpList_append_own _ rfl _ _ 127 rfl (E + 2) 138 iH _ 3 24 Tryd.underlying127 hiH hzH0 hzH1 hzH2 rfl (by decide) _ _ _ rfl ((hOR'.alloc _).alloc _) ⟨wr.heap.size + 1, 0, none⟩ 1 1 [.int .i64 y.f, .int .i64 y.t, .int .i64 y.g] rfl rfl (World.news_of_block (cs := #[.int .i64 y.f, .int .i64 y.t, .int .i64 y.g]) (t := 138) (fr := (0, 0)) (hnew2 _ _)) (by simp [Value.oneCell']) hml (by omega) (by simp; omega) ?_; intro v' w6 hown1 hgrow _; obtain ⟨gg, cap, rfl⟩ := own_form hown1; have hG6 := (hgrow.block (E + 1) (by simp; omega) hvG).trans ((hGk _ _).trans hGr); have q1 := Lib.cell_of_block hG6 (i := 4) rfl; have q2 : w6.frozen? ⟨E + 1, 4, none⟩ = false := (by simp [World.frozen?, hG6]))
                      go_roundw
                      case rel =>
                        refine ⟨j + 1, vI, .slice (some ⟨gg, 0, none⟩) (j + 1) cap, by omega, by simp, by simpa using img_set (i := 4) (v := .slice (some ⟨gg, 0, none⟩) (j + 1) cap) hG6, ?_, ?_, ?_⟩
                        · have hjb := fun t (ht : vI.ownBlock = some t) => own_base hOP0 ht
                          refine OR.keep (w := wr) hOP0 (fun t ht => ?_)
                          exact (block_setCell_ne (by have := (hjb t ht).1; simp only; omega)).trans ((hgrow.block t (by have := (hjb t ht).2; simp; omega) (fun h => own_apart hOP0 hOR' (by decide) ht h.symm)).trans ((Below.heap_alloc _ _ t (by have := (hjb t ht).2; simp; omega)).trans (Below.heap_alloc wr _ t (hjb t ht).2)))
                        · rw [take_map_succ H3.vals hy]
                          exact OR_step hown1 hlen (by omega)
                        · refine Below.setCell ?_ (Nat.le_refl (E + 1)) _
                          refine hbr.trans ⟨hgrow.os, hgrow.tape, hgrow.output, by have := hgrow.size; simp at this; omega, fun t ht => ?_⟩
                          exact (hgrow.block t (by simp; omega) (hv t (by omega))).trans ((Below.heap_alloc _ _ t (by simp; omega)).trans (Below.heap_alloc wr _ t (by omega)))
                      case measure => simp [intOf]; omega
                    · obtain rfl : j = f.hs.length := by omega
                      have hjd : decide ((f.hs.length : Int) < (f.hs.length : Int)) = false := by simp
                      rw [List.take_length] at hORI
                      have hGs := hGr
                      have hOC0 := hOP0
                      have hOH0 := hORI
                      have hbs := hbr
                      have kk : wr.cell? ⟨E, 5, none⟩ = some (.slice oaV f.vars.length f.varsS.c) := Lib.cell_of_block hEr rfl
                      clear hGr hOP0 hORI hbr hGl hrH aH hEr
                      go_wp2
                      clear kk k3
                      go_loopw [14] (fun s wr => ∃ (j : Nat) (vI vH vV : Value), j ≤ f.vars.length ∧ s = .int .i64 (j : Int) ∧ wr.heap[E + 1]? = some (.cells #[.string f.name, .int .i64 f.params, .int .i64 f.slots, vI, vH, vV] 130 (0, 0)) ∧ OR wr (E + 2) 135 3 vI (f.code.map I3.vals) ∧ OR wr (E + 2) 138 3 vH (f.hs.map H3.vals) ∧ OR wr (E + 2) 141 5 vV ((f.vars.take j).map Vr.vals) ∧ Below (E + 1) w7 wr) (fun s _ => f.vars.length - (intOf s).toNat)
                      case atStart => exact ⟨0, _, _, _, Nat.zero_le _, rfl, hGs, hOC0, hOH0, OR.nil _ _ _ _, hbs⟩
                      case round =>
                        clear hGs hbs hOC0 hOH0
                        obtain ⟨j, vI, vH, vV, hj, rfl, hGr, hOP0, hOP1, hORI, hbr⟩ := hrel
                        have hbw : Below X w wr := hb7.trans (hbr.mono (by omega))
                        have hEr := (hbr.block E (Nat.lt_succ_self E)).trans hE1
                        have k3 : wr.cell? ⟨E, 5, none⟩ = some (.slice oaV f.vars.length f.varsS.c) := Lib.cell_of_block hEr rfl
                        have hGl := lt_of_block hGr
                        by_cases hjn : j < f.vars.length
                        · obtain ⟨y, hy⟩ : ∃ y, f.vars[j]? = some y := ⟨_, List.getElem?_eq_getElem hjn⟩
                          have hjd : decide ((j : Int) < (f.vars.length : Int)) = true := by simp; omega
                          have hoy := aV (by omega)
                          subst hoy
                          have hyr : Row wr f.varsS.b (f.varsS.o + j * 5) y.vals := (hrV j y hy).below hbw (Nat.le_of_eq hX)
                          have e0 : wr.cell? ⟨f.varsS.b, f.varsS.o + j * 5, none⟩ = some (.string y.name) := hyr 0 _ rfl
                          have e1 : wr.cell? ⟨f.varsS.b, f.varsS.o + j * 5 + 1, none⟩ = some (.int .i64 y.slot) := hyr 1 _ rfl
                          have e2 : wr.cell? ⟨f.varsS.b, f.varsS.o + j * 5 + 2, none⟩ = some (.int .i64 y.f) := hyr 2 _ rfl
                          have e3 : wr.cell? ⟨f.varsS.b, f.varsS.o + j * 5 + 3, none⟩ = some (.int .i64 y.t) := hyr 3 _ rfl
                          have e4 : wr.cell? ⟨f.varsS.b, f.varsS.o + j * 5 + 4, none⟩ = some (.bool y.boxed) := hyr 4 _ rfl
                          have hlen : ((f.vars.take j).map Vr.vals).length = j := by simp; omega
                          have hOR' : wr.ownsRow (E + 2) 141 5 vV j ((f.vars.take j).map Vr.vals).flatten := by
                            have h := hORI
                            unfold OR at h
                            rw [hlen] at h
                            exact h
                          have hv : ∀ t, t < E + 2 → some t ≠ vV.ownBlock := by
                            intro t ht h
                            have := (own_base hOR' h.symm).1
                            omega
                          have hvG := hv (E + 1) (by omega)
                          have p1 := alloc_cell (Lib.cell_of_block hGr (i := 5) rfl)
                          have hnew2 : ∀ o1 o2, ((wr.alloc o1).alloc o2).heap[wr.heap.size + 1]? = some o2 := by
                            intro o1 o2
                            have := heap_alloc_new (wr.alloc o1) o2
                            simpa using this
                          have hGk : ∀ o1 o2, ((wr.alloc o1).alloc o2).heap[E + 1]? = wr.heap[E + 1]? := fun o1 o2 => (Below.heap_alloc _ _ _ (by simp; omega)).trans (Below.heap_alloc _ _ _ hGl)
                          have hml : j + 1 ≤ maxLen := by unfold maxLen; omega
                          have i1 : (0 : Int) ≤ (j : Int) := by omega
                          have i2 : (j : Int) < (f.vars.length : Int) := by omega
                          clear hyr hrow0 hE1 hG1 hEr
                          go_wp2_with (at_builtin; refine wpList_append_own _ rfl _ _ 128 rfl (E + 2) 141 iS _ 5 48 Tryd.underlying128 hiS hzS0 hzS1 hzS2 rfl (by decide) _ _ _ rfl ((hOR'.alloc _).alloc _) ⟨wr.heap.size + 1, 0, none⟩ 1 1 [.string y.name, .int .i64 y.slot, .int .i64 y.f, .int .i64 y.t, .bool y.boxed] rfl rfl (World.news_of_block (cs := #[.string y.name, .int .i64 y.slot, .int .i64 y.f, .int .i64 y.t, .bool y.boxed]) (t := 141) (fr := (0, 0)) (hnew2 _ _)) (by simp [Value.oneCell']) hml (by omega) (by simp; omega) ?_; intro v' w6 hown1 hgrow _; obtain ⟨gg, cap, rfl⟩ := own_form hown1; have hG6 := (hgrow.block (E + 1) (by simp; omega) hvG).trans ((hGk _ _).trans hGr); have q1 := Lib.cell_of_block hG6 (i := 5) rfl; have q2 : w6.frozen? ⟨E + 1, 5, none⟩ = false := (by simp [World.frozen?, hG6]))
                          go_roundw
                          case rel =>
                            refine ⟨j + 1, vI, vH, .slice (some ⟨gg, 0, none⟩) (j + 1) cap, by omega, by simp, by simpa using img_set (i := 5) (v := .slice (some ⟨gg, 0, none⟩) (j + 1) cap) hG6, ?_, ?_, ?_, ?_⟩
                            · have hjb := fun t (ht : vI.ownBlock = some t) => own_base hOP0 ht
                              refine OR.keep (w := wr) hOP0 (fun t ht => ?_)
                              exact (block_setCell_ne (by have := (hjb t ht).1; simp only; omega)).trans ((hgrow.block t (by have := (hjb t ht).2; simp; omega) (fun h => own_apart hOP0 hOR' (by decide) ht h.symm)).trans ((Below.heap_alloc _ _ t (by have := (hjb t ht).2; simp; omega)).trans (Below.heap_alloc wr _ t (hjb t ht).2)))
                            · have hjb := fun t (ht : vH.ownBlock = some t) => own_base hOP1 ht
                              refine OR.keep (w := wr) hOP1 (fun t ht => ?_)
                              exact (block_setCell_ne (by have := (hjb t ht).1; simp only; omega)).trans ((hgrow.block t (by have := (hjb t ht).2; simp; omega) (fun h => own_apart hOP1 hOR' (by decide) ht h.symm)).trans ((Below.heap_alloc _ _ t (by have := (hjb t ht).2; simp; omega)).trans (Below.heap_alloc wr _ t (hjb t ht).2)))
                            · rw [take_map_succ Vr.vals hy]
                              exact OR_step hown1 hlen (by omega)
                            · refine Below.setCell ?_ (Nat.le_refl (E + 1)) _
                              refine hbr.trans ⟨hgrow.os, hgrow.tape, hgrow.output, by have := hgrow.size; simp at this; omega, fun t ht => ?_⟩
                              exact (hgrow.block t (by simp; omega) (hv t (by omega))).trans ((Below.heap_alloc _ _ t (by simp; omega)).trans (Below.heap_alloc wr _ t (by omega)))
                          case measure => simp [intOf]; omega
                        · obtain rfl : j = f.vars.length := by omega
                          have hjd : decide ((f.vars.length : Int) < (f.vars.length : Int)) = false := by simp
                          rw [List.take_length] at hORI
                          have hlow : ∀ t, t < E → wr.heap[t]? = wo.heap[t]? := fun t ht => (hbr.block t (by omega)).trans (hbel.block t ht)
                          have hbXr : wr.heap[X]? = some (.cells #[vF, vC, vK] 124 (0, 0)) := (hlow X hXl).trans hbX
                          have hkeep : ∀ (v : Value) (Ty z : Nat) (rows : List (List Value)), OR wo (X + 1) Ty z v rows → OR wr (X + 1) Ty z v rows := fun v Ty z rows h => h.keep (fun t ht => hlow t (by have := (own_base h ht).2; rw [hE] at this; exact this))
                          have rF := hkeep _ _ _ _ hORF
                          have rC := hkeep _ _ _ _ hORC
                          have rK := hkeep _ _ _ _ hORK
                          have hOwn' : ∀ g ∈ fs, OwnF wr g := fun g hg => (hOwn g hg).keep (fun t cur Ty _ ht => hlow t (by have := lt_of_block ht; rw [hE] at this; exact this))
                          have hfl : fs.length = k := by rw [← hA2.length]; simp; omega
                          have hrl : (fs.map Fc.vals).length = k := by simp [hfl]
                          have rF' : wr.ownsRow (X + 1) 130 6 vF k (fs.map Fc.vals).flatten := by
                            have h := rF
                            unfold OR at h
                            rw [hrl] at h
                            exact h
                          have hFl : ∀ t, some t = vF.ownBlock → X + 1 ≤ t ∧ t < E := by
                            intro t ht
                            have h := own_base hORF ht.symm
                            rw [hE] at h
                            exact h
                          have hvX : some X ≠ vF.ownBlock := fun h => by have := hFl X h; omega
                          have hvE : some (E + 1) ≠ vF.ownBlock := fun h => by have := hFl (E + 1) h; omega
                          have o1 := own_one hOP0
                          have o2 := own_one hOP1
                          have o3 := own_one hORI
                          have hXw : X < wr.heap.size := lt_of_block hbXr
                          have p1 : wr.cell? ⟨X, 0, none⟩ = some vF := Lib.cell_of_block hbXr rfl
                          have kc1 : ∀ ob, ((wr.alloc ob).drew).cell? ⟨X, 0, none⟩ = some vF := fun ob => alloc_cell p1 ob
                          have p2 : wr.cell? ⟨E + 1, 0, none⟩ = some (.string f.name) := Lib.cell_of_block hGr rfl
                          have kc2 : ∀ ob, ((wr.alloc ob).drew).cell? ⟨E + 1, 0, none⟩ = some (.string f.name) := fun ob => alloc_cell p2 ob
                          have p3 : wr.cell? ⟨E + 1, 1, none⟩ = some (.int .i64 f.params) := Lib.cell_of_block hGr rfl
                          have kc3 : ∀ ob, ((wr.alloc ob).drew).cell? ⟨E + 1, 1, none⟩ = some (.int .i64 f.params) := fun ob => alloc_cell p3 ob
                          have p4 : wr.cell? ⟨E + 1, 2, none⟩ = some (.int .i64 f.slots) := Lib.cell_of_block hGr rfl
                          have kc4 : ∀ ob, ((wr.alloc ob).drew).cell? ⟨E + 1, 2, none⟩ = some (.int .i64 f.slots) := fun ob => alloc_cell p4 ob
                          have p5 : wr.cell? ⟨E + 1, 3, none⟩ = some (vI) := Lib.cell_of_block hGr rfl
                          have kc5 : ∀ ob, ((wr.alloc ob).drew).cell? ⟨E + 1, 3, none⟩ = some (vI) := fun ob => alloc_cell p5 ob
                          have p6 : wr.cell? ⟨E + 1, 4, none⟩ = some (vH) := Lib.cell_of_block hGr rfl
                          have kc6 : ∀ ob, ((wr.alloc ob).drew).cell? ⟨E + 1, 4, none⟩ = some (vH) := fun ob => alloc_cell p6 ob
                          have p7 : wr.cell? ⟨E + 1, 5, none⟩ = some (vV) := Lib.cell_of_block hGr rfl
                          have kc7 : ∀ ob, ((wr.alloc ob).drew).cell? ⟨E + 1, 5, none⟩ = some (vV) := fun ob => alloc_cell p7 ob
                          have hfz : ∀ ob, ((wr.alloc ob).drew).frozen? ⟨X, 0, none⟩ = false := by
                            intro ob
                            have h : (wr.alloc ob).heap[X]? = _ := (Below.heap_alloc wr ob X hXw).trans hbXr
                            simp [World.frozen?, World.drew, h]
                          have hXG : X ≠ E + 1 := by omega
                          have hGX : E + 1 ≠ X := by omega
                          have hml : k + 1 ≤ maxLen := by unfold maxLen; omega
                          go_wp2
                          refine RegT.begin (S := fun wz => wz.cell? ⟨X, 0, none⟩ = some vF ∧ wz.cell? ⟨E + 1, 0, none⟩ = some (.string f.name) ∧ wz.cell? ⟨E + 1, 1, none⟩ = some (.int .i64 f.params) ∧ wz.cell? ⟨E + 1, 2, none⟩ = some (.int .i64 f.slots) ∧ wz.cell? ⟨E + 1, 3, none⟩ = some (vI) ∧ wz.cell? ⟨E + 1, 4, none⟩ = some (vH) ∧ wz.cell? ⟨E + 1, 5, none⟩ = some (vV)) (L := 10) (by kernel_rfl) ?_ (fun hHeld => ?_)
                          · (try dsimp only); go_keep
                          refine RegT.take (i := 0) (v := ?_) rfl (by kernel_rfl) (by kernel_rfl) (by kernel_rfl) (by kernel_rfl) (fun _ _ _ h => h) (Or.inl ⟨by rfl, ?_⟩) (by assumption) ?_
                          rotate_left
                          · intro w hSw; (try dsimp only at hSw); go_simp; first | done | with_reducible rfl
                          try simp only [Act.put, List.setIfInBounds_toArray, List.set_cons_zero, List.set_cons_succ]
                          refine RegT.take (i := 1) (v := ?_) rfl (by kernel_rfl) (by kernel_rfl) (by kernel_rfl) (by kernel_rfl) (fun _ _ _ h => h) (Or.inl ⟨by rfl, ?_⟩) (by assumption) ?_
                          rotate_left
                          · intro w hSw; (try dsimp only at hSw); go_simp; first | done | with_reducible rfl
                          try simp only [Act.put, List.setIfInBounds_toArray, List.set_cons_zero, List.set_cons_succ]
                          refine RegT.take (i := 2) (v := ?_) rfl (by kernel_rfl) (by kernel_rfl) (by kernel_rfl) (by kernel_rfl) (fun _ _ _ h => h) (Or.inl ⟨by rfl, ?_⟩) (by assumption) ?_
                          rotate_left
                          · intro w hSw; (try dsimp only at hSw); go_simp; first | done | with_reducible rfl
                          try simp only [Act.put, List.setIfInBounds_toArray, List.set_cons_zero, List.set_cons_succ]
                          refine RegT.take (i := 3) (v := ?_) rfl (by kernel_rfl) (by kernel_rfl) (by kernel_rfl) (by kernel_rfl) (fun _ _ _ h => h) (Or.inl ⟨by rfl, ?_⟩) (by assumption) ?_
                          rotate_left
                          · intro w hSw; (try dsimp only at hSw); go_simp; first | done | with_reducible rfl
                          try simp only [Act.put, List.setIfInBounds_toArray, List.set_cons_zero, List.set_cons_succ]
                          refine RegT.take (i := 4) (v := ?_) rfl (by kernel_rfl) (by kernel_rfl) (by kernel_rfl) (by kernel_rfl) (fun _ _ _ h => h) (Or.inl ⟨by rfl, ?_⟩) (by assumption) ?_
                          rotate_left
                          · intro w hSw; (try dsimp only at hSw); go_simp; first | done | with_reducible rfl
                          try simp only [Act.put, List.setIfInBounds_toArray, List.set_cons_zero, List.set_cons_succ]
                          refine RegT.take (i := 5) (v := ?_) rfl (by kernel_rfl) (by kernel_rfl) (by kernel_rfl) (by kernel_rfl) (fun _ _ _ h => h) (Or.inl ⟨by rfl, ?_⟩) (by assumption) ?_
                          rotate_left
                          · intro w hSw; (try dsimp only at hSw); go_simp; first | done | with_reducible rfl
                          try simp only [Act.put, List.setIfInBounds_toArray, List.set_cons_zero, List.set_cons_succ]
                          refine RegT.one (i := 6) (by kernel_rfl) rfl (fun K hK => ?_)
                          go_simp
                          refine hK.out _ _ ?_ (fun hHeld => ?_)
                          · (try dsimp only); go_keep
                          clear hK K
                          try simp only [Act.put, List.setIfInBounds_toArray, List.set_cons_zero, List.set_cons_succ]
                          refine RegT.one (i := 7) (by kernel_rfl) rfl (fun K hK => ?_)
                          (refine step_append_lies _ (by rfl) _ _ _ (by rfl) (X + 1) 130 iF _ 6 104 Tryd.underlying120 hiF hzF0 hzF1 hzF2 rfl (by omega) vF k (fs.map Fc.vals).flatten (by rfl) ((rF'.alloc _).drew) ⟨wr.heap.size, 0, none⟩ 1 1 [.string f.name, .int .i64 f.params, .int .i64 f.slots, vI, vH, vV] (by rfl) (by rfl) (World.news_of_block (cs := #[.string f.name, .int .i64 f.params, .int .i64 f.slots, vI, vH, vV]) (t := 130) (fr := (0, 0)) (heap_alloc_new wr _)) (by simp [Value.oneCell'] <;> simp_all [Value.oneCell']) (by omega) hml (by omega) (by simp; omega) (wr.heap.size + 1) (by simp) ?_; intro gg cap w6 hown1 hgrow hat hlt; have q2 : w6.frozen? ⟨X, 0, none⟩ = false := (hgrow.frozen_far ⟨X, 0, none⟩ (by simp; omega) hvX).trans (hfz _); have q1 : w6.cell? ⟨X, 0, none⟩ = some vF := (hgrow.cell_far ⟨X, 0, none⟩ (by simp; omega) hvX).trans (kc1 _); have q3 : w6.cell? ⟨E + 1, 0, none⟩ = some (.string f.name) := (hgrow.cell_far ⟨E + 1, 0, none⟩ (by simp; omega) hvE).trans (kc2 _); have q4 : w6.cell? ⟨E + 1, 1, none⟩ = some (.int .i64 f.params) := (hgrow.cell_far ⟨E + 1, 1, none⟩ (by simp; omega) hvE).trans (kc3 _); have q5 : w6.cell? ⟨E + 1, 2, none⟩ = some (.int .i64 f.slots) := (hgrow.cell_far ⟨E + 1, 2, none⟩ (by simp; omega) hvE).trans (kc4 _); have q6 : w6.cell? ⟨E + 1, 3, none⟩ = some (vI) := (hgrow.cell_far ⟨E + 1, 3, none⟩ (by simp; omega) hvE).trans (kc5 _); have q7 : w6.cell? ⟨E + 1, 4, none⟩ = some (vH) := (hgrow.cell_far ⟨E + 1, 4, none⟩ (by simp; omega) hvE).trans (kc6 _); have q8 : w6.cell? ⟨E + 1, 5, none⟩ = some (vV) := (hgrow.cell_far ⟨E + 1, 5, none⟩ (by simp; omega) hvE).trans (kc7 _))
                          refine hK.out _ _ ⟨q1, q3, q4, q5, q6, q7, q8⟩ (fun hHeld => ?_)
                          clear hK K
                          try simp only [Act.put, List.setIfInBounds_toArray, List.set_cons_zero, List.set_cons_succ]
                          refine RegT.one (i := 8) (by kernel_rfl) rfl (fun K hK => ?_)
                          go_simp
                          refine hK.out _ _ (by assumption) (fun hHeld => ?_)
                          clear hK K
                          try simp only [Act.put, List.setIfInBounds_toArray, List.set_cons_zero, List.set_cons_succ]
                          refine RegT.one (i := 9) (by kernel_rfl) rfl (fun K hK => ?_)
                          go_simp
                          refine hK.out _ _ (by assumption) (fun hHeld => ?_)
                          clear hK K
                          try simp only [Act.put, List.setIfInBounds_toArray, List.set_cons_zero, List.set_cons_succ]
                          refine RegT.last (by kernel_rfl) rfl (by kernel_rfl) (fun K hK => ?_)
                          go_simp
                          refine hK.out _ _ ?_
                          clear hK K
                          try simp only [Act.put, List.setIfInBounds_toArray, List.set_cons_zero, List.set_cons_succ]
                          all_goals
                            go_wp2
                            go_roundw
                            case rel =>
                              have hbX6 := (hgrow.block X (by simp; omega) hvX).trans ((Below.heap_alloc wr _ X hXw).trans hbXr)
                              have hk6 : ∀ (u : Value) (t : Nat), t < wr.heap.size → t ≠ X → some t ≠ vF.ownBlock → (w6.setCell ⟨X, 0, none⟩ u).heap[t]? = wr.heap[t]? := fun u t h1 h2 h3 =>
                                (block_setCell_ne h2).trans ((hgrow.block t (by simp; omega) h3).trans (Below.heap_alloc wr _ t h1))
                              have mI := (OR.mkIn hOP0 (by intro r hr; obtain ⟨z, _, rfl⟩ := List.mem_map.mp hr; rfl)).1
                              have mH := (OR.mkIn hOP1 (by intro r hr; obtain ⟨z, _, rfl⟩ := List.mem_map.mp hr; rfl)).1
                              have mV := (OR.mkIn hORI (by intro r hr; obtain ⟨z, _, rfl⟩ := List.mem_map.mp hr; rfl)).1
                              refine ⟨k + 1, .slice (some ⟨gg, 0, none⟩) (k + 1) cap, vC, vK, fs ++ [⟨f.name, f.params, f.slots, f.code, f.hs, f.vars, mkSl vI, mkSl vH, mkSl vV⟩], by omega, by simp, by simpa using img_set (i := 0) (v := .slice (some ⟨gg, 0, none⟩) (k + 1) cap) hbX6, ?_, ?_, ?_, ?_, ?_, ?_⟩
                              · refine rC.keep (fun t ht => hk6 _ t (own_base rC ht).2 (by have := (own_base rC ht).1; omega) (fun h => own_apart rC rF' (by decide) ht h.symm))
                              · refine rK.keep (fun t ht => hk6 _ t (own_base rK ht).2 (by have := (own_base rK ht).1; omega) (fun h => own_apart rK rF' (by decide) ht h.symm))
                              · rw [List.map_append]
                                have hv : Fc.vals ⟨f.name, f.params, f.slots, f.code, f.hs, f.vars, mkSl vI, mkSl vH, mkSl vV⟩ = [.string f.name, .int .i64 f.params, .int .i64 f.slots, vI, vH, vV] := by simp [Fc.vals, mI, mH, mV]
                                rw [List.map_singleton, hv]
                                exact OR_step hown1 hrl (Nat.lt_succ_self X)
                              · rw [List.take_add_one, hx]
                                exact All2.snoc hA2 ⟨rfl, rfl, rfl, rfl, rfl, rfl⟩
                              · have hkT : ∀ (u : Value) (g : Nat) (cur : Array Value) (Ty : TypeId), (Ty = 135 ∨ Ty = 138 ∨ Ty = 141) → wr.heap[g]? = some (Obj.cells cur Ty (0, 0)) → (w6.setCell ⟨X, 0, none⟩ u).heap[g]? = wr.heap[g]? := by
                                  intro u g cur Ty hT hg
                                  refine hk6 u g (lt_of_block hg) ?_ ?_
                                  · rintro rfl
                                    rw [hbXr] at hg
                                    injection hg with hg
                                    injection hg with _ h2 _
                                    rcases hT with h | h | h <;> rw [h] at h2 <;> exact absurd h2 (by decide)
                                  · intro h
                                    obtain ⟨c2, h3⟩ := own_block rF' h.symm
                                    rw [h3] at hg
                                    injection hg with hg
                                    injection hg with _ h2 _
                                    rcases hT with h | h | h <;> rw [h] at h2 <;> exact absurd h2 (by decide)
                                intro g hg
                                rcases List.mem_append.mp hg with hg | hg
                                · exact (hOwn' g hg).keep (hkT _)
                                · have hg' := List.mem_singleton.mp hg
                                  subst hg'
                                  refine OwnF.keep (w := wr) ?_ (hkT _)
                                  have sI : ∃ oa n c, vI = .slice oa n c := by
                                    rcases hOP0.2 with ⟨h, _⟩ | ⟨_, _, _, h, _⟩ <;> exact ⟨_, _, _, h⟩
                                  have sH : ∃ oa n c, vH = .slice oa n c := by
                                    rcases hOP1.2 with ⟨h, _⟩ | ⟨_, _, _, h, _⟩ <;> exact ⟨_, _, _, h⟩
                                  have sV : ∃ oa n c, vV = .slice oa n c := by
                                    rcases hORI.2 with ⟨h, _⟩ | ⟨_, _, _, h, _⟩ <;> exact ⟨_, _, _, h⟩
                                  obtain ⟨_, _, _, sI⟩ := sI
                                  obtain ⟨_, _, _, sH⟩ := sH
                                  obtain ⟨_, _, _, sV⟩ := sV
                                  exact ⟨by rw [mI]; exact hOP0.low, by rw [mH]; exact hOP1.low, by rw [mV]; exact hORI.low, mkSl_idem vI _ _ _ sI, mkSl_idem vH _ _ _ sH, mkSl_idem vV _ _ _ sV⟩
                              · refine Below.setCell ?_ (Nat.le_refl X) _
                                refine hbw.trans ⟨hgrow.os, hgrow.tape, hgrow.output, by have := hgrow.size; simp at this; omega, fun t ht => ?_⟩
                                exact (hgrow.block t (by simp; omega) (fun h => by have := hFl t h; omega)).trans (Below.heap_alloc wr _ t (by omega))
                            case measure => simp [intOf]; omega
            · obtain rfl : k = m.funcs.length := by omega
              have hkd : decide ((m.funcs.length : Int) < (m.funcs.length : Int)) = false := by simp
              rw [List.take_length] at hA2
              go_wp2
              go_ret
              obtain ⟨vF1, vF2⟩ := hORF.mkIn (by intro r hr; obtain ⟨z, _, rfl⟩ := List.mem_map.mp hr; rfl)
              obtain ⟨vC1, vC2⟩ := hORC.mkIn (by intro r hr; obtain ⟨z, _, rfl⟩ := List.mem_map.mp hr; rfl)
              obtain ⟨vK1, vK2⟩ := hORK.mkIn (by intro r hr; obtain ⟨z, _, rfl⟩ := List.mem_map.mp hr; rfl)
              refine ⟨X, ⟨fs, m.consts, m.classes, mkSl vF, mkSl vC, mkSl vK⟩, rfl, ?_, ⟨vF2, vC2, vK2, fun g hg => (hOwn g hg).fcIn, fun c hc => (hi.cl c hc).below hb (Nat.le_of_eq hX)⟩, ⟨hA2, rfl, ?_⟩, ?_⟩
              · intro q u hq
                refine Lib.cell_of_block hbX ?_
                rw [Nat.zero_add]
                have hvals : Im.vals ⟨fs, m.consts, m.classes, mkSl vF, mkSl vC, mkSl vK⟩ = [vF, vC, vK] := by simp [Im.vals, vF1, vC1, vK1]
                rw [hvals] at hq
                simpa using hq
              · have : ∀ l : List Cl, All2 ClSame l l := by
                  intro l
                  induction l with
                  | nil => exact .nil
                  | cons a l ih => exact .cons ⟨rfl, rfl, rfl, rfl, rfl⟩ ih
                exact this _
              · try rw [hX]
                exact hb
end Go.Proofs.YthbkklnahhdgcaaDoor.CodeM
