/-
  The contract of package code's Check, at an image.
-/
import Derived.Test.YthbkklnahhdgcaaDoorDCodeX
import Derived.Test.YthbkklnahhdgcaaDoorDMB
import Derived.Test.YthbkklnahhdgcaaDoorDMC
import Derived.StillTailTactics
namespace Go.Proofs.YthbkklnahhdgcaaDoor.CodeI
open Go Go.Proofs Go.RowKit Lib CodeR CodeA CodeB CodeP CodeQ CodeD CodeT CodeW CodeXa CodeX CodeH ErrD

theorem check_any (mb mo fb fo : Nat) (m : Im) (f : Fc) (w : World) (hm : Row w mb mo m.vals) (hi : ImIn w m) (hf : Row w fb fo f.vals) (hfi : FcIn w f) (hbk : bOk f) :
    Calls Tryd.prog 41 #[.pointer (some ⟨mb, mo, none⟩), .pointer (some ⟨fb, fo, none⟩)] w fun r w' => ∃ e, r = .returned (.int .i64 e) ∧ Verdict m f e ∧ Below w.heap.size w w' := by
  cases hl : limB f
  · refine (check_lim mb mo fb fo m f w hf hfi hl).mono ?_
    rintro r w' ⟨rfl, hb⟩
    exact ⟨4, rfl, { lim := fun _ => rfl, right := fun h => by (rw [hl] at h; cases h), hand := fun h => by (rw [hl] at h; cases h), fit := fun h => by (rw [hl] at h; cases h) }, hb⟩
  · exact check_ok mb mo fb fo m f w hm hi hf hfi hbk hl

theorem limIm_cases (m : Im) : (limImB m = true ∧ 1 ≤ m.funcs.length ∧ m.funcs.length ≤ 250 ∧ m.consts.length ≤ 1000 ∧ m.classes.length ≤ 250) ∨ (limImB m = false ∧ ((m.funcs.length : Int) < 1 ∨ 250 < (m.funcs.length : Int) ∨ 1000 < (m.consts.length : Int) ∨ 250 < (m.classes.length : Int))) := by
  unfold limImB CodeR.within
  by_cases h : 1 ≤ m.funcs.length ∧ m.funcs.length ≤ 250 ∧ m.consts.length ≤ 1000 ∧ m.classes.length ≤ 250
  · left
    refine ⟨?_, h⟩
    simp; omega
  · right
    refine ⟨?_, by omega⟩
    rw [Bool.eq_false_iff]
    intro hc
    apply h
    simp at hc
    omega
theorem class_verdict {m : Im} {k : Nat} {c : Cl} (hl : limImB m = true) (hx : m.classes[k]? = some c) (hb : classBad m k c = true) : ImVerdict m 2 (-1) :=
  { lim := fun h => by (rw [hl] at h; cases h), cls := fun _ _ => ⟨rfl, rfl⟩, fns := fun _ h => by (have := h k c hx; rw [hb] at this; cases this) }

set_option maxRecDepth 100000 in
set_option maxHeartbeats 30000000 in
theorem Check_any (mb mo : Nat) (m : Im) (w : World) (hm : Row w mb mo m.vals) (hi : ImIn w m) (hbk : ∀ f ∈ m.funcs, bOk f) :
    Calls Tryd.prog 20 #[.pointer (some ⟨mb, mo, none⟩)] w fun r w' => ∃ e p v, r = .returned v ∧ ErrIs w' v e p ∧ ImVerdict m e p ∧ Below w.heap.size w w' := by
  have c0 := (im_cells hm).1
  have c1 := (im_cells hm).2.1
  have c2 := (im_cells hm).2.2
  have l0 := hi.funcs.len
  have l1 := hi.consts.len
  have l2 := hi.classes.len
  have a0 := hi.funcs.addr
  have a2 := hi.classes.addr
  rw [List.length_map] at l0 l1 l2
  unfold Sl.val at c0 c1 c2
  rw [l0] at c0 a0
  rw [l1] at c1
  rw [l2] at c2 a2
  rcases limIm_cases m with ⟨hlim, n1, n2, n3, n4⟩ | ⟨hlF, hor⟩
  · have z0 : decide ((m.funcs.length : Int) < 1) = false := decide_eq_false (by omega)
    have z1 : decide (250 < (m.funcs.length : Int)) = false := decide_eq_false (by omega)
    have z2 : decide (1000 < (m.consts.length : Int)) = false := decide_eq_false (by omega)
    have z3 : decide (250 < (m.classes.length : Int)) = false := decide_eq_false (by omega)
    obtain ⟨oa0, ho0⟩ : ∃ oa, m.funcsS.oa = oa := ⟨_, rfl⟩
    obtain ⟨oa2, ho2⟩ : ∃ oa, m.classesS.oa = oa := ⟨_, rfl⟩
    rw [ho0] at c0 a0
    rw [ho2] at c2 a2
    have hrow0 := fun (k : Nat) (x : Fc) (hx : m.funcs[k]? = some x) => hi.funcs.row k x.vals (by rw [List.getElem?_map, hx]; rfl)
    have hrow2 := fun (k : Nat) (x : Cl) (hx : m.classes[k]? = some x) => hi.classes.row k x.vals (by rw [List.getElem?_map, hx]; rfl)
    clear ho0 ho2 l0 l1 l2
    have hbx1 : (w.alloc (.cells #[.pointer (some ⟨mb, mo, none⟩)] 46)).heap[w.heap.size]? = some (.cells #[.pointer (some ⟨mb, mo, none⟩)] 46 (0, 0)) := heap_alloc_new w _
    have hbl1 : Below w.heap.size w (w.alloc (.cells #[.pointer (some ⟨mb, mo, none⟩)] 46)) := below_alloc (Below.refl _ _) _ (Nat.le_refl _)
    have hsz1 : (w.alloc (.cells #[.pointer (some ⟨mb, mo, none⟩)] 46)).heap.size = w.heap.size + 1 := by simp
    have d0 := alloc_cell c0
    have d1 := alloc_cell c1
    have d2 := alloc_cell c2
    go_enter Tryd.func20, Tryd.ntmps20
    go_wp2
    clear d0 d1 d2 z0 z1 z2 z3
    have hmlt := World.block_lt_of_cell? w _ c0
    generalize (w.alloc (.cells #[.pointer (some ⟨mb, mo, none⟩)] 46)) = w1 at *
    generalize hX : w.heap.size = X at *
    go_loopw [46] (fun v wr => ∃ k : Nat, k ≤ m.classes.length ∧ v = .int .i64 (k : Int) ∧ (∀ j c, j < k → m.classes[j]? = some c → classBad m j c = false) ∧ Below (X + 1) w1 wr) (fun v _ => m.classes.length - (intOf v).toNat)
    case atStart => exact ⟨0, Nat.zero_le _, rfl, fun j x hj => by omega, Below.refl _ _⟩
    case round =>
      obtain ⟨k, hk, rfl, hall, hb⟩ := hrel
      have hbw : Below X w wr := hbl1.trans (hb.mono (Nat.le_succ X))
      have hsz : X + 1 ≤ wr.heap.size := by have := hb.size; omega
      have hbxr : wr.heap[X]? = some (.cells #[.pointer (some ⟨mb, mo, none⟩)] 46 (0, 0)) := (hb.block X (Nat.lt_succ_self X)).trans hbx1
      have bx := cell_of_one hbxr
      by_cases hkn : k < m.classes.length
      · obtain ⟨c, hx⟩ : ∃ c, m.classes[k]? = some c := ⟨_, List.getElem?_eq_getElem hkn⟩
        have hkd : decide ((k : Int) < (m.classes.length : Int)) = true := by simp; omega
        have hoa := a2 (by omega)
        subst hoa
        have hcl := (hi.cl c (List.mem_of_getElem? hx)).below hbw (Nat.le_of_eq hX)
        have nN := hcl.names.len
        have nM := hcl.methods.len
        rw [List.length_map] at nN nM
        have hxr : Row wr m.classesS.b (m.classesS.o + k * 5) c.vals := (hrow2 k c hx).below hbw (Nat.le_of_eq hX)
        have e0 : wr.cell? ⟨m.classesS.b, m.classesS.o + k * 5, none⟩ = some (.string c.name) := hxr 0 _ rfl
        have e1 : wr.cell? ⟨m.classesS.b, m.classesS.o + k * 5 + 1, none⟩ = some (.int .i64 c.above) := hxr 1 _ rfl
        have e2 : wr.cell? ⟨m.classesS.b, m.classesS.o + k * 5 + 2, none⟩ = some (.slice c.fieldsS.oa c.fieldsS.n c.fieldsS.c) := hxr 2 _ rfl
        have e3 : wr.cell? ⟨m.classesS.b, m.classesS.o + k * 5 + 3, none⟩ = some (.slice c.namesS.oa c.namesS.n c.namesS.c) := hxr 3 _ rfl
        have e4 : wr.cell? ⟨m.classesS.b, m.classesS.o + k * 5 + 4, none⟩ = some (.slice c.methodsS.oa c.methodsS.n c.methodsS.c) := hxr 4 _ rfl
        rw [nN] at e3
        rw [nM] at e4
        have bxa := alloc_cell bx
        have d2 := alloc_cell ((hbw.cell (p := ⟨mb, mo + 2, none⟩) hmlt).trans c2)
        have hT1 : ∀ ob n, Calls Tryd.prog 38 #[.slice c.methodsS.oa c.methods.length c.methodsS.c, .func (Fn.func 39) #[] #[.pointer (some ⟨X, 0, none⟩)]] ((wr.alloc ob).drewN n) fun e w' => e = .returned (.bool (c.methods.any (methB m))) ∧ w' = (wr.alloc ob).drewN n := by
          intro ob n
          have hbo : Below X w ((wr.alloc ob).drewN n) := below_drewN (below_alloc hbw _ (Nat.le_of_eq hX.symm)) n
          have h := contains_any mb mo X m c.methodsS c.methods ((wr.alloc ob).drewN n) (hm.below hbo (Nat.le_of_eq hX)) (hi.below hbo (Nat.le_of_eq hX)) (bxa ob) (hcl.methods.below (below_drewN (below_alloc (Below.refl _ _) ob (Nat.le_refl _)) n) (Nat.le_refl _))
          unfold Sl.val at h
          rw [nM] at h
          exact h
        have hT2 : ∀ ob n, Calls Tryd.prog 40 #[.pointer (some ⟨mb, mo, none⟩), .int .i64 (k : Int)] ((wr.alloc ob).drewN n) fun e w' => e = .returned (.bool (roundB m k)) ∧ w' = (wr.alloc ob).drewN n := by
          intro ob n
          have hbo : Below X w ((wr.alloc ob).drewN n) := below_drewN (below_alloc hbw _ (Nat.le_of_eq hX.symm)) n
          exact round_any mb mo m k ((wr.alloc ob).drewN n) (hm.below hbo (Nat.le_of_eq hX)) (hi.below hbo (Nat.le_of_eq hX)) n4
        clear hxr bx hbxr hcl nN nM
        by_cases q1 : c.above < -1
        · have z1 : decide (c.above < -1) = true := by simpa using q1
          have hbad : classBad m k c = true := by unfold classBad; rw [z1]; simp
          go_wp2
          go_quiet ((first | (go_at_call 38; exact Calls.quiet_of_same (hT1 _ _)) | (go_at_call 40; exact Calls.quiet_of_same (hT2 _ _))))
          go_wp2
          go_ret
          refine ⟨2, -1, _, rfl, Or.inr (Or.inl ⟨by decide, rfl, rfl⟩), class_verdict hlim hx hbad, ?_⟩
          try rw [hX]
          exact below_drewN (below_alloc hbw _ (Nat.le_of_eq hX.symm)) _
        have z1 : decide (c.above < -1) = false := by simpa using q1
        by_cases q2 : (m.classes.length : Int) ≤ c.above
        · have z2 : decide ((m.classes.length : Int) ≤ c.above) = true := by simpa using q2
          have hbad : classBad m k c = true := by unfold classBad; rw [z2]; simp
          go_wp2
          go_quiet ((first | (go_at_call 38; exact Calls.quiet_of_same (hT1 _ _)) | (go_at_call 40; exact Calls.quiet_of_same (hT2 _ _))))
          go_wp2
          go_ret
          refine ⟨2, -1, _, rfl, Or.inr (Or.inl ⟨by decide, rfl, rfl⟩), class_verdict hlim hx hbad, ?_⟩
          try rw [hX]
          exact below_drewN (below_alloc hbw _ (Nat.le_of_eq hX.symm)) _
        have z2 : decide ((m.classes.length : Int) ≤ c.above) = false := by simpa using q2
        by_cases q3 : c.names.length = c.methods.length
        · have z3 : ((c.names.length : Int) != (c.methods.length : Int)) = false := by simp [q3]
          have z3' : decide (c.names.length ≠ c.methods.length) = false := by simp [q3]
          have q3' : Aside (c.names.length = c.methods.length) := q3
          clear q3
          cases q4 : c.methods.any (methB m)
          · rw [q4] at hT1
            cases q5 : roundB m k
            · rw [q5] at hT2
              have hgood : classBad m k c = false := by unfold classBad; rw [z1, z2, z3', q4, q5]; rfl
              go_wp2
              go_quiet ((first | (go_at_call 38; exact Calls.quiet_of_same (hT1 _ _)) | (go_at_call 40; exact Calls.quiet_of_same (hT2 _ _))))
              go_wp2
              go_roundw
              case rel =>
                refine ⟨k + 1, by omega, by simp, ?_, below_drewN (below_alloc hb _ (by omega)) _⟩
                intro j y hj hy
                by_cases hjk : j = k
                · subst hjk; rw [hx] at hy; cases hy; exact hgood
                · exact hall j y (by omega) hy
              case measure => simp [intOf]; omega
            · rw [q5] at hT2
              have hbad : classBad m k c = true := by unfold classBad; rw [q5]; simp
              go_wp2
              go_quiet ((first | (go_at_call 38; exact Calls.quiet_of_same (hT1 _ _)) | (go_at_call 40; exact Calls.quiet_of_same (hT2 _ _))))
              go_wp2
              go_ret
              refine ⟨2, -1, _, rfl, Or.inr (Or.inl ⟨by decide, rfl, rfl⟩), class_verdict hlim hx hbad, ?_⟩
              try rw [hX]
              exact below_drewN (below_alloc hbw _ (Nat.le_of_eq hX.symm)) _
          · rw [q4] at hT1
            have hbad : classBad m k c = true := by unfold classBad; rw [q4]; simp
            go_wp2
            go_quiet ((first | (go_at_call 38; exact Calls.quiet_of_same (hT1 _ _)) | (go_at_call 40; exact Calls.quiet_of_same (hT2 _ _))))
            go_wp2
            go_ret
            refine ⟨2, -1, _, rfl, Or.inr (Or.inl ⟨by decide, rfl, rfl⟩), class_verdict hlim hx hbad, ?_⟩
            try rw [hX]
            exact below_drewN (below_alloc hbw _ (Nat.le_of_eq hX.symm)) _
        · have z3 : ((c.names.length : Int) != (c.methods.length : Int)) = true := by simp; omega
          have hbad : classBad m k c = true := by unfold classBad; rw [show decide (c.names.length ≠ c.methods.length) = true from decide_eq_true q3]; simp
          go_wp2
          go_quiet ((first | (go_at_call 38; exact Calls.quiet_of_same (hT1 _ _)) | (go_at_call 40; exact Calls.quiet_of_same (hT2 _ _))))
          go_wp2
          go_ret
          refine ⟨2, -1, _, rfl, Or.inr (Or.inl ⟨by decide, rfl, rfl⟩), class_verdict hlim hx hbad, ?_⟩
          try rw [hX]
          exact below_drewN (below_alloc hbw _ (Nat.le_of_eq hX.symm)) _
      · obtain rfl : k = m.classes.length := by omega
        have hkd : decide ((m.classes.length : Int) < (m.classes.length : Int)) = false := by simp
        have hcls : ∀ j c, m.classes[j]? = some c → classBad m j c = false := fun j c hj => hall j c (List.getElem?_eq_some_iff.mp hj).1 hj
        have hb1 := hb
        have d0 := (hbw.cell (p := ⟨mb, mo, none⟩) hmlt).trans c0
        clear hall hb hbw hsz hbxr hrow2 a2
        go_wp2
        clear bx d0
        go_loopw [91] (fun v wr => ∃ k : Nat, k ≤ m.funcs.length ∧ v = .int .i64 (k : Int) ∧ (∀ j g, j < k → m.funcs[j]? = some g → Verdict m g 0) ∧ Below (X + 1) w1 wr) (fun v _ => m.funcs.length - (intOf v).toNat)
        case atStart => exact ⟨0, Nat.zero_le _, rfl, fun j x hj => by omega, hb1⟩
        case round =>
          clear hb1
          obtain ⟨k, hk, rfl, hall, hb⟩ := hrel
          have hbw : Below X w wr := hbl1.trans (hb.mono (Nat.le_succ X))
          have hsz : X + 1 ≤ wr.heap.size := by have := hb.size; omega
          have hbxr : wr.heap[X]? = some (.cells #[.pointer (some ⟨mb, mo, none⟩)] 46 (0, 0)) := (hb.block X (Nat.lt_succ_self X)).trans hbx1
          have bx := cell_of_one hbxr
          by_cases hkn : k < m.funcs.length
          · obtain ⟨f, hx⟩ : ∃ f, m.funcs[k]? = some f := ⟨_, List.getElem?_eq_getElem hkn⟩
            have hfm := List.mem_of_getElem? hx
            have hkd : decide ((k : Int) < (m.funcs.length : Int)) = true := by simp; omega
            have hoa := a0 (by omega)
            subst hoa
            have d0 := (hbw.cell (p := ⟨mb, mo, none⟩) hmlt).trans c0
            have i1 : (0 : Int) ≤ (k : Int) := by omega
            have i2 : (k : Int) < (m.funcs.length : Int) := by omega
            have hT : ∀ n, Calls Tryd.prog 41 #[.pointer (some ⟨mb, mo, none⟩), .pointer (some ⟨m.funcsS.b, m.funcsS.o + k * 6, none⟩)] (wr.drewN n) fun r w' => ∃ e, r = .returned (.int .i64 e) ∧ Verdict m f e ∧ Below wr.heap.size wr w' := by
              intro n
              have hbn : Below X w (wr.drewN n) := below_drewN hbw n
              refine (check_any mb mo m.funcsS.b (m.funcsS.o + k * 6) m f (wr.drewN n) (hm.below hbn (Nat.le_of_eq hX)) (hi.below hbn (Nat.le_of_eq hX)) ((hrow0 k f hx).below hbn (Nat.le_of_eq hX)) ((hi.fn f hfm).below hbn (Nat.le_of_eq hX)) (hbk f hfm)).mono ?_
              rintro r w' ⟨e, h1, h2, h3⟩
              exact ⟨e, h1, h2, ⟨h3.os, h3.tape, h3.output, h3.size, h3.block⟩⟩
            clear hrow0 hbxr
            go_wp2
            go_still_tail 7, (by kernel_rfl)
            change wpList _ _ _ _ _ wr.drew
            go_wp2_with fail
            refine (hT 1).mono ?_
            rintro r w2 ⟨e, rfl, hv, hb2⟩
            clear hT
            by_cases he : e = 0
            · subst he
              go_wp2
              go_roundw
              case rel =>
                refine ⟨k + 1, by omega, by simp, ?_, hb.trans (hb2.mono hsz)⟩
                intro j y hj hy
                by_cases hjk : j = k
                · subst hjk; rw [hx] at hy; cases hy; exact hv
                · exact hall j y (by omega) hy
              case measure => simp [intOf]; omega
            · have hne : (e != 0) = true := by simpa using he
              have hIV : ImVerdict m e (k : Int) := { lim := fun h => by (rw [hlim] at h; cases h), cls := fun _ h => by (obtain ⟨j, c, h1, h2⟩ := h; rw [hcls j c h1] at h2; cases h2), fns := fun _ _ => Or.inr ⟨k, f, hx, rfl, he, hv, hall⟩ }
              have hA : Aside (e ≠ 0) := he
              clear he hv
              go_wp2
              go_ret
              refine ⟨e, (k : Int), _, rfl, Or.inr (Or.inr ⟨w2.heap.size, rfl, heap_alloc_new w2 _, hA.out⟩), hIV, ?_⟩
              try rw [hX]
              exact below_alloc (hbw.trans (hb2.mono (by omega))) _ (Nat.le_of_eq hX.symm)
          · obtain rfl : k = m.funcs.length := by omega
            have hkd : decide ((m.funcs.length : Int) < (m.funcs.length : Int)) = false := by simp
            have hIV : ImVerdict m 0 (-1) := { lim := fun h => by (rw [hlim] at h; cases h), cls := fun _ h => by (obtain ⟨j, c, h1, h2⟩ := h; rw [hcls j c h1] at h2; cases h2), fns := fun _ _ => Or.inl ⟨rfl, rfl, fun f hf => by (obtain ⟨j, hj⟩ := List.mem_iff_getElem?.mp hf; exact hall j f (List.getElem?_eq_some_iff.mp hj).1 hj)⟩ }
            go_wp2
            go_ret
            refine ⟨0, -1, _, rfl, Or.inl ⟨rfl, rfl, rfl⟩, hIV, ?_⟩
            try rw [hX]
            exact hbw
  · have hv : ImVerdict m 4 (-1) := { lim := fun _ => ⟨rfl, rfl⟩, cls := fun h => by (rw [hlF] at h; cases h), fns := fun h => by (rw [hlF] at h; cases h) }
    have d0 := alloc_cell c0
    have d1 := alloc_cell c1
    have d2 := alloc_cell c2
    clear hm hi a0 a2
    by_cases q0 : (m.funcs.length : Int) < 1
    · have z0 : decide ((m.funcs.length : Int) < 1) = true := by simpa using q0
      clear hor
      go_enter Tryd.func20, Tryd.ntmps20
      go_wp2
      go_ret
      exact ⟨4, -1, _, rfl, Or.inr (Or.inl ⟨by decide, rfl, rfl⟩), hv, below_alloc (Below.refl _ _) _ (Nat.le_refl _)⟩
    have z0 : decide ((m.funcs.length : Int) < 1) = false := by simpa using q0
    by_cases q1 : 250 < (m.funcs.length : Int)
    · have z1 : decide (250 < (m.funcs.length : Int)) = true := by simpa using q1
      clear hor
      go_enter Tryd.func20, Tryd.ntmps20
      go_wp2
      go_ret
      exact ⟨4, -1, _, rfl, Or.inr (Or.inl ⟨by decide, rfl, rfl⟩), hv, below_alloc (Below.refl _ _) _ (Nat.le_refl _)⟩
    have z1 : decide (250 < (m.funcs.length : Int)) = false := by simpa using q1
    by_cases q2 : 1000 < (m.consts.length : Int)
    · have z2 : decide (1000 < (m.consts.length : Int)) = true := by simpa using q2
      clear hor
      go_enter Tryd.func20, Tryd.ntmps20
      go_wp2
      go_ret
      exact ⟨4, -1, _, rfl, Or.inr (Or.inl ⟨by decide, rfl, rfl⟩), hv, below_alloc (Below.refl _ _) _ (Nat.le_refl _)⟩
    have z2 : decide (1000 < (m.consts.length : Int)) = false := by simpa using q2
    by_cases q3 : 250 < (m.classes.length : Int)
    · have z3 : decide (250 < (m.classes.length : Int)) = true := by simpa using q3
      clear hor
      go_enter Tryd.func20, Tryd.ntmps20
      go_wp2
      go_ret
      exact ⟨4, -1, _, rfl, Or.inr (Or.inl ⟨by decide, rfl, rfl⟩), hv, below_alloc (Below.refl _ _) _ (Nat.le_refl _)⟩
    have z3 : decide (250 < (m.classes.length : Int)) = false := by simpa using q3
    omega
end Go.Proofs.YthbkklnahhdgcaaDoor.CodeI
