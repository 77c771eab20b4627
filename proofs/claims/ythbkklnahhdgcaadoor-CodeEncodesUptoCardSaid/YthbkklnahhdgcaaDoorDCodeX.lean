/-
  The contract of package code's check.
-/
import Derived.Test.YthbkklnahhdgcaaDoorDMH
import Derived.Deep.LoopGhost
namespace Go.Proofs.YthbkklnahhdgcaaDoor.CodeX
open Go Go.Proofs Go.RowKit Lib CodeR CodeA CodeB CodeP CodeD CodeT CodeU CodeV CodeW CodeXa CodeXb

set_option maxRecDepth 100000 in
set_option maxHeartbeats 30000000 in
theorem check_ok (mb mo fb fo : Nat) (m : Im) (f : Fc) (w : World) (hm : Row w mb mo m.vals) (hi : ImIn w m) (hf : Row w fb fo f.vals) (hfi : FcIn w f) (hbk : bOk f) (hlim : limB f = true) :
    Calls Tryd.prog 41 #[.pointer (some ⟨mb, mo, none⟩), .pointer (some ⟨fb, fo, none⟩)] w fun r w' => ∃ e, r = .returned (.int .i64 e) ∧ Verdict m f e ∧ Below w.heap.size w w' := by
  have hf1 : w.cell? ⟨fb, fo + 1, none⟩ = some (.int .i64 f.params) := hf 1 _ rfl
  have hf2 : w.cell? ⟨fb, fo + 2, none⟩ = some (.int .i64 f.slots) := hf 2 _ rfl
  have hf3 : w.cell? ⟨fb, fo + 3, none⟩ = some f.codeS.val := hf 3 _ rfl
  have hn := hfi.code.len
  rw [List.length_map] at hn
  rcases lim_cases f with ⟨_, l1, l2, l3, l4, l5, l6⟩ | ⟨h, _⟩
  · have hfi' := hfi
    have hco := hfi.code.addr (by omega)
    have hrow := fun i (x : I3) (hx : f.code[i]? = some x) => hfi.code.row i x.vals (by rw [List.getElem?_map, hx]; rfl)
    unfold Sl.val at hf3
    rw [hco, hn] at hf3
    have k0 : decide ((f.code.length : Int) < 1) = false := by simp; omega
    have k1 : decide (5000 < (f.code.length : Int)) = false := by simp; omega
    have k2 : decide (f.params < 0) = false := by simp; omega
    have k3 : decide (8 < f.params) = false := by simp; omega
    have k4 : decide (f.slots < f.params) = false := by simp; omega
    have k5 : decide (200 < f.slots) = false := by simp; omega
    have d1 := alloc_cell hf1
    have d2 := alloc_cell hf2
    have d3 := alloc_cell hf3
    go_enter Tryd.func41, Tryd.ntmps41
    go_wp2
    go_quiet (fail)
    clear d1 d2 d3 k0 k1 k2 k3 k4 k5
    have hbx1 : ((w.alloc (.cells #[.pointer (some ⟨fb, fo, none⟩)] 116)).drewN nq).heap[w.heap.size]? = some (.cells #[.pointer (some ⟨fb, fo, none⟩)] 116 (0, 0)) := heap_alloc_new w _
    have hbl1 : Below w.heap.size w ((w.alloc (.cells #[.pointer (some ⟨fb, fo, none⟩)] 116)).drewN nq) := below_drewN (below_alloc (Below.refl _ _) _ (Nat.le_refl _)) _
    have hsz1 : ((w.alloc (.cells #[.pointer (some ⟨fb, fo, none⟩)] 116)).drewN nq).heap.size = w.heap.size + 1 := by simp
    generalize ((w.alloc (.cells #[.pointer (some ⟨fb, fo, none⟩)] 116)).drewN nq) = w1 at *
    have hx1 := cell_of_one hbx1
    have hc3 : w1.cell? ⟨fb, fo + 3, none⟩ = some (.slice (some ⟨f.codeS.b, f.codeS.o, none⟩) f.code.length f.codeS.c) := (hbl1.cell (World.block_lt_of_cell? w _ hf3)).trans hf3
    generalize hX : w.heap.size = X at *
    have hlt3 := World.block_lt_of_cell? w _ hf3
    rw [hX] at hlt3
    go_wp2
    go_loopw [71] (fun v wr => ∃ k : Nat, k ≤ f.code.length ∧ v = .int .i64 (k : Int) ∧ (∀ j x, j < k → f.code[j]? = some x → rightB m f x = true) ∧ Below (X + 1) w1 wr) (fun v _ => f.code.length - (intOf v).toNat)
    case atStart => exact ⟨0, Nat.zero_le _, rfl, fun j x hj => by omega, Below.refl _ _⟩
    case round =>
      obtain ⟨k, hk, rfl, hall, hb⟩ := hrel
      by_cases hkn : k < f.code.length
      · obtain ⟨x, hx⟩ : ∃ x, f.code[k]? = some x := ⟨_, List.getElem?_eq_getElem hkn⟩
        have hkd : decide ((k : Int) < (f.code.length : Int)) = true := by simp; omega
        have hbw : Below X w wr := hbl1.trans (hb.mono (Nat.le_succ X))
        have hxr : Row wr f.codeS.b (f.codeS.o + k * 3) x.vals := (hrow k x hx).below hbw (Nat.le_of_eq hX)
        have e0 : wr.cell? ⟨f.codeS.b, f.codeS.o + k * 3, none⟩ = some (.int .i64 x.op) := hxr 0 _ rfl
        have e1 : wr.cell? ⟨f.codeS.b, f.codeS.o + k * 3 + 1, none⟩ = some (.int .i64 x.a) := hxr 1 _ rfl
        have e2 : wr.cell? ⟨f.codeS.b, f.codeS.o + k * 3 + 2, none⟩ = some (.int .i64 x.b) := hxr 2 _ rfl
        have hxw : wr.cell? ⟨X, 0, none⟩ = some (.pointer (some ⟨fb, fo, none⟩)) := (hb.cell (p := ⟨X, 0, none⟩) (Nat.lt_succ_self X)).trans hx1
        have hxw' := alloc_cell hxw
        have hT : ∀ ob, Calls Tryd.prog 81 #[.pointer (some ⟨mb, mo, none⟩), .pointer (some ⟨fb, fo, none⟩), .agg #[.int .i64 x.op, .int .i64 x.a, .int .i64 x.b]] (wr.alloc ob) fun e w' => e = .returned (.bool (rightB m f x)) ∧ Below (wr.heap.size + 1) (wr.alloc ob) w' := by
          intro ob
          have hbo : Below X w (wr.alloc ob) := below_alloc hbw _ (by have := hb.size; omega)
          refine (right_any mb mo fb fo m f x _ (hm.below hbo (Nat.le_of_eq hX)) (hi.below hbo (Nat.le_of_eq hX)) (hf.below hbo (Nat.le_of_eq hX)) (hfi.below hbo (Nat.le_of_eq hX)) (hbk x (List.mem_of_getElem? hx))).mono ?_
          rintro e w' ⟨h1, h2⟩
          exact ⟨h1, by simpa using h2⟩
        have hsz : X + 1 ≤ wr.heap.size := by have := hb.size; omega
        cases hr : rightB m f x
        · rw [hr] at hT
          go_wp2_with (go_at_call 81; refine (hT _).mono ?_; rintro e w2 ⟨rfl, hb2⟩)
          go_ret
          refine ⟨2, rfl, right_verdict hlim hx hr, ?_⟩
          rw [hX]
          exact (below_alloc hbw _ (by omega)).trans (hb2.mono (by omega))
        · rw [hr] at hT
          go_wp2_with (go_at_call 81; refine (hT _).mono ?_; rintro e w2 ⟨rfl, hb2⟩)
          go_roundw
          case rel =>
            refine ⟨k + 1, by omega, by simp, ?_, ?_⟩
            · intro j y hj hy
              by_cases hjk : j = k
              · subst hjk; rw [hx] at hy; cases hy; exact hr
              · exact hall j y (by omega) hy
            · exact (below_alloc hb _ (by omega)).trans (hb2.mono (by omega))
          case measure => simp [intOf]; omega
      · obtain rfl : k = f.code.length := by omega
        have hkd : decide ((f.code.length : Int) < (f.code.length : Int)) = false := by simp
        have hallr : f.code.all (rightB m f) = true := by
          rw [List.all_eq_true]
          intro y hy
          obtain ⟨j, hj⟩ := List.mem_iff_getElem?.mp hy
          exact hall j y (List.getElem?_eq_some_iff.mp hj).1 hj
        have hbw : Below X w wr := hbl1.trans (hb.mono (Nat.le_succ X))
        have hsz : X + 1 ≤ wr.heap.size := by have := hb.size; omega
        have hbxr : wr.heap[X]? = some (.cells #[.pointer (some ⟨fb, fo, none⟩)] 116 (0, 0)) := (hb.block X (Nat.lt_succ_self X)).trans hbx1
        have hxw := cell_of_one hbxr
        have hc3w : wr.cell? ⟨fb, fo + 3, none⟩ = some (.slice (some ⟨f.codeS.b, f.codeS.o, none⟩) f.code.length f.codeS.c) := (hbw.cell (p := ⟨fb, fo + 3, none⟩) hlt3).trans hf3
        have hxw' := alloc_cell hxw
        have hc3w' := alloc_cell hc3w
        clear hb hbx1 hx1 hbl1 hsz1 hc3 hall
        have hRep := repeat_any (wr.alloc (.cells #[.int .i64 (-1)] 3)) wr.heap.size (-1) f.code.length l1 l2 (cell_of_one (heap_alloc_new wr _))
        go_wp2_with (go_at_call 82; refine hRep.mono ?_; rintro e w2 ⟨rfl, hg2, hb2⟩)
        have hsa : (wr.alloc (.cells #[.int .i64 (-1)] 3)).heap.size = wr.heap.size + 1 := by simp
        rw [hsa] at hg2 hb2
        have hbX2 : w2.heap[X]? = some (.cells #[.pointer (some ⟨fb, fo, none⟩)] 116 (0, 0)) := (hb2.block X (by omega)).trans ((Below.heap_alloc _ _ _ (by omega)).trans hbxr)
        have hbe2 : Below X w w2 := (below_alloc hbw _ (by omega)).trans (hb2.mono (by omega))
        have hs2 := hb2.size
        rw [hsa] at hs2
        have hCS := CS_start (n := f.code.length) hbX2 hg2 (by omega)
        have hCI : CI w (((w2.alloc (.cells #[.slice (some ⟨wr.heap.size + 1, 0, none⟩) f.code.length f.code.length] 52)).alloc (.cells #[.slice none 0 0] 52)).alloc (.cells #[.int .i64 0] 35)) X (w2.heap.size + 1 + 1) w2.heap.size (w2.heap.size + 1) (wr.heap.size + 1) (w2.heap.size + 3) fb fo (List.replicate f.code.length (-1)) [] 0 (.slice none 0 0) :=
          ⟨hCS, below3 hbe2 (by omega) _ _ _, by simp⟩
        have hC0 : Calls Tryd.prog 83 #[.int .i64 0, .int .i64 0, .pointer (some ⟨X, 0, none⟩), .pointer (some ⟨w2.heap.size + 1 + 1, 0, none⟩), .pointer (some ⟨w2.heap.size, 0, none⟩), .pointer (some ⟨w2.heap.size + 1, 0, none⟩)] _ _ := come_c 0 0 hCI hX hf hfi l2 (PS.top f)
        clear hg2 hb2 hbX2 hbe2 hCS hRep hxw hc3w hxw' hc3w' hbxr
        refine hC0.mono ?_
        rintro e w3 ⟨rfl, v1, hCI1, hTu1⟩
        obtain ⟨hP1, hL1, hE1, _⟩ := (PS.top f).come (p := 0) (n := 0) (Int.le_refl _) forced_top
        have hS1 := St.first (f := f) (fun h0 => (hE1 h0).2)
        clear hE1 hL1 hC0 hCI
        generalize (comeD (List.replicate f.code.length (-1)) 0 0 0).1 = deep1 at *
        generalize (comeD (List.replicate f.code.length (-1)) 0 0 0).2 = e1 at *
        generalize nextT (List.replicate f.code.length (-1)) [] 0 0 = todo1 at *
        clear hsa hs2 hTu1
        generalize wr.heap.size + 1 = da at *
        generalize w2.heap.size = dx at *
        clear hsz hbw
        have hf4 : w.cell? ⟨fb, fo + 4, none⟩ = some f.hsS.val := hf 4 _ rfl
        have hf5 : w.cell? ⟨fb, fo + 5, none⟩ = some f.varsS.val := hf 5 _ rfl
        have hn4 := hfi.hs.len
        have hn5 := hfi.vars.len
        rw [List.length_map] at hn4 hn5
        unfold Sl.val at hf4 hf5
        rw [hn4] at hf4
        rw [hn5] at hf5
        have hs4 := hfi.hs.small
        have hs5 := hfi.vars.small
        rw [hn4] at hs4
        rw [hn5] at hs5
        have hoa4 := hfi.hs.addr
        have hoa5 := hfi.vars.addr
        rw [hn4] at hoa4
        rw [hn5] at hoa5
        have bfx := cell_of_one hCI1.cs.fbox
        have c4 : w3.cell? ⟨fb, fo + 4, none⟩ = some (.slice f.hsS.oa f.hs.length f.hsS.c) := (hCI1.bel.cell (p := ⟨fb, fo + 4, none⟩) hlt3).trans hf4
        generalize f.hsS.oa = oa4 at hf4 hoa4 c4
        generalize f.varsS.oa = oa5 at hf5 hoa5
        go_wp2
        go_loopw [96] (fun v wr => ∃ (k : Nat) (deep : List Int) (todo : List Nat) (e : Int) (vt : Value), k ≤ f.hs.length ∧ v = .int .i64 (k : Int) ∧ (∀ j x, j < k → f.hs[j]? = some x → handB f x = true) ∧ CI w wr X (dx + 1 + 1) dx (dx + 1) da (dx + 3) fb fo deep todo e vt ∧ PS f (fun _ => False) deep todo e ∧ St f k deep e) (fun v _ => f.hs.length - (intOf v).toNat)
        case atStart => exact ⟨0, _, _, _, _, Nat.zero_le _, rfl, fun j x hj => by omega, hCI1, hP1, hS1⟩
        case round =>
          obtain ⟨k, deep, todo, e, vt, hk, rfl, hallh, hCI, hPS, hSt⟩ := hrel
          clear hCI1 hP1 hS1 c4 bfx
          by_cases hkn : k < f.hs.length
          · obtain ⟨x, hx⟩ : ∃ x, f.hs[k]? = some x := ⟨_, List.getElem?_eq_getElem hkn⟩
            have hkd : decide ((k : Int) < (f.hs.length : Int)) = true := by simp; omega
            have hoa := hoa4 (by omega)
            subst hoa
            have hxr : Row wr f.hsS.b (f.hsS.o + k * 3) x.vals := (hfi.hs.row k x.vals (by rw [List.getElem?_map, hx]; rfl)).below hCI.bel (Nat.le_of_eq hX)
            have e0 : wr.cell? ⟨f.hsS.b, f.hsS.o + k * 3, none⟩ = some (.int .i64 x.f) := hxr 0 _ rfl
            have e1 : wr.cell? ⟨f.hsS.b, f.hsS.o + k * 3 + 1, none⟩ = some (.int .i64 x.t) := hxr 1 _ rfl
            have e2 : wr.cell? ⟨f.hsS.b, f.hsS.o + k * 3 + 2, none⟩ = some (.int .i64 x.g) := hxr 2 _ rfl
            have bfx := alloc_cell (cell_of_one hCI.cs.fbox)
            have c3 := alloc_cell ((hCI.bel.cell (p := ⟨fb, fo + 3, none⟩) hlt3).trans hf3)
            have hsz : X ≤ wr.heap.size := by have := hCI.big; have := hCI.cs.low; omega
            by_cases q0 : x.f < 0
            · have z0 : decide (x.f < 0) = true := by simpa using q0
              have hbad : handB f x = false := by simp [handB, CodeR.within]; omega
              go_wp2
              go_quiet (fail)
              go_wp2
              go_ret
              refine ⟨2, rfl, hand_verdict hlim hallr hx hbad, ?_⟩
              rw [hX]
              exact below_drewN (below_alloc hCI.bel _ (Nat.le_of_eq hX.symm)) _
            have z0 : decide (x.f < 0) = false := by simpa using q0
            by_cases q1 : x.t < x.f
            · have z1 : decide (x.t < x.f) = true := by simpa using q1
              have hbad : handB f x = false := by simp [handB, CodeR.within]; omega
              go_wp2
              go_quiet (fail)
              go_wp2
              go_ret
              refine ⟨2, rfl, hand_verdict hlim hallr hx hbad, ?_⟩
              rw [hX]
              exact below_drewN (below_alloc hCI.bel _ (Nat.le_of_eq hX.symm)) _
            have z1 : decide (x.t < x.f) = false := by simpa using q1
            by_cases q2 : (f.code.length : Int) < x.t
            · have z2 : decide ((f.code.length : Int) < x.t) = true := by simpa using q2
              have hbad : handB f x = false := by simp [handB, CodeR.within]; omega
              go_wp2
              go_quiet (fail)
              go_wp2
              go_ret
              refine ⟨2, rfl, hand_verdict hlim hallr hx hbad, ?_⟩
              rw [hX]
              exact below_drewN (below_alloc hCI.bel _ (Nat.le_of_eq hX.symm)) _
            have z2 : decide ((f.code.length : Int) < x.t) = false := by simpa using q2
            by_cases q3 : x.g < 0
            · have z3 : decide (x.g < 0) = true := by simpa using q3
              have hbad : handB f x = false := by simp [handB, CodeR.within]; omega
              go_wp2
              go_quiet (fail)
              go_wp2
              go_ret
              refine ⟨2, rfl, hand_verdict hlim hallr hx hbad, ?_⟩
              rw [hX]
              exact below_drewN (below_alloc hCI.bel _ (Nat.le_of_eq hX.symm)) _
            have z3 : decide (x.g < 0) = false := by simpa using q3
            by_cases q4 : (f.code.length : Int) ≤ x.g
            · have z4 : decide ((f.code.length : Int) ≤ x.g) = true := by simpa using q4
              have hbad : handB f x = false := by simp [handB, CodeR.within]; omega
              go_wp2
              go_quiet (fail)
              go_wp2
              go_ret
              refine ⟨2, rfl, hand_verdict hlim hallr hx hbad, ?_⟩
              rw [hX]
              exact below_drewN (below_alloc hCI.bel _ (Nat.le_of_eq hX.symm)) _
            have z4 : decide ((f.code.length : Int) ≤ x.g) = false := by simpa using q4
            have hgood : handB f x = true := by simp [handB, CodeR.within]; omega
            have hC : ∀ ob n, Calls Tryd.prog 83 #[.int .i64 x.g, .int .i64 1, .pointer (some ⟨X, 0, none⟩), .pointer (some ⟨dx + 1 + 1, 0, none⟩), .pointer (some ⟨dx, 0, none⟩), .pointer (some ⟨dx + 1, 0, none⟩)] ((wr.alloc ob).drewN n)
              fun r w' => r = .returned (.tuple #[]) ∧ ∃ v', CI w w' X (dx + 1 + 1) dx (dx + 1) da (dx + 3) fb fo (comeD deep e x.g.toNat 1).1 (nextT deep todo x.g.toNat 1) (comeD deep e x.g.toNat 1).2 v' := by
              intro ob n
              have h := come_c x.g.toNat 1 (hCI.keep (w' := (wr.alloc ob).drewN n) (below_drewN (below_alloc (Below.refl _ _) _ (Nat.le_refl _)) _)) hX hf hfi l2 hPS
              rw [Int.toNat_of_nonneg (by omega)] at h
              refine h.mono ?_
              rintro r w' ⟨h1, v', h2, _⟩
              exact ⟨h1, v', h2⟩
            go_wp2
            go_quiet (fail)
            go_wp2_with (go_at_call 83; refine (hC _ _).mono ?_; rintro r w4 ⟨rfl, v4, hCI4⟩)

            go_roundw
            case rel =>
              obtain ⟨hP4, hL4, hE4, _⟩ := hPS.come (p := x.g.toNat) (n := 1) (by decide) (forced_hand hx)
              refine ⟨k + 1, _, _, _, _, by omega, by simp, ?_, hCI4, hP4, ?_⟩
              · intro j y hj hy
                by_cases hjk : j = k
                · subst hjk; rw [hx] at hy; cases hy; exact hgood
                · exact hallh j y (by omega) hy
              · exact (hSt.keep (fun h0 => (hE4 h0).1) hL4).more hx (fun h0 => (hE4 h0).2)
            case measure => simp [intOf]; omega
          · obtain rfl : k = f.hs.length := by omega
            have hkd : decide ((f.hs.length : Int) < (f.hs.length : Int)) = false := by simp
            have hallH : f.hs.all (handB f) = true := by
              rw [List.all_eq_true]
              intro y hy
              obtain ⟨j, hj⟩ := List.mem_iff_getElem?.mp hy
              exact hallh j y (List.getElem?_eq_some_iff.mp hj).1 hj
            clear hallh
            have bfx := cell_of_one hCI.cs.fbox
            have c5 : wr.cell? ⟨fb, fo + 5, none⟩ = some (.slice oa5 f.vars.length f.varsS.c) := (hCI.bel.cell (p := ⟨fb, fo + 5, none⟩) hlt3).trans hf5
            go_wp2
            go_loopw [145] (fun v wr => ∃ k : Nat, k ≤ f.vars.length ∧ v = .int .i64 (k : Int) ∧ (∀ j x, j < k → f.vars[j]? = some x → varB f x = true) ∧ CI w wr X (dx + 1 + 1) dx (dx + 1) da (dx + 3) fb fo deep todo e vt) (fun v _ => f.vars.length - (intOf v).toNat)
            case atStart => exact ⟨0, Nat.zero_le _, rfl, fun j x hj => by omega, hCI⟩
            case round =>
              clear hCI bfx c5
              obtain ⟨k, hk, rfl, hallv, hCI⟩ := hrel
              by_cases hkn : k < f.vars.length
              · obtain ⟨x, hx⟩ : ∃ x, f.vars[k]? = some x := ⟨_, List.getElem?_eq_getElem hkn⟩
                have hkd : decide ((k : Int) < (f.vars.length : Int)) = true := by simp; omega
                have hoa := hoa5 (by omega)
                subst hoa
                have hxr : Row wr f.varsS.b (f.varsS.o + k * 5) x.vals := (hfi.vars.row k x.vals (by rw [List.getElem?_map, hx]; rfl)).below hCI.bel (Nat.le_of_eq hX)
                have e0 : wr.cell? ⟨f.varsS.b, f.varsS.o + k * 5, none⟩ = some (.string x.name) := hxr 0 _ rfl
                have e1 : wr.cell? ⟨f.varsS.b, f.varsS.o + k * 5 + 1, none⟩ = some (.int .i64 x.slot) := hxr 1 _ rfl
                have e2 : wr.cell? ⟨f.varsS.b, f.varsS.o + k * 5 + 2, none⟩ = some (.int .i64 x.f) := hxr 2 _ rfl
                have e3 : wr.cell? ⟨f.varsS.b, f.varsS.o + k * 5 + 3, none⟩ = some (.int .i64 x.t) := hxr 3 _ rfl
                have e4 : wr.cell? ⟨f.varsS.b, f.varsS.o + k * 5 + 4, none⟩ = some (.bool x.boxed) := hxr 4 _ rfl
                have bfx := alloc_cell (cell_of_one hCI.cs.fbox)
                have c2 := alloc_cell ((hCI.bel.cell (p := ⟨fb, fo + 2, none⟩) hlt3).trans hf2)
                have c3 := alloc_cell ((hCI.bel.cell (p := ⟨fb, fo + 3, none⟩) hlt3).trans hf3)
                by_cases q0 : x.slot < 0
                · have z0 : decide (x.slot < 0) = true := by simpa using q0
                  have hbad : varB f x = false := by simp [varB, CodeR.within]; omega
                  go_wp2
                  go_quiet (fail)
                  go_wp2
                  go_ret
                  refine ⟨2, rfl, var_verdict hlim hallr hx hbad, ?_⟩
                  rw [hX]
                  exact below_drewN (below_alloc hCI.bel _ (Nat.le_of_eq hX.symm)) _
                have z0 : decide (x.slot < 0) = false := by simpa using q0
                by_cases q1 : f.slots ≤ x.slot
                · have z1 : decide (f.slots ≤ x.slot) = true := by simpa using q1
                  have hbad : varB f x = false := by simp [varB, CodeR.within]; omega
                  go_wp2
                  go_quiet (fail)
                  go_wp2
                  go_ret
                  refine ⟨2, rfl, var_verdict hlim hallr hx hbad, ?_⟩
                  rw [hX]
                  exact below_drewN (below_alloc hCI.bel _ (Nat.le_of_eq hX.symm)) _
                have z1 : decide (f.slots ≤ x.slot) = false := by simpa using q1
                by_cases q2 : x.f < 0
                · have z2 : decide (x.f < 0) = true := by simpa using q2
                  have hbad : varB f x = false := by simp [varB, CodeR.within]; omega
                  go_wp2
                  go_quiet (fail)
                  go_wp2
                  go_ret
                  refine ⟨2, rfl, var_verdict hlim hallr hx hbad, ?_⟩
                  rw [hX]
                  exact below_drewN (below_alloc hCI.bel _ (Nat.le_of_eq hX.symm)) _
                have z2 : decide (x.f < 0) = false := by simpa using q2
                by_cases q3 : x.t < x.f
                · have z3 : decide (x.t < x.f) = true := by simpa using q3
                  have hbad : varB f x = false := by simp [varB, CodeR.within]; omega
                  go_wp2
                  go_quiet (fail)
                  go_wp2
                  go_ret
                  refine ⟨2, rfl, var_verdict hlim hallr hx hbad, ?_⟩
                  rw [hX]
                  exact below_drewN (below_alloc hCI.bel _ (Nat.le_of_eq hX.symm)) _
                have z3 : decide (x.t < x.f) = false := by simpa using q3
                by_cases q4 : (f.code.length : Int) < x.t
                · have z4 : decide ((f.code.length : Int) < x.t) = true := by simpa using q4
                  have hbad : varB f x = false := by simp [varB, CodeR.within]; omega
                  go_wp2
                  go_quiet (fail)
                  go_wp2
                  go_ret
                  refine ⟨2, rfl, var_verdict hlim hallr hx hbad, ?_⟩
                  rw [hX]
                  exact below_drewN (below_alloc hCI.bel _ (Nat.le_of_eq hX.symm)) _
                have z4 : decide ((f.code.length : Int) < x.t) = false := by simpa using q4
                have hgood : varB f x = true := by simp [varB, CodeR.within]; omega
                have hC4 : ∀ ob n, CI w ((wr.alloc ob).drewN n) X (dx + 1 + 1) dx (dx + 1) da (dx + 3) fb fo deep todo e vt := fun ob n => hCI.keep (below_drewN (below_alloc (Below.refl _ _) _ (Nat.le_refl _)) _)
                go_wp2
                go_quiet (fail)
                go_wp2
                go_roundw
                case rel =>
                  refine ⟨k + 1, by omega, by simp, ?_, hC4 _ _⟩
                  intro j y hj hy
                  by_cases hjk : j = k
                  · subst hjk; rw [hx] at hy; cases hy; exact hgood
                  · exact hallv j y (by omega) hy
                case measure => simp [intOf]; omega
              · obtain rfl : k = f.vars.length := by omega
                have hkd : decide ((f.vars.length : Int) < (f.vars.length : Int)) = false := by simp
                have hallV : f.vars.all (varB f) = true := by
                  rw [List.all_eq_true]
                  intro y hy
                  obtain ⟨j, hj⟩ := List.mem_iff_getElem?.mp hy
                  exact hallv j y (List.getElem?_eq_some_iff.mp hj).1 hj
                clear hallv hoa4 hoa5 hf4 hf5
                go_wp2
                go_loopg [] (todo.length + 2 * unl deep) (fun N wr => ∃ (deep : List Int) (todo : List Nat) (e : Int) (vt : Value), N = todo.length + 2 * unl deep ∧ CI w wr X (dx + 1 + 1) dx (dx + 1) da (dx + 3) fb fo deep todo e vt ∧ PS f (fun _ => False) deep todo e ∧ St f f.hs.length deep e)
                case atStart => exact ⟨_, _, _, _, rfl, hCI, hPS, hSt⟩
                case round =>
                  clear hCI hPS hSt
                  obtain ⟨deep, todo_1, e, vt, hN, hCI, hPS, hSt⟩ := hrel
                  have hXs : X ≤ wr.heap.size := by have := hCI.big; have := hCI.cs.low; omega
                  have bex := cell_of_one hCI.cs.ebox
                  rcases List.eq_nil_or_concat todo_1 with rfl | ⟨t, p, ht1⟩
                  · obtain ⟨oa, cap, rfl⟩ := own_slice hCI.cs.own
                    have btx : wr.cell? ⟨dx + 1, 0, none⟩ = some (.slice oa 0 cap) := cell_of_one hCI.cs.tbox
                    have hend : (e = 0 ∧ ∃ d, Fits f d) ∨ (e = 3 ∧ ∀ d, ¬ Fits f d) := by
                      rcases hPS.e3 with rfl | rfl
                      · exact Or.inl ⟨rfl, hPS.fits hSt⟩
                      · exact Or.inr ⟨rfl, hPS.none (by decide)⟩
                    have hv := end_verdict hlim hallr hallH hallV hend
                    clear hend
                    go_wp2
                    go_ret
                    refine ⟨e, rfl, hv, ?_⟩
                    rw [hX]
                    exact hCI.bel
                  · rw [List.concat_eq_append] at ht1
                    subst ht1
                    obtain ⟨g, cap, rfl, hcap, hcell, hCI2⟩ := CodeXb.CI.last hCI
                    have btx : wr.cell? ⟨dx + 1, 0, none⟩ = some (.slice (some ⟨g, 0, none⟩) (t.length + 1) cap) := cell_of_one hCI.cs.tbox
                    have btz := free_of_one hCI.cs.tbox
                    have hroom := hPS.room
                    rw [List.length_append, List.length_singleton] at hroom
                    have hpos : decide ((0 : Int) < (t.length : Int) + 1) = true := decide_eq_true (by omega)
                    have htl : (t.length : Int) + 1 ≤ 5000 := by omega
                    by_cases he0 : e = 0
                    · subst he0
                      obtain ⟨n0, hl0, hPp⟩ := hPS.pop
                      have hp2 : p < deep.length := lab_lt hl0
                      rw [hPS.inv.len] at hp2
                      obtain ⟨x, hx⟩ : ∃ x, f.code[p]? = some x := ⟨_, List.getElem?_eq_getElem hp2⟩
                      have hxright : rightB m f x = true := List.all_eq_true.mp hallr x (List.mem_of_getElem? hx)
                      obtain ⟨no, nb1, nb2, na, _, _⟩ := right_nums hxright
                      obtain ⟨tk0, tk1, lv0, lv1⟩ := take_nums hxright
                      have hn0 := hPS.inv.range n0 (List.mem_of_getElem? (lab_some hl0).1)
                      have hn00 := (lab_some hl0).2
                      have hdg : deep.getD p 0 = n0 := by rw [List.getD_eq_getElem?_getD, (lab_some hl0).1]; rfl
                      have hlow := hCI.cs.low
                      have hhi := hCI.cs.high
                      have hbig := hCI.big
                      -- the world without the last of todo
                      have hne : ¬ dx + 1 = fb := by omega
                      have hfb := hCI2.bel
                      generalize hw5 : wr.setCell ⟨dx + 1, 0, none⟩ (.slice (some ⟨g, 0, none⟩) t.length cap) = w5 at *
                      have hs5 : w5.heap.size = wr.heap.size := by rw [← hw5]; simp [World.setCell]
                      have bfx5 := cell_of_one hCI2.cs.fbox
                      have c35 := (hCI2.bel.cell (p := ⟨fb, fo + 3, none⟩) hlt3).trans hf3
                      have hxr : Row w5 f.codeS.b (f.codeS.o + p * 3) x.vals := (hrow p x hx).below hCI2.bel (Nat.le_of_eq hX)
                      have e0 : w5.cell? ⟨f.codeS.b, f.codeS.o + p * 3, none⟩ = some (.int .i64 x.op) := hxr 0 _ rfl
                      have e1 : w5.cell? ⟨f.codeS.b, f.codeS.o + p * 3 + 1, none⟩ = some (.int .i64 x.a) := hxr 1 _ rfl
                      have e2 : w5.cell? ⟨f.codeS.b, f.codeS.o + p * 3 + 2, none⟩ = some (.int .i64 x.b) := hxr 2 _ rfl
                      have hpc : decide ((p : Int) < (f.code.length : Int)) = true := by simp; omega
                      clear hxr hrow
                      have hi1 : (0 : Int) ≤ (t.length : Int) := by omega
                      have hi2 : (t.length : Int) < (t.length : Int) + 1 := by omega
                      have hi3 : (t.length : Int) + 1 ≤ (cap : Int) := by omega
                      go_wp2_with fail
                      refine (takes_any x _ no nb1 nb2).mono ?_
                      rintro r w6 ⟨rfl, hb6⟩
                      have hb56 : Below w5.heap.size w5 w6 := (below_alloc (Below.refl _ _) _ (Nat.le_refl _)).trans (hb6.mono (by simp))
                      have hC6 := hCI2.keep hb56
                      have hx6 : w6.heap[wr.heap.size]? = some (.cells #[.int .i64 x.op, .int .i64 x.a, .int .i64 x.b] 134 (0, 0)) := by
                        rw [← hs5]
                        exact (hb6.block _ (by simp)).trans (heap_alloc_new w5 _)
                      have xo : w6.cell? ⟨wr.heap.size, 0, none⟩ = some (.int .i64 x.op) := Lib.cell_of_block hx6 rfl
                      have xa : w6.cell? ⟨wr.heap.size, 1, none⟩ = some (.int .i64 x.a) := Lib.cell_of_block hx6 rfl
                      have hWs : ¬ Ws (dx + 1 + 1) da (dx + 1) (.slice (some ⟨g, 0, none⟩) t.length cap) wr.heap.size := by
                        have hg := own_base hCI.cs.own rfl
                        rintro (h | h | h | h)
                        · omega
                        · omega
                        · omega
                        · cases h; exact Nat.lt_irrefl _ hg.2
                      have bdx := cell_of_one hC6.cs.dbox
                      have dc := hC6.cs.dcell (by rw [hPS.inv.len]; exact hp2)
                      rw [hdg] at dc
                      rw [hPS.inv.len] at bdx
                      have hp0 : (0 : Int) ≤ (p : Int) := by omega
                      have hp1 : (p : Int) < (f.code.length : Int) := by omega
                      have hXs6 : X ≤ w6.heap.size := by have := hb56.size; omega
                      clear bfx5 c35 e0 e1 e2 hb6 hb56 hx6 bex btx btz hcell hfb
                      clear hw5
                      by_cases q : n0 < takeI x
                      · have hv := end_verdict hlim hallr hallH hallV (Or.inr ⟨rfl, hPS.inv.few hl0 hx q⟩)
                        have hq : decide (n0 < takeI x) = true := by simpa using q
                        go_wp2_with fail
                        go_ret
                        refine ⟨3, rfl, hv, ?_⟩
                        rw [hX]
                        exact hC6.bel
                      · have hq : decide (n0 < takeI x) = false := by simpa using q
                        have hnn : 0 ≤ n0 - takeI x + leaveI x := by omega
                        have hn2 : n0 - takeI x + leaveI x ≤ 201 := by omega
                        -- one comes to a place
                        have hcome : ∀ (wz : World) (deep : List Int) (todo : List Nat) (e : Int) (v : Value) (p' : Nat) (n' : Int), CI w wz X (dx + 1 + 1) dx (dx + 1) da (dx + 3) fb fo deep todo e v → PS f (fun i => i = p) deep todo e →
                            Calls Tryd.prog 83 #[.int .i64 (p' : Int), .int .i64 n', .pointer (some ⟨X, 0, none⟩), .pointer (some ⟨dx + 1 + 1, 0, none⟩), .pointer (some ⟨dx, 0, none⟩), .pointer (some ⟨dx + 1, 0, none⟩)] wz
                              fun r w' => r = .returned (.tuple #[]) ∧ ∃ v', CI w w' X (dx + 1 + 1) dx (dx + 1) da (dx + 3) fb fo (comeD deep e p' n').1 (nextT deep todo p' n') (comeD deep e p' n').2 v' ∧ Turned (Ws (dx + 1 + 1) da (dx + 1) v) wz w' :=
                          fun wz deep todo e v p' n' h1 h2 => come_c p' n' h1 hX hf hfi l2 h2
                        by_cases o15 : x.op = 15
                        · have oo := o15
                          have t15 : (x.op == 15) = true := by simpa using o15
                          have hends : endsB x.op = true := by simp [endsB, o15]
                          obtain ⟨a, ha⟩ : ∃ a : Nat, x.a = (a : Int) := ⟨x.a.toNat, by rw [Int.toNat_of_nonneg (by omega)]⟩
                          have hgo : goI x = some (x.a, 0) := by simp [goI, oo]
                          clear oo o15 na no nb1 nb2
                          have hfa : ∀ d, Fits f d → d a = some (n0 - takeI x + leaveI x) := by
                            have h := hPS.inv.goes hl0 hx (follows_go (p := p) (n := n0) hgo)
                            simp only [ha, Int.toNat_natCast, Int.add_zero] at h
                            exact h
                          rw [ha] at xa
                          have ha' : Aside (x.a = (a : Int)) := ha
                          clear ha
                          obtain ⟨hP7, hL7, hE7, hM7⟩ := hPp.come (p := a) (n := (n0 - takeI x + leaveI x)) (by omega) hfa
                          go_wp2_with fail
                          refine (hcome w6 deep t 0 _ a (n0 - takeI x + leaveI x) hC6 hPp).mono ?_
                          rintro r w7 ⟨rfl, v7, hC7, hT7⟩
                          have xo7 := keep_box hT7 hWs xo
                          clear xo xa dc bdx
                          go_wp2_with fail
                          refine (ends_any x.op _).mono ?_
                          rintro r w8 ⟨rfl, hw8⟩
                          rw [hw8]
                          clear hw8 w8
                          rw [hends]
                          have hdone := step_done (k := f.hs.length) (deep' := (comeD deep 0 a (n0 - takeI x + leaveI x)).1) (todo' := (nextT deep t a (n0 - takeI x + leaveI x))) (e' := (comeD deep 0 a (n0 - takeI x + leaveI x)).2) hl0 hx (by omega) hP7 (hL7) ?_ hSt
                          rotate_left
                          · intro h0 y hy
                            rcases follows_cases hy with ⟨to, k, hto, rfl⟩ | ⟨hen, rfl⟩
                            · rw [hgo] at hto; cases hto
                              have h9 := (hE7 h0).2
                              simp only [ha'.out, Int.toNat_natCast, Int.add_zero]
                              exact h9
                            · rw [hends] at hen; cases hen
                          go_wp2_with fail
                          go_roundg (((nextT deep t a (n0 - takeI x + leaveI x))).length + 2 * unl (comeD deep 0 a (n0 - takeI x + leaveI x)).1)
                          case measure => rw [List.length_append, List.length_singleton] at hN; omega
                          case rel => exact ⟨_, _, _, _, rfl, hC7, hdone.1, hdone.2⟩
                        have t15 : (x.op == 15) = false := by simpa using o15
                        by_cases o16 : x.op = 16
                        · have oo := o16
                          have t16 : (x.op == 16) = true := by simpa using o16
                          have hends : endsB x.op = false := by simp [endsB, o16]
                          obtain ⟨a, ha⟩ : ∃ a : Nat, x.a = (a : Int) := ⟨x.a.toNat, by rw [Int.toNat_of_nonneg (by omega)]⟩
                          have hgo : goI x = some (x.a, 0) := by simp [goI, oo]
                          clear oo o16 na no nb1 nb2
                          have hfa : ∀ d, Fits f d → d a = some (n0 - takeI x + leaveI x) := by
                            have h := hPS.inv.goes hl0 hx (follows_go (p := p) (n := n0) hgo)
                            simp only [ha, Int.toNat_natCast, Int.add_zero] at h
                            exact h
                          rw [ha] at xa
                          have ha' : Aside (x.a = (a : Int)) := ha
                          clear ha
                          obtain ⟨hP7, hL7, hE7, hM7⟩ := hPp.come (p := a) (n := (n0 - takeI x + leaveI x)) (by omega) hfa
                          go_wp2_with fail
                          refine (hcome w6 deep t 0 _ a (n0 - takeI x + leaveI x) hC6 hPp).mono ?_
                          rintro r w7 ⟨rfl, v7, hC7, hT7⟩
                          have xo7 := keep_box hT7 hWs xo
                          clear xo xa dc bdx
                          go_wp2_with fail
                          refine (ends_any x.op _).mono ?_
                          rintro r w8 ⟨rfl, hw8⟩
                          rw [hw8]
                          clear hw8 w8
                          rw [hends]
                          have hfo : ∀ d, Fits f d → d (p + 1) = some (n0 - takeI x + leaveI x) := by
                            have h := hPS.inv.goes hl0 hx (follows_on (p := p) (n := n0) hends)
                            have h1 : ((p : Int) + 1).toNat = p + 1 := by omega
                            simp only [h1] at h
                            exact h
                          obtain ⟨hP9, hL9, hE9, hM9⟩ := hP7.come (p := p + 1) (n := (n0 - takeI x + leaveI x)) (by omega) hfo
                          have hC9 := hcome w7 _ _ _ _ (p + 1) (n0 - takeI x + leaveI x) hC7 hP7
                          have hcast : ((p + 1 : Nat) : Int) = (p : Int) + 1 := by omega
                          rw [hcast] at hC9
                          clear hcast
                          go_wp2_with fail
                          refine hC9.mono ?_
                          rintro r w9 ⟨rfl, v9, hC9, hT9⟩
                          have hdone := step_done (k := f.hs.length) (deep' := (comeD (comeD deep 0 a (n0 - takeI x + leaveI x)).1 (comeD deep 0 a (n0 - takeI x + leaveI x)).2 (p + 1) (n0 - takeI x + leaveI x)).1) (todo' := (nextT (comeD deep 0 a (n0 - takeI x + leaveI x)).1 (nextT deep t a (n0 - takeI x + leaveI x)) (p + 1) (n0 - takeI x + leaveI x))) (e' := (comeD (comeD deep 0 a (n0 - takeI x + leaveI x)).1 (comeD deep 0 a (n0 - takeI x + leaveI x)).2 (p + 1) (n0 - takeI x + leaveI x)).2) hl0 hx (by omega) hP9 (fun i k h => hL9 i k (hL7 i k h)) ?_ hSt
                          rotate_left
                          · intro h0 y hy
                            rcases follows_cases hy with ⟨to, k, hto, rfl⟩ | ⟨hen, rfl⟩
                            · rw [hgo] at hto; cases hto
                              have h9 := hL9 _ _ (hE7 (hE9 h0).1).2
                              simp only [ha'.out, Int.toNat_natCast, Int.add_zero]
                              exact h9
                            · have h1 : ((p : Int) + 1).toNat = p + 1 := by omega
                              simp only [h1]
                              exact (hE9 h0).2
                          go_wp2_with fail
                          go_roundg (((nextT (comeD deep 0 a (n0 - takeI x + leaveI x)).1 (nextT deep t a (n0 - takeI x + leaveI x)) (p + 1) (n0 - takeI x + leaveI x))).length + 2 * unl (comeD (comeD deep 0 a (n0 - takeI x + leaveI x)).1 (comeD deep 0 a (n0 - takeI x + leaveI x)).2 (p + 1) (n0 - takeI x + leaveI x)).1)
                          case measure => rw [List.length_append, List.length_singleton] at hN; omega
                          case rel => exact ⟨_, _, _, _, rfl, hC9, hdone.1, hdone.2⟩
                        have t16 : (x.op == 16) = false := by simpa using o16
                        by_cases o17 : x.op = 17
                        · have oo := o17
                          have t17 : (x.op == 17) = true := by simpa using o17
                          have hends : endsB x.op = false := by simp [endsB, o17]
                          obtain ⟨a, ha⟩ : ∃ a : Nat, x.a = (a : Int) := ⟨x.a.toNat, by rw [Int.toNat_of_nonneg (by omega)]⟩
                          have hgo : goI x = some (x.a, 1) := by simp [goI, oo]
                          clear oo o17 na no nb1 nb2
                          have hfa : ∀ d, Fits f d → d a = some ((n0 - takeI x + leaveI x) + 1) := by
                            have h := hPS.inv.goes hl0 hx (follows_go (p := p) (n := n0) hgo)
                            simp only [ha, Int.toNat_natCast] at h
                            exact h
                          rw [ha] at xa
                          have ha' : Aside (x.a = (a : Int)) := ha
                          clear ha
                          obtain ⟨hP7, hL7, hE7, hM7⟩ := hPp.come (p := a) (n := ((n0 - takeI x + leaveI x) + 1)) (by omega) hfa
                          go_wp2_with fail
                          refine (hcome w6 deep t 0 _ a ((n0 - takeI x + leaveI x) + 1) hC6 hPp).mono ?_
                          rintro r w7 ⟨rfl, v7, hC7, hT7⟩
                          have xo7 := keep_box hT7 hWs xo
                          clear xo xa dc bdx
                          go_wp2_with fail
                          refine (ends_any x.op _).mono ?_
                          rintro r w8 ⟨rfl, hw8⟩
                          rw [hw8]
                          clear hw8 w8
                          rw [hends]
                          have hfo : ∀ d, Fits f d → d (p + 1) = some (n0 - takeI x + leaveI x) := by
                            have h := hPS.inv.goes hl0 hx (follows_on (p := p) (n := n0) hends)
                            have h1 : ((p : Int) + 1).toNat = p + 1 := by omega
                            simp only [h1] at h
                            exact h
                          obtain ⟨hP9, hL9, hE9, hM9⟩ := hP7.come (p := p + 1) (n := (n0 - takeI x + leaveI x)) (by omega) hfo
                          have hC9 := hcome w7 _ _ _ _ (p + 1) (n0 - takeI x + leaveI x) hC7 hP7
                          have hcast : ((p + 1 : Nat) : Int) = (p : Int) + 1 := by omega
                          rw [hcast] at hC9
                          clear hcast
                          go_wp2_with fail
                          refine hC9.mono ?_
                          rintro r w9 ⟨rfl, v9, hC9, hT9⟩
                          have hdone := step_done (k := f.hs.length) (deep' := (comeD (comeD deep 0 a ((n0 - takeI x + leaveI x) + 1)).1 (comeD deep 0 a ((n0 - takeI x + leaveI x) + 1)).2 (p + 1) (n0 - takeI x + leaveI x)).1) (todo' := (nextT (comeD deep 0 a ((n0 - takeI x + leaveI x) + 1)).1 (nextT deep t a ((n0 - takeI x + leaveI x) + 1)) (p + 1) (n0 - takeI x + leaveI x))) (e' := (comeD (comeD deep 0 a ((n0 - takeI x + leaveI x) + 1)).1 (comeD deep 0 a ((n0 - takeI x + leaveI x) + 1)).2 (p + 1) (n0 - takeI x + leaveI x)).2) hl0 hx (by omega) hP9 (fun i k h => hL9 i k (hL7 i k h)) ?_ hSt
                          rotate_left
                          · intro h0 y hy
                            rcases follows_cases hy with ⟨to, k, hto, rfl⟩ | ⟨hen, rfl⟩
                            · rw [hgo] at hto; cases hto
                              have h9 := hL9 _ _ (hE7 (hE9 h0).1).2
                              simp only [ha'.out, Int.toNat_natCast]
                              exact h9
                            · have h1 : ((p : Int) + 1).toNat = p + 1 := by omega
                              simp only [h1]
                              exact (hE9 h0).2
                          go_wp2_with fail
                          go_roundg (((nextT (comeD deep 0 a ((n0 - takeI x + leaveI x) + 1)).1 (nextT deep t a ((n0 - takeI x + leaveI x) + 1)) (p + 1) (n0 - takeI x + leaveI x))).length + 2 * unl (comeD (comeD deep 0 a ((n0 - takeI x + leaveI x) + 1)).1 (comeD deep 0 a ((n0 - takeI x + leaveI x) + 1)).2 (p + 1) (n0 - takeI x + leaveI x)).1)
                          case measure => rw [List.length_append, List.length_singleton] at hN; omega
                          case rel => exact ⟨_, _, _, _, rfl, hC9, hdone.1, hdone.2⟩
                        have t17 : (x.op == 17) = false := by simpa using o17
                        by_cases o18 : x.op = 18
                        · have oo := o18
                          have t18 : (x.op == 18) = true := by simpa using o18
                          have hends : endsB x.op = false := by simp [endsB, o18]
                          obtain ⟨a, ha⟩ : ∃ a : Nat, x.a = (a : Int) := ⟨x.a.toNat, by rw [Int.toNat_of_nonneg (by omega)]⟩
                          have hgo : goI x = some (x.a, 1) := by simp [goI, oo]
                          clear oo o18 na no nb1 nb2
                          have hfa : ∀ d, Fits f d → d a = some ((n0 - takeI x + leaveI x) + 1) := by
                            have h := hPS.inv.goes hl0 hx (follows_go (p := p) (n := n0) hgo)
                            simp only [ha, Int.toNat_natCast] at h
                            exact h
                          rw [ha] at xa
                          have ha' : Aside (x.a = (a : Int)) := ha
                          clear ha
                          obtain ⟨hP7, hL7, hE7, hM7⟩ := hPp.come (p := a) (n := ((n0 - takeI x + leaveI x) + 1)) (by omega) hfa
                          go_wp2_with fail
                          refine (hcome w6 deep t 0 _ a ((n0 - takeI x + leaveI x) + 1) hC6 hPp).mono ?_
                          rintro r w7 ⟨rfl, v7, hC7, hT7⟩
                          have xo7 := keep_box hT7 hWs xo
                          clear xo xa dc bdx
                          go_wp2_with fail
                          refine (ends_any x.op _).mono ?_
                          rintro r w8 ⟨rfl, hw8⟩
                          rw [hw8]
                          clear hw8 w8
                          rw [hends]
                          have hfo : ∀ d, Fits f d → d (p + 1) = some (n0 - takeI x + leaveI x) := by
                            have h := hPS.inv.goes hl0 hx (follows_on (p := p) (n := n0) hends)
                            have h1 : ((p : Int) + 1).toNat = p + 1 := by omega
                            simp only [h1] at h
                            exact h
                          obtain ⟨hP9, hL9, hE9, hM9⟩ := hP7.come (p := p + 1) (n := (n0 - takeI x + leaveI x)) (by omega) hfo
                          have hC9 := hcome w7 _ _ _ _ (p + 1) (n0 - takeI x + leaveI x) hC7 hP7
                          have hcast : ((p + 1 : Nat) : Int) = (p : Int) + 1 := by omega
                          rw [hcast] at hC9
                          clear hcast
                          go_wp2_with fail
                          refine hC9.mono ?_
                          rintro r w9 ⟨rfl, v9, hC9, hT9⟩
                          have hdone := step_done (k := f.hs.length) (deep' := (comeD (comeD deep 0 a ((n0 - takeI x + leaveI x) + 1)).1 (comeD deep 0 a ((n0 - takeI x + leaveI x) + 1)).2 (p + 1) (n0 - takeI x + leaveI x)).1) (todo' := (nextT (comeD deep 0 a ((n0 - takeI x + leaveI x) + 1)).1 (nextT deep t a ((n0 - takeI x + leaveI x) + 1)) (p + 1) (n0 - takeI x + leaveI x))) (e' := (comeD (comeD deep 0 a ((n0 - takeI x + leaveI x) + 1)).1 (comeD deep 0 a ((n0 - takeI x + leaveI x) + 1)).2 (p + 1) (n0 - takeI x + leaveI x)).2) hl0 hx (by omega) hP9 (fun i k h => hL9 i k (hL7 i k h)) ?_ hSt
                          rotate_left
                          · intro h0 y hy
                            rcases follows_cases hy with ⟨to, k, hto, rfl⟩ | ⟨hen, rfl⟩
                            · rw [hgo] at hto; cases hto
                              have h9 := hL9 _ _ (hE7 (hE9 h0).1).2
                              simp only [ha'.out, Int.toNat_natCast]
                              exact h9
                            · have h1 : ((p : Int) + 1).toNat = p + 1 := by omega
                              simp only [h1]
                              exact (hE9 h0).2
                          go_wp2_with fail
                          go_roundg (((nextT (comeD deep 0 a ((n0 - takeI x + leaveI x) + 1)).1 (nextT deep t a ((n0 - takeI x + leaveI x) + 1)) (p + 1) (n0 - takeI x + leaveI x))).length + 2 * unl (comeD (comeD deep 0 a ((n0 - takeI x + leaveI x) + 1)).1 (comeD deep 0 a ((n0 - takeI x + leaveI x) + 1)).2 (p + 1) (n0 - takeI x + leaveI x)).1)
                          case measure => rw [List.length_append, List.length_singleton] at hN; omega
                          case rel => exact ⟨_, _, _, _, rfl, hC9, hdone.1, hdone.2⟩
                        have t18 : (x.op == 18) = false := by simpa using o18
                        have hgo : goI x = none := by simp [goI, o15, o16, o17, o18]
                        by_cases oe : x.op = 40 ∨ x.op = 41
                        · have hends : endsB x.op = true := by simp [endsB]; omega
                          go_wp2_with fail
                          refine (ends_any x.op _).mono ?_
                          rintro r w8 ⟨rfl, hw8⟩
                          rw [hw8]
                          clear hw8 w8
                          rw [hends]
                          have hdone := step_done (k := f.hs.length) (deep' := deep) (todo' := t) (e' := (0 : Int)) hl0 hx (by omega) hPp (fun i k h => h) ?_ hSt
                          rotate_left
                          · intro h0 y hy
                            rcases follows_cases hy with ⟨to, k, hto, rfl⟩ | ⟨hen, rfl⟩
                            · rw [hgo] at hto; cases hto
                            · rw [hends] at hen; cases hen
                          go_wp2_with fail
                          go_roundg ((t).length + 2 * unl deep)
                          case measure => rw [List.length_append, List.length_singleton] at hN; omega
                          case rel => exact ⟨_, _, _, _, rfl, hC6, hdone.1, hdone.2⟩
                        · have hends : endsB x.op = false := by simp [endsB]; omega
                          go_wp2_with fail
                          refine (ends_any x.op _).mono ?_
                          rintro r w8 ⟨rfl, hw8⟩
                          rw [hw8]
                          clear hw8 w8
                          rw [hends]
                          have hfo : ∀ d, Fits f d → d (p + 1) = some (n0 - takeI x + leaveI x) := by
                            have h := hPS.inv.goes hl0 hx (follows_on (p := p) (n := n0) hends)
                            have h1 : ((p : Int) + 1).toNat = p + 1 := by omega
                            simp only [h1] at h
                            exact h
                          obtain ⟨hP9, hL9, hE9, hM9⟩ := hPp.come (p := p + 1) (n := (n0 - takeI x + leaveI x)) (by omega) hfo
                          have hC9 := hcome w6 _ _ _ _ (p + 1) (n0 - takeI x + leaveI x) hC6 hPp
                          have hcast : ((p + 1 : Nat) : Int) = (p : Int) + 1 := by omega
                          rw [hcast] at hC9
                          clear hcast
                          go_wp2_with fail
                          refine hC9.mono ?_
                          rintro r w9 ⟨rfl, v9, hC9, hT9⟩
                          have hdone := step_done (k := f.hs.length) (deep' := (comeD deep (0 : Int) (p + 1) (n0 - takeI x + leaveI x)).1) (todo' := (nextT deep t (p + 1) (n0 - takeI x + leaveI x))) (e' := (comeD deep (0 : Int) (p + 1) (n0 - takeI x + leaveI x)).2) hl0 hx (by omega) hP9 (hL9) ?_ hSt
                          rotate_left
                          · intro h0 y hy
                            rcases follows_cases hy with ⟨to, k, hto, rfl⟩ | ⟨hen, rfl⟩
                            · rw [hgo] at hto; cases hto
                            · have h1 : ((p : Int) + 1).toNat = p + 1 := by omega
                              simp only [h1]
                              exact (hE9 h0).2
                          go_wp2_with fail
                          go_roundg (((nextT deep t (p + 1) (n0 - takeI x + leaveI x))).length + 2 * unl (comeD deep (0 : Int) (p + 1) (n0 - takeI x + leaveI x)).1)
                          case measure => rw [List.length_append, List.length_singleton] at hN; omega
                          case rel => exact ⟨_, _, _, _, rfl, hC9, hdone.1, hdone.2⟩
                    · have he3 : e = 3 := hPS.e3.resolve_left he0
                      subst he3
                      have hv := end_verdict hlim hallr hallH hallV (Or.inr ⟨rfl, hPS.none (by decide)⟩)
                      go_wp2
                      go_ret
                      refine ⟨3, rfl, hv, ?_⟩
                      rw [hX]
                      exact hCI.bel
  · rw [h] at hlim; cases hlim
end Go.Proofs.YthbkklnahhdgcaaDoor.CodeX
