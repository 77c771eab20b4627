/-
  The contract of the document's function.
-/
import Derived.Test.YthbkklnahhdgcaaDoorDCodeE
import Derived.Test.YthbkklnahhdgcaaDoorDCodeGa
import Derived.Test.YthbkklnahhdgcaaDoorDMH
import Derived.Deep.LoopGhost
import Derived.Deep.RegionHeld3
namespace Go.Proofs.YthbkklnahhdgcaaDoor.CodeG
open Go Go.Proofs Go.RowKit Go.Maps Lib CodeR CodeA CodeB CodeP CodeD CodeV CodeW CodeXa CodeEa CodeE CodeF CodeGa CodeXb

/-- A function's six cells in its box, behind new blocks too. -/
theorem six {w : World} {X : Nat} {f : Fc} (h : w.heap[X]? = some (.cells f.vals.toArray 130 (0, 0))) :
    w.cell? ⟨X, 0, none⟩ = some (.string f.name) ∧ w.cell? ⟨X, 1, none⟩ = some (.int .i64 f.params) ∧ w.cell? ⟨X, 2, none⟩ = some (.int .i64 f.slots) ∧ w.cell? ⟨X, 3, none⟩ = some (.slice f.codeS.oa f.codeS.n f.codeS.c) ∧ w.cell? ⟨X, 4, none⟩ = some (.slice f.hsS.oa f.hsS.n f.hsS.c) ∧ w.cell? ⟨X, 5, none⟩ = some (.slice f.varsS.oa f.varsS.n f.varsS.c) :=
  ⟨cell_of_block h rfl, cell_of_block h rfl, cell_of_block h rfl, cell_of_block h rfl, cell_of_block h rfl, cell_of_block h rfl⟩
theorem block_alloc {w : World} {X : Nat} {o ob : Obj} (h : w.heap[X]? = some o) : (w.alloc ob).heap[X]? = some o := (Below.heap_alloc _ _ _ (lt_of_block h)).trans h

theorem goI_some {x : I3} {t k : Int} (h : goI x = some (t, k)) : (x.op = 15 ∨ x.op = 16 ∨ x.op = 17 ∨ x.op = 18) ∧ t = x.a ∧ (k = 0 ∨ k = 1) ∧ leaveI x = 0 := by
  unfold goI at h
  split at h
  · rename_i h1
    cases h
    refine ⟨by omega, rfl, Or.inl rfl, ?_⟩
    unfold leaveI
    rw [if_neg (by omega)]
  · split at h
    · rename_i h1 h2
      cases h
      refine ⟨by omega, rfl, Or.inr rfl, ?_⟩
      unfold leaveI
      rw [if_neg (by omega)]
    · cases h

set_option maxRecDepth 100000 in
set_option maxHeartbeats 30000000 in
theorem rfun_ok (mb0 mo0 : Nat) (m : Im) (f : Fc) (w : World) (hm : Row w mb0 mo0 m.vals) (hi : ImIn w m) (hfi : FcIn w f) (hbk : bOk f) (hlim : limB f = true) :
    Calls Tryd.prog 43 #[.pointer (some ⟨mb0, mo0, none⟩), .agg #[.string f.name, .int .i64 f.params, .int .i64 f.slots, .slice f.codeS.oa f.codeS.n f.codeS.c, .slice f.hsS.oa f.hsS.n f.hsS.c, .slice f.varsS.oa f.varsS.n f.varsS.c]] w
      fun r w' => ∃ e, r = .returned (.int .i64 e) ∧ Verdict m f e ∧ Below w.heap.size w w' := by
  have hn := hfi.code.len
  have hn4 := hfi.hs.len
  have hn5 := hfi.vars.len
  rw [List.length_map] at hn hn4 hn5
  rcases lim_cases f with ⟨_, l1, l2, l3, l4, l5, l6⟩ | ⟨h, _⟩
  · have hwi1 : CodeR.within (f.code.length : Int) 1 5000 = true := by simp [CodeR.within]; omega
    have hwi2 : CodeR.within f.params 0 8 = true := by simp [CodeR.within]; omega
    have hwi3 : CodeR.within f.slots f.params 200 = true := by simp [CodeR.within]; omega
    have hco := hfi.code.addr (by omega)
    have hrow := fun i (x : I3) (hx : f.code[i]? = some x) => hfi.code.row i x.vals (by rw [List.getElem?_map, hx]; rfl)
    have hs4 := hfi.hs.small
    have hs5 := hfi.vars.small
    have hoa4 := hfi.hs.addr
    have hoa5 := hfi.vars.addr
    rw [hn4] at hs4 hoa4
    rw [hn5] at hs5 hoa5
    obtain ⟨oa4, ho4⟩ : ∃ oa4, f.hsS.oa = oa4 := ⟨_, rfl⟩
    obtain ⟨oa5, ho5⟩ : ∃ oa5, f.varsS.oa = oa5 := ⟨_, rfl⟩
    rw [ho4] at hoa4
    rw [ho5] at hoa5
    have hV : f.vals.toArray = #[.string f.name, .int .i64 f.params, .int .i64 f.slots, .slice (some ⟨f.codeS.b, f.codeS.o, none⟩) f.code.length f.codeS.c, .slice oa4 f.hs.length f.hsS.c, .slice oa5 f.vars.length f.varsS.c] := by simp [Fc.vals, Sl.val, hn, hn4, hn5, hco, ho4, ho5]
    have hEff : ∀ (wz : World) (x : I3), Below w.heap.size w wz → x ∈ f.code → Calls Tryd.prog 86 #[.pointer (some ⟨mb0, mo0, none⟩), .agg #[.string f.name, .int .i64 f.params, .int .i64 f.slots, .slice (some ⟨f.codeS.b, f.codeS.o, none⟩) f.code.length f.codeS.c, .slice oa4 f.hs.length f.hsS.c, .slice oa5 f.vars.length f.varsS.c], .agg #[.int .i64 x.op, .int .i64 x.a, .int .i64 x.b]] wz fun e w' => EffR m f x e ∧ Below wz.heap.size wz w' := by
      intro wz x hb hx
      have h := eff_any mb0 mo0 m f x wz (hm.below hb (Nat.le_refl _)) (hi.below hb (Nat.le_refl _)) hn l2 (by omega) l6 (hbk x hx)
      rw [hn, hn4, hn5, hco, ho4, ho5] at h
      exact h
    rw [hn, hn4, hn5, hco, ho4, ho5]
    clear ho4 ho5 hn4 hn5 hco
    have hnn : Aside (f.codeS.n = f.code.length) := hn
    clear hn
    have hbx1 : (w.alloc (.cells #[.string f.name, .int .i64 f.params, .int .i64 f.slots, .slice (some ⟨f.codeS.b, f.codeS.o, none⟩) f.code.length f.codeS.c, .slice oa4 f.hs.length f.hsS.c, .slice oa5 f.vars.length f.varsS.c] 130)).heap[w.heap.size]? = some (.cells f.vals.toArray 130 (0, 0)) := by rw [hV]; exact heap_alloc_new w _
    have hbl1 : Below w.heap.size w (w.alloc (.cells #[.string f.name, .int .i64 f.params, .int .i64 f.slots, .slice (some ⟨f.codeS.b, f.codeS.o, none⟩) f.code.length f.codeS.c, .slice oa4 f.hs.length f.hsS.c, .slice oa5 f.vars.length f.varsS.c] 130)) := below_alloc (Below.refl _ _) _ (Nat.le_refl _)
    have hsz1 : (w.alloc (.cells #[.string f.name, .int .i64 f.params, .int .i64 f.slots, .slice (some ⟨f.codeS.b, f.codeS.o, none⟩) f.code.length f.codeS.c, .slice oa4 f.hs.length f.hsS.c, .slice oa5 f.vars.length f.varsS.c] 130)).heap.size = w.heap.size + 1 := by simp
    have hV' : Aside (f.vals.toArray = #[.string f.name, .int .i64 f.params, .int .i64 f.slots, .slice (some ⟨f.codeS.b, f.codeS.o, none⟩) f.code.length f.codeS.c, .slice oa4 f.hs.length f.hsS.c, .slice oa5 f.vars.length f.varsS.c]) := hV
    clear hV
    go_enter Tryd.func43, Tryd.ntmps43
    go_wp2_with (go_at_call 42; refine (within_any _ _ _ _).mono ?_; rintro e w1 ⟨rfl, hw1⟩; rw [hw1]; clear hw1 w1)
    clear hwi1 hwi2 hwi3
    generalize (w.alloc (.cells #[.string f.name, .int .i64 f.params, .int .i64 f.slots, .slice (some ⟨f.codeS.b, f.codeS.o, none⟩) f.code.length f.codeS.c, .slice oa4 f.hs.length f.hsS.c, .slice oa5 f.vars.length f.varsS.c] 130)) = w1 at *
    generalize hX : w.heap.size = X at *
    go_loopw [54] (fun v wr => ∃ k : Nat, k ≤ f.code.length ∧ v = .int .i64 (k : Int) ∧ (∀ j x, j < k → f.code[j]? = some x → rightB m f x = true) ∧ Below (X + 1) w1 wr) (fun v _ => f.code.length - (intOf v).toNat)
    case atStart => exact ⟨0, Nat.zero_le _, rfl, fun j x hj => by omega, Below.refl _ _⟩
    case round =>
      obtain ⟨k, hk, rfl, hall, hb⟩ := hrel
      have hbw : Below X w wr := hbl1.trans (hb.mono (Nat.le_succ X))
      have hsz : X + 1 ≤ wr.heap.size := by have := hb.size; omega
      have hbxr : wr.heap[X]? = some (.cells f.vals.toArray 130 (0, 0)) := (hb.block X (Nat.lt_succ_self X)).trans hbx1
      by_cases hkn : k < f.code.length
      · obtain ⟨x, hx⟩ : ∃ x, f.code[k]? = some x := ⟨_, List.getElem?_eq_getElem hkn⟩
        have hkd : decide ((k : Int) < (f.code.length : Int)) = true := by simp; omega
        have hxr : Row wr f.codeS.b (f.codeS.o + k * 3) x.vals := (hrow k x hx).below hbw (Nat.le_of_eq hX)
        have e0 : wr.cell? ⟨f.codeS.b, f.codeS.o + k * 3, none⟩ = some (.int .i64 x.op) := hxr 0 _ rfl
        have e1 : wr.cell? ⟨f.codeS.b, f.codeS.o + k * 3 + 1, none⟩ = some (.int .i64 x.a) := hxr 1 _ rfl
        have e2 : wr.cell? ⟨f.codeS.b, f.codeS.o + k * 3 + 2, none⟩ = some (.int .i64 x.b) := hxr 2 _ rfl
        have hfb := hbxr
        rw [hV'.out] at hfb
        have f0 := alloc_cell (cell_of_block hfb (i := 0) rfl)
        have f1 := alloc_cell (cell_of_block hfb (i := 1) rfl)
        have f2 := alloc_cell (cell_of_block hfb (i := 2) rfl)
        have f3 := alloc_cell (cell_of_block hfb (i := 3) rfl)
        have f4 := alloc_cell (cell_of_block hfb (i := 4) rfl)
        have f5 := alloc_cell (cell_of_block hfb (i := 5) rfl)
        clear hfb hbxr hrow hxr
        have hT := fun ob => hEff (wr.alloc ob) x (below_alloc hbw _ (Nat.le_of_eq hX.symm)) (List.mem_of_getElem? hx)
        go_wp2_with fail
        refine (hT _).mono ?_
        rintro e w2 ⟨⟨tk, lv, to, th, on, rfl, hres⟩, hb2⟩
        have hb2' : Below (wr.heap.size + 1) (wr.alloc (.cells #[.int .i64 x.op, .int .i64 x.a, .int .i64 x.b] 135)) w2 := by simpa using hb2
        clear f0 f1 f2 f3 f4 f5 e0 e1 e2 hT hb2
        cases hr : rightB m f x
        · rw [hr] at hres
          clear hres
          go_wp2
          go_ret
          refine ⟨2, rfl, right_verdict hlim hx hr, ?_⟩
          try rw [hX]
          exact (below_alloc hbw _ (Nat.le_of_eq hX.symm)).trans (hb2'.mono (by omega))
        · clear hres
          go_wp2
          go_roundw
          case rel =>
            refine ⟨k + 1, by omega, by simp, ?_, ?_⟩
            · intro j y hj hy
              by_cases hjk : j = k
              · subst hjk; rw [hx] at hy; cases hy; exact hr
              · exact hall j y (by omega) hy
            · exact (below_alloc hb _ (by omega)).trans (hb2'.mono (by omega))
          case measure => simp [intOf]; omega
      · obtain rfl : k = f.code.length := by omega
        have hkd : decide ((f.code.length : Int) < (f.code.length : Int)) = false := by simp
        have hallr : f.code.all (rightB m f) = true := by
          rw [List.all_eq_true]
          intro y hy
          obtain ⟨j, hj⟩ := List.mem_iff_getElem?.mp hy
          exact hall j y (List.getElem?_eq_some_iff.mp hj).1 hj
        clear hall
        have hb1 := hb
        have hfb := hbxr
        rw [hV'.out] at hfb
        have f4 : wr.cell? ⟨X, 4, none⟩ = some (.slice oa4 f.hs.length f.hsS.c) := cell_of_block hfb rfl
        clear hb hbw hsz hbxr hfb
        go_wp2
        go_loopw [75] (fun v wr => ∃ k : Nat, k ≤ f.hs.length ∧ v = .int .i64 (k : Int) ∧ (∀ j x, j < k → f.hs[j]? = some x → handB f x = true) ∧ Below (X + 1) w1 wr) (fun v _ => f.hs.length - (intOf v).toNat)
        case atStart => exact ⟨0, Nat.zero_le _, rfl, fun j x hj => by omega, hb1⟩
        case round =>
          clear hb1 f4
          obtain ⟨k, hk, rfl, hallh, hb⟩ := hrel
          have hbw : Below X w wr := hbl1.trans (hb.mono (Nat.le_succ X))
          have hsz : X + 1 ≤ wr.heap.size := by have := hb.size; omega
          have hbxr : wr.heap[X]? = some (.cells f.vals.toArray 130 (0, 0)) := (hb.block X (Nat.lt_succ_self X)).trans hbx1
          have hfb := hbxr
          rw [hV'.out] at hfb
          by_cases hkn : k < f.hs.length
          · obtain ⟨x, hx⟩ : ∃ x, f.hs[k]? = some x := ⟨_, List.getElem?_eq_getElem hkn⟩
            have hkd : decide ((k : Int) < (f.hs.length : Int)) = true := by simp; omega
            have hoa := hoa4 (by omega)
            subst hoa
            have hxr : Row wr f.hsS.b (f.hsS.o + k * 3) x.vals := (hfi.hs.row k x.vals (by rw [List.getElem?_map, hx]; rfl)).below hbw (Nat.le_of_eq hX)
            have e0 : wr.cell? ⟨f.hsS.b, f.hsS.o + k * 3, none⟩ = some (.int .i64 x.f) := hxr 0 _ rfl
            have e1 : wr.cell? ⟨f.hsS.b, f.hsS.o + k * 3 + 1, none⟩ = some (.int .i64 x.t) := hxr 1 _ rfl
            have e2 : wr.cell? ⟨f.hsS.b, f.hsS.o + k * 3 + 2, none⟩ = some (.int .i64 x.g) := hxr 2 _ rfl
            have f3 := alloc_cell (cell_of_block hfb (i := 3) rfl)
            clear hfb hbxr hxr
            by_cases q0 : x.f < 0
            · have z0 : decide (x.f < 0) = true := by simpa using q0
              have hbad : handB f x = false := by simp [handB, CodeR.within]; omega
              go_wp2_with (go_at_call 42; refine (within_any _ _ _ _).mono ?_; rintro e w1 ⟨rfl, hw1⟩; rw [hw1]; clear hw1 w1)
              go_ret
              refine ⟨2, rfl, hand_verdict hlim hallr hx hbad, ?_⟩
              try rw [hX]
              exact below_alloc hbw _ (Nat.le_of_eq hX.symm)
            have z0 : decide (x.f < 0) = false := by simpa using q0
            by_cases q1 : x.t < x.f
            · have z1 : decide (x.t < x.f) = true := by simpa using q1
              have hbad : handB f x = false := by simp [handB, CodeR.within]; omega
              go_wp2_with (go_at_call 42; refine (within_any _ _ _ _).mono ?_; rintro e w1 ⟨rfl, hw1⟩; rw [hw1]; clear hw1 w1)
              go_ret
              refine ⟨2, rfl, hand_verdict hlim hallr hx hbad, ?_⟩
              try rw [hX]
              exact below_alloc hbw _ (Nat.le_of_eq hX.symm)
            have z1 : decide (x.t < x.f) = false := by simpa using q1
            by_cases q2 : (f.code.length : Int) < x.t
            · have z2 : decide ((f.code.length : Int) < x.t) = true := by simpa using q2
              have hbad : handB f x = false := by simp [handB, CodeR.within]; omega
              go_wp2_with (go_at_call 42; refine (within_any _ _ _ _).mono ?_; rintro e w1 ⟨rfl, hw1⟩; rw [hw1]; clear hw1 w1)
              go_ret
              refine ⟨2, rfl, hand_verdict hlim hallr hx hbad, ?_⟩
              try rw [hX]
              exact below_alloc hbw _ (Nat.le_of_eq hX.symm)
            have z2 : decide ((f.code.length : Int) < x.t) = false := by simpa using q2
            cases hwg : CodeR.within x.g 0 ((f.code.length : Int) - 1)
            · have hbad : handB f x = false := by simp [handB, hwg]
              go_wp2_with (go_at_call 42; refine (within_any _ _ _ _).mono ?_; rintro e w1 ⟨rfl, hw1⟩; rw [hw1]; clear hw1 w1)
              go_ret
              refine ⟨2, rfl, hand_verdict hlim hallr hx hbad, ?_⟩
              try rw [hX]
              exact below_alloc hbw _ (Nat.le_of_eq hX.symm)
            · have hgood : handB f x = true := by simp [handB, hwg]; omega
              go_wp2_with (go_at_call 42; refine (within_any _ _ _ _).mono ?_; rintro e w1 ⟨rfl, hw1⟩; rw [hw1]; clear hw1 w1)
              go_roundw
              case rel =>
                refine ⟨k + 1, by omega, by simp, ?_, below_alloc hb _ (by omega)⟩
                intro j y hj hy
                by_cases hjk : j = k
                · subst hjk; rw [hx] at hy; cases hy; exact hgood
                · exact hallh j y (by omega) hy
              case measure => simp [intOf]; omega
          · obtain rfl : k = f.hs.length := by omega
            have hkd : decide ((f.hs.length : Int) < (f.hs.length : Int)) = false := by simp
            have hallH : f.hs.all (handB f) = true := by
              rw [List.all_eq_true]
              intro y hy
              obtain ⟨j, hj⟩ := List.mem_iff_getElem?.mp hy
              exact hallh j y (List.getElem?_eq_some_iff.mp hj).1 hj
            clear hallh
            have hb1 := hb
            have f5 : wr.cell? ⟨X, 5, none⟩ = some (.slice oa5 f.vars.length f.varsS.c) := cell_of_block hfb rfl
            clear hb hbw hsz hbxr hfb
            go_wp2
            go_loopw [111] (fun v wr => ∃ k : Nat, k ≤ f.vars.length ∧ v = .int .i64 (k : Int) ∧ (∀ j x, j < k → f.vars[j]? = some x → varB f x = true) ∧ Below (X + 1) w1 wr) (fun v _ => f.vars.length - (intOf v).toNat)
            case atStart => exact ⟨0, Nat.zero_le _, rfl, fun j x hj => by omega, hb1⟩
            case round =>
              clear hb1 f5
              obtain ⟨k, hk, rfl, hallv, hb⟩ := hrel
              have hbw : Below X w wr := hbl1.trans (hb.mono (Nat.le_succ X))
              have hsz : X + 1 ≤ wr.heap.size := by have := hb.size; omega
              have hbxr : wr.heap[X]? = some (.cells f.vals.toArray 130 (0, 0)) := (hb.block X (Nat.lt_succ_self X)).trans hbx1
              have hfb := hbxr
              rw [hV'.out] at hfb
              by_cases hkn : k < f.vars.length
              · obtain ⟨x, hx⟩ : ∃ x, f.vars[k]? = some x := ⟨_, List.getElem?_eq_getElem hkn⟩
                have hkd : decide ((k : Int) < (f.vars.length : Int)) = true := by simp; omega
                have hoa := hoa5 (by omega)
                subst hoa
                have hxr : Row wr f.varsS.b (f.varsS.o + k * 5) x.vals := (hfi.vars.row k x.vals (by rw [List.getElem?_map, hx]; rfl)).below hbw (Nat.le_of_eq hX)
                have e0 : wr.cell? ⟨f.varsS.b, f.varsS.o + k * 5, none⟩ = some (.string x.name) := hxr 0 _ rfl
                have e1 : wr.cell? ⟨f.varsS.b, f.varsS.o + k * 5 + 1, none⟩ = some (.int .i64 x.slot) := hxr 1 _ rfl
                have e2 : wr.cell? ⟨f.varsS.b, f.varsS.o + k * 5 + 2, none⟩ = some (.int .i64 x.f) := hxr 2 _ rfl
                have e3 : wr.cell? ⟨f.varsS.b, f.varsS.o + k * 5 + 3, none⟩ = some (.int .i64 x.t) := hxr 3 _ rfl
                have e4 : wr.cell? ⟨f.varsS.b, f.varsS.o + k * 5 + 4, none⟩ = some (.bool x.boxed) := hxr 4 _ rfl
                have f2 := alloc_cell (cell_of_block hfb (i := 2) rfl)
                have f3 := alloc_cell (cell_of_block hfb (i := 3) rfl)
                clear hfb hbxr hxr
                cases hws : CodeR.within x.slot 0 (f.slots - 1)
                · have hbad : varB f x = false := by simp [varB, hws]
                  go_wp2_with (go_at_call 42; refine (within_any _ _ _ _).mono ?_; rintro e w1 ⟨rfl, hw1⟩; rw [hw1]; clear hw1 w1)
                  go_ret
                  refine ⟨2, rfl, var_verdict hlim hallr hx hbad, ?_⟩
                  try rw [hX]
                  exact below_alloc hbw _ (Nat.le_of_eq hX.symm)
                by_cases q0 : x.f < 0
                · have z0 : decide (x.f < 0) = true := by simpa using q0
                  have hbad : varB f x = false := by simp [varB]; omega
                  go_wp2_with (go_at_call 42; refine (within_any _ _ _ _).mono ?_; rintro e w1 ⟨rfl, hw1⟩; rw [hw1]; clear hw1 w1)
                  go_ret
                  refine ⟨2, rfl, var_verdict hlim hallr hx hbad, ?_⟩
                  try rw [hX]
                  exact below_alloc hbw _ (Nat.le_of_eq hX.symm)
                have z0 : decide (x.f < 0) = false := by simpa using q0
                by_cases q1 : x.t < x.f
                · have z1 : decide (x.t < x.f) = true := by simpa using q1
                  have hbad : varB f x = false := by simp [varB]; omega
                  go_wp2_with (go_at_call 42; refine (within_any _ _ _ _).mono ?_; rintro e w1 ⟨rfl, hw1⟩; rw [hw1]; clear hw1 w1)
                  go_ret
                  refine ⟨2, rfl, var_verdict hlim hallr hx hbad, ?_⟩
                  try rw [hX]
                  exact below_alloc hbw _ (Nat.le_of_eq hX.symm)
                have z1 : decide (x.t < x.f) = false := by simpa using q1
                by_cases q2 : (f.code.length : Int) < x.t
                · have z2 : decide ((f.code.length : Int) < x.t) = true := by simpa using q2
                  have hbad : varB f x = false := by simp [varB]; omega
                  go_wp2_with (go_at_call 42; refine (within_any _ _ _ _).mono ?_; rintro e w1 ⟨rfl, hw1⟩; rw [hw1]; clear hw1 w1)
                  go_ret
                  refine ⟨2, rfl, var_verdict hlim hallr hx hbad, ?_⟩
                  try rw [hX]
                  exact below_alloc hbw _ (Nat.le_of_eq hX.symm)
                have z2 : decide ((f.code.length : Int) < x.t) = false := by simpa using q2
                have hgood : varB f x = true := by simp [varB, hws]; omega
                go_wp2_with (go_at_call 42; refine (within_any _ _ _ _).mono ?_; rintro e w1 ⟨rfl, hw1⟩; rw [hw1]; clear hw1 w1)
                go_roundw
                case rel =>
                  refine ⟨k + 1, by omega, by simp, ?_, below_alloc hb _ (by omega)⟩
                  intro j y hj hy
                  by_cases hjk : j = k
                  · subst hjk; rw [hx] at hy; cases hy; exact hgood
                  · exact hallv j y (by omega) hy
                case measure => simp [intOf]; omega
              · obtain rfl : k = f.vars.length := by omega
                have hkd : decide ((f.vars.length : Int) < (f.vars.length : Int)) = false := by simp
                have hallV : f.vars.all (varB f) = true := by
                  rw [List.all_eq_true]
                  intro y hy
                  obtain ⟨j, hj⟩ := List.mem_iff_getElem?.mp hy
                  exact hallv j y (List.getElem?_eq_some_iff.mp hj).1 hj
                clear hallv hoa5
                have hmm := @run_makeMap Tryd.prog
                have hmade := World.ownsMap_made (H := Unit) wr Tryd.prog 3 (plainElem Tryd.prog 3)
                have f4 : wr.cell? ⟨X, 4, none⟩ = some (.slice oa4 f.hs.length f.hsS.c) := cell_of_block hfb rfl
                obtain ⟨w2, hins, hown2, hgrow2⟩ := hmade.update (int_keyed Tryd.underlying3) Tryd.underlying96 (by decide) (key := .int .i64 0) (val := .int .i64 0) (keyOf_int_mk Tryd.underlying3 (by decide)) (plainElem_int Tryd.underlying3 (by decide))
                clear f4
                have hk2 : ∀ k, k < wr.heap.size → w2.heap[k]? = wr.heap[k]? := fun k hk => (hgrow2.block k (by simp; omega) (by simp; omega)).trans (Below.heap_alloc _ _ _ hk)
                have hs2 : wr.heap.size + 1 ≤ w2.heap.size := by have := hgrow2.size; simpa using this
                have hfb2 := (hk2 X (by omega)).trans hfb
                have hfx2 := (hk2 X (by omega)).trans hbxr
                have f4 : ∀ o1 o2, ((w2.alloc o1).alloc o2).cell? ⟨X, 4, none⟩ = some (.slice oa4 f.hs.length f.hsS.c) := fun o1 o2 => alloc_cell (alloc_cell (cell_of_block hfb2 rfl) o1) o2
                obtain ⟨hI1, _, hE1⟩ := Inv.comeT (Inv.top f _) (p := 0) (n := 0) (Int.le_refl _) forced_top
                rw [comeD_top f.code.length l1] at hI1 hE1
                have hS1 := St.first (f := f) (fun h0 => (hE1 h0).2)
                have hut := unl_top f.code.length l1
                have hRS := RS_start hfx2 hown2 (deep := (List.replicate f.code.length (-1)).set 0 0) (by rw [List.length_set, List.length_replicate]; omega) (MR.top _ l1) (by omega)
                clear hut
                have hbw2 : Below X w w2 := by
                  refine hbw.trans ⟨hgrow2.os, hgrow2.tape, hgrow2.output, by have := hgrow2.size; simp at this; omega, fun k hk => hk2 k (by omega)⟩
                have hRI : RI w ((w2.alloc (.cells #[.map (some wr.heap.size)] 96)).alloc (.cells #[.bool true] 4)) X (w2.heap.size + 1) w2.heap.size wr.heap.size f ((List.replicate f.code.length (-1)).set 0 0) 0 :=
                  ⟨hRS, below_alloc (below_alloc hbw2 _ (by omega)) _ (by omega)⟩
                clear hRS hE1 hfb2 hfx2 hown2 hgrow2 hk2 hmade hbxr hfb
                clear hbw2
                generalize (List.replicate f.code.length (-1)).set 0 0 = deep1 at *
                go_wp2
                clear hins f4 hmm
                generalize hw3 : (w2.alloc (.cells #[.map (some wr.heap.size)] 96)).alloc (.cells #[.bool true] 4) = w3 at *
                clear hw3
                generalize w2.heap.size = mx at *
                generalize wr.heap.size = mb at *
                clear hs2 hsz hbw hb
                clear wr
                go_loopw [149] (fun v wr => ∃ (k : Nat) (deep : List Int) (e : Int), k ≤ f.hs.length ∧ v = .int .i64 (k : Int) ∧ RI w wr X (mx + 1) mx mb f deep e ∧ Inv f (fun _ => True) deep e ∧ St f k deep e) (fun v _ => f.hs.length - (intOf v).toNat)
                case atStart => exact ⟨0, _, _, Nat.zero_le _, rfl, hRI, hI1, hS1⟩
                case round =>
                  clear hRI hI1 hS1 deep1 w3
                  obtain ⟨k, deep, e, hk, rfl, hRI, hI, hSt⟩ := hrel
                  by_cases hkn : k < f.hs.length
                  · obtain ⟨x, hx⟩ : ∃ x, f.hs[k]? = some x := ⟨_, List.getElem?_eq_getElem hkn⟩
                    have hkd : decide ((k : Int) < (f.hs.length : Int)) = true := by simp; omega
                    have hoa := hoa4 (by omega)
                    subst hoa
                    have hxr : Row wr f.hsS.b (f.hsS.o + k * 3) x.vals := (hfi.hs.row k x.vals (by rw [List.getElem?_map, hx]; rfl)).below hRI.bel (Nat.le_of_eq hX)
                    have e0 : wr.cell? ⟨f.hsS.b, f.hsS.o + k * 3, none⟩ = some (.int .i64 x.f) := hxr 0 _ rfl
                    have e1 : wr.cell? ⟨f.hsS.b, f.hsS.o + k * 3 + 1, none⟩ = some (.int .i64 x.t) := hxr 1 _ rfl
                    have e2 : wr.cell? ⟨f.hsS.b, f.hsS.o + k * 3 + 2, none⟩ = some (.int .i64 x.g) := hxr 2 _ rfl
                    have hxg : 0 ≤ x.g := by
                      have h := List.all_eq_true.mp hallH x (List.mem_of_getElem? hx)
                      simp [handB, CodeR.within] at h
                      omega
                    have hC : ∀ ob, Calls Tryd.prog 87 #[.int .i64 x.g, .int .i64 1, .pointer (some ⟨X, 0, none⟩), .pointer (some ⟨mx + 1, 0, none⟩), .pointer (some ⟨mx, 0, none⟩)] (wr.alloc ob)
                        fun r w' => r = .returned (.bool (comeN deep x.g.toNat 1)) ∧ RI w w' X (mx + 1) mx mb f (comeD deep e x.g.toNat 1).1 (comeD deep e x.g.toNat 1).2 := by
                      intro ob
                      have h := rcome_c x.g.toNat 1 (hRI.keep (below_alloc (Below.refl _ _) ob (Nat.le_refl _))) hnn.out l2 hI (by decide)
                      rw [Int.toNat_of_nonneg hxg] at h
                      refine h.mono ?_
                      rintro r w' ⟨h1, h2, _⟩
                      exact ⟨h1, h2⟩
                    clear hxr
                    go_wp2_with (go_at_call 87; refine (hC _).mono ?_; rintro r w4 ⟨rfl, hRI4⟩)
                    go_roundw
                    case rel =>
                      obtain ⟨hI4, hL4, hE4⟩ := Inv.comeT hI (p := x.g.toNat) (n := 1) (by decide) (forced_hand hx)
                      exact ⟨k + 1, _, _, by omega, by simp, hRI4, hI4, (hSt.keep (fun h0 => (hE4 h0).1) hL4).more hx (fun h0 => (hE4 h0).2)⟩
                    case measure => simp [intOf]; omega
                  · obtain rfl : k = f.hs.length := by omega
                    have hkd : decide ((f.hs.length : Int) < (f.hs.length : Int)) = false := by simp
                    clear hoa4
                    go_wp2
                    go_loopg [22] (unl deep + 1) (fun N s22 wr => ∃ (again : Bool) (deep : List Int) (e : Int), s22 = .bool again ∧ N = unl deep + (if again then 1 else 0) ∧ RI w wr X (mx + 1) mx mb f deep e ∧ Inv f (fun i => again = true ∨ f.code.length ≤ i) deep e ∧ St f f.hs.length deep e)
                    case atStart => exact ⟨true, _, _, rfl, rfl, hRI, hI.mono (fun i _ => Or.inl rfl), hSt⟩
                    case round =>
                      clear hRI hI hSt
                      obtain ⟨again, deep_1, e_1, rfl, hN, hRI, hI, hSt⟩ := hrel
                      have bgx := cell_of_one hRI.rs.gbox
                      cases again
                      · by_cases he : e_1 = 0
                        · subst he
                          have hv := end_verdict hlim hallr hallH hallV (Or.inl ⟨rfl, St.fits (Inv.over hI) hSt⟩)
                          have bg : wr.cell? ⟨mx + 1, 0, none⟩ = some (.bool true) := bgx
                          clear bgx
                          go_wp2
                          go_ret
                          refine ⟨0, rfl, hv, ?_⟩
                          try rw [hX]
                          exact hRI.bel
                        · have hv := end_verdict hlim hallr hallH hallV (Or.inr ⟨rfl, hI.bad he⟩)
                          have bg : wr.cell? ⟨mx + 1, 0, none⟩ = some (.bool false) := by rw [bgx]; simp [he]
                          clear bgx
                          go_wp2
                          go_ret
                          refine ⟨3, rfl, hv, ?_⟩
                          try rw [hX]
                          exact hRI.bel
                      · by_cases he : e_1 = 0
                        · subst he
                          have bg : wr.cell? ⟨mx + 1, 0, none⟩ = some (.bool true) := bgx
                          have f3 : wr.cell? ⟨X, 3, none⟩ = some (.slice (some ⟨f.codeS.b, f.codeS.o, none⟩) f.code.length f.codeS.c) := by
                            have h := hRI.rs.fbox
                            rw [hV'.out] at h
                            exact cell_of_block h rfl
                          clear bgx
                          go_wp2
                          clear bg f3
                          obtain ⟨wo, rfl⟩ : ∃ wo : World, wo = wr := ⟨_, rfl⟩
                          go_loopw [22, 165] (fun s22 s165 wr => ∃ (again : Bool) (k : Nat) (deep' : List Int) (e' : Int), s22 = .bool again ∧ s165 = .int .i64 (k : Int) ∧ k ≤ f.code.length ∧ RI w wr X (mx + 1) mx mb f deep' e' ∧ Inv f (fun i => again = true ∨ k ≤ i) deep' e' ∧ St f f.hs.length deep' e' ∧ unl deep' + (if again then 1 else 0) ≤ unl deep_1) (fun _ s165 _ => f.code.length - (intOf s165).toNat)
                          case atStart => exact ⟨false, 0, _, _, rfl, rfl, Nat.zero_le _, hRI, Inv.again hI, hSt, Nat.le_refl _⟩
                          case round =>
                            clear hRI hI hSt
                            obtain ⟨again, k, deep', e', rfl, rfl, hk, hRI, hI, hSt, hun⟩ := hrel
                            by_cases hkn : k < f.code.length
                            · obtain ⟨x, hx⟩ : ∃ x, f.code[k]? = some x := ⟨_, List.getElem?_eq_getElem hkn⟩
                              have hkd : decide ((k : Int) < (f.code.length : Int)) = true := by simp; omega
                              have hlen := hI.len
                              obtain ⟨nm, D, hown, hroom, _, hMR⟩ := hRI.rs.map
                              obtain ⟨hh, ha⟩ := hMR k (by omega)
                              have hzero := zeroInt
                              have hwk : (Lit.int .i64 (k : Int)).wf = true := WalkArith.wf_i64 (by omega)
                              have bmx := cell_of_one hRI.rs.mbox
                              have bgx := cell_of_one hRI.rs.gbox
                              clear hMR
                              cases hlk : lab deep' k with
                              | none =>
                                have hneg := lab_none (by omega) hlk
                                have hh' : Maps.has D (.int .i64 (k : Int)) = false := by rw [hh]; exact decide_eq_false (by omega)
                                have hI2 := Inv.skip hI (Or.inl hlk)
                                clear hh ha hI hneg hlk bgx
                                go_wp2_with (at_lookup; refine wpList_lookup_own_ok_int _ rfl _ _ 96 rfl 3 3 .i64 (int_keyed Tryd.underlying3) Tryd.underlying96 Tryd.underlying3 (hzero _) mb nm D rfl hown _ (.int .i64 (k : Int)) rfl (keyOf_int_mk Tryd.underlying3 hwk) ?_; intro c hat _; rw [hh']; clear hat)
                                go_roundw
                                case rel => exact ⟨again, k + 1, _, _, rfl, by simp, by omega, hRI, hI2, hSt, hun⟩
                                case measure => simp [intOf]; omega
                              | some n0 =>
                                have hn0 := lab_some hlk
                                have hdg : deep'.getD k 0 = n0 := by rw [List.getD_eq_getElem?_getD, hn0.1]; rfl
                                rw [hdg] at hh ha
                                have hh' : Maps.has D (.int .i64 (k : Int)) = true := by rw [hh]; exact decide_eq_true hn0.2
                                have ha' := ha hn0.2
                                clear hh ha hdg
                                by_cases he' : e' = 0
                                · subst he'
                                  have bg : wr.cell? ⟨mx + 1, 0, none⟩ = some (.bool true) := bgx
                                  have hfb := hRI.rs.fbox
                                  rw [hV'.out] at hfb
                                  have f0 : wr.cell? ⟨X, 0, none⟩ = _ := cell_of_block hfb (i := 0) rfl
                                  have f1 : wr.cell? ⟨X, 1, none⟩ = _ := cell_of_block hfb (i := 1) rfl
                                  have f2 : wr.cell? ⟨X, 2, none⟩ = _ := cell_of_block hfb (i := 2) rfl
                                  have f3 : wr.cell? ⟨X, 3, none⟩ = _ := cell_of_block hfb (i := 3) rfl
                                  have f4 : wr.cell? ⟨X, 4, none⟩ = _ := cell_of_block hfb (i := 4) rfl
                                  have f5 : wr.cell? ⟨X, 5, none⟩ = _ := cell_of_block hfb (i := 5) rfl
                                  have hxr : Row wr f.codeS.b (f.codeS.o + k * 3) x.vals := (hrow k x hx).below hRI.bel (Nat.le_of_eq hX)
                                  have e0 : wr.cell? ⟨f.codeS.b, f.codeS.o + k * 3, none⟩ = some (.int .i64 x.op) := hxr 0 _ rfl
                                  have e1 : wr.cell? ⟨f.codeS.b, f.codeS.o + k * 3 + 1, none⟩ = some (.int .i64 x.a) := hxr 1 _ rfl
                                  have e2 : wr.cell? ⟨f.codeS.b, f.codeS.o + k * 3 + 2, none⟩ = some (.int .i64 x.b) := hxr 2 _ rfl
                                  clear hfb hxr bgx
                                  have i1 : (0 : Int) ≤ (k : Int) := by omega
                                  have i2 : (k : Int) < (f.code.length : Int) := by omega
                                  go_wp2_with (at_lookup; refine wpList_lookup_own_ok_int _ rfl _ _ 96 rfl 3 3 .i64 (int_keyed Tryd.underlying3) Tryd.underlying96 Tryd.underlying3 (hzero _) mb nm D rfl hown _ (.int .i64 (k : Int)) rfl (keyOf_int_mk Tryd.underlying3 hwk) ?_; intro c hat _; rw [ha'] at hat; obtain rfl := lit_inj hat; rw [hh']; clear hat)
                                  have hxm := List.mem_of_getElem? hx
                                  have hSS : ∀ wz : World, (∀ b o, b < X + 1 → wz.cell? ⟨b, o, none⟩ = wr.cell? ⟨b, o, none⟩) → wz.cell? ⟨X, 0, none⟩ = some (.string f.name) ∧ wz.cell? ⟨X, 1, none⟩ = some (.int .i64 f.params) ∧ wz.cell? ⟨X, 2, none⟩ = some (.int .i64 f.slots) ∧ wz.cell? ⟨X, 3, none⟩ = some (.slice (some ⟨f.codeS.b, f.codeS.o, none⟩) f.code.length f.codeS.c) ∧ wz.cell? ⟨X, 4, none⟩ = some (.slice oa4 f.hs.length f.hsS.c) ∧ wz.cell? ⟨X, 5, none⟩ = some (.slice oa5 f.vars.length f.varsS.c) ∧ wz.cell? ⟨f.codeS.b, f.codeS.o + k * 3, none⟩ = some (.int .i64 x.op) ∧ wz.cell? ⟨f.codeS.b, f.codeS.o + k * 3 + 1, none⟩ = some (.int .i64 x.a) ∧ wz.cell? ⟨f.codeS.b, f.codeS.o + k * 3 + 2, none⟩ = some (.int .i64 x.b) := by
                                    intro wz h
                                    have q0 := World.block_lt_of_cell? w _ (hrow k x hx 0 _ rfl)
                                    have qX : X < X + 1 := Nat.lt_succ_self X
                                    have qc : f.codeS.b < X + 1 := by rw [hX] at q0; exact Nat.lt_succ_of_lt q0
                                    exact ⟨(h X 0 qX).trans f0, (h X 1 qX).trans f1, (h X 2 qX).trans f2, (h X 3 qX).trans f3, (h X 4 qX).trans f4, (h X 5 qX).trans f5, (h _ _ qc).trans e0, (h _ _ qc).trans e1, (h _ _ qc).trans e2⟩
                                  have hXw : X + 1 ≤ wr.heap.size := hRI.rs.size.1
                                  have hEff' : ∀ n, Calls Tryd.prog 86 #[.pointer (some ⟨mb0, mo0, none⟩), .agg #[.string f.name, .int .i64 f.params, .int .i64 f.slots, .slice (some ⟨f.codeS.b, f.codeS.o, none⟩) f.code.length f.codeS.c, .slice oa4 f.hs.length f.hsS.c, .slice oa5 f.vars.length f.varsS.c], .agg #[.int .i64 x.op, .int .i64 x.a, .int .i64 x.b]] (wr.drewN n) fun e w2 => EffR m f x e ∧ Below wr.heap.size wr w2 ∧ w2.cell? ⟨X, 0, none⟩ = some (.string f.name) ∧ w2.cell? ⟨X, 1, none⟩ = some (.int .i64 f.params) ∧ w2.cell? ⟨X, 2, none⟩ = some (.int .i64 f.slots) ∧ w2.cell? ⟨X, 3, none⟩ = some (.slice (some ⟨f.codeS.b, f.codeS.o, none⟩) f.code.length f.codeS.c) ∧ w2.cell? ⟨X, 4, none⟩ = some (.slice oa4 f.hs.length f.hsS.c) ∧ w2.cell? ⟨X, 5, none⟩ = some (.slice oa5 f.vars.length f.varsS.c) ∧ w2.cell? ⟨f.codeS.b, f.codeS.o + k * 3, none⟩ = some (.int .i64 x.op) ∧ w2.cell? ⟨f.codeS.b, f.codeS.o + k * 3 + 1, none⟩ = some (.int .i64 x.a) ∧ w2.cell? ⟨f.codeS.b, f.codeS.o + k * 3 + 2, none⟩ = some (.int .i64 x.b) := by
                                    intro n
                                    refine (hEff (wr.drewN n) x (below_drewN hRI.bel n) hxm).mono ?_
                                    rintro e w2 ⟨h1, h2⟩
                                    have h3 : Below wr.heap.size wr w2 := ⟨h2.os, h2.tape, h2.output, h2.size, h2.block⟩
                                    exact ⟨h1, h3, hSS w2 (fun b o hb => h3.cell (p := ⟨b, o, none⟩) (Nat.lt_of_lt_of_le hb hXw))⟩
                                  go_region_held3 (fun wz => wz.cell? ⟨X, 0, none⟩ = some (.string f.name) ∧ wz.cell? ⟨X, 1, none⟩ = some (.int .i64 f.params) ∧ wz.cell? ⟨X, 2, none⟩ = some (.int .i64 f.slots) ∧ wz.cell? ⟨X, 3, none⟩ = some (.slice (some ⟨f.codeS.b, f.codeS.o, none⟩) f.code.length f.codeS.c) ∧ wz.cell? ⟨X, 4, none⟩ = some (.slice oa4 f.hs.length f.hsS.c) ∧ wz.cell? ⟨X, 5, none⟩ = some (.slice oa5 f.vars.length f.varsS.c) ∧ wz.cell? ⟨f.codeS.b, f.codeS.o + k * 3, none⟩ = some (.int .i64 x.op) ∧ wz.cell? ⟨f.codeS.b, f.codeS.o + k * 3 + 1, none⟩ = some (.int .i64 x.a) ∧ wz.cell? ⟨f.codeS.b, f.codeS.o + k * 3 + 2, none⟩ = some (.int .i64 x.b)) (go_keep) (first | (go_at_call 86; refine (hEff' _).mono ?_; rintro e w2 ⟨⟨tk, lv, to, th, on, rfl, hres⟩, hb2, s0, s1, s2, s3, s4, s5, s6, s7, s8⟩) | (go_at_call 86; refine (hEff' 1).mono ?_; rintro e w2 ⟨⟨tk, lv, to, th, on, rfl, hres⟩, hb2, s0, s1, s2, s3, s4, s5, s6, s7, s8⟩))
                                  have hxright : rightB m f x = true := List.all_eq_true.mp hallr x hxm
                                  obtain ⟨rfl, rfl, hto, hth, hon⟩ := hres hxright
                                  obtain ⟨no, nb1, nb2, na, _, _⟩ := right_nums hxright
                                  obtain ⟨tk0, tk1, lv0, lv1⟩ := take_nums hxright
                                  have hn200 := (hI.range n0 (List.mem_of_getElem? hn0.1)).2
                                  have hn00 := hn0.2
                                  have hRI2 := hRI.keep hb2
                                  have bg2 : w2.cell? ⟨mx + 1, 0, none⟩ = some (.bool true) := cell_of_one hRI2.rs.gbox
                                  rw [hxright]
                                  clear s0 s1 s2 s3 s4 s5 s6 s7 s8 e0 e1 e2 f0 f1 f2 f3 f4 f5 hSS hEff' hres bg bmx no nb1 nb2 hown hh' ha' hroom
                                  by_cases q : n0 < takeI x
                                  · have hv := end_verdict hlim hallr hallH hallV (Or.inr ⟨rfl, hI.few hlk hx q⟩)
                                    have hq : decide (n0 < takeI x) = true := by simpa using q
                                    clear hto hth hon
                                    go_wp2
                                    go_ret
                                    refine ⟨3, rfl, hv, ?_⟩
                                    try rw [hX]
                                    exact hRI2.bel
                                  · have hq : decide (n0 < takeI x) = false := by simpa using q
                                    have hcome : ∀ (wz : World) (P : Nat → Prop) (deep : List Int) (e : Int) (p' : Nat) (n' : Int), RI w wz X (mx + 1) mx mb f deep e → Inv f P deep e → 0 ≤ n' →
                                        Calls Tryd.prog 87 #[.int .i64 (p' : Int), .int .i64 n', .pointer (some ⟨X, 0, none⟩), .pointer (some ⟨mx + 1, 0, none⟩), .pointer (some ⟨mx, 0, none⟩)] wz
                                          fun r w' => r = .returned (.bool (comeN deep p' n')) ∧ RI w w' X (mx + 1) mx mb f (comeD deep e p' n').1 (comeD deep e p' n').2 := by
                                      intro wz P deep e p' n' h1 h2 h3
                                      refine (rcome_c p' n' h1 hnn.out l2 h2 h3).mono ?_
                                      rintro r w' ⟨h4, h5, _⟩
                                      exact ⟨h4, h5⟩
                                    have hcast : ((k + 1 : Nat) : Int) = (k : Int) + 1 := by omega
                                    cases hg : goI x with
                                    | none =>
                                      have hto' : to = -1 := by rw [hto]; unfold toI; rw [hg]
                                      subst hto'
                                      have hd0 : decide ((0 : Int) ≤ -1) = false := by decide
                                      cases hen : endsB x.op
                                      · have hon' : on = true := by rw [hon, hen]; rfl
                                        subst hon'
                                        clear hto hth hon
                                        have hfo : ∀ d, Fits f d → d (k + 1) = some (n0 - takeI x + leaveI x) := by
                                          have h := hI.goes hlk hx (follows_on (p := k) (n := n0) hen)
                                          have h1 : ((k : Int) + 1).toNat = k + 1 := by omega
                                          simp only [h1] at h
                                          exact h
                                        obtain ⟨hI9, hL9, hE9, hU9⟩ := Inv.come1 hI (p := k + 1) (n := n0 - takeI x + leaveI x) (by omega) hfo
                                        have hC9 := hcome w2 _ _ _ (k + 1) (n0 - takeI x + leaveI x) hRI2 hI (by omega)
                                        rw [hcast] at hC9
                                        go_wp2_with fail
                                        refine hC9.mono ?_
                                        rintro r w9 ⟨rfl, hRI9⟩
                                        have hIn := Inv.next hI9 (fun h0 => hL9 _ _ hlk) hx (by omega) (fun h0 y hy => by
                                          rcases follows_cases hy with ⟨t1, k1, h1, _⟩ | ⟨_, rfl⟩
                                          · rw [hg] at h1; cases h1
                                          · have h1 : ((k : Int) + 1).toNat = k + 1 := by omega
                                            simp only [h1]
                                            exact (hE9 h0).2)
                                        have hSn := hSt.keep (e' := (comeD deep' 0 (k + 1) (n0 - takeI x + leaveI x)).2) (fun _ => rfl) hL9
                                        clear hC9
                                        cases hN9 : comeN deep' (k + 1) (n0 - takeI x + leaveI x)
                                        · rw [hN9] at hIn hU9
                                          simp only [Bool.or_false] at hIn
                                          go_wp2
                                          go_roundw
                                          case rel => exact ⟨again, k + 1, _, _, rfl, by simp, by omega, hRI9, hIn, hSn, by simp at hU9; omega⟩
                                          case measure => simp [intOf]; omega
                                        · rw [hN9] at hIn hU9
                                          simp only [Bool.or_true] at hIn
                                          go_wp2
                                          go_roundw
                                          case rel => exact ⟨true, k + 1, _, _, rfl, by simp, by omega, hRI9, hIn.mono (fun i _ => Or.inl rfl), hSn, by simp at hU9 ⊢; omega⟩
                                          case measure => simp [intOf]; omega
                                      · have hon' : on = false := by rw [hon, hen]; rfl
                                        subst hon'
                                        clear hto hth hon
                                        have hI9 := Inv.next hI (fun _ => hlk) hx (by omega) (fun h0 y hy => by
                                          rcases follows_cases hy with ⟨t1, k1, h1, _⟩ | ⟨h1, _⟩
                                          · rw [hg] at h1; cases h1
                                          · rw [hen] at h1; cases h1)
                                        go_wp2
                                        go_roundw
                                        case rel => exact ⟨again, k + 1, _, _, rfl, by simp, by omega, hRI2, hI9, hSt, hun⟩
                                        case measure => simp [intOf]; omega
                                    | some q2 =>
                                      obtain ⟨ta, tk9⟩ := q2
                                      obtain ⟨hop4, rfl, hk9, hlv⟩ := goI_some hg
                                      obtain ⟨a, haa⟩ : ∃ a : Nat, x.a = (a : Int) := ⟨x.a.toNat, by rw [Int.toNat_of_nonneg (na hop4).1]⟩
                                      have hto' : to = (a : Int) := by rw [hto]; unfold toI; rw [hg]; exact haa
                                      have hth' : th = tk9 := by rw [hth]; unfold thereI; rw [hg]
                                      subst hto'
                                      subst hth'
                                      have hd0 : decide ((0 : Int) ≤ (a : Int)) = true := by simp
                                      have hth01 : 0 ≤ th ∧ th ≤ 1 := by omega
                                      have hlv0 : n0 - takeI x + leaveI x + th = n0 - takeI x + th := by omega
                                      have hfa : ∀ d, Fits f d → d a = some (n0 - takeI x + th) := by
                                        have h := hI.goes hlk hx (follows_go (p := k) (n := n0) hg)
                                        simp only [haa, Int.toNat_natCast, hlv0] at h
                                        exact h
                                      obtain ⟨hI7, hL7, hE7, hU7⟩ := Inv.come1 hI (p := a) (n := (n0 - takeI x + th)) (by omega) hfa
                                      have hC7 := hcome w2 _ _ _ a (n0 - takeI x + th) hRI2 hI (by omega)
                                      have hAs : Aside (x.a = (a : Int)) := haa
                                      have hAl : Aside (n0 - takeI x + leaveI x + th = n0 - takeI x + th) := hlv0
                                      clear hto hth haa hlv hlv0
                                      go_wp2_with fail
                                      refine hC7.mono ?_
                                      rintro r w7 ⟨rfl, hRI7⟩
                                      clear hC7
                                      have haa := hAs.out
                                      have hlv0 := hAl.out
                                      have hgo7 : (comeD deep' 0 a (n0 - takeI x + th)).2 = 0 → lab (comeD deep' 0 a (n0 - takeI x + th)).1 a = some (n0 - takeI x + th) := fun h0 => (hE7 h0).2
                                      have hS7 := hSt.keep (e' := (comeD deep' 0 a (n0 - takeI x + th)).2) (fun _ => rfl) hL7
                                      have hl7 := hL7 _ _ hlk
                                      have bg7 := cell_of_one hRI7.rs.gbox
                                      cases hN7 : comeN deep' a (n0 - takeI x + th)
                                      · rw [hN7] at hI7 hU7
                                        simp only [Bool.or_false] at hI7
                                        have hun7 : unl (comeD deep' 0 a (n0 - takeI x + th)).1 + (if again then 1 else 0) ≤ unl deep_1 := by simp at hU7; omega
                                        clear hE7 hL7 hU7
                                        generalize (comeD deep' 0 a (n0 - takeI x + th)).1 = d7 at *
                                        generalize (comeD deep' 0 a (n0 - takeI x + th)).2 = e7 at *
                                        cases hen : endsB x.op
                                        · have hon' : on = true := by rw [hon, hen]; rfl
                                          subst hon'
                                          have hfo : ∀ d, Fits f d → d (k + 1) = some (n0 - takeI x + leaveI x) := by
                                            have h := hI.goes hlk hx (follows_on (p := k) (n := n0) hen)
                                            have h1 : ((k : Int) + 1).toNat = k + 1 := by omega
                                            simp only [h1] at h
                                            exact h
                                          clear hon
                                          by_cases he70 : e7 = 0
                                          · subst he70
                                            have bg : w7.cell? ⟨mx + 1, 0, none⟩ = some (.bool true) := bg7
                                            clear bg7
                                            obtain ⟨hI9, hL9, hE9, hU9⟩ := Inv.come1 hI7 (p := k + 1) (n := (n0 - takeI x + leaveI x)) (by omega) hfo
                                            have hC9 := hcome w7 _ _ _ (k + 1) (n0 - takeI x + leaveI x) hRI7 hI7 (by omega)
                                            rw [hcast] at hC9
                                            go_wp2_with fail
                                            refine hC9.mono ?_
                                            rintro r w9 ⟨rfl, hRI9⟩
                                            have hIn := Inv.next hI9 (fun h0 => hL9 _ _ hl7) hx (by omega) (fun h0 y hy => by
                                              rcases follows_cases hy with ⟨t1, k1, h1, rfl⟩ | ⟨_, rfl⟩
                                              · rw [hg] at h1; cases h1
                                                simp only [haa, Int.toNat_natCast, hlv0]
                                                exact hL9 _ _ (hgo7 (by first | rfl | trivial))
                                              · have h1 : ((k : Int) + 1).toNat = k + 1 := by omega
                                                simp only [h1]
                                                exact (hE9 h0).2)
                                            have hSn := hS7.keep (e' := (comeD d7 0 (k + 1) (n0 - takeI x + leaveI x)).2) (fun _ => rfl) hL9
                                            clear hC9
                                            cases hN9 : comeN d7 (k + 1) (n0 - takeI x + leaveI x)
                                            · rw [hN9] at hIn hU9
                                              simp only [Bool.or_false] at hIn
                                              go_wp2
                                              go_roundw
                                              case rel => exact ⟨again, k + 1, _, _, rfl, by simp, by omega, hRI9, hIn.mono (fun i hi => by first | exact hi | exact Or.inl rfl), hSn, by simp at hU9 hun7 ⊢; omega⟩
                                              case measure => simp [intOf]; omega
                                            · rw [hN9] at hIn hU9
                                              simp only [Bool.or_true] at hIn
                                              go_wp2
                                              go_roundw
                                              case rel => exact ⟨true, k + 1, _, _, rfl, by simp, by omega, hRI9, hIn.mono (fun i _ => Or.inl rfl), hSn, by simp at hU9 hun7 ⊢; omega⟩
                                              case measure => simp [intOf]; omega
                                          · have bg : w7.cell? ⟨mx + 1, 0, none⟩ = some (.bool false) := by rw [bg7]; simp [he70]
                                            have hIn := Inv.skip hI7 (Or.inr he70)
                                            clear bg7
                                            go_wp2
                                            go_roundw
                                            case rel => exact ⟨again, k + 1, _, _, rfl, by simp, by omega, hRI7, hIn.mono (fun i hi => by first | exact hi | exact Or.inl rfl), hS7, hun7⟩
                                            case measure => simp [intOf]; omega
                                        · have hon' : on = false := by rw [hon, hen]; rfl
                                          subst hon'
                                          clear hon
                                          have hIn := Inv.next hI7 (fun _ => hl7) hx (by omega) (fun h0 y hy => by
                                            rcases follows_cases hy with ⟨t1, k1, h1, rfl⟩ | ⟨h1, _⟩
                                            · rw [hg] at h1; cases h1
                                              simp only [haa, Int.toNat_natCast, hlv0]
                                              exact hgo7 h0
                                            · rw [hen] at h1; cases h1)
                                          go_wp2
                                          go_roundw
                                          case rel => exact ⟨again, k + 1, _, _, rfl, by simp, by omega, hRI7, hIn.mono (fun i hi => by first | exact hi | exact Or.inl rfl), hS7, hun7⟩
                                          case measure => simp [intOf]; omega
                                      · rw [hN7] at hI7 hU7
                                        have hI7 := hI7.mono (Q := fun i => (true = true) ∨ k ≤ i) (fun i _ => Or.inl rfl)
                                        have hun7 : unl (comeD deep' 0 a (n0 - takeI x + th)).1 + (if true then 1 else 0) ≤ unl deep_1 := by simp at hU7 ⊢; omega
                                        clear hE7 hL7 hU7
                                        generalize (comeD deep' 0 a (n0 - takeI x + th)).1 = d7 at *
                                        generalize (comeD deep' 0 a (n0 - takeI x + th)).2 = e7 at *
                                        cases hen : endsB x.op
                                        · have hon' : on = true := by rw [hon, hen]; rfl
                                          subst hon'
                                          have hfo : ∀ d, Fits f d → d (k + 1) = some (n0 - takeI x + leaveI x) := by
                                            have h := hI.goes hlk hx (follows_on (p := k) (n := n0) hen)
                                            have h1 : ((k : Int) + 1).toNat = k + 1 := by omega
                                            simp only [h1] at h
                                            exact h
                                          clear hon
                                          by_cases he70 : e7 = 0
                                          · subst he70
                                            have bg : w7.cell? ⟨mx + 1, 0, none⟩ = some (.bool true) := bg7
                                            clear bg7
                                            obtain ⟨hI9, hL9, hE9, hU9⟩ := Inv.come1 (again := true) hI7 (p := k + 1) (n := (n0 - takeI x + leaveI x)) (by omega) hfo
                                            have hC9 := hcome w7 _ _ _ (k + 1) (n0 - takeI x + leaveI x) hRI7 hI7 (by omega)
                                            rw [hcast] at hC9
                                            go_wp2_with fail
                                            refine hC9.mono ?_
                                            rintro r w9 ⟨rfl, hRI9⟩
                                            have hIn := Inv.next hI9 (fun h0 => hL9 _ _ hl7) hx (by omega) (fun h0 y hy => by
                                              rcases follows_cases hy with ⟨t1, k1, h1, rfl⟩ | ⟨_, rfl⟩
                                              · rw [hg] at h1; cases h1
                                                simp only [haa, Int.toNat_natCast, hlv0]
                                                exact hL9 _ _ (hgo7 (by first | rfl | trivial))
                                              · have h1 : ((k : Int) + 1).toNat = k + 1 := by omega
                                                simp only [h1]
                                                exact (hE9 h0).2)
                                            have hSn := hS7.keep (e' := (comeD d7 0 (k + 1) (n0 - takeI x + leaveI x)).2) (fun _ => rfl) hL9
                                            clear hC9
                                            cases hN9 : comeN d7 (k + 1) (n0 - takeI x + leaveI x)
                                            · rw [hN9] at hIn hU9
                                              simp only [Bool.or_false] at hIn
                                              go_wp2
                                              go_roundw
                                              case rel => exact ⟨true, k + 1, _, _, rfl, by simp, by omega, hRI9, hIn.mono (fun i hi => by first | exact hi | exact Or.inl rfl), hSn, by simp at hU9 hun7 ⊢; omega⟩
                                              case measure => simp [intOf]; omega
                                            · rw [hN9] at hIn hU9
                                              simp only [Bool.or_true] at hIn
                                              go_wp2
                                              go_roundw
                                              case rel => exact ⟨true, k + 1, _, _, rfl, by simp, by omega, hRI9, hIn.mono (fun i _ => Or.inl rfl), hSn, by simp at hU9 hun7 ⊢; omega⟩
                                              case measure => simp [intOf]; omega
                                          · have bg : w7.cell? ⟨mx + 1, 0, none⟩ = some (.bool false) := by rw [bg7]; simp [he70]
                                            have hIn := Inv.skip (again := true) hI7 (Or.inr he70)
                                            clear bg7
                                            go_wp2
                                            go_roundw
                                            case rel => exact ⟨true, k + 1, _, _, rfl, by simp, by omega, hRI7, hIn.mono (fun i hi => by first | exact hi | exact Or.inl rfl), hS7, hun7⟩
                                            case measure => simp [intOf]; omega
                                        · have hon' : on = false := by rw [hon, hen]; rfl
                                          subst hon'
                                          clear hon
                                          have hIn := Inv.next (again := true) hI7 (fun _ => hl7) hx (by omega) (fun h0 y hy => by
                                            rcases follows_cases hy with ⟨t1, k1, h1, rfl⟩ | ⟨h1, _⟩
                                            · rw [hg] at h1; cases h1
                                              simp only [haa, Int.toNat_natCast, hlv0]
                                              exact hgo7 h0
                                            · rw [hen] at h1; cases h1)
                                          go_wp2
                                          go_roundw
                                          case rel => exact ⟨true, k + 1, _, _, rfl, by simp, by omega, hRI7, hIn.mono (fun i hi => by first | exact hi | exact Or.inl rfl), hS7, hun7⟩
                                          case measure => simp [intOf]; omega
                                · have bg : wr.cell? ⟨mx + 1, 0, none⟩ = some (.bool false) := by rw [bgx]; simp [he']
                                  have hI2 := Inv.skip hI (Or.inr he')
                                  clear hI bgx
                                  go_wp2_with (at_lookup; refine wpList_lookup_own_ok_int _ rfl _ _ 96 rfl 3 3 .i64 (int_keyed Tryd.underlying3) Tryd.underlying96 Tryd.underlying3 (hzero _) mb nm D rfl hown _ (.int .i64 (k : Int)) rfl (keyOf_int_mk Tryd.underlying3 hwk) ?_; intro c hat _; rw [ha'] at hat; obtain rfl := lit_inj hat; rw [hh']; clear hat)
                                  go_roundw
                                  case rel => exact ⟨again, k + 1, _, _, rfl, by simp, by omega, hRI, hI2, hSt, hun⟩
                                  case measure => simp [intOf]; omega
                            · obtain rfl : k = f.code.length := by omega
                              have hkd : decide ((f.code.length : Int) < (f.code.length : Int)) = false := by simp
                              go_wp2
                              go_roundg (unl deep' + (if again then 1 else 0))
                              case measure => simp at hN; omega
                              case rel => exact ⟨again, _, _, rfl, rfl, hRI, hI, hSt⟩
                        · have hv := end_verdict hlim hallr hallH hallV (Or.inr ⟨rfl, hI.bad he⟩)
                          have bg : wr.cell? ⟨mx + 1, 0, none⟩ = some (.bool false) := by rw [bgx]; simp [he]
                          clear bgx
                          go_wp2
                          go_ret
                          refine ⟨3, rfl, hv, ?_⟩
                          try rw [hX]
                          exact hRI.bel
  · rw [h] at hlim; cases hlim
end Go.Proofs.YthbkklnahhdgcaaDoor.CodeG
