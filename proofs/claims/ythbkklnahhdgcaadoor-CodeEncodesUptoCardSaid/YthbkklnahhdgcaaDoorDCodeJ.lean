/-
  The contract of the document's ImageCheck.
-/
import Derived.Test.YthbkklnahhdgcaaDoorDCodeG
import Derived.Test.YthbkklnahhdgcaaDoorDCodeI
import Derived.Test.YthbkklnahhdgcaaDoorDMB
namespace Go.Proofs.YthbkklnahhdgcaaDoor.CodeJ
open Go Go.Proofs Go.RowKit Lib CodeR CodeA CodeB CodeP CodeQ CodeD CodeW CodeXa CodeEa CodeGa CodeG CodeH CodeI

theorem rfun_any (mb mo : Nat) (m : Im) (f : Fc) (w : World) (hm : Row w mb mo m.vals) (hi : ImIn w m) (hfi : FcIn w f) (hbk : bOk f) :
    Calls Tryd.prog 43 #[.pointer (some ⟨mb, mo, none⟩), .agg #[.string f.name, .int .i64 f.params, .int .i64 f.slots, .slice f.codeS.oa f.codeS.n f.codeS.c, .slice f.hsS.oa f.hsS.n f.hsS.c, .slice f.varsS.oa f.varsS.n f.varsS.c]] w
      fun r w' => ∃ e, r = .returned (.int .i64 e) ∧ Verdict m f e ∧ Below w.heap.size w w' := by
  have hn := hfi.code.len
  rw [List.length_map] at hn
  cases hl : limB f
  · refine (rfun_lim mb mo f w hn hl).mono ?_
    rintro r w' ⟨rfl, hb⟩
    exact ⟨4, rfl, { lim := fun _ => rfl, right := fun h => by (rw [hl] at h; cases h), hand := fun h => by (rw [hl] at h; cases h), fit := fun h => by (rw [hl] at h; cases h) }, hb⟩
  · exact rfun_ok mb mo m f w hm hi hfi hbk hl

/-- A Fault in a box. -/
theorem fault_result {w : World} {tmps : Array Value} {b : Nat} {e p : Int} (ht : tmps.getD 2 undef = .pointer (some ⟨b, 0, none⟩)) (h0 : w.cell? ⟨b, 0, none⟩ = some (.int .i64 e)) (h1 : w.cell? ⟨b, 1, none⟩ = some (.int .i64 p)) :
    (results Tryd.f21 tmps).run Tryd.prog w = .ok (.agg #[.int .i64 e, .int .i64 p]) w := by
  have hr := Tryd.results21
  have ht' : tmps[2]?.getD undef = .pointer (some ⟨b, 0, none⟩) := by simpa using ht
  simp [results, ht', h0, h1, go_sem]

/-- What the document's three tests of a class find. -/
theorem class_eq {m : Im} {k : Nat} {c : Cl} (hk : m.classes[k]? = some c) : classBad m k c = ((!CodeR.within c.above (-1) ((m.classes.length : Int) - 1) || decide (c.names.length ≠ c.methods.length)) || c.methods.any (methB m) || refB (inB m) (aboveI m) k c.above (m.classes.length + 2)) := by
  have hlt : k < m.classes.length := (List.getElem?_eq_some_iff.mp hk).1
  have hr := round_eq (inB_iff m) (ab := aboveI m) (inB_true (m := m) (k := (k : Int)) (by omega) (by omega))
  have ha : aboveI m (k : Int) = c.above := by unfold aboveI; rw [Int.toNat_natCast, hk]; rfl
  rw [ha] at hr
  unfold classBad roundB
  rw [hr]
  have h1 : (decide (c.above < -1) || decide ((m.classes.length : Int) ≤ c.above)) = !CodeR.within c.above (-1) ((m.classes.length : Int) - 1) := by
    unfold CodeR.within
    rw [Bool.eq_iff_iff]
    simp
    omega
  rw [h1]
theorem refB_succ {R : Int → Bool} {ab : Int → Int} {i k : Int} {t : Nat} : refB R ab i k (t + 1) = (R k && (decide (k = i) || refB R ab i (ab k) t)) := rfl
theorem meth_eq (m : Im) (k : Int) : methB m k = !CodeR.within k 1 ((m.funcs.length : Int) - 1) := by
  unfold methB CodeR.within
  rw [Bool.eq_iff_iff]
  simp
  omega
theorem in_eq (m : Im) (k : Int) : inB m k = CodeR.within k 0 ((m.classes.length : Int) - 1) := by
  unfold inB CodeR.within
  rw [Bool.eq_iff_iff]
  simp
  omega

theorem two_cells {w : World} {b : Nat} {e p : Value} {t : TypeId} (h : w.heap[b]? = some (.cells #[e, p] t (0, 0))) : w.cell? ⟨b, 0, none⟩ = some e ∧ w.cell? ⟨b, 1, none⟩ = some p ∧ (∀ o, w.frozen? ⟨b, o, none⟩ = false) :=
  ⟨cell_of_block h rfl, cell_of_block h rfl, fun o => by simp [World.frozen?, h]⟩

theorem two_set {w : World} {X : Nat} {a b e p : Value} {t : TypeId} (h : w.heap[X]? = some (.cells #[a, b] t (0, 0))) : ((w.setCell ⟨X, 0, none⟩ e).setCell ⟨X, 1, none⟩ p).heap[X]? = some (.cells #[e, p] t (0, 0)) := by
  have one : ∀ (u : World) (c : Array Value) (o : Nat) (v : Value), u.heap[X]? = some (.cells c t (0, 0)) → (u.setCell ⟨X, o, none⟩ v).heap[X]? = some (.cells (c.setIfInBounds o v) t (0, 0)) := by
    intro u c o v hu
    have hlt := lt_of_block hu
    have h' : u.heap[X] = .cells c t (0, 0) := by simpa [Array.getElem?_eq_getElem hlt] using hu
    show (u.heap.modify X _)[X]? = _
    rw [Array.getElem?_eq_getElem (by simpa using hlt), Array.getElem_modify_self, h']
    rfl
  have := one _ _ 1 p (one w _ 0 e h)
  simpa using this

set_option maxRecDepth 100000 in
set_option maxHeartbeats 30000000 in
theorem ImageCheck_any (mb mo : Nat) (m : Im) (w : World) (hm : Row w mb mo m.vals) (hi : ImIn w m) (hbk : ∀ f ∈ m.funcs, bOk f) (hf0 : w.cell? ⟨0, 0, none⟩ = some (.int .i64 0)) (hf1 : w.cell? ⟨0, 1, none⟩ = some (.int .i64 (-1))) :
    Calls Tryd.prog 21 #[.pointer (some ⟨mb, mo, none⟩)] w fun r w' => ∃ e p, r = .returned (.agg #[.int .i64 e, .int .i64 p]) ∧ ImVerdict m e p ∧ Below w.heap.size w w' := by
  have c0 := (im_cells hm).1
  have c1 := (im_cells hm).2.1
  have c2 := (im_cells hm).2.2
  have l0 := hi.funcs.len
  have l1 := hi.consts.len
  have l2 := hi.classes.len
  have a0 := hi.funcs.addr
  have a2 := hi.classes.addr
  rw [List.length_map] at l0 l1 l2
  unfold Sl.val at c0 c1 c2
  rw [l0] at c0 a0
  rw [l1] at c1
  rw [l2] at c2 a2
  have d0 := alloc_cell c0
  have d1 := alloc_cell c1
  have d2 := alloc_cell c2
  rcases limIm_cases m with ⟨hlim, n1, n2, n3, n4⟩ | ⟨hlF, hor⟩
  · have hw : CodeR.within (m.funcs.length : Int) 1 250 = true := by simp [CodeR.within]; omega
    have z1 : decide (1000 < (m.consts.length : Int)) = false := decide_eq_false (by omega)
    have z2 : decide (250 < (m.classes.length : Int)) = false := decide_eq_false (by omega)
    obtain ⟨oa0, ho0⟩ : ∃ oa, m.funcsS.oa = oa := ⟨_, rfl⟩
    obtain ⟨oa2, ho2⟩ : ∃ oa, m.classesS.oa = oa := ⟨_, rfl⟩
    rw [ho0] at c0 a0
    rw [ho2] at c2 a2
    simp only [ho0] at d0
    simp only [ho2] at d2
    have hrow0 := fun (k : Nat) (x : Fc) (hx : m.funcs[k]? = some x) => hi.funcs.row k x.vals (by rw [List.getElem?_map, hx]; rfl)
    have hrow2 := fun (k : Nat) (x : Cl) (hx : m.classes[k]? = some x) => hi.classes.row k x.vals (by rw [List.getElem?_map, hx]; rfl)
    clear ho0 ho2 l0 l1 l2
    have hbx1 : (w.alloc (.cells #[.int .i64 0, .int .i64 0] 48)).heap[w.heap.size]? = some (.cells #[.int .i64 0, .int .i64 0] 48 (0, 0)) := heap_alloc_new w _
    have hbl1 : Below w.heap.size w (w.alloc (.cells #[.int .i64 0, .int .i64 0] 48)) := below_alloc (Below.refl _ _) _ (Nat.le_refl _)
    have hsz1 : (w.alloc (.cells #[.int .i64 0, .int .i64 0] 48)).heap.size = w.heap.size + 1 := by simp
    go_enter Tryd.func21, Tryd.ntmps21
    go_wp2_with (go_at_call 42; refine (within_any _ _ _ _).mono ?_; rintro e w1 ⟨rfl, hw1⟩; rw [hw1]; clear hw1 w1)
    clear d0 d1 d2 z1 z2 hw
    have hmlt := World.block_lt_of_cell? w _ c0
    have hglt := World.block_lt_of_cell? w _ hf0
    generalize (w.alloc (.cells #[.int .i64 0, .int .i64 0] 48)) = w1 at *
    generalize hX : w.heap.size = X at *
    go_loopw [42] (fun v wr => ∃ k : Nat, k ≤ m.classes.length ∧ v = .int .i64 (k : Int) ∧ (∀ j c, j < k → m.classes[j]? = some c → classBad m j c = false) ∧ Below (X + 1) w1 wr) (fun v _ => m.classes.length - (intOf v).toNat)
    case atStart => exact ⟨0, Nat.zero_le _, rfl, fun j x hj => by omega, Below.refl _ _⟩
    case round =>
      obtain ⟨k, hk, rfl, hall, hb⟩ := hrel
      have hbw : Below X w wr := hbl1.trans (hb.mono (Nat.le_succ X))
      have hsz : X + 1 ≤ wr.heap.size := by have := hb.size; omega
      by_cases hkn : k < m.classes.length
      · obtain ⟨c, hx⟩ : ∃ c, m.classes[k]? = some c := ⟨_, List.getElem?_eq_getElem hkn⟩
        have hkd : decide ((k : Int) < (m.classes.length : Int)) = true := by simp; omega
        have hcl0 := hi.cl c (List.mem_of_getElem? hx)
        have nN := hcl0.names.len
        have nM := hcl0.methods.len
        have hM := hcl0.methods.addr
        rw [List.length_map] at nN nM
        rw [nM] at hM
        have hMs := hcl0.methods.small
        rw [nM] at hMs
        obtain ⟨oaM, hoM⟩ : ∃ oa, c.methodsS.oa = oa := ⟨_, rfl⟩
        rw [hoM] at hM
        have hxr : Row wr m.classesS.b (m.classesS.o + k * 5) c.vals := (hrow2 k c hx).below hbw (Nat.le_of_eq hX)
        have e0 : wr.cell? ⟨m.classesS.b, m.classesS.o + k * 5, none⟩ = some (.string c.name) := hxr 0 _ rfl
        have e1 : wr.cell? ⟨m.classesS.b, m.classesS.o + k * 5 + 1, none⟩ = some (.int .i64 c.above) := hxr 1 _ rfl
        have e2 : wr.cell? ⟨m.classesS.b, m.classesS.o + k * 5 + 2, none⟩ = some (.slice c.fieldsS.oa c.fieldsS.n c.fieldsS.c) := hxr 2 _ rfl
        have e3 : wr.cell? ⟨m.classesS.b, m.classesS.o + k * 5 + 3, none⟩ = some (.slice c.namesS.oa c.namesS.n c.namesS.c) := hxr 3 _ rfl
        have e4 : wr.cell? ⟨m.classesS.b, m.classesS.o + k * 5 + 4, none⟩ = some (.slice c.methodsS.oa c.methodsS.n c.methodsS.c) := hxr 4 _ rfl
        rw [nN] at e3
        rw [nM, hoM] at e4
        have d2 := alloc_cell ((hbw.cell (p := ⟨mb, mo + 2, none⟩) hmlt).trans c2)
        clear hxr nN nM hoM
        have hoc : oa2 = some ⟨m.classesS.b, m.classesS.o, none⟩ := a2 (by omega)
        subst hoc
        cases hA : CodeR.within c.above (-1) ((m.classes.length : Int) - 1)
        · have hb0 : true = (!CodeR.within c.above (-1) ((m.classes.length : Int) - 1) || decide (c.names.length ≠ c.methods.length)) := by rw [hA]; rfl
          have hb0' : Aside (true = (!CodeR.within c.above (-1) ((m.classes.length : Int) - 1) || decide (c.names.length ≠ c.methods.length))) := hb0
          have hwi : ∀ u, Calls Tryd.prog 42 #[.int .i64 c.above, .int .i64 (-1), .int .i64 ((m.classes.length : Int) - 1)] u fun e w' => e = .returned (.bool false) ∧ w' = u := by
            intro u
            have h := within_any c.above (-1) ((m.classes.length : Int) - 1) u
            rw [hA] at h
            exact h
          clear hb0 hA
          go_wp2
          go_quiet ((go_at_call 42; exact Calls.quiet_of_same (hwi _)))
          obtain ⟨wk, hwk⟩ : ∃ wk, wk = (wr.alloc (.cells #[.string c.name, .int .i64 c.above, .slice c.fieldsS.oa c.fieldsS.n c.fieldsS.c, .slice c.namesS.oa c.names.length c.namesS.c, .slice oaM c.methods.length c.methodsS.c] 125)).drewN nq := ⟨_, rfl⟩
          rw [← hwk]
          have hbk1 : Below (X + 1) w1 wk := by rw [hwk]; exact below_drewN (below_alloc hb _ (by omega)) _
          have hbkw : Below X w wk := hbl1.trans (hbk1.mono (Nat.le_succ X))
          have hkb : wk.heap[wr.heap.size]? = some (.cells #[.string c.name, .int .i64 c.above, .slice c.fieldsS.oa c.fieldsS.n c.fieldsS.c, .slice c.namesS.oa c.names.length c.namesS.c, .slice oaM c.methods.length c.methodsS.c] 125 (0, 0)) := by rw [hwk]; exact heap_alloc_new wr _
          have k1 : wk.cell? ⟨wr.heap.size, 1, none⟩ = some (.int .i64 c.above) := cell_of_block hkb rfl
          have k4 : wk.cell? ⟨wr.heap.size, 4, none⟩ = some (.slice oaM c.methods.length c.methodsS.c) := cell_of_block hkb rfl
          have g0 := (hbkw.cell (p := ⟨mb, mo, none⟩) hmlt).trans c0
          have g2 := (hbkw.cell (p := ⟨mb, mo + 2, none⟩) hmlt).trans c2
          have hmr : ∀ (j : Nat) (n : Int), c.methods[j]? = some n → wk.cell? ⟨c.methodsS.b, c.methodsS.o + j, none⟩ = some (.int .i64 n) := by
            intro j n hj
            have h := (hcl0.methods.below hbkw (Nat.le_of_eq hX)).row j [.int .i64 n] (by rw [List.getElem?_map, hj]; rfl) 0 _ rfl
            simpa using h
          have hcr : ∀ (t : Nat) (x : Cl), m.classes[t]? = some x → wk.cell? ⟨m.classesS.b, m.classesS.o + t * 5 + 1, none⟩ = some (.int .i64 x.above) := by
            intro t x ht
            exact ((hrow2 t x ht).below hbkw (Nat.le_of_eq hX)) 1 _ rfl
          have hwk' : Aside (wk = (wr.alloc (.cells #[.string c.name, .int .i64 c.above, .slice c.fieldsS.oa c.fieldsS.n c.fieldsS.c, .slice c.namesS.oa c.names.length c.namesS.c, .slice oaM c.methods.length c.methodsS.c] 125)).drewN nq) := hwk
          clear hwk e0 e1 e2 e3 e4 d2
          go_wp2
          go_loop [5, 69] (fun s5 s69 => ∃ j : Nat, s69 = .int .i64 (j : Int) ∧ j ≤ c.methods.length ∧ s5 = .bool (true || (c.methods.take j).any (methB m))) (fun _ s69 => c.methods.length - (intOf s69).toNat)
          case atStart => exact ⟨0, rfl, Nat.zero_le _, by simp⟩
          case round =>
            obtain ⟨j, rfl, hj, rfl⟩ := hrel
            by_cases hjn : j < c.methods.length
            · obtain ⟨y, hy⟩ : ∃ y, c.methods[j]? = some y := ⟨_, List.getElem?_eq_getElem hjn⟩
              have hjd : decide ((j : Int) < (c.methods.length : Int)) = true := by simp; omega
              have hoy := hM (by omega)
              subst hoy
              have hmy := hmr j y hy
              have htk : (c.methods.take (j + 1)).any (methB m) = ((c.methods.take j).any (methB m) || methB m y) := by
                rw [List.take_add_one, hy, List.any_append]; simp
              have hme := meth_eq m y
              clear hmr hcr
              cases hbb : (true || (c.methods.take j).any (methB m))
              · go_wp2_with (go_at_call 42; refine (within_any _ _ _ _).mono ?_; rintro e w1 ⟨rfl, hw1⟩; rw [hw1]; clear hw1 w1)
                go_round
                case rel =>
                  refine ⟨j + 1, by simp, by omega, ?_⟩
                  rw [htk, ← Bool.or_assoc, hbb, hme]
                  simp
                case measure => simp [intOf]; omega
              · go_wp2_with (go_at_call 42; refine (within_any _ _ _ _).mono ?_; rintro e w1 ⟨rfl, hw1⟩; rw [hw1]; clear hw1 w1)
                go_round
                case rel =>
                  refine ⟨j + 1, by simp, by omega, ?_⟩
                  rw [htk, ← Bool.or_assoc, hbb]
                  rfl
                case measure => simp [intOf]; omega
            · obtain rfl : j = c.methods.length := by omega
              have hjd : decide ((c.methods.length : Int) < (c.methods.length : Int)) = false := by simp
              rw [List.take_length]
              obtain ⟨bm, hbm⟩ : ∃ bm, bm = (true || c.methods.any (methB m)) := ⟨_, rfl⟩
              rw [← hbm]
              have hbm' : Aside (bm = (true || c.methods.any (methB m))) := hbm
              clear hbm hmr hM k4
              go_wp2
              go_loop [5, 8, 9] (fun s5 s8 s9 => ∃ (n : Nat) (q : Int) (bb : Bool), s8 = .int .i64 q ∧ s9 = .int .i64 (n : Int) ∧ s5 = .bool bb ∧ n ≤ m.classes.length + 2 ∧ (bb = true → (bm || refB (inB m) (aboveI m) k c.above (m.classes.length + 2)) = true) ∧ (bb = false → n ≤ m.classes.length + 1 ∧ (bm || refB (inB m) (aboveI m) k c.above (m.classes.length + 2)) = refB (inB m) (aboveI m) k q (m.classes.length + 2 - n))) (fun _ _ s9 => m.classes.length + 3 - (intOf s9).toNat)
              case atStart => exact ⟨0, _, bm, rfl, rfl, rfl, by omega, fun h => by rw [h]; rfl, fun h => ⟨by omega, by rw [h]; rfl⟩⟩
              case round =>
                obtain ⟨n, q, bb, rfl, rfl, rfl, hn, hbt, hbf⟩ := hrel
                cases bb
                · obtain ⟨hn2, hbf2⟩ := hbf rfl
                  clear hbf
                  have hbf := hbf2
                  clear hbf2
                  obtain ⟨t, ht⟩ : ∃ t, m.classes.length + 2 - n = t + 1 := ⟨m.classes.length + 1 - n, by omega⟩
                  rw [ht, refB_succ (k := q) (t := t)] at hbf
                  have hie := in_eq m q
                  cases hin : CodeR.within q 0 ((m.classes.length : Int) - 1)
                  · have hwq : ∀ u, Calls Tryd.prog 42 #[.int .i64 q, .int .i64 0, .int .i64 ((m.classes.length : Int) - 1)] u fun e w' => e = .returned (.bool false) ∧ w' = u := by
                      intro u
                      have h := within_any q 0 ((m.classes.length : Int) - 1) u
                      rw [hin] at h
                      exact h
                    have hfin : classBad m k c = false := by
                      rw [class_eq hx, ← hb0'.out, ← hbm'.out, hbf, hie, hin]
                      rfl
                    have hfin' : Aside (classBad m k c = false) := hfin
                    clear hbf hbt hie hin hcr hfin
                    go_wp2_with (go_at_call 42; refine (hwq _).mono ?_; rintro e w1 ⟨rfl, hw1⟩; rw [hw1]; clear hw1 w1)
                    go_roundw
                    case rel =>
                      refine ⟨k + 1, by omega, by simp, ?_, hbk1⟩
                      intro j y hj hy
                      by_cases hjk : j = k
                      · subst hjk; rw [hx] at hy; cases hy; exact hfin'.out
                      · exact hall j y (by omega) hy
                    case measure => simp [intOf]; omega
                  · have hwq : ∀ u, Calls Tryd.prog 42 #[.int .i64 q, .int .i64 0, .int .i64 ((m.classes.length : Int) - 1)] u fun e w' => e = .returned (.bool true) ∧ w' = u := by
                      intro u
                      have h := within_any q 0 ((m.classes.length : Int) - 1) u
                      rw [hin] at h
                      exact h
                    have hq : 0 ≤ q ∧ q < (m.classes.length : Int) := by simp [CodeR.within] at hin; omega
                    obtain ⟨hq0, hq1⟩ := hq
                    obtain ⟨x, hxq⟩ := get_of_lt (l := m.classes) hq0 hq1
                    have hcx := hcr q.toNat x hxq
                    have hab : aboveI m q = x.above := by unfold aboveI; rw [hxq]; rfl
                    rw [hie, hin, hab] at hbf
                    have hAf : Aside ((bm || refB (inB m) (aboveI m) k c.above (m.classes.length + 2)) = (true && (decide (q = (k : Int)) || refB (inB m) (aboveI m) k x.above t))) := hbf
                    clear hcr hbf hbt hie hin hab
                    by_cases hqk : q = (k : Int)
                    · have hzk : (q == (k : Int)) = true := by simpa using hqk
                      have hqk' : Aside (q = (k : Int)) := hqk
                      clear hqk
                      go_wp2_with (go_at_call 42; refine (hwq _).mono ?_; rintro e w1 ⟨rfl, hw1⟩; rw [hw1]; clear hw1 w1)
                      go_round
                      case rel => exact ⟨n + 1, x.above, true, rfl, by simp, rfl, by omega, fun _ => by rw [hAf.out, decide_eq_true hqk'.out]; rfl, fun h => by cases h⟩
                      case measure => simp [intOf]; omega
                    · have hzk : (q == (k : Int)) = false := by simpa using hqk
                      have hqk' : Aside (¬ q = (k : Int)) := hqk
                      clear hqk
                      by_cases hnl : (m.classes.length : Int) < (n : Int)
                      · have hzn : decide ((m.classes.length : Int) < (n : Int)) = true := by simpa using hnl
                        have ht0 : t = 0 := by omega
                        go_wp2_with (go_at_call 42; refine (hwq _).mono ?_; rintro e w1 ⟨rfl, hw1⟩; rw [hw1]; clear hw1 w1)
                        go_round
                        case rel => exact ⟨n + 1, x.above, true, rfl, by simp, rfl, by omega, fun _ => by rw [hAf.out, ht0]; simp [refB], fun h => by cases h⟩
                        case measure => simp [intOf]; omega
                      · have hzn : decide ((m.classes.length : Int) < (n : Int)) = false := by simpa using hnl
                        go_wp2_with (go_at_call 42; refine (hwq _).mono ?_; rintro e w1 ⟨rfl, hw1⟩; rw [hw1]; clear hw1 w1)
                        go_round
                        case rel =>
                          refine ⟨n + 1, x.above, false, rfl, by simp, rfl, by omega, (fun h => by cases h), fun _ => ⟨by omega, ?_⟩⟩
                          rw [hAf.out, decide_eq_false hqk'.out, show m.classes.length + 2 - (n + 1) = t by omega]
                          rfl
                        case measure => simp [intOf]; omega
                · have hbad : classBad m k c = true := by
                    rw [class_eq hx, ← hb0'.out, ← hbm'.out]
                    exact hbt rfl
                  have hv := class_verdict hlim hx hbad
                  clear hbt hbf hcr hbad
                  go_wp2_with fail
                  refine (ErrC.bareF 2 _).mono ?_
                  rintro e wb ⟨rfl, hbb⟩
                  have hbX : wb.heap[X]? = some (.cells #[.int .i64 0, .int .i64 0] 48 (0, 0)) := (hbb.block _ (by have := hbk1.size; omega)).trans ((hbk1.block _ (Nat.lt_succ_self X)).trans hbx1)
                  have hbw2 : Below X w wb := hbkw.trans (hbb.mono (by have := hbk1.size; omega))
                  obtain ⟨q0, q1, q2⟩ := two_cells hbX
                  have q20 := q2 0
                  have q21 := q2 1
                  clear q2 hbb
                  go_wp2
                  (try simp only [Exit.inBlock, Exit.then])
                  have hfin := two_set (e := .int .i64 2) (p := .int .i64 (-1)) hbX
                  refine bodyPost_ret (fault_result rfl (two_cells hfin).1 (two_cells hfin).2.1) rfl ⟨2, -1, rfl, hv, ?_⟩
                  try rw [hX]
                  exact (hbw2.setCell (Nat.le_refl X) _).setCell (Nat.le_refl X) _
        · by_cases q3 : c.names.length = c.methods.length
          · have z3 : ((c.names.length : Int) != (c.methods.length : Int)) = false := by simp [q3]
            have hb0' : Aside (false = (!CodeR.within c.above (-1) ((m.classes.length : Int) - 1) || decide (c.names.length ≠ c.methods.length))) := by show false = _; rw [hA]; simp [q3]
            have hwi : ∀ u, Calls Tryd.prog 42 #[.int .i64 c.above, .int .i64 (-1), .int .i64 ((m.classes.length : Int) - 1)] u fun e w' => e = .returned (.bool true) ∧ w' = u := by
              intro u
              have h := within_any c.above (-1) ((m.classes.length : Int) - 1) u
              rw [hA] at h
              exact h
            have q3' : Aside (c.names.length = c.methods.length) := q3
            clear hA q3
            go_wp2
            go_quiet ((go_at_call 42; exact Calls.quiet_of_same (hwi _)))
            obtain ⟨wk, hwk⟩ : ∃ wk, wk = (wr.alloc (.cells #[.string c.name, .int .i64 c.above, .slice c.fieldsS.oa c.fieldsS.n c.fieldsS.c, .slice c.namesS.oa c.names.length c.namesS.c, .slice oaM c.methods.length c.methodsS.c] 125)).drewN nq := ⟨_, rfl⟩
            rw [← hwk]
            have hbk1 : Below (X + 1) w1 wk := by rw [hwk]; exact below_drewN (below_alloc hb _ (by omega)) _
            have hbkw : Below X w wk := hbl1.trans (hbk1.mono (Nat.le_succ X))
            have hkb : wk.heap[wr.heap.size]? = some (.cells #[.string c.name, .int .i64 c.above, .slice c.fieldsS.oa c.fieldsS.n c.fieldsS.c, .slice c.namesS.oa c.names.length c.namesS.c, .slice oaM c.methods.length c.methodsS.c] 125 (0, 0)) := by rw [hwk]; exact heap_alloc_new wr _
            have k1 : wk.cell? ⟨wr.heap.size, 1, none⟩ = some (.int .i64 c.above) := cell_of_block hkb rfl
            have k4 : wk.cell? ⟨wr.heap.size, 4, none⟩ = some (.slice oaM c.methods.length c.methodsS.c) := cell_of_block hkb rfl
            have g0 := (hbkw.cell (p := ⟨mb, mo, none⟩) hmlt).trans c0
            have g2 := (hbkw.cell (p := ⟨mb, mo + 2, none⟩) hmlt).trans c2
            have hmr : ∀ (j : Nat) (n : Int), c.methods[j]? = some n → wk.cell? ⟨c.methodsS.b, c.methodsS.o + j, none⟩ = some (.int .i64 n) := by
              intro j n hj
              have h := (hcl0.methods.below hbkw (Nat.le_of_eq hX)).row j [.int .i64 n] (by rw [List.getElem?_map, hj]; rfl) 0 _ rfl
              simpa using h
            have hcr : ∀ (t : Nat) (x : Cl), m.classes[t]? = some x → wk.cell? ⟨m.classesS.b, m.classesS.o + t * 5 + 1, none⟩ = some (.int .i64 x.above) := by
              intro t x ht
              exact ((hrow2 t x ht).below hbkw (Nat.le_of_eq hX)) 1 _ rfl
            have hwk' : Aside (wk = (wr.alloc (.cells #[.string c.name, .int .i64 c.above, .slice c.fieldsS.oa c.fieldsS.n c.fieldsS.c, .slice c.namesS.oa c.names.length c.namesS.c, .slice oaM c.methods.length c.methodsS.c] 125)).drewN nq) := hwk
            clear hwk e0 e1 e2 e3 e4 d2
            go_wp2
            go_loop [5, 69] (fun s5 s69 => ∃ j : Nat, s69 = .int .i64 (j : Int) ∧ j ≤ c.methods.length ∧ s5 = .bool (false || (c.methods.take j).any (methB m))) (fun _ s69 => c.methods.length - (intOf s69).toNat)
            case atStart => exact ⟨0, rfl, Nat.zero_le _, by simp⟩
            case round =>
              obtain ⟨j, rfl, hj, rfl⟩ := hrel
              by_cases hjn : j < c.methods.length
              · obtain ⟨y, hy⟩ : ∃ y, c.methods[j]? = some y := ⟨_, List.getElem?_eq_getElem hjn⟩
                have hjd : decide ((j : Int) < (c.methods.length : Int)) = true := by simp; omega
                have hoy := hM (by omega)
                subst hoy
                have hmy := hmr j y hy
                have htk : (c.methods.take (j + 1)).any (methB m) = ((c.methods.take j).any (methB m) || methB m y) := by
                  rw [List.take_add_one, hy, List.any_append]; simp
                have hme := meth_eq m y
                clear hmr hcr
                cases hbb : (false || (c.methods.take j).any (methB m))
                · go_wp2_with (go_at_call 42; refine (within_any _ _ _ _).mono ?_; rintro e w1 ⟨rfl, hw1⟩; rw [hw1]; clear hw1 w1)
                  go_round
                  case rel =>
                    refine ⟨j + 1, by simp, by omega, ?_⟩
                    rw [htk, ← Bool.or_assoc, hbb, hme]
                    simp
                  case measure => simp [intOf]; omega
                · go_wp2_with (go_at_call 42; refine (within_any _ _ _ _).mono ?_; rintro e w1 ⟨rfl, hw1⟩; rw [hw1]; clear hw1 w1)
                  go_round
                  case rel =>
                    refine ⟨j + 1, by simp, by omega, ?_⟩
                    rw [htk, ← Bool.or_assoc, hbb]
                    rfl
                  case measure => simp [intOf]; omega
              · obtain rfl : j = c.methods.length := by omega
                have hjd : decide ((c.methods.length : Int) < (c.methods.length : Int)) = false := by simp
                rw [List.take_length]
                obtain ⟨bm, hbm⟩ : ∃ bm, bm = (false || c.methods.any (methB m)) := ⟨_, rfl⟩
                rw [← hbm]
                have hbm' : Aside (bm = (false || c.methods.any (methB m))) := hbm
                clear hbm hmr hM k4
                go_wp2
                go_loop [5, 8, 9] (fun s5 s8 s9 => ∃ (n : Nat) (q : Int) (bb : Bool), s8 = .int .i64 q ∧ s9 = .int .i64 (n : Int) ∧ s5 = .bool bb ∧ n ≤ m.classes.length + 2 ∧ (bb = true → (bm || refB (inB m) (aboveI m) k c.above (m.classes.length + 2)) = true) ∧ (bb = false → n ≤ m.classes.length + 1 ∧ (bm || refB (inB m) (aboveI m) k c.above (m.classes.length + 2)) = refB (inB m) (aboveI m) k q (m.classes.length + 2 - n))) (fun _ _ s9 => m.classes.length + 3 - (intOf s9).toNat)
                case atStart => exact ⟨0, _, bm, rfl, rfl, rfl, by omega, fun h => by rw [h]; rfl, fun h => ⟨by omega, by rw [h]; rfl⟩⟩
                case round =>
                  obtain ⟨n, q, bb, rfl, rfl, rfl, hn, hbt, hbf⟩ := hrel
                  cases bb
                  · obtain ⟨hn2, hbf2⟩ := hbf rfl
                    clear hbf
                    have hbf := hbf2
                    clear hbf2
                    obtain ⟨t, ht⟩ : ∃ t, m.classes.length + 2 - n = t + 1 := ⟨m.classes.length + 1 - n, by omega⟩
                    rw [ht, refB_succ (k := q) (t := t)] at hbf
                    have hie := in_eq m q
                    cases hin : CodeR.within q 0 ((m.classes.length : Int) - 1)
                    · have hwq : ∀ u, Calls Tryd.prog 42 #[.int .i64 q, .int .i64 0, .int .i64 ((m.classes.length : Int) - 1)] u fun e w' => e = .returned (.bool false) ∧ w' = u := by
                        intro u
                        have h := within_any q 0 ((m.classes.length : Int) - 1) u
                        rw [hin] at h
                        exact h
                      have hfin : classBad m k c = false := by
                        rw [class_eq hx, ← hb0'.out, ← hbm'.out, hbf, hie, hin]
                        rfl
                      have hfin' : Aside (classBad m k c = false) := hfin
                      clear hbf hbt hie hin hcr hfin
                      go_wp2_with (go_at_call 42; refine (hwq _).mono ?_; rintro e w1 ⟨rfl, hw1⟩; rw [hw1]; clear hw1 w1)
                      go_roundw
                      case rel =>
                        refine ⟨k + 1, by omega, by simp, ?_, hbk1⟩
                        intro j y hj hy
                        by_cases hjk : j = k
                        · subst hjk; rw [hx] at hy; cases hy; exact hfin'.out
                        · exact hall j y (by omega) hy
                      case measure => simp [intOf]; omega
                    · have hwq : ∀ u, Calls Tryd.prog 42 #[.int .i64 q, .int .i64 0, .int .i64 ((m.classes.length : Int) - 1)] u fun e w' => e = .returned (.bool true) ∧ w' = u := by
                        intro u
                        have h := within_any q 0 ((m.classes.length : Int) - 1) u
                        rw [hin] at h
                        exact h
                      have hq : 0 ≤ q ∧ q < (m.classes.length : Int) := by simp [CodeR.within] at hin; omega
                      obtain ⟨hq0, hq1⟩ := hq
                      obtain ⟨x, hxq⟩ := get_of_lt (l := m.classes) hq0 hq1
                      have hcx := hcr q.toNat x hxq
                      have hab : aboveI m q = x.above := by unfold aboveI; rw [hxq]; rfl
                      rw [hie, hin, hab] at hbf
                      have hAf : Aside ((bm || refB (inB m) (aboveI m) k c.above (m.classes.length + 2)) = (true && (decide (q = (k : Int)) || refB (inB m) (aboveI m) k x.above t))) := hbf
                      clear hcr hbf hbt hie hin hab
                      by_cases hqk : q = (k : Int)
                      · have hzk : (q == (k : Int)) = true := by simpa using hqk
                        have hqk' : Aside (q = (k : Int)) := hqk
                        clear hqk
                        go_wp2_with (go_at_call 42; refine (hwq _).mono ?_; rintro e w1 ⟨rfl, hw1⟩; rw [hw1]; clear hw1 w1)
                        go_round
                        case rel => exact ⟨n + 1, x.above, true, rfl, by simp, rfl, by omega, fun _ => by rw [hAf.out, decide_eq_true hqk'.out]; rfl, fun h => by cases h⟩
                        case measure => simp [intOf]; omega
                      · have hzk : (q == (k : Int)) = false := by simpa using hqk
                        have hqk' : Aside (¬ q = (k : Int)) := hqk
                        clear hqk
                        by_cases hnl : (m.classes.length : Int) < (n : Int)
                        · have hzn : decide ((m.classes.length : Int) < (n : Int)) = true := by simpa using hnl
                          have ht0 : t = 0 := by omega
                          go_wp2_with (go_at_call 42; refine (hwq _).mono ?_; rintro e w1 ⟨rfl, hw1⟩; rw [hw1]; clear hw1 w1)
                          go_round
                          case rel => exact ⟨n + 1, x.above, true, rfl, by simp, rfl, by omega, fun _ => by rw [hAf.out, ht0]; simp [refB], fun h => by cases h⟩
                          case measure => simp [intOf]; omega
                        · have hzn : decide ((m.classes.length : Int) < (n : Int)) = false := by simpa using hnl
                          go_wp2_with (go_at_call 42; refine (hwq _).mono ?_; rintro e w1 ⟨rfl, hw1⟩; rw [hw1]; clear hw1 w1)
                          go_round
                          case rel =>
                            refine ⟨n + 1, x.above, false, rfl, by simp, rfl, by omega, (fun h => by cases h), fun _ => ⟨by omega, ?_⟩⟩
                            rw [hAf.out, decide_eq_false hqk'.out, show m.classes.length + 2 - (n + 1) = t by omega]
                            rfl
                          case measure => simp [intOf]; omega
                  · have hbad : classBad m k c = true := by
                      rw [class_eq hx, ← hb0'.out, ← hbm'.out]
                      exact hbt rfl
                    have hv := class_verdict hlim hx hbad
                    clear hbt hbf hcr hbad
                    go_wp2_with fail
                    refine (ErrC.bareF 2 _).mono ?_
                    rintro e wb ⟨rfl, hbb⟩
                    have hbX : wb.heap[X]? = some (.cells #[.int .i64 0, .int .i64 0] 48 (0, 0)) := (hbb.block _ (by have := hbk1.size; omega)).trans ((hbk1.block _ (Nat.lt_succ_self X)).trans hbx1)
                    have hbw2 : Below X w wb := hbkw.trans (hbb.mono (by have := hbk1.size; omega))
                    obtain ⟨q0, q1, q2⟩ := two_cells hbX
                    have q20 := q2 0
                    have q21 := q2 1
                    clear q2 hbb
                    go_wp2
                    (try simp only [Exit.inBlock, Exit.then])
                    have hfin := two_set (e := .int .i64 2) (p := .int .i64 (-1)) hbX
                    refine bodyPost_ret (fault_result rfl (two_cells hfin).1 (two_cells hfin).2.1) rfl ⟨2, -1, rfl, hv, ?_⟩
                    try rw [hX]
                    exact (hbw2.setCell (Nat.le_refl X) _).setCell (Nat.le_refl X) _
          · have z3 : ((c.names.length : Int) != (c.methods.length : Int)) = true := by simp; omega
            have hb0' : Aside (true = (!CodeR.within c.above (-1) ((m.classes.length : Int) - 1) || decide (c.names.length ≠ c.methods.length))) := by show true = _; rw [hA]; simp [q3]
            have hwi : ∀ u, Calls Tryd.prog 42 #[.int .i64 c.above, .int .i64 (-1), .int .i64 ((m.classes.length : Int) - 1)] u fun e w' => e = .returned (.bool true) ∧ w' = u := by
              intro u
              have h := within_any c.above (-1) ((m.classes.length : Int) - 1) u
              rw [hA] at h
              exact h
            clear hA q3
            go_wp2
            go_quiet ((go_at_call 42; exact Calls.quiet_of_same (hwi _)))
            obtain ⟨wk, hwk⟩ : ∃ wk, wk = (wr.alloc (.cells #[.string c.name, .int .i64 c.above, .slice c.fieldsS.oa c.fieldsS.n c.fieldsS.c, .slice c.namesS.oa c.names.length c.namesS.c, .slice oaM c.methods.length c.methodsS.c] 125)).drewN nq := ⟨_, rfl⟩
            rw [← hwk]
            have hbk1 : Below (X + 1) w1 wk := by rw [hwk]; exact below_drewN (below_alloc hb _ (by omega)) _
            have hbkw : Below X w wk := hbl1.trans (hbk1.mono (Nat.le_succ X))
            have hkb : wk.heap[wr.heap.size]? = some (.cells #[.string c.name, .int .i64 c.above, .slice c.fieldsS.oa c.fieldsS.n c.fieldsS.c, .slice c.namesS.oa c.names.length c.namesS.c, .slice oaM c.methods.length c.methodsS.c] 125 (0, 0)) := by rw [hwk]; exact heap_alloc_new wr _
            have k1 : wk.cell? ⟨wr.heap.size, 1, none⟩ = some (.int .i64 c.above) := cell_of_block hkb rfl
            have k4 : wk.cell? ⟨wr.heap.size, 4, none⟩ = some (.slice oaM c.methods.length c.methodsS.c) := cell_of_block hkb rfl
            have g0 := (hbkw.cell (p := ⟨mb, mo, none⟩) hmlt).trans c0
            have g2 := (hbkw.cell (p := ⟨mb, mo + 2, none⟩) hmlt).trans c2
            have hmr : ∀ (j : Nat) (n : Int), c.methods[j]? = some n → wk.cell? ⟨c.methodsS.b, c.methodsS.o + j, none⟩ = some (.int .i64 n) := by
              intro j n hj
              have h := (hcl0.methods.below hbkw (Nat.le_of_eq hX)).row j [.int .i64 n] (by rw [List.getElem?_map, hj]; rfl) 0 _ rfl
              simpa using h
            have hcr : ∀ (t : Nat) (x : Cl), m.classes[t]? = some x → wk.cell? ⟨m.classesS.b, m.classesS.o + t * 5 + 1, none⟩ = some (.int .i64 x.above) := by
              intro t x ht
              exact ((hrow2 t x ht).below hbkw (Nat.le_of_eq hX)) 1 _ rfl
            have hwk' : Aside (wk = (wr.alloc (.cells #[.string c.name, .int .i64 c.above, .slice c.fieldsS.oa c.fieldsS.n c.fieldsS.c, .slice c.namesS.oa c.names.length c.namesS.c, .slice oaM c.methods.length c.methodsS.c] 125)).drewN nq) := hwk
            clear hwk e0 e1 e2 e3 e4 d2
            go_wp2
            go_loop [5, 69] (fun s5 s69 => ∃ j : Nat, s69 = .int .i64 (j : Int) ∧ j ≤ c.methods.length ∧ s5 = .bool (true || (c.methods.take j).any (methB m))) (fun _ s69 => c.methods.length - (intOf s69).toNat)
            case atStart => exact ⟨0, rfl, Nat.zero_le _, by simp⟩
            case round =>
              obtain ⟨j, rfl, hj, rfl⟩ := hrel
              by_cases hjn : j < c.methods.length
              · obtain ⟨y, hy⟩ : ∃ y, c.methods[j]? = some y := ⟨_, List.getElem?_eq_getElem hjn⟩
                have hjd : decide ((j : Int) < (c.methods.length : Int)) = true := by simp; omega
                have hoy := hM (by omega)
                subst hoy
                have hmy := hmr j y hy
                have htk : (c.methods.take (j + 1)).any (methB m) = ((c.methods.take j).any (methB m) || methB m y) := by
                  rw [List.take_add_one, hy, List.any_append]; simp
                have hme := meth_eq m y
                clear hmr hcr
                cases hbb : (true || (c.methods.take j).any (methB m))
                · go_wp2_with (go_at_call 42; refine (within_any _ _ _ _).mono ?_; rintro e w1 ⟨rfl, hw1⟩; rw [hw1]; clear hw1 w1)
                  go_round
                  case rel =>
                    refine ⟨j + 1, by simp, by omega, ?_⟩
                    rw [htk, ← Bool.or_assoc, hbb, hme]
                    simp
                  case measure => simp [intOf]; omega
                · go_wp2_with (go_at_call 42; refine (within_any _ _ _ _).mono ?_; rintro e w1 ⟨rfl, hw1⟩; rw [hw1]; clear hw1 w1)
                  go_round
                  case rel =>
                    refine ⟨j + 1, by simp, by omega, ?_⟩
                    rw [htk, ← Bool.or_assoc, hbb]
                    rfl
                  case measure => simp [intOf]; omega
              · obtain rfl : j = c.methods.length := by omega
                have hjd : decide ((c.methods.length : Int) < (c.methods.length : Int)) = false := by simp
                rw [List.take_length]
                obtain ⟨bm, hbm⟩ : ∃ bm, bm = (true || c.methods.any (methB m)) := ⟨_, rfl⟩
                rw [← hbm]
                have hbm' : Aside (bm = (true || c.methods.any (methB m))) := hbm
                clear hbm hmr hM k4
                go_wp2
                go_loop [5, 8, 9] (fun s5 s8 s9 => ∃ (n : Nat) (q : Int) (bb : Bool), s8 = .int .i64 q ∧ s9 = .int .i64 (n : Int) ∧ s5 = .bool bb ∧ n ≤ m.classes.length + 2 ∧ (bb = true → (bm || refB (inB m) (aboveI m) k c.above (m.classes.length + 2)) = true) ∧ (bb = false → n ≤ m.classes.length + 1 ∧ (bm || refB (inB m) (aboveI m) k c.above (m.classes.length + 2)) = refB (inB m) (aboveI m) k q (m.classes.length + 2 - n))) (fun _ _ s9 => m.classes.length + 3 - (intOf s9).toNat)
                case atStart => exact ⟨0, _, bm, rfl, rfl, rfl, by omega, fun h => by rw [h]; rfl, fun h => ⟨by omega, by rw [h]; rfl⟩⟩
                case round =>
                  obtain ⟨n, q, bb, rfl, rfl, rfl, hn, hbt, hbf⟩ := hrel
                  cases bb
                  · obtain ⟨hn2, hbf2⟩ := hbf rfl
                    clear hbf
                    have hbf := hbf2
                    clear hbf2
                    obtain ⟨t, ht⟩ : ∃ t, m.classes.length + 2 - n = t + 1 := ⟨m.classes.length + 1 - n, by omega⟩
                    rw [ht, refB_succ (k := q) (t := t)] at hbf
                    have hie := in_eq m q
                    cases hin : CodeR.within q 0 ((m.classes.length : Int) - 1)
                    · have hwq : ∀ u, Calls Tryd.prog 42 #[.int .i64 q, .int .i64 0, .int .i64 ((m.classes.length : Int) - 1)] u fun e w' => e = .returned (.bool false) ∧ w' = u := by
                        intro u
                        have h := within_any q 0 ((m.classes.length : Int) - 1) u
                        rw [hin] at h
                        exact h
                      have hfin : classBad m k c = false := by
                        rw [class_eq hx, ← hb0'.out, ← hbm'.out, hbf, hie, hin]
                        rfl
                      have hfin' : Aside (classBad m k c = false) := hfin
                      clear hbf hbt hie hin hcr hfin
                      go_wp2_with (go_at_call 42; refine (hwq _).mono ?_; rintro e w1 ⟨rfl, hw1⟩; rw [hw1]; clear hw1 w1)
                      go_roundw
                      case rel =>
                        refine ⟨k + 1, by omega, by simp, ?_, hbk1⟩
                        intro j y hj hy
                        by_cases hjk : j = k
                        · subst hjk; rw [hx] at hy; cases hy; exact hfin'.out
                        · exact hall j y (by omega) hy
                      case measure => simp [intOf]; omega
                    · have hwq : ∀ u, Calls Tryd.prog 42 #[.int .i64 q, .int .i64 0, .int .i64 ((m.classes.length : Int) - 1)] u fun e w' => e = .returned (.bool true) ∧ w' = u := by
                        intro u
                        have h := within_any q 0 ((m.classes.length : Int) - 1) u
                        rw [hin] at h
                        exact h
                      have hq : 0 ≤ q ∧ q < (m.classes.length : Int) := by simp [CodeR.within] at hin; omega
                      obtain ⟨hq0, hq1⟩ := hq
                      obtain ⟨x, hxq⟩ := get_of_lt (l := m.classes) hq0 hq1
                      have hcx := hcr q.toNat x hxq
                      have hab : aboveI m q = x.above := by unfold aboveI; rw [hxq]; rfl
                      rw [hie, hin, hab] at hbf
                      have hAf : Aside ((bm || refB (inB m) (aboveI m) k c.above (m.classes.length + 2)) = (true && (decide (q = (k : Int)) || refB (inB m) (aboveI m) k x.above t))) := hbf
                      clear hcr hbf hbt hie hin hab
                      by_cases hqk : q = (k : Int)
                      · have hzk : (q == (k : Int)) = true := by simpa using hqk
                        have hqk' : Aside (q = (k : Int)) := hqk
                        clear hqk
                        go_wp2_with (go_at_call 42; refine (hwq _).mono ?_; rintro e w1 ⟨rfl, hw1⟩; rw [hw1]; clear hw1 w1)
                        go_round
                        case rel => exact ⟨n + 1, x.above, true, rfl, by simp, rfl, by omega, fun _ => by rw [hAf.out, decide_eq_true hqk'.out]; rfl, fun h => by cases h⟩
                        case measure => simp [intOf]; omega
                      · have hzk : (q == (k : Int)) = false := by simpa using hqk
                        have hqk' : Aside (¬ q = (k : Int)) := hqk
                        clear hqk
                        by_cases hnl : (m.classes.length : Int) < (n : Int)
                        · have hzn : decide ((m.classes.length : Int) < (n : Int)) = true := by simpa using hnl
                          have ht0 : t = 0 := by omega
                          go_wp2_with (go_at_call 42; refine (hwq _).mono ?_; rintro e w1 ⟨rfl, hw1⟩; rw [hw1]; clear hw1 w1)
                          go_round
                          case rel => exact ⟨n + 1, x.above, true, rfl, by simp, rfl, by omega, fun _ => by rw [hAf.out, ht0]; simp [refB], fun h => by cases h⟩
                          case measure => simp [intOf]; omega
                        · have hzn : decide ((m.classes.length : Int) < (n : Int)) = false := by simpa using hnl
                          go_wp2_with (go_at_call 42; refine (hwq _).mono ?_; rintro e w1 ⟨rfl, hw1⟩; rw [hw1]; clear hw1 w1)
                          go_round
                          case rel =>
                            refine ⟨n + 1, x.above, false, rfl, by simp, rfl, by omega, (fun h => by cases h), fun _ => ⟨by omega, ?_⟩⟩
                            rw [hAf.out, decide_eq_false hqk'.out, show m.classes.length + 2 - (n + 1) = t by omega]
                            rfl
                          case measure => simp [intOf]; omega
                  · have hbad : classBad m k c = true := by
                      rw [class_eq hx, ← hb0'.out, ← hbm'.out]
                      exact hbt rfl
                    have hv := class_verdict hlim hx hbad
                    clear hbt hbf hcr hbad
                    go_wp2_with fail
                    refine (ErrC.bareF 2 _).mono ?_
                    rintro e wb ⟨rfl, hbb⟩
                    have hbX : wb.heap[X]? = some (.cells #[.int .i64 0, .int .i64 0] 48 (0, 0)) := (hbb.block _ (by have := hbk1.size; omega)).trans ((hbk1.block _ (Nat.lt_succ_self X)).trans hbx1)
                    have hbw2 : Below X w wb := hbkw.trans (hbb.mono (by have := hbk1.size; omega))
                    obtain ⟨q0, q1, q2⟩ := two_cells hbX
                    have q20 := q2 0
                    have q21 := q2 1
                    clear q2 hbb
                    go_wp2
                    (try simp only [Exit.inBlock, Exit.then])
                    have hfin := two_set (e := .int .i64 2) (p := .int .i64 (-1)) hbX
                    refine bodyPost_ret (fault_result rfl (two_cells hfin).1 (two_cells hfin).2.1) rfl ⟨2, -1, rfl, hv, ?_⟩
                    try rw [hX]
                    exact (hbw2.setCell (Nat.le_refl X) _).setCell (Nat.le_refl X) _
      · obtain rfl : k = m.classes.length := by omega
        have hkd : decide ((m.classes.length : Int) < (m.classes.length : Int)) = false := by simp
        have hcls : ∀ j c, m.classes[j]? = some c → classBad m j c = false := fun j c hj => hall j c (List.getElem?_eq_some_iff.mp hj).1 hj
        have hb1 := hb
        have g0 := (hbw.cell (p := ⟨mb, mo, none⟩) hmlt).trans c0
        clear hall hb hbw hsz hrow2 a2
        go_wp2
        clear g0
        go_loopw [130] (fun v wr => ∃ k : Nat, k ≤ m.funcs.length ∧ v = .int .i64 (k : Int) ∧ (∀ j g, j < k → m.funcs[j]? = some g → Verdict m g 0) ∧ Below (X + 1) w1 wr) (fun v _ => m.funcs.length - (intOf v).toNat)
        case atStart => exact ⟨0, Nat.zero_le _, rfl, fun j x hj => by omega, hb1⟩
        case round =>
          clear hb1
          obtain ⟨k, hk, rfl, hall, hb⟩ := hrel
          have hbw : Below X w wr := hbl1.trans (hb.mono (Nat.le_succ X))
          have hsz : X + 1 ≤ wr.heap.size := by have := hb.size; omega
          by_cases hkn : k < m.funcs.length
          · obtain ⟨f, hx⟩ : ∃ f, m.funcs[k]? = some f := ⟨_, List.getElem?_eq_getElem hkn⟩
            have hfm := List.mem_of_getElem? hx
            have hkd : decide ((k : Int) < (m.funcs.length : Int)) = true := by simp; omega
            have hoa := a0 (by omega)
            subst hoa
            have hxr : Row wr m.funcsS.b (m.funcsS.o + k * 6) f.vals := (hrow0 k f hx).below hbw (Nat.le_of_eq hX)
            have e0 : wr.cell? ⟨m.funcsS.b, m.funcsS.o + k * 6, none⟩ = some (.string f.name) := hxr 0 _ rfl
            have e1 : wr.cell? ⟨m.funcsS.b, m.funcsS.o + k * 6 + 1, none⟩ = some (.int .i64 f.params) := hxr 1 _ rfl
            have e2 : wr.cell? ⟨m.funcsS.b, m.funcsS.o + k * 6 + 2, none⟩ = some (.int .i64 f.slots) := hxr 2 _ rfl
            have e3 : wr.cell? ⟨m.funcsS.b, m.funcsS.o + k * 6 + 3, none⟩ = some (.slice f.codeS.oa f.codeS.n f.codeS.c) := hxr 3 _ rfl
            have e4 : wr.cell? ⟨m.funcsS.b, m.funcsS.o + k * 6 + 4, none⟩ = some (.slice f.hsS.oa f.hsS.n f.hsS.c) := hxr 4 _ rfl
            have e5 : wr.cell? ⟨m.funcsS.b, m.funcsS.o + k * 6 + 5, none⟩ = some (.slice f.varsS.oa f.varsS.n f.varsS.c) := hxr 5 _ rfl
            clear hxr hrow0
            go_wp2_with fail
            refine (rfun_any mb mo m f _ (hm.below (below_alloc hbw _ (Nat.le_of_eq hX.symm)) (Nat.le_of_eq hX)) (hi.below (below_alloc hbw _ (Nat.le_of_eq hX.symm)) (Nat.le_of_eq hX)) ((hi.fn f hfm).below (below_alloc hbw _ (Nat.le_of_eq hX.symm)) (Nat.le_of_eq hX)) (hbk f hfm)).mono ?_
            rintro r w2 ⟨e, rfl, hv, hb2⟩
            have hb2' : Below wr.heap.size wr w2 := (below_alloc (Below.refl _ _) _ (Nat.le_refl _)).trans (hb2.mono (by simp))
            clear hb2 e0 e1 e2 e3 e4 e5
            by_cases he : e = 0
            · subst he
              go_wp2
              go_roundw
              case rel =>
                refine ⟨k + 1, by omega, by simp, ?_, hb.trans (hb2'.mono hsz)⟩
                intro j y hj hy
                by_cases hjk : j = k
                · subst hjk; rw [hx] at hy; cases hy; exact hv
                · exact hall j y (by omega) hy
              case measure => simp [intOf]; omega
            · have hne : (e != 0) = true := by simpa using he
              have hIV : ImVerdict m e (k : Int) := { lim := fun h => by (rw [hlim] at h; cases h), cls := fun _ h => by (obtain ⟨j, c, h1, h2⟩ := h; rw [hcls j c h1] at h2; cases h2), fns := fun _ _ => Or.inr ⟨k, f, hx, rfl, he, hv, hall⟩ }
              have hbX : w2.heap[X]? = some (.cells #[.int .i64 0, .int .i64 0] 48 (0, 0)) := (hb2'.block _ (by omega)).trans ((hb.block _ (Nat.lt_succ_self X)).trans hbx1)
              have hbw2 : Below X w w2 := hbw.trans (hb2'.mono (by omega))
              obtain ⟨q0, q1, q2⟩ := two_cells hbX
              have q20 := q2 0
              have q21 := q2 1
              clear q2 he hv
              go_wp2
              (try simp only [Exit.inBlock, Exit.then])
              have hfin := two_set (e := .int .i64 e) (p := .int .i64 (k : Int)) hbX
              refine bodyPost_ret (fault_result rfl (two_cells hfin).1 (two_cells hfin).2.1) rfl ⟨e, (k : Int), rfl, hIV, ?_⟩
              try rw [hX]
              exact (hbw2.setCell (Nat.le_refl X) _).setCell (Nat.le_refl X) _
          · obtain rfl : k = m.funcs.length := by omega
            have hkd : decide ((m.funcs.length : Int) < (m.funcs.length : Int)) = false := by simp
            have hIV : ImVerdict m 0 (-1) := { lim := fun h => by (rw [hlim] at h; cases h), cls := fun _ h => by (obtain ⟨j, c, h1, h2⟩ := h; rw [hcls j c h1] at h2; cases h2), fns := fun _ _ => Or.inl ⟨rfl, rfl, fun f hf => by (obtain ⟨j, hj⟩ := List.mem_iff_getElem?.mp hf; exact hall j f (List.getElem?_eq_some_iff.mp hj).1 hj)⟩ }
            have r0 := (hbw.cell (p := ⟨0, 0, none⟩) hglt).trans hf0
            have r1 := (hbw.cell (p := ⟨0, 1, none⟩) hglt).trans hf1
            have hbX : wr.heap[X]? = some (.cells #[.int .i64 0, .int .i64 0] 48 (0, 0)) := (hb.block _ (Nat.lt_succ_self X)).trans hbx1
            obtain ⟨q0, q1, q2⟩ := two_cells hbX
            have q20 := q2 0
            have q21 := q2 1
            clear q2
            go_wp2
            (try simp only [Exit.inBlock, Exit.then])
            have hfin := two_set (e := .int .i64 0) (p := .int .i64 (-1)) hbX
            refine bodyPost_ret (fault_result rfl (two_cells hfin).1 (two_cells hfin).2.1) rfl ⟨0, -1, rfl, hIV, ?_⟩
            try rw [hX]
            exact (hbw.setCell (Nat.le_refl X) _).setCell (Nat.le_refl X) _
  · have hv : ImVerdict m 4 (-1) := { lim := fun _ => ⟨rfl, rfl⟩, cls := fun h => by (rw [hlF] at h; cases h), fns := fun h => by (rw [hlF] at h; cases h) }
    clear hm hi a0 a2 hf0 hf1
    have hbare : ∀ u, Calls Tryd.prog 24 #[.int .i64 4] u fun e w' => e = .returned (.agg #[.int .i64 4, .int .i64 (-1)]) ∧ Below u.heap.size u w' := fun u => ErrC.bareF 4 u
    cases hw : CodeR.within (m.funcs.length : Int) 1 250
    · go_enter Tryd.func21, Tryd.ntmps21
      go_wp2_with (go_at_call 42; refine (within_any _ _ _ _).mono ?_; rintro e w1 ⟨rfl, hw1⟩; rw [hw1]; clear hw1 w1)
      refine (ErrC.bareF 4 _).mono ?_
      rintro e wb ⟨rfl, hbb⟩
      have hbX : wb.heap[w.heap.size]? = some (.cells #[.int .i64 0, .int .i64 0] 48 (0, 0)) := (hbb.block _ (by simp)).trans (heap_alloc_new w _)
      have hbw : Below w.heap.size w wb := (below_alloc (Below.refl _ _) _ (Nat.le_refl _)).trans (hbb.mono (by simp))
      obtain ⟨q0, q1, q2⟩ := two_cells hbX
      have q20 := q2 0
      have q21 := q2 1
      clear q2 hbb
      go_wp2
      (try simp only [Exit.inBlock, Exit.then])
      have hfin := two_set (e := .int .i64 4) (p := .int .i64 (-1)) hbX
      exact bodyPost_ret (fault_result rfl (two_cells hfin).1 (two_cells hfin).2.1) rfl ⟨4, -1, rfl, hv, (hbw.setCell (by simp) _).setCell (by simp) _⟩
    · by_cases h1 : 1000 < (m.consts.length : Int)
      · have z1 : decide (1000 < (m.consts.length : Int)) = true := decide_eq_true h1
        go_enter Tryd.func21, Tryd.ntmps21
        go_wp2_with (go_at_call 42; refine (within_any _ _ _ _).mono ?_; rintro e w1 ⟨rfl, hw1⟩; rw [hw1]; clear hw1 w1)
        refine (ErrC.bareF 4 _).mono ?_
        rintro e wb ⟨rfl, hbb⟩
        have hbX : wb.heap[w.heap.size]? = some (.cells #[.int .i64 0, .int .i64 0] 48 (0, 0)) := (hbb.block _ (by simp)).trans (heap_alloc_new w _)
        have hbw : Below w.heap.size w wb := (below_alloc (Below.refl _ _) _ (Nat.le_refl _)).trans (hbb.mono (by simp))
        obtain ⟨q0, q1, q2⟩ := two_cells hbX
        have q20 := q2 0
        have q21 := q2 1
        clear q2 hbb
        go_wp2
        (try simp only [Exit.inBlock, Exit.then])
        have hfin := two_set (e := .int .i64 4) (p := .int .i64 (-1)) hbX
        exact bodyPost_ret (fault_result rfl (two_cells hfin).1 (two_cells hfin).2.1) rfl ⟨4, -1, rfl, hv, (hbw.setCell (by simp) _).setCell (by simp) _⟩
      · have z1 : decide (1000 < (m.consts.length : Int)) = false := decide_eq_false h1
        have h2 : 250 < (m.classes.length : Int) := by
          simp [CodeR.within] at hw
          omega
        have z2 : decide (250 < (m.classes.length : Int)) = true := decide_eq_true h2
        go_enter Tryd.func21, Tryd.ntmps21
        go_wp2_with (go_at_call 42; refine (within_any _ _ _ _).mono ?_; rintro e w1 ⟨rfl, hw1⟩; rw [hw1]; clear hw1 w1)
        refine (ErrC.bareF 4 _).mono ?_
        rintro e wb ⟨rfl, hbb⟩
        have hbX : wb.heap[w.heap.size]? = some (.cells #[.int .i64 0, .int .i64 0] 48 (0, 0)) := (hbb.block _ (by simp)).trans (heap_alloc_new w _)
        have hbw : Below w.heap.size w wb := (below_alloc (Below.refl _ _) _ (Nat.le_refl _)).trans (hbb.mono (by simp))
        obtain ⟨q0, q1, q2⟩ := two_cells hbX
        have q20 := q2 0
        have q21 := q2 1
        clear q2 hbb
        go_wp2
        (try simp only [Exit.inBlock, Exit.then])
        have hfin := two_set (e := .int .i64 4) (p := .int .i64 (-1)) hbX
        exact bodyPost_ret (fault_result rfl (two_cells hfin).1 (two_cells hfin).2.1) rfl ⟨4, -1, rfl, hv, (hbw.setCell (by simp) _).setCell (by simp) _⟩
end Go.Proofs.YthbkklnahhdgcaaDoor.CodeJ
