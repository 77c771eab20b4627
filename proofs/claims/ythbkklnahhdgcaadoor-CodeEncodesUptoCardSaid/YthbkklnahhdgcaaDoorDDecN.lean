/-
  The walk of rewindlaw.CodeEncodes: at every image that lies in memory, if its bytes are not too many for a machine, it answers true, and nothing that was there has turned.
-/
import Derived.Test.YthbkklnahhdgcaaDoorDMG
import Derived.Test.YthbkklnahhdgcaaDoorDCodeY
namespace Go.Proofs.YthbkklnahhdgcaaDoor.DecN
open Go Go.Proofs Go.RowKit Lib CodeR CodeA CodeB CodeD CodeP CodeQ CodeS CodeK CodeL CodeM CodeI CodeJ CodeY EncA EncB DecA DecB DecC DecD DecG DecR DecI DecJ DecP DecK DecM CodeO ErrC ErrD

theorem str_nil {s : ByteArray} : (s.toList == []) = decide (s = ByteArray.empty) := by
  rw [ByteArray.toList_eq]
  cases s with
  | mk d =>
    cases d with
    | mk l =>
      cases l with
      | nil => rfl
      | cons a t =>
        symm
        show decide _ = false
        rw [decide_eq_false_iff_not]
        intro h
        cases h
theorem measure_next {k n : Nat} (h : k < n) : n - (intOf (Value.int .i64 ((k : Int) + 1))).toNat < n - (intOf (Value.int .i64 (k : Int))).toNat := by
  simp [intOf]
  omega
theorem wrap_next {k : Nat} (h : k < 1100) : wrap64 ((k : Int) + 1) = (k : Int) + 1 := by
  unfold wrap64
  omega
theorem all2_trans {α : Type} {R : α → α → Prop} (h : ∀ x y z, R x y → R y z → R x z) : ∀ {a b c : List α}, All2 R a b → All2 R b c → All2 R a c
  | _, _, _, .nil, .nil => .nil
  | _, _, _, .cons h1 t1, .cons h2 t2 => .cons (h _ _ _ h1 h2) (all2_trans h t1 t2)
theorem fewIm_same {m k : Im} (h : ImSame m k) (hF : FewIm m) : FewIm k := by
  obtain ⟨h1, h2, h3, h4, h5⟩ := hF
  refine ⟨by rw [← h.funcs.length]; exact h1, by rw [← h.consts]; exact h2, by rw [← h.classes.length]; exact h3, fun f hf => ?_, fun c hc => ?_⟩
  · obtain ⟨g, hg, hs⟩ := mem_same h.funcs hf
    have := h4 g hg
    unfold fSize at this ⊢
    rw [← hs.code, ← hs.hs, ← hs.vars]
    exact this
  · obtain ⟨g, hg, hs⟩ := mem_same h.classes hc
    have := h5 g hg
    unfold cSize at this ⊢
    rw [← hs.fields, ← hs.names, ← hs.methods]
    exact this

set_option maxRecDepth 100000 in
set_option maxHeartbeats 1000000 in
theorem law (m : Im) (w : World) (hi : ImIn w m) (hok : ImOk m) (hg : EtIs w) (hf0 : w.cell? ⟨0, 0, none⟩ = some (.int .i64 0)) (hf1 : w.cell? ⟨0, 1, none⟩ = some (.int .i64 (-1))) (hN : FewIm m → (∀ c ∈ m.classes, c.names.length = c.methods.length) → (body m).length ≤ 35184372088832) :
    Calls Tryd.prog 6 #[.agg #[.slice m.funcsS.oa m.funcsS.n m.funcsS.c, .slice m.constsS.oa m.constsS.n m.constsS.c, .slice m.classesS.oa m.classesS.n m.classesS.c]] w fun r w' => r = .returned (.bool true) ∧ Below w.heap.size w w' := by
  have hl : 1 < w.heap.size := World.block_lt_of_cell? w _ hg
  have hl0 : 0 < w.heap.size := World.block_lt_of_cell? w _ hf0
  have l2 := hi.classes.len
  have l1 := hi.consts.len
  have a2 := hi.classes.addr
  have a1 := hi.consts.addr
  rw [List.length_map] at l1 l2
  rw [l2] at a2
  rw [l1] at a1
  have hrow2 : Aside _ := fun (k : Nat) (x : Cl) (hx : m.classes[k]? = some x) => hi.classes.row k x.vals (by rw [List.getElem?_map, hx]; rfl)
  have hrow1 : Aside _ := fun (k : Nat) (x : Cn) (hx : m.consts[k]? = some x) => hi.consts.row k x.vals (by rw [List.getElem?_map, hx]; rfl)
  have hbx := im_box w m
  unfold Sl.val at hbx
  have hB0 : Below w.heap.size w (w.alloc (.cells #[.slice m.funcsS.oa m.funcsS.n m.funcsS.c, .slice m.constsS.oa m.constsS.n m.constsS.c, .slice m.classesS.oa m.classesS.n m.classesS.c] 42)) := (Below.refl _ _).alloc (Nat.le_refl _) _
  have hsz : (w.alloc (.cells #[.slice m.funcsS.oa m.funcsS.n m.funcsS.c, .slice m.constsS.oa m.constsS.n m.constsS.c, .slice m.classesS.oa m.classesS.n m.classesS.c] 42)).heap.size = w.heap.size + 1 := by simp
  have hi0 := hi.below hB0 (Nat.le_refl _)
  have cfew := few_any m (w.alloc (.cells #[.slice m.funcsS.oa m.funcsS.n m.funcsS.c, .slice m.constsS.oa m.constsS.n m.constsS.c, .slice m.classesS.oa m.classesS.n m.classesS.c] 42)) hi0 (fun f hf => (hok.fn f hf).lens) (fun c hc => (hok.cl c hc).lens)
  have A1 : Aside _ := a1
  have A2 : Aside _ := a2
  have hfld : ∀ (x y : Int) (w : World), (Instr.field 48 (.agg #[.int .i64 x, .int .i64 y]) 0).run Tryd.prog w = .ok (.int .i64 x) w := fun x y w => by kernel_rfl
  have L1 : Aside _ := l1
  have L2 : Aside _ := l2
  have hNA : Aside _ := hN
  clear a1 a2 l1 l2 hN
  go_enter Tryd.func6, Tryd.ntmps6
  go_wp2_with fail
  generalize w.alloc (.cells #[.slice m.funcsS.oa m.funcsS.n m.funcsS.c, .slice m.constsS.oa m.constsS.n m.constsS.c, .slice m.classesS.oa m.classesS.n m.classesS.c] 42) = w0 at *
  refine cfew.mono ?_
  rintro r w1 ⟨b, rfl, hfew, hb1⟩
  have hB1 := hB0.trans (hb1.mono (by omega))
  cases b
  · go_wp2_with fail
    go_ret
    exact ⟨rfl, hB1⟩
  have hF : FewIm m := hfew rfl
  have q2 : Aside (m.consts.length ≤ 1100) := hF.2.1
  have q3 : Aside (m.classes.length ≤ 260) := hF.2.2.1
  have hi1 := hi0.below hb1 (Nat.le_refl _)
  have hbx1 := hbx.below hb1 (Nat.le_refl _)
  clear hfew hi0 hbx cfew hb1
  go_wp2_with fail
  refine (image_any w.heap.size 0 m w1 hbx1 hi1 hF).mono ?_
  rintro r w2 ⟨b', m', rfl, hrow, hi2, hsame, hb2⟩
  have hB2 := hB1.trans (hb2.mono hB1.size)
  have him2 := hi1.below hb2 (Nat.le_refl _)
  have hbx2 := hbx1.below hb2 (Nat.le_refl _)
  clear hi1 hbx1 hb2
  go_wp2_with fail
  refine (ImageCheck_any b' 0 m' w2 hrow hi2 (bOk_same hsame hok) (by rw [hB2.cell (p := ⟨0, 0, none⟩) hl0]; exact hf0) (by rw [hB2.cell (p := ⟨0, 1, none⟩) hl0]; exact hf1)).mono ?_
  rintro r w3 ⟨e, p, rfl, hv, hb3⟩
  have hB3 := hB2.trans (hb3.mono hB2.size)
  have him3 := him2.below hb3 (Nat.le_refl _)
  have hbx3 := hbx2.below hb3 (Nat.le_refl _)
  have hvm := imVerdict_same hsame.symm hv
  clear him2 hbx2 hb3 hrow hi2 hsame hv
  have hBA : Below w.heap.size w (w3.alloc (.cells #[.int .i64 e, .int .i64 p] 48)) := hB3.trans ((below_alloc (Below.refl _ w3) (.cells #[.int .i64 e, .int .i64 p] 48) (Nat.le_refl _)).mono hB3.size)
  have hfb := heap_alloc_new w3 (.cells #[.int .i64 e, .int .i64 p] 48)
  have himA := him3.below (below_alloc (Below.refl _ w3) (.cells #[.int .i64 e, .int .i64 p] 48) (Nat.le_refl _)) (Nat.le_refl _)
  have hbxA := hbx3.below (below_alloc (Below.refl _ w3) (.cells #[.int .i64 e, .int .i64 p] 48) (Nat.le_refl _)) (Nat.le_refl _)
  have hszA : (w3.alloc (.cells #[.int .i64 e, .int .i64 p] 48)).heap.size = w3.heap.size + 1 := by simp
  go_wp2_with fail
  generalize w3.alloc (.cells #[.int .i64 e, .int .i64 p] 48) = wA at *
  have hfbl : w3.heap.size < wA.heap.size := by omega
  generalize w3.heap.size = fb at *
  clear him3 hbx3 hB3 hB2 hB1 hB0 hsz hszA
  go_loopw [4] (fun s4 wr => ∃ k : Nat, k ≤ m.classes.length ∧ s4 = .int .i64 (k : Int) ∧ Below wA.heap.size wA wr ∧ Aside (∀ (j : Nat) (c : Cl), j < k → m.classes[j]? = some c → c.names.length = c.methods.length)) (fun s4 _ => m.classes.length - (intOf s4).toNat)
  case atStart => exact ⟨0, Nat.zero_le _, rfl, Below.refl _ _, fun j c h => absurd h (Nat.not_lt_zero _)⟩
  case round =>
    obtain ⟨k, hk, rfl, hb, hcl⟩ := hrel
    have hBr := hBA.trans (hb.mono hBA.size)
    have hbxr := hbxA.below hb (Nat.le_refl _)
    have k2 : wr.cell? ⟨w.heap.size, 2, none⟩ = some (.slice m.classesS.oa m.classesS.n m.classesS.c) := hbxr 2 _ rfl
    have k1 : wr.cell? ⟨w.heap.size, 1, none⟩ = some (.slice m.constsS.oa m.constsS.n m.constsS.c) := hbxr 1 _ rfl
    rw [L2.out] at k2
    by_cases hkn : k < m.classes.length
    · obtain ⟨c, hx⟩ : ∃ c, m.classes[k]? = some c := ⟨_, List.getElem?_eq_getElem hkn⟩
      have hcm := List.mem_of_getElem? hx
      have hkd : decide ((k : Int) < (m.classes.length : Int)) = true := by simp; omega
      have hoa := A2.out (by omega)
      have hci := hi.cl c hcm
      have n3 := hci.names.len
      have n4 := hci.methods.len
      rw [List.length_map] at n3 n4
      have hxr : Row wr m.classesS.b (m.classesS.o + k * 5) c.vals := (hrow2.out k c hx).below hBr (Nat.le_refl _)
      have e3 : wr.cell? ⟨m.classesS.b, m.classesS.o + k * 5 + 3, none⟩ = some (.slice c.namesS.oa c.namesS.n c.namesS.c) := hxr 3 _ rfl
      have e4 : wr.cell? ⟨m.classesS.b, m.classesS.o + k * 5 + 4, none⟩ = some (.slice c.methodsS.oa c.methodsS.n c.methodsS.c) := hxr 4 _ rfl
      rw [n3] at e3
      rw [n4] at e4
      rw [hoa] at k2
      have i1 : (0 : Int) ≤ (k : Int) := by omega
      have i2 : (k : Int) < (m.classes.length : Int) := by omega
      have hw1 : wrap64 ((k : Int) + 1) = (k : Int) + 1 := wrap_next (Nat.lt_of_lt_of_le hkn (Nat.le_trans q3.out (by decide)))
      clear hxr hrow1 hrow2 hci n3 n4 hbxr hoa k1
      by_cases hnm : c.names.length = c.methods.length
      · have hnd : ((c.names.length : Int) != (c.methods.length : Int)) = false := by rw [hnm]; simp
        have hcl2 : Aside (∀ (j : Nat) (c : Cl), j < k + 1 → m.classes[j]? = some c → c.names.length = c.methods.length) := fun j d hj hd => by
          by_cases hjk : j < k
          · exact hcl.out j d hjk hd
          · obtain rfl : j = k := Nat.le_antisymm (Nat.le_of_lt_succ hj) (Nat.le_of_not_lt hjk)
            rw [hx] at hd
            cases hd
            exact hnm
        clear hnm
        go_wp2
        go_quiet (fail)
        go_wp2
        go_roundw
        case rel => exact ⟨k + 1, Nat.succ_le_of_lt hkn, by rw [hw1]; rfl, below_drewN hb _, hcl2⟩
        case measure => rw [hw1]; exact measure_next hkn
      · have hnd : ((c.names.length : Int) != (c.methods.length : Int)) = true := by simp only [bne_iff_ne, ne_eq, Int.natCast_inj]; exact hnm
        clear hnm
        go_wp2
        go_quiet (fail)
        go_wp2
        go_ret
        exact ⟨rfl, below_drewN hBr _⟩
    obtain rfl : k = m.classes.length := by omega
    have hkd : decide ((m.classes.length : Int) < (m.classes.length : Int)) = false := by simp
    have hnms : ∀ c ∈ m.classes, c.names.length = c.methods.length := fun c hc => by
      obtain ⟨j, hj⟩ := List.mem_iff_getElem?.mp hc
      exact hcl.out j c (List.getElem?_eq_some_iff.mp hj).1 hj
    have himr := himA.below hb (Nat.le_refl _)
    have hfbr := (hb.block fb hfbl).trans hfb
    have hbl : Aside _ := hNA.out hF hnms
    clear hcl hrow2
    go_wp2_with fail
    refine (image_any w.heap.size 0 m wr hbxr himr hF).mono ?_
    rintro r w5 ⟨b5, m5, rfl, hrow5, hi5, hs5, hb5⟩
    have hB5 := hBr.trans (hb5.mono hBr.size)
    have hbx5 := hbxr.below hb5 (Nat.le_refl _)
    have him5 := himr.below hb5 (Nat.le_refl _)
    have hfb5 := (hb5.block fb (lt_of_block hfbr)).trans hfbr
    go_wp2_with fail
    refine (EncE.Encode_any b5 0 m5 w5 hrow5 hi5 (imOk_same hs5 hok) (names_same hs5 hnms) (by rw [← body_same hs5]; exact hbl.out)).mono ?_
    rintro r w6 ⟨v6, rfl, hu6, hb6⟩
    rw [← enc_same hs5] at hu6
    have hB6 := hB5.trans (hb6.mono hB5.size)
    have hbx6 := hbx5.below hb6 (Nat.le_refl _)
    have him6 := him5.below hb6 (Nat.le_refl _)
    have hfb6 := (hb6.block fb (lt_of_block hfb5)).trans hfb5
    obtain ⟨o6, c6, rfl, _, hr6⟩ := bu_rows2 hu6
    clear hu6 hrow5 hi5 hs5 hb5 hb6 hbx5 him5 hfb5 hfbr hbxr himr hb
    go_wp2_with fail
    refine (EncC.Encode_any w.heap.size 0 m w6 hbx6 him6 hok hnms (fun _ _ => trivial) hbl.out).mono ?_
    rintro r w7 ⟨v7, rfl, hu7, hb7⟩
    have hB7 := hB6.trans (hb7.mono hB6.size)
    have hbx7 := hbx6.below hb7 (Nat.le_refl _)
    have him7 := him6.below hb7 (Nat.le_refl _)
    have hfb7 := (hb7.block fb (lt_of_block hfb6)).trans hfb6
    obtain ⟨o7, c7, rfl, hc7, hr7⟩ := bu_rows2 hu7
    have hr67 := rows_below hr6 hb7 (Nat.le_refl _)
    obtain ⟨L, hL⟩ : ∃ L, enc m = L := ⟨_, rfl⟩
    rw [hL] at hr6 hr7 hr67 hc7 ⊢
    have hLA : Aside (enc m = L) := hL
    have cv6 := convAll w7 o6 L c6 hr67
    have cv7 := convAll w7 o7 L c7 hr7
    obtain ⟨sL, hsL⟩ : ∃ s, sub L 0 L.length = s := ⟨_, rfl⟩
    rw [hsL] at cv6 cv7
    have hsA : Aside (sub L 0 L.length = sL) := hsL
    clear hL hsL hu7 hr6 hb7 hbx6 him6 hfb6
    go_wp2_with fail
    refine (Encode_nil w7).mono ?_
    rintro r w8 ⟨rfl, hw8⟩
    subst hw8
    have hfb8l := lt_of_block hfb7
    go_wp2_with fail
    go_loopw [7, 8] (fun s7 s8 wq => ∃ k : Nat, k ≤ m.consts.length ∧ s7 = .int .i64 (k : Int) ∧ Below w8.heap.size w8 wq ∧ Aside (∀ (j : Nat) (c : Cn), j < k → m.consts[j]? = some c → CnN c)) (fun s7 _ _ => m.consts.length - (intOf s7).toNat)
    case atStart => exact ⟨0, Nat.zero_le _, rfl, Below.refl _ _, fun j c h => absurd h (Nat.not_lt_zero _)⟩
    case round =>
      obtain ⟨k, hk, rfl, hb, hcl⟩ := hrel
      have hBq := hB7.trans (hb.mono hB7.size)
      have hbxq := hbx7.below hb (Nat.le_refl _)
      have k1 : wr.cell? ⟨w.heap.size, 1, none⟩ = some (.slice m.constsS.oa m.constsS.n m.constsS.c) := hbxq 1 _ rfl
      rw [L1.out] at k1
      by_cases hkn : k < m.consts.length
      · obtain ⟨c, hx⟩ : ∃ c, m.consts[k]? = some c := ⟨_, List.getElem?_eq_getElem hkn⟩
        have hkd : decide ((k : Int) < (m.consts.length : Int)) = true := by simp; omega
        have hoa := A1.out (by omega)
        have hxr : Row wr m.constsS.b (m.constsS.o + k * 3) c.vals := (hrow1.out k c hx).below hBq (Nat.le_refl _)
        have e0 : wr.cell? ⟨m.constsS.b, m.constsS.o + k * 3, none⟩ = some (.bool c.text) := hxr 0 _ rfl
        have e1 : wr.cell? ⟨m.constsS.b, m.constsS.o + k * 3 + 1, none⟩ = some (.string c.s) := hxr 1 _ rfl
        have e2 : wr.cell? ⟨m.constsS.b, m.constsS.o + k * 3 + 2, none⟩ = some (.int .i64 c.n) := hxr 2 _ rfl
        rw [hoa] at k1
        have i1 : (0 : Int) ≤ (k : Int) := by omega
        have i2 : (k : Int) < (m.consts.length : Int) := by omega
        have hw1 : wrap64 ((k : Int) + 1) = (k : Int) + 1 := wrap_next (Nat.lt_of_lt_of_le hkn q2.out)
        have hcl2 : CnN c → Aside (∀ (j : Nat) (c : Cn), j < k + 1 → m.consts[j]? = some c → CnN c) := fun hc j d hj hd => by
          by_cases hjk : j < k
          · exact hcl.out j d hjk hd
          · obtain rfl : j = k := Nat.le_antisymm (Nat.le_of_lt_succ hj) (Nat.le_of_not_lt hjk)
            rw [hx] at hd
            cases hd
            exact hc
        have hBn := fun ob => below_alloc hb ob (Nat.le_refl w8.heap.size)
        have hBm := fun ob => hB7.trans ((below_alloc hb ob (Nat.le_refl w8.heap.size)).mono hB7.size)
        obtain ⟨ct, cs, cn⟩ := c
        dsimp only at e0 e1 e2
        clear hxr hrow1 hbxq hoa hx hcl
        cases ct with
        | true =>
          by_cases hz : cn = 0
          · subst hz
            have hcl3 := hcl2 (show CnN ⟨true, cs, 0⟩ from rfl)
            clear hcl2
            go_wp2
            go_roundw
            case rel => exact ⟨k + 1, Nat.succ_le_of_lt hkn, by rw [hw1]; rfl, hBn _, hcl3⟩
            case measure => rw [hw1]; exact measure_next hkn
          · have hzd : (cn != 0) = true := by simpa using hz
            clear hcl2
            go_wp2
            go_ret
            exact ⟨rfl, hBm _⟩
        | false =>
          have hse := str_nil (s := cs)
          by_cases hz : cs = ByteArray.empty
          · have hcl3 := hcl2 (show CnN ⟨false, cs, cn⟩ from hz)
            rw [decide_eq_true hz] at hse
            clear hcl2 hz
            go_wp2
            go_roundw
            case rel => exact ⟨k + 1, Nat.succ_le_of_lt hkn, by rw [hw1]; rfl, hBn _, hcl3⟩
            case measure => rw [hw1]; exact measure_next hkn
          · rw [decide_eq_false hz] at hse
            clear hcl2 hz
            go_wp2
            go_ret
            exact ⟨rfl, hBm _⟩
      obtain rfl : k = m.consts.length := by omega
      have hkd : decide ((m.consts.length : Int) < (m.consts.length : Int)) = false := by simp
      have hcns : ∀ c ∈ m.consts, CnN c := fun c hc => by
        obtain ⟨j, hj⟩ := List.mem_iff_getElem?.mp hc
        exact hcl.out j c (List.getElem?_eq_some_iff.mp hj).1 hj
      have hgood := good_enc (imR_of hok hnms hcns)
      rw [hLA.out] at hgood
      have hfbq : wr.heap[fb]? = _ := (hb.block fb hfb8l).trans hfb7
      have hr7q := rows_below hr7 hb (Nat.le_refl _)
      have hr6q := rows_below hr67 hb (Nat.le_refl _)
      have kf0 : wr.cell? ⟨fb, 0, none⟩ = some (.int .i64 e) := Lib.cell_of_block hfbq rfl
      have kg0 : wr.cell? ⟨fb, 1, none⟩ = some (.int .i64 p) := Lib.cell_of_block hfbq rfl
      clear hrow1 hcl hbxq hcns cv6 cv7 hr7 hr67 hfb7 hb hbx7 him7 hfbq
      have hdec := Decode_any o7 c7 L wr hc7 hr7q
      go_wp2_with fail
      refine hdec.mono ?_
      rintro r w9 ⟨hb9, h⟩
      have hB9 := hBq.trans (hb9.mono hBq.size)
      have hg9 := hg.below hB9 hl
      have kf9 : w9.cell? ⟨fb, 0, none⟩ = some (.int .i64 e) := (hb9.cell (p := ⟨fb, 0, none⟩) (World.block_lt_of_cell? wr _ kf0)).trans kf0
      have kg9 : w9.cell? ⟨fb, 1, none⟩ = some (.int .i64 p) := (hb9.cell (p := ⟨fb, 1, none⟩) (World.block_lt_of_cell? wr _ kg0)).trans kg0
      have hr6r := rows_below hr6q hb9 (Nat.le_refl _)
      rcases h with ⟨h, rfl⟩ | ⟨_, h, _⟩ | ⟨hle, _, m9, ib, e9, p9, v, hs9, hrm9, him9, hv9, he9, h⟩
      · have hLd : decide ((100000 : Int) < (L.length : Int)) = true := by simp; omega
        clear hdec
        go_wp2_with fail
        refine (bare_errno 4 4 w9 hg9).mono ?_
        rintro r w10 ⟨rfl, hb10⟩
        have hB10 := hB9.trans (hb10.mono hB9.size)
        go_wp2_with fail
        go_ret
        exact ⟨rfl, hB10⟩
      · exact absurd hgood.1 h
      have hLd : decide ((100000 : Int) < (L.length : Int)) = false := by simp; omega
      have hsm : ImSame m m9 := by
        rw [hgood.2] at hs9
        have h1 := same_imN m
        refine ⟨?_, h1.consts.trans hs9.consts, ?_⟩
        · exact all2_trans (fun x y z h k => ⟨h.name.trans k.name, h.params.trans k.params, h.slots.trans k.slots, h.code.trans k.code, h.hs.trans k.hs, h.vars.trans k.vars⟩) h1.funcs hs9.funcs
        · exact all2_trans (fun x y z h k => ⟨h.name.trans k.name, h.above.trans k.above, h.fields.trans k.fields, h.names.trans k.names, h.methods.trans k.methods⟩) h1.classes hs9.classes
      obtain ⟨rfl, rfl⟩ := (imVerdict_same hsm hvm).unique hv9
      clear hdec hgood hs9 hr7q hr6q kf0 kg0 k1
      rcases h with ⟨h0, rfl⟩ | ⟨rfl, rfl⟩
      · have hed : (e != 0) = true := by simpa using h0
        go_wp2_with fail
        refine (at_is he9 hg9).mono ?_
        rintro r w10 ⟨rfl, hb10⟩
        have hB10 := hB9.trans (hb10.mono hB9.size)
        go_wp2_with fail
        go_ret
        exact ⟨rfl, hB10⟩
      go_wp2_with fail
      have hr6d : ∀ (k : Nat) (x : UInt8), L[k]? = some x → ∃ b o, o6 = some ⟨b, o, none⟩ ∧ w9.drew.cell? ⟨b, o + k, none⟩ = some (bv x) := hr6r
      have hcvd := convAll w9.drew o6 L c6 hr6d
      rw [hsA.out] at hcvd
      have hBd := hB9.drew
      have hrmd : Row w9.drew ib 0 m9.vals := fun k v hv => hrm9 k v hv
      have himd := him9.below ((Below.refl _ w9).drew) (Nat.le_refl _)
      refine RegU.begin (S := fun wz => (convert 64 9 (.slice o6 L.length c6)).run Tryd.prog wz = .ok (.string sL) wz) (N := [8, 9, 10, 11, 12]) (by kernel_rfl) hcvd (fun hHeld => ?_)
      clear hr6r hB9 hrm9 him9 he9 kf9 kg9 hg9 hb9
      generalize w9.drew = wd at *
      refine RegU.take [1, 2, 3, 4, 5, 6, 7, 8, 9, 10, 11, 12, 13, 14, 15] (i := 0) (v := ?_) rfl (by kernel_rfl) (by kernel_rfl) (by kernel_rfl) (by kernel_rfl) (by kernel_rfl) (fun _ _ _ h => h) (Or.inl ⟨by rfl, ?_⟩) (by assumption) ?_
      rotate_left
      · intro w hSw; (try dsimp only at hSw); go_simp; first | done | with_reducible rfl
      try simp only [Act.put, List.setIfInBounds_toArray, List.set_cons_zero, List.set_cons_succ]
      refine RegU.take [2, 3, 4, 5, 6, 7, 8, 9, 10, 11, 12, 13, 14, 15] (i := 1) (v := ?_) rfl (by kernel_rfl) (by kernel_rfl) (by kernel_rfl) (by kernel_rfl) (by kernel_rfl) (fun _ _ _ h => h) (Or.inl ⟨by rfl, ?_⟩) (by assumption) ?_
      rotate_left
      · intro w hSw; (try dsimp only at hSw); go_simp; first | done | with_reducible rfl
      try simp only [Act.put, List.setIfInBounds_toArray, List.set_cons_zero, List.set_cons_succ]
      refine RegU.take [3, 4, 5, 6, 7, 8, 9, 10, 11, 12, 13, 14, 15] (i := 2) (v := ?_) rfl (by kernel_rfl) (by kernel_rfl) (by kernel_rfl) (by kernel_rfl) (by kernel_rfl) (fun _ _ _ h => h) (Or.inl ⟨by rfl, ?_⟩) (by assumption) ?_
      rotate_left
      · intro w hSw; (try dsimp only at hSw); go_simp; first | done | with_reducible rfl
      try simp only [Act.put, List.setIfInBounds_toArray, List.set_cons_zero, List.set_cons_succ]
      refine RegU.take [4, 5, 6, 7, 8, 9, 10, 11, 12, 13, 14, 15] (i := 3) (v := ?_) rfl (by kernel_rfl) (by kernel_rfl) (by kernel_rfl) (by kernel_rfl) (by kernel_rfl) (fun _ _ _ h => h) (Or.inl ⟨by rfl, ?_⟩) (by assumption) ?_
      rotate_left
      · intro w hSw; (try dsimp only at hSw); go_simp; first | done | with_reducible rfl
      try simp only [Act.put, List.setIfInBounds_toArray, List.set_cons_zero, List.set_cons_succ]
      refine RegU.take [5, 6, 7, 8, 9, 10, 11, 12, 13, 14, 15] (i := 4) (v := ?_) rfl (by kernel_rfl) (by kernel_rfl) (by kernel_rfl) (by kernel_rfl) (by kernel_rfl) (fun _ _ _ h => h) (Or.inl ⟨by rfl, ?_⟩) (by assumption) ?_
      rotate_left
      · intro w hSw; (try dsimp only at hSw); go_simp; first | done | with_reducible rfl
      try simp only [Act.put, List.setIfInBounds_toArray, List.set_cons_zero, List.set_cons_succ]
      refine RegU.take [6, 7, 8, 9, 10, 11, 12, 13, 14, 15] (i := 5) (v := ?_) rfl (by kernel_rfl) (by kernel_rfl) (by kernel_rfl) (by kernel_rfl) (by kernel_rfl) (fun _ _ _ h => h) (Or.inl ⟨by rfl, ?_⟩) (by assumption) ?_
      rotate_left
      · intro w hSw; (try dsimp only at hSw); go_simp; first | done | with_reducible rfl
      try simp only [Act.put, List.setIfInBounds_toArray, List.set_cons_zero, List.set_cons_succ]
      refine RegU.take [7, 8, 9, 10, 11, 12, 13, 14, 15] (i := 6) (v := ?_) rfl (by kernel_rfl) (by kernel_rfl) (by kernel_rfl) (by kernel_rfl) (by kernel_rfl) (fun _ _ _ h => h) (Or.inl ⟨by rfl, ?_⟩) (by assumption) ?_
      rotate_left
      · intro w hSw; (try dsimp only at hSw); go_simp; first | done | with_reducible rfl
      try simp only [Act.put, List.setIfInBounds_toArray, List.set_cons_zero, List.set_cons_succ]
      refine RegU.take [8, 9, 10, 13, 14, 15] (i := 7) (v := ?_) rfl (by kernel_rfl) (by kernel_rfl) (by kernel_rfl) (by kernel_rfl) (by kernel_rfl) (fun _ _ _ h => h) (Or.inl ⟨by rfl, ?_⟩) (by assumption) ?_
      rotate_left
      · intro w hSw; (try dsimp only at hSw); go_simp; first | done | with_reducible rfl
      try simp only [Act.put, List.setIfInBounds_toArray, List.set_cons_zero, List.set_cons_succ]
      refine RegU.take [12, 13, 14, 15] (i := 11) (v := ?_) rfl (by kernel_rfl) (by kernel_rfl) (by kernel_rfl) (by kernel_rfl) (by kernel_rfl) (fun _ _ _ h => h) (Or.inl ⟨by rfl, ?_⟩) (by assumption) ?_
      rotate_left
      · intro w hSw; (try dsimp only at hSw); go_simp; first | done | with_reducible rfl
      try simp only [Act.put, List.setIfInBounds_toArray, List.set_cons_zero, List.set_cons_succ]
      refine RegU.take [13, 14, 15] (i := 12) (v := ?_) rfl (by kernel_rfl) (by kernel_rfl) (by kernel_rfl) (by kernel_rfl) (by kernel_rfl) (fun _ _ _ h => h) (Or.inl ⟨by rfl, ?_⟩) (by assumption) ?_
      rotate_left
      · intro w hSw; (try dsimp only at hSw); go_simp; first | done | with_reducible rfl
      try simp only [Act.put, List.setIfInBounds_toArray, List.set_cons_zero, List.set_cons_succ]
      have hfew9 : FewIm m9 := fewIm_same hsm hF
      refine RegU.one (i := 8) (by kernel_rfl) rfl (fun K hK => ?_)
      go_simp
      refine (image_any ib 0 m9 wd hrmd himd hfew9).mono ?_
      rintro r w10 ⟨b10, m10, rfl, hrow10, hi10, hs10, hb10⟩
      have hr10 := rows_below hr6d hb10 (Nat.le_refl _)
      refine hK.out _ _ (by have h := convAll w10 o6 L c6 hr10; rw [hsA.out] at h; exact h) (fun hHeld => ?_)
      clear hK K
      try simp only [Act.put, List.setIfInBounds_toArray, List.set_cons_zero, List.set_cons_succ]
      have hB10 := hBd.trans (hb10.mono hBd.size)
      have hok10 := imOk_same hs10 (imOk_same hsm hok)
      have hnm10 := names_same hs10 (names_same hsm hnms)
      have hbl10 : (body m10).length ≤ 35184372088832 := by rw [← body_same hs10, ← body_same hsm]; exact hbl.out
      have he10 : Aside (enc m10 = L) := (enc_same hs10).symm.trans ((enc_same hsm).symm.trans hLA.out)
      refine RegU.one (i := 9) (by kernel_rfl) rfl (fun K hK => ?_)
      go_simp
      refine (EncE.Encode_any b10 0 m10 w10 hrow10 hi10 hok10 hnm10 hbl10).mono ?_
      rintro r w11 ⟨v11, rfl, hu11, hb11⟩
      have hr11 := rows_below hr10 hb11 (Nat.le_refl _)
      refine hK.out _ _ (by have h := convAll w11 o6 L c6 hr11; rw [hsA.out] at h; exact h) (fun hHeld => ?_)
      clear hK K
      try simp only [Act.put, List.setIfInBounds_toArray, List.set_cons_zero, List.set_cons_succ]
      have hB11 := hB10.trans (hb11.mono hB10.size)
      rw [he10.out] at hu11
      obtain ⟨o11, c11, rfl, _, hre⟩ := bu_rows2 hu11
      have hcv11 := convAll w11 o11 L c11 hre
      rw [hsA.out] at hcv11
      clear hu11 hre hr11 hr10 hr6d hrow10 hi10 hb10 hb11 hok10 hnm10 hbl10 hcvd
      refine RegU.one (i := 10) (by kernel_rfl) rfl (fun K hK => ?_)
      go_simp
      refine hK.out _ _ hHeld (fun hHeld => ?_)
      clear hK K
      try simp only [Act.put, List.setIfInBounds_toArray, List.set_cons_zero, List.set_cons_succ]
      have hself : (sL.toList == sL.toList) = true := by simp
      refine RegU.rest [13, 14, 15] [_, _, _] (by kernel_rfl) rfl ?_
      go_wp2_with fail
      go_ret
      exact ⟨rfl, hB11⟩
end Go.Proofs.YthbkklnahhdgcaaDoor.DecN
