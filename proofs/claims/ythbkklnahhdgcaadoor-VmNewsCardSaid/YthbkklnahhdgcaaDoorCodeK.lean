/-
  The contracts of the laws' few at an image, and of package code's Check at nil.
-/
import Derived.Test.YthbkklnahhdgcaaDoorCodeH
import Derived.Test.YthbkklnahhdgcaaDoorCodeD
import Derived.Deep.LoopGhost
namespace Go.Proofs.YthbkklnahhdgcaaDoor.CodeK
open Go Go.Proofs Go.RowKit Lib CodeR CodeA CodeB CodeP CodeQ CodeD CodeH

theorem Check_nil (w : World) : Calls Tryd.prog 20 #[.pointer none] w fun r w' => r = .returned (.iface 35 (.int .i64 7)) ∧ Below w.heap.size w w' := by
  go_enter Tryd.func20, Tryd.ntmps20
  go_wp2
  go_ret
  exact ⟨rfl, below_alloc (Below.refl _ _) _ (Nat.le_refl _)⟩

/-! ### how many parts -/
def fSize (f : Fc) : Nat := f.code.length + (f.hs.length + f.vars.length)
def cSize (c : Cl) : Nat := c.fields.length + (c.names.length + c.methods.length)
def sumTo {α : Type} (g : α → Nat) (l : List α) (i : Nat) : Nat := ((l.take i).map g).sum
theorem sumTo_zero {α : Type} (g : α → Nat) (l : List α) : sumTo g l 0 = 0 := by simp [sumTo]
theorem sumTo_succ {α : Type} (g : α → Nat) {l : List α} {i : Nat} {x : α} (h : l[i]? = some x) : sumTo g l (i + 1) = sumTo g l i + g x := by
  unfold sumTo
  rw [List.take_add_one, h]
  simp
theorem sumTo_le {α : Type} (g : α → Nat) (B : Nat) {l : List α} (h : ∀ x ∈ l, g x ≤ B) : ∀ i, sumTo g l i ≤ i * B
  | 0 => by simp [sumTo]
  | i + 1 => by
    by_cases hi : i < l.length
    · have h1 := sumTo_succ g (l := l) (i := i) (List.getElem?_eq_getElem hi)
      have h2 := h _ (List.getElem_mem hi)
      have h3 := sumTo_le g B h i
      rw [h1, Nat.succ_mul]
      omega
    · have h3 := sumTo_le g B h i
      have h1 : sumTo g l (i + 1) = sumTo g l i := by
        unfold sumTo
        rw [List.take_of_length_le (by omega), List.take_of_length_le (by omega)]
      rw [h1, Nat.succ_mul]
      omega
theorem le_sumTo {α : Type} (g : α → Nat) : ∀ {l : List α} {x : α}, x ∈ l → g x ≤ sumTo g l l.length
  | y :: l, x, h => by
    have e : sumTo g (y :: l) (y :: l).length = g y + sumTo g l l.length := by simp [sumTo]
    rw [e]
    rcases List.mem_cons.mp h with rfl | h
    · omega
    · have := le_sumTo g h; omega
/-- An image that is small enough. -/
def FewIm (m : Im) : Prop := m.funcs.length ≤ 260 ∧ m.consts.length ≤ 1100 ∧ m.classes.length ≤ 260 ∧ (∀ f ∈ m.funcs, fSize f ≤ 6000) ∧ ∀ c ∈ m.classes, cSize c ≤ 6000

set_option maxRecDepth 100000 in
set_option maxHeartbeats 8000000 in
theorem few_any (m : Im) (w : World) (hi : ImIn w m) (hfr : ∀ f ∈ m.funcs, f.code.length ≤ 140737488355328 ∧ f.hs.length ≤ 140737488355328 ∧ f.vars.length ≤ 140737488355328) (hcr : ∀ c ∈ m.classes, c.fields.length ≤ 140737488355328 ∧ c.names.length ≤ 140737488355328 ∧ c.methods.length ≤ 140737488355328) :
    Calls Tryd.prog 18 #[.agg #[.slice m.funcsS.oa m.funcsS.n m.funcsS.c, .slice m.constsS.oa m.constsS.n m.constsS.c, .slice m.classesS.oa m.classesS.n m.classesS.c]] w fun r w' => ∃ b, r = .returned (.bool b) ∧ (b = true → FewIm m) ∧ Below w.heap.size w w' := by
  have l0 := hi.funcs.len
  have l1 := hi.consts.len
  have l2 := hi.classes.len
  have a0 := hi.funcs.addr
  have a2 := hi.classes.addr
  have s0 := hi.funcs.small
  have s1 := hi.consts.small
  have s2 := hi.classes.small
  rw [List.length_map] at l0 l1 l2
  rw [l0] at a0 s0
  rw [l1] at s1
  rw [l2] at a2 s2
  have hrow0 := fun (k : Nat) (x : Fc) (hx : m.funcs[k]? = some x) => hi.funcs.row k x.vals (by rw [List.getElem?_map, hx]; rfl)
  have hrow2 := fun (k : Nat) (x : Cl) (hx : m.classes[k]? = some x) => hi.classes.row k x.vals (by rw [List.getElem?_map, hx]; rfl)
  rw [l0, l1, l2]
  generalize m.funcsS.oa = oa0 at *
  generalize m.constsS.oa = oa1 at *
  generalize m.classesS.oa = oa2 at *
  clear l0 l1 l2
  by_cases z0 : (260 : Int) < (m.funcs.length : Int)
  · have z0' : decide ((260 : Int) < (m.funcs.length : Int)) = true := decide_eq_true z0
    go_enter Tryd.func18, Tryd.ntmps18
    go_wp2
    go_ret
    first | exact ⟨false, rfl, (fun h => by cases h), below_alloc (Below.refl _ _) _ (Nat.le_refl _)⟩ | exact Or.inl ⟨rfl, below_alloc (Below.refl _ _) _ (Nat.le_refl _)⟩ | exact Or.inl ⟨rfl, (fun h => by cases h), below_alloc (Below.refl _ _) _ (Nat.le_refl _)⟩
  by_cases z1 : (1100 : Int) < (m.consts.length : Int)
  · have z0' : decide ((260 : Int) < (m.funcs.length : Int)) = false := decide_eq_false z0
    have z1' : decide ((1100 : Int) < (m.consts.length : Int)) = true := decide_eq_true z1
    go_enter Tryd.func18, Tryd.ntmps18
    go_wp2
    go_ret
    first | exact ⟨false, rfl, (fun h => by cases h), below_alloc (Below.refl _ _) _ (Nat.le_refl _)⟩ | exact Or.inl ⟨rfl, below_alloc (Below.refl _ _) _ (Nat.le_refl _)⟩ | exact Or.inl ⟨rfl, (fun h => by cases h), below_alloc (Below.refl _ _) _ (Nat.le_refl _)⟩
  by_cases z2 : (260 : Int) < (m.classes.length : Int)
  · have z0' : decide ((260 : Int) < (m.funcs.length : Int)) = false := decide_eq_false z0
    have z1' : decide ((1100 : Int) < (m.consts.length : Int)) = false := decide_eq_false z1
    have z2' : decide ((260 : Int) < (m.classes.length : Int)) = true := decide_eq_true z2
    go_enter Tryd.func18, Tryd.ntmps18
    go_wp2
    go_ret
    first | exact ⟨false, rfl, (fun h => by cases h), below_alloc (Below.refl _ _) _ (Nat.le_refl _)⟩ | exact Or.inl ⟨rfl, below_alloc (Below.refl _ _) _ (Nat.le_refl _)⟩ | exact Or.inl ⟨rfl, (fun h => by cases h), below_alloc (Below.refl _ _) _ (Nat.le_refl _)⟩
  have z0' : decide ((260 : Int) < (m.funcs.length : Int)) = false := decide_eq_false z0
  have z1' : decide ((1100 : Int) < (m.consts.length : Int)) = false := decide_eq_false z1
  have z2' : decide ((260 : Int) < (m.classes.length : Int)) = false := decide_eq_false z2
  have hbF := sumTo_le fSize 422212465065984 (l := m.funcs) (fun f hf => by have := hfr f hf; unfold fSize; omega)
  have hbC := sumTo_le cSize 422212465065984 (l := m.classes) (fun c hc => by have := hcr c hc; unfold cSize; omega)
  have hbx1 : (w.alloc (.cells #[.slice oa0 m.funcs.length m.funcsS.c, .slice oa1 m.consts.length m.constsS.c, .slice oa2 m.classes.length m.classesS.c] 42)).heap[w.heap.size]? = some (.cells #[.slice oa0 m.funcs.length m.funcsS.c, .slice oa1 m.consts.length m.constsS.c, .slice oa2 m.classes.length m.classesS.c] 42 (0, 0)) := heap_alloc_new w _
  have hbl1 : Below w.heap.size w (w.alloc (.cells #[.slice oa0 m.funcs.length m.funcsS.c, .slice oa1 m.consts.length m.constsS.c, .slice oa2 m.classes.length m.classesS.c] 42)) := below_alloc (Below.refl _ _) _ (Nat.le_refl _)
  have hsz1 : (w.alloc (.cells #[.slice oa0 m.funcs.length m.funcsS.c, .slice oa1 m.consts.length m.constsS.c, .slice oa2 m.classes.length m.classesS.c] 42)).heap.size = w.heap.size + 1 := by simp
  go_enter Tryd.func18, Tryd.ntmps18
  go_wp2
  clear z0' z1' z2'
  generalize (w.alloc (.cells #[.slice oa0 m.funcs.length m.funcsS.c, .slice oa1 m.consts.length m.constsS.c, .slice oa2 m.classes.length m.classesS.c] 42)) = w1 at *
  generalize hX : w.heap.size = X at *
  go_loopw [3, 4] (fun s3 s4 wr => ∃ k : Nat, k ≤ m.funcs.length ∧ s4 = .int .i64 (k : Int) ∧ s3 = .int .i64 ((sumTo fSize m.funcs k : Nat) : Int) ∧ Below (X + 1) w1 wr) (fun _ s4 _ => m.funcs.length - (intOf s4).toNat)
  case atStart => exact ⟨0, Nat.zero_le _, rfl, by rw [sumTo_zero]; rfl, Below.refl _ _⟩
  case round =>
    obtain ⟨k, hk, rfl, rfl, hb⟩ := hrel
    have hbw : Below X w wr := hbl1.trans (hb.mono (Nat.le_succ X))
    have hbxr := (hb.block X (Nat.lt_succ_self X)).trans hbx1
    have k0 : wr.cell? ⟨X, 0, none⟩ = some (.slice oa0 m.funcs.length m.funcsS.c) := cell_of_block hbxr rfl
    have k2 : wr.cell? ⟨X, 2, none⟩ = some (.slice oa2 m.classes.length m.classesS.c) := cell_of_block hbxr rfl
    by_cases hkn : k < m.funcs.length
    · obtain ⟨f, hx⟩ : ∃ f, m.funcs[k]? = some f := ⟨_, List.getElem?_eq_getElem hkn⟩
      have hfm := List.mem_of_getElem? hx
      have hkd : decide ((k : Int) < (m.funcs.length : Int)) = true := by simp; omega
      have hoa := a0 (by omega)
      subst hoa
      have hfi := hi.fn f hfm
      have n3 := hfi.code.len
      have n4 := hfi.hs.len
      have n5 := hfi.vars.len
      rw [List.length_map] at n3 n4 n5
      have hxr : Row wr m.funcsS.b (m.funcsS.o + k * 6) f.vals := (hrow0 k f hx).below hbw (Nat.le_of_eq hX)
      have e3 : wr.cell? ⟨m.funcsS.b, m.funcsS.o + k * 6 + 3, none⟩ = some (.slice f.codeS.oa f.codeS.n f.codeS.c) := hxr 3 _ rfl
      have e4 : wr.cell? ⟨m.funcsS.b, m.funcsS.o + k * 6 + 4, none⟩ = some (.slice f.hsS.oa f.hsS.n f.hsS.c) := hxr 4 _ rfl
      have e5 : wr.cell? ⟨m.funcsS.b, m.funcsS.o + k * 6 + 5, none⟩ = some (.slice f.varsS.oa f.varsS.n f.varsS.c) := hxr 5 _ rfl
      rw [n3] at e3
      rw [n4] at e4
      rw [n5] at e5
      obtain ⟨r1, r2, r3⟩ := hfr f hfm
      have hs := sumTo_succ fSize hx
      have hbk := hbF k
      have i1 : (0 : Int) ≤ (k : Int) := by omega
      have i2 : (k : Int) < (m.funcs.length : Int) := by omega
      obtain ⟨S, hS⟩ : ∃ S, S = sumTo fSize m.funcs k := ⟨_, rfl⟩
      rw [← hS] at hs hbk ⊢
      have hSA : Aside (S = sumTo fSize m.funcs k) := hS
      have hsA : Aside (sumTo fSize m.funcs (k + 1) = S + fSize f) := hs
      have hSb : S ≤ 109775240917155840 := by
        have : k * 422212465065984 ≤ 260 * 422212465065984 := Nat.mul_le_mul_right _ (by omega)
        omega
      clear hS hs hxr hrow0 hrow2 hfi n3 n4 n5 hbxr hbk k2 hbF hbC hfr hcr
      go_wp2
      go_quiet (fail)
      go_wp2
      go_roundw
      case rel =>
        refine ⟨k + 1, by omega, by simp, ?_, below_drewN hb _⟩
        rw [hsA.out]
        unfold fSize
        refine congrArg (Value.int .i64) ?_
        omega
      case measure => simp [intOf]; omega
    · obtain rfl : k = m.funcs.length := by omega
      have hkd : decide ((m.funcs.length : Int) < (m.funcs.length : Int)) = false := by simp
      have hSF := hbF m.funcs.length
      obtain ⟨SF, hSF0⟩ : ∃ SF, SF = sumTo fSize m.funcs m.funcs.length := ⟨_, rfl⟩
      rw [← hSF0] at hSF ⊢
      have hSFA : Aside (SF = sumTo fSize m.funcs m.funcs.length) := hSF0
      have hSFb : SF ≤ 109775240917155840 := by
        have : m.funcs.length * 422212465065984 ≤ 260 * 422212465065984 := Nat.mul_le_mul_right _ (by omega)
        omega
      have hb1 := hb
      clear hb hbw hbxr hSF hSF0 k2 hrow0 a0
      go_wp2
      clear k0
      go_loopw [3, 5] (fun s3 s5 wr => ∃ k : Nat, k ≤ m.classes.length ∧ s5 = .int .i64 (k : Int) ∧ s3 = .int .i64 ((SF : Int) + ((sumTo cSize m.classes k : Nat) : Int)) ∧ Below (X + 1) w1 wr) (fun _ s5 _ => m.classes.length - (intOf s5).toNat)
      case atStart => exact ⟨0, Nat.zero_le _, rfl, by rw [sumTo_zero]; simp, hb1⟩
      case round =>
        clear hb1
        obtain ⟨k, hk, rfl, rfl, hb⟩ := hrel
        have hbw : Below X w wr := hbl1.trans (hb.mono (Nat.le_succ X))
        have hbxr := (hb.block X (Nat.lt_succ_self X)).trans hbx1
        have k2 : wr.cell? ⟨X, 2, none⟩ = some (.slice oa2 m.classes.length m.classesS.c) := cell_of_block hbxr rfl
        by_cases hkn : k < m.classes.length
        · obtain ⟨c, hx⟩ : ∃ c, m.classes[k]? = some c := ⟨_, List.getElem?_eq_getElem hkn⟩
          have hcm := List.mem_of_getElem? hx
          have hkd : decide ((k : Int) < (m.classes.length : Int)) = true := by simp; omega
          have hoa := a2 (by omega)
          subst hoa
          have hcl := hi.cl c hcm
          have n2 := hcl.fields.len
          have n3 := hcl.names.len
          have n4 := hcl.methods.len
          rw [List.length_map] at n2 n3 n4
          have hxr : Row wr m.classesS.b (m.classesS.o + k * 5) c.vals := (hrow2 k c hx).below hbw (Nat.le_of_eq hX)
          have e2 : wr.cell? ⟨m.classesS.b, m.classesS.o + k * 5 + 2, none⟩ = some (.slice c.fieldsS.oa c.fieldsS.n c.fieldsS.c) := hxr 2 _ rfl
          have e3 : wr.cell? ⟨m.classesS.b, m.classesS.o + k * 5 + 3, none⟩ = some (.slice c.namesS.oa c.namesS.n c.namesS.c) := hxr 3 _ rfl
          have e4 : wr.cell? ⟨m.classesS.b, m.classesS.o + k * 5 + 4, none⟩ = some (.slice c.methodsS.oa c.methodsS.n c.methodsS.c) := hxr 4 _ rfl
          rw [n2] at e2
          rw [n3] at e3
          rw [n4] at e4
          obtain ⟨r1, r2, r3⟩ := hcr c hcm
          have hs := sumTo_succ cSize hx
          have hbk := hbC k
          have i1 : (0 : Int) ≤ (k : Int) := by omega
          have i2 : (k : Int) < (m.classes.length : Int) := by omega
          obtain ⟨S, hS⟩ : ∃ S, S = sumTo cSize m.classes k := ⟨_, rfl⟩
          rw [← hS] at hs hbk ⊢
          have hsA : Aside (sumTo cSize m.classes (k + 1) = S + cSize c) := hs
          have hSb : S ≤ 109775240917155840 := by
            have : k * 422212465065984 ≤ 260 * 422212465065984 := Nat.mul_le_mul_right _ (by omega)
            omega
          clear hS hs hxr hrow2 hcl n2 n3 n4 hbxr hbk hbF hbC hfr hcr
          go_wp2
          go_quiet (fail)
          go_wp2
          go_roundw
          case rel =>
            refine ⟨k + 1, by omega, by simp, ?_, below_drewN hb _⟩
            rw [hsA.out]
            unfold cSize
            refine congrArg (Value.int .i64) ?_
            omega
          case measure => simp [intOf]; omega
        · obtain rfl : k = m.classes.length := by omega
          have hkd : decide ((m.classes.length : Int) < (m.classes.length : Int)) = false := by simp
          go_wp2
          go_ret
          refine ⟨_, rfl, ?_, ?_⟩
          · intro h
            have h6 : (SF : Int) + ((sumTo cSize m.classes m.classes.length : Nat) : Int) ≤ 6000 := by simpa using h
            rw [hSFA.out] at h6
            refine ⟨by omega, by omega, by omega, fun f hf => ?_, fun c hc => ?_⟩
            · have := le_sumTo fSize hf; omega
            · have := le_sumTo cSize hc; omega
          · try rw [hX]
            exact hbw
end Go.Proofs.YthbkklnahhdgcaaDoor.CodeK
