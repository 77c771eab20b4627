/-
  slices.Clone at []int, vm.New's closure, and slices.ContainsFunc at it: what they return.
-/
import Derived.Test.YthbkklnahhdgcaaDoorCodeH
import Derived.Test.YthbkklnahhdgcaaDoorCodeL
import Derived.LoopTactic
import Derived.Deep.LoopGhost
import Derived.Lib.SliceRun
namespace Go.Proofs.YthbkklnahhdgcaaDoor.VmA
open Go Go.Proofs Go.RowKit Lib CodeR CodeA CodeB CodeP CodeQ CodeH

theorem infoInt : (Tryd.prog.info? 3).map (fun i => (i.zero, i.size, i.bytes)) = some (some (.int .i64 0), 1, 8) := by kernel_rfl

set_option maxHeartbeats 2000000 in
set_option maxRecDepth 100000 in
theorem clone_any (S : Sl) (l : List Int) (w : World) (hS : SlIn w S 1 (l.map fun n => [.int .i64 n])) (hbig : l.length ≤ 17592186044416) :
    Calls Tryd.prog 45 #[.slice S.oa l.length S.c] w fun e w' => ∃ oa c, e = .returned (.slice oa l.length c) ∧ w'.ownsRow w.heap.size 3 1 (.slice oa l.length c) l.length (l.map (Value.int .i64)) ∧ Below w.heap.size w w' := by
  have ha := hS.addr
  have hl := hS.len
  rw [List.length_map] at hl
  rw [hl] at ha
  have hr := fun (k : Nat) (n : Int) (hx : l[k]? = some n) => hS.row k [.int .i64 n] (by rw [List.getElem?_map, hx]; rfl) 0 _ rfl
  obtain ⟨i0, hi, hz0, hz1, hz2⟩ := info_parts infoInt
  have qT : ∀ (w : World) (a : Option Addr) (n c n' c' : Nat), (binOp .eql 52 (.slice a n c) (.slice none n' c')).run Tryd.prog w = .ok (.bool a.isNone) w := fun w a n c n' c' => Lib.run_eql_slice_nil w _ _ a n c n' c' Tryd.underlying52
  generalize S.c = c
  generalize S.oa = oa at *
  clear hS hl
  cases oa with
  | none =>
    have h0 : l = [] := by
      cases l with
      | nil => rfl
      | cons a t => exact absurd (ha (by simp)) (by simp)
    subst h0
    clear ha hr
    go_enter Tryd.func45, Tryd.ntmps45
    go_wp2
    go_ret
    exact ⟨none, 0, rfl, World.ownsRow_nil _ _ _ _, Below.refl _ _⟩
  | some ad =>
    have hc : ∀ (j : Nat) (u : Value), (l.map (Value.int .i64))[j]? = some u → w.cell? (ad.add j) = some u := by
      intro j u hj
      rw [List.getElem?_map] at hj
      cases hx : l[j]? with
      | none => rw [hx] at hj; cases hj
      | some n =>
        rw [hx] at hj
        cases hj
        have hlt := (List.getElem?_eq_some_iff.mp hx).1
        have h1 := ha (by omega)
        cases h1
        have h2 := hr j n hx
        rw [Addr.add_lit]; simpa using h2
    have A : Aside (∀ (j : Nat) (u : Value), (l.map (Value.int .i64))[j]? = some u → w.cell? (ad.add j) = some u) := hc
    clear hc ha hr
    go_enter Tryd.func45, Tryd.ntmps45
    go_wp2_with (at_builtin; refine wpList_append_own _ rfl _ _ 52 rfl w.heap.size 3 i0 (.int .i64 0) 1 8 Tryd.underlying52 hi hz0 hz1 hz2 rfl (by decide) _ _ _ rfl (World.ownsRow_made w #[] 0 (Nat.le_refl _) (Nat.zero_le _) rfl) ad l.length c (l.map (Value.int .i64)) rfl ?qc1 ?qc2 ?qc3 ?qc4 ?qc5 ?qc6 ?_)
    case qc1 => simp
    case qc2 =>
      intro j u hj
      exact Lib.cell?_alloc_some _ (A.out j u hj)
    case qc3 => intro u hu; obtain ⟨x, _, rfl⟩ := List.mem_map.1 hu; rfl
    case qc4 => unfold maxLen; omega
    case qc5 => omega
    case qc6 => simp
    intro v' w1 hown hgrow hnil
    go_wp2
    go_ret
    have hown' : w1.ownsRow w.heap.size 3 1 v' l.length (l.map (Value.int .i64)) := by simpa using hown
    obtain ⟨oa', c', rfl⟩ : ∃ oa' c', v' = .slice oa' l.length c' := by
      rcases hown'.2 with ⟨h1, h2⟩ | ⟨g, cap, _, h1, _⟩
      · exact ⟨none, 0, by rw [h1, h2]⟩
      · exact ⟨_, _, h1⟩
    refine ⟨oa', c', rfl, hown', ?_⟩
    exact ((Below.refl _ w).alloc (Nat.le_refl _) _).grown hgrow (by simp) (by intro k hk; simp [Value.ownBlock] at hk; omega)

def colB (k : Int) : Bool := decide (k < 0) || decide (2 < k)

theorem col_any (k : Int) (w : World) :
    Calls Tryd.prog 44 #[.int .i64 k] w fun e w' => e = .returned (.bool (colB k)) ∧ w' = w := by
  unfold colB
  by_cases h0 : k < 0
  · have hd0 : decide (k < 0) = true := by simpa using h0
    go_enter Tryd.func44, Tryd.ntmps44
    go_wp2
    go_ret
    exact ⟨by simp [h0], rfl⟩
  · have hd0 : decide (k < 0) = false := by simpa using h0
    go_enter Tryd.func44, Tryd.ntmps44
    go_wp2
    go_ret
    exact ⟨by simp, rfl⟩

set_option maxRecDepth 100000 in
set_option maxHeartbeats 2000000 in
theorem colIndex_any (S : Sl) (l : List Int) (w : World) (hS : SlIn w S 1 (l.map fun n => [.int .i64 n])) :
    Calls Tryd.prog 80 #[.slice S.oa l.length S.c, .func (Fn.func 44) #[] #[]] w fun e w' => (∃ r : Int, e = .returned (.int .i64 r) ∧ decide (0 ≤ r) = l.any colB) ∧ w' = w := by
  have hl := hS.len
  have hsm := hS.small
  have ha := hS.addr
  have hr := fun (k : Nat) (n : Int) (hx : l[k]? = some n) => hS.row k [.int .i64 n] (by rw [List.getElem?_map, hx]; rfl) 0 _ rfl
  rw [List.length_map] at hl
  rw [hl] at ha hsm
  generalize S.oa = oa at *
  generalize S.c = c at *
  have hT := fun k => col_any k w
  clear hS hl
  go_enter Tryd.func80, Tryd.ntmps80
  go_wp2
  go_loop [8] (fun s8 => ∃ k : Nat, s8 = .int .i64 (k : Int) ∧ k ≤ l.length ∧ (∀ j n, j < k → l[j]? = some n → colB n = false)) (fun s8 => l.length - (intOf s8).toNat)
  case atStart => exact ⟨0, rfl, Nat.zero_le _, fun j n hj => by omega⟩
  case round =>
    obtain ⟨k, rfl, hk, hall⟩ := hrel
    by_cases hkn : k < l.length
    · obtain ⟨n, hx⟩ : ∃ n, l[k]? = some n := ⟨_, List.getElem?_eq_getElem hkn⟩
      have hkd : decide ((k : Int) < (l.length : Int)) = true := by simp; omega
      obtain rfl := ha (by omega)
      have hc := hr k n hx
      simp only [Nat.mul_one, Nat.add_zero] at hc
      clear hr ha
      cases hmn : colB n
      · go_wp2_with (go_at_call 44; refine (hT _).mono ?_; rintro e w' ⟨rfl, hw⟩; rw [hw]; clear hw; rw [hmn])
        go_round
        case rel =>
          refine ⟨k + 1, by simp, by omega, ?_⟩
          intro j y hj hy
          by_cases hjk : j = k
          · subst hjk; rw [hx] at hy; cases hy; exact hmn
          · exact hall j y (by omega) hy
        case measure => simp [intOf]; omega
      · go_wp2_with (go_at_call 44; refine (hT _).mono ?_; rintro e w' ⟨rfl, hw⟩; rw [hw]; clear hw; rw [hmn])
        go_ret
        refine ⟨⟨(k : Int), rfl, ?_⟩, rfl⟩
        rw [List.any_eq_true.mpr ⟨n, List.mem_of_getElem? hx, hmn⟩]
        simp
    · obtain rfl : k = l.length := by omega
      have hkd : decide ((l.length : Int) < (l.length : Int)) = false := by simp
      clear hr ha
      go_wp2
      go_ret
      refine ⟨⟨-1, rfl, ?_⟩, rfl⟩
      have : l.any colB = false := by
        rw [Bool.eq_false_iff]
        intro h
        obtain ⟨y, hy, hy2⟩ := List.any_eq_true.mp h
        obtain ⟨j, hj⟩ := List.mem_iff_getElem?.mp hy
        rw [hall j y (List.getElem?_eq_some_iff.mp hj).1 hj] at hy2
        cases hy2
      rw [this]
      decide

theorem colContains_any (S : Sl) (l : List Int) (w : World) (hS : SlIn w S 1 (l.map fun n => [.int .i64 n])) :
    Calls Tryd.prog 38 #[.slice S.oa l.length S.c, .func (Fn.func 44) #[] #[]] w fun e w' => e = .returned (.bool (l.any colB)) ∧ w' = w := by
  have hT := colIndex_any S l w hS
  generalize S.oa = oa at *
  generalize S.c = c at *
  clear hS
  go_enter Tryd.func38, Tryd.ntmps38
  go_wp2_with (go_at_call 80; refine hT.mono ?_; rintro e w' ⟨⟨r, rfl, hr⟩, hw⟩; rw [hw]; clear hw)
  go_ret
  exact ⟨by rw [← hr]; rfl, rfl⟩
end Go.Proofs.YthbkklnahhdgcaaDoor.VmA
