/-
  Contracts of package code's round, of Check's closure, of slices.ContainsFunc at it.
-/
import Derived.Test.YthbkklnahhdgcaaDoorCodeB
import Derived.Test.YthbkklnahhdgcaaDoorCodeQ
import Derived.LoopTactic
import Derived.Deep.LoopGhost
namespace Go.Proofs.YthbkklnahhdgcaaDoor.CodeH
open Go Go.Proofs Go.RowKit Lib CodeR CodeA CodeB CodeP CodeQ

theorem inB_true {m : Im} {k : Int} (h0 : 0 ≤ k) (h1 : k < m.classes.length) : inB m k = true := by simp [inB, h0, h1]
theorem inB_false {m : Im} {k : Int} (h : ¬ (0 ≤ k ∧ k < m.classes.length)) : inB m k = false := by
  unfold inB
  rw [Bool.and_eq_false_iff, decide_eq_false_iff_not, decide_eq_false_iff_not]
  omega

set_option maxRecDepth 100000 in
set_option maxHeartbeats 2000000 in
theorem round_any (mb mo : Nat) (m : Im) (i : Int) (w : World) (hm : Row w mb mo m.vals) (hi : ImIn w m) (hlim : m.classes.length ≤ 250) :
    Calls Tryd.prog 40 #[.pointer (some ⟨mb, mo, none⟩), .int .i64 i] w fun e w' => e = .returned (.bool (roundB m i)) ∧ w' = w := by
  have c2 := (im_cells hm).2.2
  have hl := hi.classes.len
  have ha := hi.classes.addr
  have hr := fun (k : Nat) (x : Cl) (hx : m.classes[k]? = some x) => hi.classes.row k x.vals (by rw [List.getElem?_map, hx]; rfl)
  rw [List.length_map] at hl
  unfold Sl.val at c2
  rw [hl] at c2 ha
  generalize m.classesS.oa = oa at *
  clear hm hi hl
  go_enter Tryd.func40, Tryd.ntmps40
  go_wp2
  go_loop [5, 6] (fun s5 s6 => ∃ (n : Nat) (k : Int), s5 = .int .i64 (n : Int) ∧ s6 = .int .i64 k ∧ n ≤ m.classes.length ∧ roundB m i = liveN (inB m) (aboveI m) k (m.classes.length + 1 - n)) (fun s5 _ => m.classes.length + 1 - (intOf s5).toNat)
  case atStart => exact ⟨0, i, rfl, rfl, Nat.zero_le _, rfl⟩
  case round =>
    obtain ⟨n, k, rfl, rfl, hn, hlv⟩ := hrel
    obtain ⟨t, ht⟩ : ∃ t, m.classes.length + 1 - n = t + 1 := ⟨m.classes.length - n, by omega⟩
    rw [ht] at hlv
    have hA : Aside (roundB m i = liveN (inB m) (aboveI m) k (t + 1)) := hlv
    clear hlv
    by_cases h0 : 0 ≤ k
    · have hd0 : decide (0 ≤ k) = true := by simpa using h0
      by_cases h1 : k < (m.classes.length : Int)
      · have hd1 : decide (k < (m.classes.length : Int)) = true := by simpa using h1
        obtain ⟨x, hx⟩ := get_of_lt (l := m.classes) h0 h1
        obtain rfl := ha (by omega)
        have hc := hr k.toNat x hx 1 _ rfl
        have hab : aboveI m k = x.above := by unfold aboveI; rw [hx]; rfl
        clear hr ha
        by_cases h2 : (m.classes.length : Int) < (n : Int) + 1
        · have hd2 : decide ((m.classes.length : Int) < (n : Int) + 1) = true := by simpa using h2
          have ht0 : t = 0 := by omega
          subst ht0
          go_wp2
          go_ret
          refine ⟨?_, rfl⟩
          rw [hA.out]
          simp only [liveN, inB_true h0 h1, Bool.and_self]
          rfl
        · have hd2 : decide ((m.classes.length : Int) < (n : Int) + 1) = false := by simpa using h2
          go_wp2
          go_round
          case rel =>
            refine ⟨n + 1, x.above, by simp, rfl, by omega, ?_⟩
            rw [hA.out, show m.classes.length + 1 - (n + 1) = t by omega]
            simp only [liveN, inB_true h0 h1, Bool.true_and, hab]
          case measure => simp [intOf]; omega
      · have hd1 : decide (k < (m.classes.length : Int)) = false := by simpa using h1
        clear hr ha
        go_wp2
        go_ret
        refine ⟨?_, rfl⟩
        rw [hA.out]
        simp only [liveN, inB_false (m := m) (k := k) (by omega), Bool.false_and]
        rfl
    · have hd0 : decide (0 ≤ k) = false := by simpa using h0
      clear hr ha
      go_wp2
      go_ret
      refine ⟨?_, rfl⟩
      rw [hA.out]
      simp only [liveN, inB_false (m := m) (k := k) (by omega), Bool.false_and]
      rfl

theorem meth_any (mb mo bx : Nat) (m : Im) (k : Int) (w : World) (hm : Row w mb mo m.vals) (hi : ImIn w m) (hb : w.cell? ⟨bx, 0, none⟩ = some (.pointer (some ⟨mb, mo, none⟩))) :
    Calls Tryd.prog 39 #[.int .i64 k, .pointer (some ⟨bx, 0, none⟩)] w fun e w' => e = .returned (.bool (methB m k)) ∧ w' = w := by
  have c0 := (im_cells hm).1
  have hl := hi.funcs.len
  rw [List.length_map] at hl
  unfold Sl.val at c0
  rw [hl] at c0
  clear hm hi hl
  unfold methB
  by_cases h0 : k < 1
  · have hd0 : decide (k < 1) = true := by simpa using h0
    go_enter Tryd.func39, Tryd.ntmps39
    go_wp2
    go_ret
    exact ⟨by simp [h0], rfl⟩
  · have hd0 : decide (k < 1) = false := by simpa using h0
    go_enter Tryd.func39, Tryd.ntmps39
    go_wp2
    go_ret
    exact ⟨by simp, rfl⟩

set_option maxRecDepth 100000 in
set_option maxHeartbeats 2000000 in
theorem index_any (mb mo bx : Nat) (m : Im) (S : Sl) (l : List Int) (w : World) (hm : Row w mb mo m.vals) (hi : ImIn w m) (hb : w.cell? ⟨bx, 0, none⟩ = some (.pointer (some ⟨mb, mo, none⟩))) (hS : SlIn w S 1 (l.map fun n => [.int .i64 n])) :
    Calls Tryd.prog 80 #[S.val, .func (Fn.func 39) #[] #[.pointer (some ⟨bx, 0, none⟩)]] w fun e w' => (∃ r : Int, e = .returned (.int .i64 r) ∧ decide (0 ≤ r) = l.any (methB m)) ∧ w' = w := by
  have hl := hS.len
  have hsm := hS.small
  have ha := hS.addr
  have hr := fun (k : Nat) (n : Int) (hx : l[k]? = some n) => hS.row k [.int .i64 n] (by rw [List.getElem?_map, hx]; rfl) 0 _ rfl
  rw [List.length_map] at hl
  unfold Sl.val
  rw [hl] at ha hsm ⊢
  generalize S.oa = oa at *
  have hT := fun k => meth_any mb mo bx m k w hm hi hb
  clear hm hi hb hS hl
  go_enter Tryd.func80, Tryd.ntmps80
  go_wp2
  go_loop [8] (fun s8 => ∃ k : Nat, s8 = .int .i64 (k : Int) ∧ k ≤ l.length ∧ (∀ j n, j < k → l[j]? = some n → methB m n = false)) (fun s8 => l.length - (intOf s8).toNat)
  case atStart => exact ⟨0, rfl, Nat.zero_le _, fun j n hj => by omega⟩
  case round =>
    obtain ⟨k, rfl, hk, hall⟩ := hrel
    by_cases hkn : k < l.length
    · obtain ⟨n, hx⟩ : ∃ n, l[k]? = some n := ⟨_, List.getElem?_eq_getElem hkn⟩
      have hkd : decide ((k : Int) < (l.length : Int)) = true := by simp; omega
      obtain rfl := ha (by omega)
      have hc := hr k n hx
      simp only [Nat.mul_one, Nat.add_zero] at hc
      clear hr ha
      cases hmn : methB m n
      · go_wp2_with (go_at_call 39; refine (hT _).mono ?_; rintro e w' ⟨rfl, hw⟩; rw [hw]; clear hw; rw [hmn])
        go_round
        case rel =>
          refine ⟨k + 1, by simp, by omega, ?_⟩
          intro j y hj hy
          by_cases hjk : j = k
          · subst hjk; rw [hx] at hy; cases hy; exact hmn
          · exact hall j y (by omega) hy
        case measure => simp [intOf]; omega
      · go_wp2_with (go_at_call 39; refine (hT _).mono ?_; rintro e w' ⟨rfl, hw⟩; rw [hw]; clear hw; rw [hmn])
        go_ret
        refine ⟨⟨(k : Int), rfl, ?_⟩, rfl⟩
        rw [List.any_eq_true.mpr ⟨n, List.mem_of_getElem? hx, hmn⟩]
        simp
    · obtain rfl : k = l.length := by omega
      have hkd : decide ((l.length : Int) < (l.length : Int)) = false := by simp
      clear hr ha
      go_wp2
      go_ret
      refine ⟨⟨-1, rfl, ?_⟩, rfl⟩
      have : l.any (methB m) = false := by
        rw [Bool.eq_false_iff]
        intro h
        obtain ⟨y, hy, hy2⟩ := List.any_eq_true.mp h
        obtain ⟨j, hj⟩ := List.mem_iff_getElem?.mp hy
        rw [hall j y (List.getElem?_eq_some_iff.mp hj).1 hj] at hy2
        cases hy2
      rw [this]
      decide

theorem contains_any (mb mo bx : Nat) (m : Im) (S : Sl) (l : List Int) (w : World) (hm : Row w mb mo m.vals) (hi : ImIn w m) (hb : w.cell? ⟨bx, 0, none⟩ = some (.pointer (some ⟨mb, mo, none⟩))) (hS : SlIn w S 1 (l.map fun n => [.int .i64 n])) :
    Calls Tryd.prog 38 #[S.val, .func (Fn.func 39) #[] #[.pointer (some ⟨bx, 0, none⟩)]] w fun e w' => e = .returned (.bool (l.any (methB m))) ∧ w' = w := by
  have hT := index_any mb mo bx m S l w hm hi hb hS
  unfold Sl.val at *
  clear hm hi hb hS
  go_enter Tryd.func38, Tryd.ntmps38
  go_wp2_with (go_at_call 80; refine hT.mono ?_; rintro e w' ⟨⟨r, rfl, hr⟩, hw⟩; rw [hw]; clear hw)
  go_ret
  exact ⟨by rw [← hr]; rfl, rfl⟩
end Go.Proofs.YthbkklnahhdgcaaDoor.CodeH
