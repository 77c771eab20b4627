/-
  Contracts of the small functions under syntax.Name and rewindref.IsName: digits, letters, is a text on a list.
-/
import Derived.Test.YtfpjgbpkolmgkaaDoorProg
import Derived.WalkKit
import Derived.Deep.QuietTactic
import Derived.BigQuiet
namespace Go.Proofs.YtfpjgbpkolmgkaaDoor.NamesA
open Go Go.Proofs Go.RowKit

def digitB (c : Int) : Bool := decide (48 ≤ c) && decide (c ≤ 57)
def letterB (c : Int) : Bool := decide (c = 95) || (decide (97 ≤ c) && decide (c ≤ 122)) || (decide (65 ≤ c) && decide (c ≤ 90))

set_option maxHeartbeats 400000 in
theorem digit_any (c : Int) (w : World) : Calls Tryd.prog 6 #[.int .u8 c] w fun e w' => e = .returned (.bool (digitB c)) ∧ w' = w := by
  go_enter Tryd.func6, Tryd.ntmps6
  by_cases h1 : 48 ≤ c
  · by_cases h2 : c ≤ 57
    · go_wp2
      go_ret
      exact ⟨by first | (simp [digitB, *]; done) | (simp [digitB]; omega) | (simp [digitB]; rw [Bool.eq_iff_iff]; simp; omega), rfl⟩
    · go_wp2
      go_ret
      exact ⟨by first | (simp [digitB, *]; done) | (simp [digitB]; omega) | (simp [digitB]; rw [Bool.eq_iff_iff]; simp; omega), rfl⟩
  · go_wp2
    go_ret
    exact ⟨by first | (simp [digitB, *]; done) | (simp [digitB]; omega) | (simp [digitB]; rw [Bool.eq_iff_iff]; simp; omega), rfl⟩

set_option maxHeartbeats 400000 in
theorem isDigit_any (c : Int) (w : World) : Calls Tryd.prog 10 #[.int .u8 c] w fun e w' => e = .returned (.bool (digitB c)) ∧ w' = w := by
  go_enter Tryd.func10, Tryd.ntmps10
  by_cases h1 : 48 ≤ c
  · by_cases h2 : c ≤ 57
    · go_wp2
      go_ret
      exact ⟨by first | (simp [digitB, *]; done) | (simp [digitB]; omega) | (simp [digitB]; rw [Bool.eq_iff_iff]; simp; omega), rfl⟩
    · go_wp2
      go_ret
      exact ⟨by first | (simp [digitB, *]; done) | (simp [digitB]; omega) | (simp [digitB]; rw [Bool.eq_iff_iff]; simp; omega), rfl⟩
  · go_wp2
    go_ret
    exact ⟨by first | (simp [digitB, *]; done) | (simp [digitB]; omega) | (simp [digitB]; rw [Bool.eq_iff_iff]; simp; omega), rfl⟩

set_option maxHeartbeats 1000000 in
theorem isLetter_any (c : Int) (w : World) : Calls Tryd.prog 9 #[.int .u8 c] w fun e w' => e = .returned (.bool (letterB c)) ∧ w' = w := by
  go_enter Tryd.func9, Tryd.ntmps9
  by_cases h0 : c = 95
  · subst h0
    go_wp2
    go_ret
    exact ⟨by first | (simp [letterB, *]; done) | (simp [letterB]; omega) | (simp [letterB]; rw [Bool.eq_iff_iff]; simp; omega), rfl⟩
  · by_cases h1 : 97 ≤ c
    · by_cases h2 : c ≤ 122
      · go_wp2
        go_ret
        exact ⟨by first | (simp [letterB, *]; done) | (simp [letterB]; omega) | (simp [letterB]; rw [Bool.eq_iff_iff]; simp; omega), rfl⟩
      · by_cases h3 : 65 ≤ c
        · by_cases h4 : c ≤ 90
          · go_wp2
            go_ret
            exact ⟨by first | (simp [letterB, *]; done) | (simp [letterB]; omega) | (simp [letterB]; rw [Bool.eq_iff_iff]; simp; omega), rfl⟩
          · go_wp2
            go_ret
            exact ⟨by first | (simp [letterB, *]; done) | (simp [letterB]; omega) | (simp [letterB]; rw [Bool.eq_iff_iff]; simp; omega), rfl⟩
        · go_wp2
          go_ret
          exact ⟨by first | (simp [letterB, *]; done) | (simp [letterB]; omega) | (simp [letterB]; rw [Bool.eq_iff_iff]; simp; omega), rfl⟩
    · by_cases h3 : 65 ≤ c
      · by_cases h4 : c ≤ 90
        · go_wp2
          go_ret
          exact ⟨by first | (simp [letterB, *]; done) | (simp [letterB]; omega) | (simp [letterB]; rw [Bool.eq_iff_iff]; simp; omega), rfl⟩
        · go_wp2
          go_ret
          exact ⟨by first | (simp [letterB, *]; done) | (simp [letterB]; omega) | (simp [letterB]; rw [Bool.eq_iff_iff]; simp; omega), rfl⟩
      · go_wp2
        go_ret
        exact ⟨by first | (simp [letterB, *]; done) | (simp [letterB]; omega) | (simp [letterB]; rw [Bool.eq_iff_iff]; simp; omega), rfl⟩

/-- The list's texts lie in memory, one after another. -/
def Texts (w : World) (b o : Nat) (ws : List ByteArray) : Prop := ∀ (j : Nat) x, ws[j]? = some x → w.cell? ⟨b, o + j, none⟩ = some (.string x)
def hasB (ws : List ByteArray) (s : ByteArray) : Bool := ws.any fun x => x.toList == s.toList
theorem hasB_yes {ws : List ByteArray} {s x : ByteArray} {k : Nat} (hx : ws[k]? = some x) (he : (x.toList == s.toList) = true) : hasB ws s = true :=
  List.any_eq_true.2 ⟨x, List.mem_of_getElem? hx, he⟩
theorem hasB_no {ws : List ByteArray} {s : ByteArray} (h : ∀ (j : Nat) x, ws[j]? = some x → (x.toList == s.toList) = false) : hasB ws s = false := by
  rw [hasB, List.any_eq_false]
  intro x hx
  obtain ⟨j, hj⟩ := List.mem_iff_getElem?.1 hx
  rw [h j x hj]
  simp

set_option maxHeartbeats 1000000 in
theorem has_any (b o c n : Nat) (ws : List ByteArray) (s : ByteArray) (w : World) (hl : ws.length = n) (hn : n ≤ 1000) (hc : Texts w b o ws) :
    Calls Tryd.prog 11 #[.slice (some ⟨b, o, none⟩) n c, .string s] w fun e w' => e = .returned (.bool (hasB ws s)) ∧ w' = w := by
  unfold Texts at hc
  go_enter Tryd.func11, Tryd.ntmps11
  go_wp2
  go_loop [6, 9] (fun _ i => ∃ k : Nat, k ≤ n ∧ i = .int .i64 k ∧ ∀ (j : Nat) x, j < k → ws[j]? = some x → (x.toList == s.toList) = false) (fun _ i => n - (intOf i).toNat)
  case atStart => exact ⟨0, Nat.zero_le _, rfl, fun j _ hj => by omega⟩
  case round =>
    obtain ⟨k, hk, rfl, hno⟩ := hrel
    by_cases hlt : k < n
    · obtain ⟨x, hx⟩ : ∃ x, ws[k]? = some x := ⟨ws[k], List.getElem?_eq_getElem (by omega)⟩
      have hcell := hc k x hx
      cases he : (x.toList == s.toList)
      · clear hc
        go_wp2
        go_round
        case rel => exact ⟨k + 1, by omega, by go_num, fun j y hj hy => by
          by_cases h1 : j = k
          · subst h1
            obtain rfl := Option.some.inj (hx.symm.trans hy)
            exact he
          · exact hno j y (by omega) hy⟩
        case measure => simp [intOf]; omega
      · have hm := hasB_yes hx he
        clear hc
        go_wp2
        go_ret
        exact ⟨by first | rfl | rw [hm], rfl⟩
    · obtain rfl : k = n := by omega
      have hm : hasB ws s = false := hasB_no fun j x hx => hno j x (by have := (List.getElem?_eq_some_iff.1 hx).1; omega) hx
      go_wp2
      go_ret
      exact ⟨by first | rfl | rw [hm], rfl⟩

set_option maxHeartbeats 1000000 in
theorem index_any (b o c n : Nat) (ws : List ByteArray) (s : ByteArray) (w : World) (hl : ws.length = n) (hn : n ≤ 1000) (hc : Texts w b o ws) :
    Calls Tryd.prog 19 #[.slice (some ⟨b, o, none⟩) n c, .string s] w fun e w' => ∃ k : Int, e = .returned (.int .i64 k) ∧ decide (0 ≤ k) = hasB ws s ∧ w' = w := by
  unfold Texts at hc
  go_enter Tryd.func19, Tryd.ntmps19
  go_wp2
  go_loop [5, 8] (fun _ i => ∃ k : Nat, k ≤ n ∧ i = .int .i64 k ∧ ∀ (j : Nat) x, j < k → ws[j]? = some x → (x.toList == s.toList) = false) (fun _ i => n - (intOf i).toNat)
  case atStart => exact ⟨0, Nat.zero_le _, rfl, fun j _ hj => by omega⟩
  case round =>
    obtain ⟨k, hk, rfl, hno⟩ := hrel
    by_cases hlt : k < n
    · obtain ⟨x, hx⟩ : ∃ x, ws[k]? = some x := ⟨ws[k], List.getElem?_eq_getElem (by omega)⟩
      have hcell := hc k x hx
      cases he : (x.toList == s.toList)
      · have he' : (s.toList == x.toList) = false := by rw [Bool.beq_comm]; exact he
        clear hc
        go_wp2
        go_round
        case rel => exact ⟨k + 1, by omega, by go_num, fun j y hj hy => by
          by_cases h1 : j = k
          · subst h1
            obtain rfl := Option.some.inj (hx.symm.trans hy)
            exact he
          · exact hno j y (by omega) hy⟩
        case measure => simp [intOf]; omega
      · have he' : (s.toList == x.toList) = true := by rw [Bool.beq_comm]; exact he
        have hm := hasB_yes hx he
        clear hc
        go_wp2
        go_ret
        exact ⟨_, rfl, by simp, rfl⟩
    · obtain rfl : k = n := by omega
      have hm : hasB ws s = false := hasB_no fun j x hx => hno j x (by have := (List.getElem?_eq_some_iff.1 hx).1; omega) hx
      go_wp2
      go_ret
      exact ⟨_, rfl, by simp, rfl⟩

set_option maxHeartbeats 400000 in
theorem contains_any (b o c n : Nat) (ws : List ByteArray) (s : ByteArray) (w : World) (hl : ws.length = n) (hn : n ≤ 1000) (hc : Texts w b o ws) :
    Calls Tryd.prog 8 #[.slice (some ⟨b, o, none⟩) n c, .string s] w fun e w' => e = .returned (.bool (hasB ws s)) ∧ w' = w := by
  have hI := index_any b o c n ws s w hl hn hc
  clear hc
  go_enter Tryd.func8, Tryd.ntmps8
  go_wp2_with (go_at_call 19; refine hI.mono ?_; rintro e w' ⟨k, rfl, hk, rfl⟩)
  go_ret
  exact ⟨by rw [← hk]; rfl, rfl⟩

end Go.Proofs.YtfpjgbpkolmgkaaDoor.NamesA
