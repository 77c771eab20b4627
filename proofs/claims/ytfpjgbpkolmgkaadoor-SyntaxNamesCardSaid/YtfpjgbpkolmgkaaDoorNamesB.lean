/-
  Contracts of rewindref.IsName and syntax.Name, the lists of words in memory.
-/
import Derived.Test.YtfpjgbpkolmgkaaDoorNamesA
import Derived.Ground.NamesProg
import Derived.Shelf.Strings.SlTrimAscii
namespace Go.Proofs
open Go.Shelf
def Tryd.lays160_ren : Go.Shelf.Ren := ⟨fun | 160 => 7 | 232 => 13 | 231 => 12 | 227 => 14 | 234 => 16 | 233 => 15 | 236 => 18 | 235 => 17 | 228 => 20 | 271 => 23 | 151 => 22 | 197 => 21 | 120 => 26 | 152 => 25 | 260 => 24 | 137 => 27 | 119 => 28 | 224 => 29 | 225 => 30 | 217 => 31 | 266 => 32 | n => n, fun | 9 => 9 | 4 => 4 | 3 => 3 | 5 => 5 | 117 => 31 | 116 => 30 | 0 => 0 | 124 => 34 | 21 => 21 | 105 => 36 | 46 => 41 | 119 => 40 | 139 => 44 | 138 => 43 | n => n, fun | 3 => 2 | 4 => 3 | n => n⟩
theorem Tryd.lays160 : Go.Proofs.Lays.n160 Tryd.prog Tryd.lays160_ren := {
  mixed := by kernel_rfl
  f119 := Tryd.func28.trans (congrArg some (by kernel_rfl))
  f120 := Tryd.func26.trans (congrArg some (by kernel_rfl))
  f137 := Tryd.func27.trans (congrArg some (by kernel_rfl))
  f151 := Tryd.func22.trans (congrArg some (by kernel_rfl))
  f152 := Tryd.func25.trans (congrArg some (by kernel_rfl))
  f160 := Tryd.func7.trans (congrArg some (by kernel_rfl))
  f197 := Tryd.func21.trans (congrArg some (by kernel_rfl))
  f217 := Tryd.func31.trans (congrArg some (by kernel_rfl))
  f224 := Tryd.func29.trans (congrArg some (by kernel_rfl))
  f225 := Tryd.func30.trans (congrArg some (by kernel_rfl))
  f227 := Tryd.func14.trans (congrArg some (by kernel_rfl))
  f228 := Tryd.func20.trans (congrArg some (by kernel_rfl))
  f231 := Tryd.func12.trans (congrArg some (by kernel_rfl))
  f232 := Tryd.func13.trans (congrArg some (by kernel_rfl))
  f233 := Tryd.func15.trans (congrArg some (by kernel_rfl))
  f234 := Tryd.func16.trans (congrArg some (by kernel_rfl))
  f235 := Tryd.func17.trans (congrArg some (by kernel_rfl))
  f236 := Tryd.func18.trans (congrArg some (by kernel_rfl))
  f260 := Tryd.func24.trans (congrArg some (by kernel_rfl))
  f266 := Tryd.func32.trans (congrArg some (by kernel_rfl))
  f271 := Tryd.func23.trans (congrArg some (by kernel_rfl))
  t0 := Tryd.underlying0
  a0 := Tryd.isAgg0
  z0 := Tryd.sizeOf0
  v0 := Tryd.zeroValue0
  t3 := Tryd.underlying3
  a3 := Tryd.isAgg3
  z3 := Tryd.sizeOf3
  v3 := Tryd.zeroValue3
  t4 := Tryd.underlying4
  a4 := Tryd.isAgg4
  z4 := Tryd.sizeOf4
  v4 := Tryd.zeroValue4
  t5 := Tryd.underlying5
  a5 := Tryd.isAgg5
  z5 := Tryd.sizeOf5
  v5 := Tryd.zeroValue5
  t9 := Tryd.underlying9
  a9 := Tryd.isAgg9
  z9 := Tryd.sizeOf9
  v9 := Tryd.zeroValue9
  t21 := Tryd.underlying21
  a21 := Tryd.isAgg21
  z21 := Tryd.sizeOf21
  v21 := Tryd.zeroValue21
  t46 := Tryd.underlying41
  a46 := Tryd.isAgg41
  z46 := Tryd.sizeOf41
  v46 := Tryd.zeroValue41
  t105 := Tryd.underlying36
  a105 := Tryd.isAgg36
  z105 := Tryd.sizeOf36
  v105 := Tryd.zeroValue36
  t116 := Tryd.underlying30
  a116 := Tryd.isAgg30
  z116 := Tryd.sizeOf30
  t117 := Tryd.underlying31
  a117 := Tryd.isAgg31
  z117 := Tryd.sizeOf31
  v117 := Tryd.zeroValue31
  t119 := Tryd.underlying40
  a119 := Tryd.isAgg40
  z119 := Tryd.sizeOf40
  t124 := Tryd.underlying34
  a124 := Tryd.isAgg34
  z124 := Tryd.sizeOf34
  v124 := Tryd.zeroValue34
  t138 := Tryd.underlying43
  a138 := Tryd.isAgg43
  z138 := Tryd.sizeOf43
  v138 := Tryd.zeroValue43
  t139 := Tryd.underlying44
  a139 := Tryd.isAgg44
  z139 := Tryd.sizeOf44
  v139 := Tryd.zeroValue44
  g3 := by kernel_rfl
  g4 := by kernel_rfl }
end Go.Proofs
namespace Go.Proofs.YtfpjgbpkolmgkaaDoor.NamesB
open Go Go.Proofs Go.RowKit Go.Shelf NamesA

def byteI (s : ByteArray) (j : Nat) : Int := if h : j < s.size then ((s[j]'h).toNat : Int) else 0
def okAt (s : ByteArray) (j : Nat) : Bool := letterB (byteI s j) || (decide (j ≠ 0) && digitB (byteI s j))
def okAll (s : ByteArray) : Bool := (List.range s.size).all (okAt s)
def refName (ws : List ByteArray) (s : ByteArray) : Bool := okAll s && (decide (0 < s.size) && (decide (s.size ≤ 16) && !hasB ws s))

theorem okAll_yes {s : ByteArray} (h : ∀ j, j < s.size → okAt s j = true) : okAll s = true := by
  rw [okAll, List.all_eq_true]
  intro j hj
  exact h j (List.mem_range.1 hj)
theorem okAll_no {s : ByteArray} {j : Nat} (hj : j < s.size) (h : okAt s j = false) : okAll s = false := by
  rw [okAll, List.all_eq_false]
  exact ⟨j, List.mem_range.2 hj, by rw [h]; simp⟩

set_option maxHeartbeats 2000000 in
theorem isName_any (b o c n : Nat) (ws : List ByteArray) (s : ByteArray) (w : World) (hs : s.size ≤ 100) (hl : ws.length = n) (hn : n ≤ 1000) (hc : Texts w b o ws)
    (hg : w.cell? ⟨1, 0, none⟩ = some (.slice (some ⟨b, o, none⟩) n c)) :
    Calls Tryd.prog 5 #[.string s] w fun e w' => e = .returned (.bool (refName ws s)) ∧ w' = w := by
  have hH := has_any b o c n ws s w hl hn hc
  clear hc
  go_enter Tryd.func5, Tryd.ntmps5
  go_wp2
  go_loop [3, 6] (fun _ i => ∃ k : Nat, k ≤ s.size ∧ i = .int .i64 k ∧ ∀ j, j < k → okAt s j = true) (fun _ i => s.size - (intOf i).toNat)
  case atStart => exact ⟨0, Nat.zero_le _, rfl, fun j hj => by omega⟩
  case round =>
    obtain ⟨k, hk, rfl, hall⟩ := hrel
    by_cases hlt : k < s.size
    · have hb : byteI s k = ((s[k]'hlt).toNat : Int) := by rw [byteI, dif_pos hlt]
      have hok : okAt s k = (letterB ((s[k]'hlt).toNat : Int) || (decide (k ≠ 0) && digitB ((s[k]'hlt).toNat : Int))) := by rw [okAt, hb]
      clear hb
      have hL : ∀ w, Calls Tryd.prog 9 #[.int .u8 ((s[k]'hlt).toNat : Int)] w fun e w' => e = .returned (.bool (letterB ((s[k]'hlt).toNat : Int))) ∧ w' = w := fun w => isLetter_any _ w
      have hD : ∀ w, Calls Tryd.prog 10 #[.int .u8 ((s[k]'hlt).toNat : Int)] w fun e w' => e = .returned (.bool (digitB ((s[k]'hlt).toNat : Int))) ∧ w' = w := fun w => isDigit_any _ w
      cases e1 : letterB ((s[k]'hlt).toNat : Int)
      · by_cases e2 : k = 0
        · subst e2
          rw [e1] at hok hL
          have hno := okAll_no hlt (hok.trans (by simp))
          go_wp2_with (go_at_call 9; refine (hL _).mono ?_; rintro e w' ⟨rfl, rfl⟩)
          go_ret
          exact ⟨by rw [refName, hno]; rfl, rfl⟩
        · have e3 : ((k : Int) == 0) = false := by simpa using e2
          cases e4 : digitB ((s[k]'hlt).toNat : Int)
          · rw [e1, e4] at hok
            rw [e1] at hL
            rw [e4] at hD
            have hno := okAll_no hlt (hok.trans (by simp))
            go_wp2_with (first | (go_at_call 9; refine (hL _).mono ?_; rintro e w' ⟨rfl, rfl⟩) | (go_at_call 10; refine (hD _).mono ?_; rintro e w' ⟨rfl, rfl⟩))
            go_ret
            exact ⟨by rw [refName, hno]; rfl, rfl⟩
          · rw [e1, e4] at hok
            rw [e1] at hL
            rw [e4] at hD
            go_wp2_with (first | (go_at_call 9; refine (hL _).mono ?_; rintro e w' ⟨rfl, rfl⟩) | (go_at_call 10; refine (hD _).mono ?_; rintro e w' ⟨rfl, rfl⟩))
            go_round
            case rel => exact ⟨k + 1, by omega, by go_num, fun j hj => by
              by_cases h1 : j = k
              · subst h1
                exact hok.trans (by simp [e2])
              · exact hall j (by omega)⟩
            case measure => simp [intOf]; omega
      · rw [e1] at hok hL
        go_wp2_with (go_at_call 9; refine (hL _).mono ?_; rintro e w' ⟨rfl, rfl⟩)
        go_round
        case rel => exact ⟨k + 1, by omega, by go_num, fun j hj => by
          by_cases h1 : j = k
          · subst h1
            exact hok.trans rfl
          · exact hall j (by omega)⟩
        case measure => simp [intOf]; omega
    · obtain rfl : k = s.size := by omega
      have hyes : okAll s = true := okAll_yes hall
      by_cases h0 : 0 < s.size
      · by_cases h1 : s.size ≤ 16
        · go_wp2_with (go_at_call 11; refine hH.mono ?_; rintro e w' ⟨rfl, rfl⟩)
          go_ret
          exact ⟨by rw [refName, hyes]; simp [h0, h1], rfl⟩
        · go_wp2
          go_ret
          exact ⟨by rw [refName, hyes]; simp [h1], rfl⟩
      · have h2 : s.size = 0 := by omega
        go_wp2
        go_ret
        exact ⟨by rw [refName, hyes]; simp [h2], rfl⟩

abbrev cutset : ByteArray := ⟨#[97, 98, 99, 100, 101, 102, 103, 104, 105, 106, 107, 108, 109, 110, 111, 112, 113, 114, 115, 116, 117, 118, 119, 120, 121, 122, 65, 66, 67, 68, 69, 70, 71, 72, 73, 74, 75, 76, 77, 78, 79, 80, 81, 82, 83, 84, 85, 86, 87, 88, 89, 90, 48, 49, 50, 51, 52, 53, 54, 55, 56, 57, 95]⟩
def cutOut (s : ByteArray) : ByteArray := ⟨(Lib.trimS s.data.toList cutset.data.toList).toArray⟩
def impName (ws : List ByteArray) (s : ByteArray) : Bool := decide (0 < s.size) && (decide (s.size ≤ 16) && (!digitB (byteI s 0) && ((cutOut s).toList.isEmpty && !hasB ws s)))

theorem cutOut_any (s : ByteArray) (w : World) (hs : s.size ≤ 100) : Calls Tryd.prog 7 #[.string s, .string cutset] w fun e w' => e = .returned (.string (cutOut s)) ∧ Below w.heap.size w w' := by
  have h := Any.strings_Trim_laid Tryd.lays160 (by kernel_rfl) s cutset w (by omega) (by decide) (ascii_of_all (by decide))
  change Calls Tryd.prog 7 _ _ (fun e w' => e = .returned (.string (cutOut s)) ∧ Below w.heap.size w w') at h
  exact h

set_option maxHeartbeats 2000000 in
theorem name_any (ws : List ByteArray) (s : ByteArray) (w : World) (hs : s.size ≤ 100) (hl : ws.length = 20) (hc : Texts w 0 0 ws) :
    Calls Tryd.prog 4 #[.string s] w fun e w' => e = .returned (.bool (impName ws s)) ∧ Below w.heap.size w w' := by
  by_cases h0 : 0 < s.size
  · have hb : byteI s 0 = ((s[0]'h0).toNat : Int) := by rw [byteI, dif_pos h0]
    have hemp : s.toList.isEmpty = false := by
      rw [Lib.toList_data]
      cases h : s.data.toList with
      | nil => have := Lib.size_eq s; rw [h, List.length_nil] at this; omega
      | cons _ _ => rfl
    have hD : ∀ w, Calls Tryd.prog 6 #[.int .u8 ((s[0]'h0).toNat : Int)] w fun e w' => e = .returned (.bool (digitB (byteI s 0))) ∧ w' = w := fun w => by rw [hb]; exact digit_any _ w
    clear hb
    have hT := cutOut_any s w hs
    have hC : ∀ w', Below w.heap.size w w' → Calls Tryd.prog 8 #[.slice (some ⟨0, 0, none⟩) 20 20, .string s] w' fun e w'' => e = .returned (.bool (hasB ws s)) ∧ w'' = w' := fun w' hB => contains_any _ 0 _ _ ws s w' hl (by omega) fun j x hx => by
      rw [hB.cell (World.block_lt_of_cell? _ _ (hc j x hx))]; exact hc j x hx
    clear hc
    unfold impName
    rw [decide_eq_true h0, Bool.true_and]
    by_cases h1 : s.size ≤ 16
    · rw [decide_eq_true h1, Bool.true_and]
      cases h2 : digitB (byteI s 0)
      · rw [h2] at hD
        generalize cutOut s = r at hT ⊢
        cases h3 : r.toList.isEmpty
        · go_enter Tryd.func4, Tryd.ntmps4
          go_wp2_with (first | (go_at_call 6; refine (hD _).mono ?_; rintro e w' ⟨rfl, rfl⟩) | (go_at_call 7; refine hT.mono ?_; rintro e w' ⟨rfl, hB⟩))
          go_ret
          exact ⟨rfl, hB⟩
        · go_enter Tryd.func4, Tryd.ntmps4
          go_wp2_with (first | (go_at_call 6; refine (hD _).mono ?_; rintro e w' ⟨rfl, rfl⟩) | (go_at_call 7; refine hT.mono ?_; rintro e w' ⟨rfl, hB⟩) | (go_at_call 8; refine (hC _ hB).mono ?_; rintro e w' ⟨rfl, rfl⟩))
          go_ret
          exact ⟨rfl, hB⟩
      · rw [h2] at hD
        go_enter Tryd.func4, Tryd.ntmps4
        go_wp2_with (go_at_call 6; refine (hD _).mono ?_; rintro e w' ⟨rfl, rfl⟩)
        go_ret
        exact ⟨rfl, Below.refl _ _⟩
    · rw [decide_eq_false h1, Bool.false_and]
      go_enter Tryd.func4, Tryd.ntmps4
      go_wp2
      go_ret
      exact ⟨rfl, Below.refl _ _⟩
  · have hemp : s.toList.isEmpty = true := by
      rw [Lib.toList_data]
      cases h : s.data.toList with
      | nil => rfl
      | cons _ _ => have := Lib.size_eq s; rw [h, List.length_cons] at this; omega
    go_enter Tryd.func4, Tryd.ntmps4
    go_wp2
    go_ret
    exact ⟨by simp [impName, h0], Below.refl _ _⟩

end Go.Proofs.YtfpjgbpkolmgkaaDoor.NamesB
