/-
  The law rewindlaw.SyntaxNames: what syntax.Name says is what rewindref.IsName says (plain law), and the walk of the law.
-/
import Derived.Test.YtfpjgbpkolmgkaaDoorNamesB
namespace Go.Proofs.YtfpjgbpkolmgkaaDoor.Names
open Go Go.Proofs Go.RowKit Go.Shelf NamesA NamesB

theorem inSet (b : UInt8) : cutset.data.toList.contains b = (letterB (b.toNat : Int) || digitB (b.toNat : Int)) := by
  have h : ∀ n : Fin 256, cutset.data.toList.contains (UInt8.ofNat n.val) = (letterB (n.val : Int) || digitB (n.val : Int)) := by decide +kernel
  have := h ⟨b.toNat, b.toNat_lt⟩
  simpa using this

theorem notLetter_of_digit (c : Int) (h : digitB c = true) : letterB c = false := by
  simp only [digitB, Bool.and_eq_true, decide_eq_true_eq] at h
  simp [letterB]
  omega

theorem dropWhile_head {p : UInt8 → Bool} : ∀ {l : List UInt8} {a : UInt8} {r : List UInt8}, l.dropWhile p = a :: r → p a = false
  | [], _, _, h => by cases h
  | x :: l, a, r, h => by
    simp only [List.dropWhile] at h
    split at h
    · exact dropWhile_head h
    · rename_i hx
      cases h
      exact hx

theorem dropWhile_nil {p : UInt8 → Bool} : ∀ {l : List UInt8}, l.dropWhile p = [] ↔ ∀ a ∈ l, p a = true
  | [] => by simp
  | x :: l => by
    simp only [List.dropWhile]
    split
    · rename_i hx
      rw [dropWhile_nil]
      simp [hx]
    · rename_i hx
      simp [hx]

theorem trimS_nil (l cs : List UInt8) : Lib.trimS l cs = [] ↔ ∀ b ∈ l, cs.contains b = true := by
  unfold Lib.trimS Lib.trimLeftS Lib.trimRightS
  rw [dropWhile_nil]
  constructor
  · intro h
    have : l.reverse.dropWhile (cs.contains ·) = [] := by
      cases hd : l.reverse.dropWhile (cs.contains ·) with
      | nil => rfl
      | cons a r =>
        have h1 : cs.contains a = false := dropWhile_head hd
        have h2 := h a (by rw [List.mem_reverse, hd]; exact List.mem_cons_self)
        rw [h1] at h2
        cases h2
    intro b hb
    exact dropWhile_nil.1 this b (List.mem_reverse.2 hb)
  · intro h a ha
    have : l.reverse.dropWhile (cs.contains ·) = [] := dropWhile_nil.2 fun b hb => h b (List.mem_reverse.1 hb)
    rw [this] at ha
    cases ha

theorem getElem_data (s : ByteArray) (j : Nat) (h : j < s.size) : s.data.toList[j]? = some s[j] := by
  have hj : j < s.data.toList.length := by rw [← Lib.size_eq]; exact h
  rw [List.getElem?_eq_getElem hj]
  rfl

theorem cutOut_empty (s : ByteArray) : (cutOut s).toList.isEmpty = true ↔ ∀ j, j < s.size → (letterB (byteI s j) || digitB (byteI s j)) = true := by
  rw [Lib.toList_data, cutOut]
  rw [List.isEmpty_iff, trimS_nil]
  constructor
  · intro h j hj
    have := h s[j] (List.mem_of_getElem? (getElem_data s j hj))
    rw [inSet] at this
    rw [byteI, dif_pos hj]
    exact this
  · intro h b hb
    obtain ⟨j, hj⟩ := List.mem_iff_getElem?.1 hb
    have hlt : j < s.size := by
      have := (List.getElem?_eq_some_iff.1 hj).1
      rw [Lib.size_eq]; exact this
    rw [getElem_data s j hlt] at hj
    obtain rfl := Option.some.inj hj
    have := h j hlt
    rw [byteI, dif_pos hlt] at this
    rw [inSet]
    exact this

theorem plain (ws : List ByteArray) (s : ByteArray) : impName ws s = refName ws s := by
  unfold impName refName
  by_cases h0 : 0 < s.size
  · have key : okAll s = (!digitB (byteI s 0) && (cutOut s).toList.isEmpty) := by
      rw [Bool.eq_iff_iff, Bool.and_eq_true, cutOut_empty, okAll, List.all_eq_true]
      constructor
      · intro h
        refine ⟨?_, fun j hj => ?_⟩
        · have := h 0 (List.mem_range.2 h0)
          simp only [okAt, ne_eq, not_true_eq_false, decide_false, Bool.false_and, Bool.or_false] at this
          cases hd : digitB (byteI s 0)
          · rfl
          · rw [notLetter_of_digit _ hd] at this; cases this
        · have := h j (List.mem_range.2 hj)
          simp only [okAt, Bool.or_eq_true, Bool.and_eq_true] at this ⊢
          rcases this with h1 | h1
          · exact .inl h1
          · exact .inr h1.2
      · rintro ⟨hd, h⟩ j hj
        have := h j (List.mem_range.1 hj)
        by_cases hj0 : j = 0
        · subst hj0
          simp only [Bool.not_eq_true'] at hd
          rw [hd] at this
          simpa [okAt] using this
        · simp only [okAt, ne_eq, hj0, not_false_eq_true, decide_true, Bool.true_and]
          exact this
    rw [key]
    cases decide (0 < s.size) <;> cases decide (s.size ≤ 16) <;> cases digitB (byteI s 0) <;> cases (cutOut s).toList.isEmpty <;> rfl
  · simp [h0]

set_option maxHeartbeats 1000000 in
theorem law (b o c : Nat) (ws : List ByteArray) (s : ByteArray) (w : World) (hl : ws.length = 20) (hc0 : Texts w 0 0 ws) (hc1 : Texts w b o ws)
    (hg : w.cell? ⟨1, 0, none⟩ = some (.slice (some ⟨b, o, none⟩) 20 c)) :
    Calls Tryd.prog 3 #[.string s] w fun e w' => e = .returned (.bool true) ∧ Below w.heap.size w w' := by
  by_cases h0 : s.size ≤ 50
  · have hN := name_any ws s w (by omega) hl hc0
    have hI : ∀ w', Below w.heap.size w w' → Calls Tryd.prog 5 #[.string s] w' fun e w'' => e = .returned (.bool (impName ws s)) ∧ w'' = w' := fun w' hB => by
      rw [plain]
      exact isName_any b o c 20 ws s w' (by omega) hl (by omega) (fun j x hx => by rw [hB.cell (World.block_lt_of_cell? _ _ (hc1 j x hx))]; exact hc1 j x hx) (by rw [hB.cell (World.block_lt_of_cell? _ _ hg)]; exact hg)
    clear hc0 hc1 hg
    generalize impName ws s = r at hN hI
    go_enter Tryd.func3, Tryd.ntmps3
    go_wp2_with (first | (go_at_call 4; refine hN.mono ?_; rintro e w' ⟨rfl, hB⟩) | (go_at_call 5; refine (hI _ hB).mono ?_; rintro e w' ⟨rfl, rfl⟩))
    go_ret
    exact ⟨by simp, hB⟩
  · go_enter Tryd.func3, Tryd.ntmps3
    go_wp2
    go_ret
    exact ⟨rfl, Below.refl _ _⟩
end Go.Proofs.YtfpjgbpkolmgkaaDoor.Names
