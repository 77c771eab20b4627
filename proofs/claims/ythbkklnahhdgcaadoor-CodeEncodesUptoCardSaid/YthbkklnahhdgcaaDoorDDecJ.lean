/-
  Package code's Decode at any bytes.
-/
import Derived.Test.YthbkklnahhdgcaaDoorDDecI
namespace Go.Proofs.YthbkklnahhdgcaaDoor.DecJ
open Go Go.Proofs Go.RowKit Lib CodeR CodeA CodeB CodeD CodeP CodeQ CodeS CodeL CodeI EncA EncB DecA DecB DecC DecD DecG DecI CodeO ErrC ErrD

theorem str_ne {s : ByteArray} (h : ¬ s = ⟨#[82, 87, 78, 68]⟩) : (s.toList == [82, 87, 78, 68]) = false := by
  rw [ByteArray.toList_eq]
  cases hc : (s.data.toList == [82, 87, 78, 68]) with
  | false => rfl
  | true =>
    have h1 : s.data.toList = [82, 87, 78, 68] := by simpa using hc
    exact absurd (show s = ⟨#[82, 87, 78, 68]⟩ from by
      cases s with
      | mk d =>
        cases d with
        | mk l =>
          have h2 : l = [82, 87, 78, 68] := h1
          rw [h2]) h

/-- What Decode answers, at the bytes L. -/
def DecAns (L : List UInt8) (r : Ending) (w' : World) : Prop :=
  (100000 < L.length ∧ r = .returned (.tuple #[.pointer none, .iface 35 (.int .i64 4)])) ∨
  (L.length ≤ 100000 ∧ ¬ DecI.Good L ∧ r = .returned (.tuple #[.pointer none, .iface 35 (.int .i64 3)])) ∨
  (L.length ≤ 100000 ∧ DecI.Good L ∧ ∃ m ib e p v, ImSame (imP L 4 false).1 m ∧ Row w' ib 0 m.vals ∧ ImIn w' m ∧ ImVerdict m e p ∧ ErrIs w' v e p ∧ ((e ≠ 0 ∧ r = .returned (.tuple #[.pointer none, v])) ∨ (e = 0 ∧ r = .returned (.tuple #[.pointer (some ⟨ib, 0, none⟩), .nilIface]))))

set_option maxRecDepth 100000 in
set_option maxHeartbeats 3200000 in
theorem Decode_any (oa : Option Addr) (c : Nat) (L : List UInt8) (w : World) (hc : L.length ≤ c) (hrow : ∀ (k : Nat) (x : UInt8), L[k]? = some x → ∃ b o, oa = some ⟨b, o, none⟩ ∧ w.cell? ⟨b, o + k, none⟩ = some (bv x)) :
    Calls Tryd.prog 27 #[.slice oa L.length c] w fun r w' => Below w.heap.size w w' ∧ DecAns L r w' := by
  by_cases hL : L.length ≤ 100000
  · have d1 : decide ((100000 : Int) < (L.length : Int)) = false := by simp; omega
    by_cases h4 : 4 ≤ L.length
    · by_cases hh : sub L 0 4 = ⟨#[82, 87, 78, 68]⟩
      · refine (Decode_head oa c L w hL hc hrow h4 hh).mono ?_
        rintro r w' ⟨h1, h2⟩
        refine ⟨h1, Or.inr ?_⟩
        rcases h2 with ⟨h2, h3⟩ | ⟨h2, h3⟩
        · exact Or.inl ⟨hL, h2, h3⟩
        · exact Or.inr ⟨hL, h2, h3⟩
      · have hcv := conv4 w oa L c h4 hrow
        have d2 : decide ((L.length : Int) < 4) = false := by simp; omega
        have d3 : 4 ≤ c := by omega
        have hng : ¬ DecI.Good L := fun h => hh h.head
        have hg : Aside (¬ DecI.Good L) := hng
        have hne : (ByteArray.toList (sub L 0 4) == [82, 87, 78, 68]) = false := str_ne hh
        generalize sub L 0 4 = s4 at *
        clear hng
        go_enter Tryd.func27, Tryd.ntmps27
        go_wp2
        refine bodyPost_ret (results_tmp2 Tryd.results27 _ _ _) rfl ?_
        exact ⟨Below.refl _ _, Or.inr (Or.inl ⟨hL, hg.out, rfl⟩)⟩
    · have d2 : decide ((L.length : Int) < 4) = true := by simp; omega
      have hng : ¬ DecI.Good L := fun h => by
        have h1 := congrArg ByteArray.size h.head
        have h2 : (sub L 0 4).size = min 4 L.length := by
          show ((L.drop 0).take 4).toArray.size = _
          simp
        rw [h2] at h1
        have h3 : (⟨#[82, 87, 78, 68]⟩ : ByteArray).size = 4 := rfl
        omega
      have hg : Aside (¬ DecI.Good L) := hng
      clear hng
      go_enter Tryd.func27, Tryd.ntmps27
      go_wp2
      refine bodyPost_ret (results_tmp2 Tryd.results27 _ _ _) rfl ?_
      exact ⟨Below.refl _ _, Or.inr (Or.inl ⟨hL, hg.out, rfl⟩)⟩
  · have d1 : decide ((100000 : Int) < (L.length : Int)) = true := by simp; omega
    go_enter Tryd.func27, Tryd.ntmps27
    go_wp2
    refine bodyPost_ret (results_tmp2 Tryd.results27 _ _ _) rfl ?_
    exact ⟨Below.refl _ _, Or.inl ⟨by omega, rfl⟩⟩
end Go.Proofs.YthbkklnahhdgcaaDoor.DecJ
