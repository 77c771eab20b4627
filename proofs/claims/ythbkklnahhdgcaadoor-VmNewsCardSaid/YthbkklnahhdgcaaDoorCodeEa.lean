/-
  Contracts of the document's within, and of effect's closure text.
-/
import Derived.Test.YthbkklnahhdgcaaDoorCodeB
namespace Go.Proofs.YthbkklnahhdgcaaDoor.CodeEa
open Go Go.Proofs Go.RowKit Lib CodeR CodeA CodeB

theorem within_any (n lo hi : Int) (w : World) : Calls Tryd.prog 42 #[.int .i64 n, .int .i64 lo, .int .i64 hi] w fun e w' => e = .returned (.bool (CodeR.within n lo hi)) ∧ w' = w := by
  unfold CodeR.within
  by_cases h : lo ≤ n
  · have h0 : decide (lo ≤ n) = true := by simpa using h
    go_enter Tryd.func42, Tryd.ntmps42
    go_wp2
    go_ret
    exact ⟨by simp [h], rfl⟩
  · have h0 : decide (lo ≤ n) = false := by simpa using h
    go_enter Tryd.func42, Tryd.ntmps42
    go_wp2
    go_ret
    exact ⟨by simp, rfl⟩

set_option maxHeartbeats 1000000 in
theorem rtext_any (mb mo bx : Nat) (m : Im) (k : Int) (w : World) (hm : Row w mb mo m.vals) (hi : ImIn w m) (hb : w.cell? ⟨bx, 0, none⟩ = some (.pointer (some ⟨mb, mo, none⟩))) :
    Calls Tryd.prog 102 #[.int .i64 k, .pointer (some ⟨bx, 0, none⟩)] w fun e w' => e = .returned (.bool (m.textB k)) ∧ w' = w := by
  obtain ⟨_, c1, _⟩ := im_cells hm
  have hl := hi.consts.len
  have hs := hi.consts.small
  have ha := hi.consts.addr
  have hr := hi.consts.row
  clear hm hi
  rw [List.length_map] at hl
  unfold Sl.val at c1
  generalize hS : m.constsS = S at *
  obtain ⟨oa, n, c, b, o⟩ := S
  simp only at hl hs ha hr c1
  have hsm : m.consts.length ≤ 9223372036854775807 := by omega
  have hw := within_any k 0 ((m.consts.length : Int) - 1)
  cases hin : CodeR.within k 0 ((m.consts.length : Int) - 1)
  · rw [hin] at hw
    have ht : m.textB k = false := by
      simp only [Im.textB]
      rw [hin]
      rfl
    rw [ht]
    clear ht hr hin
    go_enter Tryd.func102, Tryd.ntmps102
    go_wp2_with (go_at_call 42; refine (hw _).mono ?_; rintro e w1 ⟨rfl, hw1⟩; rw [hw1]; clear hw1)
    go_ret
    exact ⟨rfl, rfl⟩
  · rw [hin] at hw
    have hin' : 0 ≤ k ∧ k < (n : Int) := by simp [CodeR.within] at hin; omega
    obtain ⟨h0, h1⟩ := hin'
    obtain ⟨x, hx⟩ := get_of_lt (l := m.consts) h0 (by omega)
    obtain rfl := ha (by omega)
    have hrow := hr k.toNat x.vals (by rw [List.getElem?_map, hx]; rfl)
    have hc := hrow 0 _ rfl
    simp only [Nat.add_zero] at hc
    have ht : m.textB k = x.text := by
      simp only [Im.textB, hx]
      rw [hin]
      rfl
    rw [ht]
    clear ht hr hrow hin
    go_enter Tryd.func102, Tryd.ntmps102
    go_wp2_with (go_at_call 42; refine (hw _).mono ?_; rintro e w1 ⟨rfl, hw1⟩; rw [hw1]; clear hw1)
    go_ret
    exact ⟨rfl, rfl⟩
/-! ### effect's six results -/
def toI (x : I3) : Int := match goI x with | some (a, _) => a | none => -1
def thereI (x : I3) : Int := match goI x with | some (_, k) => k | none => 0
/-- What effect returns: is it right; if so, how many it takes, leaves, where else it goes, what it leaves there, does it go on. -/
def EffR (m : Im) (f : Fc) (x : I3) (e : Ending) : Prop :=
  ∃ (tk lv to th : Int) (on : Bool), e = .returned (.tuple #[.bool (rightB m f x), .int .i64 tk, .int .i64 lv, .int .i64 to, .int .i64 th, .bool on]) ∧ (rightB m f x = true → tk = takeI x ∧ lv = leaveI x ∧ to = toI x ∧ th = thereI x ∧ on = !endsB x.op)
theorem results_tmp6 {fn : Func} {a b c d e g : Tmp} (h : fn.results = #[.tmp a, .tmp b, .tmp c, .tmp d, .tmp e, .tmp g]) (tmps : Array Value) (P : Program) (w : World) :
    (results fn tmps).run P w = .ok (.tuple #[tmps.getD a undef, tmps.getD b undef, tmps.getD c undef, tmps.getD d undef, tmps.getD e undef, tmps.getD g undef]) w := by
  simp [results, h]
theorem alloc3_cell {w : World} {b o : Nat} {v : Value} (h : w.cell? ⟨b, o, none⟩ = some v) (o1 o2 o3 : Obj) : (((w.alloc o1).alloc o2).alloc o3).cell? ⟨b, o, none⟩ = some v :=
  alloc_cell (alloc_cell (alloc_cell h o1) o2) o3
theorem below_alloc3 {B : Nat} {a w2 : World} (h : Below B a w2) (hB : B ≤ a.heap.size) (o1 o2 o3 : Obj) : Below B a (((w2.alloc o1).alloc o2).alloc o3) :=
  below_alloc (below_alloc (below_alloc h o1 hB) o2 hB) o3 hB
end Go.Proofs.YthbkklnahhdgcaaDoor.CodeEa
