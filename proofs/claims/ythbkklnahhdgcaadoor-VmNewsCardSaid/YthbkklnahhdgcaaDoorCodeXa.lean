/-
  What check's loops keep, as one word; come, met there.
-/
import Derived.Test.YthbkklnahhdgcaaDoorCodeT
import Derived.Test.YthbkklnahhdgcaaDoorCodeU
import Derived.Test.YthbkklnahhdgcaaDoorCodeV
import Derived.Test.YthbkklnahhdgcaaDoorCodeW
namespace Go.Proofs.YthbkklnahhdgcaaDoor.CodeXa
open Go Go.Proofs Go.RowKit Lib CodeR CodeA CodeB CodeP CodeD CodeU CodeV CodeW

/-- Numbers that a machine's int holds. -/
def bOk (f : Fc) : Prop := ∀ x ∈ f.code, -9223372036854775808 ≤ x.b ∧ x.b ≤ 9223372036854775807

theorem right_verdict {m : Im} {f : Fc} {k : Nat} {x : I3} (hl : limB f = true) (hx : f.code[k]? = some x) (hr : rightB m f x = false) : Verdict m f 2 := by
  have hall : f.code.all (rightB m f) = false := by
    rw [Bool.eq_false_iff]
    intro h
    rw [List.all_eq_true] at h
    rw [h x (List.mem_of_getElem? hx)] at hr
    cases hr
  exact { lim := fun h => by (rw [hl] at h; cases h), right := fun _ _ => rfl, hand := fun _ _ _ => rfl, fit := fun _ h => by rw [hall] at h; cases h }
theorem hand_verdict {m : Im} {f : Fc} {k : Nat} {x : H3} (hl : limB f = true) (_hr : f.code.all (rightB m f) = true) (hx : f.hs[k]? = some x) (hb : handB f x = false) : Verdict m f 2 := by
  have hall : (f.hs.all (handB f) && f.vars.all (varB f)) = false := by
    rw [Bool.and_eq_false_iff]
    left
    rw [Bool.eq_false_iff]
    intro h
    rw [List.all_eq_true] at h
    rw [h x (List.mem_of_getElem? hx)] at hb
    cases hb
  exact { lim := fun h => by (rw [hl] at h; cases h), right := fun _ _ => rfl, hand := fun _ _ _ => rfl, fit := fun _ _ h => by rw [hall] at h; cases h }
theorem var_verdict {m : Im} {f : Fc} {k : Nat} {x : Vr} (hl : limB f = true) (_hr : f.code.all (rightB m f) = true) (hx : f.vars[k]? = some x) (hb : varB f x = false) : Verdict m f 2 := by
  have hall : (f.hs.all (handB f) && f.vars.all (varB f)) = false := by
    rw [Bool.and_eq_false_iff]
    right
    rw [Bool.eq_false_iff]
    intro h
    rw [List.all_eq_true] at h
    rw [h x (List.mem_of_getElem? hx)] at hb
    cases hb
  exact { lim := fun h => by (rw [hl] at h; cases h), right := fun _ _ => rfl, hand := fun _ _ _ => rfl, fit := fun _ _ h => by rw [hall] at h; cases h }
theorem end_verdict {m : Im} {f : Fc} {e : Int} (hl : limB f = true) (hr : f.code.all (rightB m f) = true) (hh : f.hs.all (handB f) = true) (hv : f.vars.all (varB f) = true) (he : (e = 0 ∧ ∃ d, Fits f d) ∨ (e = 3 ∧ ∀ d, ¬ Fits f d)) : Verdict m f e :=
  { lim := fun h => by (rw [hl] at h; cases h), right := fun _ h => by (rw [hr] at h; cases h), hand := fun _ _ h => by (rw [hh, hv] at h; cases h), fit := fun _ _ _ => he }

/-- What check's loops keep. -/
structure CI (w wz : World) (X ex dx tx da base fb fo : Nat) (deep : List Int) (todo : List Nat) (e : Int) (v : Value) : Prop where
  cs : CS wz X X ex dx tx da base (.pointer (some ⟨fb, fo, none⟩)) deep todo e v
  bel : Below X w wz
  big : base ≤ wz.heap.size

theorem CI.keep {w wz w' : World} {X ex dx tx da base fb fo : Nat} {deep : List Int} {todo : List Nat} {e : Int} {v : Value} (h : CI w wz X ex dx tx da base fb fo deep todo e v) (hb : Below wz.heap.size wz w') : CI w w' X ex dx tx da base fb fo deep todo e v :=
  ⟨h.cs.below hb, h.bel.trans (hb.mono (by have := h.cs.size; omega)), Nat.le_trans h.big hb.size⟩

theorem come_c {w wz : World} {X ex dx tx da base fb fo : Nat} {f : Fc} {pend : Nat → Prop} {deep : List Int} {todo : List Nat} {e : Int} {v : Value} (p : Nat) (n : Int)
    (h : CI w wz X ex dx tx da base fb fo deep todo e v) (hX : w.heap.size = X) (hf : Row w fb fo f.vals) (hfi : FcIn w f) (l2 : f.code.length ≤ 5000) (hp : PS f pend deep todo e) :
    Calls Tryd.prog 83 #[.int .i64 (p : Int), .int .i64 n, .pointer (some ⟨X, 0, none⟩), .pointer (some ⟨ex, 0, none⟩), .pointer (some ⟨dx, 0, none⟩), .pointer (some ⟨tx, 0, none⟩)] wz
      fun r w' => r = .returned (.tuple #[]) ∧ ∃ v', CI w w' X ex dx tx da base fb fo (comeD deep e p n).1 (nextT deep todo p n) (comeD deep e p n).2 v' ∧ Turned (Ws ex da tx v) wz w' := by
  have hl := hp.inv.len
  have hr := hp.room
  refine (come_any wz X X ex dx tx da base fb fo f deep todo e v p n h.cs (hf.below h.bel (Nat.le_of_eq hX)) (hfi.below h.bel (Nat.le_of_eq hX)) hl (by omega) (by omega) h.big).mono ?_
  rintro r w' ⟨rfl, v', h1, h2⟩
  refine ⟨rfl, v', ⟨h1, ?_, Nat.le_trans h.big h2.size⟩, h2⟩
  exact h.bel.trans (h.cs.under h2)

theorem below3 {B : Nat} {a w2 : World} (h : Below B a w2) (hB : B ≤ w2.heap.size) (o1 o2 o3 : Obj) : Below B a (((w2.alloc o1).alloc o2).alloc o3) := by
  refine (h.trans (below_alloc (below_alloc (below_alloc (Below.refl _ _) o1 hB) o2 ?_) o3 ?_))
  · exact hB
  · exact hB
/-- The boxes as check makes them. -/
theorem CS_start {w2 : World} {X da n : Nat} {F : Value} (hX : w2.heap[X]? = some (.cells #[F] 116 (0, 0))) (hda : w2.heap[da]? = some (.cells (List.replicate n (Value.int .i64 (-1))).toArray 3 (0, 0))) (hXd : X < da) :
    CS (((w2.alloc (.cells #[.slice (some ⟨da, 0, none⟩) n n] 52)).alloc (.cells #[.slice none 0 0] 52)).alloc (.cells #[.int .i64 0] 35)) X X (w2.heap.size + 1 + 1) w2.heap.size (w2.heap.size + 1) da (w2.heap.size + 3) F (List.replicate n (-1)) [] 0 (.slice none 0 0) := by
  have h1 := lt_of_block hX
  have h2 := lt_of_block hda
  have old : ∀ k, k < w2.heap.size → (((w2.alloc (.cells #[.slice (some ⟨da, 0, none⟩) n n] 52)).alloc (.cells #[.slice none 0 0] 52)).alloc (.cells #[.int .i64 0] 35)).heap[k]? = w2.heap[k]? := by
    intro k hk
    rw [Below.heap_alloc _ _ _ (by simp; omega), Below.heap_alloc _ _ _ (by simp; omega), Below.heap_alloc _ _ _ hk]
  refine { fbox := (old _ h1).trans hX, ebox := ?_, dbox := ?_, darr := ?_, tbox := ?_, own := World.ownsRow_nil _ _ _ _, low := by omega, high := by omega, fe := by omega, fd := by omega, ft := by omega, ed := by omega, et := by omega, edx := by omega, dd := by omega, dt := by omega, at' := by omega }
  · have := heap_alloc_new ((w2.alloc (.cells #[.slice (some ⟨da, 0, none⟩) n n] 52)).alloc (.cells #[.slice none 0 0] 52)) (.cells #[.int .i64 0] 35)
    simpa using this
  · rw [Below.heap_alloc _ _ _ (by simp; omega), Below.heap_alloc _ _ _ (by simp)]
    simpa using heap_alloc_new w2 (.cells #[.slice (some ⟨da, 0, none⟩) n n] 52)
  · rw [List.map_replicate]
    exact (old _ h2).trans hda
  · rw [Below.heap_alloc _ _ _ (by simp)]
    simpa using heap_alloc_new (w2.alloc (.cells #[.slice (some ⟨da, 0, none⟩) n n] 52)) (.cells #[.slice none 0 0] 52)
end Go.Proofs.YthbkklnahhdgcaaDoor.CodeXa
