/-
  A set of pointers to values in memory (a map from pointers to truths); a root that was moved already, or not.
-/
import Derived.Test.YthbkklnahhdgcaaMChX
import Derived.LaidEql
namespace Go.Proofs.Ythbkklnahhdgcaa.ChYa
open Go Go.Proofs Go.RowKit Go.Maps Go.Proofs.Ythbkklnahhdgcaa.Lib Go.Proofs.Ythbkklnahhdgcaa.HeapR Go.Proofs.Ythbkklnahhdgcaa.ChA Go.Proofs.Ythbkklnahhdgcaa.ChCa Go.Proofs.Ythbkklnahhdgcaa.ChD Go.Proofs.Ythbkklnahhdgcaa.ChF Go.Proofs.Ythbkklnahhdgcaa.ChJ

def ptr (a : Nat × Nat) : Value := .pointer (some ⟨a.1, a.2, none⟩)
/-- A map whose keys are these pointers, each with true. -/
def PSet (w : World) (b : Nat) (l : List (Nat × Nat)) : Prop := ∃ es clock, w.heap[b]? = some (.map es clock) ∧ es.toList.map (fun e => e.key) = l.map ptr ∧ ∀ e ∈ es.toList, e.val = .bool true
theorem pset_made (w : World) : PSet (w.alloc (.map #[] 0)) w.heap.size [] := ⟨#[], 0, heap_alloc_last w _, rfl, fun e he => by cases he⟩
theorem PSet.same {w w' : World} {b : Nat} {l : List (Nat × Nat)} (h : PSet w b l) (e : w'.heap[b]? = w.heap[b]?) : PSet w' b l := by
  obtain ⟨es, clock, h1, h2⟩ := h
  exact ⟨es, clock, e.trans h1, h2⟩
theorem PSet.lt {w : World} {b : Nat} {l : List (Nat × Nat)} (h : PSet w b l) : b < w.heap.size := by
  obtain ⟨es, clock, h1, _⟩ := h
  exact lt_of_block h1

theorem infoValue : (Try.prog.info? 34).map (fun i => (i.zero, i.size, i.bytes)) = some (some (.agg #[.int .i64 0, .int .i64 0, .string ByteArray.empty]), 3, 32) := by kernel_rfl

theorem equal_ptr {a b : Nat × Nat} {w : World} (ha : ∃ c t, w.heap[a.1]? = some (.cells c t (0, 0))) (hb : ∃ c t, w.heap[b.1]? = some (.cells c t (0, 0))) : (Op.equal 40 (ptr a) (ptr b)).run Try.prog w = .ok (decide (a = b)) w := by
  obtain ⟨ca, ta, ha⟩ := ha
  obtain ⟨cb, tb, hb⟩ := hb
  obtain ⟨i0, hi, hz0, hz1, hz2⟩ := info_parts infoValue
  by_cases h : a = b
  · subst h
    have h1 := run_sameAddr_same (P := Try.prog) w ⟨a.1, a.2, none⟩
    have key : ∀ d : Nat, (Op.equalIn (d + 1) 40 (ptr a) (ptr a)).run Try.prog w = .ok true w := fun d => by
      simp [Op.equalIn, run_underlying Try.underlying40, ptr, sizeOf, typeInfo, hi, hz1, h1]
    rw [decide_eq_true rfl]
    exact key 9999
  · have hne : (⟨a.1, a.2, none⟩ : Addr) ≠ ⟨b.1, b.2, none⟩ := fun e => by
      simp only [Addr.mk.injEq] at e
      exact h (Prod.ext e.1 e.2.1)
    have h1 := run_sameAddr_other (P := Try.prog) w hne ha hb
    have key : ∀ d : Nat, (Op.equalIn (d + 1) 40 (ptr a) (ptr b)).run Try.prog w = .ok false w := fun d => by
      simp [Op.equalIn, run_underlying Try.underlying40, ptr, sizeOf, typeInfo, hi, hz1, h1]
    rw [decide_eq_false h]
    exact key 9999

theorem find_ptr {w : World} {a : Nat × Nat} (ha : ∃ c t, w.heap[a.1]? = some (.cells c t (0, 0))) : ∀ (es : List MapEntry) (l : List (Nat × Nat)) (i : Nat), es.map (fun e => e.key) = l.map ptr → (∀ b ∈ l, ∃ c t, w.heap[b.1]? = some (.cells c t (0, 0))) → (∀ e ∈ es, e.val = .bool true) →
    (a ∈ l ∧ ∃ j, (Instr.findAsking 40 (ptr a) es i).run Try.prog w = .ok (some (j, .bool true)) w) ∨ (a ∉ l ∧ (Instr.findAsking 40 (ptr a) es i).run Try.prog w = .ok none w) := by
  intro es
  induction es with
  | nil =>
    intro l i hl _ _
    cases l with
    | nil => exact Or.inr ⟨List.not_mem_nil, by simp [Instr.findAsking]⟩
    | cons b l => cases hl
  | cons e es ih =>
    intro l i hl hb hv
    cases l with
    | nil => cases hl
    | cons b l =>
      rw [List.map_cons, List.map_cons] at hl
      injection hl with h1 h2
      have he := equal_ptr ha (hb b (List.mem_cons_self ..))
      rw [← h1] at he
      by_cases hab : a = b
      · refine Or.inl ⟨by rw [hab]; exact List.mem_cons_self .., i, ?_⟩
        rw [decide_eq_true hab] at he
        simp [Instr.findAsking, he, hv e (List.mem_cons_self ..)]
      · rw [decide_eq_false hab] at he
        rcases ih l (i + 1) h2 (fun x hx => hb x (List.mem_cons_of_mem _ hx)) (fun x hx => hv x (List.mem_cons_of_mem _ hx)) with ⟨g1, j, g2⟩ | ⟨g1, g2⟩
        · exact Or.inl ⟨List.mem_cons_of_mem _ g1, j, by simp [Instr.findAsking, he, g2]⟩
        · refine Or.inr ⟨fun h' => ?_, by simp [Instr.findAsking, he, g2]⟩
          rcases List.mem_cons.mp h' with h' | h'
          · exact hab h'
          · exact g1 h'
theorem find_key {w : World} {a : Nat × Nat} {es : List MapEntry} {l : List (Nat × Nat)} (h : es.map (fun e => e.key) = l.map ptr) : (Instr.findKey 40 (ptr a) es).run Try.prog w = (Instr.findAsking 40 (ptr a) es 0).run Try.prog w := by
  unfold Instr.findKey
  cases es with
  | nil => simp [run_underlying Try.underlying40, Instr.findNow, Instr.findAsking]
  | cons e es =>
    have h1 : Instr.sameNow (.pointer 34) (ptr a) e.key = none := rfl
    simp [run_underlying Try.underlying40, Instr.findNow, h1]
theorem check_ptr {w : World} {a : Nat × Nat} (em : Bool) : (Instr.checkKey em 10000 40 (ptr a)).run Try.prog w = .ok () w := by
  have key : ∀ d : Nat, (Instr.checkKey em (d + 1) 40 (ptr a)).run Try.prog w = .ok () w := fun d => by
    simp [Instr.checkKey, run_underlying Try.underlying40, ptr]
  exact key 9999

theorem pset_look {w : World} {b : Nat} {l : List (Nat × Nat)} {a : Nat × Nat} (h : PSet w b l) (ha : ∃ c t, w.heap[a.1]? = some (.cells c t (0, 0))) (hl : ∀ b ∈ l, ∃ c t, w.heap[b.1]? = some (.cells c t (0, 0))) :
    (Instr.lookup 70 (.map (some b)) (.pointer (some ⟨a.1, a.2, none⟩)) false).run Try.prog w = .ok (.bool (decide (a ∈ l))) w := by
  obtain ⟨es, clock, h1, h2, h3⟩ := h
  have hz : (zeroValue 4).run Try.prog w = .ok (.bool false) w := by kernel_rfl
  have hc := fun em => check_ptr (w := w) (a := a) em
  have hf := find_key (w := w) (a := a) h2
  unfold ptr at hc hf
  rcases find_ptr ha es.toList l 0 h2 hl h3 with ⟨g1, j, g2⟩ | ⟨g1, g2⟩
  · unfold ptr at g2
    rw [g2] at hf
    simp [Instr.lookup, run_underlying Try.underlying70, MapKept.run_getObj_map h1, hc, hf, g1]
  · unfold ptr at g2
    rw [g2] at hf
    simp [Instr.lookup, run_underlying Try.underlying70, MapKept.run_getObj_map h1, hc, hf, g1, hz]
theorem pset_put {w : World} {b : Nat} {l : List (Nat × Nat)} {a : Nat × Nat} (h : PSet w b l) (ha : ∃ c t, w.heap[a.1]? = some (.cells c t (0, 0))) (hl : ∀ b ∈ l, ∃ c t, w.heap[b.1]? = some (.cells c t (0, 0))) (hn : a ∉ l) :
    ∃ w', (Instr.mapUpdate 70 (.map (some b)) (.pointer (some ⟨a.1, a.2, none⟩)) (.bool true)).run Try.prog w = .ok () w' ∧ PSet w' b (l ++ [a]) ∧ w.grownBy w' (some b) := by
  obtain ⟨es, clock, h1, h2, h3⟩ := h
  have hc := fun em => check_ptr (w := w) (a := a) em
  have hf := find_key (w := w) (a := a) h2
  unfold ptr at hc hf
  rcases find_ptr ha es.toList l 0 h2 hl h3 with ⟨g1, j, g2⟩ | ⟨g1, g2⟩
  · exact absurd g1 hn
  · unfold ptr at g2
    rw [g2] at hf
    refine ⟨ChangeMaps.setBlock w b (.map (es.push ⟨ptr a, .bool true, clock⟩) (clock + 1)), ?_, ⟨_, _, ChangeMaps.heap_setBlock_same h1 _, ?_, ?_⟩, ⟨rfl, rfl, rfl, by simp [ChangeMaps.setBlock], fun i _ hi => ChangeMaps.heap_setBlock_other h1 _ (fun e => hi (by rw [e]))⟩⟩
    · simp [Instr.mapUpdate, run_underlying Try.underlying70, MapKept.run_getObj_map h1, hc, hf, MapKept.run_setObj_map _ h1, ptr]
      rfl
    · simp [h2, ptr]
    · intro e he
      rw [Array.toList_push] at he
      rcases List.mem_append.mp he with he | he
      · exact h3 e he
      · have : e = ⟨ptr a, .bool true, clock⟩ := by simpa using he
        rw [this]
end Go.Proofs.Ythbkklnahhdgcaa.ChYa
