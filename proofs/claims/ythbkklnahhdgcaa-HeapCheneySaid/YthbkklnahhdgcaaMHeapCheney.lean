/-
  What is proved: whatever lists of sizes, links and collections rewindkeep.HeapCheney is called with, it answers true, and the lists read as before. Conditions: none.
-/
import Derived.Test.YthbkklnahhdgcaaRows
import Derived.Test.YthbkklnahhdgcaaMChTn
import Derived.ChangeSame
import Derived.JoinedOf
import Derived.RowKit
import Derived.ProofKit
import Derived.OpenShut
import Derived.Carry
namespace Go.Proofs.Ythbkklnahhdgcaa.HeapCheney
open Go Go.ChangeShapes Go.WideShapes Go.ChangeAt Go.RowKit

theorem own : ownKnob Try.prog.godebug = none := by kernel_rfl
theorem recInts : Try.prog.readableRec 22 = true := by kernel_rfl
theorem rowInts : (22 : TypeId) < Try.prog.types.size := of_decide_eq_true (by kernel_rfl)
theorem laidOut' : laidOutB Try.prog = true := by kernel_rfl
section
variable {H : Type} {enc : TypeId × Value → H} {w : World}
theorem stays {t : TypeId} (hr : Try.prog.readableRec t = true) (hrow : t < Try.prog.types.size) {W W' : World} {sp' : Nat → Bool} {n : Nat} {cs : List Value} {x : DataW H × List MemPlace} (h : DataW.trod enc Try.prog W 0 (fun _ => true) true n t cs = some x)
    (hsame : ∀ p ∈ x.2, W.sameAt W' p) (hs : ∀ p ∈ x.2, sp' p.block = true) : DataW.trod enc Try.prog W' 0 sp' true n t cs = some x :=
  DataW.trod_stays (kids_book laidOut' hr) (book_sized hr) (fun h => by cases h) ⟨hrow, book_self t⟩ h hsame hs

/-- A list of numbers that came in. -/
theorem open_nums {fuel : Nat} {v : Value} {x : DataW H × List MemPlace} (h : DataW.trod enc Try.prog w 0 (fun _ => true) true fuel 22 [v] = some x) :
    ∃ (oa : Option Addr) (b o c : Nat) (zs : List Int), v = .slice oa zs.length c ∧ (0 < zs.length → oa = some ⟨b, o, none⟩) ∧ ∀ (i : Nat) (z : Int), zs[i]? = some z → w.cell? ⟨b, o + i, none⟩ = some (.int .i64 z) := by
  rcases open_ints Try.underlying22 Try.underlying3 (by kernel_rfl) h with ⟨e, _⟩ | ⟨a, len, cap, zs, e, _, hl, _, hz, _, hc, _⟩
  · simp only [List.cons.injEq, and_true] at e
    exact ⟨none, 0, 0, 0, [], e, fun h => absurd h (Nat.lt_irrefl 0), fun i z h => by simp at h⟩
  · simp only [List.cons.injEq, and_true] at e
    simp only [if_true] at hz
    obtain ⟨b, o, spot⟩ := a
    have hlen : (zs.take len).length = len := by rw [List.length_take]; omega
    have hspot : 0 < len → spot = none := fun hp => by
      have g := hc 0 (by omega)
      simpa [Addr.add] using World.cell?_spot g
    refine ⟨some ⟨b, o, spot⟩, b, o, cap, zs.take len, by rw [hlen]; exact e, fun hp => by rw [hspot (by omega)], fun i z hi => ?_⟩
    have hil := (List.getElem?_eq_some_iff.1 hi).1
    obtain rfl := hspot (by omega)
    have g := hc i (by omega)
    rw [List.getElem?_take, if_pos (by omega)] at hi
    rw [List.getD, hi] at g
    unfold Addr.add at g
    split at g
    · rename_i h0
      subst h0
      exact g
    · exact g
end

/-- The law, whatever lists came in. -/
theorem law (sizes links l : List Int) (oa0 oa1 oa2 : Option Addr) (c0 c1 c2 a0 o0 a1 o1 a2 o2 : Nat) (w : World)
    (k0 : 0 < sizes.length → oa0 = some ⟨a0, o0, none⟩) (k1 : 0 < links.length → oa1 = some ⟨a1, o1, none⟩) (k2 : 0 < l.length → oa2 = some ⟨a2, o2, none⟩)
    (q0 : ∀ (i : Nat) (v : Int), sizes[i]? = some v → w.cell? ⟨a0, o0 + i, none⟩ = some (.int .i64 v))
    (q1 : ∀ (i : Nat) (v : Int), links[i]? = some v → w.cell? ⟨a1, o1 + i, none⟩ = some (.int .i64 v))
    (q2 : ∀ (i : Nat) (v : Int), l[i]? = some v → w.cell? ⟨a2, o2 + i, none⟩ = some (.int .i64 v)) :
    Calls Try.prog 3 #[.slice oa0 sizes.length c0, .slice oa1 links.length c1, .slice oa2 l.length c2] w fun e w' => e = .returned (.bool true) ∧ Below w.heap.size w w' := by
  by_cases h : sizes.length = 0 ∨ 30 < sizes.length ∨ 90 < links.length ∨ 12 < l.length
  · exact ChTn.law_out sizes links l oa0 oa1 oa2 c0 c1 c2 w h
  have hb : ∀ {zs : List Int} {b o : Nat}, (∀ (i : Nat) (v : Int), zs[i]? = some v → w.cell? ⟨b, o + i, none⟩ = some (.int .i64 v)) → 0 < zs.length → b < w.heap.size := fun {zs b o} hq hp => by
    exact World.block_lt_of_cell? w _ (hq 0 _ (List.getElem?_eq_getElem hp))
  have hb0 := hb q0 (by omega)
  have key : ∀ (zs : List Int) (oa : Option Addr) (b o : Nat), (0 < zs.length → oa = some ⟨b, o, none⟩) → (∀ (i : Nat) (v : Int), zs[i]? = some v → w.cell? ⟨b, o + i, none⟩ = some (.int .i64 v)) →
      ∃ b' o', (0 < zs.length → oa = some ⟨b', o', none⟩) ∧ b' < w.heap.size ∧ ∀ (i : Nat) (v : Int), zs[i]? = some v → w.cell? ⟨b', o' + i, none⟩ = some (.int .i64 v) := fun zs oa b o hk hq => by
    by_cases hz : 0 < zs.length
    · exact ⟨b, o, hk, hb hq hz, hq⟩
    · exact ⟨a0, o0, fun h => absurd h hz, hb0, fun i v hi => absurd (List.getElem?_eq_some_iff.1 hi).1 (by omega)⟩
  obtain ⟨b1, p1, m1, n1, r1⟩ := key links oa1 a1 o1 k1 q1
  obtain ⟨b2, p2, m2, n2, r2⟩ := key l oa2 a2 o2 k2 q2
  exact ChTn.law_in sizes links l oa0 oa1 oa2 c0 c1 c2 w (by omega) (by omega) (by omega) (by omega) a0 o0 b1 p1 b2 p2 (k0 (by omega)) m1 m2 hb0 n1 n2 q0 r1 r2

set_option maxRecDepth 100000 in
set_option maxHeartbeats 2000000 in
theorem lifted (os : Os) (started : os.Started) (H : Type) (enc : TypeId × Value → H) :
    ReturnsInHanded {} Try.checked os 3 .any (Rows.heapCheneySpec.pre6 enc Try.prog Try.f3 Rows.heapCheneyRow.domain false) (Rows.heapCheneySpec.post enc Try.prog Try.f3 false true false false) := by
  refine returnsInHanded_of_change (C := Try.checked) own started (by kernel_rfl) Try.func3
    (ChangeSpec.witness6 (enc := enc) (C := Try.checked) false ⟨#[], #[.slice none 0 0, .slice none 0 0, .slice none 0 0], []⟩ 8 (by kernel_rfl) (by kernel_rfl) (by kernel_rfl) (by kernel_rfl)) ?_
  intro W base args ds gs before hval0 hW _ _
  have hval : ∀ (j : Nat) t v, Try.f3.params[j]? = some t → args[j]? = some v → Value.okWide Try.prog W .any base t v := hval0
  have hW' := hW
  have hlt := hW.lt
  obtain ⟨p, q, hA0, hV, rfl, hfz, hnd⟩ := hW
  have hA : DataW.TrodAll enc Try.prog W 0 (fun _ => true) true Try.f3.params.toList args.toList ds p := hA0
  rw [Try.params3] at hA hval
  obtain ⟨v0, v1, v2, d0, d1, d2, p0, p1, p2, rfl, rfl, rfl, h0, h1, h2⟩ := trodAll_three hA
  obtain ⟨rfl, rfl⟩ := trodVars_none hV
  obtain ⟨x0, n0, y0, rfl⟩ := okWide_slice Try.underlying22 (hval 0 22 v0 rfl rfl)
  obtain ⟨x1, n1, y1, rfl⟩ := okWide_slice Try.underlying22 (hval 1 22 v1 rfl rfl)
  obtain ⟨x2, n2, y2, rfl⟩ := okWide_slice Try.underlying22 (hval 2 22 v2 rfl rfl)
  clear hA0 hval0
  simp only [List.append_nil] at hW' hlt
  obtain ⟨u0, f0⟩ := h0
  obtain ⟨u1, f1⟩ := h1
  obtain ⟨u2, f2⟩ := h2
  obtain ⟨oa0, b0, o0, c0, z0, e0, k0, q0⟩ := open_nums f0
  obtain ⟨oa1, b1, o1, c1, z1, e1, k1, q1⟩ := open_nums f1
  obtain ⟨oa2, b2, o2, c2, z2, e2, k2, q2⟩ := open_nums f2
  injection e0 with e01 e02 e03
  injection e1 with e11 e12 e13
  injection e2 with e21 e22 e23
  subst e01 e02 e03 e11 e12 e13 e21 e22 e23
  refine (law z0 z1 z2 _ _ _ _ _ _ b0 o0 b1 o1 b2 o2 W k0 k1 k2 q0 q1 q2).mono fun e W' ⟨he, hb⟩ => ?_
  subst he
  have hsame : ∀ x ∈ p0 ++ p1 ++ p2, W.sameAt W' x := fun x hx => hb.same (hlt x hx)
  have hold : ∀ x ∈ p0 ++ p1 ++ p2, decide (x.block < W.heap.size) = true := fun x hx => decide_eq_true (hlt x hx)
  have key : ∀ {t : TypeId} {u : Nat} {cs : List Value} {x : DataW H × List MemPlace}, Try.prog.readableRec t = true → t < Try.prog.types.size → DataW.trod enc Try.prog W 0 (fun _ => true) true u t cs = some x → (∀ y ∈ x.2, y ∈ p0 ++ p1 ++ p2) → DataW.trod enc Try.prog W' 0 (fun b => decide (b < W.heap.size)) true u t cs = some x := fun hr hw hf hsub =>
    stays hr hw hf (fun x hx => hsame x (hsub x hx)) (fun x hx => hold x (hsub x hx))
  refine ⟨_, rfl, _, _, _, [], p0 ++ p1 ++ p2, [], hW', ?_, ?_, ?_, hb.frame _, fun h => by cases h⟩
  · exact trodAll_mk1 (shut_bool Try.underlying4 true)
  · rw [List.append_assoc]
    exact trodAll_mk3 ⟨u0, key recInts rowInts f0 (fun y hy => by simp only [List.mem_append]; exact Or.inl (Or.inl hy))⟩ ⟨u1, key recInts rowInts f1 (fun y hy => by simp only [List.mem_append]; exact Or.inl (Or.inr hy))⟩ ⟨u2, key recInts rowInts f2 (fun y hy => by simp only [List.mem_append]; exact Or.inr hy)⟩
  · rfl

theorem said : Rows.HeapCheneySaid :=
  OpenClaim.holds_of_wide 3 Try.f3 rfl rfl rfl rfl rfl rfl rfl ⟨rfl, rfl, rfl, rfl, rfl⟩ rfl rfl rfl rfl rfl (by kernel_rfl) Try.func3 (by kernel_rfl)
    (of_decide_eq_true (by kernel_rfl)) (by unfold Func.isWrapper; rw [if_neg (of_decide_eq_false (by kernel_rfl))]; exact ⟨rfl, rfl⟩)
    (fun os started H enc _ => lifted os started H enc)
#print axioms said
end Go.Proofs.Ythbkklnahhdgcaa.HeapCheney
