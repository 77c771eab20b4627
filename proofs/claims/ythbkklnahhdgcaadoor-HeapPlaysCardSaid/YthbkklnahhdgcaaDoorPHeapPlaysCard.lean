/-
  What is proved: whatever nursery, old part, list of steps and copying rewindlaw.HeapPlays is called with, it answers true, and the list reads as before. Conditions: errors.errorType reads, when the call begins, as the program's own text lays it (the card ties that).
-/
import Derived.Test.YthbkklnahhdgcaaDoorCards
import Derived.Test.YthbkklnahhdgcaaDoorTie
import Derived.Test.YthbkklnahhdgcaaDoorPG00
import Derived.Test.YthbkklnahhdgcaaDoorPG27
import Derived.ChangeSame
import Derived.ChangeVars
import Derived.JoinedOf
import Derived.RowKit
import Derived.RowKitTokens
import Derived.Stop.Joined
import Derived.SevenTiedAt
import Derived.ProofKit
import Derived.OpenShut
import Derived.Carry
set_option maxRecDepth 100000
set_option maxHeartbeats 4000000
namespace Go.Proofs.YthbkklnahhdgcaaDoor.HeapPlaysCard
open Go Go.ChangeShapes Go.WideShapes Go.ChangeAt Go.RowKit

theorem own : ownKnob Tryd.prog.godebug = none := by kernel_rfl
theorem recInt : Tryd.prog.readableRec 3 = true := by kernel_rfl
theorem rowInt : (3 : TypeId) < Tryd.prog.types.size := of_decide_eq_true (by kernel_rfl)
theorem recBool : Tryd.prog.readableRec 4 = true := by kernel_rfl
theorem rowBool : (4 : TypeId) < Tryd.prog.types.size := of_decide_eq_true (by kernel_rfl)
theorem recSteps : Tryd.prog.readableRec 74 = true := by kernel_rfl
theorem rowSteps : (74 : TypeId) < Tryd.prog.types.size := of_decide_eq_true (by kernel_rfl)
section
variable {H : Type} {enc : TypeId × Value → H} {P : Program} {w : World} {base : Nat} {spare : Nat → Bool} {held : Bool}
theorem uint_field {t : TypeId} (ht : P.underlying t = some (.int .u64)) {n : Nat} {v : Value} {y : DataW H × List MemPlace} (h : DataW.trod enc P w base spare held n t [v] = some y) : ∃ k, v = .int .u64 k := by
  obtain ⟨k, e, _, _⟩ := DataW.trod_int ht h
  simp only [List.cons.injEq, and_true] at e
  exact ⟨k, e⟩
theorem open_step (n : Nat) (cs : List Value) (y : DataW H × List MemPlace) (h : DataW.trod enc Tryd.prog w 0 (fun _ => true) true n 84 cs = some y) (_ : ∀ k ∈ y.1.weights Tryd.prog 84, k ≤ reachBytes) : ∃ a : PlTc.St, cs = a.vals ∧ True := by
  obtain ⟨hl, n, hf⟩ := RowO.open_fields Tryd.underlying84 (by kernel_rfl) (by kernel_rfl) h
  obtain ⟨v0, y0, e0, t0, _⟩ := hf 0 _ rfl
  obtain ⟨v1, y1, e1, t1, _⟩ := hf 1 _ rfl
  obtain ⟨v2, y2, e2, t2, _⟩ := hf 2 _ rfl
  obtain ⟨v3, y3, e3, t3, _⟩ := hf 3 _ rfl
  obtain ⟨v4, y4, e4, t4, _⟩ := hf 4 _ rfl
  obtain ⟨k0, rfl, _⟩ := RowO.int_field Tryd.underlying3 t0
  obtain ⟨k1, rfl, _⟩ := RowO.int_field Tryd.underlying3 t1
  obtain ⟨k2, rfl, _⟩ := RowO.int_field Tryd.underlying3 t2
  obtain ⟨k3, rfl, _⟩ := RowO.int_field Tryd.underlying3 t3
  obtain ⟨k4, rfl⟩ := uint_field Tryd.underlying53 t4
  match cs, hl with
  | [c0, c1, c2, c3, c4], _ =>
    simp only [List.getElem?_cons_zero, List.getElem?_cons_succ, Option.some.injEq] at e0 e1 e2 e3 e4
    subst e0 e1 e2 e3 e4
    exact ⟨⟨k0, k1, k2, k3, k4⟩, rfl, trivial⟩
end

theorem contract (H : Type) (enc : TypeId × Value → H) (W : World) (base : Nat) (args : Array Value) (ds gs : List (DataW H)) (before : List MemPlace)
    (hval : ∀ (j : Nat) t v, Tryd.f8.params[j]? = some t → args[j]? = some v → Value.okWide Tryd.prog W .any base t v)
    (hW : DataW.Whole enc Tryd.prog Tryd.f8.params.toList Rows.heapPlaysSpec.vars false W args.toList ds gs before)
    (hz : (DataW.weightsEach Tryd.prog (Tryd.f8.params.toList ++ Rows.heapPlaysSpec.plain.varTypes Tryd.prog) (ds ++ gs)).all (· ≤ reachBytes) = true) (hL : laidMetH Tryd.prog Rows.heapPlaysRow.laid W) :
    Calls Tryd.prog 8 args W fun e W' => ∃ v, e = .returned v ∧ Rows.heapPlaysSpec.post enc Tryd.prog Tryd.f8 false true false false W args v W' := by
  have hW' := hW
  have hlt := hW.lt
  obtain ⟨p, q, hA0, hV, rfl, hfz, hnd⟩ := hW
  have hA : DataW.TrodAll enc Tryd.prog W 0 (fun _ => true) true Tryd.f8.params.toList args.toList ds p := hA0
  rw [Tryd.params8] at hA hval hz
  obtain ⟨v0, v1, v2, v3, d0, d1, d2, d3, p0, p1, p2, p3, rfl, rfl, rfl, h0, h1, h2, h3⟩ := trodAll_four hA
  obtain ⟨rfl, rfl⟩ := trodVars_none hV
  obtain ⟨nursery, rfl⟩ := okWide_int Tryd.underlying3 (hval 0 3 v0 rfl rfl)
  obtain ⟨old, rfl⟩ := okWide_int Tryd.underlying3 (hval 1 3 v1 rfl rfl)
  obtain ⟨a2, n2, c2, rfl⟩ := okWide_slice Tryd.underlying74 (hval 2 74 v2 rfl rfl)
  obtain ⟨copies, rfl⟩ := okWide_bool Tryd.underlying4 (hval 3 4 v3 rfl rfl)
  clear hA0
  simp only [List.append_nil] at hW' hlt
  obtain ⟨u0, f0⟩ := h0
  obtain ⟨u1, f1⟩ := h1
  obtain ⟨u2, f2⟩ := h2
  obtain ⟨u3, f3⟩ := h3
  have hz' : ∀ (j : Nat) t d, ([3, 3, 74, 4] : List TypeId)[j]? = some t → ([d0, d1, d2, d3] : List (DataW H))[j]? = some d → ∀ k ∈ d.weights Tryd.prog t, k ≤ reachBytes := fun j t d ht hd k hk => by
    have := List.all_eq_true.1 hz k (DataW.weights_mem_each (j := j) (t := t) (d := d) ht hd k hk)
    simpa using this
  obtain ⟨S, li, hSv, hS, _, _⟩ := RowO.open_rows PlTc.St.vals (fun _ => True) Tryd.underlying74 (sz := 5) (by kernel_rfl) (by decide) (by rw [show Tryd.prog.bytesOf 84 = 40 by kernel_rfl]; decide) f2 (hz' 2 _ _ rfl rfl) open_step
  have hSn : S.n = li.length := by have := hS.len; rwa [List.length_map] at this
  unfold RowO.Sl.val at hSv
  obtain ⟨rfl, rfl, rfl⟩ : a2 = S.oa ∧ n2 = S.n ∧ c2 = S.c := by injection hSv with h1 h2 h3; exact ⟨h1, h2, h3⟩
  have hg : ErrC.EtIs W := LaidEt.handle (l := [("errors.errorType", Rows.laid_errors_errorType)]) (show laidMet Tryd.prog [] W ∧ handlesMet Tryd.prog [("errors.errorType", Rows.laid_errors_errorType)] W from hL).2 (List.mem_singleton.2 rfl)
  have hlaw := PlTe.law (w := W) nursery old S.oa S.n S.c S.b S.o copies li hSn hS.addr (fun i s hs => hS.row i s.vals (by rw [List.getElem?_map, hs]; rfl)) hg
  refine hlaw.mono fun e W' ⟨he, hb⟩ => ?_
  subst he
  have hsame : ∀ x ∈ p0 ++ p1 ++ p2 ++ p3, W.sameAt W' x := fun x hx => hb.same (hlt x hx)
  have hold : ∀ x ∈ p0 ++ p1 ++ p2 ++ p3, decide (x.block < W.heap.size) = true := fun x hx => decide_eq_true (hlt x hx)
  refine ⟨_, rfl, _, _, _, [], p0 ++ p1 ++ p2 ++ p3, [], hW', ?_, ?_, ?_, hb.frame _, fun h => by cases h⟩
  · exact trodAll_mk1 (shut_bool Tryd.underlying4 true)
  · have key : ∀ {t : TypeId} {u : Nat} {cs : List Value} {x : DataW H × List MemPlace}, Tryd.prog.readableRec t = true → t < Tryd.prog.types.size → DataW.trod enc Tryd.prog W 0 (fun _ => true) true u t cs = some x → (∀ y ∈ x.2, y ∈ p0 ++ p1 ++ p2 ++ p3) → DataW.trod enc Tryd.prog W' 0 (fun b => decide (b < W.heap.size)) true u t cs = some x := fun {t u cs x} hr hw hf hsub =>
      RowO.stays hr hw hf (fun x hx => hsame x (hsub x hx)) (fun x hx => hold x (hsub x hx))
    have hall := trodAll_mk4 (P := Tryd.prog) (t := 3) (t' := 3) (t'' := 74) (t3 := 4) ⟨u0, key recInt rowInt f0 (fun y hy => by simp only [List.mem_append]; exact Or.inl (Or.inl (Or.inl hy)))⟩ ⟨u1, key recInt rowInt f1 (fun y hy => by simp only [List.mem_append]; exact Or.inl (Or.inl (Or.inr hy)))⟩
      ⟨u2, key recSteps rowSteps f2 (fun y hy => by simp only [List.mem_append]; exact Or.inl (Or.inr hy))⟩ ⟨u3, key recBool rowBool f3 (fun y hy => by simp only [List.mem_append]; exact Or.inr hy)⟩
    rw [← List.append_assoc, ← List.append_assoc] at hall
    exact hall
  · rfl

/-- A world that meets the condition: the settled one, the variable's cell laid. -/
noncomputable def laidWorld (os : Os) : World :=
  { World.holding Tryd.prog os ⟨#[], #[], []⟩ with heap := (World.holding Tryd.prog os ⟨#[], #[], []⟩).heap.modify 1 fun
      | .cells _ t frozen => .cells #[.iface 256 (.agg #[.pointer (some ⟨5, 24, none⟩)])] t frozen
      | o => o }
theorem laid_met (os : Os) (args : Array Value) : laidMetH Tryd.prog Rows.heapPlaysRow.laid ((laidWorld os).forCall (fun _ _ => 0) ⟨#[], args, []⟩).memory :=
  laidMetH_of_parts (laidMet_nil _ _) (by kernel_rfl)

theorem lifted (os : Os) (started : os.Started) (H : Type) (enc : TypeId × Value → H) :
    ReturnsInHanded {} Tryd.checked os 8 .any (fun w args => (Rows.heapPlaysSpec.pre enc Tryd.prog Tryd.f8 [] false w args ∧ laidMetH Tryd.prog Rows.heapPlaysRow.laid w) ∧ sizedMet enc Tryd.prog Tryd.f8 (OpenSpec.ofChange Rows.heapPlaysSpec) false w args)
      (Rows.heapPlaysSpec.post enc Tryd.prog Tryd.f8 false true false false) := by
  refine returnsInHanded_of_change_and (C := Tryd.checked) (X := fun w _ => laidMetH Tryd.prog Rows.heapPlaysRow.laid w) (fun _ _ _ hh h => h.of_heap hh) own started (by kernel_rfl) Tryd.func8
    (ChangeSpec.witness_at (enc := enc) (C := Tryd.checked) (os := os) (X := fun w _ => laidMetH Tryd.prog Rows.heapPlaysRow.laid w) false (laidWorld os) #[.int .i64 0, .int .i64 0, .slice none 0 0, .bool false] 8 rfl (by kernel_rfl) (by kernel_rfl) (by kernel_rfl) (by kernel_rfl) (by kernel_rfl) (laid_met os _)) ?_
  intro W base args ds gs before hval0 hW _ hz hL _
  exact contract H enc W base args ds gs before hval0 hW hz hL

theorem said : Rows.HeapPlaysSaid :=
  OpenClaim.holds_of_wide 8 Tryd.f8 rfl rfl rfl rfl rfl rfl rfl ⟨rfl, rfl, rfl, rfl, rfl⟩ rfl rfl rfl rfl rfl (by kernel_rfl) Tryd.func8 (by kernel_rfl)
    (of_decide_eq_true (by kernel_rfl)) (by unfold Func.isWrapper; rw [if_neg (of_decide_eq_false (by kernel_rfl))]; exact ⟨rfl, rfl⟩)
    (fun os started H enc _ => lifted os started H enc)

theorem plain (f : FuncId) (fn : Func) (hf : Tryd.pinned.checked.prog.funcNamed "rewind/rewindlaw.HeapPlays" = some f) (hfn : Tryd.pinned.checked.prog.funcs[f]? = some fn) :
    true = Tryd.pinned.checked.prog.looks [] ∧ ∀ (j : Nat) t, fn.params[j]? = some t → Tryd.pinned.checked.prog.wantsStandIn t = false := by
  obtain rfl : f = 8 := Option.some.inj ((show Tryd.prog.funcNamed "rewind/rewindlaw.HeapPlays" = some 8 by kernel_rfl).symm.trans hf) |>.symm
  obtain rfl : fn = Tryd.f8 := (Option.some.inj (Tryd.func8.symm.trans hfn)).symm
  refine ⟨by kernel_rfl, fun j t ht => ?_⟩
  rw [Tryd.params8] at ht
  have h := Array.mem_of_getElem? ht
  have h3 : t = 3 ∨ t = 3 ∨ t = 74 ∨ t = 4 := by simpa using h
  rcases h3 with rfl | rfl | rfl | rfl
  · exact (show Tryd.prog.wantsStandIn 3 = false by kernel_rfl)
  · exact (show Tryd.prog.wantsStandIn 3 = false by kernel_rfl)
  · exact (show Tryd.prog.wantsStandIn 74 = false by kernel_rfl)
  · exact (show Tryd.prog.wantsStandIn 4 = false by kernel_rfl)

theorem card : Rows.HeapPlaysCardSaid :=
  Claim7.holds_tied_plain_at .later [] _ _ _ _ said (fun _ h => by cases h) (by kernel_rfl) (fun _ h => by cases h) heapPlays_row_tie rfl ⟨rfl, rfl⟩ (by kernel_rfl) rfl plain (by kernel_rfl)
#print axioms card
end Go.Proofs.YthbkklnahhdgcaaDoor.HeapPlaysCard
