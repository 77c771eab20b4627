/-
  What is proved: whatever image rewindlaw.CodeChecks is called with, it answers true, and the image reads as before. Conditions: errors.errorType and rewindref.Fine read, when the call begins, as the program's own text lays them (the card ties that).
-/
import Derived.Test.YthbkklnahhdgcaaDoorCards
import Derived.Test.YthbkklnahhdgcaaDoorTie
import Derived.Test.YthbkklnahhdgcaaDoorCodeY
import Derived.Test.YthbkklnahhdgcaaDoorLaidEt
import Derived.Lib.LaidU8
import Derived.ChangeSame
import Derived.ChangeVars
import Derived.JoinedOf
import Derived.RowKit
import Derived.RowKitTokens
import Derived.Stop.Joined
import Derived.SevenTiedAt
import Derived.ProofKit
import Derived.OpenShut
namespace Go.Proofs.YthbkklnahhdgcaaDoor.CodeChecksCard
open Go Go.ChangeShapes Go.WideShapes Go.ChangeAt Go.RowKit

theorem own : ownKnob Tryd.prog.godebug = none := by kernel_rfl

/-- What the plain condition gives a walk. -/
theorem fine {l : List (String × DataW Unit)} {W : World} (h : laidMet Tryd.prog l W) (hm : ("rewind/rewindref.Fine", Rows.laid_rewind_rewindref_Fine) ∈ l) :
    W.cell? ⟨0, 0, none⟩ = some (.int .i64 0) ∧ W.cell? ⟨0, 1, none⟩ = some (.int .i64 (-1)) := by
  obtain ⟨g, t, cs, fuel, p, h1, h2, h3, h4⟩ := Go.Lib.laidMet.reads h hm
  have hg : Tryd.prog.globalNamed "rewind/rewindref.Fine" = some 0 := by kernel_rfl
  obtain rfl := Option.some.inj (hg.symm.trans h1)
  obtain rfl : 48 = t := Option.some.inj ((show (Tryd.prog.globals[0]?).map (·.type) = some 48 by kernel_rfl).symm.trans h2)
  have hi : cs.toList = ([0, -1] : List Int).map fun z => Value.int .i64 z := Go.Lib.ints_of_struct (zs := [0, -1]) Tryd.underlying48 (by
    intro i f hf
    match i, hf with
    | 0, hf => cases hf; exact ⟨Tryd.underlying35, rfl, by kernel_rfl⟩
    | 1, hf => cases hf; exact ⟨Tryd.underlying3, rfl, by kernel_rfl⟩) (by kernel_rfl) h4
  obtain ⟨l⟩ := cs
  simp only [List.map_cons, List.map_nil] at hi
  subst hi
  have c0 := World.var?_cell hg h3 0
  have c1 := World.var?_cell hg h3 1
  exact ⟨by simpa using c0, by simpa using c1⟩

set_option maxRecDepth 100000 in
theorem contract (H : Type) (enc : TypeId × Value → H) (W : World) (base : Nat) (args : Array Value) (ds gs : List (DataW H)) (before : List MemPlace)
    (hval : ∀ (j : Nat) t v, Tryd.f4.params[j]? = some t → args[j]? = some v → Value.okWide Tryd.prog W .any base t v)
    (hW : DataW.Whole enc Tryd.prog Tryd.f4.params.toList Rows.codeChecksSpec.vars false W args.toList ds gs before)
    (hz : (DataW.weightsEach Tryd.prog (Tryd.f4.params.toList ++ Rows.codeChecksSpec.plain.varTypes Tryd.prog) (ds ++ gs)).all (· ≤ reachBytes) = true) (hL : laidMetH Tryd.prog Rows.codeChecksRow.laid W) :
    Calls Tryd.prog 4 args W fun e W' => ∃ v, e = .returned v ∧ Rows.codeChecksSpec.post enc Tryd.prog Tryd.f4 false true false false W args v W' := by
  have hW' := hW
  have hlt := hW.lt
  obtain ⟨p, q, hA0, hV, rfl, hfz, hnd⟩ := hW
  have hA : DataW.TrodAll enc Tryd.prog W 0 (fun _ => true) true Tryd.f4.params.toList args.toList ds p := hA0
  rw [Tryd.params4] at hA hval hz
  obtain ⟨v0, d0, rfl, rfl, h0⟩ := trodAll_one hA
  obtain ⟨rfl, rfl⟩ := trodVars_none hV
  obtain ⟨cs, rfl, hsz⟩ := okWide_struct Tryd.underlying42 (hval 0 42 v0 rfl rfl)
  clear hA0
  simp only [List.append_nil] at hW' hlt
  obtain ⟨fuel, hf⟩ := h0
  have hwt : ∀ k ∈ d0.weights Tryd.prog 42, k ≤ reachBytes := fun k hk => by
    have := List.all_eq_true.1 hz k (DataW.weights_mem_each (j := 0) (t := 42) (d := d0) rfl rfl k hk)
    simpa using this
  obtain ⟨m, hm, hok, hin⟩ := CodeO.open_image fuel _ _ hf hwt
  obtain ⟨l⟩ := cs
  obtain rfl : l = m.vals := hm
  have hL2 : laidMet Tryd.prog [("rewind/rewindref.Fine", Rows.laid_rewind_rewindref_Fine)] W ∧ handlesMet Tryd.prog [("errors.errorType", Rows.laid_errors_errorType)] W := hL
  have hg : ErrC.EtIs W := LaidEt.handle hL2.2 (List.mem_singleton.2 rfl)
  obtain ⟨hf0, hf1⟩ := fine hL2.1 (List.mem_singleton.2 rfl)
  refine (CodeY.law m W hin hok hg hf0 hf1).mono fun e W' ⟨he, hb⟩ => ?_
  subst he
  refine ⟨_, rfl, _, _, _, [], p, [], hW', ?_, ?_, ?_, hb.frame _, fun h => by cases h⟩
  · exact trodAll_mk1 (shut_bool Tryd.underlying4 true)
  · refine trodAll_mk1 ⟨fuel, ?_⟩
    exact CodeO.stays CodeO.recImage CodeO.rowImage hf (fun x hx => hb.same (hlt x hx)) (fun x hx => decide_eq_true (hlt x hx))
  · rfl

/-- A world that meets the conditions: the settled one, the variables' cells laid. -/
noncomputable def laidWorld (os : Os) : World :=
  { World.holding Tryd.prog os ⟨#[], #[], []⟩ with heap := (((World.holding Tryd.prog os ⟨#[], #[], []⟩).heap.modify 1 (fun
      | .cells _ t frozen => .cells #[.iface 256 (.agg #[.pointer (some ⟨5, 24, none⟩)])] t frozen
      | o => o)).modify 0 (fun
      | .cells _ t frozen => .cells #[.int .i64 0, .int .i64 (-1)] t frozen
      | o => o)) }
theorem laid_met (os : Os) (args : Array Value) : laidMetH Tryd.prog Rows.codeChecksRow.laid ((laidWorld os).forCall (fun _ _ => 0) ⟨#[], args, []⟩).memory :=
  laidMetH_of_parts (laidMet_of_run' 8 (by kernel_rfl) (by kernel_rfl)) (by kernel_rfl)

set_option maxRecDepth 100000 in
theorem lifted (os : Os) (started : os.Started) (H : Type) (enc : TypeId × Value → H) :
    ReturnsInHanded {} Tryd.checked os 4 .any (fun w args => (Rows.codeChecksSpec.pre enc Tryd.prog Tryd.f4 [] false w args ∧ laidMetH Tryd.prog Rows.codeChecksRow.laid w) ∧ sizedMet enc Tryd.prog Tryd.f4 (OpenSpec.ofChange Rows.codeChecksSpec) false w args)
      (Rows.codeChecksSpec.post enc Tryd.prog Tryd.f4 false true false false) := by
  refine returnsInHanded_of_change_and (C := Tryd.checked) (X := fun w _ => laidMetH Tryd.prog Rows.codeChecksRow.laid w) (fun _ _ _ hh h => h.of_heap hh) own started (by kernel_rfl) Tryd.func4
    (ChangeSpec.witness_at (enc := enc) (C := Tryd.checked) (os := os) (X := fun w _ => laidMetH Tryd.prog Rows.codeChecksRow.laid w) false (laidWorld os) #[.agg #[.slice none 0 0, .slice none 0 0, .slice none 0 0]] 8 rfl (by kernel_rfl) (by kernel_rfl) (by kernel_rfl) (by kernel_rfl) (by kernel_rfl) (laid_met os _)) ?_
  intro W base args ds gs before hval0 hW _ hz hL _
  exact contract H enc W base args ds gs before hval0 hW hz hL

theorem said : Rows.CodeChecksSaid :=
  OpenClaim.holds_of_wide 4 Tryd.f4 rfl rfl rfl rfl rfl rfl rfl ⟨rfl, rfl, rfl, rfl, rfl⟩ rfl rfl rfl rfl rfl (by kernel_rfl) Tryd.func4 (by kernel_rfl)
    (of_decide_eq_true (by kernel_rfl)) (by unfold Func.isWrapper; rw [if_neg (of_decide_eq_false (by kernel_rfl))]; exact ⟨rfl, rfl⟩)
    (fun os started H enc _ => lifted os started H enc)

theorem plain (f : FuncId) (fn : Func) (hf : Tryd.pinned.checked.prog.funcNamed "rewind/rewindlaw.CodeChecks" = some f) (hfn : Tryd.pinned.checked.prog.funcs[f]? = some fn) :
    true = Tryd.pinned.checked.prog.looks [] ∧ ∀ (j : Nat) t, fn.params[j]? = some t → Tryd.pinned.checked.prog.wantsStandIn t = false := by
  obtain rfl : f = 4 := Option.some.inj ((show Tryd.prog.funcNamed "rewind/rewindlaw.CodeChecks" = some 4 by kernel_rfl).symm.trans hf) |>.symm
  obtain rfl : fn = Tryd.f4 := (Option.some.inj (Tryd.func4.symm.trans hfn)).symm
  refine ⟨by kernel_rfl, fun j t ht => ?_⟩
  rw [Tryd.params4] at ht
  have h := Array.mem_of_getElem? ht
  have h3 : t = 42 := by simpa using h
  subst h3
  exact (show Tryd.prog.wantsStandIn 42 = false by kernel_rfl)

theorem card : Rows.CodeChecksCardSaid :=
  Claim7.holds_tied_plain_at .later [] _ _ _ _ said (fun _ h => by cases h) (by kernel_rfl) (fun _ h => by cases h) codeChecks_row_tie rfl ⟨rfl, rfl⟩ (by kernel_rfl) rfl plain (by kernel_rfl)
#print axioms card
end Go.Proofs.YthbkklnahhdgcaaDoor.CodeChecksCard
