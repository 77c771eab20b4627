/-
  What is proved: whatever image of bulk at most 1048576 rewindlaw.CodeEncodes is called with, it answers true, and the image reads as before. Conditions: errors.errorType and rewindref.Fine read, when the call begins, as the program's own text lays them (the card ties that).
-/
import Derived.Test.YthbkklnahhdgcaaDoorCards
import Derived.Test.YthbkklnahhdgcaaDoorTie
import Derived.Test.YthbkklnahhdgcaaDoorDDecN
import Derived.Test.YthbkklnahhdgcaaDoorDMG
import Derived.Test.YthbkklnahhdgcaaDoorDLaidEt
import Derived.Lib.LaidU8
import Derived.ChangeSame
import Derived.ChangeVars
import Derived.JoinedOf
import Derived.RowKit
import Derived.RowKitTokens
import Derived.Stop.Joined
import Derived.SevenTiedAt
import Derived.ProofKit
import Derived.OpenShut
import Derived.Deep.DeepHandedRow
namespace Go.Proofs.YthbkklnahhdgcaaDoor.CodeEncodesCard
open Go Go.ChangeShapes Go.WideShapes Go.ChangeAt Go.RowKit

theorem own : ownKnob Tryd.prog.godebug = none := by kernel_rfl

/-- What the plain condition gives a walk. -/
theorem fine {l : List (String × DataW Unit)} {W : World} (h : laidMet Tryd.prog l W) (hm : ("rewind/rewindref.Fine", Rows.laid_rewind_rewindref_Fine) ∈ l) :
    W.cell? ⟨0, 0, none⟩ = some (.int .i64 0) ∧ W.cell? ⟨0, 1, none⟩ = some (.int .i64 (-1)) := by
  obtain ⟨g, t, cs, fuel, p, h1, h2, h3, h4⟩ := Go.Lib.laidMet.reads h hm
  have hg : Tryd.prog.globalNamed "rewind/rewindref.Fine" = some 0 := by kernel_rfl
  obtain rfl := Option.some.inj (hg.symm.trans h1)
  obtain rfl : 48 = t := Option.some.inj ((show (Tryd.prog.globals[0]?).map (·.type) = some 48 by kernel_rfl).symm.trans h2)
  have hi : cs.toList = ([0, -1] : List Int).map fun z => Value.int .i64 z := Go.Lib.ints_of_struct (zs := [0, -1]) Tryd.underlying48 (by
    intro i f hf
    match i, hf with
    | 0, hf => cases hf; exact ⟨Tryd.underlying35, rfl, by kernel_rfl⟩
    | 1, hf => cases hf; exact ⟨Tryd.underlying3, rfl, by kernel_rfl⟩) (by kernel_rfl) h4
  obtain ⟨l⟩ := cs
  simp only [List.map_cons, List.map_nil] at hi
  subst hi
  have c0 := World.var?_cell hg h3 0
  have c1 := World.var?_cell hg h3 1
  exact ⟨by simpa using c0, by simpa using c1⟩

set_option maxRecDepth 100000 in
theorem contract (H : Type) (enc : TypeId × Value → H) (W : World) (base : Nat) (args : Array Value) (ds gs : List (DataW H)) (before : List MemPlace)
    (hval : ∀ (j : Nat) t v, Tryd.f6.params[j]? = some t → args[j]? = some v → Value.okWide Tryd.prog W .any base t v)
    (hW : DataW.Whole enc Tryd.prog Tryd.f6.params.toList Rows.codeEncodesSpec.vars false W args.toList ds gs before)
    (hz : (DataW.weightsEach Tryd.prog (Tryd.f6.params.toList ++ Rows.codeEncodesSpec.plain.varTypes Tryd.prog) (ds ++ gs)).all (· ≤ reachBytes) = true) (hL : laidMetH Tryd.prog Rows.codeEncodesUptoRow.laid W) (hk : Rows.uptoSmall H (ds ++ gs) = true) :
    Calls Tryd.prog 6 args W fun e W' => ∃ v, e = .returned v ∧ Rows.codeEncodesSpec.post enc Tryd.prog Tryd.f6 false true false false W args v W' := by
  have hW' := hW
  have hlt := hW.lt
  obtain ⟨p, q, hA0, hV, rfl, hfz, hnd⟩ := hW
  have hA : DataW.TrodAll enc Tryd.prog W 0 (fun _ => true) true Tryd.f6.params.toList args.toList ds p := hA0
  rw [Tryd.params6] at hA hval hz
  obtain ⟨v0, d0, rfl, rfl, h0⟩ := trodAll_one hA
  obtain ⟨rfl, rfl⟩ := trodVars_none hV
  obtain ⟨cs, rfl, hsz⟩ := okWide_struct Tryd.underlying42 (hval 0 42 v0 rfl rfl)
  clear hA0
  simp only [List.append_nil] at hW' hlt
  obtain ⟨fuel, hf⟩ := h0
  have hwt : ∀ k ∈ d0.weights Tryd.prog 42, k ≤ reachBytes := fun k hk => by
    have := List.all_eq_true.1 hz k (DataW.weights_mem_each (j := 0) (t := 42) (d := d0) rfl rfl k hk)
    simpa using this
  have hbk : Rows.uptoBulk d0 ≤ 1048576 := by
    have h1 : Rows.uptoBulkAll ([d0] ++ []) ≤ 1048576 := of_decide_eq_true hk
    simp only [List.append_nil, Rows.uptoBulkAll] at h1
    omega
  obtain ⟨m, hm, hokb, hin⟩ := CodeOb.open_image fuel _ _ hf ⟨hwt, hbk⟩
  have hok := CodeOb.wide hokb
  obtain ⟨l⟩ := cs
  obtain rfl : l = m.vals := hm
  have hL2 : laidMet Tryd.prog [("rewind/rewindref.Fine", Rows.laid_rewind_rewindref_Fine)] W ∧ handlesMet Tryd.prog [("errors.errorType", Rows.laid_errors_errorType)] W := hL
  have hg : ErrC.EtIs W := LaidEt.handle hL2.2 (List.mem_singleton.2 rfl)
  obtain ⟨hf0, hf1⟩ := fine hL2.1 (List.mem_singleton.2 rfl)
  refine (DecN.law m W hin hok hg hf0 hf1 (fun hF _ => DecO.body20 hokb hF)).mono fun e W' ⟨he, hb⟩ => ?_
  subst he
  refine ⟨_, rfl, _, _, _, [], p, [], hW', ?_, ?_, ?_, hb.frame _, fun h => by cases h⟩
  · exact trodAll_mk1 (shut_bool Tryd.underlying4 true)
  · refine trodAll_mk1 ⟨fuel, ?_⟩
    exact CodeO.stays CodeO.recImage CodeO.rowImage hf (fun x hx => hb.same (hlt x hx)) (fun x hx => decide_eq_true (hlt x hx))
  · rfl

/-- A world that meets the conditions: the settled one, the variables' cells laid. -/
noncomputable def laidWorld (os : Os) : World :=
  { World.holding Tryd.prog os ⟨#[], #[], []⟩ with heap := (((World.holding Tryd.prog os ⟨#[], #[], []⟩).heap.modify 1 (fun
      | .cells _ t frozen => .cells #[.iface 256 (.agg #[.pointer (some ⟨5, 24, none⟩)])] t frozen
      | o => o)).modify 0 (fun
      | .cells _ t frozen => .cells #[.int .i64 0, .int .i64 (-1)] t frozen
      | o => o)) }
theorem laid_met (os : Os) (args : Array Value) : laidMetH Tryd.prog Rows.codeEncodesUptoRow.laid ((laidWorld os).forCall (fun _ _ => 0) ⟨#[], args, []⟩).memory :=
  laidMetH_of_parts (laidMet_of_run' 8 (by kernel_rfl) (by kernel_rfl)) (by kernel_rfl)

theorem reads (os : Os) {H : Type} (enc : TypeId × Value → H) : ∃ places, DataW.whole enc Tryd.prog ((laidWorld os).forCall (fun _ _ => 0) ⟨#[], #[.agg #[.slice none 0 0, .slice none 0 0, .slice none 0 0]], []⟩).memory Tryd.f6.params.toList Rows.codeEncodesSpec.vars false #[Value.agg #[.slice none 0 0, .slice none 0 0, .slice none 0 0]].toList 8 = some ([.agg [.nil, .nil, .nil]], [], places) :=
  ⟨[], by kernel_rfl⟩

set_option maxRecDepth 100000 in
theorem lifted (os : Os) (started : os.Started) (H : Type) (enc : TypeId × Value → H) (F : Stop.Interp) :
    ReturnsInHanded {} Tryd.checked os 6 .any ((Rows.OpenSpec.upto Rows.codeEncodesSpec).preRow enc Tryd.prog Tryd.f6 Rows.codeEncodesUptoRow.domain false Rows.codeEncodesUptoRow.laid) (((Rows.OpenSpec.upto Rows.codeEncodesSpec).at F).post enc Tryd.prog Tryd.f6 false true false false) := by
  obtain ⟨places, hx⟩ := reads os enc
  refine returnsInHanded_of_row (C := Tryd.checked) (s := Rows.OpenSpec.upto Rows.codeEncodesSpec) own started (by kernel_rfl) Tryd.func6
    (witness_row_at (enc := enc) (C := Tryd.checked) false (laidWorld os) #[.agg #[.slice none 0 0, .slice none 0 0, .slice none 0 0]] rfl (by kernel_rfl) (by kernel_rfl) (by kernel_rfl)
      (OpenSpec.preRow_of_cond 8 hx (by kernel_rfl) (fun k hk => by cases hk; kernel_rfl) (by kernel_rfl) (laid_met os _))) ?_
  intro W base args ds gs before hval hW _ hcond hz hL _ _
  exact contract H enc W base args ds gs before hval hW hz hL (hcond _ rfl)

theorem said : Rows.CodeEncodesUptoSaid :=
  OpenClaim.holds_of_cond 6 Tryd.f6 rfl rfl rfl rfl rfl rfl rfl ⟨rfl, rfl, rfl, rfl, rfl⟩ rfl rfl rfl rfl rfl (by kernel_rfl) Tryd.func6 (by kernel_rfl)
    (of_decide_eq_true (by kernel_rfl)) (by unfold Func.isWrapper; rw [if_neg (of_decide_eq_false (by kernel_rfl))]; exact ⟨rfl, rfl⟩)
    (fun os started H enc _ F => by rw [OpenClaim.pre_eq_preRow]; exact lifted os started H enc F)

theorem plain (f : FuncId) (fn : Func) (hf : Tryd.pinned.checked.prog.funcNamed "rewind/rewindlaw.CodeEncodes" = some f) (hfn : Tryd.pinned.checked.prog.funcs[f]? = some fn) :
    true = Tryd.pinned.checked.prog.looks [] ∧ ∀ (j : Nat) t, fn.params[j]? = some t → Tryd.pinned.checked.prog.wantsStandIn t = false := by
  obtain rfl : f = 6 := Option.some.inj ((show Tryd.prog.funcNamed "rewind/rewindlaw.CodeEncodes" = some 6 by kernel_rfl).symm.trans hf) |>.symm
  obtain rfl : fn = Tryd.f6 := (Option.some.inj (Tryd.func6.symm.trans hfn)).symm
  refine ⟨by kernel_rfl, fun j t ht => ?_⟩
  rw [Tryd.params6] at ht
  have h := Array.mem_of_getElem? ht
  have h3 : t = 42 := by simpa using h
  subst h3
  exact (show Tryd.prog.wantsStandIn 42 = false by kernel_rfl)

theorem card : Rows.CodeEncodesUptoCardSaid :=
  Claim7.holds_tied_plain_at .later [] _ _ _ _ said (fun _ h => by cases h) (by kernel_rfl) (fun _ h => by cases h) codeEncodesUpto_row_tie rfl ⟨rfl, rfl⟩ (by kernel_rfl) rfl plain (by kernel_rfl)
#print axioms card
end Go.Proofs.YthbkklnahhdgcaaDoor.CodeEncodesCard
